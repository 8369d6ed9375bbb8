/-
  The law PollTimes returns true for every input.
  No conditions.
-/
import Derived.Test.YtbglmhcpfjmadaaRows
import Derived.ProofKit
import Derived.OpenShut
import Derived.Test.YtbglmhcpfjmadaapollW
import Derived.Test.YtbglmhcpfjmadaapollP
set_option linter.unusedSimpArgs false
set_option linter.unusedVariables false
namespace Go.Proofs.Ytbglmhcpfjmadaa.pollTimes
open Go.ChangeShapes Go.WideShapes Go.ChangeAt Go.RowKit Go Go.Sx
theorem own : ownKnob Try.prog.godebug = none := by kernel_rfl
theorem arr2_ {α : Type} {xs : List α} (h : xs.length = 2) : ∃ x0 x1, xs = [x0, x1] := by
  match xs, h with
  | [x0, x1], _ => exact ⟨x0, x1, rfl⟩
abbrev Ts : List Ty := [(.pair .bool (.pair (.arr 2 .bool) (.pair (.arr 2 (.int .i64)) (.pair (.arr 2 (.int .i64)) .unit)))), (.int .i64), (.int .i64), (.int .i64)]
theorem spec (x : Tys.den Ts) (h : Tys.ok Ts x) : SpecW Try.prog 4 (Tys.args Ts x) [] 0 (fun r _ _ => r = .v (.bool true)) := by
  have ok := h
  obtain ⟨⟨a1, r2, r5, r8, u11⟩, a12, a13, a14, u⟩ := x
  obtain ⟨a3, a4, rfl⟩ := arr2_ (xs := r2) (by have q := h; simp only [Tys.ok, Ty.ok] at q; omega)
  obtain ⟨a6, a7, rfl⟩ := arr2_ (xs := r5) (by have q := h; simp only [Tys.ok, Ty.ok] at q; omega)
  obtain ⟨a9, a10, rfl⟩ := arr2_ (xs := r8) (by have q := h; simp only [Tys.ok, Ty.ok] at q; omega)
  refine SpecW.mono (taskmilllaw_PollTimes_spec (⟨a1, a3, a4, a6, a7, a9, a10⟩ : Desc) a12 a13 a14 true (times (⟨a1, a3, a4, a6, a7, a9, a10⟩ : Desc) a12 a13 a14)) ?_
  rintro r hp n ⟨rfl, _, _⟩
  rfl
set_option maxRecDepth 100000 in
theorem lifted (os : Os) (started : os.Started) (H : Type) (enc : TypeId × Value → H) :
    ReturnsInHanded {} Try.checked os 4 .any (Rows.pollTimesSpec.pre6 enc Try.prog Try.f4 Rows.pollTimesRow.domain false) (Rows.pollTimesSpec.post enc Try.prog Try.f4 false true false false) := by
  refine returnsInHanded_of_change (C := Try.checked) own started (by kernel_rfl) Try.func4
    (ChangeSpec.witness6 (enc := enc) (C := Try.checked) false ⟨#[], #[.agg #[.bool false, .bool false, .bool false, .int .i64 0, .int .i64 0, .int .i64 0, .int .i64 0], .int .i64 0, .int .i64 0, .int .i64 0], []⟩ 8 (by kernel_rfl) (by kernel_rfl) (by kernel_rfl) (by kernel_rfl)) ?_
  intro W base args ds gs before hval hW _ _
  exact law_contract Ts 12 (by kernel_rfl) rfl (fun ds h => by
    match ds, h with
    | [d0, d1, d2, d3], _ => rfl) (by kernel_rfl) (tb := 4) rfl (by kernel_rfl) W base args ds gs before hval (fun x hx _ => spec x hx) hW
theorem over : Rows.pollTimesRow.holds Try.pinned (OpenSpec.ofChange Rows.pollTimesSpec) :=
  OpenClaim.holds_of_wide 4 Try.f4 rfl rfl rfl rfl rfl rfl rfl ⟨rfl, rfl, rfl, rfl, rfl⟩ rfl rfl rfl rfl rfl (by kernel_rfl) Try.func4 (by kernel_rfl)
    (of_decide_eq_true (by kernel_rfl)) (by unfold Func.isWrapper; first | (rw [if_pos (by decide +kernel)]; kernel_rfl) | (rw [if_neg (by decide +kernel)]; exact ⟨rfl, rfl⟩))
    (fun os started H enc _ => lifted os started H enc)
theorem proved : Rows.PollTimesSaid := over
end Go.Proofs.Ytbglmhcpfjmadaa.pollTimes
