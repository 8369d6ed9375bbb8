/-
  Every Check, Wait and Fire does what the document says to a descriptor: the law PollWaits returns true for every input.
  No conditions.
-/
import Derived.Test.YtbglmhcpfjmadaaRows
import Derived.ProofKit
import Derived.OpenShut
import Derived.Test.YtbglmhcpfjmadaapollW
import Derived.Test.YtbglmhcpfjmadaapollP
set_option linter.unusedSimpArgs false
set_option linter.unusedVariables false
namespace Go.Proofs.Ytbglmhcpfjmadaa.pollWaits
open Go.ChangeShapes Go.WideShapes Go.ChangeAt Go.RowKit Go Go.Sx
theorem own : ownKnob Try.prog.godebug = none := by kernel_rfl
abbrev TDesc : Ty := .pair .bool (.pair (.arr 2 .bool) (.pair (.arr 2 (.int .i64)) (.pair (.arr 2 (.int .i64)) .unit)))
abbrev Ts : List Ty := [TDesc, .int .i64, .int .i64, .int .i64]
theorem wf64 {x : Int} (h : (Lit.int .i64 x).wf = true) : -9223372036854775808 ≤ x ∧ x ≤ 9223372036854775807 := by
  simpa [Lit.wf, IntKind.min, IntKind.max, IntKind.signed, IntKind.bits] using h
theorem two {α : Type} {xs : List α} (h : xs.length = 2) : ∃ a b, xs = [a, b] := by
  match xs, h with
  | [a, b], _ => exact ⟨a, b, rfl⟩
theorem spec (x : Tys.den Ts) (h : Tys.ok Ts x) : SpecW Try.prog 3 (Tys.args Ts x) [] 0 (fun r _ _ => r = .v (.bool true)) := by
  obtain ⟨⟨c, rd, ts, us, u⟩, way, task, now, u2⟩ := x
  obtain ⟨⟨h1, h2, h3, h4, h5⟩, h6, h7, h8, h9⟩ := h
  obtain ⟨r0, r1, rfl⟩ := two h2.1
  obtain ⟨t0, t1, rfl⟩ := two h3.1
  obtain ⟨u0, u1, rfl⟩ := two h4.1
  obtain ⟨w1, w2⟩ := wf64 h6
  refine SpecW.mono (taskmilllaw_PollWaits_spec ⟨c, r0, r1, t0, t1, u0, u1⟩ way task now true (waits _ way task now w1 w2)) ?_
  rintro r hp n ⟨rfl, _, _⟩
  rfl
set_option maxRecDepth 100000 in
theorem lifted (os : Os) (started : os.Started) (H : Type) (enc : TypeId × Value → H) :
    ReturnsInHanded {} Try.checked os 3 .any (Rows.pollWaitsSpec.pre6 enc Try.prog Try.f3 Rows.pollWaitsRow.domain false) (Rows.pollWaitsSpec.post enc Try.prog Try.f3 false true false false) := by
  refine returnsInHanded_of_change (C := Try.checked) own started (by kernel_rfl) Try.func3
    (ChangeSpec.witness6 (enc := enc) (C := Try.checked) false ⟨#[], #[.agg #[.bool false, .bool false, .bool false, .int .i64 0, .int .i64 0, .int .i64 0, .int .i64 0], .int .i64 0, .int .i64 0, .int .i64 0], []⟩ 8 (by kernel_rfl) (by kernel_rfl) (by kernel_rfl) (by kernel_rfl)) ?_
  intro W base args ds gs before hval hW _ _
  exact law_contract Ts 12 (by kernel_rfl) rfl (fun ds h => by
    match ds, h with
    | [a, b, c, d], _ => rfl) (by kernel_rfl) (tb := 4) rfl (by kernel_rfl) W base args ds gs before hval (fun x hx _ => spec x hx) hW
theorem over : Rows.pollWaitsRow.holds Try.pinned (OpenSpec.ofChange Rows.pollWaitsSpec) :=
  OpenClaim.holds_of_wide 3 Try.f3 rfl rfl rfl rfl rfl rfl rfl ⟨rfl, rfl, rfl, rfl, rfl⟩ rfl rfl rfl rfl rfl (by kernel_rfl) Try.func3 (by kernel_rfl)
    (of_decide_eq_true (by kernel_rfl)) (by unfold Func.isWrapper; first | (rw [if_pos (by decide +kernel)]; kernel_rfl) | (rw [if_neg (by decide +kernel)]; exact ⟨rfl, rfl⟩))
    (fun os started H enc _ => lifted os started H enc)
theorem proved : Rows.PollWaitsSaid := over
end Go.Proofs.Ytbglmhcpfjmadaa.pollWaits
