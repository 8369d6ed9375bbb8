/-
 The law LinearOnes returns true for every input.
 No conditions.
-/
import Derived.Test.YtopomedppninoaaRows
import Derived.ProofKit
import Derived.OpenShut
import Derived.Test.YtopomedppninoaalinearWLinearOnes3
import Derived.Test.YtopomedppninoaalinearBLinearOnes1
set_option linter.unusedSimpArgs false
set_option linter.unusedVariables false
namespace Go.Proofs.Ytopomedppninoaa.linearOnes
open Go.ChangeShapes Go.WideShapes Go.ChangeAt Go.RowKit Go Go.Sx
theorem own : ownKnob Try.prog.godebug = none := by kernel_rfl
abbrev TGCall : Ty := (.pair (.int .i64) (.pair (.int .i64) (.pair (.int .i64) (.pair (.int .i64) (.pair (.int .i64) (.pair (.int .i64) (.pair .bool .unit)))))))
def cvGCall (x : TGCall.den) : GCall := GCall.mk x.1 x.2.1 x.2.2.1 x.2.2.2.1 x.2.2.2.2.1 x.2.2.2.2.2.1 x.2.2.2.2.2.2.1
theorem sl_conv {α : Type} [Enc α] {e : Ty} (cv : e.den → α) (h : ∀ x, e.sv x = Enc.cells (cv x)) (xs : List e.den) : fl (xs.map cv) = xs.flatMap e.sv := by
 simp only [fl, List.flatMap_map]
 congr 1
 funext x
 exact (h x).symm
theorem cvGCall_cells (x : TGCall.den) : TGCall.sv x = Enc.cells (cvGCall x) := by
 obtain ⟨x0, x1, x2, x3, x4, x5, x6, u⟩ := x
 rfl
abbrev Ts : List Ty := [(.int .i64), (.sl (.pair (.int .i64) (.pair (.int .i64) (.pair (.int .i64) (.pair (.int .i64) (.pair (.int .i64) (.pair (.int .i64) (.pair .bool .unit))))))))]
theorem spec (x : Tys.den Ts) (h : Tys.ok Ts x) : SpecW Try.prog 4 (Tys.args Ts x) [] 0 (fun r _ _ => r = .v (.bool true)) := by
 have ok := h
 obtain ⟨a1, l2, u⟩ := x
 have hA : ∀ c ∈ l2.map cvGCall, -9223372036854775808 ≤ c.Arg ∧ c.Arg ≤ 9223372036854775807 := by
  intro c hc
  obtain ⟨x, hx, rfl⟩ := List.mem_map.1 hc
  simp only [Tys.ok, Ty.ok] at ok
  have hy := ok.2.1.2 x hx
  exact wf64 hy.2.2.2.1
 have S := taskmilllaw_LinearOnes_spec a1 (l2.map cvGCall) true (ones_law a1 (l2.map cvGCall) hA)
 simp only [List.length_map, sl_conv cvGCall cvGCall_cells l2] at S
 refine SpecW.mono S ?_
 rintro r hp n ⟨rfl, _, _⟩
 rfl
set_option maxRecDepth 100000 in
theorem lifted (os : Os) (started : os.Started) (H : Type) (enc : TypeId × Value → H) :
  ReturnsInHanded {} Try.checked os 4 .any (Rows.linearOnesSpec.pre6 enc Try.prog Try.f4 Rows.linearOnesRow.domain false) (Rows.linearOnesSpec.post enc Try.prog Try.f4 false true false false) := by
 refine returnsInHanded_of_change (C := Try.checked) own started (by kernel_rfl) Try.func4
  (ChangeSpec.witness6 (enc := enc) (C := Try.checked) false ⟨#[], #[.int .i64 0, .slice none 0 0], []⟩ 8 (by kernel_rfl) (by kernel_rfl) (by kernel_rfl) (by kernel_rfl)) ?_
 intro W base args ds gs before hval hW _ _
 exact law_contract Ts 40 (by kernel_rfl) rfl (fun ds h => by
  match ds, h with
  | [d0, d1], _ => rfl) (by kernel_rfl) (tb := 4) rfl (by kernel_rfl) W base args ds gs before hval (fun x hx _ => spec x hx) hW
theorem over : Rows.linearOnesRow.holds Try.pinned (OpenSpec.ofChange Rows.linearOnesSpec) :=
 OpenClaim.holds_of_wide 4 Try.f4 rfl rfl rfl rfl rfl rfl rfl ⟨rfl, rfl, rfl, rfl, rfl⟩ rfl rfl rfl rfl rfl (by kernel_rfl) Try.func4 (by kernel_rfl)
  (of_decide_eq_true (by kernel_rfl)) (by unfold Func.isWrapper; first | (rw [if_pos (by decide +kernel)]; kernel_rfl) | (rw [if_neg (by decide +kernel)]; exact ⟨rfl, rfl⟩))
  (fun os started H enc _ => lifted os started H enc)
theorem proved : Rows.LinearOnesSaid := over
end Go.Proofs.Ytopomedppninoaa.linearOnes
