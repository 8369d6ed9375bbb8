/-
  The law SweepStopped returns true for every input.
  No conditions.
-/
import Derived.Test.YtlfcicekappbfaaRows
import Derived.ProofKit
import Derived.OpenShut
import Derived.Test.YtlfcicekappbfaasweepWSweepStopped2
import Derived.Test.YtlfcicekappbfaasweepBSweepStopped1
set_option linter.unusedSimpArgs false
set_option linter.unusedVariables false
namespace Go.Proofs.Ytlfcicekappbfaa.sweepStopped
open Go.ChangeShapes Go.WideShapes Go.ChangeAt Go.RowKit Go Go.Sx
theorem own : ownKnob Try.prog.godebug = none := by kernel_rfl
abbrev Ts : List Ty := [(.pair (.sl (.sl (.int .i64))) (.pair (.sl (.int .i64)) .unit)), (.int .i64), (.int .i64)]
theorem spec (x : Tys.den Ts) (h : Tys.ok Ts x) : SpecW Try.prog 7 (Tys.args Ts x) [] 0 (fun r _ _ => r = .v (.bool true)) := by
  have ok := h
  obtain ⟨⟨l1, l2, u3⟩, a4, a5, u⟩ := x
  have hl : l1.length ≤ 9223372036854775807 := by
    simp only [Tys.ok, Ty.ok] at ok
    have hm : maxLen = 9223372036854775807 := by decide +kernel
    rw [hm] at ok
    exact ok.1.1.1
  refine SpecW.mono (taskmilllaw_SweepStopped_spec (⟨l1, l2⟩ : GHeap) a4 a5 true (sweepStopped_true (⟨l1, l2⟩ : GHeap) a4 a5 hl)) ?_
  rintro r hp n ⟨rfl, _, _⟩
  rfl
set_option maxRecDepth 100000 in
theorem lifted (os : Os) (started : os.Started) (H : Type) (enc : TypeId × Value → H) :
    ReturnsInHanded {} Try.checked os 7 .any (Rows.sweepStoppedSpec.pre6 enc Try.prog Try.f7 Rows.sweepStoppedRow.domain false) (Rows.sweepStoppedSpec.post enc Try.prog Try.f7 false true false false) := by
  refine returnsInHanded_of_change (C := Try.checked) own started (by kernel_rfl) Try.func7
    (ChangeSpec.witness6 (enc := enc) (C := Try.checked) false ⟨#[], #[.agg #[.slice none 0 0, .slice none 0 0], .int .i64 0, .int .i64 0], []⟩ 8 (by kernel_rfl) (by kernel_rfl) (by kernel_rfl) (by kernel_rfl)) ?_
  intro W base args ds gs before hval hW _ _
  exact law_contract Ts 12 (by kernel_rfl) rfl (fun ds h => by
    match ds, h with
    | [d0, d1, d2], _ => rfl) (by kernel_rfl) (tb := 4) rfl (by kernel_rfl) W base args ds gs before hval (fun x hx _ => spec x hx) hW
theorem over : Rows.sweepStoppedRow.holds Try.pinned (OpenSpec.ofChange Rows.sweepStoppedSpec) :=
  OpenClaim.holds_of_wide 7 Try.f7 rfl rfl rfl rfl rfl rfl rfl ⟨rfl, rfl, rfl, rfl, rfl⟩ rfl rfl rfl rfl rfl (by kernel_rfl) Try.func7 (by kernel_rfl)
    (of_decide_eq_true (by kernel_rfl)) (by unfold Func.isWrapper; first | (rw [if_pos (by decide +kernel)]; kernel_rfl) | (rw [if_neg (by decide +kernel)]; exact ⟨rfl, rfl⟩))
    (fun os started H enc _ => lifted os started H enc)
theorem proved : Rows.SweepStoppedSaid := over
end Go.Proofs.Ytlfcicekappbfaa.sweepStopped
