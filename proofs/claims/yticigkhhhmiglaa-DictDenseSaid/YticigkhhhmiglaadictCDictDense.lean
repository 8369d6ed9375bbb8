/-
  The law DictDense returns true for every input.
  No conditions.
-/
import Derived.Test.YticigkhhhmiglaaRows
import Derived.ProofKit
import Derived.OpenShut
import Derived.Test.YticigkhhhmiglaadictWDictDense1
import Derived.Test.YticigkhhhmiglaadictBDictDense1
set_option linter.unusedSimpArgs false
set_option linter.unusedVariables false
namespace Go.Proofs.Yticigkhhhmiglaa.dictDense
open Go.ChangeShapes Go.WideShapes Go.ChangeAt Go.RowKit Go Go.Sx
theorem own : ownKnob Try.prog.godebug = none := by kernel_rfl
abbrev Ts : List Ty := [(.int .i64)]
theorem spec (x : Tys.den Ts) (h : Tys.ok Ts x) : SpecW Try.prog 4 (Tys.args Ts x) [] 0 (fun r _ _ => r = .v (.bool true)) := by
  have ok := h
  obtain ⟨a1, u⟩ := x
  refine SpecW.mono (taskmilllaw_DictDense_spec a1 true (dense_law a1)) ?_
  rintro r hp n ⟨rfl, _, _⟩
  rfl
set_option maxRecDepth 100000 in
theorem lifted (os : Os) (started : os.Started) (H : Type) (enc : TypeId × Value → H) :
    ReturnsInHanded {} Try.checked os 4 .any (Rows.dictDenseSpec.pre6 enc Try.prog Try.f4 Rows.dictDenseRow.domain false) (Rows.dictDenseSpec.post enc Try.prog Try.f4 false true false false) := by
  refine returnsInHanded_of_change (C := Try.checked) own started (by kernel_rfl) Try.func4
    (ChangeSpec.witness6 (enc := enc) (C := Try.checked) false ⟨#[], #[.int .i64 0], []⟩ 8 (by kernel_rfl) (by kernel_rfl) (by kernel_rfl) (by kernel_rfl)) ?_
  intro W base args ds gs before hval hW _ _
  exact law_contract Ts 40 (by kernel_rfl) rfl (fun ds h => by
    match ds, h with
    | [d0], _ => rfl) (by kernel_rfl) (tb := 4) rfl (by kernel_rfl) W base args ds gs before hval (fun x hx _ => spec x hx) hW
theorem over : Rows.dictDenseRow.holds Try.pinned (OpenSpec.ofChange Rows.dictDenseSpec) :=
  OpenClaim.holds_of_wide 4 Try.f4 rfl rfl rfl rfl rfl rfl rfl ⟨rfl, rfl, rfl, rfl, rfl⟩ rfl rfl rfl rfl rfl (by kernel_rfl) Try.func4 (by kernel_rfl)
    (of_decide_eq_true (by kernel_rfl)) (by unfold Func.isWrapper; first | (rw [if_pos (by decide +kernel)]; kernel_rfl) | (rw [if_neg (by decide +kernel)]; exact ⟨rfl, rfl⟩))
    (fun os started H enc _ => lifted os started H enc)
theorem proved : Rows.DictDenseSaid := over
end Go.Proofs.Yticigkhhhmiglaa.dictDense
