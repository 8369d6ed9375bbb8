/-
  The law CellAdds returns true for every input.
  No conditions.
-/
import Derived.Test.YtolmbmgjpcdngaaRows
import Derived.ProofKit
import Derived.OpenShut
import Derived.Test.YtolmbmgjpcdngaacellWCellAdds1
import Derived.Test.YtolmbmgjpcdngaacellBCellAdds1
set_option linter.unusedSimpArgs false
set_option linter.unusedVariables false
namespace Go.Proofs.Ytolmbmgjpcdngaa.cellAdds
open Go.ChangeShapes Go.WideShapes Go.ChangeAt Go.RowKit Go Go.Sx
theorem own : ownKnob Try.prog.godebug = none := by kernel_rfl
abbrev Ts : List Ty := [(.sl (.int .i64)), (.sl (.sl (.int .i64))), (.sl (.int .i64))]
theorem spec (x : Tys.den Ts) (h : Tys.ok Ts x) : SpecW Try.prog 9 (Tys.args Ts x) [] 0 (fun r _ _ => r = .v (.bool true)) := by
  have ok := h
  obtain ⟨l1, l2, l3, u⟩ := x
  refine SpecW.mono (taskmilllaw_CellAdds_spec l1 l2 l3 true (CellAdds_eq l1 l2 l3)) ?_
  rintro r hp n ⟨rfl, _, _⟩
  rfl
set_option maxRecDepth 100000 in
theorem lifted (os : Os) (started : os.Started) (H : Type) (enc : TypeId × Value → H) :
    ReturnsInHanded {} Try.checked os 9 .any (Rows.cellAddsSpec.pre6 enc Try.prog Try.f9 Rows.cellAddsRow.domain false) (Rows.cellAddsSpec.post enc Try.prog Try.f9 false true false false) := by
  refine returnsInHanded_of_change (C := Try.checked) own started (by kernel_rfl) Try.func9
    (ChangeSpec.witness6 (enc := enc) (C := Try.checked) false ⟨#[], #[.slice none 0 0, .slice none 0 0, .slice none 0 0], []⟩ 8 (by kernel_rfl) (by kernel_rfl) (by kernel_rfl) (by kernel_rfl)) ?_
  intro W base args ds gs before hval hW _ _
  exact law_contract Ts 40 (by kernel_rfl) rfl (fun ds h => by
    match ds, h with
    | [d0, d1, d2], _ => rfl) (by kernel_rfl) (tb := 4) rfl (by kernel_rfl) W base args ds gs before hval (fun x hx _ => spec x hx) hW
theorem over : Rows.cellAddsRow.holds Try.pinned (OpenSpec.ofChange Rows.cellAddsSpec) :=
  OpenClaim.holds_of_wide 9 Try.f9 rfl rfl rfl rfl rfl rfl rfl ⟨rfl, rfl, rfl, rfl, rfl⟩ rfl rfl rfl rfl rfl (by kernel_rfl) Try.func9 (by kernel_rfl)
    (of_decide_eq_true (by kernel_rfl)) (by unfold Func.isWrapper; first | (rw [if_pos (by decide +kernel)]; kernel_rfl) | (rw [if_neg (by decide +kernel)]; exact ⟨rfl, rfl⟩))
    (fun os started H enc _ => lifted os started H enc)
theorem proved : Rows.CellAddsSaid := over
end Go.Proofs.Ytolmbmgjpcdngaa.cellAdds
