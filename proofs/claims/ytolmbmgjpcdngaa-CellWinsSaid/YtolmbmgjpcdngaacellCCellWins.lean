/-
  The law CellWins returns true for every input.
  No conditions.
-/
import Derived.Test.YtolmbmgjpcdngaaRows
import Derived.ProofKit
import Derived.OpenShut
import Derived.Test.YtolmbmgjpcdngaacellWCellWins1
import Derived.Test.YtolmbmgjpcdngaacellBCellWins1
set_option linter.unusedSimpArgs false
set_option linter.unusedVariables false
namespace Go.Proofs.Ytolmbmgjpcdngaa.cellWins
open Go.ChangeShapes Go.WideShapes Go.ChangeAt Go.RowKit Go Go.Sx
theorem own : ownKnob Try.prog.godebug = none := by kernel_rfl
abbrev Ts : List Ty := [(.int .i64), (.sl (.int .i64)), (.sl (.int .i64))]
theorem spec (x : Tys.den Ts) (h : Tys.ok Ts x) : SpecW Try.prog 8 (Tys.args Ts x) [] 0 (fun r _ _ => r = .v (.bool true)) := by
  have ok := h
  obtain ⟨a1, l2, l3, u⟩ := x
  refine SpecW.mono (taskmilllaw_CellWins_spec a1 l2 l3 true (CellWins_eq a1 l2 l3)) ?_
  rintro r hp n ⟨rfl, _, _⟩
  rfl
set_option maxRecDepth 100000 in
theorem lifted (os : Os) (started : os.Started) (H : Type) (enc : TypeId × Value → H) :
    ReturnsInHanded {} Try.checked os 8 .any (Rows.cellWinsSpec.pre6 enc Try.prog Try.f8 Rows.cellWinsRow.domain false) (Rows.cellWinsSpec.post enc Try.prog Try.f8 false true false false) := by
  refine returnsInHanded_of_change (C := Try.checked) own started (by kernel_rfl) Try.func8
    (ChangeSpec.witness6 (enc := enc) (C := Try.checked) false ⟨#[], #[.int .i64 0, .slice none 0 0, .slice none 0 0], []⟩ 8 (by kernel_rfl) (by kernel_rfl) (by kernel_rfl) (by kernel_rfl)) ?_
  intro W base args ds gs before hval hW _ _
  exact law_contract Ts 40 (by kernel_rfl) rfl (fun ds h => by
    match ds, h with
    | [d0, d1, d2], _ => rfl) (by kernel_rfl) (tb := 4) rfl (by kernel_rfl) W base args ds gs before hval (fun x hx _ => spec x hx) hW
theorem over : Rows.cellWinsRow.holds Try.pinned (OpenSpec.ofChange Rows.cellWinsSpec) :=
  OpenClaim.holds_of_wide 8 Try.f8 rfl rfl rfl rfl rfl rfl rfl ⟨rfl, rfl, rfl, rfl, rfl⟩ rfl rfl rfl rfl rfl (by kernel_rfl) Try.func8 (by kernel_rfl)
    (of_decide_eq_true (by kernel_rfl)) (by unfold Func.isWrapper; first | (rw [if_pos (by decide +kernel)]; kernel_rfl) | (rw [if_neg (by decide +kernel)]; exact ⟨rfl, rfl⟩))
    (fun os started H enc _ => lifted os started H enc)
theorem proved : Rows.CellWinsSaid := over
end Go.Proofs.Ytolmbmgjpcdngaa.cellWins
