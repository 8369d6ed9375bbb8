/-
  The law DictKeeps returns true for every input.
  No conditions.
-/
import Derived.Test.YticigkhhhmiglaaRows
import Derived.ProofKit
import Derived.OpenShut
import Derived.Test.YticigkhhhmiglaadictWDictKeeps2
import Derived.Test.YticigkhhhmiglaadictBDictKeeps1
set_option linter.unusedSimpArgs false
set_option linter.unusedVariables false
namespace Go.Proofs.Yticigkhhhmiglaa.dictKeeps
open Go.ChangeShapes Go.WideShapes Go.ChangeAt Go.RowKit Go Go.Sx
theorem own : ownKnob Try.prog.godebug = none := by kernel_rfl
abbrev TS58 : Ty := (.arr 2 (.int .i64))
def cvS58 (x : TS58.den) : S58 := S58.mk (x.getD 0 default) (x.getD 1 default)
theorem sl_conv {α : Type} [Enc α] {e : Ty} (cv : e.den → α) (h : ∀ x, e.sv x = Enc.cells (cv x)) (xs : List e.den) : fl (xs.map cv) = xs.flatMap e.sv := by
  simp only [fl, List.flatMap_map]
  congr 1
  funext x
  exact (h x).symm
theorem arrv2_ {α : Type} {xs : List α} (h : xs.length = 2) : ∃ x0 x1, xs = [x0, x1] := by
  match xs, h with
  | [x0, x1], _ => exact ⟨x0, x1, rfl⟩
theorem cvS58_cells (x : TS58.den) (h : List.length x = 2) : TS58.sv x = Enc.cells (cvS58 x) := by
  obtain ⟨x0, x1, rfl⟩ := arrv2_ h
  rfl
theorem sl_convA {α : Type} [Enc α] {e : Ty} (cv : e.den → α) (xs : List e.den) (h : ∀ x ∈ xs, e.sv x = Enc.cells (cv x)) : fl (xs.map cv) = xs.flatMap e.sv := by
  induction xs with
  | nil => rfl
  | cons x xs ih =>
    rw [List.map_cons, fl_cons, List.flatMap_cons, ih (fun y hy => h y (List.mem_cons_of_mem _ hy)), h x (List.mem_cons_self ..)]
abbrev Ts : List Ty := [(.sl (.arr 2 (.int .i64)))]
theorem spec (x : Tys.den Ts) (h : Tys.ok Ts x) : SpecW Try.prog 7 (Tys.args Ts x) [] 0 (fun r _ _ => r = .v (.bool true)) := by
  have ok := h
  obtain ⟨l1, u⟩ := x
  have S := taskmilllaw_DictKeeps_spec (l1.map cvS58) true (keeps_law (l1.map cvS58))
  simp only [List.length_map, sl_convA cvS58 l1 (fun x hx => cvS58_cells x (And.left ((And.right (And.left ok)) x hx)))] at S
  refine SpecW.mono S ?_
  rintro r hp n ⟨rfl, _, _⟩
  rfl
set_option maxRecDepth 100000 in
theorem lifted (os : Os) (started : os.Started) (H : Type) (enc : TypeId × Value → H) :
    ReturnsInHanded {} Try.checked os 7 .any (Rows.dictKeepsSpec.pre6 enc Try.prog Try.f7 Rows.dictKeepsRow.domain false) (Rows.dictKeepsSpec.post enc Try.prog Try.f7 false true false false) := by
  refine returnsInHanded_of_change (C := Try.checked) own started (by kernel_rfl) Try.func7
    (ChangeSpec.witness6 (enc := enc) (C := Try.checked) false ⟨#[], #[.slice none 0 0], []⟩ 8 (by kernel_rfl) (by kernel_rfl) (by kernel_rfl) (by kernel_rfl)) ?_
  intro W base args ds gs before hval hW _ _
  exact law_contract Ts 40 (by kernel_rfl) rfl (fun ds h => by
    match ds, h with
    | [d0], _ => rfl) (by kernel_rfl) (tb := 4) rfl (by kernel_rfl) W base args ds gs before hval (fun x hx _ => spec x hx) hW
theorem over : Rows.dictKeepsRow.holds Try.pinned (OpenSpec.ofChange Rows.dictKeepsSpec) :=
  OpenClaim.holds_of_wide 7 Try.f7 rfl rfl rfl rfl rfl rfl rfl ⟨rfl, rfl, rfl, rfl, rfl⟩ rfl rfl rfl rfl rfl (by kernel_rfl) Try.func7 (by kernel_rfl)
    (of_decide_eq_true (by kernel_rfl)) (by unfold Func.isWrapper; first | (rw [if_pos (by decide +kernel)]; kernel_rfl) | (rw [if_neg (by decide +kernel)]; exact ⟨rfl, rfl⟩))
    (fun os started H enc _ => lifted os started H enc)
theorem proved : Rows.DictKeepsSaid := over
end Go.Proofs.Yticigkhhhmiglaa.dictKeeps
