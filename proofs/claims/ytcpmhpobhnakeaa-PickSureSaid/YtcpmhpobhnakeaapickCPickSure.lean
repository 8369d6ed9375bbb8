/-
 The law PickSure returns true for every input.
 No conditions.
-/
import Derived.Test.YtcpmhpobhnakeaaRows
import Derived.ProofKit
import Derived.OpenShut
import Derived.Test.YtcpmhpobhnakeaapickWPickSure3
import Derived.Test.YtcpmhpobhnakeaapickBPickSure1
set_option linter.unusedSimpArgs false
set_option linter.unusedVariables false
namespace Go.Proofs.Ytcpmhpobhnakeaa.pickSure
open Go.ChangeShapes Go.WideShapes Go.ChangeAt Go.RowKit Go Go.Sx
theorem own : ownKnob Try.prog.godebug = none := by kernel_rfl
abbrev TGPost : Ty := (.pair (.int .i64) (.pair (.int .i64) (.pair (.int .i64) .unit)))
def cvGPost (x : TGPost.den) : GPost := GPost.mk x.1 x.2.1 x.2.2.1
abbrev TPipe : Ty := (.pair (.int .i64) (.pair (.sl (.int .i64)) (.pair .bool (.pair (.sl (.pair (.int .i64) (.pair (.int .i64) (.pair (.int .i64) .unit)))) (.pair (.sl (.pair (.int .i64) (.pair (.int .i64) (.pair (.int .i64) .unit)))) .unit)))))
def cvPipe (x : TPipe.den) : Pipe := Pipe.mk x.1 x.2.1 x.2.2.1 (x.2.2.2.1.map cvGPost) (x.2.2.2.2.1.map cvGPost)
abbrev TGCase : Ty := (.pair (.int .i64) (.pair .bool (.pair (.int .i64) .unit)))
def cvGCase (x : TGCase.den) : GCase := GCase.mk x.1 x.2.1 x.2.2.1
theorem sl_conv {α : Type} [Enc α] {e : Ty} (cv : e.den → α) (h : ∀ x, e.sv x = Enc.cells (cv x)) (xs : List e.den) : fl (xs.map cv) = xs.flatMap e.sv := by
 simp only [fl, List.flatMap_map]
 congr 1
 funext x
 exact (h x).symm
theorem cvGPost_cells (x : TGPost.den) : TGPost.sv x = Enc.cells (cvGPost x) := by
 obtain ⟨x0, x1, x2, u⟩ := x
 rfl
theorem cvPipe_cells (x : TPipe.den) : TPipe.sv x = Enc.cells (cvPipe x) := by
 obtain ⟨x0, x1, x2, x3, x4, u⟩ := x
 rw [cells_Pipe]
 simp only [cvPipe, List.length_map, sl_conv cvGPost cvGPost_cells x3, sl_conv cvGPost cvGPost_cells x4]
 rfl
theorem cvGCase_cells (x : TGCase.den) : TGCase.sv x = Enc.cells (cvGCase x) := by
 obtain ⟨x0, x1, x2, u⟩ := x
 rfl
abbrev Ts : List Ty := [(.sl (.pair (.int .i64) (.pair (.sl (.int .i64)) (.pair .bool (.pair (.sl (.pair (.int .i64) (.pair (.int .i64) (.pair (.int .i64) .unit)))) (.pair (.sl (.pair (.int .i64) (.pair (.int .i64) (.pair (.int .i64) .unit)))) .unit)))))), (.int .i64), (.sl (.pair (.int .i64) (.pair .bool (.pair (.int .i64) .unit)))), (.sl (.int .i64)), (.sl (.int .i64))]
theorem spec (x : Tys.den Ts) (h : Tys.ok Ts x) : SpecW Try.prog 5 (Tys.args Ts x) [] 0 (fun r _ _ => r = .v (.bool true)) := by
 have ok := h
 obtain ⟨l1, a2, l3, l4, l5, u⟩ := x
 have hl : LensH (l1.map cvPipe) := by
  simp only [Tys.ok, Ty.ok] at ok
  have hm : maxLen = 9223372036854775807 := by decide +kernel
  simp only [hm] at ok
  refine ⟨by rw [List.length_map]; exact ok.1.1, fun p hp => ?_⟩
  obtain ⟨x, hx, rfl⟩ := List.mem_map.1 hp
  have o := ok.1.2 x hx
  exact ⟨o.2.1.1, by simpa [cvPipe] using o.2.2.2.1.1, by simpa [cvPipe] using o.2.2.2.2.1.1⟩
 have S := taskmilllaw_PickSure_spec (l1.map cvPipe) a2 (l3.map cvGCase) l4 l5 true (pickSure_all (l1.map cvPipe) a2 (l3.map cvGCase) l4 l5 hl)
 simp only [List.length_map, sl_conv cvPipe cvPipe_cells l1, sl_conv cvGCase cvGCase_cells l3] at S
 refine SpecW.mono S ?_
 rintro r hp n ⟨rfl, _, _⟩
 rfl
set_option maxRecDepth 100000 in
theorem lifted (os : Os) (started : os.Started) (H : Type) (enc : TypeId × Value → H) :
  ReturnsInHanded {} Try.checked os 5 .any (Rows.pickSureSpec.pre6 enc Try.prog Try.f5 Rows.pickSureRow.domain false) (Rows.pickSureSpec.post enc Try.prog Try.f5 false true false false) := by
 refine returnsInHanded_of_change (C := Try.checked) own started (by kernel_rfl) Try.func5
  (ChangeSpec.witness6 (enc := enc) (C := Try.checked) false ⟨#[], #[.slice none 0 0, .int .i64 0, .slice none 0 0, .slice none 0 0, .slice none 0 0], []⟩ 8 (by kernel_rfl) (by kernel_rfl) (by kernel_rfl) (by kernel_rfl)) ?_
 intro W base args ds gs before hval hW _ _
 exact law_contract Ts 40 (by kernel_rfl) rfl (fun ds h => by
  match ds, h with
  | [d0, d1, d2, d3, d4], _ => rfl) (by kernel_rfl) (tb := 4) rfl (by kernel_rfl) W base args ds gs before hval (fun x hx _ => spec x hx) hW
theorem over : Rows.pickSureRow.holds Try.pinned (OpenSpec.ofChange Rows.pickSureSpec) :=
 OpenClaim.holds_of_wide 5 Try.f5 rfl rfl rfl rfl rfl rfl rfl ⟨rfl, rfl, rfl, rfl, rfl⟩ rfl rfl rfl rfl rfl (by kernel_rfl) Try.func5 (by kernel_rfl)
  (of_decide_eq_true (by kernel_rfl)) (by unfold Func.isWrapper; first | (rw [if_pos (by decide +kernel)]; kernel_rfl) | (rw [if_neg (by decide +kernel)]; exact ⟨rfl, rfl⟩))
  (fun os started H enc _ => lifted os started H enc)
theorem proved : Rows.PickSureSaid := over
end Go.Proofs.Ytcpmhpobhnakeaa.pickSure
