/-
 The law PickOne returns true for every input.
 No conditions.
-/
import Derived.Test.YtcpmhpobhnakeaaRows
import Derived.ProofKit
import Derived.OpenShut
import Derived.Test.YtcpmhpobhnakeaapickWPickOne3
import Derived.Test.YtcpmhpobhnakeaapickBPickOne1
set_option linter.unusedSimpArgs false
set_option linter.unusedVariables false
namespace Go.Proofs.Ytcpmhpobhnakeaa.pickOne
open Go.ChangeShapes Go.WideShapes Go.ChangeAt Go.RowKit Go Go.Sx
theorem own : ownKnob Try.prog.godebug = none := by kernel_rfl
abbrev TGPost : Ty := (.pair (.int .i64) (.pair (.int .i64) (.pair (.int .i64) .unit)))
def cvGPost (x : TGPost.den) : GPost := GPost.mk x.1 x.2.1 x.2.2.1
theorem sl_conv {α : Type} [Enc α] {e : Ty} (cv : e.den → α) (h : ∀ x, e.sv x = Enc.cells (cv x)) (xs : List e.den) : fl (xs.map cv) = xs.flatMap e.sv := by
 simp only [fl, List.flatMap_map]
 congr 1
 funext x
 exact (h x).symm
theorem cvGPost_cells (x : TGPost.den) : TGPost.sv x = Enc.cells (cvGPost x) := by
 obtain ⟨x0, x1, x2, u⟩ := x
 rfl
abbrev Ts : List Ty := [(.pair (.int .i64) (.pair (.sl (.int .i64)) (.pair .bool (.pair (.sl (.pair (.int .i64) (.pair (.int .i64) (.pair (.int .i64) .unit)))) (.pair (.sl (.pair (.int .i64) (.pair (.int .i64) (.pair (.int .i64) .unit)))) .unit))))), (.int .i64), .bool, (.int .i64)]
theorem spec (x : Tys.den Ts) (h : Tys.ok Ts x) : SpecW Try.prog 8 (Tys.args Ts x) [] 0 (fun r _ _ => r = .v (.bool true)) := by
 have ok := h
 obtain ⟨⟨a1, l2, a3, l4, l5, u6⟩, a7, a8, a9, u⟩ := x
 have hl : Lens ⟨a1, l2, a3, (l4.map cvGPost), (l5.map cvGPost)⟩ := by
  simp only [Tys.ok, Ty.ok] at ok
  have hm : maxLen = 9223372036854775807 := by decide +kernel
  rw [hm] at ok
  have o1 : l2.length ≤ 9223372036854775807 := ok.1.2.1.1
  have o2 : l4.length ≤ 9223372036854775807 := ok.1.2.2.2.1.1
  have o3 : l5.length ≤ 9223372036854775807 := ok.1.2.2.2.2.1.1
  exact ⟨o1, by simpa using o2, by simpa using o3⟩
 have S := taskmilllaw_PickOne_spec (⟨a1, l2, a3, (l4.map cvGPost), (l5.map cvGPost)⟩ : Pipe) a7 a8 a9 true (pickOne_all (⟨a1, l2, a3, (l4.map cvGPost), (l5.map cvGPost)⟩ : Pipe) a7 a8 a9 hl)
 simp only [cells_Pipe, List.length_map, sl_conv cvGPost cvGPost_cells l4, sl_conv cvGPost cvGPost_cells l5] at S
 refine SpecW.mono S ?_
 rintro r hp n ⟨rfl, _, _⟩
 rfl
set_option maxRecDepth 100000 in
theorem lifted (os : Os) (started : os.Started) (H : Type) (enc : TypeId × Value → H) :
  ReturnsInHanded {} Try.checked os 8 .any (Rows.pickOneSpec.pre6 enc Try.prog Try.f8 Rows.pickOneRow.domain false) (Rows.pickOneSpec.post enc Try.prog Try.f8 false true false false) := by
 refine returnsInHanded_of_change (C := Try.checked) own started (by kernel_rfl) Try.func8
  (ChangeSpec.witness6 (enc := enc) (C := Try.checked) false ⟨#[], #[.agg #[.int .i64 0, .slice none 0 0, .bool false, .slice none 0 0, .slice none 0 0], .int .i64 0, .bool false, .int .i64 0], []⟩ 8 (by kernel_rfl) (by kernel_rfl) (by kernel_rfl) (by kernel_rfl)) ?_
 intro W base args ds gs before hval hW _ _
 exact law_contract Ts 40 (by kernel_rfl) rfl (fun ds h => by
  match ds, h with
  | [d0, d1, d2, d3], _ => rfl) (by kernel_rfl) (tb := 4) rfl (by kernel_rfl) W base args ds gs before hval (fun x hx _ => spec x hx) hW
theorem over : Rows.pickOneRow.holds Try.pinned (OpenSpec.ofChange Rows.pickOneSpec) :=
 OpenClaim.holds_of_wide 8 Try.f8 rfl rfl rfl rfl rfl rfl rfl ⟨rfl, rfl, rfl, rfl, rfl⟩ rfl rfl rfl rfl rfl (by kernel_rfl) Try.func8 (by kernel_rfl)
  (of_decide_eq_true (by kernel_rfl)) (by unfold Func.isWrapper; first | (rw [if_pos (by decide +kernel)]; kernel_rfl) | (rw [if_neg (by decide +kernel)]; exact ⟨rfl, rfl⟩))
  (fun os started H enc _ => lifted os started H enc)
theorem proved : Rows.PickOneSaid := over
end Go.Proofs.Ytcpmhpobhnakeaa.pickOne
