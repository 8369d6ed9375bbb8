/-
  The law CellMixes returns true for every input.
  No conditions.
-/
import Derived.Test.YtolmbmgjpcdngaaRows
import Derived.ProofKit
import Derived.OpenShut
import Derived.JoinedCond
import Derived.Test.YtolmbmgjpcdngaacellWCellMixesUpto1
import Derived.Test.YtolmbmgjpcdngaacellBCellMixesUpto1
set_option linter.unusedSimpArgs false
set_option linter.unusedVariables false
namespace Go.Proofs.Ytolmbmgjpcdngaa.cellMixesUpto
open Go.ChangeShapes Go.WideShapes Go.ChangeAt Go.RowKit Go Go.Sx
theorem own : ownKnob Try.prog.godebug = none := by kernel_rfl
abbrev TGOp : Ty := (.pair (.int .i64) (.pair (.int .i64) (.pair (.int .i64) (.pair (.int .i64) .unit))))
def cvGOp (x : TGOp.den) : GOp := GOp.mk x.1 x.2.1 x.2.2.1 x.2.2.2.1
def cvlGOp (x : (Ty.sl TGOp).den) : List GOp := List.map cvGOp (x : List TGOp.den)
theorem sl_conv {α : Type} [Enc α] {e : Ty} (cv : e.den → α) (h : ∀ x, e.sv x = Enc.cells (cv x)) (xs : List e.den) : fl (xs.map cv) = xs.flatMap e.sv := by
  simp only [fl, List.flatMap_map]
  congr 1
  funext x
  exact (h x).symm
theorem cvGOp_cells (x : TGOp.den) : TGOp.sv x = Enc.cells (cvGOp x) := by
  obtain ⟨x0, x1, x2, x3, u⟩ := x
  rfl
theorem cvlGOp_cells (x : (Ty.sl TGOp).den) : (Ty.sl TGOp).sv x = Enc.cells (cvlGOp x) := by
  have e := sl_conv cvGOp cvGOp_cells x
  show [SV.sl (List.length (α := TGOp.den) x) (List.flatMap TGOp.sv x)] = [SV.sl (cvlGOp x).length (fl (cvlGOp x))]
  rw [← e]
  simp only [cvlGOp, List.length_map]
abbrev Ts : List Ty := [(.sl (.int .i64)), (.sl (.sl (.pair (.int .i64) (.pair (.int .i64) (.pair (.int .i64) (.pair (.int .i64) .unit)))))), (.sl (.int .i64))]
def tb : (T : Ty) → T.den → Nat
  | .int _, _ => 1
  | .bool, _ => 1
  | .str, x => x.size + 1
  | .sl e, xs => (List.map (tb e) xs).sum + 1
  | .unit, _ => 0
  | .pair a b, x => tb a x.1 + tb b x.2
  | .arr _ e, xs => (List.map (tb e) xs).sum + 1
def tbs : (l : List Ty) → Tys.den l → Nat
  | [], _ => 0
  | T :: r, x => tb T x.1 + tbs r x.2
theorem bulk_pos {H : Type} (d : DataW H) : 1 ≤ Rows.uptoBulk d := by
  cases d with
  | lit l => cases l <;> simp [Rows.uptoBulk]
  | _ => simp [Rows.uptoBulk]
theorem rep_all {H : Type} {e : Ty} (ih : ∀ (x : e.den) (d : DataW H), e.rep H x d → tb e x ≤ Rows.uptoBulk d) : ∀ (xs : List e.den) (el : List (DataW H)), el.length = xs.length → (∀ (i : Nat) (x : e.den), xs[i]? = some x → ∃ y, el[i]? = some y ∧ e.rep H x y) → (List.map (tb e) xs).sum ≤ Rows.uptoBulkAll el
  | [], [], _, _ => by simp [Rows.uptoBulkAll]
  | [], _ :: _, h, _ => by simp at h
  | _ :: _, [], h, _ => by simp at h
  | x :: xs, d :: el, h, hx => by
    obtain ⟨y, h1, h2⟩ := hx 0 x rfl
    simp only [List.getElem?_cons_zero, Option.some.injEq] at h1
    subst h1
    have h3 := ih x d h2
    have h4 := rep_all ih xs el (by simpa using h) fun i x hi => by
      have := hx (i + 1) x (by simpa using hi)
      simpa using this
    simp only [List.map_cons, List.sum_cons, Rows.uptoBulkAll]; omega
theorem rep_tb {H : Type} : ∀ (T : Ty) (x : T.den) (d : DataW H), T.rep H x d → tb T x ≤ Rows.uptoBulk d
  | .int k, x, d, h => by cases h; exact Nat.le_refl _
  | .bool, x, d, h => by cases h; exact Nat.le_refl _
  | .str, x, d, h => by
    cases h
    show x.size + 1 ≤ x.data.toList.length + 1
    exact Nat.le_refl _
  | .sl e, xs, d, h => by
    rcases h with ⟨h1, rfl⟩ | ⟨el, spn, rfl, hl, hx⟩
    · have h1' : (xs : List e.den) = [] := h1
      show (List.map (tb e) xs).sum + 1 ≤ 1
      rw [h1']; exact Nat.le_refl _
    · have := rep_all (fun x d => rep_tb e x d) xs el hl hx
      show (List.map (tb e) xs).sum + 1 ≤ Rows.uptoBulkAll el + Rows.uptoBulkAll spn + 1
      omega
  | .unit, x, d, h => Nat.zero_le _
  | .pair a b, x, d, h => by
    obtain ⟨p, r, rfl, h1, h2⟩ := h
    have g1 := rep_tb a x.1 p h1
    have g2 := rep_tb b x.2 (.agg r) h2
    show tb a x.1 + tb b x.2 ≤ Rows.uptoBulk p + Rows.uptoBulkAll r + 1
    have : Rows.uptoBulk (.agg r : DataW H) = Rows.uptoBulkAll r + 1 := rfl
    omega
  | .arr n e, xs, d, h => by
    obtain ⟨el, rfl, hl, hx⟩ := h
    have := rep_all (fun x d => rep_tb e x d) xs el hl hx
    show (List.map (tb e) xs).sum + 1 ≤ Rows.uptoBulkAll el + 1
    omega
theorem reps_tb {H : Type} : ∀ (l : List Ty) (x : Tys.den l) (ds : List (DataW H)), Tys.rep H l x ds → tbs l x ≤ Rows.uptoBulkAll ds
  | [], _, _, _ => Nat.zero_le _
  | T :: r, x, ds, h => by
    obtain ⟨d, s, rfl, h1, h2⟩ := h
    have := rep_tb T x.1 d h1
    have := reps_tb r x.2 s h2
    show tb T x.1 + tbs r x.2 ≤ Rows.uptoBulk d + Rows.uptoBulkAll s
    omega
theorem len_sum {e : Ty} (he : ∀ x : e.den, 1 ≤ tb e x) : ∀ xs : List e.den, xs.length ≤ (List.map (tb e) xs).sum
  | [] => by simp
  | x :: xs => by
    have := len_sum he xs
    have := he x
    simp only [List.map_cons, List.sum_cons, List.length_cons]; omega
theorem one_int (x : (Ty.int .i64).den) : 1 ≤ tb (.int .i64) x := Nat.le_refl _
theorem spec {H : Type} (x : Tys.den Ts) (h : Tys.ok Ts x) (ds : List (DataW H)) (hr : Tys.rep H Ts x ds) (hk : Rows.uptoSmall H ds = true) : SpecW Try.prog 7 (Tys.args Ts x) [] 0 (fun r _ _ => r = .v (.bool true)) := by
  have ok := h
  have hB : tbs Ts x ≤ 1048576 := Nat.le_trans (reps_tb Ts x ds hr) (of_decide_eq_true hk)
  obtain ⟨l1, l2, l3, u⟩ := x
  have e : tbs Ts ⟨l1, l2, l3, u⟩ = (List.map (tb (.int .i64)) l1).sum + 1 + ((List.map (tb (.sl TGOp)) l2).sum + 1 + ((List.map (tb (.int .i64)) l3).sum + 1 + 0)) := rfl
  rw [e] at hB
  have h1 := len_sum one_int l1
  have h3 := len_sum one_int l3
  have h1' : List.length (α := Int) l1 ≤ 10000000 := by
    have e3 : List.length (α := Int) l1 = List.length (α := (Ty.int .i64).den) l1 := rfl
    omega
  have h3' : List.length (α := Int) l3 ≤ 10000000 := by
    have e3 : List.length (α := Int) l3 = List.length (α := (Ty.int .i64).den) l3 := rfl
    omega
  have S := taskmilllaw_CellMixes_spec l1 (l2.map cvlGOp) l3 true (CellMixes_eq l1 (l2.map cvlGOp) l3 h1' h3')
  simp only [List.length_map, sl_conv cvlGOp cvlGOp_cells l2] at S
  refine SpecW.mono S ?_
  rintro r hp n ⟨rfl, _, _⟩
  rfl
set_option maxRecDepth 100000 in
theorem lifted (os : Os) (started : os.Started) (H : Type) (enc : TypeId × Value → H) (F : Stop.Interp) :
    ReturnsInHanded {} Try.checked os 7 .any ((Rows.OpenSpec.upto Rows.cellMixesSpec).pre6 enc Try.prog Try.f7 Rows.cellMixesUptoRow.domain false) (((Rows.OpenSpec.upto Rows.cellMixesSpec).at F).post enc Try.prog Try.f7 false true false false) := by
  refine returnsInHanded_of_cond (C := Try.checked) (s := Rows.OpenSpec.upto Rows.cellMixesSpec) (k := Rows.uptoSmall) rfl (F := F) own started (by kernel_rfl) Try.func7
    (OpenSpec.witness (enc := enc) (C := Try.checked) (s := Rows.OpenSpec.upto Rows.cellMixesSpec) (k := Rows.uptoSmall) rfl (x := ([.nil, .nil, .nil], [], [])) false ⟨#[], #[.slice none 0 0, .slice none 0 0, .slice none 0 0], []⟩ 8 (by kernel_rfl) (by kernel_rfl) (by kernel_rfl) (by kernel_rfl) (by kernel_rfl) (by kernel_rfl)) ?_
  intro W base args ds gs before hval hW _ hk _
  exact law_contract Ts 40 (by kernel_rfl) rfl (fun ds h => by
    match ds, h with
    | [d0, d1, d2], _ => rfl) (by kernel_rfl) (tb := 4) rfl (by kernel_rfl) W base args ds gs before hval (fun x hx hr => spec x hx _ hr hk) hW
theorem over : Rows.cellMixesUptoRow.holds Try.pinned (Rows.OpenSpec.upto Rows.cellMixesSpec) :=
  OpenClaim.holds_of_cond 7 Try.f7 rfl rfl rfl rfl rfl rfl rfl ⟨rfl, rfl, rfl, rfl, rfl⟩ rfl rfl rfl rfl rfl (by kernel_rfl) Try.func7 (by kernel_rfl)
    (of_decide_eq_true (by kernel_rfl)) (by unfold Func.isWrapper; first | (rw [if_pos (by decide +kernel)]; kernel_rfl) | (rw [if_neg (by decide +kernel)]; exact ⟨rfl, rfl⟩))
    (fun os started H enc _ F => lifted os started H enc F)
theorem proved : Rows.CellMixesUptoSaid := over
end Go.Proofs.Ytolmbmgjpcdngaa.cellMixesUpto
