/-
  The law WaitHalves returns true for every input.
  No conditions.
-/
import Derived.Test.YtnnpjaoddniifaaRows
import Derived.ProofKit
import Derived.OpenShut
import Derived.JoinedCond
import Derived.Test.YtnnpjaoddniifaawaitWWaitHalvesUpto2
import Derived.Test.YtnnpjaoddniifaawaitP7
set_option linter.unusedSimpArgs false
set_option linter.unusedVariables false
namespace Go.Proofs.Ytnnpjaoddniifaa.waitHalvesUpto
open Go.ChangeShapes Go.WideShapes Go.ChangeAt Go.RowKit Go Go.Sx
theorem own : ownKnob Try.prog.godebug = none := by kernel_rfl
abbrev TLine : Ty := (.pair (.int .i64) (.pair (.sl (.int .i64)) .unit))
def cvLine (x : TLine.den) : Line := Line.mk x.1 x.2.1
theorem cvLine_cells (x : TLine.den) : TLine.sv x = Enc.cells (cvLine x) := by
  obtain ⟨x0, x1, u⟩ := x
  rfl
theorem sl_conv {α : Type} [Enc α] {e : Ty} (cv : e.den → α) (h : ∀ x, e.sv x = Enc.cells (cv x)) (xs : List e.den) : fl (xs.map cv) = xs.flatMap e.sv := by
  simp only [fl, List.flatMap_map]
  congr 1
  funext x
  exact (h x).symm
abbrev Ts : List Ty := [(.sl (.pair (.int .i64) (.pair (.sl (.int .i64)) .unit))), (.int .i64), (.int .i64), (.int .i64), (.int .i64)]
def tb : (T : Ty) → T.den → Nat
  | .int _, _ => 1
  | .bool, _ => 1
  | .str, x => x.size + 1
  | .sl e, xs => (List.map (tb e) xs).sum + 1
  | .unit, _ => 0
  | .pair a b, x => tb a x.1 + tb b x.2
  | .arr _ e, xs => (List.map (tb e) xs).sum + 1
def tbs : (l : List Ty) → Tys.den l → Nat
  | [], _ => 0
  | T :: r, x => tb T x.1 + tbs r x.2
theorem bulk_pos {H : Type} (d : DataW H) : 1 ≤ Rows.uptoBulk d := by
  cases d with
  | lit l => cases l <;> simp [Rows.uptoBulk]
  | _ => simp [Rows.uptoBulk]
theorem rep_all {H : Type} {e : Ty} (ih : ∀ (x : e.den) (d : DataW H), e.rep H x d → tb e x ≤ Rows.uptoBulk d) : ∀ (xs : List e.den) (el : List (DataW H)), el.length = xs.length → (∀ (i : Nat) (x : e.den), xs[i]? = some x → ∃ y, el[i]? = some y ∧ e.rep H x y) → (List.map (tb e) xs).sum ≤ Rows.uptoBulkAll el
  | [], [], _, _ => by simp [Rows.uptoBulkAll]
  | [], _ :: _, h, _ => by simp at h
  | _ :: _, [], h, _ => by simp at h
  | x :: xs, d :: el, h, hx => by
    obtain ⟨y, h1, h2⟩ := hx 0 x rfl
    simp only [List.getElem?_cons_zero, Option.some.injEq] at h1
    subst h1
    have h3 := ih x d h2
    have h4 := rep_all ih xs el (by simpa using h) fun i x hi => by
      have := hx (i + 1) x (by simpa using hi)
      simpa using this
    simp only [List.map_cons, List.sum_cons, Rows.uptoBulkAll]; omega
theorem rep_tb {H : Type} : ∀ (T : Ty) (x : T.den) (d : DataW H), T.rep H x d → tb T x ≤ Rows.uptoBulk d
  | .int k, x, d, h => by cases h; exact Nat.le_refl _
  | .bool, x, d, h => by cases h; exact Nat.le_refl _
  | .str, x, d, h => by
    cases h
    show x.size + 1 ≤ x.data.toList.length + 1
    exact Nat.le_refl _
  | .sl e, xs, d, h => by
    rcases h with ⟨h1, rfl⟩ | ⟨el, spn, rfl, hl, hx⟩
    · have h1' : (xs : List e.den) = [] := h1
      show (List.map (tb e) xs).sum + 1 ≤ 1
      rw [h1']; exact Nat.le_refl _
    · have := rep_all (fun x d => rep_tb e x d) xs el hl hx
      show (List.map (tb e) xs).sum + 1 ≤ Rows.uptoBulkAll el + Rows.uptoBulkAll spn + 1
      omega
  | .unit, x, d, h => Nat.zero_le _
  | .pair a b, x, d, h => by
    obtain ⟨p, r, rfl, h1, h2⟩ := h
    have g1 := rep_tb a x.1 p h1
    have g2 := rep_tb b x.2 (.agg r) h2
    show tb a x.1 + tb b x.2 ≤ Rows.uptoBulk p + Rows.uptoBulkAll r + 1
    have : Rows.uptoBulk (.agg r : DataW H) = Rows.uptoBulkAll r + 1 := rfl
    omega
  | .arr n e, xs, d, h => by
    obtain ⟨el, rfl, hl, hx⟩ := h
    have := rep_all (fun x d => rep_tb e x d) xs el hl hx
    show (List.map (tb e) xs).sum + 1 ≤ Rows.uptoBulkAll el + 1
    omega
theorem reps_tb {H : Type} : ∀ (l : List Ty) (x : Tys.den l) (ds : List (DataW H)), Tys.rep H l x ds → tbs l x ≤ Rows.uptoBulkAll ds
  | [], _, _, _ => Nat.zero_le _
  | T :: r, x, ds, h => by
    obtain ⟨d, s, rfl, h1, h2⟩ := h
    have := rep_tb T x.1 d h1
    have := reps_tb r x.2 s h2
    show tb T x.1 + tbs r x.2 ≤ Rows.uptoBulk d + Rows.uptoBulkAll s
    omega
theorem fit_of (xs : List TLine.den) (h : (List.map (tb TLine) xs).sum ≤ 1048576) : Fit (xs.map cvLine) := by
  have gen : ∀ xs : List TLine.den, (xs.map cvLine).length + (flat (xs.map cvLine)).length ≤ (List.map (tb TLine) xs).sum := fun xs => by
    induction xs with
    | nil => simp [flat]
    | cons x xs ih =>
      have h1 : (x.2.1 : List Int).length ≤ (List.map (tb (.int .i64)) x.2.1).sum := by
        have : ∀ l : List Int, l.length ≤ (List.map (tb (.int .i64)) l).sum := fun l => by
          induction l with
          | nil => simp
          | cons a l ih => simp only [List.map_cons, List.sum_cons, List.length_cons]; have : tb (.int .i64) a = 1 := rfl; omega
        exact this _
      have h2 : tb TLine x = 1 + ((List.map (tb (.int .i64)) x.2.1).sum + 1 + 0) := rfl
      have h3 : (cvLine x).Tasks = x.2.1 := rfl
      simp only [List.map_cons, List.length_cons, List.sum_cons, flat, List.flatMap_cons, List.length_append, h3] at ih ⊢
      omega
  have := gen xs
  exact ⟨by omega, by omega⟩
theorem spec {H : Type} (x : Tys.den Ts) (h : Tys.ok Ts x) (ds : List (DataW H)) (hr : Tys.rep H Ts x ds) (hk : Rows.uptoSmall H ds = true) : SpecW Try.prog 7 (Tys.args Ts x) [] 0 (fun r _ _ => r = .v (.bool true)) := by
  have ok := h
  have hB : tbs Ts x ≤ 1048576 := Nat.le_trans (reps_tb Ts x ds hr) (of_decide_eq_true hk)
  obtain ⟨l1, a2, a3, a4, a5, u⟩ := x
  have hF : Fit (l1.map cvLine) := fit_of l1 (by
    have : tbs Ts ⟨l1, a2, a3, a4, a5, u⟩ = (List.map (tb TLine) l1).sum + 1 + _ := rfl
    omega)
  have S := taskmilllaw_WaitHalves_spec (l1.map cvLine) a2 a3 a4 a5 true (waitHalves (l1.map cvLine) a2 a3 a4 a5 hF)
  simp only [List.length_map, sl_conv cvLine cvLine_cells l1] at S
  refine SpecW.mono S ?_
  rintro r hp n ⟨rfl, _, _⟩
  rfl
set_option maxRecDepth 100000 in
theorem lifted (os : Os) (started : os.Started) (H : Type) (enc : TypeId × Value → H) (F : Stop.Interp) :
    ReturnsInHanded {} Try.checked os 7 .any ((Rows.OpenSpec.upto Rows.waitHalvesSpec).pre6 enc Try.prog Try.f7 Rows.waitHalvesUptoRow.domain false) (((Rows.OpenSpec.upto Rows.waitHalvesSpec).at F).post enc Try.prog Try.f7 false true false false) := by
  refine returnsInHanded_of_cond (C := Try.checked) (s := Rows.OpenSpec.upto Rows.waitHalvesSpec) (k := Rows.uptoSmall) rfl (F := F) own started (by kernel_rfl) Try.func7
    (OpenSpec.witness (enc := enc) (C := Try.checked) (s := Rows.OpenSpec.upto Rows.waitHalvesSpec) (k := Rows.uptoSmall) rfl (x := ([.nil, .lit (.int .i64 0), .lit (.int .i64 0), .lit (.int .i64 0), .lit (.int .i64 0)], [], [])) false ⟨#[], #[.slice none 0 0, .int .i64 0, .int .i64 0, .int .i64 0, .int .i64 0], []⟩ 8 (by kernel_rfl) (by kernel_rfl) (by kernel_rfl) (by kernel_rfl) (by kernel_rfl) (by kernel_rfl)) ?_
  intro W base args ds gs before hval hW _ hk _
  exact law_contract Ts 12 (by kernel_rfl) rfl (fun ds h => by
    match ds, h with
    | [d0, d1, d2, d3, d4], _ => rfl) (by kernel_rfl) (tb := 4) rfl (by kernel_rfl) W base args ds gs before hval (fun x hx hr => spec x hx _ hr hk) hW
theorem over : Rows.waitHalvesUptoRow.holds Try.pinned (Rows.OpenSpec.upto Rows.waitHalvesSpec) :=
  OpenClaim.holds_of_cond 7 Try.f7 rfl rfl rfl rfl rfl rfl rfl ⟨rfl, rfl, rfl, rfl, rfl⟩ rfl rfl rfl rfl rfl (by kernel_rfl) Try.func7 (by kernel_rfl)
    (of_decide_eq_true (by kernel_rfl)) (by unfold Func.isWrapper; first | (rw [if_pos (by decide +kernel)]; kernel_rfl) | (rw [if_neg (by decide +kernel)]; exact ⟨rfl, rfl⟩))
    (fun os started H enc _ F => lifted os started H enc F)
theorem proved : Rows.WaitHalvesUptoSaid := over
end Go.Proofs.Ytnnpjaoddniifaa.waitHalvesUpto
