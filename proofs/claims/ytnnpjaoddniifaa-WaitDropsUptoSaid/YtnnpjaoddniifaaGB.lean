/-
  G, part B: typed lists in cells.
-/
import Derived.Test.YtnnpjaoddniifaaGA
set_option linter.unusedSimpArgs false
set_option linter.unusedVariables false
namespace Go.Sx
open Go.RowKit
set_option linter.unusedVariables false

/-- A type whose values lie in so many cells. -/
class Enc (α : Type) extends Inhabited α where
  sz : Nat
  cells : α → List SV
  len : ∀ a, (cells a).length = sz
  one : ∀ a, (cells a).all oneS = true
  stc : ∀ a, stL (cells a) = true
variable {α β : Type}
instance : Enc Int := ⟨1, fun x => [.v (.int .i64 x)], fun _ => rfl, fun _ => rfl, fun _ => rfl⟩
instance : Enc Bool := ⟨1, fun x => [.v (.bool x)], fun _ => rfl, fun _ => rfl, fun _ => rfl⟩
def fl [Enc α] (xs : List α) : List SV := xs.flatMap Enc.cells
theorem fl_nil [Enc α] : fl ([] : List α) = [] := rfl
theorem fl_cons [Enc α] (x : α) (xs : List α) : fl (x :: xs) = Enc.cells x ++ fl xs := rfl
theorem fl_append [Enc α] (xs ys : List α) : fl (xs ++ ys) = fl xs ++ fl ys := by simp [fl]
theorem fl_length [Enc α] (xs : List α) : (fl xs).length = xs.length * Enc.sz α := by
  induction xs with
  | nil => simp [fl]
  | cons x xs ih => rw [fl_cons, List.length_append, ih, Enc.len, List.length_cons, Nat.add_mul, Nat.one_mul, Nat.add_comm]
theorem stL_app {xs ys : List SV} (h : stL xs = true) (g : stL ys = true) : stL (xs ++ ys) = true := by
  induction xs with
  | nil => exact g
  | cons x xs ih => simp only [stL, Bool.and_eq_true, List.cons_append] at h ⊢; exact ⟨h.1, ih h.2⟩
theorem fl_st [Enc α] (xs : List α) : stL (fl xs) = true := by
  induction xs with
  | nil => rfl
  | cons x xs ih => rw [fl_cons]; exact stL_app (Enc.stc x) ih
theorem fl_cl [Enc α] (xs : List α) : clL (fl xs) = true := stL_clL (fl_st xs)
theorem fl_one [Enc α] (xs : List α) : (fl xs).all oneS = true := by
  induction xs with
  | nil => rfl
  | cons x xs ih => rw [fl_cons, List.all_append, Enc.one, ih]; rfl
theorem cells_cl [Enc α] (x : α) : clL (Enc.cells x) = true := stL_clL (Enc.stc x)
instance [Enc α] : Enc (List α) := ⟨1, fun x => [.sl x.length (fl x)], fun _ => rfl, fun _ => rfl, fun x => by simp only [stL, SV.st, fl_st, Bool.true_and]⟩

theorem fl_drop [Enc α] (xs : List α) (i : Nat) : (fl xs).drop (i * Enc.sz α) = fl (xs.drop i) := by
  induction xs generalizing i with
  | nil => simp [fl]
  | cons x xs ih =>
    cases i with
    | zero => simp
    | succ i =>
      rw [fl_cons, List.drop_succ_cons, ← ih i, List.drop_append, List.drop_of_length_le (by rw [Enc.len]; exact Nat.le_mul_of_pos_left _ (Nat.succ_pos i)), List.nil_append, Enc.len]
      congr 1
      rw [Nat.add_mul, Nat.one_mul, Nat.add_sub_cancel]
theorem fl_take [Enc α] (xs : List α) (i : Nat) : (fl xs).take (i * Enc.sz α) = fl (xs.take i) := by
  induction xs generalizing i with
  | nil => simp [fl]
  | cons x xs ih =>
    cases i with
    | zero => simp [fl]
    | succ i =>
      rw [fl_cons, List.take_succ_cons, fl_cons, ← ih i, List.take_append, Enc.len, List.take_of_length_le (by rw [Enc.len]; exact Nat.le_mul_of_pos_left _ (Nat.succ_pos i))]
      congr 2
      rw [Nat.add_mul, Nat.one_mul, Nat.add_sub_cancel]
theorem fl_app [Enc α] (xs : List α) (i n : Nat) : appCells (fl xs) (i * Enc.sz α) (n * Enc.sz α) = fl ((xs.drop i).take n) := by
  simp only [appCells, fl_drop, fl_take]
/-- One element. -/
theorem fl_at [Enc α] (xs : List α) (i : Nat) (h : i < xs.length) : ((fl xs).drop (i * Enc.sz α)).take (Enc.sz α) = Enc.cells (xs.getD i default) := by
  rw [fl_drop]
  have : xs.drop i = xs.getD i default :: xs.drop (i + 1) := by rw [List.drop_eq_getElem_cons h]; simp [List.getD_eq_getElem?_getD, h]
  rw [this, fl_cons, List.take_append, Enc.len, Nat.sub_self, List.take_zero, List.append_nil, List.take_of_length_le (by rw [Enc.len]; exact Nat.le_refl _)]
/-- One cell of an element. -/
theorem fl_getD [Enc α] (xs : List α) (i j : Nat) (h : i < xs.length) (hj : j < Enc.sz α) (d : SV) : (fl xs).getD (i * Enc.sz α + j) d = (Enc.cells (xs.getD i default)).getD j d := by
  rw [← fl_at xs i h]
  simp only [List.getD_eq_getElem?_getD, List.getElem?_take, if_pos hj, List.getElem?_drop]
theorem splice_app (vs : List SV) : ∀ (as bs : List SV) (o : Nat), splice (as ++ bs) (as.length + o) vs = as ++ splice bs o vs := by
  induction vs with
  | nil => intro as bs o; rfl
  | cons v vs ih =>
    intro as bs o
    simp only [splice]
    rw [List.set_append_right _ _ (by omega), show as.length + o - as.length = o from by omega, Nat.add_assoc, ih]
theorem splice_left (vs : List SV) : ∀ (as bs : List SV) (o : Nat), o + vs.length ≤ as.length → splice (as ++ bs) o vs = splice as o vs ++ bs := by
  induction vs with
  | nil => intro as bs o _; rfl
  | cons v vs ih =>
    intro as bs o h
    simp only [List.length_cons] at h
    simp only [splice]
    rw [List.set_append_left _ _ (by omega), ih _ _ _ (by simp; omega)]
/-- A store into an element. -/
theorem fl_splice [Enc α] (y : α) (vs : List SV) (j : Nat) : ∀ (xs : List α) (i : Nat), i < xs.length → j + vs.length ≤ Enc.sz α → splice (Enc.cells (xs.getD i default)) j vs = Enc.cells y → splice (fl xs) (i * Enc.sz α + j) vs = fl (xs.set i y)
  | [], i, h, _, _ => by simp at h
  | x :: xs, 0, h, hj, hy => by
    rw [Nat.zero_mul, Nat.zero_add, fl_cons, splice_left _ _ _ _ (by rw [Enc.len]; exact hj)]
    simp only [List.getD_cons_zero] at hy
    rw [hy, List.set_cons_zero, fl_cons]
  | x :: xs, i + 1, h, hj, hy => by
    rw [fl_cons, show (i + 1) * Enc.sz α + j = (Enc.cells x).length + (i * Enc.sz α + j) from by rw [Enc.len, Nat.add_mul, Nat.one_mul]; omega, splice_app,
      fl_splice y vs j xs i (by simpa using h) hj (by simpa using hy), List.set_cons_succ, fl_cons]

/-! ### Places and pieces -/
def ix [Enc α] (xs : List α) (i : Int) : α := xs.getD i.toNat default
def cut (xs : List α) (l h : Int) : List α := (xs.drop l.toNat).take (h.toNat - l.toNat)
theorem fl_ix [Enc α] (xs : List α) (i : Int) (j : Nat) (hj : j < Enc.sz α) (d : SV) (hd : (Enc.cells (default : α)).getD j d = d) : (fl xs).getD (i.toNat * Enc.sz α + j) d = (Enc.cells (ix xs i)).getD j d := by
  by_cases h : i.toNat < xs.length
  · exact fl_getD xs _ j h hj d
  · have e : ix xs i = default := by simp [ix, List.getD_eq_getElem?_getD, List.getElem?_eq_none (Nat.le_of_not_lt h)]
    rw [e, hd, List.getD_eq_getElem?_getD, List.getElem?_eq_none, Option.getD_none]
    rw [fl_length]
    have : xs.length * Enc.sz α ≤ i.toNat * Enc.sz α := Nat.mul_le_mul_right _ (Nat.le_of_not_lt h)
    omega
theorem fl_whole [Enc α] (xs : List α) (i : Int) (h : 0 ≤ i ∧ i < ((xs.length : Nat) : Int)) : ((fl xs).drop (i.toNat * Enc.sz α)).take (Enc.sz α) = Enc.cells (ix xs i) := fl_at xs i.toNat (by omega)
theorem fl_cell [Enc α] (xs : List α) (i : Int) (j : Nat) (h : 0 ≤ i ∧ i < ((xs.length : Nat) : Int)) (d : SV) (hj : j < Enc.sz α) : (fl xs).getD (i.toNat * Enc.sz α + j) d = (Enc.cells (ix xs i)).getD j d := fl_getD xs i.toNat j (by omega) hj d
theorem fl_set [Enc α] (xs : List α) (i : Int) (h : 0 ≤ i ∧ i < ((xs.length : Nat) : Int)) (y : α) (j : Nat) (vs : List SV) (hj : j + vs.length ≤ Enc.sz α) (hy : splice (Enc.cells (ix xs i)) j vs = Enc.cells y) : splice (fl xs) (i.toNat * Enc.sz α + j) vs = fl (xs.set i.toNat y) :=
  fl_splice y vs j xs i.toNat (by omega) hj hy
theorem fl_cut [Enc α] (xs : List α) (l h : Int) (k : 0 ≤ l ∧ l ≤ h ∧ h ≤ ((xs.length : Nat) : Int)) : SV.sl (h.toNat - l.toNat) (appCells (fl xs) (l.toNat * Enc.sz α) ((h.toNat - l.toNat) * Enc.sz α)) = SV.sl (cut xs l h).length (fl (cut xs l h)) := by
  rw [fl_app]
  congr 1
  simp only [cut, List.length_take, List.length_drop]
  omega
theorem fl_take_all [Enc α] (xs : List α) (n : Nat) (h : n = xs.length * Enc.sz α) : (fl xs).take n = fl xs := by
  rw [h, List.take_of_length_le (by rw [fl_length]; exact Nat.le_refl _)]
theorem fl_merge [Enc α] (xs ys : List α) : fl xs ++ fl ys = fl (xs ++ ys) := (fl_append xs ys).symm
theorem fl_snoc_list [Enc α] (xs : List (List α)) (y : List α) : fl xs ++ [SV.sl y.length (fl y)] = fl (xs ++ [y]) := by rw [fl_append]; rfl
theorem fl_snoc_int (xs : List Int) (y : Int) : fl xs ++ [SV.v (.int .i64 y)] = fl (xs ++ [y]) := by rw [fl_append]; rfl
theorem fl_snoc_bool (xs : List Bool) (y : Bool) : fl xs ++ [SV.v (.bool y)] = fl (xs ++ [y]) := by rw [fl_append]; rfl
theorem fl_cons_int (xs : List Int) (y : Int) : SV.v (.int .i64 y) :: fl xs = fl (y :: xs) := rfl
theorem fl_ld_int (xs : List Int) (i : Int) : (fl xs).getD i.toNat (SV.v (.int .i64 0)) = .v (.int .i64 (ix xs i)) := by
  have := fl_ix xs i 0 (by decide) (SV.v (.int .i64 0)) rfl
  rw [Nat.add_zero, show Enc.sz Int = 1 from rfl, Nat.mul_one] at this
  exact this
theorem fl_ld_bool (xs : List Bool) (i : Int) : (fl xs).getD i.toNat (SV.v (.bool false)) = .v (.bool (ix xs i)) := by
  have := fl_ix xs i 0 (by decide) (SV.v (.bool false)) rfl
  rw [Nat.add_zero, show Enc.sz Bool = 1 from rfl, Nat.mul_one] at this
  exact this
theorem fl_zeros [Enc α] (n : Nat) (cs : List SV) (h : cs = Enc.cells (default : α)) : ((List.range n).flatMap fun _ => cs) = fl (List.replicate n (default : α)) := by
  subst h
  induction n with
  | zero => rfl
  | succ n ih => rw [List.range_succ, List.flatMap_append, ih, List.replicate_succ', fl_append]; simp [fl]
theorem fl_zeros_int (n : Nat) : ((List.range n).flatMap fun _ => [SV.v (.int .i64 0)]) = fl (List.replicate n (default : Int)) := fl_zeros n _ rfl
theorem fl_zeros_bool (n : Nat) : ((List.range n).flatMap fun _ => [SV.v (.bool false)]) = fl (List.replicate n (default : Bool)) := fl_zeros n _ rfl
theorem renL_fl [Enc α] (τ : Nat → Nat) (xs : List α) : renL τ (fl xs) = fl xs := renL_cl (fl_cl xs)
theorem sz_int : Enc.sz Int = 1 := rfl
theorem sz_bool : Enc.sz Bool = 1 := rfl
theorem sz_list [Enc α] : Enc.sz (List α) = 1 := rfl
theorem cells_int (x : Int) : Enc.cells x = [SV.v (.int .i64 x)] := rfl
theorem cells_bool (x : Bool) : Enc.cells x = [SV.v (.bool x)] := rfl
theorem cells_lst [Enc α] (x : List α) : Enc.cells x = [SV.sl x.length (fl x)] := rfl
theorem range_0 : List.range 0 = [] := rfl
theorem range_1 : List.range 1 = [0] := rfl
theorem range_2 : List.range 2 = [0, 1] := rfl
theorem range_3 : List.range 3 = [0, 1, 2] := rfl
theorem range_4 : List.range 4 = [0, 1, 2, 3] := rfl
theorem range_5 : List.range 5 = [0, 1, 2, 3, 4] := rfl
theorem range_6 : List.range 6 = [0, 1, 2, 3, 4, 5] := rfl
def memN : List Nat → Nat → Bool
  | [], _ => false
  | a :: r, k => a == k || memN r k
theorem memN_mem : ∀ {l : List Nat} {k : Nat}, memN l k = true → k ∈ l
  | a :: r, k, h => by
    simp only [memN, Bool.or_eq_true, beq_iff_eq] at h
    rcases h with h | h
    · subst h; exact List.mem_cons_self ..
    · exact List.mem_cons_of_mem _ (memN_mem h)
def rowIs (c : Chunk) (cs : List SV) : Prop := match c with
  | .row _ cs' => cs' = cs
  | _ => False
/-- An own slice is frozen. -/
theorem leS_frz [Enc α] {hp hp' : Hp} {σ : List (Nat × Nat)} {frz : List Nat} {k n n' : Nat} (ys : List α) (h1 : n = ys.length) (h23 : memN frz k = true ∧ rowIs (getH hp k) (fl ys)) (h4 : n' = ys.length) : leS hp hp' σ frz (.own k 0 n) (.sl n' (fl ys)) = True := by
  obtain ⟨h2, h3⟩ := h23
  refine eq_true ?_
  simp only [leS]
  subst h1
  refine ⟨h4.symm, memN_mem h2, ?_⟩
  cases hk : getH hp k with
  | row e cs =>
    rw [hk] at h3
    simp only [rowIs] at h3
    subst h3
    refine ⟨e, fl ys, ys.length * Enc.sz α, rfl, fl_cl ys, fun h0 => by rw [h0, Nat.zero_mul], ?_⟩
    rw [appCells, List.drop_zero, fl_take_all ys _ rfl]
  | _ => rw [hk] at h3; exact h3.elim
theorem fl_cut_pre [Enc α] (ys : List α) (b : Int) : (fl (cut ys 0 b) <+: fl ys) = True := by
  refine eq_true ?_
  have : cut ys 0 b = ys.take b.toNat := by simp [cut]
  rw [this, ← fl_take]
  exact List.take_prefix _ _
/-! ### Maps from numbers to numbers -/
def mi (m : List (Int × Int)) : List (Value × SV) := m.map fun p => (.int .i64 p.1, .v (.int .i64 p.2))
def miGet (m : List (Int × Int)) (k : Int) : Int := ((m.find? fun p => k == p.1).map (·.2)).getD 0
def miHas (m : List (Int × Int)) (k : Int) : Bool := (m.find? fun p => k == p.1).isSome
def miSet (m : List (Int × Int)) (k v : Int) : List (Int × Int) := match m with
  | [] => [(k, v)]
  | p :: r => bif k == p.1 then (k, v) :: r else p :: miSet r k v
theorem stM_mi (m : List (Int × Int)) : stM (mi m) = true := by
  induction m with
  | nil => rfl
  | cons p r ih => simp only [mi, List.map_cons, stM, SV.st, Bool.true_and]; exact ih
theorem mi_nil : mi [] = [] := rfl
theorem mi_alike (m : List (Int × Int)) (k : Int) : (mi m).all (fun p => keyAlike (.int .i64 k) p.1) = true := by simp [mi, keyAlike]
theorem keyEq_int (k a : Int) : keyEq (.int .i64 k) (.int .i64 a) = (k == a) := by simp [keyEq]
theorem mi_find (k : Int) : ∀ (m : List (Int × Int)) (i : Nat), findS (.int .i64 k) (mi m) i = (m.findIdx? fun p => k == p.1).map fun j => (i + j, .v (.int .i64 (m.getD j (0, 0)).2))
  | [], i => rfl
  | p :: r, i => by
    show (bif keyEq (.int .i64 k) (.int .i64 p.1) then _ else findS _ (mi r) (i + 1)) = _
    rw [keyEq_int, List.findIdx?_cons]
    cases h : k == p.1 with
    | true => simp
    | false =>
      simp only [cond_false, mi_find k r (i + 1)]
      cases (r.findIdx? fun p => k == p.1) with
      | none => simp
      | some j => simp; omega
theorem mi_lookV (m : List (Int × Int)) (k : Int) : lookV (.int .i64 0) (.int .i64 k) (mi m) = .v (.int .i64 (miGet m k)) := by
  unfold lookV miGet
  induction m with
  | nil => rfl
  | cons p r ih =>
    rw [mi_find] at ih ⊢
    rw [List.findIdx?_cons, List.find?_cons]
    cases h : k == p.1 with
    | true => simp
    | false =>
      simp only [Bool.false_eq_true, if_false]
      cases hr : (r.findIdx? fun p => k == p.1) with
      | none => rw [hr] at ih; simpa using ih
      | some j => rw [hr] at ih; simpa using ih
theorem mi_lookB (m : List (Int × Int)) (k : Int) : lookB (.int .i64 k) (mi m) = miHas m k := by
  unfold lookB miHas
  rw [mi_find]
  rw [Bool.eq_iff_iff]
  simp
theorem mi_updL (m : List (Int × Int)) (k v : Int) : updL (.int .i64 k) (.v (.int .i64 v)) (mi m) = mi (miSet m k v) := by
  unfold updL
  rw [mi_find]
  induction m with
  | nil => rfl
  | cons p r ih =>
    rw [List.findIdx?_cons]
    unfold miSet
    cases h : k == p.1 with
    | true => simp [mi]
    | false =>
      simp only [Bool.false_eq_true, if_false, cond_false]
      cases hr : (r.findIdx? fun p => k == p.1) with
      | none => rw [hr] at ih; simp [mi] at ih ⊢; exact ih
      | some j => rw [hr] at ih; simp [mi] at ih ⊢; exact ih
end Go.Sx
