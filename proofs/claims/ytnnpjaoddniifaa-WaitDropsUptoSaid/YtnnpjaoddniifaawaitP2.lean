/-
  wait, plain: loops over lines.
-/
import Derived.Test.YtnnpjaoddniifaawaitP
set_option linter.unusedSimpArgs false
set_option linter.unusedVariables false
namespace Go.Proofs.Ytnnpjaoddniifaa
open Go Go.Sx
set_option linter.unusedVariables false
set_option linter.unusedSimpArgs false
structure Fit (l : List Line) : Prop where
  len : l.length ≤ 2000000
  tot : (flat l).length ≤ 2000000
theorem len_le_flat {l : List Line} {w : Line} (h : w ∈ l) : w.Tasks.length ≤ (flat l).length := by
  induction l with
  | nil => cases h
  | cons a l ih =>
    simp only [flat, List.flatMap_cons, List.length_append]
    rcases List.mem_cons.1 h with rfl | h
    · omega
    · have := ih h; unfold flat at this; omega
theorem Fit.fits {l : List Line} (h : Fit l) : Fits l := fun w hw => Nat.le_trans (len_le_flat hw) h.tot
theorem Ok.fit {l : List Line} (h : Ok l) : Fit l := ⟨by have := h.len; omega, by have := h.tot; omega⟩
theorem flat_cons (w : Line) (l : List Line) : flat (w :: l) = w.Tasks ++ flat l := rfl
theorem flat_app (a b : List Line) : flat (a ++ b) = flat a ++ flat b := by simp [flat]
theorem had_le (l : List Line) (i : Nat) : (hadOf l i).length ≤ (flat l).length := by
  unfold hadOf flat
  conv => rhs; rw [← List.take_append_drop i l, List.flatMap_append, List.length_append]
  omega
section
variable {l : List Line} {i : Nat}
theorem t1 (h : i < l.length) : decide (((i : Nat) : Int) < ((l.length : Nat) : Int)) = true := decide_eq_true (by omega)
theorem t2 : decide ((0 : Int) ≤ ((i : Nat) : Int)) = true := decide_eq_true (by omega)
theorem t0 : decide (((l.length : Nat) : Int) < ((l.length : Nat) : Int)) = false := decide_eq_false (by omega)
end
theorem vast_eq (l : List Line) (hf : Fit l) : taskmilllaw_vastLines l = some (decide (6000 < l.length) || decide (6000 < (flat l).length)) := by
  have h1 := hf.len; have h2 := hf.tot
  have key : ∀ n : Nat, decide ((6000 : Int) < ((n : Nat) : Int)) = decide (6000 < n) := fun n => decide_eq_decide.2 (by omega)
  have := loopO_up (step := taskmilllaw_vastLines_l1 l) l.length (fun i (_ : Unit) => (((hadOf l i).length : Int), (i : Int))) (fun _ _ => True) (fun _ _ => some (decide (6000 < l.length) || decide (6000 < (flat l).length)))
    (fun _ _ => by simp only [taskmilllaw_vastLines_l1, t0, cond_false, had_all, key]) (fun i _ hi _ => by
      refine .inl ⟨(), ?_, trivial, rfl⟩
      have hL : ix l (i : Int) = L l i := rfl
      have h3 := had_le l (i + 1)
      rw [had_succ hi, List.length_append] at h3
      simp only [taskmilllaw_vastLines_l1, t1 hi, t2, hL, cond_true, Bool.and_true, wrap_n1 i (by omega), had_succ hi, List.length_append]
      rw [wrap_id (by omega) (by omega)]
      norm_cast) () trivial
  exact this
theorem take_succ_L {l : List Line} {i : Nat} (h : i < l.length) : l.take i ++ [L l i] = l.take (i + 1) := by rw [List.take_succ_eq_append_getElem h, L_get h]
theorem ownLines_eq (l : List Line) (hf : Fit l) : taskmilllaw_ownLines l = some l := by
  have h1 := hf.len; have h2 := hf.tot
  have := loopO_up (step := taskmilllaw_ownLines_l1 l) l.length (fun i (_ : Unit) => ((i : Int), l.take i)) (fun _ _ => True) (fun _ _ => some l)
    (fun _ _ => by simp only [taskmilllaw_ownLines_l1, t0, cond_false, List.take_length]) (fun i _ hi _ => by
      refine .inl ⟨(), ?_, trivial, rfl⟩
      have hL : ix l (i : Int) = L l i := rfl
      have h3 := fits_at hf.fits hi
      have e : (Line.mk (L l i).At (L l i).Tasks) = L l i := rfl
      have k : (l.take (i + 1)).length * 32 ≤ 140737488355328 := by rw [List.length_take]; omega
      simp only [taskmilllaw_ownLines_l1, t1 hi, t2, hL, cond_true, Bool.and_true, wrap_n1 i (by omega), own_eq _ (show (L l i).Tasks.length ≤ 10000000 by omega), Option.bind_some, e, take_succ_L hi, decide_eq_true k]) () trivial
  exact this
theorem waiting_eq (l : List Line) (hf : Fit l) : taskmillref_Waiting l = some (flat l) := by
  have h1 := hf.len; have h2 := hf.tot
  have := loopO_up (step := taskmillref_Waiting_l1 l) l.length (fun i (_ : Unit) => ((i : Int), hadOf l i)) (fun _ _ => True) (fun _ _ => some (flat l))
    (fun _ _ => by simp only [taskmillref_Waiting_l1, t0, cond_false, had_all]) (fun i _ hi _ => by
      refine .inl ⟨(), ?_, trivial, rfl⟩
      have hL : ix l (i : Int) = L l i := rfl
      have h3 := had_le l (i + 1)
      have k : (hadOf l (i + 1)).length * 8 ≤ 140737488355328 := by omega
      simp only [taskmillref_Waiting_l1, t1 hi, t2, hL, cond_true, Bool.and_true, wrap_n1 i (by omega), ← had_succ hi, decide_eq_true k]) () trivial
  exact this
def atL : List Line → Int → List Int
  | [], _ => []
  | w :: l, a => if w.At = a then w.Tasks else atL l a
theorem drop_L {l : List Line} {i : Nat} (h : i < l.length) : l.drop i = L l i :: l.drop (i + 1) := by rw [L_get h]; exact drop_at h
theorem at_eq (l : List Line) (a : Int) (hn : l.length ≤ 2000000) : taskmillref_AtLine l a = some (atL l a) := by
  have := loopO_up (step := taskmillref_AtLine_l1 l a) l.length (fun i (_ : Unit) => (i : Int)) (fun _ _ => True) (fun i _ => some (atL (l.drop i) a))
    (fun _ _ => by simp only [taskmillref_AtLine_l1, t0, cond_false, List.drop_length]; rfl) (fun i _ hi _ => by
      have hL : ix l (i : Int) = L l i := rfl
      by_cases h : (L l i).At = a
      · right
        simp only [taskmillref_AtLine_l1, t1 hi, t2, hL, cond_true, Bool.and_true, h, beq_self_eq_true, drop_L hi, atL, if_pos]
        try rfl
      · left
        refine ⟨(), ?_, trivial, ?_⟩
        · have h' : ((L l i).At == a) = false := by simpa using h
          simp only [taskmillref_AtLine_l1, t1 hi, t2, hL, cond_true, cond_false, Bool.and_true, h', wrap_n1 i (by omega)]
        · rw [drop_L hi, atL, if_neg h]) () trivial
  exact this
theorem same_eq (a b : List Line) (ha : Fit a) : taskmillref_SameLines a b = some (decide (a = b)) := by
  have h1 := ha.len
  unfold taskmillref_SameLines
  by_cases hl : a.length = b.length
  · have e0 : (((a.length : Nat) : Int) != ((b.length : Nat) : Int)) = false := by simp [hl]
    rw [e0, cond_false]
    have := loopO_up (step := taskmillref_SameLines_l1 a b) a.length (fun i (_ : Unit) => (i : Int)) (fun _ _ => True) (fun i _ => some (decide (a.drop i = b.drop i)))
      (fun _ _ => by
        have : a.drop a.length = b.drop a.length := by rw [List.drop_length, hl, List.drop_length]
        simp only [taskmillref_SameLines_l1, t0, cond_false, this, decide_true]) (fun i _ hi _ => by
        have hi2 : i < b.length := by omega
        have hL : ix a (i : Int) = L a i := rfl
        have hM : ix b (i : Int) = L b i := rfl
        have h3 := fits_at ha.fits hi
        have hd : decide (a.drop i = b.drop i) = (decide (L a i = L b i) && decide (a.drop (i + 1) = b.drop (i + 1))) := by
          rw [drop_L hi, drop_L hi2, Bool.eq_iff_iff]; simp
        have hline : ∀ x y : Line, x = y ↔ x.At = y.At ∧ x.Tasks = y.Tasks := fun x y => by cases x; cases y; simp
        by_cases h4 : (L a i).At = (L b i).At
        · have e4 : ((L a i).At != (L b i).At) = false := by simp [h4]
          by_cases h5 : (L a i).Tasks = (L b i).Tasks
          · left
            refine ⟨(), ?_, trivial, ?_⟩
            · simp only [taskmillref_SameLines_l1, t1 hi, t1 hi2, t2, hL, hM, cond_true, cond_false, Bool.and_true, e4, ints_eq _ _ (show (L a i).Tasks.length < 4611686018427387904 by omega), decide_eq_true h5, Option.bind_some, taskmillref_SameLines_j1, Bool.not_true, wrap_n1 i (by omega)]
            · rw [hd, decide_eq_true ((hline _ _).2 ⟨h4, h5⟩), Bool.true_and]
          · right
            simp only [taskmillref_SameLines_l1, t1 hi, t1 hi2, t2, hL, hM, cond_true, cond_false, Bool.and_true, e4, ints_eq _ _ (show (L a i).Tasks.length < 4611686018427387904 by omega), decide_eq_false h5, Option.bind_some, taskmillref_SameLines_j1, Bool.not_false, hd, decide_eq_false (fun h => h5 ((hline _ _).1 h).2), Bool.false_and]
        · have e4 : ((L a i).At != (L b i).At) = true := by simpa using h4
          right
          simp only [taskmillref_SameLines_l1, t1 hi, t1 hi2, t2, hL, hM, cond_true, Bool.and_true, e4, taskmillref_SameLines_j1, hd, decide_eq_false (fun h => h4 ((hline _ _).1 h).1), Bool.false_and]) () trivial
    simpa using this
  · have e0 : (((a.length : Nat) : Int) != ((b.length : Nat) : Int)) = true := by simp; omega
    rw [e0, cond_true, decide_eq_false (fun e => hl (by rw [e]))]
/-! ### Other tasks at an address -/
def one (a : Int) (ts : List Int) : List Line := if ts = [] then [] else [⟨a, ts⟩]
def setL (l : List Line) (a : Int) (ts : List Int) : List Line := l.filter (fun w => decide (w.At < a)) ++ one a ts ++ l.filter (fun w => decide (a < w.At))
def setR (a : Int) (ts : List Int) : List Line → Bool → List Line
  | [], p => if p then [] else one a ts
  | w :: l, p => if w.At = a then (if p then [] else one a ts) ++ setR a ts l true else if a < w.At then (if p then [] else one a ts) ++ w :: setR a ts l true else w :: setR a ts l p
theorem setR_above (a : Int) (ts : List Int) : ∀ l : List Line, (∀ w ∈ l, a < w.At) → setR a ts l true = l
  | [], _ => rfl
  | w :: l, h => by
    have h1 := h w (by simp)
    simp only [setR]
    rw [if_neg (by omega), if_pos h1, setR_above a ts l fun x hx => h x (by simp [hx])]
    rfl
theorem filter_none {p : Line → Bool} {l : List Line} (h : ∀ w ∈ l, p w = false) : l.filter p = [] := List.filter_eq_nil_iff.2 fun w hw => by simp [h w hw]
theorem filter_all {p : Line → Bool} {l : List Line} (h : ∀ w ∈ l, p w = true) : l.filter p = l := List.filter_eq_self.2 h
theorem setR_eq (a : Int) (ts : List Int) : ∀ l : List Line, (l.Pairwise fun x y => x.At < y.At) → setR a ts l false = setL l a ts
  | [], _ => by simp [setR, setL]
  | w :: l, h => by
    obtain ⟨h1, h2⟩ := List.pairwise_cons.1 h
    simp only [setR, setL]
    by_cases h3 : w.At = a
    · rw [if_pos h3, setR_above a ts l fun x hx => h3 ▸ h1 x hx]
      rw [List.filter_cons_of_neg (by simp; omega), List.filter_cons_of_neg (by simp; omega), filter_none (fun x hx => by have := h1 x hx; simp; omega), filter_all (fun x hx => by have := h1 x hx; simp; omega)]
      rfl
    · rw [if_neg h3]
      by_cases h4 : a < w.At
      · rw [if_pos h4, setR_above a ts l fun x hx => Int.lt_trans h4 (h1 x hx)]
        rw [List.filter_cons_of_neg (by simp; omega), List.filter_cons_of_pos (by simp; omega), filter_none (fun x hx => by have := h1 x hx; simp; omega), filter_all (fun x hx => by have := h1 x hx; simp; omega)]
        rfl
      · rw [if_neg h4, setR_eq a ts l h2]
        rw [List.filter_cons_of_pos (by simp; omega), List.filter_cons_of_neg (by simp; omega)]
        rfl
theorem set_eq (l : List Line) (a : Int) (ts : List Int) (hn : l.length ≤ 2000000) (hs : l.Pairwise fun x y => x.At < y.At) : taskmillref_SetLine l a ts = some (setL l a ts) := by
  have hadd : ∀ (p : Bool) (out : List Line), out.length ≤ 5000000 → taskmillref_SetLine_1_1 p ts a out = some (true, ts, out ++ (if p then [] else one a ts), a) := fun p out ho => by
    unfold taskmillref_SetLine_1_1
    cases p with
    | true => simp [taskmillref_SetLine_1_1_j1]
    | false =>
      by_cases ht : ts = []
      · subst ht; simp [taskmillref_SetLine_1_1_j1, one]
      · have e : decide ((0 : Int) < ((ts.length : Nat) : Int)) = true := decide_eq_true (by have := List.length_pos_iff.2 ht; omega)
        have k : (out ++ [Line.mk a ts]).length * 32 ≤ 140737488355328 := by simp; omega
        simp only [Bool.not_false, Bool.true_and, e, cond_true, decide_eq_true k, taskmillref_SetLine_1_1_j1, one, if_neg ht, Bool.false_eq_true, if_false]
  have := loopO_up (step := taskmillref_SetLine_l1 l) l.length (fun i (p : Bool × List Line) => ((i : Int), a, p.1, ts, p.2)) (fun i p => p.2.length ≤ 2 * i) (fun i p => some (p.2 ++ setR a ts (l.drop i) p.1))
    (fun p hp => by simp only [taskmillref_SetLine_l1, t0, cond_false, hadd p.1 p.2 (by omega), Option.bind_some, List.drop_length, setR, Option.map_some]) (fun i p hi hp => by
      left
      have hL : ix l (i : Int) = L l i := rfl
      have hone : (one a ts).length ≤ 1 := by unfold one; split <;> simp
      by_cases h3 : (L l i).At = a
      · refine ⟨(true, p.2 ++ (if p.1 then [] else one a ts)), ?_, ?_, ?_⟩
        · have h3' : ((L l i).At == a) = true := by simp [h3]
          simp only [taskmillref_SetLine_l1, t1 hi, t2, hL, cond_true, Bool.and_true, h3', hadd p.1 p.2 (by omega), Option.bind_some, taskmillref_SetLine_j1, wrap_n1 i (by omega)]
        · simp only [List.length_append]; split
          · simp; omega
          · omega
        · rw [drop_L hi]; simp only [setR, if_pos h3, List.append_assoc]
      · have h3' : ((L l i).At == a) = false := by simpa using h3
        by_cases h4 : a < (L l i).At
        · have k : (p.2 ++ (if p.1 then [] else one a ts) ++ [L l i]).length * 32 ≤ 140737488355328 := by
            simp only [List.length_append, List.length_singleton]; split
            · simp; omega
            · omega
          refine ⟨(true, p.2 ++ (if p.1 then [] else one a ts) ++ [L l i]), ?_, ?_, ?_⟩
          · simp only [taskmillref_SetLine_l1, t1 hi, t2, hL, cond_true, cond_false, Bool.and_true, h3', decide_eq_true h4, hadd p.1 p.2 (by omega), Option.bind_some, taskmillref_SetLine_j2, taskmillref_SetLine_j1, decide_eq_true k, wrap_n1 i (by omega)]
          · simp only [List.length_append, List.length_singleton]; split
            · simp; omega
            · omega
          · rw [drop_L hi]; simp only [setR, if_neg h3, if_pos h4, List.append_assoc, List.singleton_append]
        · have k : (p.2 ++ [L l i]).length * 32 ≤ 140737488355328 := by simp; omega
          refine ⟨(p.1, p.2 ++ [L l i]), ?_, ?_, ?_⟩
          · simp only [taskmillref_SetLine_l1, t1 hi, t2, hL, cond_true, cond_false, Bool.and_true, h3', decide_eq_false h4, taskmillref_SetLine_j2, taskmillref_SetLine_j1, decide_eq_true k, wrap_n1 i (by omega)]
          · simp only [List.length_append, List.length_singleton]; omega
          · rw [drop_L hi]; simp only [setR, if_neg h3, if_neg h4, List.append_assoc, List.singleton_append]) (false, []) (by simp)
  simp only [List.drop_zero, List.nil_append] at this
  rw [setR_eq a ts l hs] at this
  exact this
end Go.Proofs.Ytnnpjaoddniifaa
