/-
  wait, plain: Add, Wake, Drop, Move.
-/
import Derived.Test.YtnnpjaoddniifaawaitP2
set_option linter.unusedSimpArgs false
set_option linter.unusedVariables false
namespace Go.Proofs.Ytnnpjaoddniifaa
open Go Go.Sx
set_option linter.unusedVariables false
set_option linter.unusedSimpArgs false
theorem cmp_eq (x y : Int) : cmp_Compare_int x y = some (if x < y then -1 else if y < x then 1 else 0) := by
  simp only [cmp_Compare_int, cmp_isNaN_int, bne_self_eq_false, Option.bind_some, cond_false]
  by_cases h1 : x < y
  · simp [h1]
  · by_cases h2 : y < x
    · simp [h1, h2]
    · simp [h1, h2]
theorem srt_at {l : List Line} (hs : l.Pairwise fun x y => x.At < y.At) {i j : Nat} (h : i < j) (hj : j < l.length) : (L l i).At < (L l j).At := by
  rw [L_get hj, L_get (by omega)]
  exact List.pairwise_iff_getElem.1 hs i j (by omega) hj h
/-- Where an address is, or would be. -/
structure Place (l : List Line) (a : Int) (i : Nat) : Prop where
  le : i ≤ l.length
  lo : ∀ k, k < i → (L l k).At < a
  hi : ∀ k, i ≤ k → k < l.length → a ≤ (L l k).At
theorem find_eq (l : List Line) (a : Int) (hn : l.length ≤ 2000000) (hs : l.Pairwise fun x y => x.At < y.At) :
    ∃ i, Place l a i ∧ wait_find l a = some ((i : Int), decide (i < l.length ∧ (L l i).At = a)) := by
  have hb := bs_gen (step := slices_BinarySearchFunc_int_l1 l a) l.length (fun k => decide ((L l k).At < a)) (fun i => some ((i : Int), decide (i < l.length ∧ (L l i).At = a)))
    (fun p q h1 h2 h3 => by have := srt_at hs h1 h2; simp only [decide_eq_true_eq] at h3 ⊢; omega)
    (fun i j hij hj => by
      have hmid : (i + j) / 2 < l.length := by omega
      have hL : ix l (((i + j) / 2 : Nat) : Int) = L l ((i + j) / 2) := rfl
      simp only [slices_BinarySearchFunc_int_l1, decide_eq_true (show (i : Int) < (j : Int) by omega), cond_true, mid_eq i j (by omega), t1 hmid, t2, Bool.and_true, hL, wait_find_1, cmp_eq, Option.bind_some]
      by_cases h : (L l ((i + j) / 2)).At < a
      · simp only [h, if_pos, decide_true, show decide ((-1 : Int) < 0) = true from rfl, cond_true]
        rw [wrap_n1 _ (by omega)]
      · have : decide ((if (L l ((i + j) / 2)).At < a then (-1 : Int) else if a < (L l ((i + j) / 2)).At then 1 else 0) < 0) = false := by
          rw [if_neg h]; split <;> rfl
        rw [this, if_neg (by simpa using h)]; rfl)
    (fun i hi hlo hhi => by
      by_cases h : i < l.length
      · have hL : ix l (i : Int) = L l i := rfl
        have h2 := hhi i (Nat.le_refl _) h
        simp only [decide_eq_false_iff_not] at h2
        simp only [slices_BinarySearchFunc_int_l1, decide_eq_false (show ¬ (i : Int) < (i : Int) by omega), cond_false, t1 h, t2, cond_true, Bool.and_true, hL, wait_find_1, cmp_eq, Option.bind_some, slices_BinarySearchFunc_int_j1]
        by_cases h3 : (L l i).At = a
        · simp [h3, h]
        · rw [if_neg h2, if_pos (by omega)]
          simp [h3]
      · simp only [slices_BinarySearchFunc_int_l1, decide_eq_false (show ¬ (i : Int) < (i : Int) by omega), cond_false, decide_eq_false (show ¬ ((i : Nat) : Int) < ((l.length : Nat) : Int) by omega), slices_BinarySearchFunc_int_j1]
        simp [h])
  obtain ⟨i, h1, h2, h3, h4⟩ := hb
  refine ⟨i, ⟨h1, fun k hk => by simpa using h2 k hk, fun k hk hn => by have := h3 k hk hn; simp only [decide_eq_false_iff_not] at this; omega⟩, ?_⟩
  unfold wait_find slices_BinarySearchFunc_int
  rw [h4]; rfl
theorem place_lo {l : List Line} {a : Int} {i : Nat} (h : Place l a i) : l.filter (fun w => decide (w.At < a)) = l.take i := by
  conv => lhs; rw [← List.take_append_drop i l, List.filter_append]
  rw [filter_all fun w hw => ?_, filter_none fun w hw => ?_, List.append_nil]
  · obtain ⟨k, hk, rfl⟩ := List.mem_drop_iff_getElem.1 hw
    have := h.hi (i + k) (by omega) (by omega)
    rw [L_get (by omega)] at this
    simpa using this
  · obtain ⟨k, hk, rfl⟩ := List.mem_take_iff_getElem.1 hw
    have := h.lo k (by omega)
    rw [L_get (by omega)] at this
    simpa using this
theorem atL_none {a : Int} : ∀ {l : List Line}, (∀ w ∈ l, w.At ≠ a) → atL l a = []
  | [], _ => rfl
  | w :: l, h => by rw [atL, if_neg (h w (by simp)), atL_none fun x hx => h x (by simp [hx])]
theorem atL_app {a : Int} : ∀ {l r : List Line}, (∀ w ∈ l, w.At ≠ a) → atL (l ++ r) a = atL r a
  | [], r, _ => rfl
  | w :: l, r, h => by rw [List.cons_append, atL, if_neg (h w (by simp)), atL_app fun x hx => h x (by simp [hx])]
theorem place_hit {l : List Line} {a : Int} {i : Nat} (hs : l.Pairwise fun x y => x.At < y.At) (h : Place l a i) (hi : i < l.length) (ha : (L l i).At = a) :
    l.filter (fun w => decide (a < w.At)) = l.drop (i + 1) ∧ atL l a = (L l i).Tasks := by
  constructor
  · conv => lhs; rw [← List.take_append_drop (i + 1) l, List.filter_append]
    rw [filter_none fun w hw => ?_, filter_all fun w hw => ?_, List.nil_append]
    · obtain ⟨k, hk, rfl⟩ := List.mem_drop_iff_getElem.1 hw
      have := srt_at hs (show i < i + 1 + k by omega) (by omega)
      rw [ha, L_get (show i + 1 + k < l.length by omega)] at this
      simpa using this
    · obtain ⟨k, hk, rfl⟩ := List.mem_take_iff_getElem.1 hw
      by_cases hki : k = i
      · subst hki; rw [L_get hi] at ha; simp [ha]
      · have := h.lo k (by omega)
        rw [L_get (by omega)] at this
        simp; omega
  · have e : l = l.take i ++ L l i :: l.drop (i + 1) := by rw [← drop_L hi, List.take_append_drop]
    conv => lhs; rw [e]
    rw [atL_app fun w hw => ?_, atL, if_pos ha]
    obtain ⟨k, hk, rfl⟩ := List.mem_take_iff_getElem.1 hw
    have := h.lo k (by omega)
    rw [L_get (by omega)] at this
    omega
theorem place_miss {l : List Line} {a : Int} {i : Nat} (h : Place l a i) (hi : ¬ (i < l.length ∧ (L l i).At = a)) (hs : l.Pairwise fun x y => x.At < y.At) :
    l.filter (fun w => decide (a < w.At)) = l.drop i ∧ atL l a = [] := by
  have hgt : ∀ k, i ≤ k → k < l.length → a < (L l k).At := fun k hk hn => by
    have h1 := h.hi k hk hn
    by_cases he : (L l k).At = a
    · by_cases hki : k = i
      · subst hki; exact absurd ⟨hn, he⟩ hi
      · have := srt_at hs (show i < k by omega) hn
        have := h.hi i (Nat.le_refl _) (by omega)
        omega
    · omega
  constructor
  · conv => lhs; rw [← List.take_append_drop i l, List.filter_append]
    rw [filter_none fun w hw => ?_, filter_all fun w hw => ?_, List.nil_append]
    · obtain ⟨k, hk, rfl⟩ := List.mem_drop_iff_getElem.1 hw
      have := hgt (i + k) (by omega) (by omega)
      rw [L_get (by omega)] at this
      simpa using this
    · obtain ⟨k, hk, rfl⟩ := List.mem_take_iff_getElem.1 hw
      have := h.lo k (by omega)
      rw [L_get (by omega)] at this
      simp; omega
  · refine atL_none fun w hw he => ?_
    obtain ⟨k, hk, rfl⟩ := List.getElem_of_mem hw
    rw [← L_get hk] at he
    by_cases hki : k < i
    · have := h.lo k hki; omega
    · have := hgt k (by omega) hk; omega
/-! ### with -/
def wR (i : Int) (ts : List Int) : List Line → Nat → List Line
  | [], _ => []
  | w :: l, j => (if (j : Int) = i then one w.At ts else one w.At w.Tasks) ++ wR i ts l (j + 1)
theorem one_len (a : Int) (ts : List Int) : (one a ts).length ≤ 1 := by unfold one; split <;> simp
theorem with_gen (l : List Line) (i : Int) (ts : List Int) (hf : Fit l) (ht : ts.length ≤ 3000000) : wait_with l i ts = some (wR i ts l 0) := by
  have h1 := hf.len
  have hput : ∀ (j : Nat) (out : List Line) (us : List Int), out.length ≤ 3000000 → us.length ≤ 3000000 → j < l.length → wait_with_j2 l i ts (j : Int) out us = some (.inl (((j + 1 : Nat) : Int), out ++ one (L l j).At us)) := fun j out us ho hu hj => by
    have hL : ix l (j : Int) = L l j := rfl
    by_cases h0 : us = []
    · subst h0; simp [wait_with_j2, wait_with_j1, one, wrap_n1 j (by omega)]
    · have e : decide ((0 : Int) < ((us.length : Nat) : Int)) = true := decide_eq_true (by have := List.length_pos_iff.2 h0; omega)
      have k : (out ++ [Line.mk (L l j).At us]).length * 32 ≤ 140737488355328 := by simp; omega
      simp only [wait_with_j2, wait_with_j1, e, cond_true, clone_eq us (by omega), Option.bind_some, hL, decide_eq_true k, wrap_n1 j (show j < 4611686018427387904 by omega), one, if_neg h0]
  have := loopO_up (step := wait_with_l1 l i ts) l.length (fun j (out : List Line) => ((j : Int), out)) (fun j out => out.length ≤ j) (fun j out => some (out ++ wR i ts (l.drop j) j))
    (fun out _ => by simp only [wait_with_l1, t0, cond_false, List.drop_length, wR, List.append_nil, Option.map_some]) (fun j out hj ho => by
      left
      have hL : ix l (j : Int) = L l j := rfl
      have h3 := fits_at hf.fits hj
      refine ⟨out ++ (if (j : Int) = i then one (L l j).At ts else one (L l j).At (L l j).Tasks), ?_, ?_, ?_⟩
      · by_cases hi : (j : Int) = i
        · have hi' : ((j : Int) == i) = true := by simpa using hi
          simp only [wait_with_l1, t1 hj, t2, cond_true, Bool.and_true, hi', hput j out ts (by omega) ht hj, if_pos hi]
        · have hi' : ((j : Int) == i) = false := by simpa using hi
          simp only [wait_with_l1, t1 hj, t2, cond_true, cond_false, Bool.and_true, hi', hL, hput j out (L l j).Tasks (by omega) (by omega) hj, if_neg hi]
      · have := one_len (L l j).At ts
        have := one_len (L l j).At (L l j).Tasks
        rw [List.length_append]; split <;> omega
      · rw [drop_L hj]; simp only [wR, List.append_assoc]) [] (Nat.zero_le _)
  exact this
theorem wR_none (i : Int) (ts : List Int) : ∀ (l : List Line) (j : Nat), (∀ w ∈ l, w.Tasks ≠ []) → (i < (j : Int)) → wR i ts l j = l
  | [], _, _, _ => rfl
  | w :: l, j, h, hi => by
    rw [wR, if_neg (by omega), wR_none i ts l (j + 1) (fun x hx => h x (by simp [hx])) (by omega), one, if_neg (h w (by simp))]
    rfl
theorem wR_at (ts : List Int) : ∀ (l : List Line) (j k : Nat), (∀ w ∈ l.take k, w.Tasks ≠ []) → (∀ w ∈ l.drop (k + 1), w.Tasks ≠ []) → k < l.length → wR ((j + k : Nat) : Int) ts l j = l.take k ++ one (L l k).At ts ++ l.drop (k + 1)
  | [], _, _, _, _, hk => by simp at hk
  | w :: l, j, 0, h, h', hk => by
    rw [wR, if_pos (by omega), wR_none _ _ l (j + 1) (fun x hx => h' x (by simpa using hx)) (by omega)]
    rfl
  | w :: l, j, k + 1, h, h', hk => by
    have hk' : k < l.length := by simpa using hk
    have hL : L (w :: l) (k + 1) = L l k := by rw [L_get hk, L_get hk']; rfl
    rw [wR, if_neg (by omega), one, if_neg (h w (by simp)), show j + (k + 1) = j + 1 + k by omega, wR_at ts l (j + 1) k (fun x hx => h x (by simp [hx])) (fun x hx => h' x (by simpa using hx)) hk', hL]
    simp
/-! ### Lines with other tasks at one address -/
def low (l : List Line) (a : Int) : List Int := flat (l.filter fun w => decide (w.At < a))
def high (l : List Line) (a : Int) : List Int := flat (l.filter fun w => decide (a < w.At))
theorem flat_one (a : Int) (ts : List Int) : flat (one a ts) = ts := by
  unfold one; split
  · rename_i h; subst h; rfl
  · simp [flat]
theorem setL_flat (l : List Line) (a : Int) (ts : List Int) : flat (setL l a ts) = low l a ++ ts ++ high l a := by
  unfold setL; rw [flat_app, flat_app, flat_one]; rfl
theorem one_at {a : Int} {ts : List Int} {w : Line} (h : w ∈ one a ts) : w.At = a ∧ w.Tasks = ts ∧ ts ≠ [] := by
  unfold one at h; split at h
  · cases h
  · rename_i hn; simp at h; subst h; exact ⟨rfl, rfl, hn⟩
theorem setL_srt {l : List Line} (hs : l.Pairwise fun x y => x.At < y.At) (a : Int) (ts : List Int) : (setL l a ts).Pairwise fun x y => x.At < y.At := by
  unfold setL
  rw [List.pairwise_append, List.pairwise_append]
  refine ⟨⟨hs.filter _, ?_, fun x hx y hy => ?_⟩, hs.filter _, fun x hx y hy => ?_⟩
  · unfold one; split <;> simp
  · have := (one_at hy).1; have := (List.mem_filter.1 hx).2; simp at this; omega
  · have h2 := (List.mem_filter.1 hy).2; simp at h2
    rcases List.mem_append.1 hx with h | h
    · have := (List.mem_filter.1 h).2; simp at this; omega
    · have := (one_at h).1; omega
theorem setL_lo (l : List Line) (a : Int) (ts : List Int) : (setL l a ts).filter (fun w => decide (w.At < a)) = l.filter (fun w => decide (w.At < a)) := by
  unfold setL
  rw [List.filter_append, List.filter_append, List.filter_filter]
  rw [filter_none (l := one a ts) fun w hw => by have := (one_at hw).1; simp; omega, filter_none (l := l.filter _) fun w hw => by have := (List.mem_filter.1 hw).2; simp at this ⊢; omega]
  simp
theorem setL_hi (l : List Line) (a : Int) (ts : List Int) : (setL l a ts).filter (fun w => decide (a < w.At)) = l.filter (fun w => decide (a < w.At)) := by
  unfold setL
  rw [List.filter_append, List.filter_append, List.filter_filter]
  rw [filter_none (l := one a ts) fun w hw => by have := (one_at hw).1; simp; omega]
  have : l.filter (fun w => decide (a < w.At) && decide (w.At < a)) = [] := filter_none fun w _ => by simp; omega
  rw [this]; simp [List.filter_filter]
theorem setL_setL (l : List Line) (a : Int) (x y : List Int) : setL (setL l a x) a y = setL l a y := by
  show (setL l a x).filter _ ++ one a y ++ (setL l a x).filter _ = _
  rw [setL_lo, setL_hi]; rfl
theorem atL_one (a : Int) (ts : List Int) (r : List Line) (hr : ∀ w ∈ r, w.At ≠ a) : atL (one a ts ++ r) a = ts := by
  unfold one; split
  · rename_i h; subst h; exact atL_none hr
  · simp [atL]
theorem setL_at (l : List Line) (a : Int) (ts : List Int) : atL (setL l a ts) a = ts := by
  unfold setL
  rw [List.append_assoc, atL_app fun w hw => by have := (List.mem_filter.1 hw).2; simp at this; omega]
  exact atL_one _ _ _ fun w hw => by have := (List.mem_filter.1 hw).2; simp at this; omega
theorem split_eq {l : List Line} (hs : l.Pairwise fun x y => x.At < y.At) (a : Int) (hn : l.length ≤ 2000000) (hne : ∀ w ∈ l, w.Tasks ≠ []) : setL l a (atL l a) = l := by
  obtain ⟨i, hp, _⟩ := find_eq l a hn hs
  unfold setL
  rw [place_lo hp]
  by_cases h : i < l.length ∧ (L l i).At = a
  · obtain ⟨h1, h2⟩ := place_hit hs hp h.1 h.2
    have e : one a (L l i).Tasks = [L l i] := by
      unfold one; rw [if_neg (hne _ (L_mem h.1)), ← h.2]
    rw [h1, h2, e, List.append_assoc, List.singleton_append, ← drop_L h.1, List.take_append_drop]
  · obtain ⟨h1, h2⟩ := place_miss hp h hs
    rw [h1, h2, show one a [] = [] from rfl, List.append_nil, List.take_append_drop]
theorem flat_split {l : List Line} (h : Ok l) (a : Int) : flat l = low l a ++ atL l a ++ high l a := by
  conv => lhs; rw [← split_eq h.srt a h.fit.len h.ne]
  rw [setL_flat]
theorem flat_len {l : List Line} (h : ∀ w ∈ l, w.Tasks ≠ []) : l.length ≤ (flat l).length := by
  induction l with
  | nil => exact Nat.zero_le _
  | cons w l ih =>
    have := ih fun x hx => h x (by simp [hx])
    have := List.length_pos_iff.2 (h w (by simp))
    rw [flat_cons, List.length_append, List.length_cons]; omega
theorem setL_ne {l : List Line} (h : ∀ w ∈ l, w.Tasks ≠ []) (a : Int) (ts : List Int) : ∀ w ∈ setL l a ts, w.Tasks ≠ [] := fun w hw => by
  unfold setL at hw
  rcases List.mem_append.1 hw with hw | hw
  · rcases List.mem_append.1 hw with hw | hw
    · exact h w (List.mem_filter.1 hw).1
    · obtain ⟨_, h2, h3⟩ := one_at hw; rw [h2]; exact h3
  · exact h w (List.mem_filter.1 hw).1
theorem Ok.set {l : List Line} (h : Ok l) (a : Int) (ts : List Int) (hp : ∀ t ∈ ts, 1 ≤ t) (hn : (low l a ++ ts ++ high l a).Nodup) (ht : (low l a ++ ts ++ high l a).length ≤ 5000) : Ok (setL l a ts) := by
  have hne := setL_ne h.ne a ts
  refine ⟨?_, by rw [setL_flat]; exact ht, hne, setL_srt h.srt a ts, fun t hm => ?_, by rw [setL_flat]; exact hn⟩
  · have := flat_len hne
    rw [setL_flat] at this; omega
  · rw [setL_flat] at hm
    have hs := flat_split h a
    rcases List.mem_append.1 hm with hm | hm
    · rcases List.mem_append.1 hm with hm | hm
      · exact h.pos t (by rw [hs]; simp [hm])
      · exact hp t hm
    · exact h.pos t (by rw [hs]; simp [hm])
theorem Fit.set {l : List Line} (h : Ok l) (a : Int) (ts : List Int) (ht : ts.length ≤ 1000000) : Fit (setL l a ts) := by
  have hs := congrArg List.length (flat_split h a)
  have := h.tot
  simp only [List.length_append] at hs
  have h2 : (flat (setL l a ts)).length ≤ 2000000 := by rw [setL_flat]; simp only [List.length_append]; omega
  exact ⟨Nat.le_trans (flat_len (setL_ne h.ne a ts)) h2, h2⟩
/-- with, at the place of an address. -/
theorem with_hit {l : List Line} (h : Ok l) {a : Int} {i : Nat} (hp : Place l a i) (hi : i < l.length) (ha : (L l i).At = a) (ts : List Int) (ht : ts.length ≤ 3000000) : wait_with l (i : Int) ts = some (setL l a ts) := by
  rw [with_gen l i ts h.fit ht]
  have := wR_at ts l 0 i (fun w hw => h.ne w (List.mem_of_mem_take hw)) (fun w hw => h.ne w (List.mem_of_mem_drop hw)) hi
  rw [Nat.zero_add] at this
  rw [this]
  unfold setL
  rw [place_lo hp, (place_hit h.srt hp hi ha).1, ha]
theorem with_miss {l : List Line} (h : Ok l) {a : Int} {i : Nat} (hp : Place l a i) (hi : ¬ (i < l.length ∧ (L l i).At = a)) (ts : List Int) (ht : ts.length ≤ 3000000) : wait_with (insL l (i : Int) [Line.mk a []]) (i : Int) ts = some (setL l a ts) := by
  have hle := hp.le
  have e : insL l (i : Int) [Line.mk a []] = l.take i ++ Line.mk a [] :: l.drop i := by unfold insL; simp
  have hlen : (l.take i ++ Line.mk a [] :: l.drop i).length = l.length + 1 := by simp; omega
  have htk : (l.take i ++ Line.mk a [] :: l.drop i).take i = l.take i := by rw [List.take_append_of_le_length (by simp; omega), List.take_of_length_le (by simp; omega)]
  have hdr : (l.take i ++ Line.mk a [] :: l.drop i).drop (i + 1) = l.drop i := by
    rw [List.drop_append, List.drop_of_length_le (by simp; omega)]
    simp [Nat.min_eq_left hle]
  have hL : L (l.take i ++ Line.mk a [] :: l.drop i) i = Line.mk a [] := by
    rw [L_get (by rw [hlen]; omega), List.getElem_append_right (by rw [List.length_take]; exact Nat.min_le_left _ _)]
    simp [Nat.min_eq_left hle]
  have hfit : Fit (l.take i ++ Line.mk a [] :: l.drop i) := by
    refine ⟨by rw [hlen]; have := h.len; omega, ?_⟩
    have : flat (l.take i ++ Line.mk a [] :: l.drop i) = flat l := by
      rw [flat_app, flat_cons]
      show flat (l.take i) ++ ([] ++ flat (l.drop i)) = _
      rw [List.nil_append, ← flat_app, List.take_append_drop]
    rw [this]; exact h.fit.tot
  rw [e, with_gen _ i ts hfit ht]
  have := wR_at ts (l.take i ++ Line.mk a [] :: l.drop i) 0 i (fun w hw => by rw [htk] at hw; exact h.ne w (List.mem_of_mem_take hw)) (fun w hw => by rw [hdr] at hw; exact h.ne w (List.mem_of_mem_drop hw)) (by rw [hlen]; omega)
  rw [Nat.zero_add] at this
  rw [this, htk, hdr, hL]
  unfold setL
  rw [place_lo hp, (place_miss hp hi h.srt).1]
theorem with_no {l : List Line} (h : Ok l) : wait_with l (-1) [] = some l := by
  rw [with_gen l (-1) [] h.fit (by simp), wR_none _ _ l 0 h.ne (by decide)]
end Go.Proofs.Ytnnpjaoddniifaa
