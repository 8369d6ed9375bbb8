/-
  What laws of the chapter alarm compute, and lemmas on it.
  No conditions.
-/
import Derived.Test.YtbhgmnnelheblaaalarmG
import Derived.Test.YtbhgmnnelheblaaPB
set_option linter.unusedSimpArgs false
set_option linter.unusedVariables false
namespace Go.Proofs.Ytbhgmnnelheblaa
open Go Go.Sx
/-! ### Heaps of fours, in lists -/
def el (h : List Timer) (j : Nat) : Timer := h.getD j default
theorem ix_el (h : List Timer) (j : Nat) : ix h ((j : Nat) : Int) = el h j := by
  have e : ix h ((j : Nat) : Int) = el h j := rfl
  exact e
theorem nn (i : Nat) : decide ((0 : Int) ≤ ((i : Nat) : Int)) = true := by simp
theorem el_get {h : List Timer} {j : Nat} (hj : j < h.length) : el h j = h[j] := by simp [el, hj]
theorem el_set (h : List Timer) (i j : Nat) (t : Timer) (hi : i < h.length) : el (h.set i t) j = if j = i then t else el h j := by
  unfold el
  rw [List.getD_eq_getElem?_getD, List.getD_eq_getElem?_getD, List.getElem?_set]
  by_cases h1 : j = i
  · subst h1; simp [hi]
  · have h2 : ¬ i = j := fun e => h1 e.symm
    simp [h1, h2]
theorem el_take (h : List Timer) (n j : Nat) (hj : j < n) : el (h.take n) j = el h j := by
  unfold el
  rw [List.getD_eq_getElem?_getD, List.getD_eq_getElem?_getD, List.getElem?_take, if_pos hj]
theorem el_app (h : List Timer) (t : Timer) (j : Nat) : el (h ++ [t]) j = if j = h.length then t else el h j := by
  unfold el
  rw [List.getD_eq_getElem?_getD, List.getD_eq_getElem?_getD, List.getElem?_append]
  by_cases h1 : j < h.length
  · have : ¬ j = h.length := by omega
    simp [h1, this]
  · by_cases h2 : j = h.length
    · subst h2; simp
    · rw [if_neg h1, if_neg h2, List.getElem?_eq_none (show h.length ≤ j by omega), List.getElem?_eq_none (show [t].length ≤ j - h.length by simp; omega)]
def sw (h : List Timer) (i k : Nat) : List Timer := (h.set i (el h k)).set k (el h i)
theorem sw_len (h : List Timer) (i k : Nat) : (sw h i k).length = h.length := by simp [sw]
theorem el_sw (h : List Timer) (i k j : Nat) (hi : i < h.length) (hk : k < h.length) : el (sw h i k) j = if j = k then el h i else if j = i then el h k else el h j := by
  unfold sw
  rw [el_set _ _ _ _ (by simpa using hk), el_set _ _ _ _ hi]
theorem sw_perm (h : List Timer) (i k : Nat) (hi : i < h.length) (hk : k < h.length) : (sw h i k).Perm h := by
  unfold sw
  rw [el_get hi, el_get hk]
  exact List.set_set_perm hi hk
def par (i : Nat) : Nat := (i - 1) / 4
theorem par_lt {i : Nat} (h : 0 < i) : par i < i := by unfold par; omega
/-- By changing places, up. -/
def risen (h : List Timer) (i : Nat) : List Timer × Nat :=
  if hh : 0 < i ∧ (el h i).When < (el h (par i)).When then risen (sw h i (par i)) (par i) else (h, i)
termination_by i
decreasing_by exact par_lt hh.1
theorem risen_yes {h : List Timer} {i : Nat} (hh : 0 < i ∧ (el h i).When < (el h (par i)).When) : risen h i = risen (sw h i (par i)) (par i) := by
  rw [risen, dif_pos hh]
theorem risen_no {h : List Timer} {i : Nat} (hh : ¬ (0 < i ∧ (el h i).When < (el h (par i)).When)) : risen h i = (h, i) := by
  rw [risen, dif_neg hh]
theorem risen_perm (h : List Timer) (i : Nat) (hi : i < h.length) : (risen h i).1.Perm h ∧ (risen h i).2 ≤ i ∧ el (risen h i).1 (risen h i).2 = el h i := by
  induction i using Nat.strongRecOn generalizing h with
  | ind i ih =>
    by_cases hh : 0 < i ∧ (el h i).When < (el h (par i)).When
    · rw [risen_yes hh]
      have hp := par_lt hh.1
      obtain ⟨h1, h2, h3⟩ := ih (par i) hp (sw h i (par i)) (by rw [sw_len]; omega)
      refine ⟨h1.trans (sw_perm h i _ hi (by omega)), by omega, ?_⟩
      rw [h3, el_sw _ _ _ _ hi (by omega), if_pos rfl]
    · rw [risen_no hh]
      exact ⟨List.Perm.refl _, Nat.le_refl _, rfl⟩
/-- A heap, but at one place against the one above. -/
structure UpOk (h : List Timer) (i : Nat) : Prop where
  a : ∀ j, j < h.length → 0 < j → j ≠ i → (el h (par j)).When ≤ (el h j).When
  b : 0 < i → ∀ j, j < h.length → 0 < j → par j = i → (el h (par i)).When ≤ (el h j).When
def Heap (h : List Timer) : Prop := ∀ j, j < h.length → 0 < j → (el h (par j)).When ≤ (el h j).When
theorem risen_heap (h : List Timer) (i : Nat) (hi : i < h.length) (u : UpOk h i) : Heap (risen h i).1 := by
  induction i using Nat.strongRecOn generalizing h with
  | ind i ih =>
    by_cases hh : 0 < i ∧ (el h i).When < (el h (par i)).When
    · rw [risen_yes hh]
      have hp := par_lt hh.1
      have hpl : par i < h.length := by omega
      refine ih (par i) hp (sw h i (par i)) (by rw [sw_len]; omega) ⟨fun j hj h0 hne => ?_, fun hp0 j hj h0 he => ?_⟩
      · rw [sw_len] at hj
        rw [el_sw _ _ _ _ hi hpl, el_sw _ _ _ _ hi hpl, if_neg hne]
        have hpj := par_lt h0
        by_cases hji : j = i
        · subst hji
          rw [if_pos rfl, if_pos rfl]
          omega
        · rw [if_neg hji]
          have := u.a j hj h0 hji
          by_cases hpp : par j = par i
          · rw [if_pos hpp]; rw [hpp] at this; omega
          · rw [if_neg hpp]
            by_cases hpi : par j = i
            · rw [if_pos hpi]
              exact u.b hh.1 j hj h0 hpi
            · rw [if_neg hpi]; exact this
      · rw [sw_len] at hj
        rw [el_sw _ _ _ _ hi hpl, el_sw _ _ _ _ hi hpl]
        have hq := par_lt hp0
        have hpj := par_lt h0
        rw [if_neg (by omega), if_neg (by omega), if_neg (by omega)]
        have h1 := u.a (par i) hpl hp0 (by omega)
        by_cases hji : j = i
        · rw [if_pos hji]; exact h1
        · rw [if_neg hji]
          have h2 := u.a j hj h0 hji
          rw [he] at h2
          omega
    · rw [risen_no hh]
      intro j hj h0
      simp only at hj ⊢
      by_cases hji : j = i
      · subst hji; omega
      · exact u.a j hj h0 hji
/-- Which of so many is the least, the first of them. -/
def minC (h : List Timer) : List Nat → Nat → Nat
  | [], k => k
  | c :: cs, k => minC h cs (if (el h c).When < (el h k).When then c else k)
theorem minC_mem (h : List Timer) : ∀ (cs : List Nat) (k : Nat), minC h cs k = k ∨ minC h cs k ∈ cs
  | [], k => .inl rfl
  | c :: cs, k => by
    unfold minC
    rcases minC_mem h cs (if (el h c).When < (el h k).When then c else k) with e | e
    · rw [e]; split
      · right; exact List.mem_cons_self ..
      · left; rfl
    · right; exact List.mem_cons_of_mem _ e
theorem minC_le (h : List Timer) : ∀ (cs : List Nat) (k : Nat), (el h (minC h cs k)).When ≤ (el h k).When ∧ ∀ c ∈ cs, (el h (minC h cs k)).When ≤ (el h c).When
  | [], k => ⟨Int.le_refl _, fun c hc => by cases hc⟩
  | c :: cs, k => by
    unfold minC
    obtain ⟨h1, h2⟩ := minC_le h cs (if (el h c).When < (el h k).When then c else k)
    refine ⟨?_, fun x hx => ?_⟩
    · split at h1 <;> split <;> omega
    · rcases List.mem_cons.1 hx with rfl | hx
      · split at h1 <;> split <;> omega
      · exact h2 x hx
theorem minC_lt (h : List Timer) : ∀ (cs : List Nat) (k : Nat), minC h cs k ≠ k → (el h (minC h cs k)).When < (el h k).When
  | [], k, hn => absurd rfl hn
  | c :: cs, k, hn => by
    unfold minC at hn ⊢
    by_cases hc : (el h c).When < (el h k).When
    · rw [if_pos hc] at hn ⊢
      have := (minC_le h cs c).1
      omega
    · rw [if_neg hc] at hn ⊢
      exact minC_lt h cs k hn
def kids (n i : Nat) : List Nat := ([4 * i + 1, 4 * i + 2, 4 * i + 3, 4 * i + 4] : List Nat).filter (· < n)
theorem mem_kids {n i c : Nat} : c ∈ kids n i ↔ c < n ∧ 0 < c ∧ par c = i := by
  simp only [kids, List.mem_filter, List.mem_cons, List.not_mem_nil, or_false, decide_eq_true_eq, par]
  omega
def best (h : List Timer) (i : Nat) : Nat := minC h (kids h.length i) i
theorem best_at (h : List Timer) (i : Nat) : best h i = i ∨ (i < best h i ∧ best h i < h.length ∧ par (best h i) = i) := by
  rcases minC_mem h (kids h.length i) i with e | e
  · exact .inl e
  · obtain ⟨h1, h2, h3⟩ := mem_kids.1 e
    have := par_lt h2
    exact .inr ⟨by unfold best; omega, h1, h3⟩
/-- By changing places, down. -/
def sunk (h : List Timer) (i : Nat) : List Timer :=
  if hh : i < best h i ∧ best h i < h.length then sunk (sw h i (best h i)) (best h i) else h
termination_by h.length - i
decreasing_by rw [sw_len]; omega
theorem sunk_yes {h : List Timer} {i : Nat} (hh : best h i ≠ i) : sunk h i = sunk (sw h i (best h i)) (best h i) := by
  have : i < best h i ∧ best h i < h.length := by
    rcases best_at h i with e | e
    · exact absurd e hh
    · exact ⟨e.1, e.2.1⟩
  rw [sunk, dif_pos this]
theorem sunk_no {h : List Timer} {i : Nat} (hh : best h i = i) : sunk h i = h := by rw [sunk, dif_neg (by omega)]
theorem sunk_perm (h : List Timer) (i : Nat) : (sunk h i).Perm h := by
  generalize hn : h.length - i = n
  induction n using Nat.strongRecOn generalizing h i with
  | ind n ih =>
    rcases best_at h i with e | ⟨e1, e2, _⟩
    · rw [sunk_no e]
    · rw [sunk_yes (by omega)]
      exact (ih _ (by subst hn; rw [sw_len]; omega) _ _ rfl).trans (sw_perm h i _ (by omega) e2)
/-- A heap from a place on, but at one place against those below. -/
structure DownOk (m : Nat) (h : List Timer) (i : Nat) : Prop where
  a : ∀ j, j < h.length → 0 < j → m ≤ par j → par j ≠ i → (el h (par j)).When ≤ (el h j).When
  b : 0 < i → m ≤ par i → ∀ j, j < h.length → 0 < j → par j = i → (el h (par i)).When ≤ (el h j).When
def HeapFrom (m : Nat) (h : List Timer) : Prop := ∀ j, j < h.length → 0 < j → m ≤ par j → (el h (par j)).When ≤ (el h j).When
theorem heap_from {h : List Timer} : Heap h ↔ HeapFrom 0 h := ⟨fun g j a b _ => g j a b, fun g j a b => g j a b (Nat.zero_le _)⟩
theorem sunk_heap (m : Nat) (h : List Timer) (i : Nat) (hm : m ≤ i) (d : DownOk m h i) : HeapFrom m (sunk h i) := by
  generalize hn : h.length - i = n
  induction n using Nat.strongRecOn generalizing h i with
  | ind n ih =>
    have hle := minC_le h (kids h.length i) i
    rcases best_at h i with e | ⟨e1, e2, e3⟩
    · rw [sunk_no e]
      intro j hj h0 hp
      by_cases hpi : par j = i
      · have := hle.2 j (mem_kids.2 ⟨hj, h0, hpi⟩)
        rw [show minC h (kids h.length i) i = i from e] at this
        rw [hpi]; exact this
      · exact d.a j hj h0 hp hpi
    · rw [sunk_yes (by omega)]
      have hi : i < h.length := by omega
      have hlt := minC_lt h (kids h.length i) i (by show best h i ≠ i; omega)
      generalize hb : best h i = k at e1 e2 e3
      rw [show minC h (kids h.length i) i = k from hb] at hle hlt
      refine ih _ (by subst hn; rw [sw_len]; omega) _ _ (by omega) ⟨fun j hj h0 hp hne => ?_, fun hk0 hmk j hj h0 he => ?_⟩ rfl
      · rw [sw_len] at hj
        rw [el_sw _ _ _ _ hi e2, el_sw _ _ _ _ hi e2, if_neg hne]
        by_cases hjk : j = k
        · subst hjk
          rw [if_pos e3, if_pos rfl]; omega
        · rw [if_neg hjk]
          by_cases hpi : par j = i
          · rw [if_pos hpi]
            have hji : j ≠ i := by have := par_lt h0; omega
            rw [if_neg hji]
            exact hle.2 j (mem_kids.2 ⟨hj, h0, hpi⟩)
          · rw [if_neg hpi]
            by_cases hji : j = i
            · subst hji
              rw [if_pos rfl]
              exact d.b h0 hp k e2 (by omega) e3
            · rw [if_neg hji]
              exact d.a j hj h0 hp hpi
      · rw [sw_len] at hj
        rw [el_sw _ _ _ _ hi e2, el_sw _ _ _ _ hi e2, e3]
        have hpj := par_lt h0
        rw [if_neg (by omega), if_pos rfl, if_neg (by omega), if_neg (by omega)]
        have := d.a j hj h0 (by omega) (by omega)
        rw [he] at this; exact this
/-! ### What the functions compute -/
@[simp] theorem F_eq (c a : Int) : taskmillref_F c a = some ⟨c, a⟩ := rfl
@[simp] theorem fault_eq (c a : Int) : alarm_fault c a = some ⟨c, a⟩ := rfl
theorem w1' : IntKind.i64.wrap 1 = 1 := by decide
theorem wp {i : Nat} (h : 0 < i) (hb : i ≤ 100000) : IntKind.i64.wrap (Int.tdiv (IntKind.i64.wrap ((i : Int) - 1)) 4) = ((par i : Nat) : Int) := by
  have e : (i : Int) - 1 = ((i - 1 : Nat) : Int) := by omega
  rw [wrap_id (x := (i : Int) - 1) (by omega) (by omega), e]
  have e2 : Int.tdiv ((i - 1 : Nat) : Int) 4 = ((par i : Nat) : Int) := rfl
  have : par i ≤ i := by have := par_lt h; omega
  rw [e2, wrap_id (by omega) (by omega)]
theorem in_b {n i : Nat} (h : i < n) : (decide ((0 : Int) ≤ ((i : Nat) : Int)) && decide (((i : Nat) : Int) < ((n : Nat) : Int))) = true := by simp; omega
theorem clone_eq (s : List Timer) (h : s.length ≤ 100000) : slices_Clone_Timer s = some s := by
  have : s.length * 16 ≤ 140737488355328 := by omega
  simp [slices_Clone_Timer, this]
theorem own_eq (s : List Timer) (h : s.length ≤ 100000) : taskmilllaw_ownTimers s = some s := by
  have : s.length * 16 ≤ 140737488355328 := by omega
  simp [taskmilllaw_ownTimers, this]
theorem same_eq (a b : List Timer) (hn : a.length < 4611686018427387904) : taskmillref_SameTimers a b = some (decide (a = b)) := by
  unfold taskmillref_SameTimers
  by_cases hl : a.length = b.length
  · have e : (((a.length : Nat) : Int) != ((b.length : Nat) : Int)) = false := by simp [hl]
    rw [e, cond_false]
    have we : ∀ x y : Timer, ((x.When == y.When) && ((x.Task == y.Task) && true)) = decide (x = y) := fun x y => by
      obtain ⟨a, b⟩ := x
      obtain ⟨d, e⟩ := y
      rw [Bool.eq_iff_iff]; simp
    have := loopO_if (step := taskmillref_SameTimers_l1 a b) (fun i => ((i : Nat) : Int)) (fun i => !decide (a[i]? = b[i]?)) (fun i => some false) (some true) a.length (fun i hi hp => ?_) (fun i hi hp => ?_) (fun _ => ?_)
    · rw [show ((0 : Nat) : Int) = 0 from rfl] at this
      rw [this]
      cases hf : firstIf (fun i => !decide (a[i]? = b[i]?)) a.length with
      | none =>
        have := firstIf_none.1 hf
        have e : a = b := (list_eq_iff hl).2 fun i h1 h2 => by
          have := this i h1
          simpa [h1, h2] using this
        simp [e]
      | some i =>
        obtain ⟨_, h2, _⟩ := firstIf_some hf
        have : a ≠ b := fun e => by subst e; simp at h2
        simp [this]
    · have hi2 : i < b.length := by omega
      have e : a[i] = b[i] := by simpa [hi, hi2] using hp
      simp only [taskmillref_SameTimers_l1, ix_get hi, ix_get hi2, we]
      simp [hi, hi2, e, wrap_n1 i (by omega)]
    · have hi2 : i < b.length := by omega
      have e : ¬ a[i] = b[i] := by simpa [hi, hi2] using hp
      simp only [taskmillref_SameTimers_l1, ix_get hi, ix_get hi2, we]
      simp [hi, hi2, e]
    · simp [taskmillref_SameTimers_l1]
  · have : a ≠ b := fun e => hl (by rw [e])
    have h2 : (((a.length : Nat) : Int) != ((b.length : Nat) : Int)) = true := by simp; omega
    simp [h2, this]
theorem same_self (a : List Timer) (h : a.length ≤ 100000) : taskmillref_SameTimers a a = some true := by rw [same_eq _ _ (by omega)]; simp
theorem risen_eq (h : List Timer) (i : Nat) (hi : i < h.length) (hl : h.length ≤ 100000) : taskmillref_Risen h (i : Int) = some (((risen h i).2 : Int), (risen h i).1) := by
  unfold taskmillref_Risen
  have hb : h.length * 16 ≤ 140737488355328 := by omega
  simp only [hb, decide_true, cond_true]
  have key := loopO_eqv (step := taskmillref_Risen_l1) (fun s => some ((((risen s.2 s.1.toNat).2 : Nat) : Int), (risen s.2 s.1.toNat).1)) (fun s => ∃ i : Nat, s.1 = (i : Int) ∧ i < s.2.length ∧ s.2.length ≤ 100000) (fun s => s.1.toNat) (fun s hs => by
    obtain ⟨x, g⟩ := s
    obtain ⟨i, rfl, h1, h2⟩ := hs
    simp only at h1 h2
    simp only [taskmillref_Risen_l1, Int.toNat_natCast]
    by_cases hi0 : 0 < i
    · have hp := par_lt hi0
      have d0 : decide ((0 : Int) < ((i : Nat) : Int)) = true := by simp; omega
      rw [wp hi0 (by omega)]
      simp only [d0, in_b h1, in_b (show par i < g.length by omega), Bool.not_true, Bool.false_or, cond_true, Bool.true_and, ix_el, List.length_set, Int.toNat_natCast]
      by_cases hw : (el g i).When < (el g (par i)).When
      · left
        simp only [hw, decide_true, cond_true]
        exact ⟨_, rfl, ⟨par i, rfl, by simp; omega, by simpa using h2⟩, by simp only [Int.toNat_natCast]; exact hp, by simp only [Int.toNat_natCast]; rw [risen_yes ⟨hi0, hw⟩]; rfl⟩
      · right
        simp only [hw, decide_false, cond_false]
        rw [risen_no (fun hh => hw hh.2)]
    · right
      have : i = 0 := by omega
      subst this
      rw [risen_no (fun hh => by omega)]
      simp) (s0 := ((i : Int), h)) ⟨i, rfl, hi, hl⟩
  simpa using key
/-- With a hole in place of the one that moves. -/
theorem up_hole (t : Timer) (i : Nat) : ∀ (h : List Timer), i < h.length → h.length ≤ 100000 → ∀ (c0 : List Timer) (i0 : Int), ix c0 i0 = t →
    loopO (alarm_up_1_l1 i0 c0) ((i : Int), h) = some (((risen (h.set i t) i).2 : Int), (risen (h.set i t) i).1) := by
  induction i using Nat.strongRecOn with
  | ind i ih =>
    intro h hi hl c0 i0 ht
    have hset : el (h.set i t) i = t := by rw [el_set _ _ _ _ hi, if_pos rfl]
    by_cases hi0 : 0 < i
    · have hp := par_lt hi0
      have d0 : decide ((0 : Int) < ((i : Nat) : Int)) = true := by simp; omega
      have hpar : el (h.set i t) (par i) = el h (par i) := by rw [el_set _ _ _ _ hi, if_neg (by omega)]
      by_cases hw : (el h (par i)).When ≤ t.When
      · rw [risen_no (fun hh => by rw [hset, hpar] at hh; omega)]
        refine loopO_inr ?_
        simp only [alarm_up_1_l1]
        rw [wp hi0 (by omega)]
        simp only [d0, in_b (show par i < h.length by omega), in_b hi, ix_el, ht, hw, decide_true, cond_true, alarm_up_1_j1, Int.toNat_natCast, Option.map_some]
      · have hsw : sw (h.set i t) i (par i) = (h.set i (el h (par i))).set (par i) t := by
          unfold sw
          rw [hset, hpar, List.set_set]
        rw [risen_yes ⟨hi0, by rw [hset, hpar]; omega⟩, hsw]
        have := ih (par i) hp (h.set i (el h (par i))) (by simp; omega) (by simpa using hl) c0 i0 ht
        rw [← this]
        refine loopO_inl ?_
        simp only [alarm_up_1_l1]
        rw [wp hi0 (by omega)]
        simp only [d0, in_b (show par i < h.length by omega), in_b hi, ix_el, ht, hw, decide_false, cond_false, cond_true, Int.toNat_natCast]
    · have : i = 0 := by omega
      subst this
      rw [risen_no (fun hh => by omega)]
      refine loopO_inr ?_
      simp only [alarm_up_1_l1]
      simp [alarm_up_1_j1, ht, hi]
theorem up_eq (h : List Timer) (i : Nat) (hi : i < h.length) (hl : h.length ≤ 100000) : alarm_up_1 (i : Int) h = some (((risen h i).2 : Int), (risen h i).1) := by
  unfold alarm_up_1
  rw [in_b hi, cond_true, up_hole (el h i) i h hi hl h (i : Int) (ix_el h i)]
  have : h.set i (el h i) = h := by rw [el_get hi]; simp
  rw [this]
theorem w4 (i k : Nat) (h : i ≤ 100000) (hk : k ≤ 10) : IntKind.i64.wrap (IntKind.i64.wrap ((4 : Int) * (i : Int)) + ((k : Nat) : Int)) = ((4 * i + k : Nat) : Int) := by
  rw [wrap_id (x := (4 : Int) * (i : Int)) (by omega) (by omega), wrap_id (by omega) (by omega)]; omega
theorem w41 (i : Nat) (h : i ≤ 100000) : IntKind.i64.wrap (IntKind.i64.wrap ((4 : Int) * (i : Int)) + 1) = ((4 * i + 1 : Nat) : Int) := w4 i 1 h (by omega)
theorem w44 (i : Nat) (h : i ≤ 100000) : IntKind.i64.wrap (IntKind.i64.wrap ((4 : Int) * (i : Int)) + 4) = ((4 * i + 4 : Nat) : Int) := w4 i 4 h (by omega)
theorem w45 (i : Nat) (h : i ≤ 100000) : IntKind.i64.wrap (IntKind.i64.wrap ((4 : Int) * (i : Int)) + 5) = ((4 * i + 5 : Nat) : Int) := w4 i 5 h (by omega)
def fin1 (h : List Timer) (i b : Nat) : (Int × List Timer) ⊕ List Timer := if b = i then Sum.inr h else Sum.inl ((b : Int), sw h i b)
def kidsFrom (n i c : Nat) : List Nat := (kids n i).filter (c ≤ ·)
theorem kidsFrom_all (n i : Nat) : kidsFrom n i (4 * i + 1) = kids n i := by
  unfold kidsFrom
  rw [List.filter_eq_self]
  intro c hc
  have := (mem_kids.1 hc)
  simp only [par] at this
  simp; omega
theorem kidsFrom_end {n i c : Nat} (h : n ≤ c ∨ 4 * i + 5 ≤ c) : kidsFrom n i c = [] := by
  unfold kidsFrom
  rw [List.filter_eq_nil_iff]
  intro x hx
  have := mem_kids.1 hx
  simp only [par] at this
  simp; omega
theorem kidsFrom_cons {n i c : Nat} (h1 : 4 * i + 1 ≤ c) (h2 : c ≤ 4 * i + 4) (h3 : c < n) : kidsFrom n i c = c :: kidsFrom n i (c + 1) := by
  unfold kidsFrom kids
  obtain ⟨k, hk, rfl⟩ : ∃ k, k < 4 ∧ c = 4 * i + 1 + k := ⟨c - (4 * i + 1), by omega, by omega⟩
  have : k = 0 ∨ k = 1 ∨ k = 2 ∨ k = 3 := by omega
  rcases this with rfl | rfl | rfl | rfl
  all_goals
    by_cases a1 : 4 * i + 1 < n <;> by_cases a2 : 4 * i + 2 < n <;> by_cases a3 : 4 * i + 3 < n <;> by_cases a4 : 4 * i + 4 < n <;> first | omega | skip
    all_goals simp [List.filter, a1, a2, a3, a4, show ¬ (4 * i + 1 ≤ 4 * i) by omega, show ¬ (4 * i + 2 ≤ 4 * i) by omega, show ¬ (4 * i + 3 ≤ 4 * i) by omega, show ¬ (4 * i + 1 + 1 ≤ 4 * i) by omega, show ¬ (4 * i + 1 + 2 ≤ 4 * i) by omega, show ¬ (4 * i + 1 + 3 ≤ 4 * i) by omega]
/-- The inner loop of the document's way down. -/
theorem sunk1_eq (h : List Timer) (i : Nat) (hi : i < h.length) (hl : h.length ≤ 10000) : ∀ (n c k : Nat), 4 * i + 5 - c = n → 4 * i + 1 ≤ c → c ≤ 4 * i + 5 → k < h.length →
    loopO (taskmillref_Sunk_l1 (i : Int) h) ((k : Int), (c : Int)) = some (fin1 h i (minC h (kidsFrom h.length i c) k)) := by
  intro n
  induction n with
  | zero =>
    intro c k hn hc hc2 hk
    have hend : kidsFrom h.length i c = [] := kidsFrom_end (.inr (by omega))
    rw [hend]
    simp only [minC]
    refine (loopO_out (x := some (fin1 h i k)) ?_)
    simp only [taskmillref_Sunk_l1]
    rw [w44 i (by omega)]
    have d1 : decide ((c : Int) ≤ ((4 * i + 4 : Nat) : Int)) = false := by simp; omega
    simp only [d1, Bool.false_and, cond_false]
    by_cases hki : k = i
    · subst hki; simp [fin1]
    · have : ((k : Int) == (i : Int)) = false := by simp; omega
      simp only [this, cond_false, in_b hk, in_b hi, cond_true, List.length_set, fin1, if_neg hki, ix_el, Int.toNat_natCast]
      rfl
  | succ n ih =>
    intro c k hn hc hc2 hk
    by_cases hcl : c < h.length
    · rw [kidsFrom_cons hc (by omega) hcl]
      simp only [minC]
      have := ih (c + 1) (if (el h c).When < (el h k).When then c else k) (by omega) (by omega) (by omega) (by split <;> omega)
      rw [← this]
      refine loopO_inl ?_
      simp only [taskmillref_Sunk_l1]
      rw [w44 i (by omega)]
      have d1 : (decide ((c : Int) ≤ ((4 * i + 4 : Nat) : Int)) && decide ((c : Int) < ((h.length : Nat) : Int))) = true := by simp; omega
      simp only [d1, cond_true, in_b hcl, in_b hk, ix_el, taskmillref_Sunk_j1]
      rw [wrap_n1 c (by omega)]
      by_cases hw : (el h c).When < (el h k).When <;> simp [hw]
    · have hend : kidsFrom h.length i c = [] := kidsFrom_end (.inl (by omega))
      rw [hend]
      simp only [minC]
      refine (loopO_out (x := some (fin1 h i k)) ?_)
      simp only [taskmillref_Sunk_l1]
      rw [w44 i (by omega)]
      have d1 : decide ((c : Int) < ((h.length : Nat) : Int)) = false := by simp; omega
      simp only [d1, Bool.and_false, cond_false]
      by_cases hki : k = i
      · subst hki; simp [fin1]
      · have : ((k : Int) == (i : Int)) = false := by simp; omega
        simp only [this, cond_false, in_b hk, in_b hi, cond_true, List.length_set, fin1, if_neg hki, ix_el, Int.toNat_natCast]
        rfl
theorem sunk_eq (h : List Timer) (i : Nat) (hi : i < h.length) (hl : h.length ≤ 10000) : taskmillref_Sunk h (i : Int) = some (sunk h i) := by
  unfold taskmillref_Sunk
  have hb : h.length * 16 ≤ 140737488355328 := by omega
  simp only [hb, decide_true, cond_true]
  have key := loopO_eqv (step := taskmillref_Sunk_l2) (fun s => some (sunk s.2 s.1.toNat)) (fun s => ∃ i : Nat, s.1 = (i : Int) ∧ i < s.2.length ∧ s.2.length ≤ 10000) (fun s => s.2.length - s.1.toNat) (fun s hs => by
    obtain ⟨x, g⟩ := s
    obtain ⟨i, rfl, h1, h2⟩ := hs
    simp only at h1 h2
    simp only [taskmillref_Sunk_l2, Int.toNat_natCast]
    rw [w41 i (by omega), sunk1_eq g i h1 h2 _ (4 * i + 1) i rfl (by omega) (by omega) h1, kidsFrom_all]
    have hbest : minC g (kids g.length i) i = best g i := rfl
    simp only [hbest]
    rcases best_at g i with e | ⟨e1, e2, _⟩
    · right
      rw [fin1, if_pos e, sunk_no e]; rfl
    · left
      rw [fin1, if_neg (by omega)]
      exact ⟨_, rfl, ⟨best g i, rfl, by rw [sw_len]; exact e2, by rw [sw_len]; exact h2⟩, by simp only [Int.toNat_natCast, sw_len]; omega, by simp only [Int.toNat_natCast]; rw [sunk_yes (by omega)]⟩) (s0 := ((i : Int), h)) ⟨i, rfl, hi, hl⟩
  simpa using key
/-! ### Down, with a hole -/
def bestO (h : List Timer) : List Nat → Option Nat → Option Nat
  | [], o => o
  | c :: cs, none => bestO h cs (some c)
  | c :: cs, some b => bestO h cs (some (if (el h c).When < (el h b).When then c else b))
def ob : Option Nat → Int
  | none => -1
  | some b => (b : Int)
theorem minC_bestO (g G : List Timer) (i : Nat) : ∀ (cs : List Nat) (o : Option Nat), (∀ c ∈ cs, el G c = el g c) → (∀ b, o = some b → el G b = el g b) →
    minC G cs (match o with | none => i | some b => if (el g b).When < (el G i).When then b else i) = match bestO g cs o with | none => i | some b => if (el g b).When < (el G i).When then b else i
  | [], o, _, _ => rfl
  | c :: cs, none, h1, h2 => by
    have hc := h1 c (List.mem_cons_self ..)
    have ih := minC_bestO g G i cs (some c) (fun x hx => h1 x (List.mem_cons_of_mem _ hx)) (fun b hb => by cases hb; exact hc)
    simp only [minC, bestO] at ih ⊢
    rw [hc]; exact ih
  | c :: cs, some b, h1, h2 => by
    have hc := h1 c (List.mem_cons_self ..)
    have hb := h2 b rfl
    have ih := minC_bestO g G i cs (some (if (el g c).When < (el g b).When then c else b)) (fun x hx => h1 x (List.mem_cons_of_mem _ hx)) (fun x hx => by cases hx; split <;> assumption)
    simp only [minC, bestO] at ih ⊢
    rw [← ih]
    congr 1
    by_cases a1 : (el g b).When < (el G i).When
    · rw [if_pos a1, hc, hb]
      by_cases a2 : (el g c).When < (el g b).When
      · rw [if_pos a2, if_pos (by omega)]
      · rw [if_neg a2, if_pos a1]
    · rw [if_neg a1, hc]
      by_cases a2 : (el g c).When < (el g b).When
      · rw [if_pos a2]
      · rw [if_neg a2, if_neg a1, if_neg (by omega)]
def finD (g : List Timer) (i : Nat) (t : Timer) : Option Nat → (Int × List Timer) ⊕ List Timer
  | none => Sum.inr (g.set i t)
  | some b => if t.When ≤ (el g b).When then Sum.inr (g.set i t) else Sum.inl ((b : Int), g.set i (el g b))
theorem down1_eq (g c0 : List Timer) (i0 : Int) (t : Timer) (ht : ix c0 i0 = t) (i : Nat) (hi : i < g.length) (hl : g.length ≤ 10000) : ∀ (n c : Nat) (o : Option Nat), 4 * i + 5 - c = n → 4 * i + 1 ≤ c → c ≤ 4 * i + 5 → (∀ b, o = some b → b < g.length) →
    loopO (alarm_down_1_l1 i0 c0 (i : Int) g) (ob o, (c : Int)) = some (finD g i t (bestO g (kidsFrom g.length i c) o)) := by
  have last : ∀ (c : Nat) (o : Option Nat), (g.length ≤ c ∨ 4 * i + 5 ≤ c) → (∀ b, o = some b → b < g.length) → loopO (alarm_down_1_l1 i0 c0 (i : Int) g) (ob o, (c : Int)) = some (finD g i t (bestO g (kidsFrom g.length i c) o)) := by
    intro c o hc hb
    rw [kidsFrom_end hc]
    refine loopO_out (x := some (finD g i t (bestO g [] o))) ?_
    simp only [alarm_down_1_l1, bestO]
    rw [w45 i (by omega)]
    have d1 : decide ((c : Int) < min ((4 * i + 5 : Nat) : Int) ((g.length : Nat) : Int)) = false := by simp; omega
    simp only [d1, cond_false, ht]
    cases o with
    | none => simp only [ob, finD, in_b hi]; simp
    | some b =>
      have hbl := hb b rfl
      have hb0 : ¬ ((b : Nat) : Int) < 0 := by omega
      have d2 : decide (((b : Nat) : Int) < 0) = false := by simp
      simp only [ob, d2, Bool.not_false, Bool.not_true, Bool.false_or, in_b hbl, in_b hi, cond_true, ix_el, finD, Int.toNat_natCast]
      by_cases hw : t.When ≤ (el g b).When <;> simp [hw, hbl, hb0]
  intro n
  induction n with
  | zero =>
    intro c o hn hc hc2 hb
    exact last c o (.inr (by omega)) hb
  | succ n ih =>
    intro c o hn hc hc2 hb
    by_cases hcl : c < g.length
    · rw [kidsFrom_cons hc (by omega) hcl]
      have d1 : decide ((c : Int) < min ((4 * i + 5 : Nat) : Int) ((g.length : Nat) : Int)) = true := by simp; omega
      cases o with
      | none =>
        simp only [bestO]
        rw [← ih (c + 1) (some c) (by omega) (by omega) (by omega) (fun b e => by cases e; exact hcl)]
        refine loopO_inl ?_
        simp only [alarm_down_1_l1]
        rw [w45 i (by omega)]
        simp only [d1, cond_true, ob, in_b hcl, alarm_down_1_j1]
        rw [wrap_n1 c (by omega)]
        simp
      | some b =>
        have hbl := hb b rfl
        simp only [bestO]
        rw [← ih (c + 1) _ (by omega) (by omega) (by omega) (fun x e => by cases e; split <;> omega)]
        refine loopO_inl ?_
        simp only [alarm_down_1_l1]
        rw [w45 i (by omega)]
        have hb0 : ¬ ((b : Nat) : Int) < 0 := by omega
        have d2 : decide (((b : Nat) : Int) < 0) = false := by simp
        simp only [d1, d2, cond_true, ob, in_b hcl, in_b hbl, ix_el, alarm_down_1_j1, Bool.not_false, Bool.not_true, Bool.false_or]
        rw [wrap_n1 c (by omega)]
        by_cases hw : (el g c).When < (el g b).When <;> simp [hw, hbl, hcl, hb0]
    · exact last c o (.inl (by omega)) hb
theorem down_eq (h : List Timer) (i : Nat) (hi : i < h.length) (hl : h.length ≤ 10000) : alarm_down_1 (i : Int) h = some (sunk h i) := by
  unfold alarm_down_1
  rw [in_b hi, cond_true]
  have key := loopO_eqv (step := alarm_down_1_l2 (i : Int) h) (fun s => some (sunk (s.2.set s.1.toNat (el h i)) s.1.toNat)) (fun s => ∃ k : Nat, s.1 = (k : Int) ∧ k < s.2.length ∧ s.2.length ≤ 10000) (fun s => s.2.length - s.1.toNat) (fun s hs => by
    obtain ⟨x, g⟩ := s
    obtain ⟨k, rfl, h1, h2⟩ := hs
    simp only at h1 h2
    simp only [alarm_down_1_l2, Int.toNat_natCast]
    have hG : el (g.set k (el h i)) k = el h i := by rw [el_set _ _ _ _ h1, if_pos rfl]
    have hne : ∀ c, c ≠ k → el (g.set k (el h i)) c = el g c := fun c hc => by rw [el_set _ _ _ _ h1, if_neg hc]
    have hm := minC_bestO g (g.set k (el h i)) k (kids g.length k) none (fun c hc => hne c (by have := mem_kids.1 hc; have := par_lt this.2.1; omega)) (fun b hb => by cases hb)
    have hB : best (g.set k (el h i)) k = minC (g.set k (el h i)) (kids g.length k) k := by unfold best; rw [List.length_set]
    simp only [hG] at hm
    rw [w41 k (by omega), show ((-1 : Int)) = ob none from rfl, down1_eq g h (i : Int) (el h i) (ix_el h i) k h1 h2 _ (4 * k + 1) none rfl (by omega) (by omega) (fun b e => by cases e), kidsFrom_all]
    rw [← hB] at hm
    cases hbo : bestO g (kids g.length k) none with
    | none =>
      right
      rw [hbo] at hm
      simp only at hm
      rw [sunk_no hm]; rfl
    | some b =>
      rw [hbo] at hm
      simp only at hm
      simp only [finD]
      by_cases hw : (el h i).When ≤ (el g b).When
      · right
        rw [if_neg (by omega)] at hm
        rw [if_pos hw, sunk_no hm]; rfl
      · left
        rw [if_pos (by omega)] at hm
        rw [if_neg hw]
        have hbk : b ≠ k := fun e => by
          rcases best_at (g.set k (el h i)) k with q | ⟨q1, _, _⟩
          · subst e
            have := minC_mem g (kids g.length b) b
            -- (a child is no place of its own)
            have key : ∀ (cs : List Nat) (o : Option Nat), (∀ c ∈ cs, c ≠ b) → (∀ x, o = some x → x ≠ b) → bestO g cs o ≠ some b := by
              intro cs
              induction cs with
              | nil => intro o _ ho e; exact ho _ e rfl
              | cons c cs ih =>
                intro o hc ho
                have hc1 := hc c (List.mem_cons_self ..)
                cases o with
                | none => exact ih (some c) (fun x hx => hc x (List.mem_cons_of_mem _ hx)) (fun x e => by cases e; exact hc1)
                | some y =>
                  have hy := ho y rfl
                  exact ih _ (fun x hx => hc x (List.mem_cons_of_mem _ hx)) (fun x e => by cases e; split <;> assumption)
            exact key _ none (fun c hc => by have := mem_kids.1 hc; have := par_lt this.2.1; omega) (fun x e => by cases e) hbo
          · omega
        rcases best_at (g.set k (el h i)) k with q | ⟨q1, q2, _⟩
        · rw [hm] at q; exact absurd q hbk
        · rw [hm] at q1 q2
          rw [List.length_set] at q2
          refine ⟨_, rfl, ⟨b, rfl, by simpa using q2, by simpa using h2⟩, by simp only [Int.toNat_natCast, List.length_set]; omega, ?_⟩
          simp only [Int.toNat_natCast]
          rw [sunk_yes (by rw [hm]; exact hbk), hm]
          congr 2
          unfold sw
          rw [hG, hne b hbk, List.set_set]) (s0 := ((i : Int), h)) ⟨i, rfl, hi, hl⟩
  rw [key]
  simp only [Int.toNat_natCast]
  have : h.set i (el h i) = h := by rw [el_get hi]; simp
  rw [this]
/-! ### Faults -/
def badT (t : Timer) : Bool := decide (t.Task < 1) || decide (t.When < 0)
def tbad (h : List Timer) (i : Nat) : Option Fault := if badT (el h i) = true then some ⟨3, i⟩ else if 0 < i ∧ (el h i).When < (el h (par i)).When then some ⟨5, i⟩ else none
def heapF (h : List Timer) : Fault := if 5000 < h.length then ⟨2, 0⟩ else (firstAt (tbad h) h.length).getD ⟨0, 0⟩
theorem check_eq (h : List Timer) : alarm_Check h = some (heapF h) := by
  unfold alarm_Check heapF
  by_cases hl : 5000 < h.length
  · have : (5000 : Int) < ((h.length : Nat) : Int) := by omega
    simp [hl, this]
  · have : ¬ (5000 : Int) < ((h.length : Nat) : Int) := by omega
    simp only [hl, this, decide_false, cond_false, if_false]
    refine loopO_findD (step := alarm_Check_l1 h) (fun i => ((i : Nat) : Int)) (tbad h) ⟨0, 0⟩ h.length (fun i hi hb => ?_) (fun i r hi hb => ?_) (fun _ => ?_)
    · have d1 : decide ((i : Int) < ((h.length : Nat) : Int)) = true := by simp; omega
      simp only [alarm_Check_l1, d1, nn, Bool.and_self, cond_true, in_b hi, ix_el]
      unfold tbad at hb
      have hbt : (decide ((el h i).Task < 1) || decide ((el h i).When < 0)) = badT (el h i) := rfl
      rw [hbt]
      cases hq : badT (el h i) with
      | true => simp [hq] at hb
      | false =>
        simp only [hq, Bool.false_eq_true, if_false] at hb
        simp only [cond_false]
        by_cases hi0 : 0 < i
        · have d0 : decide ((0 : Int) < ((i : Nat) : Int)) = true := by simp; omega
          have hp := par_lt hi0
          have hw : ¬ (el h i).When < (el h (par i)).When := fun hw => by simp [hi0, hw] at hb
          rw [wp hi0 (by omega), wrap_n1 i (by omega)]
          simp [hi0, show par i < h.length by omega, ix_el, hw]
        · have : i = 0 := by omega
          subst this
          simp [w1']
    · have d1 : decide ((i : Int) < ((h.length : Nat) : Int)) = true := by simp; omega
      simp only [alarm_Check_l1, d1, nn, Bool.and_self, cond_true, in_b hi, ix_el]
      unfold tbad at hb
      have hbt : (decide ((el h i).Task < 1) || decide ((el h i).When < 0)) = badT (el h i) := rfl
      rw [hbt]
      cases hq : badT (el h i) with
      | true =>
        simp only [hq, if_true, Option.some.injEq] at hb
        subst hb; simp
      | false =>
        simp only [hq, Bool.false_eq_true, if_false] at hb
        split at hb
        · rename_i hh
          cases hb
          have d0 : decide ((0 : Int) < ((i : Nat) : Int)) = true := by simp; omega
          have hp := par_lt hh.1
          rw [wp hh.1 (by omega)]
          simp [hh.1, show par i < h.length by omega, ix_el, hh.2]
        · cases hb
    · simp [alarm_Check_l1]
theorem tf_eq (t : Timer) (x : Int) : taskmillref_TimerFault t x = some (if badT t = true then ⟨3, x⟩ else ⟨0, 0⟩) := by
  unfold taskmillref_TimerFault
  have hbt : (decide (t.Task < 1) || decide (t.When < 0)) = badT t := rfl
  rw [hbt]
  cases badT t <;> simp
theorem ref_eq (h : List Timer) : taskmillref_HeapFault h = some (heapF h) := by
  unfold taskmillref_HeapFault heapF
  by_cases hl : 5000 < h.length
  · have : (5000 : Int) < ((h.length : Nat) : Int) := by omega
    simp [hl, this]
  · have : ¬ (5000 : Int) < ((h.length : Nat) : Int) := by omega
    simp only [hl, this, decide_false, cond_false, if_false]
    refine loopO_findD (step := taskmillref_HeapFault_l1 h) (fun i => ((i : Nat) : Int)) (tbad h) ⟨0, 0⟩ h.length (fun i hi hb => ?_) (fun i r hi hb => ?_) (fun _ => ?_)
    · have d1 : decide ((i : Int) < ((h.length : Nat) : Int)) = true := by simp; omega
      simp only [taskmillref_HeapFault_l1, d1, nn, Bool.and_self, cond_true, in_b hi, ix_el, tf_eq, Option.bind_some]
      unfold tbad at hb
      cases hq : badT (el h i) with
      | true => simp [hq] at hb
      | false =>
        simp only [hq, Bool.false_eq_true, if_false] at hb
        simp only [Bool.false_eq_true, if_false, bne_self_eq_false, cond_false, Bool.or_true, cond_true]
        by_cases hi0 : 0 < i
        · have d0 : decide ((0 : Int) < ((i : Nat) : Int)) = true := by simp; omega
          have hp := par_lt hi0
          have hw : ¬ (el h i).When < (el h (par i)).When := fun hw => by simp [hi0, hw] at hb
          rw [wp hi0 (by omega), wrap_n1 i (by omega)]
          simp [hi0, show par i < h.length by omega, ix_el, hw]
        · have : i = 0 := by omega
          subst this
          simp [w1']
    · have d1 : decide ((i : Int) < ((h.length : Nat) : Int)) = true := by simp; omega
      simp only [taskmillref_HeapFault_l1, d1, nn, Bool.and_self, cond_true, in_b hi, ix_el, tf_eq, Option.bind_some]
      unfold tbad at hb
      cases hq : badT (el h i) with
      | true =>
        simp only [hq, if_true, Option.some.injEq] at hb
        subst hb; simp
      | false =>
        simp only [hq, Bool.false_eq_true, if_false] at hb
        split at hb
        · rename_i hh
          cases hb
          have d0 : decide ((0 : Int) < ((i : Nat) : Int)) = true := by simp; omega
          have hp := par_lt hh.1
          rw [wp hh.1 (by omega)]
          simp [hh.1, show par i < h.length by omega, ix_el, hh.2]
        · cases hb
    · simp [taskmillref_HeapFault_l1]
def Valid (h : List Timer) : Prop := ∀ t ∈ h, badT t = false
structure OkH (h : List Timer) : Prop where
  len : h.length ≤ 5000
  val : Valid h
  heap : Heap h
theorem heapF_ok (h : List Timer) : OkH h ∧ heapF h = ⟨0, 0⟩ ∨ (heapF h).Code ≠ 0 ∧ ¬ OkH h := by
  unfold heapF
  by_cases hl : 5000 < h.length
  · right; exact ⟨by simp [hl], fun ok => by have := ok.len; omega⟩
  · rw [if_neg hl]
    cases hf : firstAt (tbad h) h.length with
    | none =>
      left
      have hn := (firstAt_none _).1 hf
      have key : ∀ i, i < h.length → badT (el h i) = false ∧ ¬ (0 < i ∧ (el h i).When < (el h (par i)).When) := fun i hi => by
        have := hn i hi
        unfold tbad at this
        cases hq : badT (el h i) with
        | true => simp [hq] at this
        | false =>
          refine ⟨rfl, fun hh => ?_⟩
          simp [hq, hh.1, hh.2] at this
      refine ⟨⟨by omega, fun t ht => ?_, fun j hj h0 => by have := (key j hj).2; omega⟩, rfl⟩
      obtain ⟨i, hi, rfl⟩ := List.getElem_of_mem ht
      rw [← el_get hi]; exact (key i hi).1
    | some r =>
      right
      obtain ⟨i, hi, hb, _⟩ := firstAt_some _ hf
      unfold tbad at hb
      cases hq : badT (el h i) with
      | true =>
        simp only [hq, if_true, Option.some.injEq] at hb
        subst hb
        refine ⟨by simp, fun ok => ?_⟩
        have := ok.val _ (List.getElem_mem hi)
        rw [← el_get hi, hq] at this; cases this
      | false =>
        simp only [hq, Bool.false_eq_true, if_false] at hb
        split at hb
        · rename_i hh
          cases hb
          refine ⟨by simp, fun ok => ?_⟩
          have := ok.heap i hi hh.1
          omega
        · cases hb
theorem okH_f {h : List Timer} (ok : OkH h) : heapF h = ⟨0, 0⟩ := by
  rcases heapF_ok h with ⟨_, e⟩ | ⟨_, e⟩
  · exact e
  · exact absurd ok e
theorem valid_perm {a b : List Timer} (h : a.Perm b) (v : Valid b) : Valid a := fun t ht => v t (h.mem_iff.1 ht)
/-! ### Adding -/
def addR (h : List Timer) (t : Timer) : Int × Fault × List Timer :=
  if (heapF h).Code ≠ 0 then (0, heapF h, []) else if badT t = true then (0, ⟨3, -1⟩, []) else if h.length = 5000 then (0, ⟨9, 0⟩, []) else (((risen (h ++ [t]) h.length).2 : Int), ⟨0, 0⟩, (risen (h ++ [t]) h.length).1)
theorem add_eq (h : List Timer) (t : Timer) : alarm_Add h t = some (addR h t) := by
  unfold alarm_Add addR
  rw [check_eq]
  rcases heapF_ok h with ⟨ok, hf⟩ | ⟨hf, _⟩
  · have hl := ok.len
    have hbt : (decide (t.Task < 1) || decide (t.When < 0)) = badT t := rfl
    simp only [hf, Option.bind_some, bne_self_eq_false, cond_false, ne_eq, not_true_eq_false, if_false, hbt, fault_eq]
    cases hq : badT t with
    | true => simp
    | false =>
      simp only [cond_false, Bool.false_eq_true, if_false]
      by_cases h5 : h.length = 5000
      · have : (((h.length : Nat) : Int) == 5000) = true := by simp; omega
        simp [h5]
      · have h5' : (((h.length : Nat) : Int) == 5000) = false := by simp; omega
        have hb : (h ++ [t]).length * 16 ≤ 140737488355328 := by simp; omega
        have hw : IntKind.i64.wrap ((((h ++ [t]).length : Nat) : Int) - 1) = ((h.length : Nat) : Int) := by
          have hll : (h ++ [t]).length = h.length + 1 := by simp
          rw [hll, wrap_id (by omega) (by omega)]; omega
        rw [clone_eq _ (by omega)]
        simp only [h5, h5', cond_false, if_false, Option.bind_some, hb, decide_true, cond_true, hw]
        rw [up_eq _ _ (by simp) (by simp; omega)]
        have hlen := (risen_perm (h ++ [t]) h.length (by simp)).1.length_eq
        simp only [Option.bind_some, hlen, decide_true, cond_true]
  · simp [hf, Bool.cond_eq_ite]
/-! ### Dropping -/
def dropL (h : List Timer) (i : Nat) : List Timer :=
  if i = h.length - 1 then h.take (h.length - 1) else
  let g := (h.take (h.length - 1)).set i (el h (h.length - 1))
  if (risen g i).2 = i then sunk (risen g i).1 i else (risen g i).1
theorem set_take (h : List Timer) (n i : Nat) (t : Timer) : (h.set i t).take n = (h.take n).set i t := List.take_set ..
theorem last_w {n : Nat} (h0 : 0 < n) (h : n ≤ 100000) : IntKind.i64.wrap (((n : Nat) : Int) - 1) = ((n - 1 : Nat) : Int) := by
  rw [wrap_id (by omega) (by omega)]; omega
theorem dropped_eq (h : List Timer) (i : Nat) (hi : i < h.length) (hl : h.length ≤ 10000) : taskmillref_Dropped h (i : Int) = some (dropL h i) := by
  unfold taskmillref_Dropped dropL
  rw [last_w (by omega) (by omega)]
  have c1 : (decide ((0 : Int) ≤ ((h.length - 1 : Nat) : Int)) && decide (((h.length - 1 : Nat) : Int) ≤ ((h.length : Nat) : Int))) = true := by simp <;> omega
  have c2 : (h.take (h.length - 1)).length * 16 ≤ 140737488355328 := by simp <;> omega
  simp only [c1, cond_true, cut_take, c2, decide_true]
  by_cases hil : i = h.length - 1
  · have : ((i : Int) == ((h.length - 1 : Nat) : Int)) = true := by simp <;> omega
    simp [hil]
  · have e1 : ((i : Int) == ((h.length - 1 : Nat) : Int)) = false := by simp <;> omega
    have hg : (h.take (h.length - 1)).length = h.length - 1 := by simp <;> omega
    simp only [e1, cond_false, in_b (show h.length - 1 < h.length by omega), in_b (show i < (h.take (h.length - 1)).length by omega), cond_true, if_neg hil, ix_el, Int.toNat_natCast]
    have hgl : i < ((h.take (h.length - 1)).set i (el h (h.length - 1))).length := by simp <;> omega
    rw [risen_eq _ i hgl (by simp <;> omega)]
    have hp := risen_perm _ i hgl
    simp only [Option.bind_some]
    generalize risen ((h.take (h.length - 1)).set i (el h (h.length - 1))) i = R at hp ⊢
    have hRl : R.1.length = h.length - 1 := by rw [hp.1.length_eq]; simp
    by_cases hR : R.2 = i
    · have : (((R.2 : Nat) : Int) == (i : Int)) = true := by simp <;> omega
      simp only [this, cond_true, if_pos hR]
      rw [sunk_eq _ _ (by omega) (by omega)]; rfl
    · have : (((R.2 : Nat) : Int) == (i : Int)) = false := by simp <;> omega
      simp only [this, cond_false, if_neg hR]
      rfl
def dropR (h : List Timer) (i : Int) : Timer × Fault × List Timer :=
  if (heapF h).Code ≠ 0 then (⟨0, 0⟩, heapF h, []) else if i < 0 ∨ (h.length : Int) ≤ i then (⟨0, 0⟩, ⟨6, 0⟩, []) else (el h i.toNat, ⟨0, 0⟩, dropL h i.toNat)
theorem drop_eq (h : List Timer) (i : Int) : alarm_Drop h i = some (dropR h i) := by
  unfold alarm_Drop dropR
  rw [check_eq]
  rcases heapF_ok h with ⟨ok, hf⟩ | ⟨hf, _⟩
  · have hl := ok.len
    simp only [hf, Option.bind_some, bne_self_eq_false, cond_false, ne_eq, not_true_eq_false, if_false, fault_eq]
    by_cases hi : i < 0 ∨ (h.length : Int) ≤ i
    · have : (decide (i < 0) || decide (((h.length : Nat) : Int) ≤ i)) = true := by simpa using hi
      simp [hi, this]
    · have : (decide (i < 0) || decide (((h.length : Nat) : Int) ≤ i)) = false := by simp at hi ⊢; omega
      simp only [hi, this, cond_false, if_false]
      obtain ⟨n, rfl⟩ : ∃ n : Nat, i = (n : Int) := ⟨i.toNat, by omega⟩
      have hn : n < h.length := by omega
      rw [clone_eq _ (by omega)]
      simp only [Option.bind_some, Int.toNat_natCast]
      rw [last_w (by omega) (by omega)]
      have c1 : (decide ((0 : Int) ≤ ((h.length - 1 : Nat) : Int)) && decide (((h.length - 1 : Nat) : Int) ≤ ((h.length : Nat) : Int))) = true := by simp <;> omega
      simp only [in_b hn, in_b (show h.length - 1 < h.length by omega), List.length_set, c1, cond_true, cut_take, ix_el, set_take]
      unfold dropL alarm_Drop_j1
      by_cases hil : n = h.length - 1
      · have : decide ((n : Int) < ((h.length - 1 : Nat) : Int)) = false := by simp <;> omega
        have hset : (h.take (h.length - 1)).set n (el h (h.length - 1)) = h.take (h.length - 1) := List.set_eq_of_length_le (by simp <;> omega)
        simp only [this, cond_false, if_pos hil, hset]
      · have e1 : decide ((n : Int) < ((h.length - 1 : Nat) : Int)) = true := by simp <;> omega
        have hgl : n < ((h.take (h.length - 1)).set n (el h (h.length - 1))).length := by simp <;> omega
        simp only [e1, cond_true, if_neg hil]
        rw [up_eq _ _ hgl (by simp <;> omega)]
        have hp := risen_perm _ n hgl
        simp only [Option.bind_some, hp.1.length_eq, decide_true, cond_true]
        have hgle : ((h.take (h.length - 1)).set n (el h (h.length - 1))).length = h.length - 1 := by simp <;> omega
        rw [hgle] at hgl
        have hRl : (risen ((h.take (h.length - 1)).set n (el h (h.length - 1))) n).1.length = h.length - 1 := by rw [hp.1.length_eq, hgle]
        generalize risen ((h.take (h.length - 1)).set n (el h (h.length - 1))) n = R at hp hRl ⊢
        by_cases hR : R.2 = n
        · have : (((R.2 : Nat) : Int) == (n : Int)) = true := by simp <;> omega
          simp only [this, cond_true, if_pos hR]
          rw [down_eq _ _ (by omega) (by omega)]
          have hsl := (sunk_perm R.1 n).length_eq
          simp [hsl, hgle, hRl]
        · have : (((R.2 : Nat) : Int) == (n : Int)) = false := by simp <;> omega
          simp only [this, cond_false, if_neg hR]
          simp
  · simp [hf, Bool.cond_eq_ite]
theorem dropL_perm (h : List Timer) (i : Nat) (hi : i < h.length) : (el h i :: dropL h i).Perm h := by
  unfold dropL
  have hsplit : h = h.take (h.length - 1) ++ [el h (h.length - 1)] := by
    conv => lhs; rw [← List.take_append_drop (h.length - 1) h]
    congr 1
    rw [List.drop_eq_getElem_cons (by omega), el_get (by omega)]
    congr 1
    rw [List.drop_eq_nil_of_le (by omega)]
  by_cases hil : i = h.length - 1
  · rw [if_pos hil]
    conv => rhs; rw [hsplit]
    rw [hil]
    exact (List.perm_append_singleton ..).symm
  · rw [if_neg hil]
    have hgl : i < ((h.take (h.length - 1)).set i (el h (h.length - 1))).length := by simp <;> omega
    have hp := (risen_perm _ i hgl).1
    have hq : (if (risen ((h.take (h.length - 1)).set i (el h (h.length - 1))) i).2 = i then sunk (risen ((h.take (h.length - 1)).set i (el h (h.length - 1))) i).1 i else (risen ((h.take (h.length - 1)).set i (el h (h.length - 1))) i).1).Perm ((h.take (h.length - 1)).set i (el h (h.length - 1))) := by
      split
      · exact (sunk_perm _ _).trans hp
      · exact hp
    refine (List.Perm.cons _ hq).trans ?_
    -- the one that goes, and the last one in its place
    have e1 : ((h.take (h.length - 1)) ++ [el h (h.length - 1)]).Perm (el h i :: (h.take (h.length - 1)).set i (el h (h.length - 1))) := by
      have hit : i < (h.take (h.length - 1)).length := by simp <;> omega
      have hei : (h.take (h.length - 1))[i] = el h i := by rw [← el_take h (h.length - 1) i (by omega), el_get hit]
      have h1 : h.take (h.length - 1) = (h.take (h.length - 1)).take i ++ el h i :: (h.take (h.length - 1)).drop (i + 1) := by
        rw [← hei]
        conv => lhs; rw [← List.take_append_drop i (h.take (h.length - 1)), List.drop_eq_getElem_cons hit]
      have h2 : (h.take (h.length - 1)).set i (el h (h.length - 1)) = (h.take (h.length - 1)).take i ++ el h (h.length - 1) :: (h.take (h.length - 1)).drop (i + 1) := List.set_eq_take_append_cons_drop .. ▸ (by rw [if_pos hit])
      rw [h2]
      conv => lhs; rw [h1]
      generalize (h.take (h.length - 1)).take i = A
      generalize (h.take (h.length - 1)).drop (i + 1) = B
      generalize el h i = x
      generalize el h (h.length - 1) = y
      have a1 : (A ++ x :: B ++ [y]).Perm (y :: (A ++ x :: B)) := List.perm_append_singleton ..
      have a2 : (A ++ x :: B).Perm (x :: (A ++ B)) := List.perm_middle
      have a3 : (A ++ y :: B).Perm (y :: (A ++ B)) := List.perm_middle
      exact a1.trans ((a2.cons y).trans ((List.Perm.swap x y _).trans (a3.symm.cons x)))
    rw [← hsplit] at e1
    exact e1.symm
theorem heap_take {h : List Timer} (hp : Heap h) (n : Nat) : Heap (h.take n) := by
  intro j hj h0
  rw [List.length_take] at hj
  have := par_lt h0
  rw [el_take _ _ _ (by omega), el_take _ _ _ (by omega)]
  exact hp j (by omega) h0
theorem dropL_heap {h : List Timer} (hp : Heap h) (i : Nat) (hi : i < h.length) : Heap (dropL h i) := by
  unfold dropL
  by_cases hil : i = h.length - 1
  · rw [if_pos hil]; exact heap_take hp _
  · rw [if_neg hil]
    simp only
    have hTl : (h.take (h.length - 1)).length = h.length - 1 := by simp
    have hT := heap_take hp (h.length - 1)
    generalize h.take (h.length - 1) = T at hTl hT ⊢
    generalize el h (h.length - 1) = y
    have hiT : i < T.length := by omega
    have hel : ∀ j, el (T.set i y) j = if j = i then y else el T j := fun j => el_set _ _ _ _ hiT
    have hgl : i < (T.set i y).length := by simpa using hiT
    by_cases hup : 0 < i ∧ y.When < (el T (par i)).When
    · -- it goes up
      have hp1 := par_lt hup.1
      have u : UpOk (T.set i y) i := ⟨fun j hj h0 hne => by
          rw [List.length_set] at hj
          rw [hel, hel, if_neg hne]
          by_cases hpi : par j = i
          · rw [if_pos hpi]
            have a1 := hT j hj h0
            have a2 := hT i hiT hup.1
            rw [hpi] at a1; omega
          · rw [if_neg hpi]; exact hT j hj h0, fun h0 j hj hj0 he => by
          rw [List.length_set] at hj
          have hpj := par_lt hj0
          rw [hel, hel, if_neg (by omega), if_neg (by omega)]
          have a1 := hT j hj hj0
          have a2 := hT i hiT hup.1
          rw [he] at a1; omega⟩
      have hne : (risen (T.set i y) i).2 ≠ i := by
        rw [risen_yes ⟨hup.1, by rw [hel, hel, if_pos rfl, if_neg (by omega)]; exact hup.2⟩]
        have := (risen_perm (sw (T.set i y) i (par i)) (par i) (by rw [sw_len]; omega)).2.1
        omega
      rw [if_neg hne]
      exact risen_heap _ _ hgl u
    · have hno : risen (T.set i y) i = (T.set i y, i) := risen_no (fun hh => by
        have hp1 := par_lt hh.1
        rw [hel, hel, if_pos rfl, if_neg (by omega)] at hh
        exact hup hh)
      rw [hno, if_pos rfl]
      refine heap_from.2 (sunk_heap 0 _ _ (Nat.zero_le _) ⟨fun j hj h0 _ hpi => ?_, fun h0 _ j hj hj0 he => ?_⟩)
      · rw [List.length_set] at hj
        rw [hel, hel, if_neg hpi]
        by_cases hji : j = i
        · subst hji
          rw [if_pos rfl]
          have : ¬ y.When < (el T (par j)).When := fun q => hup ⟨h0, q⟩
          omega
        · rw [if_neg hji]; exact hT j hj h0
      · rw [List.length_set] at hj
        have hpj := par_lt hj0
        have hp1 := par_lt h0
        rw [hel, hel, if_neg (by omega), if_neg (by omega)]
        have a1 := hT j hj hj0
        have a2 := hT i hiT h0
        rw [he] at a1; omega
theorem dropL_len (h : List Timer) (i : Nat) (hi : i < h.length) : (dropL h i).length = h.length - 1 := by
  have := (dropL_perm h i hi).length_eq
  simp at this; omega
theorem dropL_ok {h : List Timer} (ok : OkH h) (i : Nat) (hi : i < h.length) : OkH (dropL h i) := by
  have hp := dropL_perm h i hi
  refine ⟨by rw [dropL_len _ _ hi]; have := ok.len; omega, fun t ht => ok.val t (hp.mem_iff.1 (List.mem_cons_of_mem _ ht)), dropL_heap ok.heap i hi⟩
theorem add_ok {h : List Timer} (ok : OkH h) (t : Timer) (ht : badT t = false) (h5 : h.length < 5000) : OkH (risen (h ++ [t]) h.length).1 := by
  have hp := (risen_perm (h ++ [t]) h.length (by simp)).1
  refine ⟨by rw [hp.length_eq]; simp; omega, fun x hx => ?_, risen_heap _ _ (by simp) ⟨fun j hj h0 hne => ?_, fun h0 j hj hj0 he => ?_⟩⟩
  · rcases List.mem_append.1 (hp.mem_iff.1 hx) with hm | hm
    · exact ok.val x hm
    · simp at hm; subst hm; exact ht
  · have := par_lt h0
    simp at hj
    rw [el_app, el_app, if_neg (by omega), if_neg hne]
    exact ok.heap j (by omega) h0
  · have := par_lt hj0
    simp at hj
    omega
/-! ### Made heaps -/
def heapify (h : List Timer) : Nat → List Timer
  | 0 => h
  | n + 1 => heapify (sunk h n) n
theorem heapify_perm : ∀ (n : Nat) (h : List Timer), (heapify h n).Perm h
  | 0, h => List.Perm.refl _
  | n + 1, h => (heapify_perm n _).trans (sunk_perm h n)
theorem heapify_heap : ∀ (n : Nat) (h : List Timer), HeapFrom n h → Heap (heapify h n)
  | 0, h, hp => heap_from.2 hp
  | n + 1, h, hp => heapify_heap n _ (sunk_heap n h n (Nat.le_refl _) ⟨fun j hj h0 hm hne => hp j hj h0 (by omega), fun h0 hm j hj hj0 he => by have := par_lt h0; omega⟩)
/-- Nothing is below. -/
theorem sunk_leaf {h : List Timer} {i : Nat} (hi : h.length ≤ 4 * i + 1) : sunk h i = h := by
  refine sunk_no ?_
  rcases best_at h i with e | ⟨e1, e2, e3⟩
  · exact e
  · unfold par at e3; omega
theorem heapify_leaves (h : List Timer) : ∀ (n m : Nat), m ≤ n → h.length ≤ 4 * m + 1 → heapify h n = heapify h m
  | 0, m, hm, _ => by have : m = 0 := by omega
                      subst this; rfl
  | n + 1, m, hm, hl => by
    by_cases e : m = n + 1
    · subst e; rfl
    · show heapify (sunk h n) n = heapify h m
      rw [sunk_leaf (by omega)]
      exact heapify_leaves h n m (by omega) hl
theorem made_loop (n : Nat) : ∀ (h : List Timer), n ≤ h.length → 1 < h.length → h.length ≤ 10000 → loopO alarm_Made_l1 (((n : Nat) : Int) - 1, h) = some (⟨0, 0⟩, heapify h n) := by
  induction n with
  | zero =>
    intro h _ h1 hl
    refine loopO_inr ?_
    simp [alarm_Made_l1, heapify]
  | succ n ih =>
    intro h hn h1 hl
    have hsl := (sunk_perm h n).length_eq
    rw [show heapify h (n + 1) = heapify (sunk h n) n from rfl, ← ih (sunk h n) (by omega) (by omega) (by omega)]
    refine loopO_inl ?_
    have e : (((n + 1 : Nat) : Int) - 1) = (n : Int) := by omega
    rw [e]
    have d1 : decide ((1 : Int) < ((h.length : Nat) : Int)) = true := by simp; omega
    simp only [alarm_Made_l1, nn, d1, Bool.and_self, cond_true]
    rw [down_eq _ _ (by omega) hl]
    simp only [Option.bind_some, hsl, decide_true, cond_true]
    rw [wrap_id (by omega) (by omega)]
theorem made_all (h : List Timer) (hl : h.length ≤ 10000) : loopO alarm_Made_l1 (IntKind.i64.wrap (Int.tdiv (IntKind.i64.wrap (((h.length : Nat) : Int) - 2)) 4), h) = some (⟨0, 0⟩, heapify h h.length) := by
  by_cases h1 : 1 < h.length
  · have e : ((h.length : Nat) : Int) - 2 = ((h.length - 2 : Nat) : Int) := by omega
    rw [wrap_id (x := ((h.length : Nat) : Int) - 2) (by omega) (by omega), e]
    have e2 : Int.tdiv ((h.length - 2 : Nat) : Int) 4 = (((h.length - 2) / 4 : Nat) : Int) := rfl
    rw [e2, wrap_id (by omega) (by omega)]
    have e3 : (((h.length - 2) / 4 : Nat) : Int) = (((h.length - 2) / 4 + 1 : Nat) : Int) - 1 := by omega
    rw [e3, made_loop _ h (by omega) h1 hl, heapify_leaves h h.length ((h.length - 2) / 4 + 1) (by omega) (by omega)]
  · have : heapify h h.length = h := by rw [heapify_leaves h h.length 0 (Nat.zero_le _) (by omega)]; rfl
    rw [this]
    refine loopO_inr ?_
    have d1 : decide ((1 : Int) < ((h.length : Nat) : Int)) = false := by simp; omega
    simp [alarm_Made_l1, d1]
theorem heaped_loop (n : Nat) : ∀ (h : List Timer), n ≤ h.length → h.length ≤ 10000 → loopO taskmillref_Heaped_l1 (h, ((n : Nat) : Int) - 1) = some (heapify h n) := by
  induction n with
  | zero =>
    intro h _ hl
    refine loopO_inr ?_
    simp [taskmillref_Heaped_l1, heapify]
  | succ n ih =>
    intro h hn hl
    have hsl := (sunk_perm h n).length_eq
    rw [show heapify h (n + 1) = heapify (sunk h n) n from rfl, ← ih (sunk h n) (by omega) (by omega)]
    refine loopO_inl ?_
    have e : (((n + 1 : Nat) : Int) - 1) = (n : Int) := by omega
    rw [e]
    simp only [taskmillref_Heaped_l1, nn, cond_true]
    rw [w41 n (by omega)]
    have hw : IntKind.i64.wrap ((n : Int) - 1) = (n : Int) - 1 := wrap_id (by omega) (by omega)
    by_cases hc : 4 * n + 1 < h.length
    · have d1 : decide (((4 * n + 1 : Nat) : Int) < ((h.length : Nat) : Int)) = true := by simp; omega
      simp only [d1, cond_true]
      rw [sunk_eq _ _ (by omega) hl]
      simp only [Option.bind_some, taskmillref_Heaped_j1, hw]
    · have d1 : decide (((4 * n + 1 : Nat) : Int) < ((h.length : Nat) : Int)) = false := by simp; omega
      simp only [d1, cond_false, taskmillref_Heaped_j1, hw]
      rw [sunk_leaf (by omega)]
theorem heaped_eq (h : List Timer) (hl : h.length ≤ 10000) : taskmillref_Heaped h = some (heapify h h.length) := by
  unfold taskmillref_Heaped
  rw [wrap_id (by omega) (by omega), heaped_loop h.length h (Nat.le_refl _) hl]
/-! ### Made -/
def mbad (l : List Timer) (i : Nat) : Option Fault := if badT (el l i) = true then some ⟨3, i⟩ else none
def madeF (l : List Timer) : Fault := if 5000 < l.length then ⟨2, 0⟩ else (firstAt (mbad l) l.length).getD ⟨0, 0⟩
theorem madeF_ok (l : List Timer) : (l.length ≤ 5000 ∧ Valid l ∧ madeF l = ⟨0, 0⟩) ∨ (madeF l).Code ≠ 0 := by
  unfold madeF
  by_cases hl : 5000 < l.length
  · right; simp [hl]
  · rw [if_neg hl]
    cases hf : firstAt (mbad l) l.length with
    | none =>
      left
      have hn := (firstAt_none _).1 hf
      refine ⟨by omega, fun t ht => ?_, rfl⟩
      obtain ⟨i, hi, rfl⟩ := List.getElem_of_mem ht
      have := hn i hi
      unfold mbad at this
      rw [← el_get hi]
      cases hq : badT (el l i) with
      | true => simp [hq] at this
      | false => rfl
    | some r =>
      right
      obtain ⟨i, hi, hb, _⟩ := firstAt_some _ hf
      unfold mbad at hb
      split at hb
      · cases hb; simp
      · cases hb
def madeR (l : List Timer) : Fault × List Timer := if (madeF l).Code ≠ 0 then (madeF l, []) else (⟨0, 0⟩, heapify l l.length)
theorem made_eq (l : List Timer) : alarm_Made l = some (madeR l) := by
  unfold alarm_Made madeR madeF
  by_cases hl : 5000 < l.length
  · have : (5000 : Int) < ((l.length : Nat) : Int) := by omega
    simp [hl, this]
  · have : ¬ (5000 : Int) < ((l.length : Nat) : Int) := by omega
    simp only [hl, this, decide_false, cond_false, if_false]
    have := loopO_find (step := alarm_Made_l2 l) (fun i => ((i : Nat) : Int)) (fun i => (mbad l i).map fun f => (f, ([] : List Timer))) (some (⟨0, 0⟩, heapify l l.length)) l.length (fun i hi hb => ?_) (fun i r hi hb => ?_) (fun _ => ?_)
    · rw [show ((0 : Nat) : Int) = 0 from rfl] at this
      rw [this]
      cases hf : firstAt (mbad l) l.length with
      | none =>
        have : firstAt (fun i => (mbad l i).map fun f => (f, ([] : List Timer))) l.length = none := (firstAt_none _).2 fun i hi => by simp [(firstAt_none _).1 hf i hi]
        rw [this]; simp
      | some r =>
        obtain ⟨i, hi, hb, hbef⟩ := firstAt_some _ hf
        have : firstAt (fun i => (mbad l i).map fun f => (f, ([] : List Timer))) l.length = some (r, []) := firstAt_at hi (by simp [hb]) fun j hj => by simp [hbef j hj]
        rw [this]
        have : r.Code ≠ 0 := by
          unfold mbad at hb
          split at hb
          · cases hb; simp
          · cases hb
        simp [this]
    · have d1 : decide ((i : Int) < ((l.length : Nat) : Int)) = true := by simp; omega
      have hbt : (decide ((el l i).Task < 1) || decide ((el l i).When < 0)) = badT (el l i) := rfl
      simp only [alarm_Made_l2, d1, nn, Bool.and_self, cond_true, ix_el, hbt]
      rw [wrap_n1 i (by omega)]
      unfold mbad at hb
      cases hq : badT (el l i) with
      | true => simp [hq] at hb
      | false => simp
    · have d1 : decide ((i : Int) < ((l.length : Nat) : Int)) = true := by simp; omega
      have hbt : (decide ((el l i).Task < 1) || decide ((el l i).When < 0)) = badT (el l i) := rfl
      simp only [alarm_Made_l2, d1, nn, Bool.and_self, cond_true, ix_el, hbt]
      unfold mbad at hb
      cases hq : badT (el l i) with
      | true => simp [hq] at hb; subst hb; simp
      | false => simp [hq] at hb
    · have d1 : decide (((l.length : Nat) : Int) < ((l.length : Nat) : Int)) = false := by simp
      simp only [alarm_Made_l2, d1, cond_false]
      rw [clone_eq _ (by omega)]
      simp only [Option.bind_some]
      rw [made_all _ (by omega)]
theorem made_ok {l : List Timer} (hl : l.length ≤ 5000) (v : Valid l) : OkH (heapify l l.length) ∧ (heapify l l.length).Perm l := by
  have hp := heapify_perm l.length l
  exact ⟨⟨by rw [hp.length_eq]; exact hl, valid_perm hp v, heapify_heap _ _ fun j hj h0 hm => by have := par_lt h0; omega⟩, hp⟩
theorem begun_eq : taskmilllaw_alarmBegun = some true := by
  unfold taskmilllaw_alarmBegun
  rw [made_eq]
  have hF : madeF [⟨3, 1⟩, ⟨1, 2⟩, ⟨2, 3⟩] = ⟨0, 0⟩ := by decide
  have hH : heapify ([⟨3, 1⟩, ⟨1, 2⟩, ⟨2, 3⟩] : List Timer) 3 = [⟨1, 2⟩, ⟨3, 1⟩, ⟨2, 3⟩] := by
    rw [heapify_leaves _ 3 1 (by decide) (by decide)]
    show sunk _ 0 = _
    have hb : best ([⟨3, 1⟩, ⟨1, 2⟩, ⟨2, 3⟩] : List Timer) 0 = 1 := by decide
    rw [sunk_yes (by rw [hb]; decide), hb, sunk_leaf (by decide)]
    decide
  have : madeR [⟨3, 1⟩, ⟨1, 2⟩, ⟨2, 3⟩] = (⟨0, 0⟩, [⟨1, 2⟩, ⟨3, 1⟩, ⟨2, 3⟩]) := by
    simp only [madeR, hF, ne_eq, not_true_eq_false, if_false]
    rw [show ([⟨3, 1⟩, ⟨1, 2⟩, ⟨2, 3⟩] : List Timer).length = 3 from rfl, hH]
  rw [this]
  simp [same_self, taskmilllaw_alarmBegun_j1]
/-! ### The laws -/
theorem adds (h : List Timer) (t : Timer) : taskmilllaw_AlarmAdds h t = some true := by
  unfold taskmilllaw_AlarmAdds
  rw [begun_eq]
  simp only [Option.bind_some, Bool.not_true, cond_false]
  by_cases h6 : (6000 : Int) < ((h.length : Nat) : Int)
  · simp [h6]
  · rw [own_eq _ (by omega)]
    simp only [h6, decide_false, cond_false, Option.bind_some, check_eq, ref_eq, add_eq, beq_self_eq_true, Bool.and_self, Bool.not_true]
    rw [same_self _ (by omega)]
    simp only [Option.bind_some, Bool.not_true]
    unfold taskmilllaw_AlarmAdds_j4
    simp only [cond_false, tf_eq, Option.bind_some]
    have j2 : ∀ w, w = (addR h t).2.1 → taskmilllaw_AlarmAdds_j2 h t (addR h t).1 (addR h t).2.2 (addR h t).2.1 w = some true := by
      rintro w rfl
      unfold taskmilllaw_AlarmAdds_j2
      simp only [beq_self_eq_true, Bool.and_self, Bool.not_true, cond_false]
      unfold addR
      rcases heapF_ok h with ⟨ok, hf⟩ | ⟨hf, _⟩
      · simp only [hf, ne_eq, not_true_eq_false, if_false]
        cases hq : badT t with
        | true => simp
        | false =>
          by_cases h5 : h.length = 5000
          · simp [h5]
          · have hl := ok.len
            have hb : (h ++ [t]).length * 16 ≤ 140737488355328 := by simp; omega
            have hp := (risen_perm (h ++ [t]) h.length (by simp)).1.length_eq
            simp only [Bool.false_eq_true, if_false, h5, bne_self_eq_false, cond_false]
            rw [own_eq _ (by omega)]
            simp only [Option.bind_some, hb, decide_true, cond_true]
            rw [risen_eq _ _ (by simp) (by simp; omega)]
            simp only [Option.bind_some]
            rw [same_self _ (by rw [hp]; simp; omega)]
            simp [taskmilllaw_AlarmAdds_j1]
      · have h' : ((heapF h).Code != 0) = true := by simpa using hf
        simp [hf, h']
    rcases heapF_ok h with ⟨ok, hf⟩ | ⟨hf, _⟩
    · simp only [hf, beq_self_eq_true, cond_true]
      unfold taskmilllaw_AlarmAdds_j3
      cases hq : badT t with
      | true =>
        have := j2 ⟨3, -1⟩ (by simp [addR, hf, hq])
        simpa using this
      | false =>
        by_cases h5 : h.length = 5000
        · have := j2 ⟨9, 0⟩ (by simp [addR, hf, hq, h5])
          simpa [h5] using this
        · have h5' : (((h.length : Nat) : Int) == 5000) = false := by simp; omega
          have := j2 ⟨0, 0⟩ (by simp [addR, hf, hq, h5])
          simpa [h5'] using this
    · have h' : ((heapF h).Code == 0) = false := by simpa using hf
      simp only [h', cond_false]
      unfold taskmilllaw_AlarmAdds_j3
      simp only [h', Bool.false_and, cond_false]
      exact j2 _ (by simp [addR, hf])
theorem drops (h : List Timer) (i : Int) : taskmilllaw_AlarmDrops h i = some true := by
  unfold taskmilllaw_AlarmDrops
  rw [begun_eq]
  simp only [Option.bind_some, Bool.not_true, cond_false]
  by_cases h6 : (6000 : Int) < ((h.length : Nat) : Int)
  · simp [h6]
  · rw [own_eq _ (by omega)]
    simp only [h6, decide_false, cond_false, Option.bind_some, ref_eq, drop_eq, F_eq]
    have j2 : ∀ w, w = (dropR h i).2.1 → taskmilllaw_AlarmDrops_j2 h i (dropR h i).2.2 (dropR h i).1 (dropR h i).2.1 w = some true := by
      rintro w rfl
      unfold taskmilllaw_AlarmDrops_j2
      simp only [beq_self_eq_true, Bool.and_self, Bool.not_true, cond_false]
      unfold dropR
      rcases heapF_ok h with ⟨ok, hf⟩ | ⟨hf, _⟩
      · simp only [hf, ne_eq, not_true_eq_false, if_false]
        by_cases hi : i < 0 ∨ (h.length : Int) ≤ i
        · simp [hi]
        · simp only [hi, if_false, bne_self_eq_false, cond_false]
          obtain ⟨n, rfl⟩ : ∃ n : Nat, i = (n : Int) := ⟨i.toNat, by omega⟩
          have hn : n < h.length := by omega
          have hl := ok.len
          simp only [in_b hn, cond_true, Int.toNat_natCast, ix_el, beq_self_eq_true, Bool.and_self]
          rw [dropped_eq _ _ hn (by omega)]
          simp only [Option.bind_some]
          rw [same_self _ (by rw [dropL_len _ _ hn]; omega)]
          simp [taskmilllaw_AlarmDrops_j1]
      · have h' : ((heapF h).Code != 0) = true := by simpa using hf
        simp [hf, h']
    rcases heapF_ok h with ⟨ok, hf⟩ | ⟨hf, _⟩
    · by_cases hi : i < 0 ∨ (h.length : Int) ≤ i
      · have d1 : (decide (i < 0) || decide (((h.length : Nat) : Int) ≤ i)) = true := by simpa using hi
        have := j2 ⟨6, 0⟩ (by simp [dropR, hf, hi])
        simp only [hf, beq_self_eq_true, d1, Bool.and_self, cond_true]
        exact this
      · have d1 : (decide (i < 0) || decide (((h.length : Nat) : Int) ≤ i)) = false := by simp at hi ⊢; omega
        have := j2 ⟨0, 0⟩ (by simp [dropR, hf, hi])
        simp only [hf, d1, Bool.and_false, cond_false]
        exact this
    · have h' : ((heapF h).Code == 0) = false := by simpa using hf
      simp only [h', Bool.false_and, cond_false]
      exact j2 _ (by simp [dropR, hf])
end Go.Proofs.Ytbhgmnnelheblaa
