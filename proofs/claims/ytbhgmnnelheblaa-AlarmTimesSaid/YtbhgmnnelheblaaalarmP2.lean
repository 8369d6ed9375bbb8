/-
  What laws of the chapter alarm compute, and lemmas on it.
  No conditions.
-/
import Derived.Test.YtbhgmnnelheblaaalarmP
set_option linter.unusedSimpArgs false
set_option linter.unusedVariables false
namespace Go.Proofs.Ytbhgmnnelheblaa
open Go Go.Sx
/-! ### What is due -/
/-- (so many at most) -/
def dueN (now : Int) : Nat → List Timer → List Timer × List Timer
  | 0, h => (h, [])
  | n + 1, h => if h ≠ [] ∧ (el h 0).When ≤ now then ((dueN now n (dropL h 0)).1, el h 0 :: (dueN now n (dropL h 0)).2) else (h, [])
def dueL (now : Int) (h : List Timer) : List Timer × List Timer := dueN now h.length h
theorem dueL_yes {now : Int} {h : List Timer} (hne : h ≠ []) (hw : (el h 0).When ≤ now) : dueL now h = ((dueL now (dropL h 0)).1, el h 0 :: (dueL now (dropL h 0)).2) := by
  have h0 : 0 < h.length := List.length_pos_iff.2 hne
  unfold dueL
  rw [dropL_len h 0 h0]
  obtain ⟨n, hn⟩ : ∃ n, h.length = n + 1 := ⟨h.length - 1, by omega⟩
  rw [hn, Nat.add_sub_cancel]
  simp only [dueN, hne, hw, ne_eq, not_false_eq_true, and_self, if_true]
theorem dueL_no {now : Int} {h : List Timer} (hn : ¬ (h ≠ [] ∧ (el h 0).When ≤ now)) : dueL now h = (h, []) := by
  unfold dueL
  cases h.length with
  | zero => rfl
  | succ n => simp only [dueN, hn, if_false]
theorem heap_min {h : List Timer} (hp : Heap h) (j : Nat) (hj : j < h.length) : (el h 0).When ≤ (el h j).When := by
  induction j using Nat.strongRecOn with
  | ind j ih =>
    by_cases h0 : 0 < j
    · have h1 := par_lt h0
      have := ih (par j) h1 (by omega)
      have := hp j hj h0
      omega
    · have : j = 0 := by omega
      subst this; exact Int.le_refl _
theorem heap_min_mem {h : List Timer} (hp : Heap h) {t : Timer} (ht : t ∈ h) : (el h 0).When ≤ t.When := by
  obtain ⟨j, hj, rfl⟩ := List.getElem_of_mem ht
  rw [← el_get hj]; exact heap_min hp j hj
/-- By induction over what is due. -/
theorem due_ind {P : List Timer → Prop} (now : Int) (h1 : ∀ h, OkH h → ¬ (h ≠ [] ∧ (el h 0).When ≤ now) → P h) (h2 : ∀ h, OkH h → h ≠ [] → (el h 0).When ≤ now → P (dropL h 0) → P h) : ∀ h, OkH h → P h := by
  intro h ok
  generalize hn : h.length = n
  induction n generalizing h with
  | zero => exact h1 h ok fun hh => hh.1 (List.eq_nil_of_length_eq_zero hn)
  | succ n ih =>
    by_cases hh : h ≠ [] ∧ (el h 0).When ≤ now
    · exact h2 h ok hh.1 hh.2 (ih _ (dropL_ok ok 0 (by omega)) (by rw [dropL_len _ _ (by omega)]; omega))
    · exact h1 h ok hh
theorem due_ok (now : Int) : ∀ h, OkH h → OkH (dueL now h).1 :=
  due_ind now (fun h ok hn => by rw [dueL_no hn]; exact ok) (fun h ok hne hw ih => by rw [dueL_yes hne hw]; exact ih)
theorem due_perm (now : Int) : ∀ h, OkH h → ((dueL now h).2 ++ (dueL now h).1).Perm h :=
  due_ind now (fun h ok hn => by rw [dueL_no hn]; exact List.Perm.refl _) (fun h ok hne hw ih => by
    rw [dueL_yes hne hw]
    exact (ih.cons _).trans (dropL_perm h 0 (List.length_pos_iff.2 hne)))
theorem due_late (now : Int) : ∀ h, OkH h → ∀ t ∈ (dueL now h).2, t.When ≤ now :=
  due_ind now (fun h ok hn => by rw [dueL_no hn]; simp) (fun h ok hne hw ih => by
    rw [dueL_yes hne hw]
    intro t ht
    rcases List.mem_cons.1 ht with rfl | ht
    · exact hw
    · exact ih t ht)
theorem due_left (now : Int) : ∀ h, OkH h → ∀ t ∈ (dueL now h).1, now < t.When :=
  due_ind now (fun h ok hn => by
    rw [dueL_no hn]
    intro t ht
    have hne : h ≠ [] := fun e => by rw [e] at ht; cases ht
    have := heap_min_mem ok.heap ht
    have : ¬ (el h 0).When ≤ now := fun hw => hn ⟨hne, hw⟩
    show now < t.When
    omega) (fun h ok hne hw ih => by rw [dueL_yes hne hw]; exact ih)
theorem due_sorted (now : Int) : ∀ h, OkH h → (dueL now h).2.Pairwise (fun a b => a.When ≤ b.When) :=
  due_ind now (fun h ok hn => by rw [dueL_no hn]; exact List.Pairwise.nil) (fun h ok hne hw ih => by
    rw [dueL_yes hne hw]
    refine List.Pairwise.cons (fun t ht => ?_) ih
    have h0 := List.length_pos_iff.2 hne
    have hm : t ∈ dropL h 0 := (due_perm now _ (dropL_ok ok 0 h0)).mem_iff.1 (List.mem_append_left _ ht)
    exact heap_min_mem ok.heap ((dropL_perm h 0 h0).mem_iff.1 (List.mem_cons_of_mem _ hm)))
theorem due_two (a b : Int) (hab : a ≤ b) : ∀ h, OkH h → dueL b h = ((dueL b (dueL a h).1).1, (dueL a h).2 ++ (dueL b (dueL a h).1).2) :=
  due_ind a (fun h ok hn => by rw [dueL_no (now := a) hn]; rfl) (fun h ok hne hw ih => by
    rw [dueL_yes (now := b) hne (by omega), dueL_yes (now := a) hne hw, ih]; rfl)
theorem dropR_0 {h : List Timer} (ok : OkH h) (hne : h ≠ []) : dropR h 0 = (el h 0, ⟨0, 0⟩, dropL h 0) := by
  have := List.length_pos_iff.2 hne
  have h1 : ¬ ((0 : Int) < 0 ∨ (h.length : Int) ≤ 0) := by omega
  simp [dropR, okH_f ok, h1]
  omega
theorem due_loop (now : Int) : ∀ h, OkH h → ∀ acc : List Timer, acc.length ≤ 100000 - h.length → loopO (alarm_Due_l1 now) (h, acc) = some (⟨0, 0⟩, (dueL now h).1, acc ++ (dueL now h).2) :=
  due_ind now (fun h ok hn acc _ => by
    rw [dueL_no hn]
    refine loopO_inr ?_
    simp only [alarm_Due_l1]
    by_cases hne : h = []
    · subst hne; simp
    · have h0 := List.length_pos_iff.2 hne
      have d1 : decide ((0 : Int) < ((h.length : Nat) : Int)) = true := by simp; omega
      have hw : ¬ (el h 0).When ≤ now := fun hw => hn ⟨hne, hw⟩
      have e0 : ix h (0 : Int) = el h 0 := ix_el h 0
      simp only [d1, Bool.not_true, Bool.or_true, cond_true, Bool.true_and, e0, hw, decide_false, cond_false, List.append_nil, Option.map_some]) (fun h ok hne hw ih acc hacc => by
    have h0 := List.length_pos_iff.2 hne
    have hl := ok.len
    rw [dueL_yes hne hw, show acc ++ el h 0 :: (dueL now (dropL h 0)).2 = (acc ++ [el h 0]) ++ (dueL now (dropL h 0)).2 by simp, ← ih (acc ++ [el h 0]) (by simp [dropL_len h 0 h0]; omega)]
    refine loopO_inl ?_
    have d1 : decide ((0 : Int) < ((h.length : Nat) : Int)) = true := by simp; omega
    have e0 : ix h (0 : Int) = el h 0 := ix_el h 0
    have hb : (acc ++ [el h 0]).length * 16 ≤ 140737488355328 := by simp; omega
    simp only [alarm_Due_l1, d1, Bool.not_true, Bool.or_true, cond_true, Bool.true_and, e0, hw, decide_true, drop_eq, dropR_0 ok hne, Option.bind_some, hb])
def dueR (h : List Timer) (now : Int) : Fault × List Timer × List Timer := if (heapF h).Code ≠ 0 then (heapF h, [], []) else (⟨0, 0⟩, (dueL now h).1, (dueL now h).2)
theorem due_eq (h : List Timer) (now : Int) : alarm_Due h now = some (dueR h now) := by
  unfold alarm_Due dueR
  rw [check_eq]
  rcases heapF_ok h with ⟨ok, hf⟩ | ⟨hf, _⟩
  · have hl := ok.len
    simp only [hf, Option.bind_some, bne_self_eq_false, cond_false, ne_eq, not_true_eq_false, if_false]
    rw [clone_eq _ (by omega)]
    simp only [Option.bind_some]
    rw [due_loop now h ok [] (by simp)]
    simp
  · simp [hf, Bool.cond_eq_ite]
/-! ### As often -/
theorem counted_eq {a b : List Timer} (h : a.Perm b) (hl : a.length ≤ 100000) : taskmilllaw_counted a b = some true := by
  unfold taskmilllaw_counted
  have hlen := h.length_eq
  have e : (((a.length : Nat) : Int) != ((b.length : Nat) : Int)) = false := by simp [hlen]
  rw [e, cond_false]
  have := loopO_all (step := taskmilllaw_counted_l2 a b) (fun i => ((i : Nat) : Int)) (some true) a.length (fun i hi => ?_) ?_
  · rw [show ((0 : Nat) : Int) = 0 from rfl] at this; exact this
  · have d1 : decide ((i : Int) < ((a.length : Nat) : Int)) = true := by simp; omega
    simp only [taskmilllaw_counted_l2, d1, cond_true]
    have we : ∀ x y : Timer, ((x.When == y.When) && ((x.Task == y.Task) && true)) = decide (x = y) := fun x y => by
      obtain ⟨a, b⟩ := x
      obtain ⟨d, e⟩ := y
      rw [Bool.eq_iff_iff]; simp
    have cnt : ∀ (l : List Timer) (k : Nat), k < l.length → (((l.take (k + 1)).count (el a i) : Nat) : Int) = (((l.take k).count (el a i) : Nat) : Int) + (if el l k = el a i then 1 else 0) := fun l k hk => by
      rw [List.take_succ_eq_append_getElem hk, List.count_append, el_get hk, List.count_singleton]
      by_cases hx : l[k] = el a i
      · simp [hx]
      · simp [hx]
    have inner := loopO_all (step := taskmilllaw_counted_l1 a b (i : Int)) (fun k => ((((a.take k).count (el a i) : Nat) : Int), (((b.take k).count (el a i) : Nat) : Int), ((k : Nat) : Int))) (some (.inl ((i + 1 : Nat) : Int))) a.length (fun k hk => ?_) ?_
    · simpa using inner
    · have d2 : decide ((k : Int) < ((a.length : Nat) : Int)) = true := by simp; omega
      have d3 : decide ((k : Int) < ((b.length : Nat) : Int)) = true := by simp; omega
      have c1 : ((a.take k).count (el a i) : Nat) ≤ k := Nat.le_trans List.count_le_length (by simp; omega)
      have c2 : ((b.take k).count (el a i) : Nat) ≤ k := Nat.le_trans List.count_le_length (by simp; omega)
      have w1 : IntKind.i64.wrap ((((a.take k).count (el a i) : Nat) : Int) + 1) = (((a.take k).count (el a i) : Nat) : Int) + 1 := wrap_id (by omega) (by omega)
      have w2 : IntKind.i64.wrap ((((b.take k).count (el a i) : Nat) : Int) + 1) = (((b.take k).count (el a i) : Nat) : Int) + 1 := wrap_id (by omega) (by omega)
      rw [cnt a k hk, cnt b k (by omega)]
      simp only [taskmilllaw_counted_l1, taskmilllaw_counted_j2, taskmilllaw_counted_j1, d1, d2, d3, nn, Bool.and_self, cond_true, ix_el, we, w1, w2]
      rw [wrap_n1 k (by omega)]
      by_cases h1 : el a k = el a i <;> by_cases h2 : el b k = el a i <;> simp [h1, h2]
    · have d2 : decide (((a.length : Nat) : Int) < ((a.length : Nat) : Int)) = false := by simp
      simp only [taskmilllaw_counted_l1, d2, cond_false]
      rw [List.take_length, List.take_of_length_le (by omega), h.count_eq, wrap_n1 i (by omega)]
      simp
  · have d1 : decide (((a.length : Nat) : Int) < ((a.length : Nat) : Int)) = false := by simp
    simp [taskmilllaw_counted_l2]
/-! ### The laws, more -/
theorem due_len (now : Int) (h : List Timer) (ok : OkH h) : (dueL now h).2.length + (dueL now h).1.length = h.length := by
  have := (due_perm now h ok).length_eq
  simpa using this
theorem due_walk (now : Int) : ∀ h, OkH h → ∀ (pre g l : List Timer), g = (dueL now h).1 → l = pre ++ (dueL now h).2 → l.length ≤ 10000 → loopO (taskmilllaw_AlarmDue_l1 now) (((pre.length : Nat) : Int), g, l, h) = some true :=
  due_ind now (fun h ok hn pre g l hg hl hll => by
    rw [dueL_no hn] at hg hl
    simp only [List.append_nil] at hg hl
    subst hg; subst hl
    have hlen := ok.len
    refine loopO_inr ?_
    simp only [taskmilllaw_AlarmDue_l1]
    by_cases hne : g = []
    · subst hne; simp [same_self, taskmilllaw_AlarmDue_j1]
    · have h0 := List.length_pos_iff.2 hne
      have d1 : decide ((0 : Int) < ((g.length : Nat) : Int)) = true := by simp; omega
      have hw : ¬ (el g 0).When ≤ now := fun hw => hn ⟨hne, hw⟩
      have e0 : ix g (0 : Int) = el g 0 := ix_el g 0
      simp only [d1, Bool.not_true, Bool.or_true, cond_true, Bool.true_and, e0, hw, decide_false, cond_false, beq_self_eq_true]
      rw [same_self _ (by omega)]
      simp [taskmilllaw_AlarmDue_j1]) (fun h ok hne hw ih pre g l hg hl hll => by
    rw [dueL_yes hne hw] at hg hl
    simp only at hg hl
    have h0 := List.length_pos_iff.2 hne
    have hlen := ok.len
    rw [show pre ++ el h 0 :: (dueL now (dropL h 0)).2 = (pre ++ [el h 0]) ++ (dueL now (dropL h 0)).2 by simp] at hl
    rw [← ih (pre ++ [el h 0]) g l hg hl hll]
    refine loopO_inl ?_
    have d1 : decide ((0 : Int) < ((h.length : Nat) : Int)) = true := by simp; omega
    have e0 : ix h (0 : Int) = el h 0 := ix_el h 0
    have hpl : pre.length < l.length := by rw [hl]; simp <;> omega
    have d2 : decide (((l.length : Nat) : Int) ≤ ((pre.length : Nat) : Int)) = false := by simp; omega
    have e1 : el l pre.length = el h 0 := by
      rw [hl]
      unfold el
      simp [List.getD_eq_getElem?_getD]
    have e2 := dropped_eq h 0 h0 (by omega)
    rw [show ((0 : Nat) : Int) = 0 from rfl] at e2
    simp only [taskmilllaw_AlarmDue_l1, d1, d2, Bool.not_true, Bool.not_false, Bool.or_true, Bool.false_or, cond_true, Bool.true_and, e0, hw, decide_true, in_b hpl, ix_el, e1, beq_self_eq_true, Bool.and_self, cond_false, e2, Option.bind_some]
    rw [wrap_n1 _ (by omega)]
    simp)
theorem due_j2 (h : List Timer) (now : Int) (hl : h.length ≤ 6000) (w : Fault) : taskmilllaw_AlarmDue_j2 h now w false = some true := by
  unfold taskmilllaw_AlarmDue_j2
  rw [own_eq _ (by omega)]
  simp only [cond_false, Option.bind_some, due_eq, ref_eq]
  unfold dueR
  rcases heapF_ok h with ⟨ok, hf⟩ | ⟨hf, _⟩
  · have hlen := due_len now h ok
    simp only [hf, ne_eq, not_true_eq_false, if_false, beq_self_eq_true, Bool.and_self, Bool.not_true, cond_false, bne_self_eq_false]
    by_cases h3 : (300 : Int) < ((h.length : Nat) : Int)
    · simp [h3]
    · simp only [h3, decide_false, cond_false]
      exact due_walk now h ok [] _ _ rfl rfl (by omega)
  · have h' : ((heapF h).Code != 0) = true := by simpa using hf
    simp [hf, h']
theorem due_law (h : List Timer) (now : Int) : taskmilllaw_AlarmDue h now = some true := by
  unfold taskmilllaw_AlarmDue
  rw [begun_eq]
  simp only [Option.bind_some, Bool.not_true, cond_false]
  by_cases h6 : (6000 : Int) < ((h.length : Nat) : Int)
  · simp [h6]
  · rw [own_eq _ (by omega)]
    simp only [h6, decide_false, cond_false, Option.bind_some, made_eq, F_eq]
    have j2 := due_j2 h now (by omega)
    have fin : ∀ i w, w = (madeR h).1 → (bif (!(((madeR h).1.Code == w.Code) && (((madeR h).1.At == w.At) && true))) then (taskmilllaw_AlarmDue_j2 h now w true) else (bif (w.Code != 0) then (bif (decide ((0 : Int) < (((madeR h).2.length : Nat) : Int))) then (taskmilllaw_AlarmDue_j2 h now w true) else (bif (w.Code == 0) then ((taskmillref_Heaped h).bind fun r2416 => ((taskmillref_SameTimers (madeR h).2 r2416).bind fun r2417 => (taskmilllaw_AlarmDue_j2 h now w (!r2417)))) else (taskmilllaw_AlarmDue_j2 h now w false))) else (bif (w.Code == 0) then ((taskmillref_Heaped h).bind fun r2419 => ((taskmillref_SameTimers (madeR h).2 r2419).bind fun r2420 => (taskmilllaw_AlarmDue_j2 h now w (!r2420)))) else (taskmilllaw_AlarmDue_j2 h now w false)))) = (fun _ : Int => some true) i := by
      rintro i w rfl
      simp only [beq_self_eq_true, Bool.and_self, Bool.not_true, cond_false]
      unfold madeR
      rcases madeF_ok h with ⟨hl, v, hf⟩ | hf
      · simp only [hf, ne_eq, not_true_eq_false, if_false, bne_self_eq_false, cond_false, beq_self_eq_true, cond_true]
        rw [heaped_eq _ (by omega)]
        simp only [Option.bind_some]
        rw [same_self _ (by rw [(heapify_perm _ _).length_eq]; omega)]
        simp [j2]
      · have h' : ((madeF h).Code != 0) = true := by simpa using hf
        have h'' : ((madeF h).Code == 0) = false := by simpa using hf
        simp [hf, h', h'', j2]
    have fin' : ∀ (i : Int) (w : Fault), w = (madeR h).1 → (i < ((h.length : Nat) : Int) → w.Code ≠ 0) → taskmilllaw_AlarmDue_l2 h now (madeR h).2 (madeR h).1 (i, w) = some (.inr true) := by
      intro i w hw hi
      have d1 : (decide (i < ((h.length : Nat) : Int)) && (w.Code == 0)) = false := by
        rw [Bool.eq_false_iff]
        simp only [Bool.and_eq_true, decide_eq_true_eq, beq_iff_eq, ne_eq, not_and]
        exact fun h => hi h
      simp only [taskmilllaw_AlarmDue_l2, d1, cond_false]
      rw [fin i w hw]; rfl
    unfold taskmilllaw_AlarmDue_j3
    by_cases h5 : 5000 < h.length
    · have d5 : decide ((5000 : Int) < ((h.length : Nat) : Int)) = true := by simp; omega
      simp only [d5, cond_true]
      exact loopO_inr (fin' 0 ⟨2, 0⟩ (by simp [madeR, madeF, h5]) (fun _ => by simp))
    · have d5 : decide ((5000 : Int) < ((h.length : Nat) : Int)) = false := by simp; omega
      simp only [d5, cond_false]
      have hF : madeF h = (firstAt (mbad h) h.length).getD ⟨0, 0⟩ := by simp [madeF, h5]
      have hc : ∀ i f, mbad h i = some f → f.Code ≠ 0 := fun i f hb => by
        unfold mbad at hb
        split at hb
        · cases hb; simp
        · cases hb
      have hR : (madeR h).1 = madeF h := by
        unfold madeR
        rcases madeF_ok h with ⟨_, _, hf⟩ | hf
        · simp [hf]
        · simp [hf]
      cases hf : firstAt (mbad h) h.length with
      | none =>
        have hn := (firstAt_none _).1 hf
        have := loopO_all (step := taskmilllaw_AlarmDue_l2 h now (madeR h).2 (madeR h).1) (fun i => (((i : Nat) : Int), (⟨0, 0⟩ : Fault))) (some true) h.length (fun i hi => ?_) (fin' _ _ (by rw [hR, hF, hf]; rfl) (fun hh => by omega))
        · exact this
        · have d1 : decide ((i : Int) < ((h.length : Nat) : Int)) = true := by simp; omega
          have hq : badT (el h i) = false := by
            have := hn i hi
            unfold mbad at this
            cases hq : badT (el h i) with
            | true => simp [hq] at this
            | false => rfl
          simp only [taskmilllaw_AlarmDue_l2, d1, nn, beq_self_eq_true, Bool.and_self, cond_true, ix_el, tf_eq, hq, Bool.false_eq_true, if_false, Option.bind_some]
          rw [wrap_n1 i (by omega)]
      | some f =>
        obtain ⟨k, hk, hb, hbef⟩ := firstAt_some _ hf
        have stepE : ∀ i (hi : i < h.length), taskmilllaw_AlarmDue_l2 h now (madeR h).2 (madeR h).1 ((i : Int), ⟨0, 0⟩) = some (.inl (((i + 1 : Nat) : Int), (mbad h i).getD ⟨0, 0⟩)) := by
          intro i hi
          have d1 : decide ((i : Int) < ((h.length : Nat) : Int)) = true := by simp; omega
          simp only [taskmilllaw_AlarmDue_l2, d1, nn, beq_self_eq_true, Bool.and_self, cond_true, ix_el, tf_eq, Option.bind_some]
          rw [wrap_n1 i (by omega)]
          unfold mbad
          cases badT (el h i) <;> rfl
        have walk : ∀ m, m ≤ k → loopO (taskmilllaw_AlarmDue_l2 h now (madeR h).2 (madeR h).1) (0, ⟨0, 0⟩) = loopO (taskmilllaw_AlarmDue_l2 h now (madeR h).2 (madeR h).1) ((m : Int), ⟨0, 0⟩) := by
          intro m
          induction m with
          | zero => exact fun _ => rfl
          | succ m ih =>
            intro hm
            rw [ih (by omega), loopO_inl (stepE m (by omega)), hbef m (by omega)]; rfl
        rw [walk k (Nat.le_refl _), loopO_inl (stepE k hk), hb]
        exact loopO_inr (fin' _ _ (by rw [hR, hF, hf]) (fun _ => hc k f hb))
theorem addR_ok {h : List Timer} (ok : OkH h) {t : Timer} (ht : badT t = false) (h5 : h.length < 5000) : addR h t = (((risen (h ++ [t]) h.length).2 : Int), ⟨0, 0⟩, (risen (h ++ [t]) h.length).1) := by
  have : ¬ h.length = 5000 := by omega
  simp [addR, okH_f ok, ht, this]
theorem keeps (h : List Timer) (t : Timer) (i : Int) : taskmilllaw_AlarmKeeps h t i = some true := by
  unfold taskmilllaw_AlarmKeeps
  rw [begun_eq]
  simp only [Option.bind_some, Bool.not_true, cond_false]
  by_cases h2 : (200 : Int) < ((h.length : Nat) : Int)
  · simp [h2]
  · simp only [h2, decide_false, cond_false, made_eq, Option.bind_some]
    rcases madeF_ok h with ⟨hl, v, hf⟩ | hf
    · have hm : madeR h = (⟨0, 0⟩, heapify h h.length) := by simp [madeR, hf]
      have hbt : (decide (t.Task < 1) || decide (t.When < 0)) = badT t := rfl
      rw [hm, hbt]
      cases ht : badT t with
      | true => simp
      | false =>
        obtain ⟨okm, hpm⟩ := made_ok hl v
        have hml := hpm.length_eq
        generalize heapify h h.length = m at okm hpm hml
        have hadd := addR_ok okm ht (by omega)
        have hp := risen_perm (m ++ [t]) m.length (by simp)
        have oka := add_ok okm t ht (by omega)
        have hpl := hp.1.length_eq
        simp only [List.length_append, List.length_cons, List.length_nil] at hpl
        have hel : el (m ++ [t]) m.length = t := by rw [el_app, if_pos rfl]
        rw [hel] at hp
        simp only [bne_self_eq_false, Bool.or_self, cond_false, add_eq, hadd, Option.bind_some]
        generalize risen (m ++ [t]) m.length = R at hp oka hpl
        have hR2 : R.2 < R.1.length := by have := hp.2.1; omega
        have d1 : decide (((R.2 : Nat) : Int) < 0) = false := by simp
        have d2 : decide (((R.1.length : Nat) : Int) ≤ ((R.2 : Nat) : Int)) = false := by simp; omega
        have hb : (h ++ [t]).length * 16 ≤ 140737488355328 := by simp; omega
        have hperm : R.1.Perm (h ++ [t]) := hp.1.trans (hpm.append_right [t])
        simp only [bne_self_eq_false, cond_false, check_eq, okH_f okm, okH_f oka, Option.bind_some]
        rw [counted_eq hpm (by omega), own_eq h (by omega)]
        simp only [Option.bind_some, Bool.not_true, cond_false, hb, decide_true, cond_true]
        rw [counted_eq hperm (by omega)]
        simp only [Option.bind_some, Bool.not_true, cond_false, d1, d2, in_b hR2, cond_true, ix_el, hp.2.2, beq_self_eq_true, Bool.and_self]
        unfold taskmilllaw_AlarmKeeps_j2
        simp only [cond_false]
        by_cases hi : i < 0 ∨ (R.1.length : Int) ≤ i
        · have : (decide (i < 0) || decide (((R.1.length : Nat) : Int) ≤ i)) = true := by simpa using hi
          simp [this]
        · have : (decide (i < 0) || decide (((R.1.length : Nat) : Int) ≤ i)) = false := by simp at hi ⊢; omega
          simp only [this, cond_false]
          obtain ⟨n, rfl⟩ : ∃ n : Nat, i = (n : Int) := ⟨i.toNat, by omega⟩
          have hn : n < R.1.length := by omega
          have hd : dropR R.1 (n : Int) = (el R.1 n, ⟨0, 0⟩, dropL R.1 n) := by simp [dropR, okH_f oka, hi]; omega
          have hdl := dropL_len R.1 n hn
          rw [drop_eq, hd]
          simp only [Option.bind_some, beq_self_eq_true, cond_true, check_eq, okH_f (dropL_ok oka n hn), in_b hn, ix_el, Bool.and_self]
          rw [own_eq _ (by omega)]
          have hb2 : (dropL R.1 n ++ [el R.1 n]).length * 16 ≤ 140737488355328 := by simp; omega
          simp only [Option.bind_some, hb2, decide_true, cond_true]
          rw [counted_eq ((List.perm_append_singleton ..).trans (dropL_perm R.1 n hn)) (by simp; omega)]
          simp [taskmilllaw_AlarmKeeps_j1]
    · have hm : (madeR h).1 = madeF h := by simp [madeR, hf]
      have h' : ((madeF h).Code != 0) = true := by simpa using hf
      simp [hm, h']
theorem times (h : List Timer) (a b : Int) : taskmilllaw_AlarmTimes h a b = some true := by
  unfold taskmilllaw_AlarmTimes
  rw [begun_eq]
  simp only [Option.bind_some, Bool.not_true, cond_false]
  by_cases h2 : (200 : Int) < ((h.length : Nat) : Int) ∨ b < a
  · have : (decide ((200 : Int) < ((h.length : Nat) : Int)) || decide (b < a)) = true := by simpa using h2
    simp [this]
  · have : (decide ((200 : Int) < ((h.length : Nat) : Int)) || decide (b < a)) = false := by simp at h2 ⊢; omega
    simp only [this, cond_false, made_eq, Option.bind_some]
    rcases madeF_ok h with ⟨hl, v, hf⟩ | hf
    · have hm : madeR h = (⟨0, 0⟩, heapify h h.length) := by simp [madeR, hf]
      rw [hm]
      obtain ⟨okm, hpm⟩ := made_ok hl v
      have hml := hpm.length_eq
      generalize heapify h h.length = m at okm hpm hml
      have dR : ∀ (g : List Timer) (now : Int), OkH g → dueR g now = (⟨0, 0⟩, (dueL now g).1, (dueL now g).2) := fun g now ok => by simp [dueR, okH_f ok]
      have okg := due_ok a m okm
      have l1 := due_len a m okm
      have l2 := due_len b m okm
      have l3 := due_len b _ okg
      have htwo := due_two a b (by omega) m okm
      have e1 : (dueL b (dueL a m).1).1 = (dueL b m).1 := by rw [htwo]
      have e2 : (dueL a m).2 ++ (dueL b (dueL a m).1).2 = (dueL b m).2 := by rw [htwo]
      simp only [bne_self_eq_false, cond_false, due_eq, dR _ _ okm, dR _ _ okg, Option.bind_some, e1]
      rw [same_self _ (by omega), own_eq (dueL a m).2 (by omega)]
      have hb : (dueL b m).2.length * 16 ≤ 140737488355328 := by omega
      simp only [Option.bind_some, Bool.not_true, cond_false, e2, hb, decide_true, cond_true]
      rw [same_self _ (by omega)]
      simp only [Option.bind_some, Bool.not_true]
      unfold taskmilllaw_AlarmTimes_j1
      simp only [cond_false]
      have hlate := due_late b m okm
      have hleft := due_left b m okm
      have hsort := due_sorted b m okm
      have hperm := (due_perm b m okm).trans hpm
      generalize dueL b m = D at l2 hlate hleft hsort hperm hb ⊢
      have q2 := loopO_all (step := taskmilllaw_AlarmTimes_l2 h b D.1 D.2) (fun i => ((i : Nat) : Int)) (some true) D.2.length (fun i hi => ?_) ?_
      · exact q2
      · have d1 : decide ((i : Int) < ((D.2.length : Nat) : Int)) = true := by simp; omega
        have hw : ¬ b < (el D.2 i).When := by have := hlate _ (List.getElem_mem hi); rw [← el_get hi] at this; omega
        simp only [taskmilllaw_AlarmTimes_l2, d1, nn, Bool.and_self, cond_true, ix_el, hw, decide_false, Bool.not_false, Bool.true_and, Bool.false_or]
        by_cases hi0 : 0 < i
        · have e : IntKind.i64.wrap ((i : Int) - 1) = ((i - 1 : Nat) : Int) := by rw [wrap_id (by omega) (by omega)]; omega
          have hs : ¬ (el D.2 i).When < (el D.2 (i - 1)).When := by
            have := List.pairwise_iff_getElem.1 hsort (i - 1) i (by omega) hi (by omega)
            rw [← el_get hi, ← el_get (show i - 1 < D.2.length by omega)] at this
            omega
          rw [e, wrap_n1 i (by omega)]
          simp [hi0, show i - 1 < D.2.length by omega, ix_el, hs]
        · have : i = 0 := by omega
          subst this
          simp [w1']
      · have d1 : decide (((D.2.length : Nat) : Int) < ((D.2.length : Nat) : Int)) = false := by simp
        simp only [taskmilllaw_AlarmTimes_l2, d1, cond_false]
        congr 1
        have q1 := loopO_all (step := taskmilllaw_AlarmTimes_l1 h b D.1 D.2) (fun i => ((i : Nat) : Int)) (some true) D.1.length (fun i hi => ?_) ?_
        · exact q1
        · have d1 : decide ((i : Int) < ((D.1.length : Nat) : Int)) = true := by simp; omega
          have hw : ¬ (el D.1 i).When ≤ b := by have := hleft _ (List.getElem_mem hi); rw [← el_get hi] at this; omega
          simp only [taskmilllaw_AlarmTimes_l1, d1, nn, Bool.and_self, cond_true, ix_el, hw, decide_false, cond_false]
          rw [wrap_n1 i (by omega)]
        · have d1 : decide (((D.1.length : Nat) : Int) < ((D.1.length : Nat) : Int)) = false := by simp
          simp only [taskmilllaw_AlarmTimes_l1, d1, cond_false]
          rw [own_eq _ (by omega)]
          have hb3 : (D.2 ++ D.1).length * 16 ≤ 140737488355328 := by simp; omega
          simp only [Option.bind_some, hb3, decide_true, cond_true]
          rw [counted_eq hperm (by simp; omega)]
          rfl
    · have hm : (madeR h).1 = madeF h := by simp [madeR, hf]
      have h' : ((madeF h).Code != 0) = true := by simpa using hf
      simp [hm, h']
end Go.Proofs.Ytbhgmnnelheblaa
