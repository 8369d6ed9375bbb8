/-
  What laws of the chapter lock compute, and lemmas on it.
  No conditions.
-/
import Derived.Test.YthknjjkldflbaaalockG
import Derived.Test.YthknjjkldflbaaaPA
set_option linter.unusedSimpArgs false
set_option linter.unusedVariables false
namespace Go.Proofs.Ythknjjkldflbaaa
open Go Go.Sx
theorem ints_eq (a b : List Int) (hn : a.length < 4611686018427387904) : taskmillref_Ints a b = some (decide (a = b)) := by
  unfold taskmillref_Ints
  by_cases hl : a.length = b.length
  · have := ints_gen a b hl hn (fun i => rfl : ∀ i, taskmillref_Ints_l1 a b i = _)
    simp [hl] at this ⊢
    exact this
  · have : a ≠ b := fun e => hl (by rw [e])
    have h2 : ((a.length : Int) != (b.length : Int)) = true := by simp; omega
    simp [h2, this]
theorem has_eq (l : List Int) (n : Int) (hn : l.length < 4611686018427387904) : taskmillref_Has l n = some (decide (n ∈ l)) := has_gen l n hn fun i => rfl
theorem contains_eq (l : List Int) (n : Int) (hn : l.length < 4611686018427387904) : slices_Contains_int l n = some (decide (n ∈ l)) := by
  unfold slices_Contains_int slices_Index_int
  obtain ⟨r, h1, h2, h3⟩ := index_gen l n hn (fun i => rfl : ∀ i, slices_Index_int_l1 l n i = _)
  rw [h1]
  by_cases h : n ∈ l
  · obtain ⟨i, rfl, _⟩ := h2 h
    simp [h]
  · rw [h3 h]; simp [h]
theorem nodup_take {α : Type} {l : List α} (h : l.Nodup) {i : Nat} (hi : i < l.length) : l[i] ∉ l.take i := fun hm => by
  obtain ⟨j, hj, he⟩ := List.mem_take_iff_getElem.1 hm
  have := List.nodup_iff_pairwise_ne.1 h
  rw [List.pairwise_iff_getElem] at this
  exact this j i (by omega) hi (by omega) he
def tasksOf (l : List Want) : List Int := l.map (·.Task)
theorem cloneW_eq (s : List Want) (h : s.length ≤ 1000000) : slices_Clone_Want s = some s := by
  have : s.length * 24 ≤ 140737488355328 := by omega
  simp [slices_Clone_Want, this]
theorem ownW_eq (s : List Want) (h : s.length ≤ 1000000) : taskmilllaw_ownWants s = some s := by
  have : s.length * 24 ≤ 140737488355328 := by omega
  simp [taskmilllaw_ownWants, this]
def isTask (l : List Want) (t : Int) (i : Nat) : Bool := decide ((tasksOf l)[i]? = some t)
theorem is_at {l : List Want} {t : Int} {i : Nat} (h : i < l.length) : isTask l t i = decide (l[i].Task = t) := by simp [isTask, tasksOf, h]
def inLine (l : List Want) (t : Int) : Int := match firstIf (isTask l t) l.length with
  | some i => (i : Int)
  | none => -1
theorem inLine_nonneg (l : List Want) (t : Int) : decide (0 ≤ inLine l t) = decide (t ∈ tasksOf l) := by
  unfold inLine
  rw [Bool.eq_iff_iff]
  simp only [decide_eq_true_eq]
  cases hf : firstIf (isTask l t) l.length with
  | some i =>
    obtain ⟨h1, h2, _⟩ := firstIf_some hf
    rw [is_at h1] at h2
    simp only [decide_eq_true_eq] at h2
    exact ⟨fun _ => List.mem_map.2 ⟨_, List.getElem_mem h1, h2⟩, fun _ => by simp⟩
  | none =>
    have h := firstIf_none.1 hf
    refine ⟨fun h => by have h : (0 : Int) ≤ -1 := h; omega, fun hm => ?_⟩
    obtain ⟨w, h1, h2⟩ := List.mem_map.1 hm
    obtain ⟨i, hi, rfl⟩ := List.getElem_of_mem h1
    have := h i hi
    rw [is_at hi] at this
    simp [h2] at this
theorem inLine_eq (l : List Want) (t : Int) (h : l.length ≤ 1000000) : taskmillref_InLine l t = some (inLine l t) := by
  unfold taskmillref_InLine
  have := loopO_if (step := taskmillref_InLine_l1 l t) (fun i => ((i : Nat) : Int)) (isTask l t) (fun i => some (i : Int)) (some (-1)) l.length (fun i hi hp => ?_) (fun i hi hp => ?_) (fun _ => ?_)
  · rw [show ((0 : Nat) : Int) = 0 from rfl] at this
    rw [this]
    unfold inLine
    cases firstIf (isTask l t) l.length <;> rfl
  · rw [is_at hi] at hp
    simp only [decide_eq_false_iff_not] at hp
    simp [taskmillref_InLine_l1, ix_get hi, hi, hp, wrap_n1 i (by omega), Bool.cond_eq_ite]
  · rw [is_at hi] at hp
    simp only [decide_eq_true_eq] at hp
    simp [taskmillref_InLine_l1, ix_get hi, hi, hp]
  · simp [taskmillref_InLine_l1]
theorem containsW_eq (l : List Want) (t : Int) (h : l.length ≤ 1000000) : slices_ContainsFunc_Want l t = some (decide (t ∈ tasksOf l), t) := by
  unfold slices_ContainsFunc_Want slices_IndexFunc_Want_1
  have := loopO_if (step := slices_IndexFunc_Want_1_l1 l) (fun i => (((i : Nat) : Int), t)) (isTask l t) (fun i => some ((i : Int), t)) (some (-1, t)) l.length (fun i hi hp => ?_) (fun i hi hp => ?_) (fun _ => ?_)
  · rw [show ((0 : Nat) : Int) = 0 from rfl] at this
    rw [this, ← inLine_nonneg]
    unfold inLine
    cases firstIf (isTask l t) l.length <;> rfl
  · rw [is_at hi] at hp
    simp only [decide_eq_false_iff_not] at hp
    simp [slices_IndexFunc_Want_1_l1, lock_Enter_1, ix_get hi, hi, hp, wrap_n1 i (by omega), Bool.cond_eq_ite]
  · rw [is_at hi] at hp
    simp only [decide_eq_true_eq] at hp
    simp [slices_IndexFunc_Want_1_l1, lock_Enter_1, ix_get hi, hi, hp]
  · simp [slices_IndexFunc_Want_1_l1]
theorem sameW_eq (a b : List Want) (hn : a.length < 4611686018427387904) : taskmillref_SameWants a b = some (decide (a = b)) := by
  unfold taskmillref_SameWants
  by_cases hl : a.length = b.length
  · have e : (((a.length : Nat) : Int) != ((b.length : Nat) : Int)) = false := by simp [hl]
    rw [e, cond_false]
    have we : ∀ x y : Want, ((x.Task == y.Task) && ((x.Write == y.Write) && ((x.N == y.N) && true))) = decide (x = y) := fun x y => by
      obtain ⟨a, b, c⟩ := x
      obtain ⟨d, e, f⟩ := y
      rw [Bool.eq_iff_iff]; simp
    have := loopO_if (step := taskmillref_SameWants_l1 a b) (fun i => ((i : Nat) : Int)) (fun i => !decide (a[i]? = b[i]?)) (fun i => some false) (some true) a.length (fun i hi hp => ?_) (fun i hi hp => ?_) (fun _ => ?_)
    · rw [show ((0 : Nat) : Int) = 0 from rfl] at this
      rw [this]
      cases hf : firstIf (fun i => !decide (a[i]? = b[i]?)) a.length with
      | none =>
        have := firstIf_none.1 hf
        have e : a = b := (list_eq_iff hl).2 fun i h1 h2 => by
          have := this i h1
          simpa [h1, h2] using this
        simp [e]
      | some i =>
        obtain ⟨_, h2, _⟩ := firstIf_some hf
        have : a ≠ b := fun e => by subst e; simp at h2
        simp [this]
    · have hi2 : i < b.length := by omega
      have e : a[i] = b[i] := by simpa [hi, hi2] using hp
      simp only [taskmillref_SameWants_l1, ix_get hi, ix_get hi2, we]
      simp [hi, hi2, e, wrap_n1 i (by omega)]
    · have hi2 : i < b.length := by omega
      have e : ¬ a[i] = b[i] := by simpa [hi, hi2] using hp
      simp only [taskmillref_SameWants_l1, ix_get hi, ix_get hi2, we]
      simp [hi, hi2, e]
    · simp [taskmillref_SameWants_l1]
  · have : a ≠ b := fun e => hl (by rw [e])
    have h2 : (((a.length : Nat) : Int) != ((b.length : Nat) : Int)) = true := by simp; omega
    simp [h2, this]
theorem tasks_snoc (l : List Want) (i : Nat) (h : i < l.length) : setAll [] (tasksOf (l.take (i + 1))) = miSet (setAll [] (tasksOf (l.take i))) l[i].Task 1 := by
  rw [setAll, List.take_succ_eq_append_getElem h, tasksOf, List.map_append, List.foldl_append]; rfl
theorem has_tasks (l : List Int) (x : Int) : decide (0 < miGet (setAll [] l) x) = decide (x ∈ l) := by
  rw [Bool.eq_iff_iff, miGet_setAll, miGet_nil]
  by_cases hm : x ∈ l <;> simp [hm]
/-! ### Locks -/
@[simp] theorem F_eq (c a : Int) : taskmillref_F c a = some ⟨c, a⟩ := rfl
@[simp] theorem fault_eq (c a : Int) : lock_fault c a = some ⟨c, a⟩ := rfl
def wbad (l : List Want) (i : Nat) : Option Fault := match l[i]? with
  | none => none
  | some w => if w.Task < 1 then some ⟨3, (i + 1 : Nat)⟩ else if w.Task ∈ tasksOf (l.take i) then some ⟨10, (i + 1 : Nat)⟩ else if w.N ≠ 0 then some ⟨5, (i + 1 : Nat)⟩ else none
def headIn (r : Int) (wr : Bool) : List Want → Bool
  | [] => false
  | w :: _ => !wr && (decide (r = 0) || !w.Write)
def lockF (l : Lock) : Fault := if 5000 < l.Line.length then ⟨2, 0⟩ else if l.Readers < 0 ∨ 1000000000 < l.Readers then ⟨3, 0⟩ else if (l.Writer = true ∧ 0 < l.Readers) ∨ headIn l.Readers l.Writer l.Line = true then ⟨5, 0⟩ else (firstAt (wbad l.Line) l.Line.length).getD ⟨0, 0⟩
/-- Those who are let in. -/
def admR : Int → Bool → List Want → List Int × Int × Bool × List Want
  | r, wr, [] => ([], r, wr, [])
  | r, wr, w :: t => if wr = true ∨ (w.Write = true ∧ 0 < r) then ([], r, wr, w :: t) else (w.Task :: (admR (if w.Write = true then r else r + 1) w.Write t).1, (admR (if w.Write = true then r else r + 1) w.Write t).2)
theorem admit_gen {ρ : Type} {step : Int × Bool × List Int × List Want → Option ((Int × Bool × List Int × List Want) ⊕ ρ)} (R : List Int → Int → Bool → List Want → ρ)
    (h0 : ∀ r wr o, step (r, wr, o, []) = some (.inr (R o r wr [])))
    (h1 : ∀ r wr o w t, (wr = true ∨ (w.Write = true ∧ 0 < r)) → step (r, wr, o, w :: t) = some (.inr (R o r wr (w :: t))))
    (h2 : ∀ r wr o w t, ¬ (wr = true ∨ (w.Write = true ∧ 0 < r)) → 0 ≤ r → r ≤ 2000000000 → o.length + t.length ≤ 1000000 → step (r, wr, o, w :: t) = some (.inl (if w.Write = true then r else r + 1, w.Write, o ++ [w.Task], t))) :
    ∀ (l : List Want) (r : Int) (wr : Bool) (o : List Int), 0 ≤ r → r + (l.length : Int) ≤ 2000000000 → o.length + l.length ≤ 1000000 → loopO step (r, wr, o, l) = some (R (o ++ (admR r wr l).1) (admR r wr l).2.1 (admR r wr l).2.2.1 (admR r wr l).2.2.2)
  | [], r, wr, o, _, _, _ => by
    refine loopO_inr ?_
    rw [h0]
    simp [admR]
  | w :: t, r, wr, o, hr0, hr1, hl => by
    simp only [List.length_cons] at hr1 hl
    by_cases hc : wr = true ∨ (w.Write = true ∧ 0 < r)
    · refine loopO_inr ?_
      rw [h1 _ _ _ _ _ hc]
      simp [admR, hc]
    · rw [loopO_inl (h2 r wr o w t hc hr0 (by omega) (by omega)), admit_gen R h0 h1 h2 t _ _ _ (by split <;> omega) (by split <;> omega) (by simp; omega)]
      simp only [admR, hc, if_false, List.append_assoc, List.singleton_append]
theorem cut_tail (w : Want) (t : List Want) : cut (w :: t) 1 (((w :: t).length : Nat) : Int) = t := by
  have := cut_drop' (w :: t) (n := 1) (i := 1) rfl
  simpa using this
theorem admit_eq (r : Int) (wr : Bool) (l : List Want) (h0 : 0 ≤ r) (h1 : r ≤ 1000000000) (hl : l.length ≤ 100000) : lock_admit r wr l = some (admR r wr l) := by
  unfold lock_admit
  rw [admit_gen (fun o r wr l => (o, r, wr, l)) (fun r wr o => by simp [lock_admit_l1, lock_admit_j1]) (fun r wr o w t hc => ?_) (fun r wr o w t hc hr hr' ho => ?_) l r wr [] h0 (by omega) (by simp; omega)]
  · rfl
  · have hlen : (0 : Int) < ((t.length : Nat) : Int) + 1 := by omega
    cases wr with
    | true => simp [lock_admit_l1, lock_admit_j1]
    | false =>
      have hc : w.Write = true ∧ 0 < r := by simpa using hc
      simp [lock_admit_l1, lock_admit_j1, ix, hc, hlen]
  · have hlen : (0 : Int) < ((t.length : Nat) : Int) + 1 := by omega
    have hlen1 : (1 : Int) ≤ ((t.length : Nat) : Int) + 1 := by omega
    have hb : (o.length + 1) * 8 ≤ 140737488355328 := by omega
    have hct := cut_tail w t
    simp only [List.length_cons, Int.natCast_add, Int.cast_ofNat_Int] at hct
    cases wr with
    | true => simp at hc
    | false =>
      have hw : (w.Write && decide (0 < r)) = false := by
        cases hw : w.Write <;> simp [hw] at hc ⊢; omega
      cases hww : w.Write with
      | true =>
        rw [hww] at hw
        simp only [Bool.true_and] at hw
        simp [lock_admit_l1, ix, hlen, hlen1, hb, hww, hw, hct]
      | false => simp [lock_admit_l1, ix, hlen, hlen1, hb, hww, hct, wrap_id (x := r + 1) (by omega) (by omega)]
theorem admitted1_eq (r : Int) (wr : Bool) (l : List Want) (h0 : 0 ≤ r) (h1 : r ≤ 1000000000) (hl : l.length ≤ 100000) : taskmillref_Admitted_1 r wr l = some ((admR r wr l).2.1, (admR r wr l).2.2.1, (admR r wr l).2.2.2, (admR r wr l).1) := by
  unfold taskmillref_Admitted_1
  rw [admit_gen (fun o r wr l => (r, wr, l, o)) (fun r wr o => by simp [taskmillref_Admitted_1_l1, taskmillref_Admitted_1_j1]) (fun r wr o w t hc => ?_) (fun r wr o w t hc hr hr' ho => ?_) l r wr [] h0 (by omega) (by simp; omega)]
  · rfl
  · have hlen : (0 : Int) < ((t.length : Nat) : Int) + 1 := by omega
    have hc' : (wr || (w.Write && decide (0 < r))) = true := by simpa using hc
    simp [taskmillref_Admitted_1_l1, taskmillref_Admitted_1_j1, ix, hc', hlen]
  · have hlen : (0 : Int) < ((t.length : Nat) : Int) + 1 := by omega
    have hlen1 : (1 : Int) ≤ ((t.length : Nat) : Int) + 1 := by omega
    have hb : (o.length + 1) * 8 ≤ 140737488355328 := by omega
    have hct := cut_tail w t
    simp only [List.length_cons, Int.natCast_add, Int.cast_ofNat_Int] at hct
    have hc' : (wr || (w.Write && decide (0 < r))) = false := by
      cases wr <;> cases hw : w.Write <;> simp [hw] at hc ⊢; omega
    have hwr : wr = false := by cases wr <;> simp at hc ⊢
    subst hwr
    simp only [Bool.false_or] at hc'
    cases hww : w.Write with
    | true =>
      rw [hww] at hc'
      simp only [Bool.true_and] at hc'
      simp [taskmillref_Admitted_1_l1, taskmillref_Admitted_1_j2, ix, hlen, hlen1, hb, hww, hc', hct]
    | false => simp [taskmillref_Admitted_1_l1, taskmillref_Admitted_1_j2, ix, hlen, hlen1, hb, hww, hct, wrap_id (x := r + 1) (by omega) (by omega)]
theorem admitted_eq (l : Lock) (h0 : 0 ≤ l.Readers) (h1 : l.Readers ≤ 1000000000) (hl : l.Line.length ≤ 100000) : taskmillref_Admitted l = some (⟨(admR l.Readers l.Writer l.Line).2.1, (admR l.Readers l.Writer l.Line).2.2.1, (admR l.Readers l.Writer l.Line).2.2.2⟩, (admR l.Readers l.Writer l.Line).1) := by
  unfold taskmillref_Admitted
  have gen : ∀ (l : List Want) (r : Int) (wr : Bool) (o : List Int), 0 ≤ r → r + (l.length : Int) ≤ 2000000000 → o.length + l.length ≤ 1000000 → loopO taskmillref_Admitted_l1 (⟨r, wr, l⟩, o) = some (⟨(admR r wr l).2.1, (admR r wr l).2.2.1, (admR r wr l).2.2.2⟩, o ++ (admR r wr l).1) := by
    intro l
    induction l with
    | nil =>
      intro r wr o _ _ _
      refine loopO_inr ?_
      simp [taskmillref_Admitted_l1, taskmillref_Admitted_j1, admR]
    | cons w t ih =>
      intro r wr o hr0 hr1 hl
      simp only [List.length_cons] at hr1 hl
      have hlen : (0 : Int) < ((t.length : Nat) : Int) + 1 := by omega
      have hlen1 : (1 : Int) ≤ ((t.length : Nat) : Int) + 1 := by omega
      have hb : (o.length + 1) * 8 ≤ 140737488355328 := by omega
      have hct := cut_tail w t
      simp only [List.length_cons, Int.natCast_add, Int.cast_ofNat_Int] at hct
      by_cases hc : wr = true ∨ (w.Write = true ∧ 0 < r)
      · refine loopO_inr ?_
        have hc' : (wr || (w.Write && decide (0 < r))) = true := by simpa using hc
        simp [taskmillref_Admitted_l1, taskmillref_Admitted_j1, ix, hc', hlen, admR, hc]
      · have hc' : (wr || (w.Write && decide (0 < r))) = false := by
          cases wr <;> cases hw : w.Write <;> simp [hw] at hc ⊢; omega
        have hwr : wr = false := by cases wr <;> simp at hc ⊢
        subst hwr
        simp only [Bool.false_or] at hc'
        rw [loopO_inl (s' := (⟨if w.Write = true then r else r + 1, w.Write, t⟩, o ++ [w.Task])) (by
          cases hww : w.Write with
          | true =>
            rw [hww] at hc'
            simp only [Bool.true_and] at hc'
            simp [taskmillref_Admitted_l1, taskmillref_Admitted_j2, ix, hlen, hlen1, hb, hww, hc', hct]
          | false => simp [taskmillref_Admitted_l1, taskmillref_Admitted_j2, ix, hlen, hlen1, hb, hww, hct, wrap_id (x := r + 1) (by omega) (by omega)]), ih _ _ _ (by split <;> omega) (by split <;> omega) (by simp; omega)]
        simp only [admR, hc, if_false, List.append_assoc, List.singleton_append]
  exact (gen l.Line l.Readers l.Writer [] h0 (by omega) (by simp; omega)).trans (by simp)
theorem admR_split : ∀ (l : List Want) (r : Int) (wr : Bool), tasksOf l = (admR r wr l).1 ++ tasksOf (admR r wr l).2.2.2
  | [], r, wr => rfl
  | w :: t, r, wr => by
    unfold admR
    split
    · rfl
    · show w.Task :: tasksOf t = w.Task :: _
      rw [admR_split t (if w.Write = true then r else r + 1) w.Write]; rfl
theorem admR_len (l : List Want) (r : Int) (wr : Bool) : (admR r wr l).1.length + (admR r wr l).2.2.2.length = l.length := by
  have := congrArg List.length (admR_split l r wr)
  simp [tasksOf] at this
  omega
theorem headIn_adm (l : List Want) (r : Int) (wr : Bool) (hr : 0 ≤ r) : headIn r wr l = decide ((0 : Int) < (((admR r wr l).1.length : Nat) : Int)) := by
  cases l with
  | nil => rfl
  | cons w t =>
    unfold headIn admR
    by_cases hc : wr = true ∨ (w.Write = true ∧ 0 < r)
    · rw [if_pos hc]
      rcases hc with hc | hc
      · simp [hc]
      · have : ¬ r = 0 := by omega
        simp [hc, this]
    · rw [if_neg hc]
      cases wr <;> cases hw : w.Write <;> simp [hw] at hc ⊢ <;> omega
theorem head_bool (l : Lock) : (decide ((0 : Int) < ((l.Line.length : Nat) : Int)) && ((!l.Writer) && ((l.Readers == 0) || (!(ix l.Line (0 : Int)).Write)))) = headIn l.Readers l.Writer l.Line := by
  unfold headIn
  cases h : l.Line with
  | nil => rfl
  | cons w t =>
    have : (0 : Int) < ((t.length : Nat) : Int) + 1 := by omega
    simp [ix, this]
    rfl
theorem check_eq (l : Lock) : lock_Check l = some (lockF l) := by
  unfold lock_Check lockF
  by_cases h1 : 5000 < l.Line.length
  · have : (5000 : Int) < (l.Line.length : Int) := by omega
    simp [h1, this]
  · have h1' : ¬ (5000 : Int) < (l.Line.length : Int) := by omega
    by_cases h2 : l.Readers < 0 ∨ 1000000000 < l.Readers
    · have h2' : (decide (l.Readers < 0) || decide (1000000000 < l.Readers)) = true := by simpa using h2
      simp [h1, h1', h2, h2']
    · have h2' : (decide (l.Readers < 0) || decide (1000000000 < l.Readers)) = false := by simp at h2 ⊢; omega
      have g : ∀ a b c d e : Bool, ((!((((a && b) && c) && d) && e)) || c) = true := by decide
      have hif : (bif l.Writer then (decide ((0 : Int) < l.Readers) || (decide ((0 : Int) < ((l.Line.length : Nat) : Int)) && ((!l.Writer) && ((l.Readers == 0) || (!(ix l.Line (0 : Int)).Write))))) else (decide ((0 : Int) < ((l.Line.length : Nat) : Int)) && ((!l.Writer) && ((l.Readers == 0) || (!(ix l.Line (0 : Int)).Write))))) = ((l.Writer && decide (0 < l.Readers)) || headIn l.Readers l.Writer l.Line) := by
        rw [head_bool]; cases l.Writer <;> simp
      have g2 : ∀ a b c d : Bool, ((!(((a && b) && c) && d)) || b) = true := by decide
      simp only [h1, h1', h2, h2', hif, decide_false, cond_false, if_false]
      rw [g, g2]
      simp only [cond_true]
      by_cases hh : (l.Writer = true ∧ 0 < l.Readers) ∨ headIn l.Readers l.Writer l.Line = true
      · have hh' : ((l.Writer && decide (0 < l.Readers)) || headIn l.Readers l.Writer l.Line) = true := by simpa using hh
        simp [hh, hh']
      · have hh' : ((l.Writer && decide (0 < l.Readers)) || headIn l.Readers l.Writer l.Line) = false := by
          rw [← Bool.not_eq_true]; simpa using hh
        rw [hh', if_neg hh, cond_false]
        have := loopO_findD (step := lock_Check_l1 l) (fun i => (((i : Nat) : Int), setAll [] (tasksOf (l.Line.take i)))) (wbad l.Line) ⟨0, 0⟩ l.Line.length (fun i hi hb => ?_) (fun i r hi hb => ?_) (fun _ => ?_)
        · exact this
        · simp only [wbad, List.getElem?_eq_getElem hi] at hb
          split at hb
          · cases hb
          · rename_i hx
            split at hb
            · cases hb
            · rename_i hy
              split at hb
              · cases hb
              · rename_i hz
                simp only [ne_eq, Classical.not_not] at hz
                simp only [lock_Check_l1, ix_get hi, tasks_snoc l.Line i hi, has_tasks, hx]
                simp [hi, hy, hz, wrap_n1 i (by omega)]
        · simp only [wbad, List.getElem?_eq_getElem hi] at hb
          simp only [lock_Check_l1, ix_get hi, has_tasks]
          split at hb
          · rename_i hx
            cases hb
            simp [hi, hx, wrap_n1 i (by omega)]
          · rename_i hx
            split at hb
            · rename_i hy
              cases hb
              simp [hi, hx, hy, wrap_n1 i (by omega)]
            · rename_i hy
              split at hb
              · rename_i hz
                cases hb
                have hz' : (l.Line[i].N != 0) = true := by simpa using hz
                simp [hi, hx, hy, hz', wrap_n1 i (by omega)]
              · cases hb
        · simp [lock_Check_l1]
theorem inner_eq (l : Lock) (i : Nat) (hi : i < l.Line.length) (hl : l.Line.length ≤ 100000) : loopO (taskmillref_LockFault_l1 l (i : Int)) 0 = if l.Line[i].Task ∈ tasksOf (l.Line.take i) then some (.inr ⟨10, (i + 1 : Nat)⟩) else if l.Line[i].N ≠ 0 then some (.inr ⟨5, (i + 1 : Nat)⟩) else some (.inl ((i + 1 : Nat) : Int)) := by
  have hw := wrap_n1 i (by omega)
  have := loopO_if (step := taskmillref_LockFault_l1 l (i : Int)) (fun k => ((k : Nat) : Int)) (isTask l.Line l.Line[i].Task) (fun _ => some (.inr ⟨10, ((i + 1 : Nat) : Int)⟩)) (if l.Line[i].N ≠ 0 then some (.inr ⟨5, ((i + 1 : Nat) : Int)⟩) else some (.inl ((i + 1 : Nat) : Int))) i (fun k hk hp => ?_) (fun k hk hp => ?_) (fun _ => ?_)
  · rw [show ((0 : Nat) : Int) = 0 from rfl] at this
    rw [this]
    cases hf : firstIf (isTask l.Line l.Line[i].Task) i with
    | some k =>
      obtain ⟨h1, h2, _⟩ := firstIf_some hf
      rw [is_at (by omega)] at h2
      simp only [decide_eq_true_eq] at h2
      have hkl : k < l.Line.length := by omega
      have hkm : k < min i l.Line.length := by omega
      have hm : l.Line[i].Task ∈ tasksOf (l.Line.take i) := List.mem_map.2 ⟨l.Line[k], List.mem_take_iff_getElem.2 ⟨k, hkm, rfl⟩, h2⟩
      simp only [hm, if_true]
    | none =>
      have h := firstIf_none.1 hf
      have hm : l.Line[i].Task ∉ tasksOf (l.Line.take i) := fun hm => by
        obtain ⟨w, h1, h2⟩ := List.mem_map.1 hm
        obtain ⟨k, hk, rfl⟩ := List.mem_take_iff_getElem.1 h1
        have := h k (by omega)
        rw [is_at (by omega)] at this
        simp [h2] at this
      simp only [hm, if_false]
  · rw [is_at (by omega)] at hp
    simp only [decide_eq_false_iff_not] at hp
    have hk' : k < l.Line.length := by omega
    have hki : (k : Int) < (i : Int) := by omega
    simp [taskmillref_LockFault_l1, ix_get hk', ix_get hi, hki, hk', hi, hp, wrap_n1 k (by omega), Bool.cond_eq_ite]
  · rw [is_at (by omega)] at hp
    simp only [decide_eq_true_eq] at hp
    have hk' : k < l.Line.length := by omega
    have hki : (k : Int) < (i : Int) := by omega
    simp [taskmillref_LockFault_l1, ix_get hk', ix_get hi, hki, hk', hi, hp, hw]
  · by_cases hz : l.Line[i].N = 0
    · simp [taskmillref_LockFault_l1, ix_get hi, hi, hz, hw]
    · have hz' : (l.Line[i].N != 0) = true := by simpa using hz
      simp [taskmillref_LockFault_l1, ix_get hi, hi, hz, hz', hw]
theorem refLock_eq (l : Lock) : taskmillref_LockFault l = some (lockF l) := by
  unfold taskmillref_LockFault lockF
  by_cases h1 : 5000 < l.Line.length
  · have : (5000 : Int) < (l.Line.length : Int) := by omega
    simp [h1, this]
  · have h1' : ¬ (5000 : Int) < (l.Line.length : Int) := by omega
    by_cases h2 : l.Readers < 0 ∨ 1000000000 < l.Readers
    · have h2' : (decide (l.Readers < 0) || decide (1000000000 < l.Readers)) = true := by simpa using h2
      simp [h1, h1', h2, h2']
    · have h2' : (decide (l.Readers < 0) || decide (1000000000 < l.Readers)) = false := by simp at h2 ⊢; omega
      simp only [h1, h1', h2, h2', decide_false, cond_false, if_false]
      by_cases h3 : l.Writer = true ∧ 0 < l.Readers
      · simp [h3]
      · have h3' : (l.Writer && decide (0 < l.Readers)) = false := by rw [← Bool.not_eq_true]; simpa using h3
        rw [h3', cond_false]
        have j1 : headIn l.Readers l.Writer l.Line = false → taskmillref_LockFault_j1 l = some (if (l.Writer = true ∧ 0 < l.Readers) ∨ headIn l.Readers l.Writer l.Line = true then ⟨5, 0⟩ else (firstAt (wbad l.Line) l.Line.length).getD ⟨0, 0⟩) := by
          intro hh
          rw [if_neg (by simp [h3, hh])]
          unfold taskmillref_LockFault_j1
          refine loopO_findD (step := taskmillref_LockFault_l2 l) (fun i => ((i : Nat) : Int)) (wbad l.Line) ⟨0, 0⟩ l.Line.length (fun i hi hb => ?_) (fun i r hi hb => ?_) (fun _ => ?_)
          · simp only [wbad, List.getElem?_eq_getElem hi] at hb
            simp only [taskmillref_LockFault_l2, ix_get hi, inner_eq l i hi (by omega)]
            split at hb
            · cases hb
            · rename_i hx
              split at hb
              · cases hb
              · rename_i hy
                split at hb
                · cases hb
                · rename_i hz
                  simp [hi, hx, hy, hz]
          · simp only [wbad, List.getElem?_eq_getElem hi] at hb
            simp only [taskmillref_LockFault_l2, ix_get hi, inner_eq l i hi (by omega)]
            split at hb
            · rename_i hx
              cases hb
              simp [hi, hx, wrap_n1 i (by omega)]
            · rename_i hx
              split at hb
              · rename_i hy
                cases hb
                simp [hi, hx, hy]
              · rename_i hy
                split at hb
                · rename_i hz
                  cases hb
                  simp [hi, hx, hy, hz]
                · cases hb
          · simp [taskmillref_LockFault_l2]
        rw [admitted_eq l (by omega) (by omega) (by omega)]
        have ha := headIn_adm l.Line l.Readers l.Writer (by omega)
        simp only [Option.bind_some, ← ha]
        cases hh : headIn l.Readers l.Writer l.Line with
        | true =>
          have : 0 < l.Line.length := by
            cases hl : l.Line with
            | nil => rw [hl] at hh; cases hh
            | cons w t => simp
          simp [this]
        | false =>
          rw [hh] at j1
          rw [cond_false, j1 rfl]
          cases decide ((0 : Int) < ((l.Line.length : Nat) : Int)) <;> rfl
structure OkK (l : Lock) : Prop where
  len : l.Line.length ≤ 5000
  lo : 0 ≤ l.Readers
  hi : l.Readers ≤ 1000000000
  excl : l.Writer = true → l.Readers = 0
  head : headIn l.Readers l.Writer l.Line = false
  task : ∀ w ∈ l.Line, 1 ≤ w.Task
  num : ∀ w ∈ l.Line, w.N = 0
  nodup : (tasksOf l.Line).Nodup
theorem lockF_of {l : Lock} (ok : OkK l) : lockF l = ⟨0, 0⟩ := by
  have h1 := ok.len
  have h2 := ok.lo
  have h3 := ok.hi
  have hn : firstAt (wbad l.Line) l.Line.length = none := (firstAt_none _).2 fun i hi => by
    simp only [wbad, List.getElem?_eq_getElem hi]
    have hm := List.getElem_mem hi
    have h4 := ok.task _ hm
    have h5 := ok.num _ hm
    rw [if_neg (by omega), if_neg, if_neg (by omega)]
    have := nodup_take ok.nodup (i := i) (by simp [tasksOf]; exact hi)
    simpa [tasksOf, List.map_take] using this
  unfold lockF
  rw [if_neg (by omega), if_neg (by omega), if_neg, hn]
  · rfl
  · rintro (h | h)
    · have := ok.excl h.1; omega
    · rw [ok.head] at h; cases h
theorem lockF_ok (l : Lock) : OkK l ∧ lockF l = ⟨0, 0⟩ ∨ (lockF l).Code ≠ 0 := by
  unfold lockF
  split
  · right; simp
  · split
    · right; simp
    · split
      · right; simp
      · rename_i h1 h2 h3
        cases hf : firstAt (wbad l.Line) l.Line.length with
        | some f =>
          right
          obtain ⟨i, hi, hb, _⟩ := firstAt_some _ hf
          simp only [wbad, List.getElem?_eq_getElem hi] at hb
          split at hb
          · cases hb; simp
          · split at hb
            · cases hb; simp
            · split at hb
              · cases hb; simp
              · cases hb
        | none =>
          left
          have h := (firstAt_none _).1 hf
          have hx : ∀ i (hi : i < l.Line.length), ¬ l.Line[i].Task < 1 ∧ ¬ l.Line[i].Task ∈ tasksOf (l.Line.take i) ∧ l.Line[i].N = 0 := fun i hi => by
            have := h i hi
            simp only [wbad, List.getElem?_eq_getElem hi] at this
            split at this
            · cases this
            · rename_i h3
              split at this
              · cases this
              · rename_i h4
                split at this
                · cases this
                · rename_i h5; exact ⟨h3, h4, by simpa using h5⟩
          simp only [not_or, not_and] at h3
          refine ⟨⟨by omega, by omega, by omega, fun hw => by have := h3.1 hw; omega, by simpa using h3.2, fun w hm => ?_, fun w hm => ?_, ?_⟩, rfl⟩
          · obtain ⟨i, hi, rfl⟩ := List.getElem_of_mem hm
            have := (hx i hi).1; omega
          · obtain ⟨i, hi, rfl⟩ := List.getElem_of_mem hm
            exact (hx i hi).2.2
          · rw [List.nodup_iff_pairwise_ne, List.pairwise_iff_getElem]
            intro i j hi hj hij he
            simp only [tasksOf, List.length_map, List.getElem_map] at hi hj he
            refine (hx j hj).2.1 ?_
            rw [← he]
            simp only [tasksOf]
            exact List.mem_map.2 ⟨l.Line[i], List.mem_take_iff_getElem.2 ⟨i, by omega, rfl⟩, rfl⟩
theorem copied_eq (l : Lock) (h : l.Line.length ≤ 1000000) : lock_copied l = some (l.Readers, l.Writer, l.Line) := by
  unfold lock_copied
  rw [cloneW_eq _ h]; rfl
theorem sameLock_mk (an bn : Int) (aw bw : Bool) (al bl : List Want) (h : al.length < 4611686018427387904) : taskmillref_SameLock ⟨an, aw, al⟩ ⟨bn, bw, bl⟩ = some (decide (an = bn ∧ aw = bw ∧ al = bl)) := by
  unfold taskmillref_SameLock taskmillref_SameLock_j1
  rw [sameW_eq _ _ h]
  by_cases h1 : an = bn <;> by_cases h2 : aw = bw <;> simp [h1, h2, Bool.cond_eq_ite]
theorem sameLock_self (a : Lock) (h : a.Line.length < 4611686018427387904) : taskmillref_SameLock a a = some true := by
  obtain ⟨an, aw, al⟩ := a
  rw [sameLock_mk _ _ _ _ _ _ h]
  simp
theorem noLock_eq (an : Int) (aw : Bool) (al : List Want) (h : al.length < 4611686018427387904) : taskmilllaw_noLock ⟨an, aw, al⟩ = some (decide (an = 0 ∧ aw = false ∧ al = [])) := by
  unfold taskmilllaw_noLock
  rw [sameLock_mk _ _ _ _ _ _ h]; rfl
/-! ### Leaving -/
def leaveR (l : Lock) (write : Bool) : Lock × Bool × Fault × List Int :=
  if (lockF l).Code ≠ 0 then (⟨0, false, []⟩, false, lockF l, [])
  else if (write = true ∧ l.Writer = false) ∨ (write = false ∧ l.Readers = 0) then (l, true, ⟨0, 0⟩, [])
  else
    let G := admR (if write = true then l.Readers else l.Readers - 1) (if write = true then false else l.Writer) l.Line
    (⟨G.2.1, G.2.2.1, G.2.2.2⟩, false, ⟨0, 0⟩, G.1)
theorem leave_eq (l : Lock) (write : Bool) : lock_Leave l write = some ((leaveR l write).1.Readers, (leaveR l write).1.Writer, (leaveR l write).2.1, (leaveR l write).2.2.1, (leaveR l write).1.Line, (leaveR l write).2.2.2) := by
  unfold lock_Leave lock_Leave_j1 leaveR
  rw [check_eq]
  rcases lockF_ok l with ⟨ok, h⟩ | h
  · have h1 := ok.len
    have h2 := ok.lo
    have h3 := ok.hi
    rw [copied_eq l (by omega), h]
    cases write with
    | true =>
      cases hw : l.Writer with
      | true =>
        simp only [Option.bind_some]
        rw [admit_eq _ _ _ h2 h3 (by omega)]
        simp
      | false => simp [hw]
    | false =>
      by_cases hr : l.Readers = 0
      · simp [hr]
      · have hr' : (l.Readers == 0) = false := by simpa using hr
        simp only [Option.bind_some]
        rw [wrap_id (x := l.Readers - 1) (by omega) (by omega), admit_eq (l.Readers - 1) _ _ (by omega) (by omega) (by omega)]
        simp [hr, hr']
  · simp [h, Bool.cond_eq_ite]
theorem begun_eq : taskmilllaw_lockBegun = some true := by
  unfold taskmilllaw_lockBegun
  rw [leave_eq]
  have h : leaveR ⟨0, true, [⟨2, false, 0⟩, ⟨3, true, 0⟩, ⟨4, false, 0⟩]⟩ true = (⟨1, false, [⟨3, true, 0⟩, ⟨4, false, 0⟩]⟩, false, ⟨0, 0⟩, [2]) := by decide
  rw [h]
  simp [taskmilllaw_lockBegun_j1, ints_eq]
/-! ### Entering -/
def enterF (l : Lock) (t : Int) : Fault := if (lockF l).Code ≠ 0 then lockF l else if t < 1 then ⟨3, -1⟩ else if t ∈ tasksOf l.Line then ⟨10, -1⟩ else if l.Line.length = 5000 ∨ l.Readers = 1000000000 then ⟨9, 0⟩ else ⟨0, 0⟩
def enterG (l : Lock) (t : Int) (write : Bool) : List Int × Int × Bool × List Want := admR l.Readers l.Writer (l.Line ++ [⟨t, write, 0⟩])
def enterR (l : Lock) (t : Int) (write try' : Bool) : Lock × Bool × Fault :=
  if (enterF l t).Code ≠ 0 then (⟨0, false, []⟩, false, enterF l t)
  else if t ∈ (enterG l t write).1 then (⟨(enterG l t write).2.1, (enterG l t write).2.2.1, (enterG l t write).2.2.2⟩, true, ⟨0, 0⟩)
  else if try' = true then (l, false, ⟨0, 0⟩)
  else (⟨(enterG l t write).2.1, (enterG l t write).2.2.1, (enterG l t write).2.2.2⟩, false, ⟨0, 0⟩)
theorem enterF_cases (l : Lock) (t : Int) : (OkK l ∧ 1 ≤ t ∧ t ∉ tasksOf l.Line ∧ l.Line.length < 5000 ∧ l.Readers < 1000000000 ∧ enterF l t = ⟨0, 0⟩) ∨ (enterF l t).Code ≠ 0 := by
  unfold enterF
  rcases lockF_ok l with ⟨ok, h⟩ | h
  · rw [h, if_neg (by simp)]
    split
    · right; simp
    · split
      · right; simp
      · split
        · right; simp
        · left
          have := ok.len
          have := ok.hi
          exact ⟨ok, by omega, by assumption, by omega, by omega, rfl⟩
  · right; rw [if_pos h]; exact h
theorem len_eq (n : Nat) : (((n : Nat) : Int) == 5000) = decide (n = 5000) := by rw [Bool.eq_iff_iff]; simp; omega
theorem enter_eq (l : Lock) (t : Int) (write try' : Bool) : lock_Enter l t write try' = some ((enterR l t write try').1.Readers, (enterR l t write try').1.Writer, (enterR l t write try').2.1, (enterR l t write try').2.2, (enterR l t write try').1.Line) := by
  unfold lock_Enter
  rw [check_eq]
  rcases enterF_cases l t with ⟨ok, h1, h2, h3, h4, hf⟩ | hc
  · have hlo := ok.lo
    rw [lockF_of ok, containsW_eq _ _ (by omega), copied_eq _ (by omega)]
    have c1 : decide (t < 1) = false := by simp; omega
    have hb : ((l.Line.length + 1) * 24 ≤ 140737488355328) := by omega
    have c2 : ((((l.Line.length : Nat) : Int) == 5000) || (l.Readers == 1000000000)) = false := by simp; omega
    have hg := admit_eq l.Readers l.Writer (l.Line ++ [⟨t, write, 0⟩]) hlo (by omega) (by simp; omega)
    have hlen := admR_len (l.Line ++ [⟨t, write, 0⟩]) l.Readers l.Writer
    simp only [List.length_append, List.length_cons, List.length_nil] at hlen
    simp only [Option.bind_some, c1, c2, h2, decide_false, cond_false, bne_self_eq_false, List.length_append, List.length_cons, List.length_nil, Nat.zero_add, hb, decide_true, cond_true, hg]
    rw [contains_eq _ _ (by omega)]
    unfold enterR
    rw [hf, if_neg (by simp)]
    by_cases hm : t ∈ (enterG l t write).1
    · have hm' : t ∈ (admR l.Readers l.Writer (l.Line ++ [⟨t, write, 0⟩])).1 := hm
      simp [hm, hm']
      exact ⟨rfl, rfl, rfl⟩
    · have hm' : t ∉ (admR l.Readers l.Writer (l.Line ++ [⟨t, write, 0⟩])).1 := hm
      cases try' with
      | false =>
        simp [hm, hm']
        exact ⟨rfl, rfl, rfl⟩
      | true => simp [hm, hm']
  · unfold enterR
    rw [if_pos hc]
    unfold enterF at hc ⊢
    rcases lockF_ok l with ⟨ok, h⟩ | h
    · have := ok.len
      rw [containsW_eq _ _ (by omega)]
      rw [h, if_neg (by simp)] at hc ⊢
      by_cases h1 : t < 1
      · simp [h1]
      · by_cases h2 : t ∈ tasksOf l.Line
        · simp [h1, h2]
        · by_cases h3 : l.Line.length = 5000 ∨ l.Readers = 1000000000
          · have c2 : ((((l.Line.length : Nat) : Int) == 5000) || (l.Readers == 1000000000)) = true := by simp; omega
            simp [h1, h2, h3, c2]
          · simp [h1, h2, h3] at hc
    · simp [h, Bool.cond_eq_ite]
theorem long_bool (n : Nat) : (bif (decide ((700 : Int) < ((n : Nat) : Int))) then ((decide (((n : Nat) : Int) < 4999)) || (decide ((6000 : Int) < ((n : Nat) : Int)))) else (decide ((6000 : Int) < ((n : Nat) : Int)))) = decide ((700 < n ∧ n < 4999) ∨ 6000 < n) := by
  rw [Bool.eq_iff_iff, Bool.cond_eq_ite]
  split
  · rename_i h; simp at h ⊢; omega
  · rename_i h; simp at h ⊢; omega
theorem lock_eta (l : Lock) : Lock.mk l.Readers l.Writer l.Line = l := rfl
theorem ownLock_eq (l : Lock) (h : l.Line.length ≤ 1000000) : taskmilllaw_ownLock l = some (l.Readers, l.Writer, l.Line) := by
  unfold taskmilllaw_ownLock
  rw [ownW_eq _ h]; rfl
set_option maxHeartbeats 2000000 in
theorem enters (l : Lock) (task : Int) (write try' : Bool) : taskmilllaw_LockEnters l task write try' = some true := by
  unfold taskmilllaw_LockEnters
  rw [begun_eq]
  simp only [Option.bind_some, Bool.not_true, cond_false, long_bool]
  by_cases h0 : (700 < l.Line.length ∧ l.Line.length < 4999) ∨ 6000 < l.Line.length
  · simp [h0]
  · have hl : l.Line.length ≤ 6000 := by omega
    rw [ownLock_eq _ (by omega)]
    simp only [h0, decide_false, cond_false, Option.bind_some, lock_eta, check_eq, enter_eq, refLock_eq]
    rw [sameLock_self l (by omega)]
    simp only [Option.bind_some, Bool.not_true, cond_false, beq_self_eq_true, Bool.and_self]
    have j3 : ∀ w, w = enterF l task → taskmilllaw_LockEnters_j3 l task write try' (enterR l task write try').2.1 (enterR l task write try').1.Readers (enterR l task write try').1.Writer (enterR l task write try').2.2 (enterR l task write try').1.Line w = some true := by
      rintro w rfl
      unfold taskmilllaw_LockEnters_j3
      rw [ownW_eq _ (by omega)]
      rcases enterF_cases l task with ⟨ok, h1, h2, h3, h4, hf⟩ | hc
      · have hlo := ok.lo
        have hb : ((l.Line.length + 1) * 24 ≤ 140737488355328) := by omega
        have hg := admitted1_eq l.Readers l.Writer (l.Line ++ [⟨task, write, 0⟩]) hlo (by omega) (by simp; omega)
        have hlen := admR_len (l.Line ++ [⟨task, write, 0⟩]) l.Readers l.Writer
        simp only [List.length_append, List.length_cons, List.length_nil] at hlen
        simp only [Option.bind_some, List.length_append, List.length_cons, List.length_nil, Nat.zero_add, hb, decide_true, cond_true, hg]
        rw [has_eq _ _ (by omega)]
        simp only [Option.bind_some, enterR, hf, ne_eq, not_true_eq_false, if_false]
        have hG' : admR l.Readers l.Writer (l.Line ++ [⟨task, write, 0⟩]) = enterG l task write := rfl
        rw [hG'] at hlen ⊢
        have hs : taskmillref_SameLock ⟨(enterG l task write).2.1, (enterG l task write).2.2.1, (enterG l task write).2.2.2⟩ ⟨(enterG l task write).2.1, (enterG l task write).2.2.1, (enterG l task write).2.2.2⟩ = some true := sameLock_self _ (by show (enterG l task write).2.2.2.length < _; omega)
        have hs2 : taskmillref_SameLock ⟨l.Readers, l.Writer, l.Line⟩ ⟨l.Readers, l.Writer, l.Line⟩ = some true := sameLock_self _ (by show l.Line.length < _; omega)
        by_cases hm : task ∈ (enterG l task write).1
        · simp [hm, taskmilllaw_LockEnters_j2, hs]
        · cases try' with
          | false => simp [hm, taskmilllaw_LockEnters_j2, hs]
          | true => simp [hm, taskmilllaw_LockEnters_j2, hs2]
      · simp [enterR, hc, taskmilllaw_LockEnters_j1, noLock_eq _ _ [] (by simp), Bool.cond_eq_ite]
    have j6 : ∀ w, (w.Code ≠ 0 → w = enterF l task) → (w.Code = 0 → w = ⟨0, 0⟩ ∧ enterF l task = if task ∈ tasksOf l.Line then ⟨10, -1⟩ else if l.Line.length = 5000 ∨ l.Readers = 1000000000 then ⟨9, 0⟩ else ⟨0, 0⟩) → taskmilllaw_LockEnters_j6 l task write try' (enterR l task write try').2.1 (enterR l task write try').1.Readers (enterR l task write try').1.Writer (enterR l task write try').2.2 (enterR l task write try').1.Line w = some true := by
      intro w hw hw'
      unfold taskmilllaw_LockEnters_j6 taskmilllaw_LockEnters_j5 taskmilllaw_LockEnters_j4
      rw [inLine_eq _ _ (by omega)]
      simp only [Option.bind_some, inLine_nonneg, F_eq]
      by_cases hc : w.Code = 0
      · obtain ⟨rfl, hF⟩ := hw' hc
        by_cases h2 : task ∈ tasksOf l.Line
        · rw [if_pos h2] at hF
          simp [h2, j3 _ hF.symm]
        · rw [if_neg h2] at hF
          by_cases h3 : l.Line.length = 5000 ∨ l.Readers = 1000000000
          · rw [if_pos h3] at hF
            have c2 : ((((l.Line.length : Nat) : Int) == 5000) || (l.Readers == 1000000000)) = true := by simp; omega
            simp only [h2, c2, decide_false, cond_false, cond_true, beq_self_eq_true, Bool.and_self]
            exact j3 _ hF.symm
          · rw [if_neg h3] at hF
            have c2 : ((((l.Line.length : Nat) : Int) == 5000) || (l.Readers == 1000000000)) = false := by simp; omega
            simp only [h2, c2, decide_false, cond_false, cond_true, beq_self_eq_true, Bool.and_false]
            exact j3 _ hF.symm
      · have hc' : (w.Code == 0) = false := by simpa using hc
        simp [hc', j3 _ (hw hc)]
    unfold taskmilllaw_LockEnters_j7
    simp only [cond_false, F_eq, Option.bind_some]
    rcases lockF_ok l with ⟨ok, h⟩ | h
    · by_cases h1 : task < 1
      · have := j6 ⟨3, -1⟩ (fun _ => by simp [enterF, h, h1]) (fun hh => by simp at hh)
        simp only [h, h1, decide_true, beq_self_eq_true, Bool.and_self, cond_true] at this ⊢
        exact this
      · have := j6 ⟨0, 0⟩ (fun hh => by simp at hh) (fun _ => ⟨rfl, by simp only [enterF, h, h1, ne_eq, not_true_eq_false, if_false]⟩)
        simp only [h, h1, decide_false, Bool.and_false, cond_false] at this ⊢
        exact this
    · have h' : ((lockF l).Code == 0) = false := by simpa using h
      have := j6 (lockF l) (fun _ => by simp [enterF, h]) (fun hh => absurd hh h)
      simp only [h', Bool.false_and, cond_false]
      exact this
def seqL (a : Int) (k : Nat) : List Int := (List.range k).map fun i => a + 1 + ((i : Nat) : Int)
theorem seq_len (a : Int) (k : Nat) : (seqL a k).length = k := by simp [seqL]
theorem seq_succ (a : Int) (k : Nat) : seqL a (k + 1) = seqL a k ++ [a + 1 + (k : Int)] := by simp [seqL, List.range_succ]
theorem mem_seq {a : Int} {k : Nat} {x : Int} : x ∈ seqL a k ↔ a < x ∧ x ≤ a + k := by
  simp only [seqL, List.mem_map, List.mem_range]
  constructor
  · rintro ⟨i, h, rfl⟩; omega
  · intro h; exact ⟨(x - a - 1).toNat, by omega, by omega⟩
theorem seq_nodup (a : Int) (k : Nat) : (seqL a k).Nodup := by
  induction k with
  | zero => simp [seqL]
  | succ n ih =>
    rw [seq_succ, List.nodup_append]
    refine ⟨ih, by simp, fun x hx y hy => ?_⟩
    have := mem_seq.1 hx
    simp only [List.mem_singleton] at hy
    omega
theorem seq_get {a : Int} {k i : Nat} (h : i < k) : (seqL a k)[i]'(by rw [seq_len]; exact h) = a + 1 + (i : Int) := by simp [seqL]
/-- wants of a kind, by such tasks -/
def wantL (wr : Bool) (a : Int) (k : Nat) : List Want := (seqL a k).map fun t => ⟨t, wr, 0⟩
theorem want_len (wr : Bool) (a : Int) (k : Nat) : (wantL wr a k).length = k := by simp [wantL, seq_len]
theorem want_tasks (wr : Bool) (a : Int) (k : Nat) : tasksOf (wantL wr a k) = seqL a k := by simp [tasksOf, wantL, Function.comp_def]
theorem want_succ (wr : Bool) (a : Int) (k : Nat) : wantL wr a (k + 1) = wantL wr a k ++ [⟨a + 1 + (k : Int), wr, 0⟩] := by simp [wantL, seq_succ]
theorem want_drop {wr : Bool} {a : Int} {k j : Nat} (h : j < k) : (wantL wr a k).drop j = ⟨a + 1 + (j : Int), wr, 0⟩ :: (wantL wr a k).drop (j + 1) := by
  rw [List.drop_eq_getElem_cons (by rw [want_len]; exact h)]
  congr 1
  simp [wantL, seqL]
theorem admR_w (r : Int) (l : List Want) : admR r true l = ([], r, true, l) := by cases l <;> simp [admR]
theorem headIn_w (r : Int) (l : List Want) : headIn r true l = false := by cases l <;> simp [headIn]
theorem okK_of {r : Int} {wr : Bool} {l : List Want} {a : Int} {k j : Nat} {w' : Bool} (hl : l = (wantL w' a k).drop j) (h0 : 0 ≤ a) (hk : k ≤ 5000) (hr : 0 ≤ r ∧ r ≤ 1000000000) (he : wr = true → r = 0) (hh : headIn r wr l = false) : OkK ⟨r, wr, l⟩ := by
  have hm : ∀ w ∈ (wantL w' a k).drop j, w.N = 0 ∧ a < w.Task := fun w hw => by
    have := List.mem_of_mem_drop hw
    simp only [wantL, List.mem_map] at this
    obtain ⟨t, h1, rfl⟩ := this
    exact ⟨rfl, (mem_seq.1 h1).1⟩
  subst hl
  refine ⟨by show ((wantL w' a k).drop j).length ≤ 5000; rw [List.length_drop, want_len]; omega, hr.1, hr.2, he, hh, fun w hw => by have := hm w hw; omega, fun w hw => (hm w hw).1, ?_⟩
  show (tasksOf ((wantL w' a k).drop j)).Nodup
  have : tasksOf ((wantL w' a k).drop j) = (seqL a k).drop j := by rw [← want_tasks w']; simp [tasksOf, List.map_drop]
  rw [this]
  exact (List.drop_sublist _ _).nodup (seq_nodup a k)
theorem enterF_of {l : Lock} {t : Int} (ok : OkK l) (h1 : 1 ≤ t) (h2 : t ∉ tasksOf l.Line) (h3 : l.Line.length < 5000) (h4 : l.Readers < 1000000000) : enterF l t = ⟨0, 0⟩ := by
  unfold enterF
  rw [lockF_of ok, if_neg (by simp), if_neg (by omega), if_neg h2, if_neg (by omega)]
theorem mutex (n : Int) : taskmilllaw_LockMutex n = some true := by
  unfold taskmilllaw_LockMutex
  rw [begun_eq]
  simp only [Option.bind_some, Bool.not_true, cond_false]
  by_cases h0 : n < 1 ∨ 100 < n
  · have : (decide (n < 1) || decide (100 < n)) = true := by simpa using h0
    simp [this]
  · have h0' : (decide (n < 1) || decide (100 < n)) = false := by simp at h0 ⊢; omega
    simp only [h0', cond_false]
    obtain ⟨m, rfl⟩ : ∃ m : Nat, n = (m : Int) + 1 := ⟨(n - 1).toNat, by omega⟩
    have hm : m < 100 := by omega
    have okd : ∀ j, OkK ⟨0, true, (wantL true 1 m).drop j⟩ := fun j => okK_of rfl (by omega) (by omega) (by omega) (fun _ => rfl) (headIn_w _ _)
    have ok0 : OkK ⟨0, false, []⟩ := okK_of (a := 0) (k := 0) (j := 0) (w' := true) rfl (by omega) (by omega) (by omega) (fun h => by cases h) rfl
    -- they leave
    have rel : loopO (taskmilllaw_LockMutex_l1 ((m : Int) + 1)) (2, 0, true, wantL true 1 m) = some true := by
      have key := loopO_all (step := taskmilllaw_LockMutex_l1 ((m : Int) + 1)) (fun j => (((j : Nat) : Int) + 2, (0 : Int), decide (j ≤ m), (wantL true 1 m).drop j)) (some true) (m + 1) (fun j hj => ?_) ?_
      · simpa using key
      · have hR : leaveR ⟨0, true, (wantL true 1 m).drop j⟩ true = (⟨0, decide (j + 1 ≤ m), (wantL true 1 m).drop (j + 1)⟩, false, ⟨0, 0⟩, if j < m then [((j : Nat) : Int) + 2] else []) := by
          unfold leaveR
          rw [lockF_of (okd j), if_neg (by simp), if_neg (by simp)]
          by_cases hjm : j < m
          · rw [if_pos hjm]
            have e : (⟨1 + 1 + (j : Int), true, 0⟩ : Want) = ⟨(j : Int) + 2, true, 0⟩ := by congr 1; omega
            have h1 : decide (j + 1 ≤ m) = true := by simp; omega
            simp only [want_drop hjm, e, h1, if_true, admR, Bool.false_eq_true, Int.lt_irrefl, and_false, or_self, if_false, admR_w]
          · have hj' : j = m := by omega
            subst hj'
            have hd : (wantL true 1 j).drop j = [] := by rw [List.drop_eq_nil_iff, want_len]; omega
            have hd' : (wantL true 1 j).drop (j + 1) = [] := by rw [List.drop_eq_nil_iff, want_len]; omega
            simp [hd, hd', admR]
        have hjd : decide (j ≤ m) = true := by simp; omega
        have hw : IntKind.i64.wrap ((m : Int) + 1 + 1) = (m : Int) + 2 := by rw [wrap_id (by omega) (by omega)]; omega
        have hwj : IntKind.i64.wrap ((j : Int) + 2 + 1) = ((j + 1 : Nat) : Int) + 2 := by rw [wrap_id (by omega) (by omega)]; omega
        have c1 : ((j : Int) + 2 ≤ (m : Int) + 2) := by omega
        simp only [taskmilllaw_LockMutex_l1, hjd, leave_eq, hR, hw, c1, decide_true, cond_true, Option.bind_some, bne_self_eq_false, cond_false]
        by_cases hjm : j < m
        · have c2 : (j : Int) + 2 ≤ (m : Int) + 1 := by omega
          have c3 : ¬ (m : Int) + 1 < (j : Int) + 2 := by omega
          simp [hjm, c2, c3, ints_eq, taskmilllaw_LockMutex_j1, hwj]
        · have c2 : ¬ (j : Int) + 2 ≤ (m : Int) + 1 := by omega
          have c3 : (m : Int) + 1 < (j : Int) + 2 := by omega
          simp [hjm, c2, c3, taskmilllaw_LockMutex_j1, hwj]
      · have hd : (wantL true 1 m).drop (m + 1) = [] := by rw [List.drop_eq_nil_iff, want_len]; omega
        have hw : IntKind.i64.wrap ((m : Int) + 1 + 1) = (m : Int) + 2 := by rw [wrap_id (by omega) (by omega)]; omega
        have hR : leaveR ⟨0, false, []⟩ true = (⟨0, false, []⟩, true, ⟨0, 0⟩, []) := by decide
        have hdd : decide (m + 1 ≤ m) = false := by simp
        have c1 : ¬ (((m + 1 : Nat) : Int) + 2 ≤ (m : Int) + 2) := by omega
        simp only [taskmilllaw_LockMutex_l1, hd, hdd, hw, c1, decide_false, cond_false, leave_eq, hR, Option.bind_some, beq_self_eq_true, cond_true, noLock_eq _ _ [] (by simp), taskmilllaw_LockMutex_j2]
        rfl
    -- they come
    have key := loopO_all (step := taskmilllaw_LockMutex_l2 ((m : Int) + 1)) (fun j => (((j : Nat) : Int) + 1, (0 : Int), decide (0 < j), wantL true 1 (j - 1))) (some true) (m + 1) (fun j hj => ?_) ?_
    · exact key
    · have hwj : IntKind.i64.wrap ((j : Int) + 1 + 1) = ((j + 1 : Nat) : Int) + 1 := by rw [wrap_id (by omega) (by omega)]; omega
      have c1 : (j : Int) + 1 ≤ (m : Int) + 1 := by omega
      cases j with
      | zero =>
        have hR : enterR ⟨0, false, []⟩ 1 true false = (⟨0, true, []⟩, true, ⟨0, 0⟩) := by decide
        have hx : wantL true 1 (0 - 1) = [] := rfl
        have hw2 : IntKind.i64.wrap 2 = 2 := wrap_id (by omega) (by omega)
        have c0 : (1 : Int) ≤ (m : Int) + 1 := by omega
        simp [taskmilllaw_LockMutex_l2, hx, enter_eq, hR, c0, wantL, seqL, hw2]
      | succ i =>
        have hlen := want_len true 1 i
        have hok := okd 0
        have hok : OkK ⟨0, true, wantL true 1 i⟩ := okK_of (a := 1) (k := i) (j := 0) (w' := true) rfl (by omega) (by omega) (by omega) (fun _ => rfl) (headIn_w _ _)
        have hF : enterF ⟨0, true, wantL true 1 i⟩ (((i + 1 : Nat) : Int) + 1) = ⟨0, 0⟩ := enterF_of hok (by omega) (by show _ ∉ tasksOf (wantL true 1 i); rw [want_tasks, mem_seq]; omega) (by show (wantL true 1 i).length < 5000; omega) (by show (0 : Int) < _; omega)
        have e : (⟨1 + 1 + (i : Int), true, 0⟩ : Want) = ⟨((i + 1 : Nat) : Int) + 1, true, 0⟩ := by congr 1; omega
        have hG : enterG ⟨0, true, wantL true 1 i⟩ (((i + 1 : Nat) : Int) + 1) true = ([], 0, true, wantL true 1 (i + 1)) := by
          unfold enterG
          rw [admR_w, want_succ, e]
        have hR : enterR ⟨0, true, wantL true 1 i⟩ (((i + 1 : Nat) : Int) + 1) true false = (⟨0, true, wantL true 1 (i + 1)⟩, false, ⟨0, 0⟩) := by
          unfold enterR
          rw [hF, if_neg (by simp), hG]
          simp
        have hne : ((((i + 1 : Nat) : Int) + 1) == 1) = false := by simp; omega
        have hd : decide (0 < i + 1) = true := by simp
        have hd2 : decide (0 < i + 1 + 1) = true := by simp
        simp only [taskmilllaw_LockMutex_l2, hd, hd2, Nat.add_sub_cancel, enter_eq, hR, c1, hwj, hne, decide_true, cond_true, Option.bind_some, bne_self_eq_false, Bool.or_self, cond_false]
    · have c1 : ¬ (((m + 1 : Nat) : Int) + 1 ≤ (m : Int) + 1) := by omega
      have hd : decide (0 < m + 1) = true := by simp
      simp only [taskmilllaw_LockMutex_l2, c1, hd, decide_false, cond_false, Nat.add_sub_cancel, rel]
/-! ### Readers share -/
theorem admR_readers : ∀ (l : List Want) (r : Int), (∀ w ∈ l, w.Write = false) → admR r false l = (tasksOf l, r + (l.length : Int), false, [])
  | [], r, _ => by simp [admR, tasksOf]
  | w :: t, r, h => by
    have hw := h w (List.mem_cons_self ..)
    unfold admR
    rw [if_neg (by simp [hw]), hw, if_neg (by simp), admR_readers t (r + 1) (fun x hx => h x (List.mem_cons_of_mem _ hx))]
    simp only [tasksOf, List.map_cons, List.length_cons, Prod.mk.injEq, and_true, true_and]
    omega
def lineS (R t : Nat) : List Want := ⟨(R : Int) + 1, true, 0⟩ :: wantL false ((R : Int) + 1) t
theorem lineS_ok {R t : Nat} {r : Int} (ht : t ≤ 1000) (h1 : 1 ≤ r) (h2 : r ≤ 1000) : OkK ⟨r, false, lineS R t⟩ := by
  have hm : ∀ w ∈ lineS R t, 1 ≤ w.Task ∧ w.N = 0 := fun w hw => by
    rcases List.mem_cons.1 hw with rfl | hw
    · exact ⟨by show 1 ≤ (R : Int) + 1; omega, rfl⟩
    · simp only [wantL, List.mem_map] at hw
      obtain ⟨x, hx, rfl⟩ := hw
      have := mem_seq.1 hx
      exact ⟨by show 1 ≤ x; omega, rfl⟩
  refine ⟨by show (wantL false ((R : Int) + 1) t).length + 1 ≤ 5000; rw [want_len]; omega, by show 0 ≤ r; omega, by show r ≤ 1000000000; omega, (fun h => by cases h), ?_, fun w hw => (hm w hw).1, fun w hw => (hm w hw).2, ?_⟩
  · have : ¬ r = 0 := by omega
    simp [headIn, lineS, this]
  · show (((R : Int) + 1) :: tasksOf (wantL false ((R : Int) + 1) t)).Nodup
    rw [want_tasks, List.nodup_cons]
    exact ⟨by rw [mem_seq]; omega, seq_nodup _ _⟩
set_option maxHeartbeats 1000000 in
theorem shares (readers later : Int) : taskmilllaw_LockShares readers later = some true := by
  unfold taskmilllaw_LockShares
  rw [begun_eq]
  simp only [Option.bind_some, Bool.not_true, cond_false]
  by_cases h0 : readers < 1 ∨ 50 < readers ∨ later < 0 ∨ 50 < later
  · have : (decide (readers < 1) || (decide (50 < readers) || (decide (later < 0) || decide (50 < later)))) = true := by simpa using h0
    simp [this]
  · have h0' : (decide (readers < 1) || (decide (50 < readers) || (decide (later < 0) || decide (50 < later)))) = false := by simp at h0 ⊢; omega
    simp only [h0', cond_false]
    obtain ⟨R, rfl⟩ : ∃ R : Nat, readers = (R : Int) := ⟨readers.toNat, by omega⟩
    obtain ⟨L, rfl⟩ : ∃ L : Nat, later = (L : Int) := ⟨later.toNat, by omega⟩
    have hR0 : 1 ≤ R := by omega
    have hR1 : R ≤ 50 := by omega
    have hL : L ≤ 50 := by omega
    have w1 : IntKind.i64.wrap ((R : Int) + 1) = (R : Int) + 1 := wrap_id (by omega) (by omega)
    have w2 : IntKind.i64.wrap ((R : Int) + 2) = (R : Int) + 2 := wrap_id (by omega) (by omega)
    -- they leave
    have rel : loopO (taskmilllaw_LockShares_l1 (R : Int) (L : Int) (seqL ((R : Int) + 1) L)) (1, (R : Int), false, lineS R L) = some true := by
      have key := loopO_all (step := taskmilllaw_LockShares_l1 (R : Int) (L : Int) (seqL ((R : Int) + 1) L)) (fun j => (((j : Nat) : Int) + 1, (R : Int) - (j : Int), decide (R ≤ j), if R ≤ j then wantL false ((R : Int) + 1) L else lineS R L)) (some true) R (fun j hj => ?_) ?_
      · have hd : decide (R ≤ 0) = false := by simp; omega
        have hn : ¬ R ≤ 0 := by omega
        simpa [hd, hn] using key
      · have hn : ¬ R ≤ j := by omega
        have ok := lineS_ok (R := R) (t := L) (r := (R : Int) - (j : Int)) (by omega) (by omega) (by omega)
        have hlv : leaveR ⟨(R : Int) - (j : Int), false, lineS R L⟩ false = (⟨(R : Int) - ((j + 1 : Nat) : Int), decide (R ≤ j + 1), if R ≤ j + 1 then wantL false ((R : Int) + 1) L else lineS R L⟩, false, ⟨0, 0⟩, if R ≤ j + 1 then [(R : Int) + 1] else []) := by
          have hne : ¬ (R : Int) - (j : Int) = 0 := by omega
          unfold leaveR
          rw [lockF_of ok, if_neg (by simp), if_neg (by simp [hne])]
          have e : (R : Int) - (j : Int) - 1 = (R : Int) - ((j + 1 : Nat) : Int) := by omega
          simp only [Bool.false_eq_true, if_false, e]
          by_cases hj1 : R ≤ j + 1
          · have hz : (R : Int) - ((j + 1 : Nat) : Int) = 0 := by omega
            simp only [hz, hj1, lineS, admR, Bool.false_eq_true, Int.lt_irrefl, and_false, or_self, if_false, if_true, admR_w, decide_true]
          · have hp : 0 < (R : Int) - ((j + 1 : Nat) : Int) := by omega
            simp only [hj1, lineS, admR, hp, and_self, or_true, if_true, if_false, decide_false]
        have hwj : IntKind.i64.wrap ((j : Int) + 1 + 1) = ((j + 1 : Nat) : Int) + 1 := by rw [wrap_id (by omega) (by omega)]; omega
        have c1 : (j : Int) + 1 ≤ (R : Int) := by omega
        have hd : decide (R ≤ j) = false := by simp; omega
        simp only [taskmilllaw_LockShares_l1, hn, if_false, decide_false]
        rw [leave_eq, hlv]
        simp only [c1, w1, decide_true, cond_true, cond_false, Option.bind_some, bne_self_eq_false]
        by_cases hj1 : R ≤ j + 1
        · have c2 : ¬ (j : Int) + 1 < (R : Int) := by omega
          have c3 : (((j : Int) + 1) == (R : Int)) = true := by simp; omega
          simp [hj1, c2, c3, ints_eq, taskmilllaw_LockShares_j1, hwj]
        · have c2 : (j : Int) + 1 < (R : Int) := by omega
          have c3 : (((j : Int) + 1) == (R : Int)) = false := by simp; omega
          simp [hj1, c2, c3, taskmilllaw_LockShares_j1, hwj]
      · have hall : ∀ w ∈ wantL false ((R : Int) + 1) L, w.Write = false := fun w hw => by
          simp only [wantL, List.mem_map] at hw
          obtain ⟨x, hx, rfl⟩ := hw
          rfl
        have ok : OkK ⟨0, true, wantL false ((R : Int) + 1) L⟩ := okK_of (a := (R : Int) + 1) (k := L) (j := 0) (w' := false) rfl (by omega) (by omega) (by omega) (fun _ => rfl) (headIn_w _ _)
        have hlv : leaveR ⟨0, true, wantL false ((R : Int) + 1) L⟩ true = (⟨(L : Int), false, []⟩, false, ⟨0, 0⟩, seqL ((R : Int) + 1) L) := by
          unfold leaveR
          rw [lockF_of ok, if_neg (by simp), if_neg (by simp)]
          simp only [if_true, admR_readers _ 0 hall, want_tasks, want_len, Int.zero_add]
        have hz : (R : Int) - (R : Int) = 0 := by omega
        have c1 : ¬ (R : Int) + 1 ≤ (R : Int) := by omega
        simp only [taskmilllaw_LockShares_l1, Nat.le_refl, decide_true, if_true, hz, c1, leave_eq, hlv, decide_false, cond_false, Option.bind_some, beq_self_eq_true, cond_true, Bool.not_false]
        rw [ints_eq _ _ (by rw [seq_len]; omega)]
        simp [taskmilllaw_LockShares_j2]
    -- readers wait behind a writer
    have mid : loopO (taskmilllaw_LockShares_l2 (R : Int) (L : Int)) (0, (R : Int), false, [], lineS R 0) = some true := by
      have key := loopO_all (step := taskmilllaw_LockShares_l2 (R : Int) (L : Int)) (fun j => (((j : Nat) : Int), (R : Int), false, seqL ((R : Int) + 1) j, lineS R j)) (some true) L (fun j hj => ?_) ?_
      · exact key
      · have ok := lineS_ok (R := R) (t := j) (r := (R : Int)) (by omega) (by omega) (by omega)
        have hw : IntKind.i64.wrap ((R : Int) + 2 + (j : Int)) = (R : Int) + 1 + 1 + (j : Int) := by rw [wrap_id (by omega) (by omega)]; omega
        have hF : enterF ⟨(R : Int), false, lineS R j⟩ ((R : Int) + 1 + 1 + (j : Int)) = ⟨0, 0⟩ := enterF_of ok (by omega) (by
          show _ ∉ ((R : Int) + 1) :: tasksOf (wantL false ((R : Int) + 1) j)
          rw [want_tasks, List.mem_cons, mem_seq]; omega) (by show (wantL false ((R : Int) + 1) j).length + 1 < 5000; rw [want_len]; omega) (by show (R : Int) < _; omega)
        have hp : 0 < (R : Int) := by omega
        have hG : enterG ⟨(R : Int), false, lineS R j⟩ ((R : Int) + 1 + 1 + (j : Int)) false = ([], (R : Int), false, lineS R (j + 1)) := by
          simp only [enterG, lineS, List.cons_append, admR, hp, and_self, or_true, if_true, want_succ]
        have hE : enterR ⟨(R : Int), false, lineS R j⟩ ((R : Int) + 1 + 1 + (j : Int)) false false = (⟨(R : Int), false, lineS R (j + 1)⟩, false, ⟨0, 0⟩) := by
          unfold enterR
          rw [hF, if_neg (by simp), hG]
          simp
        have c1 : (j : Int) < (L : Int) := by omega
        have hb : decide ((seqL ((R : Int) + 1) j ++ [(R : Int) + 1 + 1 + (j : Int)]).length * 8 ≤ 140737488355328) = true := by simp [seq_len]; omega
        simp only [taskmilllaw_LockShares_l2, taskmilllaw_LockShares_1_1, c1, w2, hw, enter_eq, hE, hb, decide_true, cond_true, cond_false, Option.bind_some, beq_self_eq_true, Bool.not_true, Bool.or_self, wrap_n1 j (by omega), seq_succ]
      · simp only [taskmilllaw_LockShares_l2, Int.lt_irrefl, decide_false, cond_false, rel]
    -- readers come
    have key := loopO_all (step := taskmilllaw_LockShares_l3 (R : Int) (L : Int)) (fun j => (((j : Nat) : Int) + 1, ((j : Nat) : Int), false, ([] : List Want))) (some true) R (fun j hj => ?_) ?_
    · exact key
    · have ok : OkK ⟨(j : Int), false, []⟩ := okK_of (a := 0) (k := 0) (j := 0) (w' := true) rfl (by omega) (by omega) (by omega) (fun h => by cases h) rfl
      have hF : enterF ⟨(j : Int), false, []⟩ ((j : Int) + 1) = ⟨0, 0⟩ := enterF_of ok (by omega) (by simp [tasksOf]) (by simp) (by show (j : Int) < _; omega)
      have hE : enterR ⟨(j : Int), false, []⟩ ((j : Int) + 1) false false = (⟨((j + 1 : Nat) : Int), false, []⟩, true, ⟨0, 0⟩) := by
        unfold enterR
        rw [hF, if_neg (by simp)]
        simp [enterG, admR]
      have hwj : IntKind.i64.wrap ((j : Int) + 1 + 1) = ((j + 1 : Nat) : Int) + 1 := by rw [wrap_id (by omega) (by omega)]; omega
      have c1 : (j : Int) + 1 ≤ (R : Int) := by omega
      simp only [taskmilllaw_LockShares_l3, taskmilllaw_LockShares_1_1, c1, enter_eq, hE, decide_true, cond_true, cond_false, Option.bind_some, beq_self_eq_true, Bool.not_true, Bool.or_self, hwj]
    · have ok : OkK ⟨(R : Int), false, []⟩ := okK_of (a := 0) (k := 0) (j := 0) (w' := true) rfl (by omega) (by omega) (by omega) (fun h => by cases h) rfl
      have hF : enterF ⟨(R : Int), false, []⟩ ((R : Int) + 1) = ⟨0, 0⟩ := enterF_of ok (by omega) (by simp [tasksOf]) (by simp) (by show (R : Int) < _; omega)
      have hp : 0 < (R : Int) := by omega
      have hE : enterR ⟨(R : Int), false, []⟩ ((R : Int) + 1) true false = (⟨(R : Int), false, lineS R 0⟩, false, ⟨0, 0⟩) := by
        unfold enterR
        rw [hF, if_neg (by simp)]
        have hp' : 0 < R := by omega
        simp [enterG, admR, hp', lineS, wantL, seqL]
      have c1 : ¬ (R : Int) + 1 ≤ (R : Int) := by omega
      simp only [taskmilllaw_LockShares_l3, taskmilllaw_LockShares_1_1, c1, w1, enter_eq, hE, decide_false, cond_true, cond_false, Option.bind_some, beq_self_eq_true, Bool.not_true, Bool.or_self, mid]
/-! ### Who is alone -/
theorem ix_set (l : List Int) (j : Nat) (v x : Int) (hj : j < l.length) (hx : 0 ≤ x) : ix (l.set j v) x = if x = (j : Int) then v else ix l x := by
  obtain ⟨k, rfl⟩ := Int.eq_ofNat_of_zero_le hx
  simp only [ix, Int.toNat_natCast, List.getD_eq_getElem?_getD, List.getElem?_set]
  by_cases h : j = k
  · subst h; simp [hj]
  · have h' : ¬ (k : Int) = (j : Int) := by omega
    simp [h, h']
theorem cnt_set (l : List Int) (j : Nat) (v x : Int) (hj : j < l.length) : (((l.set j v).count x : Nat) : Int) = ((l.count x : Nat) : Int) - (if ix l (j : Int) = x then 1 else 0) + (if v = x then 1 else 0) := by
  have h := List.count_set (a := v) (b := x) (l := l) (i := j) hj
  have hp : ix l (j : Int) = x → 0 < l.count x := fun e => by rw [ix_get hj] at e; rw [List.count_pos_iff, ← e]; exact List.getElem_mem hj
  rw [h, ix_get hj]
  rw [ix_get hj] at hp
  by_cases h1 : l[j] = x <;> by_cases h2 : v = x <;> simp [h1, h2] <;> have := hp h1 <;> omega
structure J (M i : Nat) (r : Int) (w : Bool) (line : List Want) (e : Int) (k : List Int) : Prop where
  kl : k.length = M + 1
  rd : ((k.count 1 : Nat) : Int) = r
  wr : ((k.count 2 : Nat) : Int) = if w = true then 1 else 0
  ex : w = true → r = 0
  inc : (tasksOf line).Pairwise (· < ·)
  mem : ∀ x ∈ line, e < x.Task ∧ 1 ≤ x.Task ∧ x.Task ≤ (i : Int) ∧ ix k x.Task = (if x.Write = true then 4 else 3) ∧ x.N = 0
  late : ∀ t : Nat, i < t → ix k (t : Int) = 0
  e0 : 0 ≤ e ∧ e ≤ (i : Int)
  z : ix k 0 = 0
  len : line.length ≤ i
  iM : i ≤ M
theorem J.ok {M i : Nat} {r : Int} {w : Bool} {line : List Want} {e : Int} {k : List Int} (h : J M i r w line e k) (hM : M ≤ 200) (hh : headIn r w line = false) : OkK ⟨r, w, line⟩ := by
  have h1 := h.len
  have h2 := h.iM
  have h3 := h.rd
  have h4 := List.count_le_length (a := (1 : Int)) (l := k)
  have h5 := h.kl
  refine ⟨by show line.length ≤ 5000; omega, by show 0 ≤ r; omega, by show r ≤ 1000000000; omega, h.ex, hh, fun x hx => (h.mem x hx).2.1, fun x hx => (h.mem x hx).2.2.2.2, ?_⟩
  exact h.inc.imp (fun hlt => by omega)
theorem admR_head : ∀ (l : List Want) (r : Int) (w : Bool), 0 ≤ r → headIn (admR r w l).2.1 (admR r w l).2.2.1 (admR r w l).2.2.2 = false
  | [], r, w, _ => rfl
  | h :: t, r, w, hr => by
    unfold admR
    split
    · rename_i hc
      rcases hc with hc | hc
      · simp [headIn, hc]
      · have : ¬ r = 0 := by omega
        simp [headIn, hc, this]
    · exact admR_head t _ _ (by split <;> omega)
theorem let_adm (moves : List Int) (i : Nat) (hM : moves.length ≤ 200) : ∀ (line : List Want) (r : Int) (w : Bool) (e : Int) (k pre : List Int), J moves.length i r w line e k → pre.length + line.length ≤ 1000 →
    ∃ k' e', loopO (taskmilllaw_LockAlone_1_1_l1 (pre ++ (admR r w line).1) moves) (((pre.length : Nat) : Int), k, e) = some (true, pre ++ (admR r w line).1, moves, k', e') ∧ J moves.length i (admR r w line).2.1 (admR r w line).2.2.1 (admR r w line).2.2.2 e' k'
  | [], r, w, e, k, pre, hJ, hl => ⟨k, e, loopO_inr (by simp [taskmilllaw_LockAlone_1_1_l1, admR]), hJ⟩
  | h :: t, r, w, e, k, pre, hJ, hl => by
    by_cases hc : w = true ∨ (h.Write = true ∧ 0 < r)
    · refine ⟨k, e, loopO_inr ?_, ?_⟩
      · simp [taskmilllaw_LockAlone_1_1_l1, admR, hc]
      · simpa [admR, hc] using hJ
    · obtain ⟨m1, m2, m3, m4, m5⟩ := hJ.mem h (List.mem_cons_self ..)
      obtain ⟨a, ha⟩ := Int.eq_ofNat_of_zero_le (show 0 ≤ h.Task by omega)
      have hiM := hJ.iM
      have hkl := hJ.kl
      have hak : a < k.length := by omega
      have hrd := hJ.rd
      have hwf : w = false := by cases w <;> simp at hc ⊢
      have hwr := hJ.wr
      rw [hwf] at hwr
      simp only [Bool.false_eq_true, if_false] at hwr
      rw [ha] at m4
      have hinc := hJ.inc
      rw [show tasksOf (h :: t) = h.Task :: tasksOf t from rfl, List.pairwise_cons] at hinc
      have hr0 : h.Write = true → r = 0 := fun hw => by
        simp only [hwf, hw, Bool.false_eq_true, true_and, false_or] at hc; omega
      have hv : ix k (a : Int) - 2 = if h.Write = true then 2 else 1 := by rw [m4]; split <;> rfl
      have hJ' : J moves.length i (if h.Write = true then r else r + 1) h.Write t h.Task (k.set a (ix k (a : Int) - 2)) := by
        refine ⟨by rw [List.length_set]; exact hkl, ?_, ?_, fun hw => ?_, hinc.2, fun x hx => ?_, fun u hu => ?_, ⟨by omega, m3⟩, ?_, ?_, hiM⟩
        · rw [cnt_set k a _ 1 hak, hv, m4, hrd]
          cases h.Write <;> simp
        · rw [cnt_set k a _ 2 hak, hv, m4, hwr]
          cases h.Write <;> simp
        · rw [if_pos hw]; exact hr0 hw
        · have hx' := hJ.mem x (List.mem_cons_of_mem _ hx)
          have hlt := hinc.1 x.Task (List.mem_map.2 ⟨x, hx, rfl⟩)
          refine ⟨hlt, hx'.2.1, hx'.2.2.1, ?_, hx'.2.2.2.2⟩
          rw [ix_set _ _ _ _ hak (by omega), if_neg (by omega)]
          exact hx'.2.2.2.1
        · rw [ix_set _ _ _ _ hak (by omega), if_neg (by omega)]
          exact hJ.late u hu
        · rw [ix_set _ _ _ _ hak (by omega), if_neg (by omega)]
          exact hJ.z
        · have := hJ.len
          simp only [List.length_cons] at this; omega
      simp only [List.length_cons] at hl
      obtain ⟨k', e', h1, h2⟩ := let_adm moves i hM t (if h.Write = true then r else r + 1) h.Write h.Task (k.set a (ix k (a : Int) - 2)) (pre ++ [h.Task]) hJ' (by simp; omega)
      have hG : admR r w (h :: t) = (h.Task :: (admR (if h.Write = true then r else r + 1) h.Write t).1, (admR (if h.Write = true then r else r + 1) h.Write t).2) := by
        conv => lhs; unfold admR
        rw [if_neg hc]
      refine ⟨k', e', ?_, by rw [hG]; exact h2⟩
      rw [hG]
      have hassoc : pre ++ h.Task :: (admR (if h.Write = true then r else r + 1) h.Write t).1 = (pre ++ [h.Task]) ++ (admR (if h.Write = true then r else r + 1) h.Write t).1 := by simp
      simp only [hassoc]
      rw [← h1]
      refine loopO_inl ?_
      have hg : ix ((pre ++ [h.Task]) ++ (admR (if h.Write = true then r else r + 1) h.Write t).1) ((pre.length : Nat) : Int) = (a : Int) := by
        rw [ix_get (by simp)]
        simp [ha]
      have c0 : decide (((pre.length : Nat) : Int) < ((((pre ++ [h.Task]) ++ (admR (if h.Write = true then r else r + 1) h.Write t).1).length : Nat) : Int)) = true := by simp; omega
      have c1 : ¬ (a : Int) < 1 := by omega
      have c2 : ¬ ((moves.length : Nat) : Int) < (a : Int) := by omega
      have c3 : ¬ ix k (a : Int) < 3 := by rw [m4]; split <;> omega
      have c4 : ¬ (a : Int) < e := by omega
      have c5 : (a : Int) < ((k.length : Nat) : Int) := by omega
      have c6 : (0 : Int) ≤ (a : Int) := by omega
      have c7 : (0 : Int) ≤ ((pre.length : Nat) : Int) := by omega
      have c8 : IntKind.i64.wrap (ix k (a : Int) - 2) = ix k (a : Int) - 2 := by rw [hv]; split <;> exact wrap_id (by omega) (by omega)
      have c9 : IntKind.i64.wrap (((pre.length : Nat) : Int) + 1) = (((pre ++ [h.Task]).length : Nat) : Int) := by rw [wrap_n1 _ (by omega)]; simp
      simp only [taskmilllaw_LockAlone_1_1_l1, hg, c0, c1, c2, c3, c4, c5, c6, c7, c8, c9, decide_true, decide_false, Bool.and_self, cond_true, cond_false, Bool.not_false, Bool.not_true, Bool.or_true, Bool.or_self, Int.toNat_natCast]
      rw [ha]
theorem J.up {M i : Nat} {r : Int} {w : Bool} {line : List Want} {e : Int} {k : List Int} (h : J M i r w line e k) (hi : i < M) : J M (i + 1) r w line e k :=
  ⟨h.kl, h.rd, h.wr, h.ex, h.inc, fun x hx => by have := h.mem x hx; exact ⟨this.1, this.2.1, by omega, this.2.2.2⟩, fun t ht => h.late t (by omega), ⟨h.e0.1, by have := h.e0.2; omega⟩, h.z, by have := h.len; omega, hi⟩
theorem take_cnt (k : List Int) (j : Nat) (v : Int) (h : j + 1 < k.length) : (((k.take (j + 2)).count v : Nat) : Int) = (((k.take (j + 1)).count v : Nat) : Int) + (if k[j + 1] = v then 1 else 0) := by
  rw [List.take_succ_eq_append_getElem h, List.count_append]
  by_cases hv : k[j + 1] = v <;> simp [hv]
theorem j5_eq (moves : List Int) (hM : moves.length ≤ 200) (n : Nat) {i : Nat} {r : Int} {w : Bool} {line : List Want} {e : Int} {k : List Int} (h : J moves.length i r w line e k) (hn : n ≤ 1000) (hh : headIn r w line = false) :
    taskmilllaw_LockAlone_j5 (n : Int) moves r w e line k = some (.inl (((n + 1 : Nat) : Int), moves, r, w, e, line, k)) := by
  unfold taskmilllaw_LockAlone_j5
  have hkl := h.kl
  have h0 : 0 < k.length := by omega
  have hz := h.z
  have hz' : k[0] = 0 := by rw [← hz]; exact (ix_get (i := 0) h0).symm
  have ht1 : k.take (0 + 1) = [0] := by rw [List.take_succ_eq_append_getElem h0, hz']; rfl
  have key := loopO_all (step := taskmilllaw_LockAlone_l1 (n : Int) moves r w e line k) (fun j => ((((k.take (j + 1)).count 1 : Nat) : Int), (((k.take (j + 1)).count 2 : Nat) : Int), ((j + 1 : Nat) : Int))) (some (.inl (((n + 1 : Nat) : Int), moves, r, w, e, line, k))) moves.length (fun j hj => ?_) ?_
  · have e1 : (([0] : List Int).count 1) = 0 := by decide
    have e2 : (([0] : List Int).count 2) = 0 := by decide
    simp only [ht1, e1, e2] at key
    exact key
  · have hjk : j + 1 < k.length := by omega
    have hlt : (k.take (j + 1)).count 1 ≤ 300 := by have := List.count_le_length (a := (1 : Int)) (l := k.take (j + 1)); rw [List.length_take] at this; omega
    have hlt2 : (k.take (j + 1)).count 2 ≤ 300 := by have := List.count_le_length (a := (2 : Int)) (l := k.take (j + 1)); rw [List.length_take] at this; omega
    have c1 : ((j + 1 : Nat) : Int) ≤ ((moves.length : Nat) : Int) := by omega
    have c2 : ((j + 1 : Nat) : Int) < ((k.length : Nat) : Int) := by omega
    have c3 : (0 : Int) ≤ ((j + 1 : Nat) : Int) := by omega
    have w1 : IntKind.i64.wrap (((j + 1 : Nat) : Int) + 1) = ((j + 1 + 1 : Nat) : Int) := wrap_n1 _ (by omega)
    have w2 : IntKind.i64.wrap ((((k.take (j + 1)).count 1 : Nat) : Int) + 1) = (((k.take (j + 1)).count 1 : Nat) : Int) + 1 := wrap_id (by omega) (by omega)
    have w3 : IntKind.i64.wrap ((((k.take (j + 1)).count 2 : Nat) : Int) + 1) = (((k.take (j + 1)).count 2 : Nat) : Int) + 1 := wrap_id (by omega) (by omega)
    simp only [taskmilllaw_LockAlone_l1, taskmilllaw_LockAlone_j3, taskmilllaw_LockAlone_j2, ix_get hjk, c1, c2, c3, w1, w2, w3, decide_true, Bool.and_self, cond_true, take_cnt k j 1 hjk, take_cnt k j 2 hjk]
    by_cases h1 : k[j + 1] = 1
    · simp [h1]
    · by_cases h2 : k[j + 1] = 2
      · simp [h2]
      · have h1' : (k[j + 1] == 1) = false := by simpa using h1
        have h2' : (k[j + 1] == 2) = false := by simpa using h2
        simp [h1, h2, h1', h2']
  · have htk : k.take (moves.length + 1) = k := by rw [List.take_of_length_le]; omega
    have c1 : ¬ ((moves.length + 1 : Nat) : Int) ≤ ((moves.length : Nat) : Int) := by omega
    have hok := lockF_of (h.ok hM hh)
    have hwr := h.wr
    have hrd := h.rd
    have w1 : IntKind.i64.wrap ((n : Int) + 1) = ((n + 1 : Nat) : Int) := wrap_n1 _ (by omega)
    simp only [taskmilllaw_LockAlone_l1, htk, c1, hrd, hwr, check_eq, hok, decide_false, cond_false, Option.bind_some, bne_self_eq_false, taskmilllaw_LockAlone_j4, taskmilllaw_LockAlone_j1, w1]
    cases hw : w with
    | false => simp
    | true =>
      have := h.ex hw
      simp [this]
theorem enterG_cases {r : Int} {w : Bool} {line : List Want} (hr : 0 ≤ r) (hh : headIn r w line = false) (x : Want) (hx : x.Task ∉ tasksOf line) :
    (x.Task ∈ (admR r w (line ++ [x])).1 → (admR r w (line ++ [x])).1 = [x.Task]) ∧ (x.Task ∉ (admR r w (line ++ [x])).1 → admR r w (line ++ [x]) = ([], r, w, line ++ [x])) := by
  cases line with
  | nil =>
    simp only [List.nil_append, admR]
    split <;> simp
  | cons h t =>
    have ha := headIn_adm (h :: t) r w hr
    have hb := headIn_adm (h :: t ++ [x]) r w hr
    have e : headIn r w (h :: t ++ [x]) = headIn r w (h :: t) := rfl
    rw [e, hh] at hb
    have hc : w = true ∨ (h.Write = true ∧ 0 < r) := by
      by_cases hc : w = true ∨ (h.Write = true ∧ 0 < r)
      · exact hc
      · exfalso
        have : (admR r w (h :: t ++ [x])).1 = h.Task :: (admR (if h.Write = true then r else r + 1) h.Write (t ++ [x])).1 := by
          show (admR r w (h :: (t ++ [x]))).1 = _
          conv => lhs; unfold admR
          rw [if_neg hc]
        rw [this] at hb
        have hb := hb.symm
        simp only [List.length_cons, decide_eq_false_iff_not] at hb
        omega
    have : admR r w (h :: t ++ [x]) = ([], r, w, h :: t ++ [x]) := by
      show admR r w (h :: (t ++ [x])) = _
      conv => lhs; unfold admR
      rw [if_pos hc]; rfl
    rw [this]
    simp
theorem find_step (moves : List Int) (hM : moves.length ≤ 200) (n : Nat) (hn : n < moves.length) (v : Int) (hv : IntKind.i64.wrap (moves[n] - 1) = v) (r : Int) (w : Bool) (line : List Want) (e : Int) (k : List Int) (hkl : k.length = moves.length + 1) (j : Nat) (hjk : j + 1 < k.length) (hne : ¬ k[j + 1] = v) :
    taskmilllaw_LockAlone_l2 (n : Int) moves r w e line k ((j + 1 : Nat) : Int) = some (.inl ((j + 1 + 1 : Nat) : Int)) := by
  have c1 : ((j + 1 : Nat) : Int) ≤ ((moves.length : Nat) : Int) := by omega
  have c2 : ((j + 1 : Nat) : Int) < ((k.length : Nat) : Int) := by omega
  have c3 : (0 : Int) ≤ ((j + 1 : Nat) : Int) := by omega
  have c4 : (n : Int) < ((moves.length : Nat) : Int) := by omega
  have c5 : (0 : Int) ≤ (n : Int) := by omega
  have hne' : (k[j + 1] != v) = true := by simpa using hne
  simp only [taskmilllaw_LockAlone_l2, ix_get hjk, ix_get hn, hv, c1, c2, c3, c4, c5, hne', decide_true, Bool.and_self, Bool.not_true, Bool.false_or, cond_true, wrap_n1 (j + 1) (by omega)]
theorem find_walk (moves : List Int) (hM : moves.length ≤ 200) (n : Nat) (hn : n < moves.length) (v : Int) (hv : IntKind.i64.wrap (moves[n] - 1) = v) (r : Int) (w : Bool) (line : List Want) (e : Int) (k : List Int) (hkl : k.length = moves.length + 1) : ∀ m, m ≤ moves.length → (∀ j (hj : j + 1 < k.length), j < m → ¬ k[j + 1] = v) →
    loopO (taskmilllaw_LockAlone_l2 (n : Int) moves r w e line k) 1 = loopO (taskmilllaw_LockAlone_l2 (n : Int) moves r w e line k) ((m + 1 : Nat) : Int)
  | 0, _, _ => rfl
  | m + 1, h1, h2 => by
    rw [find_walk moves hM n hn v hv r w line e k hkl m (by omega) (fun j hj hjm => h2 j hj (by omega)), loopO_inl (find_step moves hM n hn v hv r w line e k hkl m (by omega) (h2 m (by omega) (by omega)))]
theorem find_first {k : List Int} {v : Int} (h : ∃ j, ∃ hj : j + 1 < k.length, k[j + 1] = v) : ∃ j, ∃ hj : j + 1 < k.length, k[j + 1] = v ∧ ∀ i (hi : i + 1 < k.length), i < j → ¬ k[i + 1] = v := by
  obtain ⟨j, hj, he⟩ := h
  induction j using Nat.strongRecOn with
  | ind j ih =>
    by_cases hx : ∃ i, ∃ hi : i + 1 < k.length, i < j ∧ k[i + 1] = v
    · obtain ⟨i, hi, hij, he'⟩ := hx
      exact ih i hij hi he'
    · exact ⟨j, hj, he, fun i hi hij he' => hx ⟨i, hi, hij, he'⟩⟩
theorem cnt_none {k : List Int} {v : Int} (hz : ix k 0 = 0) (hv : v ≠ 0) (h : ∀ j (hj : j + 1 < k.length), ¬ k[j + 1] = v) : k.count v = 0 := by
  rw [List.count_eq_zero]
  intro hm
  obtain ⟨j, hj, he⟩ := List.getElem_of_mem hm
  cases j with
  | zero => rw [show (0 : Int) = ((0 : Nat) : Int) from rfl, ix_get hj] at hz; omega
  | succ j => exact h j hj he
theorem leave_step (moves : List Int) (hM : moves.length ≤ 200) (n : Nat) (hn : n < moves.length) (write : Bool) (hw : moves[n] = if write = true then 3 else 2) {r : Int} {w : Bool} {line : List Want} {e : Int} {k : List Int} (h : J moves.length n r w line e k) (hh : headIn r w line = false) :
    ∃ r' w' line' e' k', loopO (taskmilllaw_LockAlone_l2 (n : Int) moves r w e line k) 1 = some (.inl (((n + 1 : Nat) : Int), moves, r', w', e', line', k')) ∧ J moves.length (n + 1) r' w' line' e' k' ∧ headIn r' w' line' = false := by
  have hkl := h.kl
  have hrd := h.rd
  have hwr := h.wr
  have ok := h.ok hM hh
  have hv : IntKind.i64.wrap (moves[n] - 1) = if write = true then 2 else 1 := by rw [hw]; cases write <;> exact wrap_id (by simp) (by simp)
  have hw3 : (moves[n] == 3) = write := by rw [hw]; cases write <;> rfl
  have c4 : (n : Int) < ((moves.length : Nat) : Int) := by omega
  have c5 : (0 : Int) ≤ (n : Int) := by omega
  have wn : IntKind.i64.wrap ((n : Int) + 1) = ((n + 1 : Nat) : Int) := wrap_n1 _ (by omega)
  have hr0 : 0 ≤ r := ok.lo
  by_cases hold : ∃ j, ∃ hj : j + 1 < k.length, k[j + 1] = (if write = true then 2 else 1)
  · -- there is one who leaves
    have hcnt : 0 < k.count (if write = true then (2 : Int) else 1) := by
      obtain ⟨j, hj, he⟩ := hold
      rw [List.count_pos_iff, ← he]; exact List.getElem_mem hj
    have hin : ¬ ((write = true ∧ w = false) ∨ (write = false ∧ r = 0)) := by
      rintro (⟨rfl, rfl⟩ | ⟨rfl, hr⟩)
      · simp only [if_true] at hcnt
        simp only [Bool.false_eq_true, if_false] at hwr
        omega
      · simp only [Bool.false_eq_true, if_false] at hcnt; omega
    obtain ⟨j, hj, he, hbef⟩ := find_first hold
    rw [find_walk moves hM n hn _ hv r w line e k hkl j (by omega) hbef]
    have hkj : ix k ((j + 1 : Nat) : Int) = if write = true then 2 else 1 := by rw [ix_get hj]; exact he
    have hjn : j + 1 ≤ n := by
      by_cases hc : n < j + 1
      · have := h.late (j + 1) hc
        rw [hkj] at this; split at this <;> omega
      · omega
    have hJ : J moves.length n (if write = true then r else r - 1) (if write = true then false else w) line e (k.set (j + 1) 0) := by
      refine ⟨by rw [List.length_set]; exact hkl, ?_, ?_, fun hx => ?_, h.inc, fun x hx => ?_, fun u hu => ?_, h.e0, ?_, h.len, h.iM⟩
      · rw [cnt_set k (j + 1) 0 1 hj, hkj, hrd]
        cases write <;> simp
      · rw [cnt_set k (j + 1) 0 2 hj, hkj, hwr]
        cases write with
        | false => simp
        | true =>
          have hwt : w = true := by cases w with
            | true => rfl
            | false => exact absurd (Or.inl ⟨rfl, rfl⟩) hin
          simp [hwt]
      · cases write with
        | true => simp at hx
        | false =>
          simp only [Bool.false_eq_true, if_false] at hx
          have h1 := h.ex hx
          exact absurd (Or.inr ⟨rfl, h1⟩) hin
      · obtain ⟨m1, m2, m3, m4, m5⟩ := h.mem x hx
        refine ⟨m1, m2, m3, ?_, m5⟩
        rw [ix_set _ _ _ _ hj (by omega), if_neg, m4]
        intro hxe
        rw [hxe, hkj] at m4
        split at m4 <;> split at m4 <;> omega
      · rw [ix_set _ _ _ _ hj (by omega), if_neg (by omega)]
        exact h.late u hu
      · rw [ix_set _ _ _ _ hj (by omega), if_neg (by omega)]
        exact h.z
    have hlen := h.len
    obtain ⟨k', e', h1, h2⟩ := let_adm moves n hM line _ _ e (k.set (j + 1) 0) [] hJ (by simp; omega)
    simp only [List.nil_append, List.length_nil] at h1
    have hG : leaveR ⟨r, w, line⟩ write = (⟨(admR (if write = true then r else r - 1) (if write = true then false else w) line).2.1, (admR (if write = true then r else r - 1) (if write = true then false else w) line).2.2.1, (admR (if write = true then r else r - 1) (if write = true then false else w) line).2.2.2⟩, false, ⟨0, 0⟩, (admR (if write = true then r else r - 1) (if write = true then false else w) line).1) := by
      unfold leaveR
      rw [lockF_of ok, if_neg (by simp), if_neg hin]
    have hr1 : 0 ≤ (if write = true then r else r - 1) := by
      cases write with
      | true => simpa using hr0
      | false =>
        have : ¬ r = 0 := fun h0 => hin (Or.inr ⟨rfl, h0⟩)
        simp only [Bool.false_eq_true, if_false]; omega
    have hhd := admR_head line _ (if write = true then false else w) hr1
    revert h1 h2 hG hhd
    generalize admR (if write = true then r else r - 1) (if write = true then false else w) line = G
    intro h1 h2 hG hhd
    refine ⟨G.2.1, G.2.2.1, G.2.2.2, e', k', loopO_inr ?_, h2.up hn, hhd⟩
    have c1 : ((j + 1 : Nat) : Int) ≤ ((moves.length : Nat) : Int) := by omega
    have c2 : ((j + 1 : Nat) : Int) < ((k.length : Nat) : Int) := by omega
    have c3 : (0 : Int) ≤ ((j + 1 : Nat) : Int) := by omega
    have c6 : ¬ ((moves.length : Nat) : Int) < ((j + 1 : Nat) : Int) := by omega
    have hne' : (k[j + 1] != if write = true then 2 else 1) = false := by rw [he]; simp
    have h1' : taskmilllaw_LockAlone_1_1 G.1 moves e (k.set (j + 1) 0) = some (true, G.1, moves, k', e') := h1
    simp only [taskmilllaw_LockAlone_l2, ix_get hn, ix_get hj, hv, hw3, hne', leave_eq, hG, c1, c2, c3, c4, c5, c6, decide_true, decide_false, Bool.not_true, Bool.false_or, Bool.and_false, cond_true, cond_false, Bool.and_self, Option.bind_some, bne_self_eq_false, Bool.or_self, Int.toNat_natCast, h1']
    rw [j5_eq moves hM n h2 (by omega) hhd]
    rfl
  · -- there is none
    have hno : ∀ j (hj : j + 1 < k.length), ¬ k[j + 1] = (if write = true then 2 else 1) := fun j hj he => hold ⟨j, hj, he⟩
    have hc0 := cnt_none h.z (by split <;> omega) hno
    have hout : (write = true ∧ w = false) ∨ (write = false ∧ r = 0) := by
      cases write with
      | true =>
        left
        simp only [if_true] at hc0
        cases w with
        | false => exact ⟨rfl, rfl⟩
        | true => rw [hc0] at hwr; simp at hwr
      | false =>
        right
        simp only [Bool.false_eq_true, if_false] at hc0
        rw [hc0] at hrd
        exact ⟨rfl, by simpa using hrd.symm⟩
    have hlv : leaveR ⟨r, w, line⟩ write = (⟨r, w, line⟩, true, ⟨0, 0⟩, []) := by
      unfold leaveR
      rw [lockF_of ok, if_neg (by simp), if_pos hout]
    refine ⟨r, w, line, e, k, ?_, h.up hn, hh⟩
    rw [find_walk moves hM n hn _ hv r w line e k hkl moves.length (Nat.le_refl _) (fun j hj _ => hno j hj)]
    refine loopO_inr ?_
    have c1 : ¬ ((moves.length + 1 : Nat) : Int) ≤ ((moves.length : Nat) : Int) := by omega
    have c2 : ((moves.length : Nat) : Int) < ((moves.length + 1 : Nat) : Int) := by omega
    simp only [taskmilllaw_LockAlone_l2, ix_get hn, hw3, leave_eq, hlv, c1, c2, c4, c5, wn, taskmilllaw_LockAlone_j1, decide_true, decide_false, Bool.not_false, Bool.true_or, Bool.false_and, cond_true, cond_false, Bool.and_self, Option.bind_some, bne_self_eq_false, Bool.or_self]
    rfl
theorem enter_step (moves : List Int) (hM : moves.length ≤ 200) (n : Nat) (hn : n < moves.length) (write : Bool) (hw : moves[n] = if write = true then 1 else 0) {r : Int} {w : Bool} {line : List Want} {e : Int} {k : List Int} (h : J moves.length n r w line e k) (hh : headIn r w line = false) :
    ∃ r' w' line' e' k', taskmilllaw_LockAlone_j8 (n : Int) moves r w e line k true = some (.inl (((n + 1 : Nat) : Int), moves, r', w', e', line', k')) ∧ J moves.length (n + 1) r' w' line' e' k' ∧ headIn r' w' line' = false := by
  have hkl := h.kl
  have hrd := h.rd
  have hwr := h.wr
  have hlen := h.len
  have he0 := h.e0
  have ok := h.ok hM hh
  have hr0 : 0 ≤ r := ok.lo
  have hr1 : r ≤ 1000 := by
    have := List.count_le_length (a := (1 : Int)) (l := k)
    omega
  have hm1 : (moves[n] == 1) = write := by rw [hw]; cases write <;> rfl
  have wn : IntKind.i64.wrap ((n : Int) + 1) = ((n + 1 : Nat) : Int) := wrap_n1 _ (by omega)
  have hj : n + 1 < k.length := by omega
  have hkj : ix k ((n + 1 : Nat) : Int) = 0 := h.late (n + 1) (by omega)
  have hv : IntKind.i64.wrap (3 + moves[n]) = if write = true then 4 else 3 := by rw [hw]; cases write <;> exact wrap_id (by simp) (by simp)
  have hnt : ((n + 1 : Nat) : Int) ∉ tasksOf line := fun hm => by
    obtain ⟨x, hx, hxe⟩ := List.mem_map.1 hm
    have := (h.mem x hx).2.2.1
    omega
  have hF : enterF ⟨r, w, line⟩ ((n + 1 : Nat) : Int) = ⟨0, 0⟩ := enterF_of ok (by omega) hnt (by show line.length < 5000; omega) (by show r < _; omega)
  have hJ : J moves.length (n + 1) r w (line ++ [⟨((n + 1 : Nat) : Int), write, 0⟩]) e (k.set (n + 1) (if write = true then 4 else 3)) := by
    refine ⟨by rw [List.length_set]; exact hkl, ?_, ?_, h.ex, ?_, fun x hx => ?_, fun u hu => ?_, by omega, ?_, by simp; omega, hn⟩
    · rw [cnt_set k (n + 1) _ 1 hj, hkj, hrd]
      cases write <;> simp
    · rw [cnt_set k (n + 1) _ 2 hj, hkj, hwr]
      cases write <;> simp
    · show ((line ++ [(⟨((n + 1 : Nat) : Int), write, 0⟩ : Want)]).map (·.Task)).Pairwise (· < ·)
      rw [List.map_append, List.pairwise_append]
      refine ⟨h.inc, by simp, fun a ha b hb => ?_⟩
      simp only [List.map_cons, List.map_nil, List.mem_singleton] at hb
      obtain ⟨x, hx, rfl⟩ := List.mem_map.1 ha
      have := (h.mem x hx).2.2.1
      omega
    · rcases List.mem_append.1 hx with hx | hx
      · obtain ⟨m1, m2, m3, m4, m5⟩ := h.mem x hx
        refine ⟨m1, m2, by omega, ?_, m5⟩
        rw [ix_set _ _ _ _ hj (by omega), if_neg (by omega)]
        exact m4
      · simp only [List.mem_singleton] at hx
        subst hx
        refine ⟨by show e < ((n + 1 : Nat) : Int); omega, by show 1 ≤ ((n + 1 : Nat) : Int); omega, by show ((n + 1 : Nat) : Int) ≤ ((n + 1 : Nat) : Int); omega, ?_, rfl⟩
        show ix (k.set (n + 1) _) ((n + 1 : Nat) : Int) = _
        rw [ix_set _ _ _ _ hj (by omega), if_pos rfl]
    · rw [ix_set _ _ _ _ hj (by omega), if_neg (by omega)]
      exact h.late u (by omega)
    · rw [ix_set _ _ _ _ hj (by omega), if_neg (by omega)]
      exact h.z
  obtain ⟨g1, g2⟩ := enterG_cases hr0 hh ⟨((n + 1 : Nat) : Int), write, 0⟩ hnt
  simp only at g1 g2
  obtain ⟨k', e', h1, h2⟩ := let_adm moves (n + 1) hM (line ++ [⟨((n + 1 : Nat) : Int), write, 0⟩]) r w e _ [] hJ (by simp; omega)
  simp only [List.nil_append, List.length_nil] at h1
  have hhd := admR_head (line ++ [⟨((n + 1 : Nat) : Int), write, 0⟩]) r w hr0
  have hR : enterR ⟨r, w, line⟩ ((n + 1 : Nat) : Int) write false = (⟨(admR r w (line ++ [⟨((n + 1 : Nat) : Int), write, 0⟩])).2.1, (admR r w (line ++ [⟨((n + 1 : Nat) : Int), write, 0⟩])).2.2.1, (admR r w (line ++ [⟨((n + 1 : Nat) : Int), write, 0⟩])).2.2.2⟩, decide (((n + 1 : Nat) : Int) ∈ (admR r w (line ++ [⟨((n + 1 : Nat) : Int), write, 0⟩])).1), ⟨0, 0⟩) := by
    unfold enterR
    rw [hF, if_neg (by simp)]
    have e : enterG ⟨r, w, line⟩ ((n + 1 : Nat) : Int) write = admR r w (line ++ [⟨((n + 1 : Nat) : Int), write, 0⟩]) := rfl
    rw [e]
    split
    · rename_i hm; simp only [hm, decide_true]
    · rename_i hm; simp only [hm, decide_false, Bool.false_eq_true, if_false]
  revert g1 g2 h1 h2 hhd hR
  generalize admR r w (line ++ [⟨((n + 1 : Nat) : Int), write, 0⟩]) = G
  intro g1 g2 h1 h2 hhd hR
  have c2 : ((n + 1 : Nat) : Int) < ((k.length : Nat) : Int) := by omega
  have c3 : (0 : Int) ≤ ((n + 1 : Nat) : Int) := by omega
  have c4 : (n : Int) < ((moves.length : Nat) : Int) := by omega
  have c5 : (0 : Int) ≤ (n : Int) := by omega
  by_cases hm : ((n + 1 : Nat) : Int) ∈ G.1
  · have hG1 := g1 hm
    rw [hG1] at h1
    have h1' : taskmilllaw_LockAlone_1_1 [((n + 1 : Nat) : Int)] moves e (k.set (n + 1) (if write = true then 4 else 3)) = some (true, [((n + 1 : Nat) : Int)], moves, k', e') := h1
    refine ⟨G.2.1, G.2.2.1, G.2.2.2, e', k', ?_, h2, hhd⟩
    simp only [taskmilllaw_LockAlone_j8, taskmilllaw_LockAlone_j6, ix_get hn, wn, hm1, hv, enter_eq, hR, hm, c2, c3, c4, c5, decide_true, cond_true, cond_false, Bool.and_self, Option.bind_some, bne_self_eq_false, Int.toNat_natCast, h1', Bool.not_true]
    exact j5_eq moves hM n h2 (by omega) hhd
  · have hG := g2 hm
    have hhd' : headIn r w (line ++ [⟨((n + 1 : Nat) : Int), write, 0⟩]) = false := by rw [hG] at hhd; exact hhd
    refine ⟨r, w, line ++ [⟨((n + 1 : Nat) : Int), write, 0⟩], e, _, ?_, hJ, hhd'⟩
    simp only [taskmilllaw_LockAlone_j8, taskmilllaw_LockAlone_j6, ix_get hn, wn, hm1, hv, enter_eq, hR, hm, hG, c2, c3, c4, c5, decide_true, decide_false, cond_true, cond_false, Bool.and_self, Option.bind_some, bne_self_eq_false, Int.toNat_natCast, List.not_mem_nil]
    exact j5_eq moves hM n hJ (by omega) hhd'
theorem alone (moves : List Int) : taskmilllaw_LockAlone moves = some true := by
  unfold taskmilllaw_LockAlone
  rw [begun_eq]
  simp only [Option.bind_some, Bool.not_true, cond_false]
  by_cases h0 : 200 < moves.length
  · have : decide ((200 : Int) < ((moves.length : Nat) : Int)) = true := by simp; omega
    simp [this]
  · have h0' : decide ((200 : Int) < ((moves.length : Nat) : Int)) = false := by simp; omega
    have hM : moves.length ≤ 200 := by omega
    have hw1 : IntKind.i64.wrap (((moves.length : Nat) : Int) + 1) = ((moves.length + 1 : Nat) : Int) := wrap_n1 _ (by omega)
    have hmk : (0 ≤ ((moves.length + 1 : Nat) : Int) ∧ ((moves.length + 1 : Nat) : Int) ≤ 4611686018427387904 ∧ (8 : Int) * ((moves.length + 1 : Nat) : Int) ≤ 140737488355328) := by omega
    simp only [h0', cond_false, hw1, hmk, and_self, decide_true, cond_true, Int.toNat_natCast]
    have hz : ∀ x, ix (List.replicate (moves.length + 1) (default : Int)) x = 0 := fun x => by
      simp only [ix, List.getD_eq_getElem?_getD, List.getElem?_replicate]
      split <;> rfl
    have hd : (default : Int) = 0 := rfl
    have key := loopO_inv (step := taskmilllaw_LockAlone_l3) (fun s => ∃ i : Nat, i ≤ moves.length ∧ s.1 = (i : Int) ∧ s.2.1 = moves ∧ J moves.length i s.2.2.1 s.2.2.2.1 s.2.2.2.2.2.1 s.2.2.2.2.1 s.2.2.2.2.2.2 ∧ headIn s.2.2.1 s.2.2.2.1 s.2.2.2.2.2.1 = false) (fun s => moves.length - s.1.toNat) (fun r => r = true) ?_ (s0 := (0, moves, 0, false, 0, [], List.replicate (moves.length + 1) (default : Int)))
      ⟨0, Nat.zero_le _, rfl, rfl, ⟨by simp, by rw [hd]; simp [List.count_replicate], by rw [hd]; simp [List.count_replicate], (fun h => by cases h), by simp [tasksOf], by simp, fun t _ => hz _, by simp, hz _, by simp, Nat.zero_le _⟩, rfl⟩
    · obtain ⟨r, h1, h2⟩ := key
      rw [h1, h2]
    · rintro ⟨i, m', r, w, e, line, k⟩ ⟨n, hnl, hin, hmv, h, hh⟩
      simp only at hin hmv h hh ⊢
      subst hin
      have hmv' := hmv.symm
      subst hmv'
      by_cases hn : n < moves.length
      · left
        have c4 : decide ((n : Int) < ((moves.length : Nat) : Int)) = true := by simp; exact hn
        have c5 : decide ((0 : Int) ≤ (n : Int)) = true := by simp
        have fin : ∀ s, (∃ r' w' line' e' k', taskmilllaw_LockAlone_l3 ((n : Int), moves, r, w, e, line, k) = some (.inl (((n + 1 : Nat) : Int), moves, r', w', e', line', k')) ∧ J moves.length (n + 1) r' w' line' e' k' ∧ headIn r' w' line' = false) → s = ((n : Int), moves, r, w, e, line, k) → ∃ s', taskmilllaw_LockAlone_l3 s = some (.inl s') ∧ (∃ i : Nat, i ≤ moves.length ∧ s'.1 = (i : Int) ∧ s'.2.1 = moves ∧ J moves.length i s'.2.2.1 s'.2.2.2.1 s'.2.2.2.2.2.1 s'.2.2.2.2.1 s'.2.2.2.2.2.2 ∧ headIn s'.2.2.1 s'.2.2.2.1 s'.2.2.2.2.2.1 = false) ∧ moves.length - s'.1.toNat < moves.length - s.1.toNat := by
          rintro s ⟨r', w', line', e', k', h1, h2, h3⟩ rfl
          refine ⟨_, h1, ⟨n + 1, hn, rfl, rfl, h2, h3⟩, ?_⟩
          simp only [Int.toNat_natCast]; omega
        refine fin _ ?_ rfl
        by_cases m0 : moves[n] = 0
        · obtain ⟨r', w', line', e', k', h1, h2, h3⟩ := enter_step moves hM n hn false (by simpa using m0) h hh
          refine ⟨r', w', line', e', k', ?_, h2, h3⟩
          simp only [taskmilllaw_LockAlone_l3, ix_get hn, c4, c5, m0, beq_self_eq_true, cond_true, Bool.and_self, h1]
        · have b0 : (moves[n] == 0) = false := by simpa using m0
          by_cases m1 : moves[n] = 1
          · obtain ⟨r', w', line', e', k', h1, h2, h3⟩ := enter_step moves hM n hn true (by simpa using m1) h hh
            refine ⟨r', w', line', e', k', ?_, h2, h3⟩
            simp only [taskmilllaw_LockAlone_l3, ix_get hn, c4, c5, b0, m1, beq_self_eq_true, cond_true, cond_false, Bool.and_self]
            simp only [show ((1 : Int) == 0) = false from rfl, cond_false, h1]
          · have b1 : (moves[n] == 1) = false := by simpa using m1
            by_cases m2 : moves[n] = 2
            · obtain ⟨r', w', line', e', k', h1, h2, h3⟩ := leave_step moves hM n hn false (by simpa using m2) h hh
              refine ⟨r', w', line', e', k', ?_, h2, h3⟩
              have b2 : (moves[n] == 2) = true := by simpa using m2
              simp only [taskmilllaw_LockAlone_l3, taskmilllaw_LockAlone_j8, taskmilllaw_LockAlone_j7, ix_get hn, c4, c5, b0, b1, b2, cond_true, cond_false, Bool.and_self, h1]
            · have b2 : (moves[n] == 2) = false := by simpa using m2
              by_cases m3 : moves[n] = 3
              · obtain ⟨r', w', line', e', k', h1, h2, h3⟩ := leave_step moves hM n hn true (by simpa using m3) h hh
                refine ⟨r', w', line', e', k', ?_, h2, h3⟩
                have b3 : (moves[n] == 3) = true := by simpa using m3
                simp only [taskmilllaw_LockAlone_l3, taskmilllaw_LockAlone_j8, taskmilllaw_LockAlone_j7, ix_get hn, c4, c5, b0, b1, b2, b3, cond_true, cond_false, Bool.and_self, h1]
              · have b3 : (moves[n] == 3) = false := by simpa using m3
                refine ⟨r, w, line, e, k, ?_, h.up hn, hh⟩
                simp only [taskmilllaw_LockAlone_l3, taskmilllaw_LockAlone_j8, taskmilllaw_LockAlone_j7, ix_get hn, c4, c5, b0, b1, b2, b3, cond_true, cond_false, Bool.and_self]
                exact j5_eq moves hM n h (by omega) hh
      · right
        have c4 : decide ((n : Int) < ((moves.length : Nat) : Int)) = false := by simp; omega
        refine ⟨true, ?_, rfl⟩
        simp only [taskmilllaw_LockAlone_l3, c4, cond_false]
        rfl
end Go.Proofs.Ythknjjkldflbaaa
