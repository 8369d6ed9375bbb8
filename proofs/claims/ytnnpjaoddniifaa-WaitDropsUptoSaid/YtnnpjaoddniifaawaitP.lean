/-
  wait, plain: what the functions of the chapter compute.
-/
import Derived.Test.YtnnpjaoddniifaawaitG
import Derived.Test.YtnnpjaoddniifaaPC
set_option linter.unusedSimpArgs false
set_option linter.unusedVariables false
namespace Go.Proofs.Ytnnpjaoddniifaa
open Go Go.Sx
set_option linter.unusedVariables false
set_option linter.unusedSimpArgs false
theorem ints_eq (a b : List Int) (hn : a.length < 4611686018427387904) : taskmillref_Ints a b = some (decide (a = b)) := by
  unfold taskmillref_Ints
  by_cases hl : a.length = b.length
  · have := ints_gen a b hl hn (fun i => rfl : ∀ i, taskmillref_Ints_l1 a b i = _)
    simp [hl] at this ⊢
    exact this
  · have : a ≠ b := fun e => hl (by rw [e])
    have h2 : ((a.length : Int) != (b.length : Int)) = true := by simp; omega
    simp [h2, this]
theorem has_eq (l : List Int) (n : Int) (hn : l.length < 4611686018427387904) : taskmillref_Has l n = some (decide (n ∈ l)) := has_gen l n hn fun i => rfl
theorem contains_eq (l : List Int) (n : Int) (hn : l.length < 4611686018427387904) : slices_Contains_int l n = some (decide (n ∈ l)) := by
  unfold slices_Contains_int slices_Index_int
  obtain ⟨r, h1, h2, h3⟩ := index_gen l n hn (fun i => rfl : ∀ i, slices_Index_int_l1 l n i = _)
  rw [h1]
  by_cases h : n ∈ l
  · obtain ⟨i, rfl, _⟩ := h2 h
    simp [h]
  · rw [h3 h]; simp [h]
theorem clone_eq (s : List Int) (h : s.length ≤ 10000000) : slices_Clone_int s = some s := by
  have : s.length * 8 ≤ 140737488355328 := by omega
  simp [slices_Clone_int, this]
theorem cloneL_eq (s : List Line) (h : s.length ≤ 10000000) : slices_Clone_Line s = some s := by
  have : s.length * 32 ≤ 140737488355328 := by omega
  simp [slices_Clone_Line, this]
theorem own_eq (s : List Int) (h : s.length ≤ 10000000) : taskmilllaw_own s = some s := by
  have : s.length * 8 ≤ 140737488355328 := by omega
  simp [taskmilllaw_own, this]
def L (l : List Line) (i : Nat) : Line := ix l (i : Int)
theorem L_mem {l : List Line} {i : Nat} (h : i < l.length) : L l i ∈ l := by unfold L; rw [ix_get h]; exact List.getElem_mem h
theorem L_get {l : List Line} {i : Nat} (h : i < l.length) : L l i = l[i] := ix_get h
/-- The tasks of the first lines. -/
def hadOf (l : List Line) (i : Nat) : List Int := (l.take i).flatMap (·.Tasks)
theorem had_succ {l : List Line} {i : Nat} (h : i < l.length) : hadOf l (i + 1) = hadOf l i ++ (L l i).Tasks := by
  unfold hadOf; rw [List.take_succ_eq_append_getElem h, List.flatMap_append, L_get h]; simp
def flat (l : List Line) : List Int := l.flatMap (·.Tasks)
theorem had_all (l : List Line) : hadOf l l.length = flat l := by unfold hadOf flat; rw [List.take_length]
def taskBad (had ts : List Int) (k : Nat) : Option Int := if ts.getD k 0 < 1 then some 3 else if ts.getD k 0 ∈ had ++ ts.take k then some 10 else none
def tasksBad (had ts : List Int) : Option Int := firstAt (taskBad had ts) ts.length
def lineBad (l : List Line) (i : Nat) : Option Fault :=
  if 5000 < (hadOf l i).length + (L l i).Tasks.length then some ⟨2, i⟩ else if (L l i).Tasks.length = 0 ∨ (0 < i ∧ (L l i).At ≤ (L l (i - 1)).At) then some ⟨5, i⟩ else (tasksBad (hadOf l i) (L l i).Tasks).map fun c => ⟨c, i⟩
def linesF (l : List Line) : Fault := if 5000 < l.length then ⟨2, 0⟩ else (firstAt (lineBad l) l.length).getD ⟨0, 0⟩
def Fits (l : List Line) : Prop := ∀ w ∈ l, w.Tasks.length ≤ 2000000
theorem fits_at {l : List Line} (h : Fits l) {i : Nat} (hi : i < l.length) : (L l i).Tasks.length ≤ 2000000 := by rw [L_get hi]; exact h _ (List.getElem_mem hi)
theorem had_ok {l : List Line} {i : Nat} (hb : ∀ j, j < i → lineBad l j = none) (hi : i ≤ l.length) : (hadOf l i).length ≤ 5000 := by
  cases i with
  | zero => simp [hadOf]
  | succ i =>
    have := hb i (Nat.lt_succ_self i)
    unfold lineBad at this
    split at this
    · cases this
    · rw [had_succ (by omega), List.length_append]; omega
theorem getD_get {ts : List Int} {k : Nat} (h : k < ts.length) : ts.getD k 0 = ts[k] := by simp [List.getD_eq_getElem?_getD, h]
theorem ix_int {ts : List Int} {k : Nat} (h : k < ts.length) : ix ts (k : Int) = ts.getD k 0 := by rw [ix_get h, getD_get h]
theorem check_inner (l : List Line) (n : Int) (i : Nat) (hi : i < l.length) (had : List Int) (hf : (L l i).Tasks.length ≤ 2000000) :
    loopO (wait_Check_l1 l n i) (0, setAll [] had) = match tasksBad had (L l i).Tasks with
      | some c => some (.inr ⟨c, i⟩)
      | none => some (.inl (IntKind.i64.wrap (n + ((L l i).Tasks.length : Nat)), IntKind.i64.wrap ((i : Int) + 1), setAll [] (had ++ (L l i).Tasks))) := by
  have hL : ix l (i : Int) = L l i := rfl
  have hset : ∀ ts : List Int, setAll (setAll [] had) ts = setAll [] (had ++ ts) := fun ts => by simp [setAll, List.foldl_append]
  have := loopO_find (step := wait_Check_l1 l n i) (fun k => (((k : Nat) : Int), setAll (setAll [] had) ((L l i).Tasks.take k))) (fun k => (taskBad had (L l i).Tasks k).map fun c => Sum.inr (Fault.mk c i)) (some (.inl (IntKind.i64.wrap (n + ((L l i).Tasks.length : Nat)), IntKind.i64.wrap ((i : Int) + 1), setAll [] (had ++ (L l i).Tasks)))) (L l i).Tasks.length (fun k hk hb => ?_) (fun k r hk hb => ?_) (fun hb => ?_)
  · simp only [List.take_zero] at this
    rw [show ((0 : Nat) : Int) = 0 from rfl, show setAll (setAll [] had) [] = setAll [] had from rfl] at this
    rw [this]
    unfold tasksBad
    cases h1 : firstAt (taskBad had (L l i).Tasks) (L l i).Tasks.length with
    | none => rw [(firstAt_none _).2 fun k hk => by rw [(firstAt_none _).1 h1 k hk]; rfl]
    | some c =>
      obtain ⟨k, g1, g2, g3⟩ := firstAt_some _ h1
      rw [firstAt_at g1 (b := Sum.inr (Fault.mk c i)) (by rw [g2]; rfl) fun j hj => by rw [g3 j hj]; rfl]
  · have hb' : taskBad had (L l i).Tasks k = none := by simpa using hb
    unfold taskBad at hb'
    split at hb'
    · cases hb'
    · split at hb'
      · cases hb'
      · rename_i h1 h2
        have e1 : miGet (setAll (setAll [] had) ((L l i).Tasks.take k)) ((L l i).Tasks.getD k 0) = 0 := by rw [hset, miGet_setAll, if_neg h2]; rfl
        have h1' : ¬ (L l i).Tasks.getD k 0 < 1 := h1
        simp only [wait_Check_l1, hL, ix_int hk, decide_eq_true (show ((k : Nat) : Int) < ((L l i).Tasks.length : Nat) by omega), decide_eq_true (show (0 : Int) ≤ (k : Int) by omega), decide_eq_false h1', e1, cond_true, cond_false, Bool.and_true, show decide ((0 : Int) < 0) = false from rfl]
        rw [wrap_n1 k (by omega), setAll_snoc _ _ _ hk, getD_get hk]
  · have hb' : ∃ c, taskBad had (L l i).Tasks k = some c ∧ Sum.inr (Fault.mk c i) = r := by simpa using hb
    obtain ⟨c, hc, rfl⟩ := hb'
    unfold taskBad at hc
    split at hc
    · rename_i h1
      cases hc
      simp only [wait_Check_l1, hL, ix_int hk, decide_eq_true (show ((k : Nat) : Int) < ((L l i).Tasks.length : Nat) by omega), decide_eq_true (show (0 : Int) ≤ (k : Int) by omega), decide_eq_true h1, cond_true, Bool.and_true, wait_fault]
      rfl
    · split at hc
      · rename_i h1 h2
        cases hc
        have e1 : miGet (setAll (setAll [] had) ((L l i).Tasks.take k)) ((L l i).Tasks.getD k 0) = 1 := by rw [hset, miGet_setAll, if_pos h2]
        simp only [wait_Check_l1, hL, ix_int hk, decide_eq_true (show ((k : Nat) : Int) < ((L l i).Tasks.length : Nat) by omega), decide_eq_true (show (0 : Int) ≤ (k : Int) by omega), decide_eq_false h1, e1, cond_true, cond_false, Bool.and_true, wait_fault, show decide ((0 : Int) < 1) = true from rfl]
        rfl
      · cases hc
  · simp only [wait_Check_l1, hL, decide_eq_false (show ¬ (((L l i).Tasks.length : Nat) : Int) < ((L l i).Tasks.length : Nat) by omega), cond_false, List.take_length, hset]
theorem check_eq (l : List Line) (hf : Fits l) : wait_Check l = some (linesF l) := by
  unfold wait_Check linesF
  by_cases h : 5000 < l.length
  · rw [if_pos h, decide_eq_true (by omega), cond_true]; rfl
  · rw [if_neg h, decide_eq_false (by omega), cond_false]
    have hE : ∀ i, i < l.length → (hadOf l i).length ≤ 5000 → wait_Check_l2 l (((hadOf l i).length : Int), (i : Int), setAll [] (hadOf l i)) = toldOr (lineBad l i) (((hadOf l (i + 1)).length : Int), ((i + 1 : Nat) : Int), setAll [] (hadOf l (i + 1))) := fun i hi h5 => by
      have hL : ix l (i : Int) = L l i := rfl
      have hfi := fits_at hf hi
      have e0 : IntKind.i64.wrap (((hadOf l i).length : Int) + ((L l i).Tasks.length : Nat)) = ((hadOf l (i + 1)).length : Int) := by
        rw [wrap_id (by omega) (by omega), had_succ hi, List.length_append]; omega
      have e1 : ((hadOf l (i + 1)).length : Int) = (((hadOf l i).length + (L l i).Tasks.length : Nat) : Int) := by rw [had_succ hi, List.length_append]
      simp only [wait_Check_l2, hL, e0, decide_eq_true (show ((i : Nat) : Int) < (l.length : Nat) by omega), decide_eq_true (show (0 : Int) ≤ (i : Int) by omega), cond_true, Bool.and_true]
      unfold lineBad
      by_cases h2 : 5000 < (hadOf l i).length + (L l i).Tasks.length
      · rw [if_pos h2, decide_eq_true (by omega), cond_true]; simp [wait_fault]
      · rw [if_neg h2, decide_eq_false (by omega), cond_false]
        have hp : (0 : Int) < i → IntKind.i64.wrap ((i : Int) - 1) = ((i - 1 : Nat) : Int) := fun h => by rw [wrap_id (by omega) (by omega)]; omega
        by_cases h0 : 0 < i
        · have hm : ix l ((i - 1 : Nat) : Int) = L l (i - 1) := rfl
          have hpi := hp (by omega)
          simp only [hpi, hm, decide_eq_true (show (0 : Int) < (i : Int) by omega), Bool.not_true, Bool.false_or, decide_eq_true (show (0 : Int) ≤ ((i - 1 : Nat) : Int) by omega), decide_eq_true (show ((i - 1 : Nat) : Int) < (l.length : Nat) by omega), Bool.and_true, cond_true]
          by_cases h3 : (L l i).Tasks.length = 0 ∨ (0 < i ∧ (L l i).At ≤ (L l (i - 1)).At)
          · rw [if_pos h3]
            have : (decide ((L l i).At ≤ (L l (i - 1)).At) || (((L l i).Tasks.length : Nat) : Int) == 0) = true := by
              rcases h3 with h3 | ⟨_, h3⟩
              · simp [h3]
              · simp [h3]
            rw [this]; simp [wait_fault]
          · rw [if_neg h3]
            have : (decide ((L l i).At ≤ (L l (i - 1)).At) || (((L l i).Tasks.length : Nat) : Int) == 0) = false := by
              simp only [not_or, not_and] at h3
              have := h3.2 h0
              simp only [Bool.or_eq_false_iff, decide_eq_false_iff_not, beq_eq_false_iff_ne]
              exact ⟨this, by omega⟩
            rw [this, cond_false, check_inner l _ i hi _ hfi]
            cases tasksBad (hadOf l i) (L l i).Tasks with
            | some c => rfl
            | none => simp only [Option.map_none, toldOr_none, e0, had_succ hi, wrap_n1 i (by omega), List.length_append]
        · have h0' : i = 0 := by omega
          subst h0'
          simp only [show decide ((0 : Int) < ((0 : Nat) : Int)) = false from rfl, Bool.not_false, Bool.true_or, cond_true, cond_false]
          by_cases h3 : (L l 0).Tasks.length = 0
          · rw [if_pos (.inl h3)]
            simp [h3, wait_fault]
          · rw [if_neg (by omega)]
            have : ((((L l 0).Tasks.length : Nat) : Int) == 0) = false := by simp only [beq_eq_false_iff_ne]; omega
            rw [this, cond_false, check_inner l _ 0 hi _ hfi]
            cases tasksBad (hadOf l 0) (L l 0).Tasks with
            | some c => rfl
            | none => simp only [Option.map_none, toldOr_none, e0, had_succ hi, wrap_n1 0 (by omega), List.length_append]
    exact loopO_findP (step := wait_Check_l2 l) (fun i => (((hadOf l i).length : Int), (i : Int), setAll [] (hadOf l i))) (lineBad l) ⟨0, 0⟩ l.length (fun i hi hb => hE i hi (had_ok hb (by omega))) (fun _ => by
      simp [wait_Check_l2])
theorem lines_inner (l : List Line) (i : Nat) (hi : i < l.length) (hn : i < 1000000) (had : List Int) (hh : had.length ≤ 5000) (hf : (L l i).Tasks.length ≤ 5000) :
    loopO (taskmillref_LinesFault_l1 l i) (0, had) = match tasksBad had (L l i).Tasks with
      | some c => some (.inr ⟨c, i⟩)
      | none => some (.inl (((i + 1 : Nat) : Int), had ++ (L l i).Tasks)) := by
  have hL : ix l (i : Int) = L l i := rfl
  have t1 := decide_eq_true (show ((i : Nat) : Int) < (l.length : Nat) by omega)
  have t2 := decide_eq_true (show (0 : Int) ≤ (i : Int) by omega)
  have := loopO_find (step := taskmillref_LinesFault_l1 l i) (fun k => (((k : Nat) : Int), had ++ (L l i).Tasks.take k)) (fun k => (taskBad had (L l i).Tasks k).map fun c => Sum.inr (Fault.mk c i)) (some (.inl (((i + 1 : Nat) : Int), had ++ (L l i).Tasks))) (L l i).Tasks.length (fun k hk hb => ?_) (fun k r hk hb => ?_) (fun hb => ?_)
  · simp only [List.take_zero, List.append_nil] at this
    rw [show ((0 : Nat) : Int) = 0 from rfl] at this
    rw [this]
    unfold tasksBad
    cases h1 : firstAt (taskBad had (L l i).Tasks) (L l i).Tasks.length with
    | none => rw [(firstAt_none _).2 fun k hk => by rw [(firstAt_none _).1 h1 k hk]; rfl]
    | some c =>
      obtain ⟨k, g1, g2, g3⟩ := firstAt_some _ h1
      rw [firstAt_at g1 (b := Sum.inr (Fault.mk c i)) (by rw [g2]; rfl) fun j hj => by rw [g3 j hj]; rfl]
  all_goals have k1 : ∀ k : Nat, k < (L l i).Tasks.length → decide (((k : Nat) : Int) < ((L l i).Tasks.length : Nat)) = true := fun k hk => decide_eq_true (by omega)
  all_goals have k2 : ∀ k : Nat, decide ((0 : Int) ≤ (k : Int)) = true := fun k => decide_eq_true (by omega)
  all_goals have k3 : ∀ k : Nat, (had ++ (L l i).Tasks.take k).length < 4611686018427387904 := fun k => by simp only [List.length_append, List.length_take]; omega
  · have hb' : taskBad had (L l i).Tasks k = none := by simpa using hb
    unfold taskBad at hb'
    split at hb'
    · cases hb'
    · split at hb'
      · cases hb'
      · rename_i h1 h2
        have k4 : ((had ++ (L l i).Tasks.take k) ++ [(L l i).Tasks.getD k 0]).length * 8 ≤ 140737488355328 := by simp only [List.length_append, List.length_take, List.length_singleton]; omega
        simp only [taskmillref_LinesFault_l1, hL, ix_int hk, t1, t2, k1 k hk, k2 k, decide_eq_false h1, cond_true, cond_false, Bool.and_true, has_eq _ _ (k3 k), decide_eq_false h2, Option.bind_some, decide_eq_true k4]
        rw [wrap_n1 k (by omega), List.take_succ_eq_append_getElem hk, getD_get hk, List.append_assoc]
  · have hb' : ∃ c, taskBad had (L l i).Tasks k = some c ∧ Sum.inr (Fault.mk c i) = r := by simpa using hb
    obtain ⟨c, hc, rfl⟩ := hb'
    unfold taskBad at hc
    split at hc
    · rename_i h1
      cases hc
      simp only [taskmillref_LinesFault_l1, hL, ix_int hk, t1, t2, k1 k hk, k2 k, decide_eq_true h1, cond_true, Bool.and_true, taskmillref_F]
      rfl
    · split at hc
      · rename_i h1 h2
        cases hc
        simp only [taskmillref_LinesFault_l1, hL, ix_int hk, t1, t2, k1 k hk, k2 k, decide_eq_false h1, cond_true, cond_false, Bool.and_true, has_eq _ _ (k3 k), decide_eq_true h2, Option.bind_some, taskmillref_F]
        rfl
      · cases hc
  · simp only [taskmillref_LinesFault_l1, hL, t1, t2, cond_true, Bool.and_true, decide_eq_false (show ¬ (((L l i).Tasks.length : Nat) : Int) < ((L l i).Tasks.length : Nat) by omega), cond_false, List.take_length, wrap_n1 i (by omega)]
    try rfl
theorem lines_eq (l : List Line) (hf : Fits l) : taskmillref_LinesFault l = some (linesF l) := by
  unfold taskmillref_LinesFault linesF
  by_cases h : 5000 < l.length
  · rw [if_pos h, decide_eq_true (by omega), cond_true]; rfl
  · rw [if_neg h, decide_eq_false (by omega), cond_false]
    have hE : ∀ i, i < l.length → (hadOf l i).length ≤ 5000 → taskmillref_LinesFault_l2 l ((i : Int), hadOf l i) = toldOr (lineBad l i) (((i + 1 : Nat) : Int), hadOf l (i + 1)) := fun i hi h5 => by
      have hL : ix l (i : Int) = L l i := rfl
      have hfi := fits_at hf hi
      have e0 : IntKind.i64.wrap (((hadOf l i).length : Int) + ((L l i).Tasks.length : Nat)) = (((hadOf l i).length + (L l i).Tasks.length : Nat) : Int) := by
        rw [wrap_id (by omega) (by omega)]; omega
      simp only [taskmillref_LinesFault_l2, hL, e0, decide_eq_true (show ((i : Nat) : Int) < (l.length : Nat) by omega), decide_eq_true (show (0 : Int) ≤ (i : Int) by omega), cond_true, Bool.and_true, Bool.or_true]
      unfold lineBad
      by_cases h2 : 5000 < (hadOf l i).length + (L l i).Tasks.length
      · rw [if_pos h2, decide_eq_true (by omega), cond_true]; simp [taskmillref_F]
      · rw [if_neg h2, decide_eq_false (by omega), cond_false]
        have hin := lines_inner l i hi (by omega) (hadOf l i) h5 (by omega)
        by_cases h4 : (L l i).Tasks.length = 0
        · simp [h4, taskmillref_F]
        · have h4' : ((((L l i).Tasks.length : Nat) : Int) == 0) = false := by simp only [beq_eq_false_iff_ne]; omega
          simp only [h4', Bool.false_or, Bool.not_false, Bool.true_and]
          by_cases h0 : 0 < i
          · have hm : ix l ((i - 1 : Nat) : Int) = L l (i - 1) := rfl
            have hpi : IntKind.i64.wrap ((i : Int) - 1) = ((i - 1 : Nat) : Int) := by rw [wrap_id (by omega) (by omega)]; omega
            simp only [hpi, hm, decide_eq_true (show (0 : Int) < (i : Int) by omega), Bool.not_true, Bool.false_or, decide_eq_true (show (0 : Int) ≤ ((i - 1 : Nat) : Int) by omega), decide_eq_true (show ((i - 1 : Nat) : Int) < (l.length : Nat) by omega), Bool.and_true, Bool.true_and, cond_true]
            by_cases h3 : (L l i).At ≤ (L l (i - 1)).At
            · rw [if_pos (.inr ⟨h0, h3⟩), decide_eq_true h3]; simp [taskmillref_F]
            · rw [if_neg (by rintro (h | ⟨_, h⟩); exact h4 h; exact h3 h), decide_eq_false h3, cond_false, hin, had_succ hi]
              cases tasksBad (hadOf l i) (L l i).Tasks <;> rfl
          · have h0' : i = 0 := by omega
            subst h0'
            simp only [show decide ((0 : Int) < ((0 : Nat) : Int)) = false from rfl, Bool.not_false, Bool.true_or, cond_true, cond_false, Bool.false_and]
            rw [if_neg (by omega), hin, had_succ hi]
            cases tasksBad (hadOf l 0) (L l 0).Tasks <;> rfl
    exact loopO_findP (step := taskmillref_LinesFault_l2 l) (fun i => ((i : Int), hadOf l i)) (lineBad l) ⟨0, 0⟩ l.length (fun i hi hb => hE i hi (had_ok hb (by omega))) (fun _ => by
      simp [taskmillref_LinesFault_l2])
/-! ### Lines of which nothing is said -/
structure Ok (l : List Line) : Prop where
  len : l.length ≤ 5000
  tot : (flat l).length ≤ 5000
  ne : ∀ w ∈ l, w.Tasks ≠ []
  srt : l.Pairwise fun a b => a.At < b.At
  pos : ∀ t ∈ flat l, 1 ≤ t
  nd : (flat l).Nodup
theorem tasksBad_none {had ts : List Int} (h0 : had.Nodup) : tasksBad had ts = none ↔ (∀ t ∈ ts, 1 ≤ t) ∧ (had ++ ts).Nodup := by
  unfold tasksBad
  rw [firstAt_none, nodup_grow _ _ h0]
  have key : ∀ k (h : k < ts.length), taskBad had ts k = none ↔ 1 ≤ ts[k] ∧ ts[k] ∉ had ++ ts.take k := fun k h => by
    unfold taskBad
    rw [getD_get h]
    split
    · simp; omega
    · split
      · rename_i h1 h2
        simp only [reduceCtorEq, false_iff, not_and, Decidable.not_not]
        exact fun _ => h2
      · rename_i h1 h2
        simp only [true_iff]
        exact ⟨by omega, h2⟩
  constructor
  · intro h
    refine ⟨fun t ht => ?_, fun k hk => ((key k hk).1 (h k hk)).2⟩
    obtain ⟨k, hk, rfl⟩ := List.getElem_of_mem ht
    exact ((key k hk).1 (h k hk)).1
  · rintro ⟨h1, h2⟩ k hk
    exact (key k hk).2 ⟨h1 _ (List.getElem_mem hk), h2 k hk⟩
theorem code_pos {l : List Line} {i : Nat} {f : Fault} (h : lineBad l i = some f) : f.Code ≠ 0 := by
  unfold lineBad at h
  split at h
  · cases h; simp
  · split at h
    · cases h; simp
    · obtain ⟨c, hc, rfl⟩ := Option.map_eq_some_iff.1 h
      unfold tasksBad at hc
      obtain ⟨k, _, g, _⟩ := firstAt_some _ hc
      unfold taskBad at g
      split at g
      · cases g; simp
      · split at g
        · cases g; simp
        · cases g
theorem lineBad_none {l : List Line} {i : Nat} (hi : i < l.length) (hn : (hadOf l i).Nodup) : lineBad l i = none ↔ (hadOf l (i + 1)).length ≤ 5000 ∧ (L l i).Tasks ≠ [] ∧ (0 < i → (L l (i - 1)).At < (L l i).At) ∧ (∀ t ∈ (L l i).Tasks, 1 ≤ t) ∧ (hadOf l (i + 1)).Nodup := by
  unfold lineBad
  rw [had_succ hi, List.length_append]
  split
  · simp; omega
  · split
    · rename_i h1 h2
      simp only [reduceCtorEq, false_iff]
      rintro ⟨_, h3, h4, _⟩
      rcases h2 with h2 | ⟨h2, h5⟩
      · exact h3 (List.eq_nil_of_length_eq_zero h2)
      · have := h4 h2; omega
    · rename_i h1 h2
      simp only [not_or, not_and] at h2
      rw [Option.map_eq_none_iff, tasksBad_none hn]
      constructor
      · rintro ⟨h3, h4⟩
        refine ⟨by omega, fun e => h2.1 (by rw [e]; rfl), fun h => ?_, h3, h4⟩
        have := h2.2 h; omega
      · rintro ⟨_, _, _, h3, h4⟩
        exact ⟨h3, h4⟩
theorem lines_code (l : List Line) : (linesF l).Code = 0 ↔ Ok l := by
  unfold linesF
  have hmem : ∀ w ∈ l, ∃ i, i < l.length ∧ L l i = w := fun w hw => by
    obtain ⟨i, hi, rfl⟩ := List.getElem_of_mem hw
    exact ⟨i, hi, L_get hi⟩
  have hsrt : (l.Pairwise fun a b => a.At < b.At) ↔ ∀ i, i < l.length → 0 < i → (L l (i - 1)).At < (L l i).At := by
    rw [pairwise_next _ (fun a b c h1 h2 => by omega)]
    constructor
    · intro h i hi h0
      obtain ⟨j, rfl⟩ : ∃ j, i = j + 1 := ⟨i - 1, by omega⟩
      have := h j hi
      rw [L_get hi, Nat.add_sub_cancel, L_get (by omega)]
      exact this
    · intro h i hi
      have := h (i + 1) hi (by omega)
      rwa [L_get hi, Nat.add_sub_cancel, L_get (by omega)] at this
  by_cases h : 5000 < l.length
  · rw [if_pos h]
    simp only [show ((2 : Int) = 0) = False from by simp, false_iff]
    exact fun ho => by have := ho.len; omega
  · rw [if_neg h]
    constructor
    · intro hc
      have hb : ∀ i, i < l.length → lineBad l i = none := by
        cases hf : firstAt (lineBad l) l.length with
        | none => exact (firstAt_none _).1 hf
        | some f =>
          rw [hf] at hc
          obtain ⟨i, g1, g2, _⟩ := firstAt_some _ hf
          exact absurd hc (code_pos g2)
      have hnd : ∀ i, i ≤ l.length → (hadOf l i).Nodup := by
        intro i
        induction i with
        | zero => intro _; simp [hadOf]
        | succ i ih => exact fun hi => ((lineBad_none (by omega) (ih (by omega))).1 (hb i (by omega))).2.2.2.2
      have hall := fun i (hi : i < l.length) => (lineBad_none hi (hnd i (by omega))).1 (hb i hi)
      refine ⟨by omega, ?_, fun w hw => ?_, hsrt.2 fun i hi h0 => (hall i hi).2.2.1 h0, fun t ht => ?_, ?_⟩
      · rw [← had_all]
        cases hl : l.length with
        | zero => simp [hadOf]
        | succ n => exact (hall n (by omega)).1
      · obtain ⟨i, hi, rfl⟩ := hmem w hw
        exact (hall i hi).2.1
      · obtain ⟨w, hw, ht⟩ := List.mem_flatMap.1 ht
        obtain ⟨i, hi, rfl⟩ := hmem w hw
        exact (hall i hi).2.2.2.1 t ht
      · rw [← had_all]; exact hnd _ (Nat.le_refl _)
    · intro ho
      have hsub : ∀ i, (hadOf l i).Sublist (flat l) := fun i => by
        unfold hadOf flat
        have := List.take_append_drop i l
        conv => rhs; rw [← this, List.flatMap_append]
        exact List.sublist_append_left _ _
      have hb : ∀ i, i < l.length → lineBad l i = none := fun i hi => by
        rw [lineBad_none hi ((hsub i).nodup ho.nd)]
        refine ⟨Nat.le_trans (hsub _).length_le ho.tot, ho.ne _ (by rw [L_get hi]; exact List.getElem_mem hi), hsrt.1 ho.srt i hi, fun t ht => ho.pos t (List.mem_flatMap.2 ⟨_, L_mem hi, ht⟩), (hsub _).nodup ho.nd⟩
      rw [(firstAt_none _).2 hb]; rfl
theorem lines_ok {l : List Line} (h : Ok l) : linesF l = ⟨0, 0⟩ := by
  have hc := (lines_code l).2 h
  unfold linesF at hc ⊢
  split at hc
  · cases hc
  · rename_i hl
    rw [if_neg hl]
    cases hf : firstAt (lineBad l) l.length with
    | none => rfl
    | some f =>
      rw [hf] at hc
      obtain ⟨i, g1, g2, _⟩ := firstAt_some _ hf
      exact absurd hc (code_pos g2)
end Go.Proofs.Ytnnpjaoddniifaa
