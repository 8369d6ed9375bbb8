/-
  What laws of the chapter pipe compute, and lemmas on it.
  No conditions.
-/
import Derived.Test.YtconaimaibephaapipeP2
import Derived.Test.YtconaimaibephaaPB
set_option linter.unusedSimpArgs false
set_option linter.unusedVariables false
namespace Go.Proofs.Ytconaimaibephaa
open Go Go.Sx
/-! ### Pipes that are fine -/
structure OkP (p : Pipe) : Prop where
  tot : total p ≤ 5000
  cap : 0 ≤ p.Cap ∧ p.Cap ≤ 1000
  it : (p.Items.length : Int) ≤ p.Cap
  nb : ¬ badP p
  ps : ∀ x ∈ p.Senders ++ p.Getters, 1 ≤ x.Task ∧ 0 ≤ x.Case
  nd : (tasksOf (p.Senders ++ p.Getters)).Nodup
  gv : ∀ x ∈ p.Getters, x.Value = 0
theorem nodup_of_take {l : List Int} (h : ∀ i (hi : i < l.length), l[i] ∉ l.take i) : l.Nodup := by
  rw [List.nodup_iff_pairwise_ne, List.pairwise_iff_getElem]
  intro i j hi hj hij he
  exact h j hj (he ▸ List.mem_take_iff_getElem.2 ⟨i, by omega, rfl⟩)
theorem pb_none (seen : List Int) (l : List GPost) : firstAt (pb seen l) l.length = none ↔ (∀ x ∈ l, 1 ≤ x.Task ∧ 0 ≤ x.Case) ∧ (tasksOf l).Nodup ∧ ∀ x ∈ l, x.Task ∉ seen := by
  rw [firstAt_none]
  have key : ∀ i (hi : i < l.length), pb seen l i = none ↔ (1 ≤ l[i].Task ∧ 0 ≤ l[i].Case) ∧ l[i].Task ∉ seen ∧ l[i].Task ∉ tasksOf (l.take i) := by
    intro i hi
    simp only [pb, List.getElem?_eq_getElem hi]
    by_cases h1 : l[i].Task < 1 ∨ l[i].Case < 0
    · rw [if_pos h1]
      exact ⟨(fun h => by cases h), (fun h => by omega)⟩
    · rw [if_neg h1]
      by_cases h2 : l[i].Task ∈ seen ++ tasksOf (l.take i)
      · rw [if_pos h2]
        refine ⟨(fun h => by cases h), fun h => ?_⟩
        rcases List.mem_append.1 h2 with h3 | h3
        · exact absurd h3 h.2.1
        · exact absurd h3 h.2.2
      · rw [if_neg h2]
        simp only [List.mem_append, not_or] at h2
        exact ⟨fun _ => ⟨by omega, h2⟩, fun _ => rfl⟩
  constructor
  · intro h
    refine ⟨fun x hx => ?_, nodup_of_take fun i hi => ?_, fun x hx => ?_⟩
    · obtain ⟨i, hi, rfl⟩ := List.getElem_of_mem hx
      exact ((key i hi).1 (h i hi)).1
    · have hi' : i < l.length := by simpa [tasksOf] using hi
      have := ((key i hi').1 (h i hi')).2.2
      simpa [tasksOf, List.map_take] using this
    · obtain ⟨i, hi, rfl⟩ := List.getElem_of_mem hx
      exact ((key i hi).1 (h i hi)).2.1
  · rintro ⟨h1, h2, h3⟩ i hi
    refine (key i hi).2 ⟨h1 _ (List.getElem_mem hi), h3 _ (List.getElem_mem hi), ?_⟩
    have := nodup_take h2 (i := i) (by simpa [tasksOf] using hi)
    simpa [tasksOf, List.map_take] using this
theorem gbad_none (l : List GPost) : firstAt (gbad l) l.length = none ↔ ∀ x ∈ l, x.Value = 0 := by
  rw [firstAt_none]
  constructor
  · intro h x hx
    obtain ⟨i, hi, rfl⟩ := List.getElem_of_mem hx
    have := h i hi
    simp only [gbad, List.getElem?_eq_getElem hi] at this
    split at this
    · cases this
    · rename_i hh; simpa using hh
  · intro h i hi
    simp only [gbad, List.getElem?_eq_getElem hi]
    rw [if_neg (by have := h _ (List.getElem_mem hi); simpa using this)]
theorem nd_split (p : Pipe) : (tasksOf (p.Senders ++ p.Getters)).Nodup ↔ (tasksOf p.Senders).Nodup ∧ (tasksOf p.Getters).Nodup ∧ ∀ x ∈ p.Getters, x.Task ∉ tasksOf p.Senders := by
  simp only [tasksOf, List.map_append]
  rw [List.nodup_append]
  constructor
  · rintro ⟨h1, h2, h3⟩
    exact ⟨h1, h2, fun x hx hm => h3 _ hm _ (List.mem_map.2 ⟨x, hx, rfl⟩) rfl⟩
  · rintro ⟨h1, h2, h3⟩
    refine ⟨h1, h2, fun a ha b hb e => ?_⟩
    obtain ⟨x, hx, rfl⟩ := List.mem_map.1 hb
    exact h3 x hx (e ▸ ha)
theorem pipeF_of {p : Pipe} (ok : OkP p) : pipeF p = ⟨0, 0⟩ := by
  obtain ⟨h1, h2, h3, h4, h5, h6, h7⟩ := ok
  rw [nd_split] at h6
  unfold pipeF
  rw [if_neg (by omega), if_neg (by omega), if_neg (by omega), if_neg h4]
  unfold pfault
  rw [(pb_none [] p.Senders).2 ⟨fun x hx => h5 x (List.mem_append_left _ hx), h6.1, fun _ _ => by simp⟩, (pb_none (tasksOf p.Senders) p.Getters).2 ⟨fun x hx => h5 x (List.mem_append_right _ hx), h6.2.1, h6.2.2⟩]
  unfold gv
  rw [(gbad_none p.Getters).2 h7]
  rfl
theorem ok_of {p : Pipe} (h : (pipeF p).Code = 0) : OkP p := by
  unfold pipeF at h
  split at h
  · simp at h
  · split at h
    · simp at h
    · split at h
      · simp at h
      · split at h
        · simp at h
        · rename_i h1 h2 h3 h4
          unfold pfault at h
          have code : ∀ seen l c, firstAt (pb seen l) l.length = some c → c ≠ 0 := fun seen l c hf => by
            obtain ⟨i, hi, hb, _⟩ := firstAt_some _ hf
            simp only [pb, List.getElem?_eq_getElem hi] at hb
            split at hb
            · cases hb; decide
            · split at hb
              · cases hb; decide
              · cases hb
          cases hs : firstAt (pb [] p.Senders) p.Senders.length with
          | some c => rw [hs] at h; exact absurd h (code _ _ _ hs)
          | none =>
            cases hg : firstAt (pb (tasksOf p.Senders) p.Getters) p.Getters.length with
            | some c => rw [hs, hg] at h; exact absurd h (code _ _ _ hg)
            | none =>
              rw [hs, hg] at h
              obtain ⟨a1, a2, _⟩ := (pb_none _ _).1 hs
              obtain ⟨b1, b2, b3⟩ := (pb_none _ _).1 hg
              refine ⟨by omega, by omega, by omega, h4, fun x hx => ?_, (nd_split p).2 ⟨a2, b2, b3⟩, ?_⟩
              · rcases List.mem_append.1 hx with hx | hx
                · exact a1 x hx
                · exact b1 x hx
              · rw [← gbad_none]
                cases hv : firstAt (gbad p.Getters) p.Getters.length with
                | none => rfl
                | some f =>
                  simp only [gv, hv] at h
                  obtain ⟨i, hi, hb, _⟩ := firstAt_some _ hv
                  simp only [gbad, List.getElem?_eq_getElem hi] at hb
                  split at hb
                  · cases hb; simp at h
                  · cases hb
theorem begin_of {p : Pipe} (ok : OkP p) {t : Int} (h1 : 1 ≤ t) (h2 : t ∉ tasksOf (p.Senders ++ p.Getters)) (h3 : total p < 5000) : beginF p t = ⟨0, 0⟩ := by
  have : ¬ (t ∈ tasksOf p.Senders ∨ t ∈ tasksOf p.Getters) := by simpa [tasksOf] using h2
  unfold beginF
  rw [pipeF_of ok, if_neg (by simp), if_neg (by omega), if_neg this, if_neg (by omega)]
theorem ok_begin {p : Pipe} {t : Int} (h : (beginF p t).Code = 0) : OkP p ∧ 1 ≤ t ∧ t ∉ tasksOf (p.Senders ++ p.Getters) ∧ total p < 5000 := by
  unfold beginF at h
  split at h
  · rename_i hh; exact absurd h hh
  · rename_i hh
    have ok := ok_of (by simpa using hh)
    split at h
    · simp at h
    · split at h
      · simp at h
      · split at h
        · simp at h
        · rename_i h1 h2 h3
          have := ok.tot
          exact ⟨ok, by omega, by simpa [tasksOf] using h2, by omega⟩
/-! ### Who leaves -/
def keep (t : Int) (x : GPost) : Bool := !(x.Task == t)
theorem gone_eq (l : List GPost) (t : Int) (hl : l.length ≤ 1000000) : taskmillref_Gone l t = some (l.filter (keep t)) := by
  unfold taskmillref_Gone
  have := loopO_all (step := taskmillref_Gone_l1 l t) (fun i => (((i : Nat) : Int), (l.take i).filter (keep t))) (some (l.filter (keep t))) l.length (fun i hi => ?_) ?_
  · simpa using this
  · have d1 : decide ((i : Int) < ((l.length : Nat) : Int)) = true := by simp; omega
    have d2 : decide ((0 : Int) ≤ (i : Int)) = true := by simp
    have hfl : ((l.take i).filter (keep t)).length ≤ i := Nat.le_trans (List.length_filter_le ..) (by simp; omega)
    have hb : (((l.take i).filter (keep t)).length + 1) * 24 ≤ 140737488355328 := by omega
    simp only [taskmillref_Gone_l1, taskmillref_Gone_j1, d1, d2, Bool.and_self, cond_true, ix_get hi]
    rw [wrap_n1 i (by omega), List.take_succ_eq_append_getElem hi, List.filter_append]
    by_cases hx : l[i].Task = t
    · simp [hx, keep]
    · have hx1 : (l[i].Task != t) = true := by simpa using hx
      have hx2 : keep t l[i] = true := by simpa [keep] using hx
      simp [hx1, hx2, hb]
  · simp [taskmillref_Gone_l1]
theorem index_eq (l : List GPost) (t : Int) (h : l.length ≤ 1000000) : slices_IndexFunc_Post_1 l t = some (inLine l t, t) := by
  unfold slices_IndexFunc_Post_1
  have := loopO_if (step := slices_IndexFunc_Post_1_l1 l) (fun i => (((i : Nat) : Int), t)) (isTask l t) (fun i => some ((i : Int), t)) (some (-1, t)) l.length (fun i hi hp => ?_) (fun i hi hp => ?_) (fun _ => ?_)
  · rw [show ((0 : Nat) : Int) = 0 from rfl] at this
    rw [this]
    unfold inLine
    cases firstIf (isTask l t) l.length <;> rfl
  · rw [is_at hi] at hp
    simp only [decide_eq_false_iff_not] at hp
    simp [slices_IndexFunc_Post_1_l1, pipe_Without_1, ix_get hi, hi, hp, wrap_n1 i (by omega), Bool.cond_eq_ite]
  · rw [is_at hi] at hp
    simp only [decide_eq_true_eq] at hp
    simp [slices_IndexFunc_Post_1_l1, pipe_Without_1, ix_get hi, hi, hp]
  · simp [slices_IndexFunc_Post_1_l1]
theorem cut_wipe {α : Type} [Inhabited α] (l : List α) (i : Nat) (h : i ≤ l.length) : cut (wipe l (i : Int) ((l.length : Nat) : Int)) (0 : Int) (i : Int) = l.take i := by
  rw [cut_take, wipe, putL]
  simp only [Int.toNat_natCast]
  rw [List.append_assoc, List.take_append_of_le_length (by simp <;> omega), List.take_of_length_le (by simp <;> omega)]
theorem delete_eq (l : List GPost) (t : Int) (hl : l.length ≤ 1000000) : slices_DeleteFunc_Post_1 l t = some (l.filter (keep t), t) := by
  unfold slices_DeleteFunc_Post_1
  rw [index_eq l t hl]
  simp only [Option.bind_some]
  unfold inLine
  cases hf : firstIf (isTask l t) l.length with
  | none =>
    have hn := firstIf_none.1 hf
    have : l.filter (keep t) = l := by
      rw [List.filter_eq_self]
      intro x hx
      obtain ⟨i, hi, rfl⟩ := List.getElem_of_mem hx
      have := hn i hi
      rw [is_at hi] at this
      simpa [keep] using this
    rw [this]; rfl
  | some n =>
    obtain ⟨hn, h1, h2⟩ := firstIf_some hf
    have e0 : (((n : Nat) : Int) == -1) = false := by simp
    simp only [e0, cond_false]
    rw [wrap_n1 n (by omega)]
    have htake : (l.take (n + 1)).filter (keep t) = l.take n := by
      rw [List.take_succ_eq_append_getElem hn, List.filter_append]
      rw [is_at hn] at h1
      have hk : keep t l[n] = false := by simpa [keep] using h1
      have : (l.take n).filter (keep t) = l.take n := by
        rw [List.filter_eq_self]
        intro x hx
        obtain ⟨i, hi, rfl⟩ := List.mem_take_iff_getElem.1 hx
        have := h2 i (by omega)
        rw [is_at (by omega)] at this
        simpa [keep] using this
      rw [this]; simp [hk]
    obtain ⟨r, hr, rfl⟩ := loopO_inv (step := slices_DeleteFunc_Post_1_l1) (fun s => ∃ (i j : Nat) (c : List GPost), s = ((i : Int), (j : Int), c, t) ∧ c.length = l.length ∧ i < j ∧ j ≤ l.length ∧ c.take i = (l.take j).filter (keep t) ∧ c.drop j = l.drop j) (fun s => l.length - s.2.1.toNat) (fun r => r = (l.filter (keep t), t)) (fun s hs => by
      obtain ⟨i, j, c, rfl, hcl, hij, hjl, ht, hd⟩ := hs
      by_cases hj : j < l.length
      · left
        have d1 : decide ((j : Int) < ((c.length : Nat) : Int)) = true := by simp; omega
        have d00 : ∀ m : Nat, decide ((0 : Int) ≤ (m : Int)) = true := fun m => by simp
        have d3 : decide ((i : Int) < ((c.length : Nat) : Int)) = true := by simp; omega
        have hcj : c[j]'(by omega) = l[j] := by
          have h1 : c[j]? = l[j]? := by
            have := congrArg (fun x => x[0]?) hd
            simpa [List.getElem?_drop] using this
          rw [List.getElem?_eq_getElem (by omega), List.getElem?_eq_getElem hj] at h1
          exact Option.some.inj h1
        have hdrop : ∀ m, j < m → c.drop m = l.drop m := fun m hm => by
          have := congrArg (fun x => x.drop (m - j)) hd
          simp only [List.drop_drop] at this
          rwa [show j + (m - j) = m by omega] at this
        by_cases hk : l[j].Task = t
        · refine ⟨((i : Int), ((j + 1 : Nat) : Int), c, t), ?_, ⟨i, j + 1, c, rfl, hcl, by omega, by omega, ?_, hdrop _ (by omega)⟩, by simp only [Int.toNat_natCast]; omega⟩
          · simp only [slices_DeleteFunc_Post_1_l1, d00, Bool.and_self, cond_true, d1, ix_get (show j < c.length by omega), hcj, pipe_Without_1, Option.bind_some, hk, beq_self_eq_true, Bool.not_true, cond_false, slices_DeleteFunc_Post_1_j1]
            rw [wrap_n1 j (by omega)]
          · rw [List.take_succ_eq_append_getElem hj, List.filter_append, ← ht]
            simp [keep, hk]
        · have hk' : (l[j].Task == t) = false := by simpa using hk
          refine ⟨(((i + 1 : Nat) : Int), ((j + 1 : Nat) : Int), c.set i l[j], t), ?_, ⟨i + 1, j + 1, c.set i l[j], rfl, by simpa using hcl, by omega, by omega, ?_, ?_⟩, by simp only [Int.toNat_natCast]; omega⟩
          · simp only [slices_DeleteFunc_Post_1_l1, d00, Bool.and_self, d3, cond_true, d1, ix_get (show j < c.length by omega), hcj, pipe_Without_1, Option.bind_some, hk', Bool.not_false, slices_DeleteFunc_Post_1_j1, Int.toNat_natCast]
            rw [wrap_n1 j (by omega), wrap_n1 i (by omega)]
          · rw [List.take_succ_eq_append_getElem hj, List.filter_append, ← ht, List.take_succ_eq_append_getElem (by simp; omega), List.take_set_of_le (by omega)]
            have hx2 : keep t l[j] = true := by simpa [keep] using hk
            simp [hx2]
          · rw [List.drop_set_of_lt (by omega)]
            exact hdrop _ (by omega)
      · right
        have hjl' : j = l.length := by omega
        subst hjl'
        have d1 : decide (((l.length : Nat) : Int) < ((c.length : Nat) : Int)) = false := by simp; omega
        have d3 : (decide ((0 : Int) ≤ (i : Int)) && decide ((i : Int) ≤ ((c.length : Nat) : Int))) = true := by simp; omega
        have hwl : (wipe c (i : Int) ((c.length : Nat) : Int)).length = c.length := wipe_len (by omega)
        refine ⟨_, ?_, rfl⟩
        simp only [slices_DeleteFunc_Post_1_l1, d1, cond_false, d3, hwl, cond_true]
        rw [cut_wipe c i (by omega), ht, List.take_length]; rfl) (s0 := ((n : Int), ((n + 1 : Nat) : Int), l, t)) ⟨n, n + 1, l, rfl, rfl, by omega, by omega, htake.symm, rfl⟩
    exact hr
def leaveR (p : Pipe) (t : Int) : Pipe × Fault :=
  if (pipeF p).Code ≠ 0 then (noP, pipeF p) else if ¬ (t ∈ tasksOf p.Senders ∨ t ∈ tasksOf p.Getters) then (noP, ⟨6, 0⟩) else (⟨p.Cap, p.Items, p.Closed, p.Senders.filter (keep t), p.Getters.filter (keep t)⟩, ⟨0, 0⟩)
theorem leave_eq (p : Pipe) (t : Int) (ht : total p ≤ 1000000) : pipe_Leave p t = some ((leaveR p t).1.Cap, (leaveR p t).1.Closed, (leaveR p t).2, (leaveR p t).1.Items, (leaveR p t).1.Senders, (leaveR p t).1.Getters) := by
  have ht' := ht
  unfold total at ht'
  unfold pipe_Leave leaveR pipe_Without
  rw [check_eq p ht, waits_eq p t (by omega) (by omega), copy_eq p ht]
  rcases pipeF_ok p with ⟨_, h⟩ | h
  · by_cases hw : t ∈ tasksOf p.Senders ∨ t ∈ tasksOf p.Getters
    · simp only [h, hw, Option.bind_some, bne_self_eq_false, cond_false, decide_true, Bool.not_true, ne_eq, not_true_eq_false, if_false]
      rw [delete_eq _ _ (by omega)]
      simp only [Option.bind_some]
      rw [delete_eq _ _ (by omega)]
      rfl
    · simp [h, hw, noP]
  · simp [h, Bool.cond_eq_ite, noP]
/-! ### Closing -/
def wakesOf (b : Bool) (l : List GPost) : List GWake := l.map fun x => ⟨x.Task, x.Case, 0, false, b⟩
def downR (p : Pipe) : Pipe × Answer := if p.Closed = true then (p, ⟨true, true, false, 0, 0, []⟩) else (⟨p.Cap, p.Items, true, [], []⟩, ⟨true, false, false, 0, 0, wakesOf false p.Getters ++ wakesOf true p.Senders⟩)
theorem wakes_snoc (b : Bool) (l : List GPost) (i : Nat) (h : i < l.length) : wakesOf b (l.take (i + 1)) = wakesOf b (l.take i) ++ [⟨l[i].Task, l[i].Case, 0, false, b⟩] := by
  unfold wakesOf
  rw [List.take_succ_eq_append_getElem h, List.map_append]; rfl
theorem wakes_len (b : Bool) (l : List GPost) : (wakesOf b l).length = l.length := by simp [wakesOf]
theorem closing_eq (p : Pipe) (ht : total p ≤ 1000000) : taskmillref_Closing p = some ((downR p).1, (downR p).2.Done, (downR p).2.Panic, (downR p).2.Ok, (downR p).2.Value, (downR p).2.Case, (downR p).2.Wakes) := by
  unfold total at ht
  unfold taskmillref_Closing downR
  cases hc : p.Closed with
  | true => simp
  | false =>
    simp only [cond_false, Bool.false_eq_true, if_false]
    have l1 : loopO (taskmillref_Closing_l1 p) (0, wakesOf false p.Getters) = some (⟨p.Cap, p.Items, true, [], []⟩, true, false, false, 0, 0, wakesOf false p.Getters ++ wakesOf true p.Senders) := by
      have := loopO_all (step := taskmillref_Closing_l1 p) (fun i => (((i : Nat) : Int), wakesOf false p.Getters ++ wakesOf true (p.Senders.take i))) (some (⟨p.Cap, p.Items, true, [], []⟩, true, false, false, 0, 0, wakesOf false p.Getters ++ wakesOf true p.Senders)) p.Senders.length (fun i hi => ?_) ?_
      · simpa [wakesOf] using this
      · have d1 : decide ((i : Int) < ((p.Senders.length : Nat) : Int)) = true := by simp; omega
        have d2 : decide ((0 : Int) ≤ (i : Int)) = true := by simp
        have hb : (wakesOf false p.Getters ++ wakesOf true (p.Senders.take i) ++ [(⟨p.Senders[i].Task, p.Senders[i].Case, 0, false, true⟩ : GWake)]).length * 32 ≤ 140737488355328 := by
          simp only [List.length_append, wakes_len, List.length_take, List.length_cons, List.length_nil]; omega
        simp only [taskmillref_Closing_l1, d1, d2, Bool.and_self, cond_true, ix_get hi, hb, decide_true]
        rw [wrap_n1 i (by omega), wakes_snoc _ _ _ hi, List.append_assoc]
      · simp [taskmillref_Closing_l1]
    have := loopO_all (step := taskmillref_Closing_l2 p) (fun i => (((i : Nat) : Int), wakesOf false (p.Getters.take i))) (some (⟨p.Cap, p.Items, true, [], []⟩, true, false, false, 0, 0, wakesOf false p.Getters ++ wakesOf true p.Senders)) p.Getters.length (fun i hi => ?_) ?_
    · simpa [wakesOf] using this
    · have d1 : decide ((i : Int) < ((p.Getters.length : Nat) : Int)) = true := by simp; omega
      have d2 : decide ((0 : Int) ≤ (i : Int)) = true := by simp
      have hb : (wakesOf false (p.Getters.take i) ++ [(⟨p.Getters[i].Task, p.Getters[i].Case, 0, false, false⟩ : GWake)]).length * 32 ≤ 140737488355328 := by
        simp only [List.length_append, wakes_len, List.length_take, List.length_cons, List.length_nil]; omega
      simp only [taskmillref_Closing_l2, d1, d2, Bool.and_self, cond_true, ix_get hi, hb, decide_true]
      rw [wrap_n1 i (by omega), wakes_snoc _ _ _ hi]
    · simp only [taskmillref_Closing_l2, List.take_length]
      rw [l1]; simp
theorem down_eq (p : Pipe) (ht : total p ≤ 1000000) : pipe_Down p.Cap p.Closed p.Items p.Senders p.Getters = some ((downR p).2.Done, (downR p).2.Panic, (downR p).2.Ok, (downR p).2.Value, (downR p).2.Case, (downR p).2.Wakes, (downR p).1.Cap, (downR p).1.Closed, (downR p).1.Senders, (downR p).1.Getters, (downR p).1.Items) := by
  unfold total at ht
  unfold pipe_Down downR
  cases hc : p.Closed with
  | true => simp [hc]
  | false =>
    simp only [cond_false, Bool.false_eq_true, if_false]
    have l1 : loopO (pipe_Down_l1 p.Cap false p.Items p.Senders p.Getters) (0, wakesOf false p.Getters) = some (true, false, false, 0, 0, wakesOf false p.Getters ++ wakesOf true p.Senders, p.Cap, true, [], [], p.Items) := by
      have := loopO_all (step := pipe_Down_l1 p.Cap false p.Items p.Senders p.Getters) (fun i => (((i : Nat) : Int), wakesOf false p.Getters ++ wakesOf true (p.Senders.take i))) (some (true, false, false, 0, 0, wakesOf false p.Getters ++ wakesOf true p.Senders, p.Cap, true, [], [], p.Items)) p.Senders.length (fun i hi => ?_) ?_
      · simpa [wakesOf] using this
      · have d1 : decide ((i : Int) < ((p.Senders.length : Nat) : Int)) = true := by simp; omega
        have d2 : decide ((0 : Int) ≤ (i : Int)) = true := by simp
        have hb : (wakesOf false p.Getters ++ wakesOf true (p.Senders.take i) ++ [(⟨p.Senders[i].Task, p.Senders[i].Case, 0, false, true⟩ : GWake)]).length * 32 ≤ 140737488355328 := by
          simp only [List.length_append, wakes_len, List.length_take, List.length_cons, List.length_nil]; omega
        simp only [pipe_Down_l1, d1, d2, Bool.and_self, cond_true, ix_get hi, hb, decide_true]
        rw [wrap_n1 i (by omega), wakes_snoc _ _ _ hi, List.append_assoc]
      · simp [pipe_Down_l1]
    have := loopO_all (step := pipe_Down_l2 p.Cap false p.Items p.Senders p.Getters) (fun i => (((i : Nat) : Int), wakesOf false (p.Getters.take i))) (some (true, false, false, 0, 0, wakesOf false p.Getters ++ wakesOf true p.Senders, p.Cap, true, [], [], p.Items)) p.Getters.length (fun i hi => ?_) ?_
    · simpa [wakesOf] using this
    · have d1 : decide ((i : Int) < ((p.Getters.length : Nat) : Int)) = true := by simp; omega
      have d2 : decide ((0 : Int) ≤ (i : Int)) = true := by simp
      have hb : (wakesOf false (p.Getters.take i) ++ [(⟨p.Getters[i].Task, p.Getters[i].Case, 0, false, false⟩ : GWake)]).length * 32 ≤ 140737488355328 := by
        simp only [List.length_append, wakes_len, List.length_take, List.length_cons, List.length_nil]; omega
      simp only [pipe_Down_l2, d1, d2, Bool.and_self, cond_true, ix_get hi, hb, decide_true]
      rw [wrap_n1 i (by omega), wakes_snoc _ _ _ hi]
    · simp only [pipe_Down_l2, List.take_length]
      rw [l1]; simp
def shutR (p : Pipe) : Pipe × Answer × Fault := if (pipeF p).Code ≠ 0 then (noP, noA, pipeF p) else ((downR p).1, (downR p).2, ⟨0, 0⟩)
theorem shut_eq (p : Pipe) (ht : total p ≤ 1000000) : pipe_Shut p = some ((shutR p).1.Cap, (shutR p).1.Closed, (shutR p).2.1.Done, (shutR p).2.1.Panic, (shutR p).2.1.Ok, (shutR p).2.1.Value, (shutR p).2.1.Case, (shutR p).2.2, (shutR p).1.Items, (shutR p).1.Senders, (shutR p).1.Getters, (shutR p).2.1.Wakes) := by
  unfold pipe_Shut shutR
  rw [check_eq p ht, copy_eq p ht]
  rcases pipeF_ok p with ⟨_, h⟩ | h
  · simp only [h, Option.bind_some, bne_self_eq_false, cond_false, ne_eq, not_true_eq_false, if_false]
    rw [down_eq p ht]
    rfl
  · simp [h, Bool.cond_eq_ite, noP, noA]
theorem down_total (p : Pipe) : total (downR p).1 ≤ total p := by
  unfold downR total
  split
  · exact Nat.le_refl _
  · simp; omega
theorem down_wakes (p : Pipe) : (downR p).2.Wakes.length ≤ total p := by
  unfold downR total
  split
  · simp
  · simp [wakes_len]; omega
theorem shuts (p : Pipe) (task : Int) (hp : Small p) : taskmilllaw_PipeShuts p task = some true := by
  unfold taskmilllaw_PipeShuts
  rw [begun_eq]
  simp only [Option.bind_some, Bool.not_true, cond_false]
  rw [vast_eq p hp]
  simp only [Option.bind_some]
  by_cases hv : 6000 < total p ∨ 800 < p.Senders.length + p.Getters.length
  · simp [hv]
  · have ht : total p ≤ 1000000 := by omega
    have ht' := ht
    unfold total at ht'
    rw [ownPipe_eq p ht]
    simp only [hv, decide_false, cond_false, Option.bind_some, pipe_eta]
    rw [shut_eq p ht, leave_eq p task ht, refPipe_eq p ht, closing_eq p ht, waitsAt_eq p task (by omega) (by omega)]
    simp only [Option.bind_some, pipe_eta, answer_eta, F_eq]
    have h1 : total (shutR p).1 ≤ 1000000 := by
      unfold shutR; split
      · simp [total, noP]
      · have := down_total p; simp only; omega
    have h2 : (shutR p).2.1.Wakes.length ≤ 1000000 := by
      unfold shutR; split
      · simp [noA]
      · have := down_wakes p; simp only; omega
    rw [pipeAs_eq _ _ _ _ _ _ h1 h2]
    have e1 : ((shutR p).2.2 = pipeF p ∧ if (pipeF p).Code ≠ 0 then (shutR p).1 = noP ∧ (shutR p).2.1 = noA else (shutR p).1 = (downR p).1 ∧ (shutR p).2.1 = (downR p).2) := by
      unfold shutR
      rcases pipeF_ok p with ⟨_, h⟩ | h
      · simp [h]
      · simp [h]
    simp only [e1, and_self, decide_true, Option.bind_some, Bool.not_true, cond_false]
    have h3 : total (leaveR p task).1 ≤ 1000000 := by
      unfold leaveR
      split
      · simp [total, noP]
      · split
        · simp [total, noP]
        · have a1 := List.length_filter_le (keep task) p.Senders
          have a2 := List.length_filter_le (keep task) p.Getters
          simp only [total]; omega
    have j1 : ∀ w, w = (leaveR p task).2 → taskmilllaw_PipeShuts_j1 p task (leaveR p task).1.Cap (leaveR p task).1.Closed (leaveR p task).2 w (leaveR p task).1.Items (leaveR p task).1.Senders (leaveR p task).1.Getters = some true := by
      rintro w rfl
      unfold taskmilllaw_PipeShuts_j1
      rw [gone_eq _ _ (by omega)]
      simp only [Option.bind_some]
      rw [gone_eq _ _ (by omega)]
      simp only [Option.bind_some, pipe_eta]
      rw [pipeAs_eq _ _ _ _ _ _ h3 (by decide)]
      simp only [Option.bind_some]
      congr 1
      rw [decide_eq_true_eq]
      refine ⟨by trivial, ?_⟩
      unfold leaveR
      rcases pipeF_ok p with ⟨_, h⟩ | h
      · by_cases hw : task ∈ tasksOf p.Senders ∨ task ∈ tasksOf p.Getters
        · simp [h, hw]
        · simp [h, hw, noA]
      · simp [h, noA]
    unfold taskmilllaw_PipeShuts_j2
    simp only [F_eq, Option.bind_some]
    rcases pipeF_ok p with ⟨_, h⟩ | h
    · by_cases hw : task ∈ tasksOf p.Senders ∨ task ∈ tasksOf p.Getters
      · have := j1 ⟨0, 0⟩ (by simp [leaveR, h, hw])
        simpa [h, hw] using this
      · have := j1 ⟨6, 0⟩ (by simp [leaveR, h, hw])
        simpa [h, hw] using this
    · have h' : ((pipeF p).Code == 0) = false := by simpa using h
      have := j1 (pipeF p) (by simp [leaveR, h])
      simpa [h'] using this
end Go.Proofs.Ytconaimaibephaa
