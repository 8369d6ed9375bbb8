/-
  What laws of the chapter lock compute, and lemmas on it.
  No conditions.
-/
import Derived.Test.YthknjjkldflbaaalockP
import Derived.Test.YthknjjkldflbaaaPB
set_option linter.unusedSimpArgs false
set_option linter.unusedVariables false
namespace Go.Proofs.Ythknjjkldflbaaa
open Go Go.Sx
theorem indexW_eq (l : List Want) (t : Int) (h : l.length ≤ 1000000) : slices_IndexFunc_Want l t = some (inLine l t, t) := by
  unfold slices_IndexFunc_Want
  have := loopO_if (step := slices_IndexFunc_Want_l1 l) (fun i => (((i : Nat) : Int), t)) (isTask l t) (fun i => some ((i : Int), t)) (some (-1, t)) l.length (fun i hi hp => ?_) (fun i hi hp => ?_) (fun _ => ?_)
  · rw [show ((0 : Nat) : Int) = 0 from rfl] at this
    rw [this]
    unfold inLine
    cases firstIf (isTask l t) l.length <;> rfl
  · rw [is_at hi] at hp
    simp only [decide_eq_false_iff_not] at hp
    simp [slices_IndexFunc_Want_l1, lock_Drop_1, ix_get hi, hi, hp, wrap_n1 i (by omega), Bool.cond_eq_ite]
  · rw [is_at hi] at hp
    simp only [decide_eq_true_eq] at hp
    simp [slices_IndexFunc_Want_l1, lock_Drop_1, ix_get hi, hi, hp]
  · simp [slices_IndexFunc_Want_l1]
theorem deleteW_eq (l : List Want) (i : Nat) (h : i < l.length) : slices_Delete_Want_1 (i : Int) ((i + 1 : Nat) : Int) l = some (delAt l i (i + 1)) := by
  unfold slices_Delete_Want_1
  have h1 : ((decide ((0 : Int) ≤ ((i : Nat) : Int)) && decide (((i : Nat) : Int) ≤ ((i + 1 : Nat) : Int))) && decide (((i + 1 : Nat) : Int) ≤ ((l.length : Nat) : Int))) = true := by simp; omega
  have h2 : (((i : Nat) : Int) == ((i + 1 : Nat) : Int)) = false := by simp; omega
  have h3 : (decide ((0 : Int) ≤ ((i : Nat) : Int)) && decide (((i : Nat) : Int) ≤ ((l.length : Nat) : Int))) = true := by simp; omega
  have h4 : (decide ((0 : Int) ≤ ((i + 1 : Nat) : Int)) && decide (((i + 1 : Nat) : Int) ≤ ((l.length : Nat) : Int))) = true := by simp; omega
  rw [h1, h2, h3, h4]
  simp only [cond_true, cond_false]
  rw [del_lists l i (i + 1) (by omega) (by omega) _ (by rw [cut_take, cut_drop]; simp; omega)]
theorem inLine_at (l : List Want) (t : Int) : (∃ i, i < l.length ∧ inLine l t = (i : Int)) ∨ inLine l t = -1 := by
  unfold inLine
  cases hf : firstIf (isTask l t) l.length with
  | some i => exact .inl ⟨i, (firstIf_some hf).1, rfl⟩
  | none => exact .inr rfl
/-- Who drops out. -/
def dropR (l : Lock) (t : Int) : Lock × Fault × List Int :=
  if (lockF l).Code ≠ 0 then (⟨0, false, []⟩, lockF l, [])
  else if inLine l.Line t < 0 then (⟨0, false, []⟩, ⟨6, 0⟩, [])
  else
    let G := admR l.Readers l.Writer (delAt l.Line (inLine l.Line t).toNat ((inLine l.Line t).toNat + 1))
    (⟨G.2.1, G.2.2.1, G.2.2.2⟩, ⟨0, 0⟩, G.1)
theorem drop_eq (l : Lock) (t : Int) : lock_Drop l t = some ((dropR l t).1.Readers, (dropR l t).1.Writer, (dropR l t).2.1, (dropR l t).1.Line, (dropR l t).2.2) := by
  unfold lock_Drop dropR
  rw [check_eq]
  rcases lockF_ok l with ⟨ok, h⟩ | h
  · have h1 := ok.len
    have h2 := ok.lo
    have h3 := ok.hi
    rw [h, indexW_eq _ _ (by omega), copied_eq l (by omega)]
    simp only [Option.bind_some, fault_eq]
    rcases inLine_at l.Line t with ⟨i, hi, e⟩ | e
    · have e0 : ¬ ((i : Int) < 0) := by omega
      rw [e]
      simp only [e0, decide_false, cond_false, if_false]
      rw [wrap_n1 i (by omega), deleteW_eq _ _ hi]
      simp only [Option.bind_some]
      rw [admit_eq _ _ _ h2 h3 (by rw [delAt_len _ _ _ (by omega) (by omega)]; omega)]
      simp
    · rw [e]; simp
  · simp [h, Bool.cond_eq_ite]
theorem leaves (l : Lock) (task : Int) (write : Bool) : taskmilllaw_LockLeaves l task write = some true := by
  unfold taskmilllaw_LockLeaves
  rw [begun_eq]
  simp only [Option.bind_some, Bool.not_true, cond_false]
  by_cases h0 : (700 : Int) < ((l.Line.length : Nat) : Int)
  · simp [h0]
  · have hl : l.Line.length ≤ 700 := by omega
    rw [ownLock_eq _ (by omega)]
    simp only [h0, decide_false, cond_false, Option.bind_some, lock_eta, leave_eq, drop_eq, refLock_eq]
    have j3 : ∀ c4 c5 i1 w, i1 = inLine l.Line task → w = (dropR l task).2.1 → c4 = (dropR l task).2.2 → c5 = (dropR l task).2.1 →
        taskmilllaw_LockLeaves_j3 l (dropR l task).1.Readers (dropR l task).1.Writer c4 c5 (dropR l task).1.Line i1 w = some true := by
      rintro _ _ _ _ rfl rfl rfl rfl
      unfold taskmilllaw_LockLeaves_j3
      simp only [beq_self_eq_true, Bool.and_self, Bool.not_true, cond_false]
      unfold dropR
      rcases lockF_ok l with ⟨ok, h⟩ | h
      · have h1 := ok.len
        have h2 := ok.lo
        have h3 := ok.hi
        simp only [h, ne_eq, not_true_eq_false, if_false]
        rcases inLine_at l.Line task with ⟨i, hi, e⟩ | e
        · rw [e]
          have e0 : ¬ ((i : Int) < 0) := by omega
          have e1 : (decide ((0 : Int) ≤ ((i : Nat) : Int)) && decide (((i : Nat) : Int) ≤ ((l.Line.length : Nat) : Int))) = true := by simp; omega
          have e2 : (decide ((0 : Int) ≤ ((i + 1 : Nat) : Int)) && decide (((i + 1 : Nat) : Int) ≤ ((l.Line.length : Nat) : Int))) = true := by simp; omega
          rw [wrap_n1 i (by omega), cut_take, cut_drop, ownW_eq _ (by simp; omega)]
          simp only [e0, if_false, e1, e2, cond_true, Option.bind_some, bne_self_eq_false, cond_false, Int.toNat_natCast]
          have hd : l.Line.take i ++ l.Line.drop (i + 1) = delAt l.Line i (i + 1) := rfl
          have hdl := delAt_len l.Line i (i + 1) (by omega) (by omega)
          have hb : (delAt l.Line i (i + 1)).length * 24 ≤ 140737488355328 := by omega
          simp only [hd, hb, decide_true, cond_true]
          rw [admitted1_eq _ _ _ h2 h3 (by omega)]
          have hlen := admR_len (delAt l.Line i (i + 1)) l.Readers l.Writer
          simp only [Option.bind_some]
          rw [sameLock_mk _ _ _ _ _ _ (by omega)]
          simp only [and_self, decide_true, Option.bind_some, cond_true]
          rw [ints_eq _ _ (by omega)]
          simp [taskmilllaw_LockLeaves_j2]
        · rw [e]
          simp [noLock_eq _ _ [] (by simp), taskmilllaw_LockLeaves_j1]
      · simp [h, noLock_eq _ _ [] (by simp), taskmilllaw_LockLeaves_j1, Bool.cond_eq_ite]
    have j4 : ∀ c4 c5, c4 = (dropR l task).2.2 → c5 = (dropR l task).2.1 → taskmilllaw_LockLeaves_j4 l task (dropR l task).1.Readers (dropR l task).1.Writer c4 c5 (lockF l) (dropR l task).1.Line = some true := by
      rintro _ _ rfl rfl
      unfold taskmilllaw_LockLeaves_j4
      rw [inLine_eq _ _ (by omega)]
      simp only [Option.bind_some, F_eq]
      rcases lockF_ok l with ⟨ok, h⟩ | h
      · by_cases hi : inLine l.Line task < 0
        · have e : (dropR l task).2.1 = ⟨6, 0⟩ := by simp [dropR, h, hi]
          have := j3 _ _ _ ⟨6, 0⟩ rfl e.symm rfl rfl
          simp only [h, hi, beq_self_eq_true, decide_true, Bool.and_self, cond_true]
          exact this
        · have e : (dropR l task).2.1 = ⟨0, 0⟩ := by simp [dropR, h, hi]
          have := j3 _ _ _ ⟨0, 0⟩ rfl e.symm rfl rfl
          simp only [h, hi, decide_false, Bool.and_false, cond_false]
          exact this
      · have e : (dropR l task).2.1 = lockF l := by simp [dropR, h]
        have h' : ((lockF l).Code == 0) = false := by simpa using h
        have := j3 _ _ _ (lockF l) rfl e.symm rfl rfl
        simp only [h', Bool.false_and, cond_false]
        exact this
    have j8 : ∀ p, p = (leaveR l write).2.1 → taskmilllaw_LockLeaves_j8 l task write p false (leaveR l write).1.Readers (leaveR l write).1.Writer (leaveR l write).2.2.2 (dropR l task).1.Readers (dropR l task).1.Writer (dropR l task).2.2 (dropR l task).2.1 (lockF l) (leaveR l write).1.Line (dropR l task).1.Line = some true := by
      rintro _ rfl
      unfold taskmilllaw_LockLeaves_j8
      simp only [cond_false]
      rcases lockF_ok l with ⟨ok, h⟩ | h
      · have h1 := ok.len
        have h2 := ok.lo
        have h3 := ok.hi
        simp only [h, beq_self_eq_true, cond_true]
        have fin : ∀ (k : Lock) (who : List Int), (leaveR l write).1 = k → (leaveR l write).2.2.2 = who → k.Line.length ≤ 100000 → who.length ≤ 100000 → (leaveR l write).2.1 = (bif write then ((!l.Writer) || ((!write) && (l.Readers == 0))) else ((!write) && (l.Readers == 0))) →
            taskmilllaw_LockLeaves_j6 l task write (leaveR l write).2.1 (leaveR l write).1.Readers (leaveR l write).1.Writer (leaveR l write).2.2.2 (dropR l task).1.Readers (dropR l task).1.Writer (dropR l task).2.2 (dropR l task).2.1 ⟨0, 0⟩ (leaveR l write).1.Line (dropR l task).1.Line k who = some true := by
          rintro k who rfl rfl b1 b2 hp
          unfold taskmilllaw_LockLeaves_j6
          have j4' := j4 _ _ rfl rfl
          rw [h] at j4'
          rw [← hp]
          simp only [bne_self_eq_false, cond_false, lock_eta]
          rw [sameLock_self _ (by omega)]
          simp only [Option.bind_some, Bool.not_true, cond_false]
          rw [ints_eq _ _ (by omega)]
          simp only [decide_true, Option.bind_some, Bool.not_true]
          unfold taskmilllaw_LockLeaves_j5
          simp only [cond_false]
          exact j4'
        have go : ∀ (r : Int) (w : Bool), 0 ≤ r → r ≤ 1000000000 → (leaveR l write) = (⟨(admR r w l.Line).2.1, (admR r w l.Line).2.2.1, (admR r w l.Line).2.2.2⟩, false, ⟨0, 0⟩, (admR r w l.Line).1) → (bif write then ((!l.Writer) || ((!write) && (l.Readers == 0))) else ((!write) && (l.Readers == 0))) = false →
            taskmilllaw_LockLeaves_j7 l task write (leaveR l write).2.1 (leaveR l write).1.Readers (leaveR l write).1.Writer (leaveR l write).2.2.2 (dropR l task).1.Readers (dropR l task).1.Writer (dropR l task).2.2 (dropR l task).2.1 ⟨0, 0⟩ (leaveR l write).1.Line (dropR l task).1.Line ⟨r, w, l.Line⟩ = some true := by
          intro r w hr1 hr2 he hc
          unfold taskmilllaw_LockLeaves_j7
          rw [admitted_eq _ hr1 hr2 (by show l.Line.length ≤ _; omega)]
          have hlen := admR_len l.Line r w
          exact fin _ _ (by rw [he]) (by rw [he]) (by show (admR r w l.Line).2.2.2.length ≤ _; omega) (by show (admR r w l.Line).1.length ≤ _; omega) (by rw [he, hc])
        cases write with
        | true =>
          cases hw : l.Writer with
          | true =>
            have := go l.Readers false h2 h3 (by simp [leaveR, h, hw]) (by simp [hw])
            simpa [hw] using this
          | false =>
            have := fin l [] (by simp [leaveR, h, hw]) (by simp [leaveR, h, hw]) (by omega) (by simp) (by simp [leaveR, h, hw])
            simpa [hw] using this
        | false =>
          by_cases hr : l.Readers = 0
          · have hr' : (l.Readers == 0) = true := by simpa using hr
            have := fin l [] (by simp [leaveR, h, hr]) (by simp [leaveR, h, hr]) (by omega) (by simp) (by simp [leaveR, h, hr])
            simpa [hr'] using this
          · have hr' : (l.Readers == 0) = false := by simpa using hr
            have := go (l.Readers - 1) l.Writer (by omega) (by omega) (by simp [leaveR, h, hr]) (by simp [hr'])
            simp only [hr', cond_false, Bool.and_false, Bool.not_false, cond_true]
            rw [wrap_id (by omega) (by omega)]
            exact this
      · have h' : ((lockF l).Code == 0) = false := by simpa using h
        simp only [h', cond_false]
        exact j4 _ _ rfl rfl
    rcases lockF_ok l with ⟨ok, h⟩ | h
    · have e : (leaveR l write).2.2.1 = lockF l := by
        simp only [leaveR, h, ne_eq, not_true_eq_false, if_false]
        split <;> rfl
      rw [e]
      have := j8 _ rfl
      simp only [h, beq_self_eq_true, Bool.and_self, Bool.not_true, cond_false, bne_self_eq_false] at this ⊢
      exact this
    · have e : leaveR l write = (⟨0, false, []⟩, false, lockF l, []) := by simp [leaveR, h]
      have h' : ((lockF l).Code != 0) = true := by simpa using h
      have := j8 _ rfl
      rw [e] at this ⊢
      simp only [beq_self_eq_true, Bool.and_self, Bool.not_true, cond_false, h', cond_true, noLock_eq _ _ [] (by simp)]
      simpa using this
end Go.Proofs.Ythknjjkldflbaaa
