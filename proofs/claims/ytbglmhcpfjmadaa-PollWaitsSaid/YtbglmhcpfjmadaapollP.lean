/-
  Every Check, Wait and Fire does what the document says to a descriptor: the law PollWaits returns true for every input.
  No conditions.
-/
import Derived.Test.YtbglmhcpfjmadaapollG
set_option linter.unusedSimpArgs false
set_option linter.unusedVariables false
namespace Go.Proofs.Ytbglmhcpfjmadaa
open Go Go.Sx
theorem check_same (d : Desc) : taskmillref_DescFault d = poll_Check d := by
  unfold taskmillref_DescFault poll_Check
  congr 1
def Ok0 (c r : Bool) (t u : Int) : Prop := 0 ≤ t ∧ 0 ≤ u ∧ u ≤ 1000000000 ∧ (c = true → r = false ∧ t ≤ 0 ∧ u ≤ 0) ∧ (r = true → t ≤ 0)
theorem step_0 (d : Desc) : (∃ f, poll_Check_l370 d 0 = some (.inr f) ∧ f.Code ≠ 0) ∨ (poll_Check_l370 d 0 = some (.inl 1) ∧ Ok0 d.Closed d.Ready_e0 d.Task_e0 d.Until_e0) := by
  simp only [poll_Check_l370, poll_Check_j474, poll_Check_j458, poll_fault]
  cases ha : (decide (d.Task_e0 < 0) || (decide (d.Until_e0 < 0) || decide ((1000000000 : Int) < d.Until_e0))) with
  | true => simp [ha]
  | false =>
    cases hb : (bif d.Closed then (d.Ready_e0 || (decide ((0 : Int) < d.Task_e0) || (decide ((0 : Int) < d.Until_e0) || (d.Ready_e0 && decide ((0 : Int) < d.Task_e0))))) else (d.Ready_e0 && decide ((0 : Int) < d.Task_e0))) with
    | true => simp [ha, hb]
    | false =>
      right
      refine ⟨by simp [ha, hb]; rfl, ?_⟩
      simp at ha
      unfold Ok0
      cases hc : d.Closed <;> cases hr : d.Ready_e0 <;> simp [hc, hr] at hb ⊢ <;> omega
theorem step_1 (d : Desc) : (∃ f, poll_Check_l370 d 1 = some (.inr f) ∧ f.Code ≠ 0) ∨ (poll_Check_l370 d 1 = some (.inl 2) ∧ Ok0 d.Closed d.Ready_e1 d.Task_e1 d.Until_e1) := by
  simp only [poll_Check_l370, poll_Check_j474, poll_Check_j458, poll_fault]
  cases ha : (decide (d.Task_e1 < 0) || (decide (d.Until_e1 < 0) || decide ((1000000000 : Int) < d.Until_e1))) with
  | true => simp [ha]
  | false =>
    cases hb : (bif d.Closed then (d.Ready_e1 || (decide ((0 : Int) < d.Task_e1) || (decide ((0 : Int) < d.Until_e1) || (d.Ready_e1 && decide ((0 : Int) < d.Task_e1))))) else (d.Ready_e1 && decide ((0 : Int) < d.Task_e1))) with
    | true => simp [ha, hb]
    | false =>
      right
      refine ⟨by simp [ha, hb]; rfl, ?_⟩
      simp at ha
      unfold Ok0
      cases hc : d.Closed <;> cases hr : d.Ready_e1 <;> simp [hc, hr] at hb ⊢ <;> omega
theorem step_2 (d : Desc) : ∃ f, poll_Check_l370 d 2 = some (.inr f) ∧ (f.Code = 0 → f = ⟨0, 0⟩ ∧ (0 < d.Task_e0 → d.Task_e0 ≠ d.Task_e1)) := by
  simp only [poll_Check_l370, poll_fault]
  cases ha : (decide ((0 : Int) < d.Task_e0) && (d.Task_e0 == d.Task_e1)) with
  | true => simp
  | false => simp at ha ⊢; exact ha
def OkD (d : Desc) : Prop := Ok0 d.Closed d.Ready_e0 d.Task_e0 d.Until_e0 ∧ Ok0 d.Closed d.Ready_e1 d.Task_e1 d.Until_e1 ∧ (0 < d.Task_e0 → d.Task_e0 ≠ d.Task_e1)
theorem check_tot (d : Desc) : ∃ f, poll_Check d = some f ∧ (f.Code = 0 → f = ⟨0, 0⟩ ∧ OkD d) := by
  unfold poll_Check
  rcases step_0 d with ⟨f, h, hc⟩ | ⟨h, h0⟩
  · exact ⟨f, loopO_inr h, fun e => absurd e hc⟩
  · rw [loopO_inl h]
    rcases step_1 d with ⟨f, h, hc⟩ | ⟨h, h1⟩
    · exact ⟨f, loopO_inr h, fun e => absurd e hc⟩
    · rw [loopO_inl h]
      obtain ⟨f, h, h2⟩ := step_2 d
      exact ⟨f, loopO_inr h, fun e => ⟨(h2 e).1, h0, h1, (h2 e).2⟩⟩
theorem check_0 : poll_Check ⟨false, false, false, 0, 0, 0, 0⟩ = some ⟨0, 0⟩ := loopO_of (n := 3) (by rfl)
theorem check_1 : poll_Check ⟨false, false, false, 1, 0, 0, 0⟩ = some ⟨0, 0⟩ := loopO_of (n := 3) (by rfl)
theorem begun : taskmilllaw_pollBegun = some true := by
  simp [taskmilllaw_pollBegun, poll_Wait, poll_Fire, poll_side, check_0, check_1, poll_late, poll_fault, poll_Fire_j861, IntKind.wrap, IntKind.bits, IntKind.signed]
theorem w1 : IntKind.i64.wrap 1 = 1 := by decide
theorem w0 : IntKind.i64.wrap 0 = 0 := by decide
set_option maxHeartbeats 4000000 in
theorem waits_bad (d : Desc) (way task now : Int) (f : Fault) (hf : poll_Check d = some f) (h : f.Code ≠ 0) : taskmilllaw_PollWaits d way task now = some true := by
  simp [taskmilllaw_PollWaits, begun, check_same, hf, h, poll_side, poll_Wait, poll_Wait_j759, poll_Fire, taskmilllaw_PollWaits_j1600, taskmilllaw_PollWaits_j1612, taskmilllaw_PollWaits_j1638, taskmilllaw_PollWaits_j1677, taskmilllaw_PollWaits_j1715, taskmilllaw_wayFault, taskmilllaw_wayFault_j1474, Bool.cond_eq_ite]
set_option maxHeartbeats 4000000 in
theorem waits_0 (d : Desc) (task now : Int) (hf : poll_Check d = some ⟨0, 0⟩) (h : OkD d) : taskmilllaw_PollWaits d 0 task now = some true := by
  obtain ⟨⟨h1, h2, h3, h4, h5⟩, ⟨h6, h7, h8, h9, h10⟩, h11⟩ := h
  simp [taskmilllaw_PollWaits, begun, check_same, hf, poll_side, poll_Wait, poll_Wait_j759, poll_Fire, poll_Fire_j861, poll_Fire_j873, poll_late, poll_fault, taskmilllaw_PollWaits_j1600, taskmilllaw_PollWaits_j1612, taskmilllaw_PollWaits_j1638, taskmilllaw_PollWaits_j1677, taskmilllaw_PollWaits_j1715, taskmilllaw_PollWaits_j1752, taskmilllaw_wayFault, taskmilllaw_wayFault_j1474, taskmilllaw_isLate, taskmillref_F, Bool.cond_eq_ite, w0, w1]
  clear hf
  have ht : d.Task_e0 = 0 ∨ (0 < d.Task_e0 ∧ d.Task_e0 ≠ 0) := by omega
  have hu : d.Until_e0 = 0 ∨ (0 < d.Until_e0 ∧ d.Until_e0 ≠ 0) := by omega
  cases hc : d.Closed with
  | true =>
    have h4 := h4 hc
    have ht : d.Task_e0 = 0 := by omega
    by_cases A : task < 1 ∨ now < 0 ∨ 1000000000 < now
    · simp [A, hc, ht]
    · by_cases C : d.Task_e1 = task <;> simp [A, hc, ht, C]
  | false =>
    rcases ht with ht | ⟨ht, ht2⟩
    · by_cases A : task < 1 ∨ now < 0 ∨ 1000000000 < now
      · simp [A, hc, ht]
      · by_cases C : d.Task_e1 = task
        · simp [A, hc, ht, C]
        · rcases hu with hu | ⟨hu, hu2⟩
          · cases hr : d.Ready_e0 <;> simp [A, ht, C, hc, hu, hr]
          · by_cases D : d.Until_e0 ≤ now
            · simp [A, ht, C, hc, hu, hu2, D]
            · cases hr : d.Ready_e0 <;> simp [A, ht, C, hc, hu, hu2, D, hr]
    · have hr : d.Ready_e0 = false := by
        cases hr : d.Ready_e0 with
        | false => rfl
        | true => have := h5 hr; omega
      by_cases A : task < 1 ∨ now < 0 ∨ 1000000000 < now <;> simp [A, hc, ht, ht2, hr]
set_option maxHeartbeats 4000000 in
theorem waits_1 (d : Desc) (task now : Int) (hf : poll_Check d = some ⟨0, 0⟩) (h : OkD d) : taskmilllaw_PollWaits d 1 task now = some true := by
  obtain ⟨⟨h1, h2, h3, h4, h5⟩, ⟨h6, h7, h8, h9, h10⟩, h11⟩ := h
  simp [taskmilllaw_PollWaits, begun, check_same, hf, poll_side, poll_Wait, poll_Wait_j759, poll_Fire, poll_Fire_j861, poll_Fire_j873, poll_late, poll_fault, taskmilllaw_PollWaits_j1600, taskmilllaw_PollWaits_j1612, taskmilllaw_PollWaits_j1638, taskmilllaw_PollWaits_j1677, taskmilllaw_PollWaits_j1715, taskmilllaw_PollWaits_j1752, taskmilllaw_wayFault, taskmilllaw_wayFault_j1474, taskmilllaw_isLate, taskmillref_F, Bool.cond_eq_ite, w0, w1]
  clear hf
  have ht : d.Task_e1 = 0 ∨ (0 < d.Task_e1 ∧ d.Task_e1 ≠ 0) := by omega
  have hu : d.Until_e1 = 0 ∨ (0 < d.Until_e1 ∧ d.Until_e1 ≠ 0) := by omega
  cases hc : d.Closed with
  | true =>
    have h9 := h9 hc
    have ht : d.Task_e1 = 0 := by omega
    by_cases A : task < 1 ∨ now < 0 ∨ 1000000000 < now
    · simp [A, hc, ht]
    · by_cases C : d.Task_e0 = task <;> simp [A, hc, ht, C]
  | false =>
    rcases ht with ht | ⟨ht, ht2⟩
    · by_cases A : task < 1 ∨ now < 0 ∨ 1000000000 < now
      · simp [A, hc, ht]
      · by_cases C : d.Task_e0 = task
        · simp [A, hc, ht, C]
        · rcases hu with hu | ⟨hu, hu2⟩
          · cases hr : d.Ready_e1 <;> simp [A, ht, C, hc, hu, hr]
          · by_cases D : d.Until_e1 ≤ now
            · simp [A, ht, C, hc, hu, hu2, D]
            · cases hr : d.Ready_e1 <;> simp [A, ht, C, hc, hu, hu2, D, hr]
    · have hr : d.Ready_e1 = false := by
        cases hr : d.Ready_e1 with
        | false => rfl
        | true => have := h10 hr; omega
      by_cases A : task < 1 ∨ now < 0 ∨ 1000000000 < now <;> simp [A, hc, ht, ht2, hr]
theorem wrap_sub (way : Int) (h1 : -9223372036854775808 ≤ way) (h2 : way ≤ 9223372036854775807) (h : way ≠ 0) (h' : way ≠ 1) : IntKind.i64.wrap (1 - way) ≠ 0 ∧ IntKind.i64.wrap (1 - way) ≠ 1 := by
  simp only [IntKind.wrap, IntKind.bits, IntKind.signed, if_true]
  simp
  omega
set_option maxHeartbeats 4000000 in
theorem waits_x (d : Desc) (way task now : Int) (h1 : -9223372036854775808 ≤ way) (h2 : way ≤ 9223372036854775807) (hf : poll_Check d = some ⟨0, 0⟩) (h : way ≠ 0) (h' : way ≠ 1) : taskmilllaw_PollWaits d way task now = some true := by
  obtain ⟨e1, e2⟩ := wrap_sub way h1 h2 h h'
  have hb : way < 0 ∨ 1 < way := by omega
  simp [taskmilllaw_PollWaits, begun, check_same, hf, h, h', hb, e1, e2, poll_side, poll_fault, poll_Wait, poll_Wait_j759, poll_Fire, taskmilllaw_PollWaits_j1600, taskmilllaw_PollWaits_j1612, taskmilllaw_PollWaits_j1638, taskmilllaw_PollWaits_j1677, taskmilllaw_PollWaits_j1715, taskmilllaw_wayFault, taskmilllaw_wayFault_j1474, taskmillref_F, Bool.cond_eq_ite]
theorem waits (d : Desc) (way task now : Int) (h1 : -9223372036854775808 ≤ way) (h2 : way ≤ 9223372036854775807) : taskmilllaw_PollWaits d way task now = some true := by
  obtain ⟨f, hf, h⟩ := check_tot d
  by_cases hc : f.Code = 0
  · obtain ⟨rfl, hd⟩ := h hc
    by_cases e0 : way = 0
    · subst e0; exact waits_0 d task now hf hd
    · by_cases e1 : way = 1
      · subst e1; exact waits_1 d task now hf hd
      · exact waits_x d way task now h1 h2 hf e0 e1
  · exact waits_bad d way task now f hf hc
end Go.Proofs.Ytbglmhcpfjmadaa
