/-
  What laws of the chapter poll compute, and lemmas on it.
  No conditions.
-/
import Derived.Test.YtbglmhcpfjmadaapollG
import Derived.Test.YtbglmhcpfjmadaaPB
set_option linter.unusedSimpArgs false
set_option linter.unusedVariables false
namespace Go.Proofs.Ytbglmhcpfjmadaa
open Go Go.Sx
@[simp] theorem F_eq (c a : Int) : taskmillref_F c a = some ⟨c, a⟩ := rfl
@[simp] theorem fault_eq (c a : Int) : poll_fault c a = some ⟨c, a⟩ := rfl
theorem ints_eq (a b : List Int) (hn : a.length < 4611686018427387904) : taskmillref_Ints a b = some (decide (a = b)) := by
  unfold taskmillref_Ints
  by_cases hl : a.length = b.length
  · have := ints_gen a b hl hn (fun i => rfl : ∀ i, taskmillref_Ints_l1 a b i = _)
    simp [hl] at this ⊢
    exact this
  · have : a ≠ b := fun e => hl (by rw [e])
    have h2 : ((a.length : Int) != (b.length : Int)) = true := by simp; omega
    simp [h2, this]
theorem w1 : IntKind.i64.wrap 1 = 1 := by decide
theorem w2 : IntKind.i64.wrap 2 = 2 := by decide
def b3 (t u : Int) : Bool := decide (t < 0) || (decide (u < 0) || decide ((1000000000 : Int) < u))
def b5 (c r : Bool) (t u : Int) : Bool := bif c then (r || (decide ((0 : Int) < t) || (decide ((0 : Int) < u) || (r && decide ((0 : Int) < t))))) else (r && decide ((0 : Int) < t))
def checkF (d : Desc) : Fault := bif b3 d.Task_e0 d.Until_e0 then ⟨3, 0⟩ else bif b5 d.Closed d.Ready_e0 d.Task_e0 d.Until_e0 then ⟨5, 0⟩ else bif b3 d.Task_e1 d.Until_e1 then ⟨3, 1⟩ else bif b5 d.Closed d.Ready_e1 d.Task_e1 d.Until_e1 then ⟨5, 1⟩ else
  bif decide ((0 : Int) < d.Task_e0) && (d.Task_e0 == d.Task_e1) then ⟨10, 1⟩ else ⟨0, 0⟩
theorem check_eq (d : Desc) : poll_Check d = some (checkF d) := by
  unfold poll_Check checkF
  rw [loopO_eq]
  have e0 : poll_Check_l1 d 0 = bif b3 d.Task_e0 d.Until_e0 then some (.inr ⟨3, 0⟩) else bif b5 d.Closed d.Ready_e0 d.Task_e0 d.Until_e0 then some (.inr ⟨5, 0⟩) else some (.inl 1) := by
    simp [poll_Check_l1, poll_Check_j2, poll_Check_j1, b3, b5, w1]
  have e1 : poll_Check_l1 d 1 = bif b3 d.Task_e1 d.Until_e1 then some (.inr ⟨3, 1⟩) else bif b5 d.Closed d.Ready_e1 d.Task_e1 d.Until_e1 then some (.inr ⟨5, 1⟩) else some (.inl 2) := by
    simp [poll_Check_l1, poll_Check_j2, poll_Check_j1, b3, b5, w2]
  have e2 : poll_Check_l1 d 2 = some (.inr (bif decide ((0 : Int) < d.Task_e0) && (d.Task_e0 == d.Task_e1) then ⟨10, 1⟩ else ⟨0, 0⟩)) := by
    simp only [poll_Check_l1]
    cases decide ((0 : Int) < d.Task_e0) && (d.Task_e0 == d.Task_e1) <;> rfl
  rw [e0]
  cases b3 d.Task_e0 d.Until_e0
  · cases b5 d.Closed d.Ready_e0 d.Task_e0 d.Until_e0
    · simp only [cond_false, Option.bind_some]
      rw [loopO_eq, e1]
      cases b3 d.Task_e1 d.Until_e1
      · cases b5 d.Closed d.Ready_e1 d.Task_e1 d.Until_e1
        · simp only [cond_false, Option.bind_some]
          rw [loopO_inr e2]
        · rfl
      · rfl
    · rfl
  · rfl
theorem ref_eq (d : Desc) : taskmillref_DescFault d = some (checkF d) := by
  unfold taskmillref_DescFault checkF
  rw [loopO_eq]
  have e0 : taskmillref_DescFault_l1 d 0 = bif b3 d.Task_e0 d.Until_e0 then some (.inr ⟨3, 0⟩) else bif b5 d.Closed d.Ready_e0 d.Task_e0 d.Until_e0 then some (.inr ⟨5, 0⟩) else some (.inl 1) := by
    simp [taskmillref_DescFault_l1, taskmillref_DescFault_j2, taskmillref_DescFault_j1, b3, b5, w1]
  have e1 : taskmillref_DescFault_l1 d 1 = bif b3 d.Task_e1 d.Until_e1 then some (.inr ⟨3, 1⟩) else bif b5 d.Closed d.Ready_e1 d.Task_e1 d.Until_e1 then some (.inr ⟨5, 1⟩) else some (.inl 2) := by
    simp [taskmillref_DescFault_l1, taskmillref_DescFault_j2, taskmillref_DescFault_j1, b3, b5, w2]
  have e2 : taskmillref_DescFault_l1 d 2 = some (.inr (bif decide ((0 : Int) < d.Task_e0) && (d.Task_e0 == d.Task_e1) then ⟨10, 1⟩ else ⟨0, 0⟩)) := by
    simp only [taskmillref_DescFault_l1]
    cases decide ((0 : Int) < d.Task_e0) && (d.Task_e0 == d.Task_e1) <;> rfl
  rw [e0]
  cases b3 d.Task_e0 d.Until_e0
  · cases b5 d.Closed d.Ready_e0 d.Task_e0 d.Until_e0
    · simp only [cond_false, Option.bind_some]
      rw [loopO_eq, e1]
      cases b3 d.Task_e1 d.Until_e1
      · cases b5 d.Closed d.Ready_e1 d.Task_e1 d.Until_e1
        · simp only [cond_false, Option.bind_some]
          rw [loopO_inr e2]
        · rfl
      · rfl
    · rfl
  · rfl
structure OkD (d : Desc) : Prop where
  t0 : 0 ≤ d.Task_e0
  t1 : 0 ≤ d.Task_e1
  u0 : 0 ≤ d.Until_e0 ∧ d.Until_e0 ≤ 1000000000
  u1 : 0 ≤ d.Until_e1 ∧ d.Until_e1 ≤ 1000000000
  c0 : d.Closed = true → d.Ready_e0 = false ∧ d.Task_e0 = 0 ∧ d.Until_e0 = 0
  c1 : d.Closed = true → d.Ready_e1 = false ∧ d.Task_e1 = 0 ∧ d.Until_e1 = 0
  r0 : d.Ready_e0 = true → d.Task_e0 = 0
  r1 : d.Ready_e1 = true → d.Task_e1 = 0
  ne : 0 < d.Task_e0 → d.Task_e0 ≠ d.Task_e1
theorem check_ok (d : Desc) : OkD d ∧ checkF d = ⟨0, 0⟩ ∨ (checkF d).Code ≠ 0 ∧ ¬ OkD d := by
  unfold checkF
  cases h1 : b3 d.Task_e0 d.Until_e0 with
  | true => exact .inr ⟨by simp, fun ok => by have := ok.t0; have := ok.u0; simp [b3] at h1; omega⟩
  | false =>
    cases h2 : b5 d.Closed d.Ready_e0 d.Task_e0 d.Until_e0 with
    | true => exact .inr ⟨by simp, fun ok => by
        have := ok.c0; have := ok.r0
        cases hc : d.Closed <;> cases hr : d.Ready_e0 <;> simp_all [b5]⟩
    | false =>
      cases h3 : b3 d.Task_e1 d.Until_e1 with
      | true => exact .inr ⟨by simp, fun ok => by have := ok.t1; have := ok.u1; simp [b3] at h3; omega⟩
      | false =>
        cases h4 : b5 d.Closed d.Ready_e1 d.Task_e1 d.Until_e1 with
        | true => exact .inr ⟨by simp, fun ok => by
            have := ok.c1; have := ok.r1
            cases hc : d.Closed <;> cases hr : d.Ready_e1 <;> simp_all [b5]⟩
        | false =>
          cases h5 : decide ((0 : Int) < d.Task_e0) && (d.Task_e0 == d.Task_e1) with
          | true => exact .inr ⟨by simp, fun ok => by have := ok.ne; simp at h5; exact this h5.1 h5.2⟩
          | false =>
            refine .inl ⟨?_, by simp⟩
            simp only [b3, Bool.or_eq_false_iff, decide_eq_false_iff_not] at h1 h3
            refine ⟨by omega, by omega, by omega, by omega, fun hc => ?_, fun hc => ?_, fun hr => ?_, fun hr => ?_, fun ht he => ?_⟩
            · simp [b5, hc] at h2
              exact ⟨h2.1, by omega, by omega⟩
            · simp [b5, hc] at h4
              exact ⟨h4.1, by omega, by omega⟩
            · cases hc : d.Closed <;> simp [b5, hc, hr] at h2; omega
            · cases hc : d.Closed <;> simp [b5, hc, hr] at h4; omega
            · simp [ht, he] at h5; omega
/-! ### Late -/
def lt (u now : Int) : Bool := decide ((0 : Int) < u) && decide (u ≤ now)
theorem late0 (d : Desc) (now : Int) : poll_late d 0 now = some (lt d.Until_e0 now) := rfl
theorem late1 (d : Desc) (now : Int) : poll_late d 1 now = some (lt d.Until_e1 now) := rfl
theorem isLate0 {d : Desc} (h : 0 ≤ d.Until_e0) (now : Int) : taskmilllaw_isLate d 0 now = some (lt d.Until_e0 now) := by
  have : (d.Until_e0 != 0) = decide ((0 : Int) < d.Until_e0) := by rw [Bool.eq_iff_iff]; simp; omega
  simp [taskmilllaw_isLate, lt, this]
theorem isLate1 {d : Desc} (h : 0 ≤ d.Until_e1) (now : Int) : taskmilllaw_isLate d 1 now = some (lt d.Until_e1 now) := by
  have : (d.Until_e1 != 0) = decide ((0 : Int) < d.Until_e1) := by rw [Bool.eq_iff_iff]; simp; omega
  simp [taskmilllaw_isLate, lt, this]
def out0 (d : Desc) (now : Int) : Bool := decide ((0 : Int) < d.Task_e0) && lt d.Until_e0 now
def out1 (d : Desc) (now : Int) : Bool := decide ((0 : Int) < d.Task_e1) && lt d.Until_e1 now
theorem pop0 {d : Desc} (h : 0 ≤ d.Task_e0) (now : Int) : poll_pop 0 now d = some (bif out0 d now then (d.Task_e0, { d with Task_e0 := 0 }) else (0, d)) := by
  unfold poll_pop poll_pop_j2 out0
  rw [late0]
  by_cases ht : d.Task_e0 = 0
  · simp [ht]
  · have h1 : (d.Task_e0 == 0) = false := by simpa using ht
    have h2 : decide ((0 : Int) < d.Task_e0) = true := by simp; omega
    cases hl : lt d.Until_e0 now <;> simp [h1, h2]
theorem pop1 {d : Desc} (h : 0 ≤ d.Task_e1) (now : Int) : poll_pop 1 now d = some (bif out1 d now then (d.Task_e1, { d with Task_e1 := 0 }) else (0, d)) := by
  unfold poll_pop poll_pop_j1 out1
  rw [late1]
  by_cases ht : d.Task_e1 = 0
  · simp [ht]
  · have h1 : (d.Task_e1 == 0) = false := by simpa using ht
    have h2 : decide ((0 : Int) < d.Task_e1) = true := by simp; omega
    cases hl : lt d.Until_e1 now <;> simp [h1, h2]
def no : Desc := ⟨false, false, false, 0, 0, 0, 0⟩
def who (b0 b1 : Bool) (t0 t1 : Int) : List Int := (bif b0 then [t0] else []) ++ (bif b1 then [t1] else [])
def tk (d : Desc) (now : Int) : Desc := { d with Task_e0 := bif out0 d now then 0 else d.Task_e0, Task_e1 := bif out1 d now then 0 else d.Task_e1 }
def nowBad (now : Int) : Bool := decide (now < 0) || decide ((1000000000 : Int) < now)
def tickR (d : Desc) (now : Int) : Desc × Fault × List Int := if (checkF d).Code ≠ 0 then (no, checkF d, []) else if nowBad now = true then (no, ⟨3, -1⟩, []) else (tk d now, ⟨0, 0⟩, who (out0 d now) (out1 d now) d.Task_e0 d.Task_e1)
theorem tick_eq (d : Desc) (now : Int) : poll_Tick d now = some (tickR d now) := by
  unfold poll_Tick tickR
  rw [check_eq]
  rcases check_ok d with ⟨ok, h⟩ | ⟨h, _⟩
  · have hn : (decide (now < 0) || decide ((1000000000 : Int) < now)) = nowBad now := rfl
    simp only [h, hn, Option.bind_some, bne_self_eq_false, cond_false, ne_eq, not_true_eq_false, if_false]
    cases hb : nowBad now with
    | true => simp [no]
    | false =>
      simp only [cond_false, Bool.false_eq_true, if_false]
      have s0 : poll_Tick_l1 now (0, d, []) = some (.inl (1, (bif out0 d now then { d with Task_e0 := 0 } else d), bif out0 d now then [d.Task_e0] else [])) := by
        simp only [poll_Tick_l1]
        rw [pop0 ok.t0]
        cases ho : out0 d now with
        | true =>
          have : (0 : Int) < d.Task_e0 := by simp [out0] at ho; exact ho.1
          simp [poll_Tick_j1, this, w1]
        | false => simp [poll_Tick_j1, w1]
      have s1 : ∀ e l, e.Task_e1 = d.Task_e1 → e.Until_e1 = d.Until_e1 → l.length ≤ 100 → poll_Tick_l1 now (1, e, l) = some (.inl (2, (bif out1 d now then { e with Task_e1 := 0 } else e), l ++ (bif out1 d now then [d.Task_e1] else []))) := by
        intro e l he1 he2 hl
        simp only [poll_Tick_l1]
        have ho' : out1 e now = out1 d now := by unfold out1; rw [he1, he2]
        rw [pop1 (by rw [he1]; exact ok.t1), ho', he1]
        cases ho : out1 d now with
        | true =>
          have : (0 : Int) < d.Task_e1 := by simp [out1] at ho; exact ho.1
          have h2 : (l.length + 1) * 8 ≤ 140737488355328 := by omega
          simp [poll_Tick_j1, this, w2, h2]
        | false => simp [poll_Tick_j1, w2]
      rw [loopO_inl s0, loopO_inl (s1 _ _ (by cases out0 d now <;> rfl) (by cases out0 d now <;> rfl) (by cases out0 d now <;> simp))]
      refine loopO_inr ?_
      simp only [poll_Tick_l1, tk, who]
      cases out0 d now <;> cases out1 d now <;> rfl
  · simp [h, no, Bool.cond_eq_ite]
def closeR (d : Desc) : Desc × Bool × Fault × List Int := if (checkF d).Code ≠ 0 then (no, false, checkF d, []) else if d.Closed = true then (d, true, ⟨0, 0⟩, []) else (⟨true, false, false, 0, 0, 0, 0⟩, false, ⟨0, 0⟩, who (decide (0 < d.Task_e0)) (decide (0 < d.Task_e1)) d.Task_e0 d.Task_e1)
theorem close_eq (d : Desc) : poll_Close d = some (closeR d) := by
  unfold poll_Close closeR
  rw [check_eq]
  rcases check_ok d with ⟨ok, h⟩ | ⟨h, _⟩
  · simp only [h, Option.bind_some, bne_self_eq_false, cond_false, ne_eq, not_true_eq_false, if_false]
    cases hc : d.Closed with
    | true => simp
    | false =>
      simp only [cond_false, Bool.false_eq_true, if_false]
      have s0 : poll_Close_l1 d (0, []) = some (.inl (1, bif decide (0 < d.Task_e0) then [d.Task_e0] else [])) := by
        simp only [poll_Close_l1]
        cases decide (0 < d.Task_e0) <;> simp [poll_Close_j1, w1]
      have s1 : ∀ l, l.length ≤ 100 → poll_Close_l1 d (1, l) = some (.inl (2, l ++ bif decide (0 < d.Task_e1) then [d.Task_e1] else [])) := by
        intro l hl
        have h2 : (l.length + 1) * 8 ≤ 140737488355328 := by omega
        simp only [poll_Close_l1]
        cases decide (0 < d.Task_e1) <;> simp [poll_Close_j1, w2, h2]
      rw [loopO_inl s0, loopO_inl (s1 _ (by cases decide (0 < d.Task_e0) <;> simp))]
      refine loopO_inr ?_
      simp only [poll_Close_l1, who]
      cases decide (0 < d.Task_e0) <;> cases decide (0 < d.Task_e1) <;> rfl
  · simp [h, no, Bool.cond_eq_ite]
theorem ints_self (l : List Int) (h : l.length ≤ 100) : taskmillref_Ints l l = some true := by rw [ints_eq _ _ (by omega)]; simp
theorem who_len (b0 b1 : Bool) (t0 t1 : Int) : (who b0 b1 t0 t1).length ≤ 2 := by cases b0 <;> cases b1 <;> simp [who]
theorem j3_ok (d : Desc) : taskmilllaw_PollTimes_j3 d (closeR d).2.1 (closeR d).1 (closeR d).2.2.2 (checkF d) = some true := by
  unfold taskmilllaw_PollTimes_j3 closeR
  rcases check_ok d with ⟨ok, h⟩ | ⟨h, _⟩
  · simp only [h, bne_self_eq_false, cond_false, ne_eq, not_true_eq_false, if_false]
    cases hc : d.Closed with
    | true => simp [hc]
    | false =>
      simp only [cond_false, Bool.false_eq_true, if_false]
      have s0 : ∀ p c6 c7, taskmilllaw_PollTimes_l1 d p c6 c7 (0, []) = some (.inl (1, bif decide (0 < d.Task_e0) then [d.Task_e0] else [])) := by
        intro p c6 c7
        simp only [taskmilllaw_PollTimes_l1]
        cases decide (0 < d.Task_e0) <;> simp [taskmilllaw_PollTimes_j1, w1]
      have s1 : ∀ p c6 c7 l, l.length ≤ 100 → taskmilllaw_PollTimes_l1 d p c6 c7 (1, l) = some (.inl (2, l ++ bif decide (0 < d.Task_e1) then [d.Task_e1] else [])) := by
        intro p c6 c7 l hl
        have h2 : (l.length + 1) * 8 ≤ 140737488355328 := by omega
        simp only [taskmilllaw_PollTimes_l1]
        cases decide (0 < d.Task_e1) <;> simp [taskmilllaw_PollTimes_j1, w2, h2]
      rw [loopO_inl (s0 _ _ _), loopO_inl (s1 _ _ _ _ (by cases decide (0 < d.Task_e0) <;> simp))]
      refine loopO_inr ?_
      have hw : (bif decide (0 < d.Task_e0) then [d.Task_e0] else []) ++ (bif decide (0 < d.Task_e1) then [d.Task_e1] else []) = who (decide (0 < d.Task_e0)) (decide (0 < d.Task_e1)) d.Task_e0 d.Task_e1 := rfl
      simp only [taskmilllaw_PollTimes_l1, hw]
      rw [ints_self _ (by have := who_len (decide (0 < d.Task_e0)) (decide (0 < d.Task_e1)) d.Task_e0 d.Task_e1; omega)]
      simp [taskmilllaw_PollTimes_j2]
  · have h' : ((checkF d).Code != 0) = true := by simpa using h
    simp [h, h', no]
theorem j9_ok (d : Desc) (now : Int) (x : Fault) : taskmilllaw_PollTimes_j9 d now (closeR d).2.1 (tickR d now).1 (tickR d now).2.2 (tickR d now).2.1 (closeR d).1 (closeR d).2.2.2 (closeR d).2.2.1 x = some true := by
  unfold taskmilllaw_PollTimes_j9
  rw [ref_eq]
  simp only [Option.bind_some, F_eq]
  have hcl : (closeR d).2.2.1 = checkF d := by
    unfold closeR
    rcases check_ok d with ⟨ok, h⟩ | ⟨h, _⟩
    · simp only [h, ne_eq, not_true_eq_false, if_false]; split <;> rfl
    · simp [h]
  have j3 := j3_ok d
  have j8 : ∀ w, w = (tickR d now).2.1 → (w.Code = 0 → OkD d) → (w.Code = 0 → nowBad now = false) → taskmilllaw_PollTimes_j8 d now (closeR d).2.1 (tickR d now).1 (tickR d now).2.2 (tickR d now).2.1 (closeR d).1 (closeR d).2.2.2 (closeR d).2.2.1 (checkF d) w = some true := by
    rintro w rfl hok hnb
    unfold taskmilllaw_PollTimes_j8
    rw [hcl]
    simp only [beq_self_eq_true, Bool.and_self, Bool.not_true, Bool.or_self, cond_false]
    by_cases hw : (tickR d now).2.1.Code = 0
    · have ok := hok hw
      have hb := hnb hw
      have hc : checkF d = ⟨0, 0⟩ := by
        rcases check_ok d with ⟨_, h⟩ | ⟨_, h⟩
        · exact h
        · exact absurd ok h
      have ht : tickR d now = (tk d now, ⟨0, 0⟩, who (out0 d now) (out1 d now) d.Task_e0 d.Task_e1) := by simp [tickR, hc, hb]
      rw [ht]
      simp only [bne_self_eq_false, cond_false]
      have s0 : ∀ p c3 c4 c6 c7 f, taskmilllaw_PollTimes_l2 d now p c3 c4 c6 c7 f (0, d, []) = some (.inl (1, (bif out0 d now then { d with Task_e0 := 0 } else d), bif out0 d now then [d.Task_e0] else [])) := by
        intro p c3 c4 c6 c7 f
        simp only [taskmilllaw_PollTimes_l2]
        rw [isLate0 ok.u0.1]
        unfold out0
        cases decide ((0 : Int) < d.Task_e0) <;> cases lt d.Until_e0 now <;> simp [taskmilllaw_PollTimes_j6, taskmilllaw_PollTimes_j4, w1]
      have s1 : ∀ p c3 c4 c6 c7 f e l, l.length ≤ 100 → taskmilllaw_PollTimes_l2 d now p c3 c4 c6 c7 f (1, e, l) = some (.inl (2, (bif out1 d now then { e with Task_e1 := 0 } else e), l ++ (bif out1 d now then [d.Task_e1] else []))) := by
        intro p c3 c4 c6 c7 f e l hl
        have h2 : (l.length + 1) * 8 ≤ 140737488355328 := by omega
        simp only [taskmilllaw_PollTimes_l2]
        rw [isLate1 ok.u1.1]
        unfold out1
        cases decide ((0 : Int) < d.Task_e1) <;> cases lt d.Until_e1 now <;> simp [taskmilllaw_PollTimes_j5, taskmilllaw_PollTimes_j4, w2, h2]
      rw [loopO_inl (s0 _ _ _ _ _ _), loopO_inl (s1 _ _ _ _ _ _ _ _ (by cases out0 d now <;> simp))]
      refine loopO_inr ?_
      have hw2 : (bif out0 d now then [d.Task_e0] else []) ++ (bif out1 d now then [d.Task_e1] else []) = who (out0 d now) (out1 d now) d.Task_e0 d.Task_e1 := rfl
      have he : (bif out1 d now then { (bif out0 d now then { d with Task_e0 := 0 } else d : Desc) with Task_e1 := 0 } else (bif out0 d now then { d with Task_e0 := 0 } else d : Desc)) = tk d now := by
        unfold tk
        cases out0 d now <;> cases out1 d now <;> rfl
      simp only [taskmilllaw_PollTimes_l2, hw2, he]
      rw [ints_self _ (by have := who_len (out0 d now) (out1 d now) d.Task_e0 d.Task_e1; omega)]
      have j3' := j3
      rw [hc] at j3' ⊢
      simp [taskmilllaw_PollTimes_j7, j3']
    · have hno : (tickR d now).1 = no ∧ (tickR d now).2.2 = [] := by
        unfold tickR at hw ⊢
        split
        · exact ⟨rfl, rfl⟩
        · rename_i h1
          rw [if_neg h1] at hw
          split
          · exact ⟨rfl, rfl⟩
          · rename_i h2
            rw [if_neg h2] at hw
            exact absurd rfl hw
      have hw' : ((tickR d now).2.1.Code != 0) = true := by simpa using hw
      rw [hno.1, hno.2]
      simp [hw', no, j3]
  rcases check_ok d with ⟨ok, h⟩ | ⟨h, hn⟩
  · have hnb : (decide (now < 0) || decide ((1000000000 : Int) < now)) = nowBad now := rfl
    rw [hnb]
    cases hb : nowBad now with
    | true =>
      have := j8 ⟨3, -1⟩ (by simp [tickR, h, hb]) (fun _ => ok) (fun hh => by simp at hh)
      simpa [h] using this
    | false =>
      have := j8 ⟨0, 0⟩ (by simp [tickR, h, hb]) (fun _ => ok) (fun _ => hb)
      simpa [h] using this
  · have h' : ((checkF d).Code == 0) = false := by simpa using h
    have := j8 (checkF d) (by simp [tickR, h]) (fun hh => absurd hh h) (fun hh => absurd hh h)
    simpa [h'] using this
def sideF (d : Desc) (way : Int) : Fault := if (checkF d).Code ≠ 0 then checkF d else if way < 0 ∨ 1 < way then ⟨4, -1⟩ else ⟨0, 0⟩
theorem side_eq (d : Desc) (way : Int) : poll_side d way = some (sideF d way) := by
  unfold poll_side sideF
  rw [check_eq]
  rcases check_ok d with ⟨ok, h⟩ | ⟨h, _⟩
  · by_cases hw : way < 0 ∨ 1 < way
    · have : (decide (way < 0) || decide ((1 : Int) < way)) = true := by simpa using hw
      simp [h, hw, this]
    · have : (decide (way < 0) || decide ((1 : Int) < way)) = false := by simp at hw ⊢; omega
      simp [h, hw, this]
  · simp [h, Bool.cond_eq_ite]
theorem wayFault_eq (d : Desc) (way : Int) : taskmilllaw_wayFault d way = some (sideF d way) := by
  unfold taskmilllaw_wayFault taskmilllaw_wayFault_j1 sideF
  rw [ref_eq]
  rcases check_ok d with ⟨ok, h⟩ | ⟨h, _⟩
  · by_cases hw : way < 0 ∨ 1 < way
    · have : ((way != 0) && (way != 1)) = true := by simp; omega
      simp [h, hw, this]
    · have : ((way != 0) && (way != 1)) = false := by
        rw [Bool.eq_false_iff]; simp; omega
      simp [h, hw, this]
  · have h' : ((checkF d).Code == 0) = false := by simpa using h
    simp [h, h']
theorem sideF_ok (d : Desc) (way : Int) : (OkD d ∧ (way = 0 ∨ way = 1) ∧ sideF d way = ⟨0, 0⟩) ∨ (sideF d way).Code ≠ 0 := by
  unfold sideF
  rcases check_ok d with ⟨ok, h⟩ | ⟨h, _⟩
  · by_cases hw : way < 0 ∨ 1 < way
    · right; simp [h, hw]
    · left; exact ⟨ok, by omega, by simp [h, hw]⟩
  · right; simp [h]
def untilR (d : Desc) (way when now : Int) : Desc × Int × Fault :=
  if (sideF d way).Code ≠ 0 then (no, 0, sideF d way) else if min when now < 0 ∨ 1000000000 < max when now then (no, 0, ⟨3, -1⟩) else if d.Closed = true then (no, 0, ⟨11, -1⟩) else
  if way = 0 then (let e := { d with Until_e0 := when }; bif out0 e now then ({ e with Task_e0 := 0 }, d.Task_e0, ⟨0, 0⟩) else (e, 0, ⟨0, 0⟩))
  else (let e := { d with Until_e1 := when }; bif out1 e now then ({ e with Task_e1 := 0 }, d.Task_e1, ⟨0, 0⟩) else (e, 0, ⟨0, 0⟩))
theorem until_eq (d : Desc) (way when now : Int) : poll_Until d way when now = some (untilR d way when now) := by
  unfold poll_Until untilR
  rw [side_eq]
  rcases sideF_ok d way with ⟨ok, hw, h⟩ | h
  · by_cases hr : min when now < 0 ∨ 1000000000 < max when now
    · have : (decide (min when now < 0) || decide (1000000000 < max when now)) = true := by simpa using hr
      simp [h, hr, this, no]
    · have : (decide (min when now < 0) || decide (1000000000 < max when now)) = false := by simp at hr ⊢; omega
      simp only [h, hr, this, Option.bind_some, bne_self_eq_false, cond_false, ne_eq, not_true_eq_false, if_false, fault_eq]
      cases hc : d.Closed with
      | true => simp [no]
      | false =>
        simp only [cond_false, Bool.false_eq_true, if_false]
        rcases hw with rfl | rfl
        · rw [pop0 (by exact ok.t0)]
          simp only [beq_self_eq_true, cond_true, Option.bind_some, if_true]
          cases out0 _ now <;> rfl
        · simp only [show ((1 : Int) == 0) = false from rfl, beq_self_eq_true, cond_false, cond_true, show ¬ (1 : Int) = 0 by omega, if_false]
          rw [pop1 (by exact ok.t1)]
          simp only [Option.bind_some]
          cases out1 _ now <;> rfl
  · simp [h, no, Bool.cond_eq_ite]
def wF (d : Desc) (way task now : Int) : Fault :=
  if (sideF d way).Code ≠ 0 then sideF d way else if task < 1 ∨ now < 0 ∨ 1000000000 < now then ⟨3, -1⟩ else
  if 0 < (if way = 0 then d.Task_e0 else d.Task_e1) then ⟨11, -1⟩ else if (if way = 0 then d.Task_e1 else d.Task_e0) = task then ⟨10, -1⟩ else ⟨0, 0⟩
theorem wait0 {d : Desc} (ok : OkD d) (hs : checkF d = ⟨0, 0⟩) (task now : Int) (h1 : 1 ≤ task) (h2 : 0 ≤ now ∧ now ≤ 1000000000) : poll_Wait d 0 task now = some (
    bif decide (0 < d.Task_e0) then (no, 0, ⟨11, -1⟩) else bif d.Task_e1 == task then (no, 0, ⟨10, -1⟩) else bif d.Closed then (d, 3, ⟨0, 0⟩) else bif lt d.Until_e0 now then (d, 2, ⟨0, 0⟩) else
      bif d.Ready_e0 then ({ d with Ready_e0 := false }, 1, ⟨0, 0⟩) else ({ d with Task_e0 := task }, 0, ⟨0, 0⟩)) := by
  unfold poll_Wait
  have hw : IntKind.i64.wrap ((1 : Int) - 0) = 1 := by decide
  have hside : sideF d 0 = ⟨0, 0⟩ := by simp [sideF, hs]
  have hr : (decide (task < 1) || (decide (now < 0) || decide ((1000000000 : Int) < now))) = false := by simp; omega
  rw [side_eq, hside, hw, late0]
  simp only [Option.bind_some, bne_self_eq_false, cond_false, hr, beq_self_eq_true, cond_true, show ((1 : Int) == 0) = false from rfl, fault_eq, poll_Wait_j1]
  cases decide (0 < d.Task_e0) <;> cases d.Task_e1 == task <;> cases d.Closed <;> cases lt d.Until_e0 now <;> cases d.Ready_e0 <;> rfl
theorem wait1 {d : Desc} (ok : OkD d) (hs : checkF d = ⟨0, 0⟩) (task now : Int) (h1 : 1 ≤ task) (h2 : 0 ≤ now ∧ now ≤ 1000000000) : poll_Wait d 1 task now = some (
    bif decide (0 < d.Task_e1) then (no, 0, ⟨11, -1⟩) else bif d.Task_e0 == task then (no, 0, ⟨10, -1⟩) else bif d.Closed then (d, 3, ⟨0, 0⟩) else bif lt d.Until_e1 now then (d, 2, ⟨0, 0⟩) else
      bif d.Ready_e1 then ({ d with Ready_e1 := false }, 1, ⟨0, 0⟩) else ({ d with Task_e1 := task }, 0, ⟨0, 0⟩)) := by
  unfold poll_Wait
  have hw : IntKind.i64.wrap ((1 : Int) - 1) = 0 := by decide
  have hside : sideF d 1 = ⟨0, 0⟩ := by simp [sideF, hs]
  have hr : (decide (task < 1) || (decide (now < 0) || decide ((1000000000 : Int) < now))) = false := by simp; omega
  rw [side_eq, hside, hw, late1]
  simp only [Option.bind_some, bne_self_eq_false, cond_false, hr, beq_self_eq_true, cond_true, show ((1 : Int) == 0) = false from rfl, fault_eq, poll_Wait_j1]
  cases decide (0 < d.Task_e1) <;> cases d.Task_e0 == task <;> cases d.Closed <;> cases lt d.Until_e1 now <;> cases d.Ready_e1 <;> rfl
theorem fire0 {d : Desc} (hs : checkF d = ⟨0, 0⟩) : poll_Fire d 0 = some ((bif d.Closed then d else bif decide (0 < d.Task_e0) then { d with Task_e0 := 0 } else { d with Ready_e0 := true }), d.Task_e0, ⟨0, 0⟩) := by
  unfold poll_Fire
  have hside : sideF d 0 = ⟨0, 0⟩ := by simp [sideF, hs]
  rw [side_eq, hside]
  simp only [Option.bind_some, bne_self_eq_false, cond_false, beq_self_eq_true, cond_true, poll_Fire_j2]
  cases d.Closed <;> cases decide (0 < d.Task_e0) <;> rfl
theorem fire1 {d : Desc} (hs : checkF d = ⟨0, 0⟩) : poll_Fire d 1 = some ((bif d.Closed then d else bif decide (0 < d.Task_e1) then { d with Task_e1 := 0 } else { d with Ready_e1 := true }), d.Task_e1, ⟨0, 0⟩) := by
  unfold poll_Fire
  have hside : sideF d 1 = ⟨0, 0⟩ := by simp [sideF, hs]
  rw [side_eq, hside]
  simp only [Option.bind_some, bne_self_eq_false, cond_false, beq_self_eq_true, cond_true, poll_Fire_j1, show ((1 : Int) == 0) = false from rfl]
  cases d.Closed <;> cases decide (0 < d.Task_e1) <;> rfl
theorem ok_check {d : Desc} (ok : OkD d) : checkF d = ⟨0, 0⟩ := by
  rcases check_ok d with ⟨_, h⟩ | ⟨_, h⟩
  · exact h
  · exact absurd ok h
theorem no_ok : OkD no := ⟨by decide, by decide, by decide, by decide, by decide, by decide, by decide, by decide, by decide⟩
theorem begun_eq : taskmilllaw_pollBegun = some true := by
  unfold taskmilllaw_pollBegun
  have := wait0 no_ok (ok_check no_ok) 1 0 (by decide) (by decide)
  have e : poll_Wait no 0 1 0 = some ({ no with Task_e0 := 1 }, 0, ⟨0, 0⟩) := by rw [this]; decide
  rw [show (Desc.mk false false false 0 0 0 0) = no from rfl, e]
  simp only [Option.bind_some]
  have ok1 : OkD { no with Task_e0 := 1 } := ⟨by decide, by decide, by decide, by decide, by decide, by decide, by decide, by decide, by decide⟩
  rw [fire0 (ok_check ok1)]
  rfl
theorem range_bool (when now : Int) : (decide (when < 0) || (decide ((1000000000 : Int) < when) || (decide (now < 0) || decide ((1000000000 : Int) < now)))) = decide (min when now < 0 ∨ 1000000000 < max when now) := by
  rw [Bool.eq_iff_iff]; simp; omega
theorem until_cases (d : Desc) (way when now : Int) : ((sideF d way).Code ≠ 0 ∧ untilR d way when now = (no, 0, sideF d way)) ∨ (sideF d way = ⟨0, 0⟩ ∧ (min when now < 0 ∨ 1000000000 < max when now) ∧ untilR d way when now = (no, 0, ⟨3, -1⟩)) ∨
    (sideF d way = ⟨0, 0⟩ ∧ ¬ (min when now < 0 ∨ 1000000000 < max when now) ∧ d.Closed = true ∧ untilR d way when now = (no, 0, ⟨11, -1⟩)) ∨
    (OkD d ∧ sideF d way = ⟨0, 0⟩ ∧ ¬ (min when now < 0 ∨ 1000000000 < max when now) ∧ d.Closed = false ∧ (way = 0 ∧ untilR d way when now = (bif out0 { d with Until_e0 := when } now then ({ d with Until_e0 := when, Task_e0 := 0 }, d.Task_e0, ⟨0, 0⟩) else ({ d with Until_e0 := when }, 0, ⟨0, 0⟩)) ∨
      way = 1 ∧ untilR d way when now = (bif out1 { d with Until_e1 := when } now then ({ d with Until_e1 := when, Task_e1 := 0 }, d.Task_e1, ⟨0, 0⟩) else ({ d with Until_e1 := when }, 0, ⟨0, 0⟩)))) := by
  unfold untilR
  rcases sideF_ok d way with ⟨ok, hw, h⟩ | h
  · by_cases hr : min when now < 0 ∨ 1000000000 < max when now
    · right; left; exact ⟨h, hr, by simp [h, hr]⟩
    · cases hc : d.Closed with
      | true => right; right; left; exact ⟨h, hr, rfl, by simp [h, hr]⟩
      | false =>
        right; right; right
        refine ⟨ok, h, hr, rfl, ?_⟩
        rcases hw with rfl | rfl
        · left; exact ⟨rfl, by simp [h, hr, hc]⟩
        · right; exact ⟨rfl, by simp [h, hr, hc]⟩
  · left; exact ⟨h, by simp [h]⟩
theorem times (d : Desc) (way when now : Int) : taskmilllaw_PollTimes d way when now = some true := by
  unfold taskmilllaw_PollTimes
  rw [until_eq, tick_eq, close_eq, begun_eq, wayFault_eq]
  simp only [Option.bind_some, Bool.not_true, cond_false, F_eq, range_bool]
  have j9 := fun x => j9_ok d now x
  have bad : ∀ f : Fault, f.Code ≠ 0 → untilR d way when now = (no, 0, f) → taskmilllaw_PollTimes_j12 d way when now (untilR d way when now).2.1 (closeR d).2.1 (untilR d way when now).1 (untilR d way when now).2.2 (tickR d now).1 (tickR d now).2.2 (tickR d now).2.1 (closeR d).1 (closeR d).2.2.2 (closeR d).2.2.1 f = some true := by
    intro f hf he
    rw [he]
    unfold taskmilllaw_PollTimes_j12
    have : (f.Code != 0) = true := by simpa using hf
    simp [this, no, j9]
  unfold taskmilllaw_PollTimes_j13
  simp only [Option.bind_some, F_eq]
  rcases until_cases d way when now with ⟨h, he⟩ | ⟨h, hr, he⟩ | ⟨h, hr, hc, he⟩ | ⟨ok, h, hr, hc, hw⟩
  · have h' : ((sideF d way).Code == 0) = false := by simpa using h
    simp only [h', Bool.false_and, cond_false]
    exact bad _ h he
  · simp only [h, hr, decide_true, beq_self_eq_true, Bool.and_self, cond_true, show ((3 : Int) == 0) = false from rfl, Bool.false_and, cond_false]
    exact bad ⟨3, -1⟩ (by simp) he
  · simp only [h, hr, hc, decide_false, beq_self_eq_true, Bool.and_self, Bool.and_false, cond_true, cond_false]
    exact bad ⟨11, -1⟩ (by simp) he
  · simp only [h, hr, hc, decide_false, beq_self_eq_true, Bool.and_false, cond_false]
    have hwn : 0 ≤ when := by omega
    rcases hw with ⟨rfl, he⟩ | ⟨rfl, he⟩
    · rw [he]
      unfold taskmilllaw_PollTimes_j12
      rw [isLate0 (by exact hwn)]
      have hou : out0 { d with Until_e0 := when } now = (decide ((0 : Int) < d.Task_e0) && lt when now) := rfl
      rw [hou]
      cases hl : lt when now
      · simp [taskmilllaw_PollTimes_j11, j9]
      · by_cases ht : (0 : Int) < d.Task_e0
        · simp [taskmilllaw_PollTimes_j11, j9, ht]
        · have h0 := ok.t0
          have : d.Task_e0 = 0 := by omega
          simp [taskmilllaw_PollTimes_j11, j9, ht, this]
    · rw [he]
      unfold taskmilllaw_PollTimes_j12
      have hi := isLate1 (d := { d with Until_e1 := when }) hwn now
      have hou : out1 { d with Until_e1 := when } now = (decide ((0 : Int) < d.Task_e1) && lt when now) := rfl
      rw [hou]
      cases hl : lt when now
      · simp [hi, hl, taskmilllaw_PollTimes_j10, j9]
      · by_cases ht : (0 : Int) < d.Task_e1
        · simp [hi, hl, taskmilllaw_PollTimes_j10, j9, ht]
        · have h0 := ok.t1
          have : d.Task_e1 = 0 := by omega
          rw [this] at hi
          simp [hi, hl, taskmilllaw_PollTimes_j10, j9, this]
end Go.Proofs.Ytbglmhcpfjmadaa
