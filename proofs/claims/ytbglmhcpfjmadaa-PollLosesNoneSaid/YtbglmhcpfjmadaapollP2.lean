/-
  What laws of the chapter poll compute, and lemmas on it.
  No conditions.
-/
import Derived.Test.YtbglmhcpfjmadaapollP
set_option linter.unusedSimpArgs false
set_option linter.unusedVariables false
namespace Go.Proofs.Ytbglmhcpfjmadaa
open Go Go.Sx
def bi (b : Bool) : Int := bif b then 1 else 0
/-- What holds behind so many moves. -/
structure J (i now : Int) (d : Desc) (f g : S23) : Prop where
  n : 0 ≤ now ∧ now ≤ i
  ok : OkD d
  cl : d.Closed = false
  t0 : d.Task_e0 ≤ i
  t1 : d.Task_e1 ≤ i
  f0 : f.e0 = g.e0 + bi d.Ready_e0
  f1 : f.e1 = g.e1 + bi d.Ready_e1
  g0 : 0 ≤ g.e0 ∧ g.e0 ≤ i
  g1 : 0 ≤ g.e1 ∧ g.e1 ≤ i
  l0 : 0 < d.Task_e0 → lt d.Until_e0 now = false
  l1 : 0 < d.Task_e1 → lt d.Until_e1 now = false
theorem bi_le (b : Bool) : 0 ≤ bi b ∧ bi b ≤ 1 := by cases b <;> decide
theorem J.up {i now : Int} {d : Desc} {f g : S23} (h : J i now d f g) : J (i + 1) now d f g := by
  obtain ⟨h1, h2, h3, h4, h5, h6, h7, h8, h9, h10, h11⟩ := h
  exact ⟨by omega, h2, h3, by omega, by omega, h6, h7, by omega, by omega, h10, h11⟩
theorem j6_eq (moves : List Int) {i : Nat} {now : Int} {d : Desc} {f g : S23} (hi : i ≤ 300) (h : J ((i + 1 : Nat) : Int) now d f g) : taskmilllaw_PollLosesNone_j6 moves (i : Int) now d f g = some (.inl (now, ((i + 1 : Nat) : Int), d, f, g)) := by
  unfold taskmilllaw_PollLosesNone_j6
  obtain ⟨h1, ok, h3, h4, h5, h6, h7, h8, h9, h10, h11⟩ := h
  have b0 := bi_le d.Ready_e0
  have b1 := bi_le d.Ready_e1
  have s0 : taskmilllaw_PollLosesNone_l1 moves (i : Int) now d f g 0 = some (.inl 1) := by
    have e : IntKind.i64.wrap (g.e0 + bi d.Ready_e0) = f.e0 := by rw [wrap_id (by omega) (by omega), h6]
    have j5 : taskmilllaw_PollLosesNone_j5 moves (i : Int) now d f g 0 (bi d.Ready_e0) = some (.inl 1) := by
      unfold taskmilllaw_PollLosesNone_j5
      rw [e, isLate0 ok.u0.1]
      by_cases ht : 0 < d.Task_e0
      · have hr : d.Ready_e0 = false := by
          cases hr : d.Ready_e0 with
          | false => rfl
          | true => have := ok.r0 hr; omega
        simp [taskmilllaw_PollLosesNone_j4, taskmilllaw_PollLosesNone_j2, w1, ht, hr, h3, h10 ht]
      · simp [taskmilllaw_PollLosesNone_j4, taskmilllaw_PollLosesNone_j2, w1, ht]
    simp only [taskmilllaw_PollLosesNone_l1]
    cases hr : d.Ready_e0 <;> rw [hr] at j5 <;> exact j5
  have s1 : taskmilllaw_PollLosesNone_l1 moves (i : Int) now d f g 1 = some (.inl 2) := by
    have e : IntKind.i64.wrap (g.e1 + bi d.Ready_e1) = f.e1 := by rw [wrap_id (by omega) (by omega), h7]
    have j5 : taskmilllaw_PollLosesNone_j5 moves (i : Int) now d f g 1 (bi d.Ready_e1) = some (.inl 2) := by
      unfold taskmilllaw_PollLosesNone_j5
      rw [e, isLate1 ok.u1.1]
      by_cases ht : 0 < d.Task_e1
      · have hr : d.Ready_e1 = false := by
          cases hr : d.Ready_e1 with
          | false => rfl
          | true => have := ok.r1 hr; omega
        simp [taskmilllaw_PollLosesNone_j3, taskmilllaw_PollLosesNone_j2, w2, ht, hr, h3, h11 ht]
      · simp [taskmilllaw_PollLosesNone_j3, taskmilllaw_PollLosesNone_j2, w2, ht]
    simp only [taskmilllaw_PollLosesNone_l1]
    cases hr : d.Ready_e1 <;> rw [hr] at j5 <;> exact j5
  rw [loopO_inl s0, loopO_inl s1]
  refine loopO_inr ?_
  simp [taskmilllaw_PollLosesNone_l1, taskmilllaw_PollLosesNone_j1, wrap_n1 i (by omega)]
theorem tmod2 (n : Nat) : Int.tmod (n : Int) 2 = 0 ∨ Int.tmod (n : Int) 2 = 1 := by
  have : Int.tmod (n : Int) 2 = ((n % 2 : Nat) : Int) := rfl
  omega
theorem lt_late {u now : Int} : lt (now + 2) now = false := by simp [lt]; omega
theorem step3 (moves : List Int) {n : Nat} (hn : n < moves.length) (hm : moves.length ≤ 300) {now : Int} {d : Desc} {f g : S23} (h : J n now d f g) (N : Int) (hN : ((n + 1 : Nat) : Int) = N) :
    ∃ now' d' f' g', taskmilllaw_PollLosesNone_l3 moves (now, (n : Int), d, f, g) = some (.inl (now', N, d', f', g')) ∧ J N now' d' f' g' := by
  have hN' : (n : Int) + 1 = N := by rw [← hN]; rfl
  have hwN : IntKind.i64.wrap N = N := wrap_id (by omega) (by omega)
  have j6 : ∀ {now' d' f' g'}, J N now' d' f' g' → taskmilllaw_PollLosesNone_j6 moves (n : Int) now' d' f' g' = some (.inl (now', N, d', f', g')) := fun {now' d' f' g'} hj => by subst hN; exact j6_eq moves (by omega) hj
  have hup := h.up
  rw [hN'] at hup
  obtain ⟨h1, ok, h3, h4, h5, h6, h7, h8, h9, h10, h11⟩ := h
  have hok := ok
  obtain ⟨a1, a2, a3, a4, a5, a6, a7, a8, a9⟩ := ok
  have hck := ok_check hok
  unfold taskmilllaw_PollLosesNone_l3
  have hlt : decide ((n : Int) < ((moves.length : Nat) : Int)) = true := by simp; omega
  have hlt2 : (decide ((0 : Int) ≤ (n : Int)) && decide ((n : Int) < ((moves.length : Nat) : Int))) = true := by simp; omega
  simp only [hlt, hlt2, cond_true, ix_get hn]
  rw [wrap_n1 n (by omega), hN]
  by_cases m0 : moves[n] = 0
  · have e0 : (moves[n] == 0) = true := by simpa using m0
    simp only [e0, cond_true]
    rcases tmod2 n with hw | hw
    · rw [hw, wait0 hok hck _ _ (by omega) (by omega)]
      by_cases t0 : 0 < d.Task_e0
      · refine ⟨now, d, f, g, ?_, hup⟩
        have : (d.Task_e0 == 0) = false := by simp; omega
        simp [t0, this, taskmilllaw_PollLosesNone_j7, taskmilllaw_PollLosesNone_j1, hN', hwN]
      · have z0 : d.Task_e0 = 0 := by omega
        have ht : (d.Task_e1 == N) = false := by simp; omega
        cases hl : lt d.Until_e0 now with
        | true =>
          refine ⟨now, d, f, g, ?_, hup⟩
          simp [z0, ht, h3, taskmilllaw_PollLosesNone_j8, j6 hup]
        | false =>
          cases hr : d.Ready_e0 with
          | true =>
            have hj : J N now { d with Ready_e0 := false } f ⟨g.e0 + 1, g.e1⟩ := ⟨by omega, ⟨a1, a2, a3, a4, fun hc => by simp [h3] at hc, a6, fun h => by simp at h, a8, a9⟩, h3, by simp; omega, by simp; omega, by rw [hr] at h6; simpa [bi] using h6, h7, by simp; omega, by simp; omega, h10, h11⟩
            refine ⟨_, _, _, _, ?_, hj⟩
            have := j6 hj
            simp [z0, ht, h3, hl, hr, taskmilllaw_PollLosesNone_j8, wrap_id (x := g.e0 + 1) (by omega) (by omega)] at this ⊢
            exact this
          | false =>
            have hj : J N now { d with Task_e0 := N } f g := ⟨by omega, ⟨by simp; omega, a2, a3, a4, fun hc => by simp [h3] at hc, a6, fun h => by simp [hr] at h, a8, fun _ => by simp; omega⟩, h3, by simp, by simp; omega, h6, h7, by omega, by omega, fun _ => hl, h11⟩
            refine ⟨_, _, _, _, ?_, hj⟩
            have := j6 hj
            simp [z0, ht, h3, hl, hr, taskmilllaw_PollLosesNone_j8] at this ⊢
            exact this
    · rw [hw, wait1 hok hck _ _ (by omega) (by omega)]
      by_cases t1 : 0 < d.Task_e1
      · refine ⟨now, d, f, g, ?_, hup⟩
        have : (d.Task_e1 == 0) = false := by simp; omega
        simp [t1, this, taskmilllaw_PollLosesNone_j7, taskmilllaw_PollLosesNone_j1, hN', hwN]
      · have z0 : d.Task_e1 = 0 := by omega
        have ht : (d.Task_e0 == N) = false := by simp; omega
        cases hl : lt d.Until_e1 now with
        | true =>
          refine ⟨now, d, f, g, ?_, hup⟩
          simp [z0, ht, h3, taskmilllaw_PollLosesNone_j8, j6 hup]
        | false =>
          cases hr : d.Ready_e1 with
          | true =>
            have hj : J N now { d with Ready_e1 := false } f ⟨g.e0, g.e1 + 1⟩ := ⟨by omega, ⟨a1, a2, a3, a4, a5, fun hc => by simp [h3] at hc, a7, fun h => by simp at h, a9⟩, h3, by simp; omega, by simp; omega, h6, by rw [hr] at h7; simpa [bi] using h7, by simp; omega, by simp; omega, h10, h11⟩
            refine ⟨_, _, _, _, ?_, hj⟩
            have := j6 hj
            simp [z0, ht, h3, hl, hr, taskmilllaw_PollLosesNone_j8, wrap_id (x := g.e1 + 1) (by omega) (by omega)] at this ⊢
            exact this
          | false =>
            have hj : J N now { d with Task_e1 := N } f g := ⟨by omega, ⟨a1, by simp; omega, a3, a4, a5, fun hc => by simp [h3] at hc, a7, fun h => by simp [hr] at h, fun _ => by simp; omega⟩, h3, by simp; omega, by simp, h6, h7, by omega, by omega, h10, fun _ => hl⟩
            refine ⟨_, _, _, _, ?_, hj⟩
            have := j6 hj
            simp [z0, ht, h3, hl, hr, taskmilllaw_PollLosesNone_j8] at this ⊢
            exact this
  · have e0 : (moves[n] == 0) = false := by simpa using m0
    simp only [e0, cond_false]
    by_cases m1 : moves[n] = 1
    · have e1 : (moves[n] == 1) = true := by simpa using m1
      simp only [e1, cond_true]
      rcases tmod2 n with hw | hw
      · rw [hw, fire0 hck]
        by_cases t0 : 0 < d.Task_e0
        · have hr : d.Ready_e0 = false := by
            cases hr : d.Ready_e0 with
            | false => rfl
            | true => have := a7 hr; omega
          rw [hr] at h6
          simp only [bi, cond_false] at h6
          have hj : J N now { d with Task_e0 := 0 } ⟨f.e0 + 1, f.e1⟩ ⟨g.e0 + 1, g.e1⟩ := ⟨by omega, ⟨by simp, a2, a3, a4, fun hc => by simp [h3] at hc, a6, fun _ => rfl, a8, fun h => by simp at h⟩, h3, by simp; omega, by simp; omega, by simp [bi, hr]; omega, h7, by simp; omega, by simp; omega, fun h => by simp at h, h11⟩
          refine ⟨_, _, _, _, ?_, hj⟩
          have := j6 hj
          simp [t0, h3, hr, taskmilllaw_PollLosesNone_j12, taskmilllaw_PollLosesNone_j11, hw, wrap_id (x := g.e0 + 1) (by omega) (by omega), wrap_id (x := f.e0 + 1) (by omega) (by omega)] at this ⊢
          exact this
        · cases hr : d.Ready_e0 with
          | true =>
            have he : ({ d with Ready_e0 := true } : Desc) = d := by rw [← hr]
            have hup2 : J N now { d with Ready_e0 := true } f g := by rw [he]; exact hup
            refine ⟨now, { d with Ready_e0 := true }, f, g, ?_, hup2⟩
            have := j6 hup2
            simp [t0, h3, hr, taskmilllaw_PollLosesNone_j12, taskmilllaw_PollLosesNone_j11, hw] at this ⊢
            exact this
          | false =>
            rw [hr] at h6
            simp only [bi, cond_false] at h6
            have hj : J N now { d with Ready_e0 := true } ⟨f.e0 + 1, f.e1⟩ g := ⟨by omega, ⟨a1, a2, a3, a4, fun hc => by simp [h3] at hc, a6, fun _ => by simp; omega, a8, a9⟩, h3, by simp; omega, by simp; omega, by simp [bi]; omega, h7, by omega, by omega, h10, h11⟩
            refine ⟨_, _, _, _, ?_, hj⟩
            have := j6 hj
            simp [t0, h3, hr, taskmilllaw_PollLosesNone_j12, taskmilllaw_PollLosesNone_j11, hw, wrap_id (x := f.e0 + 1) (by omega) (by omega)] at this ⊢
            exact this
      · rw [hw, fire1 hck]
        by_cases t1 : 0 < d.Task_e1
        · have hr : d.Ready_e1 = false := by
            cases hr : d.Ready_e1 with
            | false => rfl
            | true => have := a8 hr; omega
          rw [hr] at h7
          simp only [bi, cond_false] at h7
          have hj : J N now { d with Task_e1 := 0 } ⟨f.e0, f.e1 + 1⟩ ⟨g.e0, g.e1 + 1⟩ := ⟨by omega, ⟨a1, by simp, a3, a4, a5, fun hc => by simp [h3] at hc, a7, fun _ => rfl, fun h => by simp at h ⊢; omega⟩, h3, by simp; omega, by simp; omega, h6, by simp [bi, hr]; omega, by simp; omega, by simp; omega, h10, fun h => by simp at h⟩
          refine ⟨_, _, _, _, ?_, hj⟩
          have := j6 hj
          simp [t1, h3, hr, taskmilllaw_PollLosesNone_j10, taskmilllaw_PollLosesNone_j9, hw, wrap_id (x := g.e1 + 1) (by omega) (by omega), wrap_id (x := f.e1 + 1) (by omega) (by omega)] at this ⊢
          exact this
        · cases hr : d.Ready_e1 with
          | true =>
            have he : ({ d with Ready_e1 := true } : Desc) = d := by rw [← hr]
            have hup2 : J N now { d with Ready_e1 := true } f g := by rw [he]; exact hup
            refine ⟨now, { d with Ready_e1 := true }, f, g, ?_, hup2⟩
            have := j6 hup2
            simp [t1, h3, hr, taskmilllaw_PollLosesNone_j10, taskmilllaw_PollLosesNone_j9, hw] at this ⊢
            exact this
          | false =>
            rw [hr] at h7
            simp only [bi, cond_false] at h7
            have hj : J N now { d with Ready_e1 := true } ⟨f.e0, f.e1 + 1⟩ g := ⟨by omega, ⟨a1, a2, a3, a4, a5, fun hc => by simp [h3] at hc, a7, fun _ => by simp; omega, a9⟩, h3, by simp; omega, by simp; omega, h6, by simp [bi]; omega, by omega, by omega, h10, h11⟩
            refine ⟨_, _, _, _, ?_, hj⟩
            have := j6 hj
            simp [t1, h3, hr, taskmilllaw_PollLosesNone_j10, taskmilllaw_PollLosesNone_j9, hw, wrap_id (x := f.e1 + 1) (by omega) (by omega)] at this ⊢
            exact this
    · have e1 : (moves[n] == 1) = false := by simpa using m1
      simp only [e1, cond_false]
      by_cases m2 : moves[n] = 2
      · have e2 : (moves[n] == 2) = true := by simpa using m2
        simp only [e2, cond_true]
        rw [wrap_id (x := now + 1) (by omega) (by omega), tick_eq]
        have hnb : nowBad (now + 1) = false := by simp [nowBad]; omega
        have ht : tickR d (now + 1) = (tk d (now + 1), ⟨0, 0⟩, who (out0 d (now + 1)) (out1 d (now + 1)) d.Task_e0 d.Task_e1) := by simp [tickR, hck, hnb]
        have hj : J N (now + 1) (tk d (now + 1)) f g := by
          have q0 : (bif out0 d (now + 1) then 0 else d.Task_e0) = 0 ∨ (bif out0 d (now + 1) then 0 else d.Task_e0) = d.Task_e0 := by cases out0 d (now + 1) <;> simp
          have q1 : (bif out1 d (now + 1) then 0 else d.Task_e1) = 0 ∨ (bif out1 d (now + 1) then 0 else d.Task_e1) = d.Task_e1 := by cases out1 d (now + 1) <;> simp
          refine ⟨by omega, ⟨by simp only [tk]; omega, by simp only [tk]; omega, a3, a4, fun hc => by simp [tk, h3] at hc, fun hc => by simp [tk, h3] at hc, fun hr => ?_, fun hr => ?_, fun hr => ?_⟩, h3, by simp only [tk]; omega, by simp only [tk]; omega, h6, h7, by omega, by omega, fun hp => ?_, fun hp => ?_⟩
          · simp only [tk] at hr ⊢; have := a7 hr; omega
          · simp only [tk] at hr ⊢; have := a8 hr; omega
          · simp only [tk] at hr ⊢; have := a9; omega
          · simp only [tk] at hp ⊢
            cases ho : out0 d (now + 1) with
            | true => simp [ho] at hp
            | false =>
              simp only [ho, cond_false] at hp
              simpa [out0, hp] using ho
          · simp only [tk] at hp ⊢
            cases ho : out1 d (now + 1) with
            | true => simp [ho] at hp
            | false =>
              simp only [ho, cond_false] at hp
              simpa [out1, hp] using ho
        refine ⟨_, _, _, _, ?_, hj⟩
        rw [ht]
        simpa using j6 hj
      · have e2 : (moves[n] == 2) = false := by simpa using m2
        simp only [e2, cond_false]
        by_cases m3 : moves[n] = 3
        · have e3 : (moves[n] == 3) = true := by simpa using m3
          simp only [e3, cond_true]
          rw [wrap_id (x := now + 2) (by omega) (by omega), until_eq]
          have hrg : ¬ (min (now + 2) now < 0 ∨ 1000000000 < max (now + 2) now) := by omega
          rcases tmod2 n with hw | hw
          · rw [hw]
            have hsd : sideF d 0 = ⟨0, 0⟩ := by simp [sideF, hck]
            have hu : untilR d 0 (now + 2) now = ({ d with Until_e0 := now + 2 }, 0, ⟨0, 0⟩) := by
              simp [untilR, hsd, hrg, h3, out0, lt_late (u := 0)]
            have hj : J N now { d with Until_e0 := now + 2 } f g := ⟨by omega, ⟨a1, a2, by simp; omega, a4, fun hc => by simp [h3] at hc, a6, a7, a8, a9⟩, h3, by simp; omega, by simp; omega, h6, h7, by omega, by omega, fun _ => lt_late (u := 0), h11⟩
            refine ⟨_, _, _, _, ?_, hj⟩
            rw [hu]
            simpa using j6 hj
          · rw [hw]
            have hsd : sideF d 1 = ⟨0, 0⟩ := by simp [sideF, hck]
            have hu : untilR d 1 (now + 2) now = ({ d with Until_e1 := now + 2 }, 0, ⟨0, 0⟩) := by
              simp [untilR, hsd, hrg, h3, out1, lt_late (u := 0)]
            have hj : J N now { d with Until_e1 := now + 2 } f g := ⟨by omega, ⟨a1, a2, a3, by simp; omega, a5, fun hc => by simp [h3] at hc, a7, a8, a9⟩, h3, by simp; omega, by simp; omega, h6, h7, by omega, by omega, h10, fun _ => lt_late (u := 0)⟩
            refine ⟨_, _, _, _, ?_, hj⟩
            rw [hu]
            simpa using j6 hj
        · have e3 : (moves[n] == 3) = false := by simpa using m3
          simp only [e3, cond_false]
          exact ⟨now, d, f, g, j6 hup, hup⟩
theorem end3 (moves : List Int) (hm : moves.length ≤ 300) {now : Int} {d : Desc} {f g : S23} (h : J moves.length now d f g) :
    taskmilllaw_PollLosesNone_l3 moves (now, ((moves.length : Nat) : Int), d, f, g) = some (.inr true) := by
  obtain ⟨h1, ok, h3, h4, h5, h6, h7, h8, h9, h10, h11⟩ := h
  have hck := ok_check ok
  unfold taskmilllaw_PollLosesNone_l3
  have hlt : decide (((moves.length : Nat) : Int) < ((moves.length : Nat) : Int)) = false := by simp
  simp only [hlt, cond_false]
  have hc : closeR d = (⟨true, false, false, 0, 0, 0, 0⟩, false, ⟨0, 0⟩, who (decide (0 < d.Task_e0)) (decide (0 < d.Task_e1)) d.Task_e0 d.Task_e1) := by simp [closeR, hck, h3]
  rw [close_eq, hc]
  simp only [Option.bind_some]
  have s0 : ∀ p n c l x, taskmilllaw_PollLosesNone_l2 now d (p, n, 0, c, l, x) = some (.inl (p, (bif decide (0 < d.Task_e0) then IntKind.i64.wrap (n + 1) else n), 1, c, l, x)) := by
    intro p n c l x
    simp only [taskmilllaw_PollLosesNone_l2]
    cases decide (0 < d.Task_e0) <;> simp [taskmilllaw_PollLosesNone_j13, w1]
  have s1 : ∀ p n c l x, taskmilllaw_PollLosesNone_l2 now d (p, n, 1, c, l, x) = some (.inl (p, (bif decide (0 < d.Task_e1) then IntKind.i64.wrap (n + 1) else n), 2, c, l, x)) := by
    intro p n c l x
    simp only [taskmilllaw_PollLosesNone_l2]
    cases decide (0 < d.Task_e1) <;> simp [taskmilllaw_PollLosesNone_j13, w2]
  rw [loopO_inl (s0 _ _ _ _ _), loopO_inl (s1 _ _ _ _ _)]
  have okc : OkD ⟨true, false, false, 0, 0, 0, 0⟩ := ⟨by decide, by decide, by decide, by decide, by decide, by decide, by decide, by decide, by decide⟩
  have hw := wait0 okc (ok_check okc) 1 now (by omega) (by omega)
  have hl : (((who (decide (0 < d.Task_e0)) (decide (0 < d.Task_e1)) d.Task_e0 d.Task_e1).length : Nat) : Int) = (bif decide (0 < d.Task_e1) then IntKind.i64.wrap ((bif decide (0 < d.Task_e0) then IntKind.i64.wrap (0 + 1) else 0) + 1) else (bif decide (0 < d.Task_e0) then IntKind.i64.wrap (0 + 1) else 0)) := by
    cases decide (0 < d.Task_e0) <;> cases decide (0 < d.Task_e1) <;> rfl
  have : loopO (taskmilllaw_PollLosesNone_l2 now d) (false, (bif decide (0 < d.Task_e1) then IntKind.i64.wrap ((bif decide (0 < d.Task_e0) then IntKind.i64.wrap (0 + 1) else 0) + 1) else (bif decide (0 < d.Task_e0) then IntKind.i64.wrap (0 + 1) else 0)), 2, ⟨true, false, false, 0, 0, 0, 0⟩, who (decide (0 < d.Task_e0)) (decide (0 < d.Task_e1)) d.Task_e0 d.Task_e1, ⟨0, 0⟩) = some true := by
    refine loopO_inr ?_
    simp only [taskmilllaw_PollLosesNone_l2, hl, hw]
    simp
  rw [this]; rfl
theorem loses (moves : List Int) : taskmilllaw_PollLosesNone moves = some true := by
  unfold taskmilllaw_PollLosesNone
  rw [begun_eq]
  simp only [Option.bind_some, Bool.not_true, cond_false]
  by_cases hm : (300 : Int) < ((moves.length : Nat) : Int)
  · simp [hm]
  · have hm' : moves.length ≤ 300 := by omega
    simp only [hm, decide_false, cond_false]
    obtain ⟨r, h1, rfl⟩ := loopO_inv (step := taskmilllaw_PollLosesNone_l3 moves) (fun s => ∃ n : Nat, n ≤ moves.length ∧ s.2.1 = (n : Int) ∧ J n s.1 s.2.2.1 s.2.2.2.1 s.2.2.2.2) (fun s => (moves.length - s.2.1.toNat)) (fun r => r = true) (fun s hs => by
      obtain ⟨now, i, d, f, g⟩ := s
      obtain ⟨n, hn, rfl, hj⟩ := hs
      simp only at hj
      by_cases hlt : n < moves.length
      · obtain ⟨now', d', f', g', e, hj'⟩ := step3 moves hlt hm' hj ((n + 1 : Nat) : Int) rfl
        exact .inl ⟨_, e, ⟨n + 1, hlt, rfl, hj'⟩, by simp only [Int.toNat_natCast]; omega⟩
      · have : n = moves.length := by omega
        subst this
        exact .inr ⟨true, end3 moves hm' hj, rfl⟩) (s0 := (0, 0, ⟨false, false, false, 0, 0, 0, 0⟩, ⟨0, 0⟩, ⟨0, 0⟩))
      ⟨0, Nat.zero_le _, rfl, by decide, no_ok, rfl, by decide, by decide, by decide, by decide, by decide, by decide, fun h => by simp at h, fun h => by simp at h⟩
    exact h1
end Go.Proofs.Ytbglmhcpfjmadaa
