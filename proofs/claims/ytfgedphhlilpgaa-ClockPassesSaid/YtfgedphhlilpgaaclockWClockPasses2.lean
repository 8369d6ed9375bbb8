/-
  What laws of the chapter clock compute, and lemmas on it.
  No conditions.
-/
import Derived.Test.YtfgedphhlilpgaaclockWClockPasses1
set_option linter.unusedSimpArgs false
set_option linter.unusedVariables false
namespace Go.Proofs.Ytfgedphhlilpgaa
open Go Go.Sx
attribute [local irreducible] Wk RunAt
set_option maxRecDepth 100000 in
set_option maxHeartbeats 200000000 in
theorem taskmilllaw_ClockPasses_spec (c : Clock) (ticks : Int) (r : Bool) (h : taskmilllaw_ClockPasses c ticks = some r) : SpecW Try.prog 3 [.agg (Enc.cells c), iS ticks] [] 0 (fun x h n => x = bS r ∧ h = [] ∧ n = 0) := by
  unfold taskmilllaw_ClockPasses at h
  refine spec_of (draw_ok _) Try.func3 rfl (by decide) rfl (by kernel_rfl) ?_
  refine seq_np ?_
  refine reg_f ?_
  refine rs 2 [] [] (by kernel_rfl) allP_nil ?_
  refine rf [(1, iS ticks), (2, .ptr 0 0)] [(0, .row 24 (Enc.cells c))] 1 (by kernel_rfl) ?_
  refine wk_id ?_
  refine seq_np ?_
  refine seq_np ?_
  refine reg_f ?_
  obtain ⟨r2384, hr2384, h⟩ := bind_sx h
  refine run_call 8 [] (some 14) (by kernel_rfl) ?_
  refine call_0 (taskmilllaw_clockBegun_spec r2384 hr2384) (by simp only [push_cast, seval]) (by simp only [push_cast, seval]) ?_
  refine back_f ?_
  refine rs 1 [] [] (by kernel_rfl) allP_nil ?_
  refine rf [(1, iS ticks), (2, .ptr 0 0), (15, bS (!r2384))] [(0, .row 24 (Enc.cells c))] 1 (by kernel_rfl) ?_
  refine wk_id ?_
  refine cond_sx h (by kernel_rfl) (fun g2447 h => ?_) (fun g2447 h => ?_)
  · refine seq_np ?_
    refine reg_f ?_
    refine rs 1 [] [] (by kernel_rfl) allP_nil ?_
    refine rf [(4, bS false)] [(0, .row 24 (Enc.cells c))] 1 (by kernel_rfl) ?_
    refine wk_id ?_
    obtain rfl := Option.some.inj h
    refine ret_at (bS false) (by kernel_rfl) ?_
    exact ret_e [] [] (by simp only [push_cast, seval]) (by simp only [push_cast, seval]) rfl rfl rfl
  · refine wk_id ?_
    refine seq_np ?_
    refine seq_np ?_
    refine reg_f ?_
    refine rs 4 [] [] (by kernel_rfl) allP_nil ?_
    refine rf [(1, iS ticks), (2, .ptr 0 0), (19, bS (decide ((700 : Int) < ((c.List.length : Nat) : Int))))] [(0, .row 24 (Enc.cells c))] 1 (by kernel_rfl) ?_
    refine wk_id ?_
    refine cond_sx h (by kernel_rfl) (fun g2446 h => ?_) (fun g2446 h => ?_)
    · refine seq_np ?_
      refine reg_f ?_
      refine rs 1 [] [] (by kernel_rfl) allP_nil ?_
      refine rf [(4, bS true)] [(0, .row 24 (Enc.cells c))] 1 (by kernel_rfl) ?_
      refine wk_id ?_
      obtain rfl := Option.some.inj h
      refine ret_at (bS true) (by kernel_rfl) ?_
      exact ret_e [] [] (by simp only [push_cast, seval]) (by simp only [push_cast, seval]) rfl rfl rfl
    · refine wk_id ?_
      refine seq_np ?_
      refine reg_f ?_
      refine rs 1 [] [] (by kernel_rfl) allP_nil ?_
      obtain ⟨r2388, hr2388, h⟩ := bind_sx h
      refine call_x (taskmilllaw_ownClock_spec c r2388 hr2388) (args := [.agg (Enc.cells c)]) (dst := (some 22)) (by kernel_rfl) [(0, .row 24 (Enc.cells c))] 1 (by kernel_rfl) [] [] (.agg [iS r2388.1, iS r2388.2.1, .own 1 0 r2388.2.2.length]) [(1, .row 54 (fl r2388.2.2))] (by simp only [push_cast, seval]) (by simp only [push_cast, seval]) (by kernel_rfl) (.inl rfl) (by simp only [push_cast, seval]) (by simp only [push_cast, seval]) ?_
      refine rs 1 [] [] (by kernel_rfl) allP_nil ?_
      obtain ⟨r2389, hr2389, h⟩ := bind_sx h
      refine call_x (clock_Pass_spec (Clock.mk r2388.1 r2388.2.1 r2388.2.2) ticks r2389 hr2389) (args := [.agg [iS r2388.1, iS r2388.2.1, .own 1 0 r2388.2.2.length], iS ticks]) (dst := (some 24)) (by kernel_rfl) [(0, .row 24 (Enc.cells c)), (1, .row 54 (fl r2388.2.2))] 2 (by kernel_rfl) [] [1] (.tup [.agg [iS r2389.1, iS r2389.2.1, .own 2 0 r2389.2.2.2.1.length], .own 3 0 r2389.2.2.2.2.length, .agg (Enc.cells r2389.2.2.1)]) [(2, .row 54 (fl r2389.2.2.2.1)), (3, .row 43 (fl r2389.2.2.2.2))] (by simp only [push_cast, seval]) (by simp only [push_cast, seval]) (by kernel_rfl) (.inr ⟨by simp only [push_cast, seval], by simp only [push_cast, seval]⟩) (by simp only [push_cast, seval]) (by simp only [push_cast, seval]) ?_
      refine rs 9 [] [] (by kernel_rfl) allP_nil ?_
      refine rf [(1, iS ticks), (2, .ptr 0 0), (5, .ptr 4 0), (6, .own 3 0 r2389.2.2.2.2.length), (7, .ptr 5 0)] [(0, .row 24 (Enc.cells c)), (1, .row 54 (fl r2388.2.2)), (2, .row 54 (fl r2389.2.2.2.1)), (3, .row 43 (fl r2389.2.2.2.2)), (4, .row 24 [iS r2389.1, iS r2389.2.1, .own 2 0 r2389.2.2.2.1.length]), (5, .row 28 (Enc.cells r2389.2.2.1))] 6 (by kernel_rfl) ?_
      refine wk_id ?_
      refine seq_np ?_
      refine reg_f ?_
      refine rs 1 [] [] (by kernel_rfl) allP_nil ?_
      obtain ⟨r2391, hr2391, h⟩ := bind_sx h
      refine run_call 11 [.agg (Enc.cells c)] (some 29) (by kernel_rfl) ?_
      refine call_0 (taskmillref_ClockFault_spec c r2391 hr2391) (by simp only [push_cast, seval]) (by simp only [push_cast, seval]) ?_
      refine back_f ?_
      refine rs 2 [] [] (by kernel_rfl) allP_nil ?_
      refine rf [(1, iS ticks), (2, .ptr 0 0), (5, .ptr 4 0), (6, .own 3 0 r2389.2.2.2.2.length), (7, .ptr 5 0), (8, .ptr 6 0)] [(0, .row 24 (Enc.cells c)), (1, .row 54 (fl r2388.2.2)), (2, .row 54 (fl r2389.2.2.2.1)), (3, .row 43 (fl r2389.2.2.2.2)), (4, .row 24 [iS r2389.1, iS r2389.2.1, .own 2 0 r2389.2.2.2.1.length]), (5, .row 28 (Enc.cells r2389.2.2.1)), (6, .row 28 (Enc.cells r2391))] 7 (by kernel_rfl) ?_
      refine wk_id ?_
      refine seq_cut (A := Int × Int × (List S43) × Fault × Fault × (List Alarm)) (fun a => ([(1, iS ticks), (2, .ptr 0 0), (5, .ptr 1 0), (6, .own 2 0 a.2.2.1.length), (7, .ptr 3 0), (8, .ptr 4 0)], [(0, .row 24 (Enc.cells c)), (1, .row 24 [iS a.1, iS a.2.1, .own 5 0 a.2.2.2.2.2.length]), (2, .row 43 (fl a.2.2.1)), (3, .row 28 (Enc.cells a.2.2.2.1)), (4, .row 28 (Enc.cells a.2.2.2.2.1)), (5, .row 54 (fl a.2.2.2.2.2))], 6)) (fun a => (taskmilllaw_ClockPasses_j5 c ticks a.1 a.2.1 a.2.2.1 a.2.2.2.1 a.2.2.2.2.1 a.2.2.2.2.2) = some r) (fun K2397 hK2397 => ?_) ?_
      · refine seq_cut (A := Unit) (fun _ => ([(1, iS ticks), (2, .ptr 0 0), (5, .ptr 4 0), (6, .own 3 0 r2389.2.2.2.2.length), (7, .ptr 5 0), (8, .ptr 6 0), (40, bS ((r2391.Code == 0) && ((decide (ticks < 0)) || (decide ((1000000000 : Int) < ticks)))))], [(0, .row 24 (Enc.cells c)), (1, .row 54 (fl r2388.2.2)), (2, .row 54 (fl r2389.2.2.2.1)), (3, .row 43 (fl r2389.2.2.2.2)), (4, .row 24 [iS r2389.1, iS r2389.2.1, .own 2 0 r2389.2.2.2.1.length]), (5, .row 28 (Enc.cells r2389.2.2.1)), (6, .row 28 (Enc.cells r2391))], 7)) (fun _ => True) (fun K2400 hK2400 => ?_) (fun _ _ => ?_)
        · refine reg_f ?_
          refine rs 4 [] [] (by kernel_rfl) allP_nil ?_
          refine run_split 33 (r2391.Code == 0) (.inl (by kernel_rfl)) (fun g2401 => ?_) (fun g2401 => ?_)
          · refine rs 3 [] [] (by kernel_rfl) allP_nil ?_
            refine run_split 36 (decide (ticks < 0)) (.inr (by kernel_rfl)) (fun g2402 => ?_) (fun g2402 => ?_)
            · refine rs 4 [] [] (by kernel_rfl) allP_nil ?_
              refine rf [(1, iS ticks), (2, .ptr 0 0), (5, .ptr 4 0), (6, .own 3 0 r2389.2.2.2.2.length), (7, .ptr 5 0), (8, .ptr 6 0), (40, bS true)] [(0, .row 24 (Enc.cells c)), (1, .row 54 (fl r2388.2.2)), (2, .row 54 (fl r2389.2.2.2.1)), (3, .row 43 (fl r2389.2.2.2.2)), (4, .row 24 [iS r2389.1, iS r2389.2.1, .own 2 0 r2389.2.2.2.1.length]), (5, .row 28 (Enc.cells r2389.2.2.1)), (6, .row 28 (Enc.cells r2391))] 7 (by kernel_rfl) ?_
              exact hK2400 () _ _ _ trivial (leSt_m [(0, 0), (1, 1), (2, 2), (3, 3), (4, 4), (5, 5), (6, 6)] [] (by first | ((try simp only [g2401, g2402]) <;> simp only [push_cast, seval]; done) | ((try simp only [g2401]); (try simp only [g2402]); simp only [push_cast, seval]; done) | (exfalso; clear h; simp_all; done)) (by first | ((try simp only [g2401, g2402]) <;> simp only [push_cast, seval]; done) | ((try simp only [g2401]); (try simp only [g2402]); simp only [push_cast, seval]; done) | (exfalso; clear h; simp_all; done)) rfl rfl rfl)
            · refine rs 4 [] [] (by kernel_rfl) allP_nil ?_
              refine rf [(1, iS ticks), (2, .ptr 0 0), (5, .ptr 4 0), (6, .own 3 0 r2389.2.2.2.2.length), (7, .ptr 5 0), (8, .ptr 6 0), (40, bS (decide ((1000000000 : Int) < ticks)))] [(0, .row 24 (Enc.cells c)), (1, .row 54 (fl r2388.2.2)), (2, .row 54 (fl r2389.2.2.2.1)), (3, .row 43 (fl r2389.2.2.2.2)), (4, .row 24 [iS r2389.1, iS r2389.2.1, .own 2 0 r2389.2.2.2.1.length]), (5, .row 28 (Enc.cells r2389.2.2.1)), (6, .row 28 (Enc.cells r2391))] 7 (by kernel_rfl) ?_
              exact hK2400 () _ _ _ trivial (leSt_m [(0, 0), (1, 1), (2, 2), (3, 3), (4, 4), (5, 5), (6, 6)] [] (by first | ((try simp only [g2401, g2402]) <;> simp only [push_cast, seval]; done) | ((try simp only [g2401]); (try simp only [g2402]); simp only [push_cast, seval]; done) | (exfalso; clear h; simp_all; done)) (by first | ((try simp only [g2401, g2402]) <;> simp only [push_cast, seval]; done) | ((try simp only [g2401]); (try simp only [g2402]); simp only [push_cast, seval]; done) | (exfalso; clear h; simp_all; done)) rfl rfl rfl)
          · refine rs 7 [] [] (by kernel_rfl) allP_nil ?_
            refine rf [(1, iS ticks), (2, .ptr 0 0), (5, .ptr 4 0), (6, .own 3 0 r2389.2.2.2.2.length), (7, .ptr 5 0), (8, .ptr 6 0), (40, bS false)] [(0, .row 24 (Enc.cells c)), (1, .row 54 (fl r2388.2.2)), (2, .row 54 (fl r2389.2.2.2.1)), (3, .row 43 (fl r2389.2.2.2.2)), (4, .row 24 [iS r2389.1, iS r2389.2.1, .own 2 0 r2389.2.2.2.1.length]), (5, .row 28 (Enc.cells r2389.2.2.1)), (6, .row 28 (Enc.cells r2391))] 7 (by kernel_rfl) ?_
            exact hK2400 () _ _ _ trivial (leSt_m [(0, 0), (1, 1), (2, 2), (3, 3), (4, 4), (5, 5), (6, 6)] [] (by (try simp only [g2401]) <;> simp only [push_cast, seval]) (by (try simp only [g2401]) <;> simp only [push_cast, seval]) rfl rfl rfl)
        · dsimp only
          refine cond_sx h (by kernel_rfl) (fun g2405 h => ?_) (fun g2405 h => ?_)
          · refine reg_f ?_
            obtain ⟨r2404, hr2404, h⟩ := bind_sx h
            refine run_call 12 [iS 3, iS (-1)] (some 41) (by kernel_rfl) ?_
            refine call_0 (taskmillref_F_spec 3 (-1) r2404 hr2404) (by simp only [push_cast, seval]) (by simp only [push_cast, seval]) ?_
            refine back_f ?_
            refine rs 1 [] [] (by kernel_rfl) allP_nil ?_
            refine rf [(1, iS ticks), (2, .ptr 0 0), (5, .ptr 4 0), (6, .own 3 0 r2389.2.2.2.2.length), (7, .ptr 5 0), (8, .ptr 6 0)] [(0, .row 24 (Enc.cells c)), (1, .row 54 (fl r2388.2.2)), (2, .row 54 (fl r2389.2.2.2.1)), (3, .row 43 (fl r2389.2.2.2.2)), (4, .row 24 [iS r2389.1, iS r2389.2.1, .own 2 0 r2389.2.2.2.1.length]), (5, .row 28 (Enc.cells r2389.2.2.1)), (6, .row 28 (Enc.cells r2404))] 7 (by kernel_rfl) ?_
            exact hK2397 (r2389.1, r2389.2.1, r2389.2.2.2.2, r2389.2.2.1, r2404, r2389.2.2.2.1) _ _ _ h (leSt_m [(0, 0), (1, 4), (2, 3), (3, 5), (4, 6), (5, 2)] [] (by simp only [push_cast, seval]) (by simp only [push_cast, seval]) rfl rfl rfl)
          · exact hK2397 (r2389.1, r2389.2.1, r2389.2.2.2.2, r2389.2.2.1, r2391, r2389.2.2.2.1) _ _ _ h (leSt_m [(0, 0), (1, 4), (2, 3), (3, 5), (4, 6), (5, 2)] [] (by simp only [push_cast, seval]) (by simp only [push_cast, seval]) rfl rfl rfl)
      · rintro ⟨c1_Now1, c1_Next1, c2q1, c3q3, c4q2, c5q3⟩ h
        try dsimp only at h ⊢
        unfold taskmilllaw_ClockPasses_j5 at h
        refine seq_np ?_
        refine reg_f ?_
        refine rs 4 [] [] (by kernel_rfl) allP_nil ?_
        refine rf [(1, iS ticks), (2, .ptr 0 0), (5, .ptr 1 0), (6, .own 2 0 c2q1.length), (7, .ptr 3 0), (8, .ptr 4 0), (9, .ptr 6 0), (10, .v (.slice none 0 0))] [(0, .row 24 (Enc.cells c)), (1, .row 24 [iS c1_Now1, iS c1_Next1, .own 5 0 c5q3.length]), (2, .row 43 (fl c2q1)), (3, .row 28 (Enc.cells c3q3)), (4, .row 28 (Enc.cells c4q2)), (5, .row 54 (fl c5q3)), (6, .row 24 [iS 0, iS 0, .v (.slice none 0 0)])] 7 (by kernel_rfl) ?_
        refine wk_id ?_
        refine seq_cut (A := Fault × Clock × (List S43)) (fun a => ([(5, .ptr 0 0), (6, .own 1 0 c2q1.length), (7, .ptr 2 0), (8, .ptr 3 0), (9, .ptr 4 0), (10, .own 5 0 a.2.2.length)], [(0, .row 24 [iS c1_Now1, iS c1_Next1, .own 6 0 c5q3.length]), (1, .row 43 (fl c2q1)), (2, .row 28 (Enc.cells c3q3)), (3, .row 28 (Enc.cells a.1)), (4, .row 24 (Enc.cells a.2.1)), (5, .row 43 (fl a.2.2)), (6, .row 54 (fl c5q3))], 7)) (fun a => (taskmilllaw_ClockPasses_j3 c1_Now1 c1_Next1 c2q1 c3q3 c5q3 a.1 a.2.1 a.2.2) = some r) (fun K2413 hK2413 => ?_) ?_
        · refine seq_np ?_
          refine reg_f ?_
          refine rs 3 [] [] (by kernel_rfl) allP_nil ?_
          refine rf [(1, iS ticks), (2, .ptr 0 0), (5, .ptr 1 0), (6, .own 2 0 c2q1.length), (7, .ptr 3 0), (8, .ptr 4 0), (9, .ptr 6 0), (10, .v (.slice none 0 0)), (45, bS (c4q2.Code == 0))] [(0, .row 24 (Enc.cells c)), (1, .row 24 [iS c1_Now1, iS c1_Next1, .own 5 0 c5q3.length]), (2, .row 43 (fl c2q1)), (3, .row 28 (Enc.cells c3q3)), (4, .row 28 (Enc.cells c4q2)), (5, .row 54 (fl c5q3)), (6, .row 24 [iS 0, iS 0, .v (.slice none 0 0)])] 7 (by kernel_rfl) ?_
          refine wk_id ?_
          refine cond_sx h (by kernel_rfl) (fun g2423 h => ?_) (fun g2423 h => ?_)
          · refine seq_np ?_
            refine reg_f ?_
            refine rs 2 [] [] (by kernel_rfl) allP_nil ?_
            obtain ⟨r2415, hr2415, h⟩ := bind_sx h
            refine call_x (taskmillref_Passed_spec c ticks r2415 hr2415) (args := [.agg (Enc.cells c), iS ticks]) (dst := (some 49)) (by kernel_rfl) [(0, .row 24 (Enc.cells c)), (1, .row 24 [iS c1_Now1, iS c1_Next1, .own 5 0 c5q3.length]), (2, .row 43 (fl c2q1)), (3, .row 28 (Enc.cells c3q3)), (4, .row 28 (Enc.cells c4q2)), (5, .row 54 (fl c5q3)), (6, .row 24 [iS 0, iS 0, .v (.slice none 0 0)])] 7 (by kernel_rfl) [] [] (.tup [.agg (Enc.cells r2415.1), .own 7 0 r2415.2.2.length, bS r2415.2.1]) [(7, .row 43 (fl r2415.2.2))] (by simp only [push_cast, seval]) (by simp only [push_cast, seval]) (by kernel_rfl) (.inl rfl) (by simp only [push_cast, seval]) (by simp only [push_cast, seval]) ?_
            refine rs 8 [] [] (by kernel_rfl) allP_nil ?_
            refine rf [(5, .ptr 1 0), (6, .own 2 0 c2q1.length), (7, .ptr 3 0), (8, .ptr 4 0), (9, .ptr 6 0), (11, .ptr 8 0), (12, .own 7 0 r2415.2.2.length), (13, bS r2415.2.1)] [(0, .row 24 (Enc.cells c)), (1, .row 24 [iS c1_Now1, iS c1_Next1, .own 5 0 c5q3.length]), (2, .row 43 (fl c2q1)), (3, .row 28 (Enc.cells c3q3)), (4, .row 28 (Enc.cells c4q2)), (5, .row 54 (fl c5q3)), (6, .row 24 [iS 0, iS 0, .v (.slice none 0 0)]), (7, .row 43 (fl r2415.2.2)), (8, .row 24 (Enc.cells r2415.1))] 9 (by kernel_rfl) ?_
            refine wk_id ?_
            refine seq_cut (A := Fault × Clock × (List S43)) (fun a => ([(5, .ptr 0 0), (6, .own 1 0 c2q1.length), (7, .ptr 2 0), (8, .ptr 3 0), (9, .ptr 4 0), (11, .ptr 5 0), (12, .own 6 0 a.2.2.length)], [(0, .row 24 [iS c1_Now1, iS c1_Next1, .own 7 0 c5q3.length]), (1, .row 43 (fl c2q1)), (2, .row 28 (Enc.cells c3q3)), (3, .row 28 (Enc.cells a.1)), (4, .row 24 [iS 0, iS 0, .v (.slice none 0 0)]), (5, .row 24 (Enc.cells a.2.1)), (6, .row 43 (fl a.2.2)), (7, .row 54 (fl c5q3))], 8)) (fun a => (taskmilllaw_ClockPasses_j4 c1_Now1 c1_Next1 c2q1 c3q3 c5q3 a.1 a.2.1 a.2.2) = some r) (fun K2419 hK2419 => ?_) ?_
            · refine seq_np ?_
              refine reg_f ?_
              refine rs 2 [] [] (by kernel_rfl) allP_nil ?_
              refine rf [(5, .ptr 1 0), (6, .own 2 0 c2q1.length), (7, .ptr 3 0), (8, .ptr 4 0), (9, .ptr 6 0), (11, .ptr 8 0), (12, .own 7 0 r2415.2.2.length), (54, bS (!r2415.2.1))] [(0, .row 24 (Enc.cells c)), (1, .row 24 [iS c1_Now1, iS c1_Next1, .own 5 0 c5q3.length]), (2, .row 43 (fl c2q1)), (3, .row 28 (Enc.cells c3q3)), (4, .row 28 (Enc.cells c4q2)), (5, .row 54 (fl c5q3)), (6, .row 24 [iS 0, iS 0, .v (.slice none 0 0)]), (7, .row 43 (fl r2415.2.2)), (8, .row 24 (Enc.cells r2415.1))] 9 (by kernel_rfl) ?_
              refine wk_id ?_
              refine cond_sx h (by kernel_rfl) (fun g2422 h => ?_) (fun g2422 h => ?_)
              · refine reg_f ?_
                obtain ⟨r2421, hr2421, h⟩ := bind_sx h
                refine run_call 12 [iS 9, iS 0] (some 55) (by kernel_rfl) ?_
                refine call_0 (taskmillref_F_spec 9 0 r2421 hr2421) (by simp only [push_cast, seval]) (by simp only [push_cast, seval]) ?_
                refine back_f ?_
                refine rs 1 [] [] (by kernel_rfl) allP_nil ?_
                refine rf [(5, .ptr 1 0), (6, .own 2 0 c2q1.length), (7, .ptr 3 0), (8, .ptr 4 0), (9, .ptr 6 0), (11, .ptr 8 0), (12, .own 7 0 r2415.2.2.length)] [(0, .row 24 (Enc.cells c)), (1, .row 24 [iS c1_Now1, iS c1_Next1, .own 5 0 c5q3.length]), (2, .row 43 (fl c2q1)), (3, .row 28 (Enc.cells c3q3)), (4, .row 28 (Enc.cells r2421)), (5, .row 54 (fl c5q3)), (6, .row 24 [iS 0, iS 0, .v (.slice none 0 0)]), (7, .row 43 (fl r2415.2.2)), (8, .row 24 (Enc.cells r2415.1))] 9 (by kernel_rfl) ?_
                exact hK2419 (r2421, r2415.1, r2415.2.2) _ _ _ h (leSt_m [(0, 1), (1, 2), (2, 3), (3, 4), (4, 6), (5, 8), (6, 7), (7, 5)] [] (by simp only [push_cast, seval]) (by simp only [push_cast, seval]) rfl rfl rfl)
              · exact hK2419 (c4q2, r2415.1, r2415.2.2) _ _ _ h (leSt_m [(0, 1), (1, 2), (2, 3), (3, 4), (4, 6), (5, 8), (6, 7), (7, 5)] [] (by simp only [push_cast, seval]) (by simp only [push_cast, seval]) rfl rfl rfl)
            · rintro ⟨c3q6, c5q6, c6q2⟩ h
              try dsimp only at h ⊢
              unfold taskmilllaw_ClockPasses_j4 at h
              refine seq_np ?_
              refine reg_f ?_
              refine rs 2 [] [] (by kernel_rfl) allP_nil ?_
              refine rf [(5, .ptr 0 0), (6, .own 1 0 c2q1.length), (7, .ptr 2 0), (8, .ptr 3 0), (9, .ptr 4 0), (12, .own 6 0 c6q2.length)] [(0, .row 24 [iS c1_Now1, iS c1_Next1, .own 7 0 c5q3.length]), (1, .row 43 (fl c2q1)), (2, .row 28 (Enc.cells c3q3)), (3, .row 28 (Enc.cells c3q6)), (4, .row 24 (Enc.cells c5q6)), (5, .row 24 (Enc.cells c5q6)), (6, .row 43 (fl c6q2)), (7, .row 54 (fl c5q3))] 8 (by kernel_rfl) ?_
              refine wk_id ?_
              refine reg_f ?_
              refine rs 2 [] [] (by kernel_rfl) allP_nil ?_
              refine rf [(5, .ptr 0 0), (6, .own 1 0 c2q1.length), (7, .ptr 2 0), (8, .ptr 3 0), (9, .ptr 4 0), (10, .own 6 0 c6q2.length)] [(0, .row 24 [iS c1_Now1, iS c1_Next1, .own 7 0 c5q3.length]), (1, .row 43 (fl c2q1)), (2, .row 28 (Enc.cells c3q3)), (3, .row 28 (Enc.cells c3q6)), (4, .row 24 (Enc.cells c5q6)), (5, .row 24 (Enc.cells c5q6)), (6, .row 43 (fl c6q2)), (7, .row 54 (fl c5q3))] 8 (by kernel_rfl) ?_
              exact hK2413 (c3q6, c5q6, c6q2) _ _ _ h (leSt_m [(0, 0), (1, 1), (2, 2), (3, 3), (4, 4), (5, 6), (6, 7)] [] (by simp only [push_cast, seval]) (by simp only [push_cast, seval]) rfl rfl rfl)
          · exact hK2413 (c4q2, (Clock.mk 0 0 []), []) _ _ _ h (leSt_m [(0, 1), (1, 2), (2, 3), (3, 4), (4, 6), (6, 5)] [] (by simp only [push_cast, seval]) (by simp only [push_cast, seval]) rfl rfl rfl)
        · rintro ⟨c3q5, c4q3, c5q5⟩ h
          try dsimp only at h ⊢
          unfold taskmilllaw_ClockPasses_j3 at h
          refine seq_np ?_
          refine seq_np ?_
          refine reg_f ?_
          refine rs 3 [] [] (by kernel_rfl) allP_nil ?_
          refine rf [(5, .ptr 0 0), (6, .own 1 0 c2q1.length), (8, .ptr 3 0), (9, .ptr 4 0), (10, .own 5 0 c5q5.length), (60, bS (!((c3q3.Code == c3q5.Code) && ((c3q3.At == c3q5.At) && true))))] [(0, .row 24 [iS c1_Now1, iS c1_Next1, .own 6 0 c5q3.length]), (1, .row 43 (fl c2q1)), (2, .row 28 (Enc.cells c3q3)), (3, .row 28 (Enc.cells c3q5)), (4, .row 24 (Enc.cells c4q3)), (5, .row 43 (fl c5q5)), (6, .row 54 (fl c5q3))] 7 (by kernel_rfl) ?_
          refine wk_id ?_
          refine cond_sx h (by kernel_rfl) (fun g2445 h => ?_) (fun g2445 h => ?_)
          · refine seq_np ?_
            refine reg_f ?_
            refine rs 1 [] [] (by kernel_rfl) allP_nil ?_
            refine rf [(4, bS false)] [(0, .row 24 [iS c1_Now1, iS c1_Next1, .own 6 0 c5q3.length]), (1, .row 43 (fl c2q1)), (2, .row 28 (Enc.cells c3q3)), (3, .row 28 (Enc.cells c3q5)), (4, .row 24 (Enc.cells c4q3)), (5, .row 43 (fl c5q5)), (6, .row 54 (fl c5q3))] 7 (by kernel_rfl) ?_
            refine wk_id ?_
            obtain rfl := Option.some.inj h
            refine ret_at (bS false) (by kernel_rfl) ?_
            exact ret_e [] [] (by simp only [push_cast, seval]) (by simp only [push_cast, seval]) rfl rfl rfl
          · refine wk_id ?_
            refine seq_np ?_
            refine seq_np ?_
            refine reg_f ?_
            refine rs 3 [] [] (by kernel_rfl) allP_nil ?_
            refine rf [(5, .ptr 0 0), (6, .own 1 0 c2q1.length), (9, .ptr 4 0), (10, .own 5 0 c5q5.length), (63, bS (c3q5.Code != 0))] [(0, .row 24 [iS c1_Now1, iS c1_Next1, .own 6 0 c5q3.length]), (1, .row 43 (fl c2q1)), (2, .row 28 (Enc.cells c3q3)), (3, .row 28 (Enc.cells c3q5)), (4, .row 24 (Enc.cells c4q3)), (5, .row 43 (fl c5q5)), (6, .row 54 (fl c5q3))] 7 (by kernel_rfl) ?_
            refine wk_id ?_
            refine cond_sx h (by kernel_rfl) (fun g2444 h => ?_) (fun g2444 h => ?_)
            · refine seq_cut (A := Bool) (fun a => ([(4, bS a)], [], 0)) (fun a => (taskmilllaw_ClockPasses_j1 a) = some r) (fun K2433 hK2433 => ?_) ?_
              · refine reg_f ?_
                refine rs 4 [] [] (by kernel_rfl) allP_nil ?_
                refine run_br h 67 (.inl (by kernel_rfl)) (fun g2434 h => ?_) (fun g2434 h => ?_)
                · refine rs 2 [] [] (by kernel_rfl) allP_nil ?_
                  obtain ⟨r2435, hr2435, h⟩ := bind_sx h
                  refine call_x (taskmillref_SameClock_spec (Clock.mk c1_Now1 c1_Next1 c5q3) (Clock.mk 0 0 []) r2435 hr2435) (args := [.agg [iS c1_Now1, iS c1_Next1, .own 6 0 c5q3.length], .agg [iS 0, iS 0, .v (.slice none 0 0)]]) (dst := (some 70)) (by kernel_rfl) [(0, .row 24 [iS c1_Now1, iS c1_Next1, .own 6 0 c5q3.length]), (1, .row 43 (fl c2q1)), (2, .row 28 (Enc.cells c3q3)), (3, .row 28 (Enc.cells c3q5)), (4, .row 24 (Enc.cells c4q3)), (5, .row 43 (fl c5q5)), (6, .row 54 (fl c5q3))] 7 (by kernel_rfl) [] [6] (bS r2435) [] (by simp only [push_cast, seval]) (by simp only [push_cast, seval]) (by kernel_rfl) (.inr ⟨by simp only [push_cast, seval], by simp only [push_cast, seval]⟩) (by simp only [push_cast, seval]) (by simp only [push_cast, seval]) ?_
                  refine rs 2 [] [] (by kernel_rfl) allP_nil ?_
                  refine rf [(4, bS r2435)] [(0, .row 24 [iS c1_Now1, iS c1_Next1, .own 6 0 c5q3.length]), (1, .row 43 (fl c2q1)), (2, .row 28 (Enc.cells c3q3)), (3, .row 28 (Enc.cells c3q5)), (4, .row 24 (Enc.cells c4q3)), (5, .row 43 (fl c5q5)), (6, .row 54 (fl c5q3))] 7 (by kernel_rfl) ?_
                  exact hK2433 (r2435) _ _ _ h (leSt_m [] [] (by (try simp only [g2434]) <;> simp only [push_cast, seval]) (by (try simp only [g2434]) <;> simp only [push_cast, seval]) rfl rfl rfl)
                · refine rs 5 [] [] (by kernel_rfl) allP_nil ?_
                  refine rf [(4, bS false)] [(0, .row 24 [iS c1_Now1, iS c1_Next1, .own 6 0 c5q3.length]), (1, .row 43 (fl c2q1)), (2, .row 28 (Enc.cells c3q3)), (3, .row 28 (Enc.cells c3q5)), (4, .row 24 (Enc.cells c4q3)), (5, .row 43 (fl c5q5)), (6, .row 54 (fl c5q3))] 7 (by kernel_rfl) ?_
                  exact hK2433 (false) _ _ _ h (leSt_m [] [] (by (try simp only [g2434]) <;> simp only [push_cast, seval]) (by (try simp only [g2434]) <;> simp only [push_cast, seval]) rfl rfl rfl)
              · rintro t4q3 h
                try dsimp only at h ⊢
                unfold taskmilllaw_ClockPasses_j1 at h
                obtain rfl := Option.some.inj h
                refine ret_at (bS t4q3) (by kernel_rfl) ?_
                exact ret_e [] [] (by simp only [push_cast, seval]) (by simp only [push_cast, seval]) rfl rfl rfl
            · refine wk_id ?_
              refine seq_cut (A := Bool) (fun a => ([(4, bS a)], [], 0)) (fun a => (taskmilllaw_ClockPasses_j2 a) = some r) (fun K2440 hK2440 => ?_) ?_
              · refine reg_f ?_
                refine rs 2 [] [] (by kernel_rfl) allP_nil ?_
                obtain ⟨r2441, hr2441, h⟩ := bind_sx h
                refine call_x (taskmillref_SameClock_spec (Clock.mk c1_Now1 c1_Next1 c5q3) c4q3 r2441 hr2441) (args := [.agg [iS c1_Now1, iS c1_Next1, .own 6 0 c5q3.length], .agg (Enc.cells c4q3)]) (dst := (some 74)) (by kernel_rfl) [(0, .row 24 [iS c1_Now1, iS c1_Next1, .own 6 0 c5q3.length]), (1, .row 43 (fl c2q1)), (2, .row 28 (Enc.cells c3q3)), (3, .row 28 (Enc.cells c3q5)), (4, .row 24 (Enc.cells c4q3)), (5, .row 43 (fl c5q5)), (6, .row 54 (fl c5q3))] 7 (by kernel_rfl) [] [6] (bS r2441) [] (by simp only [push_cast, seval]) (by simp only [push_cast, seval]) (by kernel_rfl) (.inr ⟨by simp only [push_cast, seval], by simp only [push_cast, seval]⟩) (by simp only [push_cast, seval]) (by simp only [push_cast, seval]) ?_
                refine rs 1 [] [] (by kernel_rfl) allP_nil ?_
                refine run_br h 75 (.inl (by kernel_rfl)) (fun g2442 h => ?_) (fun g2442 h => ?_)
                · refine rs 2 [] [] (by kernel_rfl) allP_nil ?_
                  obtain ⟨r2443, hr2443, h⟩ := bind_sx h
                  refine call_x (taskmillref_SameOff_spec c2q1 c5q5 r2443 hr2443) (args := [.own 1 0 c2q1.length, .own 5 0 c5q5.length]) (dst := (some 78)) (by kernel_rfl) [(0, .row 24 [iS c1_Now1, iS c1_Next1, .own 6 0 c5q3.length]), (1, .row 43 (fl c2q1)), (2, .row 28 (Enc.cells c3q3)), (3, .row 28 (Enc.cells c3q5)), (4, .row 24 (Enc.cells c4q3)), (5, .row 43 (fl c5q5)), (6, .row 54 (fl c5q3))] 7 (by kernel_rfl) [] [1, 5] (bS r2443) [] (by simp only [push_cast, seval]) (by simp only [push_cast, seval]) (by kernel_rfl) (.inr ⟨by simp only [push_cast, seval], by simp only [push_cast, seval]⟩) (by simp only [push_cast, seval]) (by simp only [push_cast, seval]) ?_
                  refine rs 2 [] [] (by kernel_rfl) allP_nil ?_
                  refine rf [(4, bS r2443)] [(0, .row 24 [iS c1_Now1, iS c1_Next1, .own 6 0 c5q3.length]), (1, .row 43 (fl c2q1)), (2, .row 28 (Enc.cells c3q3)), (3, .row 28 (Enc.cells c3q5)), (4, .row 24 (Enc.cells c4q3)), (5, .row 43 (fl c5q5)), (6, .row 54 (fl c5q3))] 7 (by kernel_rfl) ?_
                  exact hK2440 (r2443) _ _ _ h (leSt_m [] [] (by (try simp only [g2442]) <;> simp only [push_cast, seval]) (by (try simp only [g2442]) <;> simp only [push_cast, seval]) rfl rfl rfl)
                · refine rs 5 [] [] (by kernel_rfl) allP_nil ?_
                  refine rf [(4, bS false)] [(0, .row 24 [iS c1_Now1, iS c1_Next1, .own 6 0 c5q3.length]), (1, .row 43 (fl c2q1)), (2, .row 28 (Enc.cells c3q3)), (3, .row 28 (Enc.cells c3q5)), (4, .row 24 (Enc.cells c4q3)), (5, .row 43 (fl c5q5)), (6, .row 54 (fl c5q3))] 7 (by kernel_rfl) ?_
                  exact hK2440 (false) _ _ _ h (leSt_m [] [] (by (try simp only [g2442]) <;> simp only [push_cast, seval]) (by (try simp only [g2442]) <;> simp only [push_cast, seval]) rfl rfl rfl)
              · rintro t4q4 h
                try dsimp only at h ⊢
                unfold taskmilllaw_ClockPasses_j2 at h
                obtain rfl := Option.some.inj h
                refine ret_at (bS t4q4) (by kernel_rfl) ?_
                exact ret_e [] [] (by simp only [push_cast, seval]) (by simp only [push_cast, seval]) rfl rfl rfl

end Go.Proofs.Ytfgedphhlilpgaa
