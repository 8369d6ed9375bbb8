/-
  What laws of the chapter clock compute, and lemmas on it.
  No conditions.
-/
import Derived.Test.YtfgedphhlilpgaaclockWClockSets1
set_option linter.unusedSimpArgs false
set_option linter.unusedVariables false
namespace Go.Proofs.Ytfgedphhlilpgaa
open Go Go.Sx
attribute [local irreducible] Wk RunAt
set_option maxRecDepth 100000 in
set_option maxHeartbeats 200000000 in
theorem taskmilllaw_ClockSets_spec (c : Clock) (xid : Int) (after : Int) (period : Int) (r : Bool) (h : taskmilllaw_ClockSets c xid after period = some r) : SpecW Try.prog 7 [.agg (Enc.cells c), iS xid, iS after, iS period] [] 0 (fun x h n => x = bS r ∧ h = [] ∧ n = 0) := by
  unfold taskmilllaw_ClockSets at h
  refine spec_of (draw_ok _) Try.func7 rfl (by decide) rfl (by kernel_rfl) ?_
  refine seq_np ?_
  refine reg_f ?_
  refine rs 2 [] [] (by kernel_rfl) allP_nil ?_
  refine rf [(1, iS xid), (2, iS after), (3, iS period), (4, .ptr 0 0)] [(0, .row 24 (Enc.cells c))] 1 (by kernel_rfl) ?_
  refine wk_id ?_
  refine seq_np ?_
  refine seq_np ?_
  refine reg_f ?_
  obtain ⟨r3962, hr3962, h⟩ := bind_sx h
  refine run_call 8 [] (some 23) (by kernel_rfl) ?_
  refine call_0 (taskmilllaw_clockBegun_spec r3962 hr3962) (by simp only [push_cast, seval]) (by simp only [push_cast, seval]) ?_
  refine back_f ?_
  refine rs 1 [] [] (by kernel_rfl) allP_nil ?_
  refine rf [(1, iS xid), (2, iS after), (3, iS period), (4, .ptr 0 0), (24, bS (!r3962))] [(0, .row 24 (Enc.cells c))] 1 (by kernel_rfl) ?_
  refine wk_id ?_
  refine cond_sx h (by kernel_rfl) (fun g4122 h => ?_) (fun g4122 h => ?_)
  · refine seq_np ?_
    refine reg_f ?_
    refine rs 1 [] [] (by kernel_rfl) allP_nil ?_
    refine rf [(8, bS false)] [(0, .row 24 (Enc.cells c))] 1 (by kernel_rfl) ?_
    refine wk_id ?_
    obtain rfl := Option.some.inj h
    refine ret_at (bS false) (by kernel_rfl) ?_
    exact ret_e [] [] (by simp only [push_cast, seval]) (by simp only [push_cast, seval]) rfl rfl rfl
  · refine wk_id ?_
    refine seq_np ?_
    refine seq_np ?_
    refine reg_f ?_
    refine rs 3 [] [] (by kernel_rfl) allP_nil ?_
    obtain ⟨r3966, hr3966, h⟩ := bind_sx h
    refine run_call 19 [iS ((c.List.length : Nat) : Int)] (some 28) (by kernel_rfl) ?_
    refine call_0 (taskmilllaw_long_spec ((c.List.length : Nat) : Int) r3966 hr3966) (by simp only [push_cast, seval]) (by simp only [push_cast, seval]) ?_
    refine back_f ?_
    refine rf [(1, iS xid), (2, iS after), (3, iS period), (4, .ptr 0 0), (28, bS r3966)] [(0, .row 24 (Enc.cells c))] 1 (by kernel_rfl) ?_
    refine wk_id ?_
    refine cond_sx h (by kernel_rfl) (fun g4121 h => ?_) (fun g4121 h => ?_)
    · refine seq_np ?_
      refine reg_f ?_
      refine rs 1 [] [] (by kernel_rfl) allP_nil ?_
      refine rf [(8, bS true)] [(0, .row 24 (Enc.cells c))] 1 (by kernel_rfl) ?_
      refine wk_id ?_
      obtain rfl := Option.some.inj h
      refine ret_at (bS true) (by kernel_rfl) ?_
      exact ret_e [] [] (by simp only [push_cast, seval]) (by simp only [push_cast, seval]) rfl rfl rfl
    · refine wk_id ?_
      refine seq_np ?_
      refine reg_f ?_
      refine rs 1 [] [] (by kernel_rfl) allP_nil ?_
      obtain ⟨r3968, hr3968, h⟩ := bind_sx h
      refine call_x (taskmilllaw_ownClock_spec c r3968 hr3968) (args := [.agg (Enc.cells c)]) (dst := (some 30)) (by kernel_rfl) [(0, .row 24 (Enc.cells c))] 1 (by kernel_rfl) [] [] (.agg [iS r3968.1, iS r3968.2.1, .own 1 0 r3968.2.2.length]) [(1, .row 54 (fl r3968.2.2))] (by simp only [push_cast, seval]) (by simp only [push_cast, seval]) (by kernel_rfl) (.inl rfl) (by simp only [push_cast, seval]) (by simp only [push_cast, seval]) ?_
      refine rs 2 [] [] (by kernel_rfl) allP_nil ?_
      refine rf [(1, iS xid), (2, iS after), (3, iS period), (4, .ptr 0 0), (9, .ptr 2 0)] [(0, .row 24 (Enc.cells c)), (1, .row 54 (fl r3968.2.2)), (2, .row 24 [iS r3968.1, iS r3968.2.1, .own 1 0 r3968.2.2.length])] 3 (by kernel_rfl) ?_
      refine wk_id ?_
      refine seq_np ?_
      refine reg_f ?_
      refine rs 1 [] [] (by kernel_rfl) allP_nil ?_
      obtain ⟨r3970, hr3970, h⟩ := bind_sx h
      refine call_x (clock_Check_spec (Clock.mk r3968.1 r3968.2.1 r3968.2.2) r3970 hr3970) (args := [.agg [iS r3968.1, iS r3968.2.1, .own 1 0 r3968.2.2.length]]) (dst := (some 32)) (by kernel_rfl) [(0, .row 24 (Enc.cells c)), (1, .row 54 (fl r3968.2.2)), (2, .row 24 [iS r3968.1, iS r3968.2.1, .own 1 0 r3968.2.2.length])] 3 (by kernel_rfl) [] [1] (.agg (Enc.cells r3970)) [] (by simp only [push_cast, seval]) (by simp only [push_cast, seval]) (by kernel_rfl) (.inr ⟨by simp only [push_cast, seval], by simp only [push_cast, seval]⟩) (by simp only [push_cast, seval]) (by simp only [push_cast, seval]) ?_
      refine rs 2 [] [] (by kernel_rfl) allP_nil ?_
      refine rf [(1, iS xid), (2, iS after), (3, iS period), (4, .ptr 0 0), (9, .ptr 2 0), (10, .ptr 3 0)] [(0, .row 24 (Enc.cells c)), (1, .row 54 (fl r3968.2.2)), (2, .row 24 [iS r3968.1, iS r3968.2.1, .own 1 0 r3968.2.2.length]), (3, .row 28 (Enc.cells r3970))] 4 (by kernel_rfl) ?_
      refine wk_id ?_
      refine seq_np ?_
      refine reg_f ?_
      refine rs 4 [] [] (by kernel_rfl) allP_nil ?_
      obtain ⟨r3972, hr3972, h⟩ := bind_sx h
      refine call_x (clock_Set_spec (Clock.mk r3968.1 r3968.2.1 r3968.2.2) xid after period r3972 hr3972) (args := [.agg [iS r3968.1, iS r3968.2.1, .own 1 0 r3968.2.2.length], iS xid, iS after, iS period]) (dst := (some 38)) (by kernel_rfl) [(0, .row 24 (Enc.cells c)), (1, .row 54 (fl r3968.2.2)), (2, .row 24 [iS r3968.1, iS r3968.2.1, .own 1 0 r3968.2.2.length]), (3, .row 28 (Enc.cells r3970))] 4 (by kernel_rfl) [] [1] (.tup [.agg [iS r3972.1, iS r3972.2.1, .own 4 0 r3972.2.2.2.2.length], bS r3972.2.2.1, .agg (Enc.cells r3972.2.2.2.1)]) [(4, .row 54 (fl r3972.2.2.2.2))] (by simp only [push_cast, seval]) (by simp only [push_cast, seval]) (by kernel_rfl) (.inr ⟨by simp only [push_cast, seval], by simp only [push_cast, seval]⟩) (by simp only [push_cast, seval]) (by simp only [push_cast, seval]) ?_
      refine rs 9 [] [] (by kernel_rfl) allP_nil ?_
      refine rf [(1, iS xid), (2, iS after), (3, iS period), (4, .ptr 0 0), (9, .ptr 2 0), (10, .ptr 3 0), (11, .ptr 5 0), (12, bS r3972.2.2.1), (13, .ptr 6 0)] [(0, .row 24 (Enc.cells c)), (1, .row 54 (fl r3968.2.2)), (2, .row 24 [iS r3968.1, iS r3968.2.1, .own 1 0 r3968.2.2.length]), (3, .row 28 (Enc.cells r3970)), (4, .row 54 (fl r3972.2.2.2.2)), (5, .row 24 [iS r3972.1, iS r3972.2.1, .own 4 0 r3972.2.2.2.2.length]), (6, .row 28 (Enc.cells r3972.2.2.2.1))] 7 (by kernel_rfl) ?_
      refine wk_id ?_
      refine seq_np ?_
      refine reg_f ?_
      refine rs 2 [] [] (by kernel_rfl) allP_nil ?_
      obtain ⟨r3974, hr3974, h⟩ := bind_sx h
      refine call_x (clock_Stop_spec (Clock.mk r3968.1 r3968.2.1 r3968.2.2) xid r3974 hr3974) (args := [.agg [iS r3968.1, iS r3968.2.1, .own 1 0 r3968.2.2.length], iS xid]) (dst := (some 45)) (by kernel_rfl) [(0, .row 24 (Enc.cells c)), (1, .row 54 (fl r3968.2.2)), (2, .row 24 [iS r3968.1, iS r3968.2.1, .own 1 0 r3968.2.2.length]), (3, .row 28 (Enc.cells r3970)), (4, .row 54 (fl r3972.2.2.2.2)), (5, .row 24 [iS r3972.1, iS r3972.2.1, .own 4 0 r3972.2.2.2.2.length]), (6, .row 28 (Enc.cells r3972.2.2.2.1))] 7 (by kernel_rfl) [] [1] (.tup [.agg [iS r3974.1, iS r3974.2.1, .own 7 0 r3974.2.2.2.2.length], bS r3974.2.2.1, .agg (Enc.cells r3974.2.2.2.1)]) [(7, .row 54 (fl r3974.2.2.2.2))] (by simp only [push_cast, seval]) (by simp only [push_cast, seval]) (by kernel_rfl) (.inr ⟨by simp only [push_cast, seval], by simp only [push_cast, seval]⟩) (by simp only [push_cast, seval]) (by simp only [push_cast, seval]) ?_
      refine rs 9 [] [] (by kernel_rfl) allP_nil ?_
      refine rf [(1, iS xid), (2, iS after), (3, iS period), (4, .ptr 0 0), (9, .ptr 2 0), (10, .ptr 3 0), (11, .ptr 5 0), (12, bS r3972.2.2.1), (13, .ptr 6 0), (14, .ptr 8 0), (15, bS r3974.2.2.1), (16, .ptr 9 0)] [(0, .row 24 (Enc.cells c)), (1, .row 54 (fl r3968.2.2)), (2, .row 24 [iS r3968.1, iS r3968.2.1, .own 1 0 r3968.2.2.length]), (3, .row 28 (Enc.cells r3970)), (4, .row 54 (fl r3972.2.2.2.2)), (5, .row 24 [iS r3972.1, iS r3972.2.1, .own 4 0 r3972.2.2.2.2.length]), (6, .row 28 (Enc.cells r3972.2.2.2.1)), (7, .row 54 (fl r3974.2.2.2.2)), (8, .row 24 [iS r3974.1, iS r3974.2.1, .own 7 0 r3974.2.2.2.2.length]), (9, .row 28 (Enc.cells r3974.2.2.2.1))] 10 (by kernel_rfl) ?_
      refine wk_id ?_
      refine seq_np ?_
      refine reg_f ?_
      refine rs 1 [] [] (by kernel_rfl) allP_nil ?_
      obtain ⟨r3976, hr3976, h⟩ := bind_sx h
      refine call_x (clock_Soon_spec (Clock.mk r3968.1 r3968.2.1 r3968.2.2) r3976 hr3976) (args := [.agg [iS r3968.1, iS r3968.2.1, .own 1 0 r3968.2.2.length]]) (dst := (some 51)) (by kernel_rfl) [(0, .row 24 (Enc.cells c)), (1, .row 54 (fl r3968.2.2)), (2, .row 24 [iS r3968.1, iS r3968.2.1, .own 1 0 r3968.2.2.length]), (3, .row 28 (Enc.cells r3970)), (4, .row 54 (fl r3972.2.2.2.2)), (5, .row 24 [iS r3972.1, iS r3972.2.1, .own 4 0 r3972.2.2.2.2.length]), (6, .row 28 (Enc.cells r3972.2.2.2.1)), (7, .row 54 (fl r3974.2.2.2.2)), (8, .row 24 [iS r3974.1, iS r3974.2.1, .own 7 0 r3974.2.2.2.2.length]), (9, .row 28 (Enc.cells r3974.2.2.2.1))] 10 (by kernel_rfl) [] [1] (.tup [iS r3976.1, .agg (Enc.cells r3976.2)]) [] (by simp only [push_cast, seval]) (by simp only [push_cast, seval]) (by kernel_rfl) (.inr ⟨by simp only [push_cast, seval], by simp only [push_cast, seval]⟩) (by simp only [push_cast, seval]) (by simp only [push_cast, seval]) ?_
      refine rs 6 [] [] (by kernel_rfl) allP_nil ?_
      refine rf [(1, iS xid), (2, iS after), (3, iS period), (4, .ptr 0 0), (9, .ptr 2 0), (10, .ptr 3 0), (11, .ptr 5 0), (12, bS r3972.2.2.1), (13, .ptr 6 0), (14, .ptr 8 0), (15, bS r3974.2.2.1), (16, .ptr 9 0), (17, iS r3976.1), (18, .ptr 10 0)] [(0, .row 24 (Enc.cells c)), (1, .row 54 (fl r3968.2.2)), (2, .row 24 [iS r3968.1, iS r3968.2.1, .own 1 0 r3968.2.2.length]), (3, .row 28 (Enc.cells r3970)), (4, .row 54 (fl r3972.2.2.2.2)), (5, .row 24 [iS r3972.1, iS r3972.2.1, .own 4 0 r3972.2.2.2.2.length]), (6, .row 28 (Enc.cells r3972.2.2.2.1)), (7, .row 54 (fl r3974.2.2.2.2)), (8, .row 24 [iS r3974.1, iS r3974.2.1, .own 7 0 r3974.2.2.2.2.length]), (9, .row 28 (Enc.cells r3974.2.2.2.1)), (10, .row 28 (Enc.cells r3976.2))] 11 (by kernel_rfl) ?_
      refine wk_id ?_
      refine seq_np ?_
      refine reg_f ?_
      refine rs 1 [] [] (by kernel_rfl) allP_nil ?_
      obtain ⟨r3978, hr3978, h⟩ := bind_sx h
      refine run_call 11 [.agg (Enc.cells c)] (some 55) (by kernel_rfl) ?_
      refine call_0 (taskmillref_ClockFault_spec c r3978 hr3978) (by simp only [push_cast, seval]) (by simp only [push_cast, seval]) ?_
      refine back_f ?_
      refine rs 2 [] [] (by kernel_rfl) allP_nil ?_
      refine rf [(1, iS xid), (2, iS after), (3, iS period), (4, .ptr 0 0), (9, .ptr 2 0), (10, .ptr 3 0), (11, .ptr 5 0), (12, bS r3972.2.2.1), (13, .ptr 6 0), (14, .ptr 8 0), (15, bS r3974.2.2.1), (16, .ptr 9 0), (17, iS r3976.1), (18, .ptr 10 0), (19, .ptr 11 0)] [(0, .row 24 (Enc.cells c)), (1, .row 54 (fl r3968.2.2)), (2, .row 24 [iS r3968.1, iS r3968.2.1, .own 1 0 r3968.2.2.length]), (3, .row 28 (Enc.cells r3970)), (4, .row 54 (fl r3972.2.2.2.2)), (5, .row 24 [iS r3972.1, iS r3972.2.1, .own 4 0 r3972.2.2.2.2.length]), (6, .row 28 (Enc.cells r3972.2.2.2.1)), (7, .row 54 (fl r3974.2.2.2.2)), (8, .row 24 [iS r3974.1, iS r3974.2.1, .own 7 0 r3974.2.2.2.2.length]), (9, .row 28 (Enc.cells r3974.2.2.2.1)), (10, .row 28 (Enc.cells r3976.2)), (11, .row 28 (Enc.cells r3978))] 12 (by kernel_rfl) ?_
      refine wk_id ?_
      refine seq_np ?_
      refine seq_cut (A := Bool × Bool × Int × Bool × Int × Int × Fault × Int × Int × Fault × Fault × Fault × (List Alarm) × (List Alarm)) (fun a => ([(1, iS xid), (2, iS after), (3, iS period), (4, .ptr 0 0), (11, .ptr 1 0), (12, bS a.1), (13, .ptr 2 0), (14, .ptr 3 0), (15, bS a.2.1), (16, .ptr 4 0), (17, iS a.2.2.1), (18, .ptr 5 0), (19, .ptr 6 0), (64, bS a.2.2.2.1)], [(0, .row 24 (Enc.cells c)), (1, .row 24 [iS a.2.2.2.2.1, iS a.2.2.2.2.2.1, .own 7 0 a.2.2.2.2.2.2.2.2.2.2.2.2.1.length]), (2, .row 28 (Enc.cells a.2.2.2.2.2.2.1)), (3, .row 24 [iS a.2.2.2.2.2.2.2.1, iS a.2.2.2.2.2.2.2.2.1, .own 8 0 a.2.2.2.2.2.2.2.2.2.2.2.2.2.length]), (4, .row 28 (Enc.cells a.2.2.2.2.2.2.2.2.2.1)), (5, .row 28 (Enc.cells a.2.2.2.2.2.2.2.2.2.2.1)), (6, .row 28 (Enc.cells a.2.2.2.2.2.2.2.2.2.2.2.1)), (7, .row 54 (fl a.2.2.2.2.2.2.2.2.2.2.2.2.1)), (8, .row 54 (fl a.2.2.2.2.2.2.2.2.2.2.2.2.2))], 9)) (fun a => (taskmilllaw_ClockSets_j8 c xid after period a.1 a.2.1 a.2.2.1 a.2.2.2.1 a.2.2.2.2.1 a.2.2.2.2.2.1 a.2.2.2.2.2.2.1 a.2.2.2.2.2.2.2.1 a.2.2.2.2.2.2.2.2.1 a.2.2.2.2.2.2.2.2.2.1 a.2.2.2.2.2.2.2.2.2.2.1 a.2.2.2.2.2.2.2.2.2.2.2.1 a.2.2.2.2.2.2.2.2.2.2.2.2.1 a.2.2.2.2.2.2.2.2.2.2.2.2.2) = some r) (fun K3987 hK3987 => ?_) ?_
      · refine reg_f ?_
        refine rs 4 [] [] (by kernel_rfl) allP_nil ?_
        refine run_br h 59 (.inl (by kernel_rfl)) (fun g3988 h => ?_) (fun g3988 h => ?_)
        · refine rs 5 [] [] (by kernel_rfl) allP_nil ?_
          refine rf [(1, iS xid), (2, iS after), (3, iS period), (4, .ptr 0 0), (11, .ptr 5 0), (12, bS r3972.2.2.1), (13, .ptr 6 0), (14, .ptr 8 0), (15, bS r3974.2.2.1), (16, .ptr 9 0), (17, iS r3976.1), (18, .ptr 10 0), (19, .ptr 11 0), (64, bS true)] [(0, .row 24 (Enc.cells c)), (1, .row 54 (fl r3968.2.2)), (2, .row 24 [iS r3968.1, iS r3968.2.1, .own 1 0 r3968.2.2.length]), (3, .row 28 (Enc.cells r3970)), (4, .row 54 (fl r3972.2.2.2.2)), (5, .row 24 [iS r3972.1, iS r3972.2.1, .own 4 0 r3972.2.2.2.2.length]), (6, .row 28 (Enc.cells r3972.2.2.2.1)), (7, .row 54 (fl r3974.2.2.2.2)), (8, .row 24 [iS r3974.1, iS r3974.2.1, .own 7 0 r3974.2.2.2.2.length]), (9, .row 28 (Enc.cells r3974.2.2.2.1)), (10, .row 28 (Enc.cells r3976.2)), (11, .row 28 (Enc.cells r3978))] 12 (by kernel_rfl) ?_
          exact hK3987 (r3972.2.2.1, r3974.2.2.1, r3976.1, true, r3972.1, r3972.2.1, r3972.2.2.2.1, r3974.1, r3974.2.1, r3974.2.2.2.1, r3976.2, r3978, r3972.2.2.2.2, r3974.2.2.2.2) _ _ _ h (leSt_m [(0, 0), (1, 5), (2, 6), (3, 8), (4, 9), (5, 10), (6, 11), (7, 4), (8, 7)] [] (by (try simp only [g3988]) <;> simp only [push_cast, seval]) (by (try simp only [g3988]) <;> simp only [push_cast, seval]) rfl rfl rfl)
        · refine rs 2 [] [] (by kernel_rfl) allP_nil ?_
          obtain ⟨r3989, hr3989, h⟩ := bind_sx h
          refine call_x (taskmillref_SameClock_spec (Clock.mk r3968.1 r3968.2.1 r3968.2.2) c r3989 hr3989) (args := [.agg [iS r3968.1, iS r3968.2.1, .own 1 0 r3968.2.2.length], .agg (Enc.cells c)]) (dst := (some 62)) (by kernel_rfl) [(0, .row 24 (Enc.cells c)), (1, .row 54 (fl r3968.2.2)), (2, .row 24 [iS r3968.1, iS r3968.2.1, .own 1 0 r3968.2.2.length]), (3, .row 28 (Enc.cells r3970)), (4, .row 54 (fl r3972.2.2.2.2)), (5, .row 24 [iS r3972.1, iS r3972.2.1, .own 4 0 r3972.2.2.2.2.length]), (6, .row 28 (Enc.cells r3972.2.2.2.1)), (7, .row 54 (fl r3974.2.2.2.2)), (8, .row 24 [iS r3974.1, iS r3974.2.1, .own 7 0 r3974.2.2.2.2.length]), (9, .row 28 (Enc.cells r3974.2.2.2.1)), (10, .row 28 (Enc.cells r3976.2)), (11, .row 28 (Enc.cells r3978))] 12 (by kernel_rfl) [] [1] (bS r3989) [] (by simp only [push_cast, seval]) (by simp only [push_cast, seval]) (by kernel_rfl) (.inr ⟨by simp only [push_cast, seval], by simp only [push_cast, seval]⟩) (by simp only [push_cast, seval]) (by simp only [push_cast, seval]) ?_
          refine rs 2 [] [] (by kernel_rfl) allP_nil ?_
          refine rf [(1, iS xid), (2, iS after), (3, iS period), (4, .ptr 0 0), (11, .ptr 5 0), (12, bS r3972.2.2.1), (13, .ptr 6 0), (14, .ptr 8 0), (15, bS r3974.2.2.1), (16, .ptr 9 0), (17, iS r3976.1), (18, .ptr 10 0), (19, .ptr 11 0), (64, bS (!r3989))] [(0, .row 24 (Enc.cells c)), (1, .row 54 (fl r3968.2.2)), (2, .row 24 [iS r3968.1, iS r3968.2.1, .own 1 0 r3968.2.2.length]), (3, .row 28 (Enc.cells r3970)), (4, .row 54 (fl r3972.2.2.2.2)), (5, .row 24 [iS r3972.1, iS r3972.2.1, .own 4 0 r3972.2.2.2.2.length]), (6, .row 28 (Enc.cells r3972.2.2.2.1)), (7, .row 54 (fl r3974.2.2.2.2)), (8, .row 24 [iS r3974.1, iS r3974.2.1, .own 7 0 r3974.2.2.2.2.length]), (9, .row 28 (Enc.cells r3974.2.2.2.1)), (10, .row 28 (Enc.cells r3976.2)), (11, .row 28 (Enc.cells r3978))] 12 (by kernel_rfl) ?_
          exact hK3987 (r3972.2.2.1, r3974.2.2.1, r3976.1, (!r3989), r3972.1, r3972.2.1, r3972.2.2.2.1, r3974.1, r3974.2.1, r3974.2.2.2.1, r3976.2, r3978, r3972.2.2.2.2, r3974.2.2.2.2) _ _ _ h (leSt_m [(0, 0), (1, 5), (2, 6), (3, 8), (4, 9), (5, 10), (6, 11), (7, 4), (8, 7)] [] (by (try simp only [g3988]) <;> simp only [push_cast, seval]) (by (try simp only [g3988]) <;> simp only [push_cast, seval]) rfl rfl rfl)
      · rintro ⟨was2, xis2, n2, t64q2, c1_Now2, c1_Next2, c2q3, c3_Now2, c3_Next2, c4q2, c5q2, c6q2, c7q4, c8q2⟩ h
        try dsimp only at h ⊢
        unfold taskmilllaw_ClockSets_j8 at h
        refine cond_sx h (by kernel_rfl) (fun g4120 h => ?_) (fun g4120 h => ?_)
        · refine seq_np ?_
          refine reg_f ?_
          refine rs 1 [] [] (by kernel_rfl) allP_nil ?_
          refine rf [(8, bS false)] [(0, .row 24 (Enc.cells c)), (1, .row 24 [iS c1_Now2, iS c1_Next2, .own 7 0 c7q4.length]), (2, .row 28 (Enc.cells c2q3)), (3, .row 24 [iS c3_Now2, iS c3_Next2, .own 8 0 c8q2.length]), (4, .row 28 (Enc.cells c4q2)), (5, .row 28 (Enc.cells c5q2)), (6, .row 28 (Enc.cells c6q2)), (7, .row 54 (fl c7q4)), (8, .row 54 (fl c8q2))] 9 (by kernel_rfl) ?_
          refine wk_id ?_
          obtain rfl := Option.some.inj h
          refine ret_at (bS false) (by kernel_rfl) ?_
          exact ret_e [] [] (by simp only [push_cast, seval]) (by simp only [push_cast, seval]) rfl rfl rfl
        · refine wk_id ?_
          refine seq_np ?_
          refine reg_f ?_
          refine rs 3 [] [] (by kernel_rfl) allP_nil ?_
          refine rf [(1, iS xid), (2, iS after), (3, iS period), (4, .ptr 0 0), (11, .ptr 1 0), (12, bS was2), (13, .ptr 2 0), (14, .ptr 3 0), (15, bS xis2), (16, .ptr 4 0), (17, iS n2), (18, .ptr 5 0), (19, .ptr 6 0), (20, .ptr 9 0)] [(0, .row 24 (Enc.cells c)), (1, .row 24 [iS c1_Now2, iS c1_Next2, .own 7 0 c7q4.length]), (2, .row 28 (Enc.cells c2q3)), (3, .row 24 [iS c3_Now2, iS c3_Next2, .own 8 0 c8q2.length]), (4, .row 28 (Enc.cells c4q2)), (5, .row 28 (Enc.cells c5q2)), (6, .row 28 (Enc.cells c6q2)), (7, .row 54 (fl c7q4)), (8, .row 54 (fl c8q2)), (9, .row 28 (Enc.cells c6q2))] 10 (by kernel_rfl) ?_
          refine wk_id ?_
          refine seq_cut (A := Fault) (fun a => ([(1, iS xid), (2, iS after), (3, iS period), (4, .ptr 0 0), (11, .ptr 1 0), (12, bS was2), (13, .ptr 2 0), (14, .ptr 3 0), (15, bS xis2), (16, .ptr 4 0), (17, iS n2), (18, .ptr 5 0), (19, .ptr 6 0), (20, .ptr 7 0)], [(0, .row 24 (Enc.cells c)), (1, .row 24 [iS c1_Now2, iS c1_Next2, .own 8 0 c7q4.length]), (2, .row 28 (Enc.cells c2q3)), (3, .row 24 [iS c3_Now2, iS c3_Next2, .own 9 0 c8q2.length]), (4, .row 28 (Enc.cells c4q2)), (5, .row 28 (Enc.cells c5q2)), (6, .row 28 (Enc.cells c6q2)), (7, .row 28 (Enc.cells a)), (8, .row 54 (fl c7q4)), (9, .row 54 (fl c8q2))], 10)) (fun a => (taskmilllaw_ClockSets_j7 c xid after period was2 xis2 n2 c1_Now2 c1_Next2 c2q3 c3_Now2 c3_Next2 c4q2 c5q2 c6q2 c7q4 c8q2 a) = some r) (fun K3998 hK3998 => ?_) ?_
          · refine seq_cut (A := Unit) (fun _ => ([(1, iS xid), (2, iS after), (3, iS period), (4, .ptr 0 0), (11, .ptr 1 0), (12, bS was2), (13, .ptr 2 0), (14, .ptr 3 0), (15, bS xis2), (16, .ptr 4 0), (17, iS n2), (18, .ptr 5 0), (19, .ptr 6 0), (20, .ptr 9 0), (88, bS ((c6q2.Code == 0) && ((decide (xid < 1)) || ((decide (after < 1)) || ((decide ((1000000000 : Int) < after)) || ((decide (period < 0)) || (decide ((1000000000 : Int) < period))))))))], [(0, .row 24 (Enc.cells c)), (1, .row 24 [iS c1_Now2, iS c1_Next2, .own 7 0 c7q4.length]), (2, .row 28 (Enc.cells c2q3)), (3, .row 24 [iS c3_Now2, iS c3_Next2, .own 8 0 c8q2.length]), (4, .row 28 (Enc.cells c4q2)), (5, .row 28 (Enc.cells c5q2)), (6, .row 28 (Enc.cells c6q2)), (7, .row 54 (fl c7q4)), (8, .row 54 (fl c8q2)), (9, .row 28 (Enc.cells c6q2))], 10)) (fun _ => True) (fun K4004 hK4004 => ?_) (fun _ _ => ?_)
            · refine reg_f ?_
              refine rs 4 [] [] (by kernel_rfl) allP_nil ?_
              refine run_split 69 (c6q2.Code == 0) (.inl (by kernel_rfl)) (fun g4005 => ?_) (fun g4005 => ?_)
              · refine rs 3 [] [] (by kernel_rfl) allP_nil ?_
                refine run_split 72 (decide (xid < 1)) (.inr (by kernel_rfl)) (fun g4006 => ?_) (fun g4006 => ?_)
                · refine rs 16 [] [] (by kernel_rfl) allP_nil ?_
                  refine rf [(1, iS xid), (2, iS after), (3, iS period), (4, .ptr 0 0), (11, .ptr 1 0), (12, bS was2), (13, .ptr 2 0), (14, .ptr 3 0), (15, bS xis2), (16, .ptr 4 0), (17, iS n2), (18, .ptr 5 0), (19, .ptr 6 0), (20, .ptr 9 0), (88, bS true)] [(0, .row 24 (Enc.cells c)), (1, .row 24 [iS c1_Now2, iS c1_Next2, .own 7 0 c7q4.length]), (2, .row 28 (Enc.cells c2q3)), (3, .row 24 [iS c3_Now2, iS c3_Next2, .own 8 0 c8q2.length]), (4, .row 28 (Enc.cells c4q2)), (5, .row 28 (Enc.cells c5q2)), (6, .row 28 (Enc.cells c6q2)), (7, .row 54 (fl c7q4)), (8, .row 54 (fl c8q2)), (9, .row 28 (Enc.cells c6q2))] 10 (by kernel_rfl) ?_
                  exact hK4004 () _ _ _ trivial (leSt_m [(0, 0), (1, 1), (2, 2), (3, 3), (4, 4), (5, 5), (6, 6), (7, 7), (8, 8), (9, 9)] [] (by first | ((try simp only [g4005, g4006]) <;> simp only [push_cast, seval]; done) | ((try simp only [g4005]); (try simp only [g4006]); simp only [push_cast, seval]; done) | (exfalso; clear h; simp_all; done)) (by first | ((try simp only [g4005, g4006]) <;> simp only [push_cast, seval]; done) | ((try simp only [g4005]); (try simp only [g4006]); simp only [push_cast, seval]; done) | (exfalso; clear h; simp_all; done)) rfl rfl rfl)
                · refine rs 4 [] [] (by kernel_rfl) allP_nil ?_
                  refine run_split 76 (decide (after < 1)) (.inr (by kernel_rfl)) (fun g4007 => ?_) (fun g4007 => ?_)
                  · refine rn 11 [(1, iS xid), (2, iS after), (3, iS period), (4, .ptr 0 0), (11, .ptr 1 0), (12, bS was2), (13, .ptr 2 0), (14, .ptr 3 0), (15, bS xis2), (16, .ptr 4 0), (17, iS n2), (18, .ptr 5 0), (19, .ptr 6 0), (20, .ptr 9 0), (69, bS true), (76, .gd true (bS true))] [(0, .row 24 (Enc.cells c)), (1, .row 24 [iS c1_Now2, iS c1_Next2, .own 7 0 c7q4.length]), (2, .row 28 (Enc.cells c2q3)), (3, .row 24 [iS c3_Now2, iS c3_Next2, .own 8 0 c8q2.length]), (4, .row 28 (Enc.cells c4q2)), (5, .row 28 (Enc.cells c5q2)), (6, .row 28 (Enc.cells c6q2)), (7, .row 54 (fl c7q4)), (8, .row 54 (fl c8q2)), (9, .row 28 (Enc.cells c6q2))] 10 (by kernel_rfl) ?_
                    refine rs 12 [] [] (by kernel_rfl) allP_nil ?_
                    refine rf [(1, iS xid), (2, iS after), (3, iS period), (4, .ptr 0 0), (11, .ptr 1 0), (12, bS was2), (13, .ptr 2 0), (14, .ptr 3 0), (15, bS xis2), (16, .ptr 4 0), (17, iS n2), (18, .ptr 5 0), (19, .ptr 6 0), (20, .ptr 9 0), (88, bS true)] [(0, .row 24 (Enc.cells c)), (1, .row 24 [iS c1_Now2, iS c1_Next2, .own 7 0 c7q4.length]), (2, .row 28 (Enc.cells c2q3)), (3, .row 24 [iS c3_Now2, iS c3_Next2, .own 8 0 c8q2.length]), (4, .row 28 (Enc.cells c4q2)), (5, .row 28 (Enc.cells c5q2)), (6, .row 28 (Enc.cells c6q2)), (7, .row 54 (fl c7q4)), (8, .row 54 (fl c8q2)), (9, .row 28 (Enc.cells c6q2))] 10 (by kernel_rfl) ?_
                    exact hK4004 () _ _ _ trivial (leSt_m [(0, 0), (1, 1), (2, 2), (3, 3), (4, 4), (5, 5), (6, 6), (7, 7), (8, 8), (9, 9)] [] (by first | ((try simp only [g4005, g4006, g4007]) <;> simp only [push_cast, seval]; done) | ((try simp only [g4005]); (try simp only [g4006]); (try simp only [g4007]); simp only [push_cast, seval]; done) | (exfalso; clear h; simp_all; done)) (by first | ((try simp only [g4005, g4006, g4007]) <;> simp only [push_cast, seval]; done) | ((try simp only [g4005]); (try simp only [g4006]); (try simp only [g4007]); simp only [push_cast, seval]; done) | (exfalso; clear h; simp_all; done)) rfl rfl rfl)
                  · refine rn 11 [(1, iS xid), (2, iS after), (3, iS period), (4, .ptr 0 0), (11, .ptr 1 0), (12, bS was2), (13, .ptr 2 0), (14, .ptr 3 0), (15, bS xis2), (16, .ptr 4 0), (17, iS n2), (18, .ptr 5 0), (19, .ptr 6 0), (20, .ptr 9 0), (69, bS true), (76, .gd true (bS false))] [(0, .row 24 (Enc.cells c)), (1, .row 24 [iS c1_Now2, iS c1_Next2, .own 7 0 c7q4.length]), (2, .row 28 (Enc.cells c2q3)), (3, .row 24 [iS c3_Now2, iS c3_Next2, .own 8 0 c8q2.length]), (4, .row 28 (Enc.cells c4q2)), (5, .row 28 (Enc.cells c5q2)), (6, .row 28 (Enc.cells c6q2)), (7, .row 54 (fl c7q4)), (8, .row 54 (fl c8q2)), (9, .row 28 (Enc.cells c6q2))] 10 (by kernel_rfl) ?_
                    refine rs 4 [] [] (by kernel_rfl) allP_nil ?_
                    refine run_split 80 (decide ((1000000000 : Int) < after)) (.inr (by kernel_rfl)) (fun g4008 => ?_) (fun g4008 => ?_)
                    · refine rs 8 [] [] (by kernel_rfl) allP_nil ?_
                      refine rf [(1, iS xid), (2, iS after), (3, iS period), (4, .ptr 0 0), (11, .ptr 1 0), (12, bS was2), (13, .ptr 2 0), (14, .ptr 3 0), (15, bS xis2), (16, .ptr 4 0), (17, iS n2), (18, .ptr 5 0), (19, .ptr 6 0), (20, .ptr 9 0), (88, bS true)] [(0, .row 24 (Enc.cells c)), (1, .row 24 [iS c1_Now2, iS c1_Next2, .own 7 0 c7q4.length]), (2, .row 28 (Enc.cells c2q3)), (3, .row 24 [iS c3_Now2, iS c3_Next2, .own 8 0 c8q2.length]), (4, .row 28 (Enc.cells c4q2)), (5, .row 28 (Enc.cells c5q2)), (6, .row 28 (Enc.cells c6q2)), (7, .row 54 (fl c7q4)), (8, .row 54 (fl c8q2)), (9, .row 28 (Enc.cells c6q2))] 10 (by kernel_rfl) ?_
                      exact hK4004 () _ _ _ trivial (leSt_m [(0, 0), (1, 1), (2, 2), (3, 3), (4, 4), (5, 5), (6, 6), (7, 7), (8, 8), (9, 9)] [] (by first | ((try simp only [g4005, g4006, g4007, g4008]) <;> simp only [push_cast, seval]; done) | ((try simp only [g4005]); (try simp only [g4006]); (try simp only [g4007]); (try simp only [g4008]); simp only [push_cast, seval]; done) | (exfalso; clear h; simp_all; done)) (by first | ((try simp only [g4005, g4006, g4007, g4008]) <;> simp only [push_cast, seval]; done) | ((try simp only [g4005]); (try simp only [g4006]); (try simp only [g4007]); (try simp only [g4008]); simp only [push_cast, seval]; done) | (exfalso; clear h; simp_all; done)) rfl rfl rfl)
                    · refine rs 4 [] [] (by kernel_rfl) allP_nil ?_
                      refine run_split 84 (decide (period < 0)) (.inr (by kernel_rfl)) (fun g4009 => ?_) (fun g4009 => ?_)
                      · refine rs 4 [] [] (by kernel_rfl) allP_nil ?_
                        refine rf [(1, iS xid), (2, iS after), (3, iS period), (4, .ptr 0 0), (11, .ptr 1 0), (12, bS was2), (13, .ptr 2 0), (14, .ptr 3 0), (15, bS xis2), (16, .ptr 4 0), (17, iS n2), (18, .ptr 5 0), (19, .ptr 6 0), (20, .ptr 9 0), (88, bS true)] [(0, .row 24 (Enc.cells c)), (1, .row 24 [iS c1_Now2, iS c1_Next2, .own 7 0 c7q4.length]), (2, .row 28 (Enc.cells c2q3)), (3, .row 24 [iS c3_Now2, iS c3_Next2, .own 8 0 c8q2.length]), (4, .row 28 (Enc.cells c4q2)), (5, .row 28 (Enc.cells c5q2)), (6, .row 28 (Enc.cells c6q2)), (7, .row 54 (fl c7q4)), (8, .row 54 (fl c8q2)), (9, .row 28 (Enc.cells c6q2))] 10 (by kernel_rfl) ?_
                        exact hK4004 () _ _ _ trivial (leSt_m [(0, 0), (1, 1), (2, 2), (3, 3), (4, 4), (5, 5), (6, 6), (7, 7), (8, 8), (9, 9)] [] (by first | ((try simp only [g4005, g4006, g4007, g4008, g4009]) <;> simp only [push_cast, seval]; done) | ((try simp only [g4005]); (try simp only [g4006]); (try simp only [g4007]); (try simp only [g4008]); (try simp only [g4009]); simp only [push_cast, seval]; done) | (exfalso; clear h; simp_all; done)) (by first | ((try simp only [g4005, g4006, g4007, g4008, g4009]) <;> simp only [push_cast, seval]; done) | ((try simp only [g4005]); (try simp only [g4006]); (try simp only [g4007]); (try simp only [g4008]); (try simp only [g4009]); simp only [push_cast, seval]; done) | (exfalso; clear h; simp_all; done)) rfl rfl rfl)
                      · refine rs 4 [] [] (by kernel_rfl) allP_nil ?_
                        refine rf [(1, iS xid), (2, iS after), (3, iS period), (4, .ptr 0 0), (11, .ptr 1 0), (12, bS was2), (13, .ptr 2 0), (14, .ptr 3 0), (15, bS xis2), (16, .ptr 4 0), (17, iS n2), (18, .ptr 5 0), (19, .ptr 6 0), (20, .ptr 9 0), (88, bS (decide ((1000000000 : Int) < period)))] [(0, .row 24 (Enc.cells c)), (1, .row 24 [iS c1_Now2, iS c1_Next2, .own 7 0 c7q4.length]), (2, .row 28 (Enc.cells c2q3)), (3, .row 24 [iS c3_Now2, iS c3_Next2, .own 8 0 c8q2.length]), (4, .row 28 (Enc.cells c4q2)), (5, .row 28 (Enc.cells c5q2)), (6, .row 28 (Enc.cells c6q2)), (7, .row 54 (fl c7q4)), (8, .row 54 (fl c8q2)), (9, .row 28 (Enc.cells c6q2))] 10 (by kernel_rfl) ?_
                        exact hK4004 () _ _ _ trivial (leSt_m [(0, 0), (1, 1), (2, 2), (3, 3), (4, 4), (5, 5), (6, 6), (7, 7), (8, 8), (9, 9)] [] (by first | ((try simp only [g4005, g4006, g4007, g4008, g4009]) <;> simp only [push_cast, seval]; done) | ((try simp only [g4005]); (try simp only [g4006]); (try simp only [g4007]); (try simp only [g4008]); (try simp only [g4009]); simp only [push_cast, seval]; done) | (exfalso; clear h; simp_all; done)) (by first | ((try simp only [g4005, g4006, g4007, g4008, g4009]) <;> simp only [push_cast, seval]; done) | ((try simp only [g4005]); (try simp only [g4006]); (try simp only [g4007]); (try simp only [g4008]); (try simp only [g4009]); simp only [push_cast, seval]; done) | (exfalso; clear h; simp_all; done)) rfl rfl rfl)
              · refine rs 19 [] [] (by kernel_rfl) allP_nil ?_
                refine rf [(1, iS xid), (2, iS after), (3, iS period), (4, .ptr 0 0), (11, .ptr 1 0), (12, bS was2), (13, .ptr 2 0), (14, .ptr 3 0), (15, bS xis2), (16, .ptr 4 0), (17, iS n2), (18, .ptr 5 0), (19, .ptr 6 0), (20, .ptr 9 0), (88, bS false)] [(0, .row 24 (Enc.cells c)), (1, .row 24 [iS c1_Now2, iS c1_Next2, .own 7 0 c7q4.length]), (2, .row 28 (Enc.cells c2q3)), (3, .row 24 [iS c3_Now2, iS c3_Next2, .own 8 0 c8q2.length]), (4, .row 28 (Enc.cells c4q2)), (5, .row 28 (Enc.cells c5q2)), (6, .row 28 (Enc.cells c6q2)), (7, .row 54 (fl c7q4)), (8, .row 54 (fl c8q2)), (9, .row 28 (Enc.cells c6q2))] 10 (by kernel_rfl) ?_
                exact hK4004 () _ _ _ trivial (leSt_m [(0, 0), (1, 1), (2, 2), (3, 3), (4, 4), (5, 5), (6, 6), (7, 7), (8, 8), (9, 9)] [] (by (try simp only [g4005]) <;> simp only [push_cast, seval]) (by (try simp only [g4005]) <;> simp only [push_cast, seval]) rfl rfl rfl)
            · dsimp only
              refine cond_sx h (by kernel_rfl) (fun g4012 h => ?_) (fun g4012 h => ?_)
              · refine reg_f ?_
                obtain ⟨r4011, hr4011, h⟩ := bind_sx h
                refine run_call 12 [iS 3, iS (-1)] (some 89) (by kernel_rfl) ?_
                refine call_0 (taskmillref_F_spec 3 (-1) r4011 hr4011) (by simp only [push_cast, seval]) (by simp only [push_cast, seval]) ?_
                refine back_f ?_
                refine rs 1 [] [] (by kernel_rfl) allP_nil ?_
                refine rf [(1, iS xid), (2, iS after), (3, iS period), (4, .ptr 0 0), (11, .ptr 1 0), (12, bS was2), (13, .ptr 2 0), (14, .ptr 3 0), (15, bS xis2), (16, .ptr 4 0), (17, iS n2), (18, .ptr 5 0), (19, .ptr 6 0), (20, .ptr 9 0)] [(0, .row 24 (Enc.cells c)), (1, .row 24 [iS c1_Now2, iS c1_Next2, .own 7 0 c7q4.length]), (2, .row 28 (Enc.cells c2q3)), (3, .row 24 [iS c3_Now2, iS c3_Next2, .own 8 0 c8q2.length]), (4, .row 28 (Enc.cells c4q2)), (5, .row 28 (Enc.cells c5q2)), (6, .row 28 (Enc.cells c6q2)), (7, .row 54 (fl c7q4)), (8, .row 54 (fl c8q2)), (9, .row 28 (Enc.cells r4011))] 10 (by kernel_rfl) ?_
                exact hK3998 (r4011) _ _ _ h (leSt_m [(0, 0), (1, 1), (2, 2), (3, 3), (4, 4), (5, 5), (6, 6), (7, 9), (8, 7), (9, 8)] [] (by simp only [push_cast, seval]) (by simp only [push_cast, seval]) rfl rfl rfl)
              · exact hK3998 (c6q2) _ _ _ h (leSt_m [(0, 0), (1, 1), (2, 2), (3, 3), (4, 4), (5, 5), (6, 6), (7, 9), (8, 7), (9, 8)] [] (by simp only [push_cast, seval]) (by simp only [push_cast, seval]) rfl rfl rfl)
          · rintro c7q5 h
            try dsimp only at h ⊢
            unfold taskmilllaw_ClockSets_j7 at h
            refine seq_np ?_
            refine reg_f ?_
            refine rs 2 [] [] (by kernel_rfl) allP_nil ?_
            obtain ⟨r4014, hr4014, h⟩ := bind_sx h
            refine call_x (taskmillref_NoAlarm_spec c xid r4014 hr4014) (args := [.agg (Enc.cells c), iS xid]) (dst := (some 93)) (by kernel_rfl) [(0, .row 24 (Enc.cells c)), (1, .row 24 [iS c1_Now2, iS c1_Next2, .own 8 0 c7q4.length]), (2, .row 28 (Enc.cells c2q3)), (3, .row 24 [iS c3_Now2, iS c3_Next2, .own 9 0 c8q2.length]), (4, .row 28 (Enc.cells c4q2)), (5, .row 28 (Enc.cells c5q2)), (6, .row 28 (Enc.cells c6q2)), (7, .row 28 (Enc.cells c7q5)), (8, .row 54 (fl c7q4)), (9, .row 54 (fl c8q2))] 10 (by kernel_rfl) [] [] (.tup [.agg [iS r4014.1, iS r4014.2.1, .own 10 0 r4014.2.2.2.length], bS r4014.2.2.1]) [(10, .row 54 (fl r4014.2.2.2))] (by simp only [push_cast, seval]) (by simp only [push_cast, seval]) (by kernel_rfl) (.inl rfl) (by simp only [push_cast, seval]) (by simp only [push_cast, seval]) ?_
            refine rs 6 [] [] (by kernel_rfl) allP_nil ?_
            refine rf [(1, iS xid), (2, iS after), (3, iS period), (4, .ptr 0 0), (11, .ptr 1 0), (12, bS was2), (13, .ptr 2 0), (14, .ptr 3 0), (15, bS xis2), (16, .ptr 4 0), (17, iS n2), (18, .ptr 5 0), (19, .ptr 6 0), (20, .ptr 7 0), (21, .ptr 11 0), (22, bS r4014.2.2.1)] [(0, .row 24 (Enc.cells c)), (1, .row 24 [iS c1_Now2, iS c1_Next2, .own 8 0 c7q4.length]), (2, .row 28 (Enc.cells c2q3)), (3, .row 24 [iS c3_Now2, iS c3_Next2, .own 9 0 c8q2.length]), (4, .row 28 (Enc.cells c4q2)), (5, .row 28 (Enc.cells c5q2)), (6, .row 28 (Enc.cells c6q2)), (7, .row 28 (Enc.cells c7q5)), (8, .row 54 (fl c7q4)), (9, .row 54 (fl c8q2)), (10, .row 54 (fl r4014.2.2.2)), (11, .row 24 [iS r4014.1, iS r4014.2.1, .own 10 0 r4014.2.2.2.length])] 12 (by kernel_rfl) ?_
            refine wk_id ?_
            refine seq_cut (A := Bool × Fault × Int × Int × (List Alarm)) (fun a => ([(1, iS xid), (2, iS after), (3, iS period), (4, .ptr 0 0), (11, .ptr 1 0), (12, bS was2), (13, .ptr 2 0), (14, .ptr 3 0), (15, bS xis2), (16, .ptr 4 0), (17, iS n2), (18, .ptr 5 0), (19, .ptr 6 0), (20, .ptr 7 0), (21, .ptr 8 0), (22, bS a.1)], [(0, .row 24 (Enc.cells c)), (1, .row 24 [iS c1_Now2, iS c1_Next2, .own 9 0 c7q4.length]), (2, .row 28 (Enc.cells c2q3)), (3, .row 24 [iS c3_Now2, iS c3_Next2, .own 10 0 c8q2.length]), (4, .row 28 (Enc.cells c4q2)), (5, .row 28 (Enc.cells c5q2)), (6, .row 28 (Enc.cells c6q2)), (7, .row 28 (Enc.cells a.2.1)), (8, .row 24 [iS a.2.2.1, iS a.2.2.2.1, .own 11 0 a.2.2.2.2.length]), (9, .row 54 (fl c7q4)), (10, .row 54 (fl c8q2)), (11, .row 54 (fl a.2.2.2.2))], 12)) (fun a => (taskmilllaw_ClockSets_j6 c xid after period was2 xis2 n2 c1_Now2 c1_Next2 c2q3 c3_Now2 c3_Next2 c4q2 c5q2 c6q2 c7q4 c8q2 a.1 a.2.1 a.2.2.1 a.2.2.2.1 a.2.2.2.2) = some r) (fun K4020 hK4020 => ?_) ?_
            · refine seq_cut (A := Unit) (fun _ => ([(1, iS xid), (2, iS after), (3, iS period), (4, .ptr 0 0), (11, .ptr 1 0), (12, bS was2), (13, .ptr 2 0), (14, .ptr 3 0), (15, bS xis2), (16, .ptr 4 0), (17, iS n2), (18, .ptr 5 0), (19, .ptr 6 0), (20, .ptr 7 0), (21, .ptr 11 0), (22, bS r4014.2.2.1), (109, bS ((c7q5.Code == 0) && ((((r4014.2.2.2.length : Nat) : Int) == 5000) || (c.Next == 1000000000))))], [(0, .row 24 (Enc.cells c)), (1, .row 24 [iS c1_Now2, iS c1_Next2, .own 8 0 c7q4.length]), (2, .row 28 (Enc.cells c2q3)), (3, .row 24 [iS c3_Now2, iS c3_Next2, .own 9 0 c8q2.length]), (4, .row 28 (Enc.cells c4q2)), (5, .row 28 (Enc.cells c5q2)), (6, .row 28 (Enc.cells c6q2)), (7, .row 28 (Enc.cells c7q5)), (8, .row 54 (fl c7q4)), (9, .row 54 (fl c8q2)), (10, .row 54 (fl r4014.2.2.2)), (11, .row 24 [iS r4014.1, iS r4014.2.1, .own 10 0 r4014.2.2.2.length])], 12)) (fun _ => True) (fun K4023 hK4023 => ?_) (fun _ _ => ?_)
              · refine reg_f ?_
                refine rs 4 [] [] (by kernel_rfl) allP_nil ?_
                refine run_split 99 (c7q5.Code == 0) (.inl (by kernel_rfl)) (fun g4024 => ?_) (fun g4024 => ?_)
                · refine rs 5 [] [] (by kernel_rfl) allP_nil ?_
                  refine run_split 104 (((r4014.2.2.2.length : Nat) : Int) == 5000) (.inr (by kernel_rfl)) (fun g4025 => ?_) (fun g4025 => ?_)
                  · refine rs 5 [] [] (by kernel_rfl) allP_nil ?_
                    refine rf [(1, iS xid), (2, iS after), (3, iS period), (4, .ptr 0 0), (11, .ptr 1 0), (12, bS was2), (13, .ptr 2 0), (14, .ptr 3 0), (15, bS xis2), (16, .ptr 4 0), (17, iS n2), (18, .ptr 5 0), (19, .ptr 6 0), (20, .ptr 7 0), (21, .ptr 11 0), (22, bS r4014.2.2.1), (109, bS true)] [(0, .row 24 (Enc.cells c)), (1, .row 24 [iS c1_Now2, iS c1_Next2, .own 8 0 c7q4.length]), (2, .row 28 (Enc.cells c2q3)), (3, .row 24 [iS c3_Now2, iS c3_Next2, .own 9 0 c8q2.length]), (4, .row 28 (Enc.cells c4q2)), (5, .row 28 (Enc.cells c5q2)), (6, .row 28 (Enc.cells c6q2)), (7, .row 28 (Enc.cells c7q5)), (8, .row 54 (fl c7q4)), (9, .row 54 (fl c8q2)), (10, .row 54 (fl r4014.2.2.2)), (11, .row 24 [iS r4014.1, iS r4014.2.1, .own 10 0 r4014.2.2.2.length])] 12 (by kernel_rfl) ?_
                    exact hK4023 () _ _ _ trivial (leSt_m [(0, 0), (1, 1), (2, 2), (3, 3), (4, 4), (5, 5), (6, 6), (7, 7), (8, 8), (9, 9), (10, 10), (11, 11)] [] (by first | ((try simp only [g4024, g4025]) <;> simp only [push_cast, seval]; done) | ((try simp only [g4024]); (try simp only [g4025]); simp only [push_cast, seval]; done) | (exfalso; clear h; simp_all; done)) (by first | ((try simp only [g4024, g4025]) <;> simp only [push_cast, seval]; done) | ((try simp only [g4024]); (try simp only [g4025]); simp only [push_cast, seval]; done) | (exfalso; clear h; simp_all; done)) rfl rfl rfl)
                  · refine rs 5 [] [] (by kernel_rfl) allP_nil ?_
                    refine rf [(1, iS xid), (2, iS after), (3, iS period), (4, .ptr 0 0), (11, .ptr 1 0), (12, bS was2), (13, .ptr 2 0), (14, .ptr 3 0), (15, bS xis2), (16, .ptr 4 0), (17, iS n2), (18, .ptr 5 0), (19, .ptr 6 0), (20, .ptr 7 0), (21, .ptr 11 0), (22, bS r4014.2.2.1), (109, bS (c.Next == 1000000000))] [(0, .row 24 (Enc.cells c)), (1, .row 24 [iS c1_Now2, iS c1_Next2, .own 8 0 c7q4.length]), (2, .row 28 (Enc.cells c2q3)), (3, .row 24 [iS c3_Now2, iS c3_Next2, .own 9 0 c8q2.length]), (4, .row 28 (Enc.cells c4q2)), (5, .row 28 (Enc.cells c5q2)), (6, .row 28 (Enc.cells c6q2)), (7, .row 28 (Enc.cells c7q5)), (8, .row 54 (fl c7q4)), (9, .row 54 (fl c8q2)), (10, .row 54 (fl r4014.2.2.2)), (11, .row 24 [iS r4014.1, iS r4014.2.1, .own 10 0 r4014.2.2.2.length])] 12 (by kernel_rfl) ?_
                    exact hK4023 () _ _ _ trivial (leSt_m [(0, 0), (1, 1), (2, 2), (3, 3), (4, 4), (5, 5), (6, 6), (7, 7), (8, 8), (9, 9), (10, 10), (11, 11)] [] (by first | ((try simp only [g4024, g4025]) <;> simp only [push_cast, seval]; done) | ((try simp only [g4024]); (try simp only [g4025]); simp only [push_cast, seval]; done) | (exfalso; clear h; simp_all; done)) (by first | ((try simp only [g4024, g4025]) <;> simp only [push_cast, seval]; done) | ((try simp only [g4024]); (try simp only [g4025]); simp only [push_cast, seval]; done) | (exfalso; clear h; simp_all; done)) rfl rfl rfl)
                · refine rs 10 [] [] (by kernel_rfl) allP_nil ?_
                  refine rf [(1, iS xid), (2, iS after), (3, iS period), (4, .ptr 0 0), (11, .ptr 1 0), (12, bS was2), (13, .ptr 2 0), (14, .ptr 3 0), (15, bS xis2), (16, .ptr 4 0), (17, iS n2), (18, .ptr 5 0), (19, .ptr 6 0), (20, .ptr 7 0), (21, .ptr 11 0), (22, bS r4014.2.2.1), (109, bS false)] [(0, .row 24 (Enc.cells c)), (1, .row 24 [iS c1_Now2, iS c1_Next2, .own 8 0 c7q4.length]), (2, .row 28 (Enc.cells c2q3)), (3, .row 24 [iS c3_Now2, iS c3_Next2, .own 9 0 c8q2.length]), (4, .row 28 (Enc.cells c4q2)), (5, .row 28 (Enc.cells c5q2)), (6, .row 28 (Enc.cells c6q2)), (7, .row 28 (Enc.cells c7q5)), (8, .row 54 (fl c7q4)), (9, .row 54 (fl c8q2)), (10, .row 54 (fl r4014.2.2.2)), (11, .row 24 [iS r4014.1, iS r4014.2.1, .own 10 0 r4014.2.2.2.length])] 12 (by kernel_rfl) ?_
                  exact hK4023 () _ _ _ trivial (leSt_m [(0, 0), (1, 1), (2, 2), (3, 3), (4, 4), (5, 5), (6, 6), (7, 7), (8, 8), (9, 9), (10, 10), (11, 11)] [] (by (try simp only [g4024]) <;> simp only [push_cast, seval]) (by (try simp only [g4024]) <;> simp only [push_cast, seval]) rfl rfl rfl)
              · dsimp only
                refine cond_sx h (by kernel_rfl) (fun g4028 h => ?_) (fun g4028 h => ?_)
                · refine reg_f ?_
                  obtain ⟨r4027, hr4027, h⟩ := bind_sx h
                  refine run_call 12 [iS 9, iS 0] (some 110) (by kernel_rfl) ?_
                  refine call_0 (taskmillref_F_spec 9 0 r4027 hr4027) (by simp only [push_cast, seval]) (by simp only [push_cast, seval]) ?_
                  refine back_f ?_
                  refine rs 1 [] [] (by kernel_rfl) allP_nil ?_
                  refine rf [(1, iS xid), (2, iS after), (3, iS period), (4, .ptr 0 0), (11, .ptr 1 0), (12, bS was2), (13, .ptr 2 0), (14, .ptr 3 0), (15, bS xis2), (16, .ptr 4 0), (17, iS n2), (18, .ptr 5 0), (19, .ptr 6 0), (20, .ptr 7 0), (21, .ptr 11 0), (22, bS r4014.2.2.1)] [(0, .row 24 (Enc.cells c)), (1, .row 24 [iS c1_Now2, iS c1_Next2, .own 8 0 c7q4.length]), (2, .row 28 (Enc.cells c2q3)), (3, .row 24 [iS c3_Now2, iS c3_Next2, .own 9 0 c8q2.length]), (4, .row 28 (Enc.cells c4q2)), (5, .row 28 (Enc.cells c5q2)), (6, .row 28 (Enc.cells c6q2)), (7, .row 28 (Enc.cells r4027)), (8, .row 54 (fl c7q4)), (9, .row 54 (fl c8q2)), (10, .row 54 (fl r4014.2.2.2)), (11, .row 24 [iS r4014.1, iS r4014.2.1, .own 10 0 r4014.2.2.2.length])] 12 (by kernel_rfl) ?_
                  exact hK4020 (r4014.2.2.1, r4027, r4014.1, r4014.2.1, r4014.2.2.2) _ _ _ h (leSt_m [(0, 0), (1, 1), (2, 2), (3, 3), (4, 4), (5, 5), (6, 6), (7, 7), (8, 11), (9, 8), (10, 9), (11, 10)] [] (by simp only [push_cast, seval]) (by simp only [push_cast, seval]) rfl rfl rfl)
                · exact hK4020 (r4014.2.2.1, c7q5, r4014.1, r4014.2.1, r4014.2.2.2) _ _ _ h (leSt_m [(0, 0), (1, 1), (2, 2), (3, 3), (4, 4), (5, 5), (6, 6), (7, 7), (8, 11), (9, 8), (10, 9), (11, 10)] [] (by simp only [push_cast, seval]) (by simp only [push_cast, seval]) rfl rfl rfl)
            · rintro ⟨had1, c7q6, c8_Now1, c8_Next1, c11q1⟩ h
              try dsimp only at h ⊢
              unfold taskmilllaw_ClockSets_j6 at h
              refine seq_np ?_
              refine seq_np ?_
              refine reg_f ?_
              refine rs 3 [] [] (by kernel_rfl) allP_nil ?_
              refine rf [(1, iS xid), (2, iS after), (3, iS period), (4, .ptr 0 0), (11, .ptr 1 0), (12, bS was2), (14, .ptr 3 0), (15, bS xis2), (16, .ptr 4 0), (17, iS n2), (18, .ptr 5 0), (19, .ptr 6 0), (20, .ptr 7 0), (21, .ptr 8 0), (22, bS had1), (113, bS (!((c2q3.Code == c7q6.Code) && ((c2q3.At == c7q6.At) && true))))] [(0, .row 24 (Enc.cells c)), (1, .row 24 [iS c1_Now2, iS c1_Next2, .own 9 0 c7q4.length]), (2, .row 28 (Enc.cells c2q3)), (3, .row 24 [iS c3_Now2, iS c3_Next2, .own 10 0 c8q2.length]), (4, .row 28 (Enc.cells c4q2)), (5, .row 28 (Enc.cells c5q2)), (6, .row 28 (Enc.cells c6q2)), (7, .row 28 (Enc.cells c7q6)), (8, .row 24 [iS c8_Now1, iS c8_Next1, .own 11 0 c11q1.length]), (9, .row 54 (fl c7q4)), (10, .row 54 (fl c8q2)), (11, .row 54 (fl c11q1))] 12 (by kernel_rfl) ?_
              refine wk_id ?_
              refine cond_sx h (by kernel_rfl) (fun g4119 h => ?_) (fun g4119 h => ?_)
              · refine seq_np ?_
                refine reg_f ?_
                refine rs 1 [] [] (by kernel_rfl) allP_nil ?_
                refine rf [(8, bS false)] [(0, .row 24 (Enc.cells c)), (1, .row 24 [iS c1_Now2, iS c1_Next2, .own 9 0 c7q4.length]), (2, .row 28 (Enc.cells c2q3)), (3, .row 24 [iS c3_Now2, iS c3_Next2, .own 10 0 c8q2.length]), (4, .row 28 (Enc.cells c4q2)), (5, .row 28 (Enc.cells c5q2)), (6, .row 28 (Enc.cells c6q2)), (7, .row 28 (Enc.cells c7q6)), (8, .row 24 [iS c8_Now1, iS c8_Next1, .own 11 0 c11q1.length]), (9, .row 54 (fl c7q4)), (10, .row 54 (fl c8q2)), (11, .row 54 (fl c11q1))] 12 (by kernel_rfl) ?_
                refine wk_id ?_
                obtain rfl := Option.some.inj h
                refine ret_at (bS false) (by kernel_rfl) ?_
                exact ret_e [] [] (by simp only [push_cast, seval]) (by simp only [push_cast, seval]) rfl rfl rfl
              · refine wk_id ?_
                refine seq_cut (A := Unit) (fun a => ([(4, .ptr 0 0), (14, .ptr 1 0), (15, bS xis2), (16, .ptr 2 0), (17, iS n2), (18, .ptr 3 0), (19, .ptr 4 0), (21, .ptr 5 0), (22, bS had1)], [(0, .row 24 (Enc.cells c)), (1, .row 24 [iS c3_Now2, iS c3_Next2, .own 6 0 c8q2.length]), (2, .row 28 (Enc.cells c4q2)), (3, .row 28 (Enc.cells c5q2)), (4, .row 28 (Enc.cells c6q2)), (5, .row 24 [iS c8_Now1, iS c8_Next1, .own 7 0 c11q1.length]), (6, .row 54 (fl c8q2)), (7, .row 54 (fl c11q1))], 8)) (fun a => (taskmilllaw_ClockSets_j3 c xis2 n2 c3_Now2 c3_Next2 c4q2 c5q2 c6q2 c8q2 had1 c8_Now1 c8_Next1 c11q1) = some r) (fun K4043 hK4043 => ?_) ?_
                · refine seq_np ?_
                  refine reg_f ?_
                  refine rs 3 [] [] (by kernel_rfl) allP_nil ?_
                  refine rf [(1, iS xid), (2, iS after), (3, iS period), (4, .ptr 0 0), (11, .ptr 1 0), (12, bS was2), (14, .ptr 3 0), (15, bS xis2), (16, .ptr 4 0), (17, iS n2), (18, .ptr 5 0), (19, .ptr 6 0), (21, .ptr 8 0), (22, bS had1), (116, bS (c7q6.Code != 0))] [(0, .row 24 (Enc.cells c)), (1, .row 24 [iS c1_Now2, iS c1_Next2, .own 9 0 c7q4.length]), (2, .row 28 (Enc.cells c2q3)), (3, .row 24 [iS c3_Now2, iS c3_Next2, .own 10 0 c8q2.length]), (4, .row 28 (Enc.cells c4q2)), (5, .row 28 (Enc.cells c5q2)), (6, .row 28 (Enc.cells c6q2)), (7, .row 28 (Enc.cells c7q6)), (8, .row 24 [iS c8_Now1, iS c8_Next1, .own 11 0 c11q1.length]), (9, .row 54 (fl c7q4)), (10, .row 54 (fl c8q2)), (11, .row 54 (fl c11q1))] 12 (by kernel_rfl) ?_
                  refine wk_id ?_
                  refine cond_sx h (by kernel_rfl) (fun g4060 h => ?_) (fun g4060 h => ?_)
                  · refine seq_cut (A := Bool) (fun a => ([(4, .ptr 0 0), (14, .ptr 1 0), (15, bS xis2), (16, .ptr 2 0), (17, iS n2), (18, .ptr 3 0), (19, .ptr 4 0), (21, .ptr 5 0), (22, bS had1), (123, bS a)], [(0, .row 24 (Enc.cells c)), (1, .row 24 [iS c3_Now2, iS c3_Next2, .own 6 0 c8q2.length]), (2, .row 28 (Enc.cells c4q2)), (3, .row 28 (Enc.cells c5q2)), (4, .row 28 (Enc.cells c6q2)), (5, .row 24 [iS c8_Now1, iS c8_Next1, .own 7 0 c11q1.length]), (6, .row 54 (fl c8q2)), (7, .row 54 (fl c11q1))], 8)) (fun a => (taskmilllaw_ClockSets_j4 c xis2 n2 c3_Now2 c3_Next2 c4q2 c5q2 c6q2 c8q2 had1 c8_Now1 c8_Next1 c11q1 a) = some r) (fun K4047 hK4047 => ?_) ?_
                    · refine reg_f ?_
                      refine rs 2 [] [] (by kernel_rfl) allP_nil ?_
                      refine run_br h 118 (.inl (by kernel_rfl)) (fun g4048 h => ?_) (fun g4048 h => ?_)
                      · refine rs 5 [] [] (by kernel_rfl) allP_nil ?_
                        refine rf [(4, .ptr 0 0), (14, .ptr 3 0), (15, bS xis2), (16, .ptr 4 0), (17, iS n2), (18, .ptr 5 0), (19, .ptr 6 0), (21, .ptr 8 0), (22, bS had1), (123, bS true)] [(0, .row 24 (Enc.cells c)), (1, .row 24 [iS c1_Now2, iS c1_Next2, .own 9 0 c7q4.length]), (2, .row 28 (Enc.cells c2q3)), (3, .row 24 [iS c3_Now2, iS c3_Next2, .own 10 0 c8q2.length]), (4, .row 28 (Enc.cells c4q2)), (5, .row 28 (Enc.cells c5q2)), (6, .row 28 (Enc.cells c6q2)), (7, .row 28 (Enc.cells c7q6)), (8, .row 24 [iS c8_Now1, iS c8_Next1, .own 11 0 c11q1.length]), (9, .row 54 (fl c7q4)), (10, .row 54 (fl c8q2)), (11, .row 54 (fl c11q1))] 12 (by kernel_rfl) ?_
                        exact hK4047 (true) _ _ _ h (leSt_m [(0, 0), (1, 3), (2, 4), (3, 5), (4, 6), (5, 8), (6, 10), (7, 11)] [] (by (try simp only [g4048]) <;> simp only [push_cast, seval]) (by (try simp only [g4048]) <;> simp only [push_cast, seval]) rfl rfl rfl)
                      · refine rs 2 [] [] (by kernel_rfl) allP_nil ?_
                        obtain ⟨r4049, hr4049, h⟩ := bind_sx h
                        refine call_x (taskmillref_SameClock_spec (Clock.mk c1_Now2 c1_Next2 c7q4) (Clock.mk 0 0 []) r4049 hr4049) (args := [.agg [iS c1_Now2, iS c1_Next2, .own 9 0 c7q4.length], .agg [iS 0, iS 0, .v (.slice none 0 0)]]) (dst := (some 121)) (by kernel_rfl) [(0, .row 24 (Enc.cells c)), (1, .row 24 [iS c1_Now2, iS c1_Next2, .own 9 0 c7q4.length]), (2, .row 28 (Enc.cells c2q3)), (3, .row 24 [iS c3_Now2, iS c3_Next2, .own 10 0 c8q2.length]), (4, .row 28 (Enc.cells c4q2)), (5, .row 28 (Enc.cells c5q2)), (6, .row 28 (Enc.cells c6q2)), (7, .row 28 (Enc.cells c7q6)), (8, .row 24 [iS c8_Now1, iS c8_Next1, .own 11 0 c11q1.length]), (9, .row 54 (fl c7q4)), (10, .row 54 (fl c8q2)), (11, .row 54 (fl c11q1))] 12 (by kernel_rfl) [] [9] (bS r4049) [] (by simp only [push_cast, seval]) (by simp only [push_cast, seval]) (by kernel_rfl) (.inr ⟨by simp only [push_cast, seval], by simp only [push_cast, seval]⟩) (by simp only [push_cast, seval]) (by simp only [push_cast, seval]) ?_
                        refine rs 2 [] [] (by kernel_rfl) allP_nil ?_
                        refine rf [(4, .ptr 0 0), (14, .ptr 3 0), (15, bS xis2), (16, .ptr 4 0), (17, iS n2), (18, .ptr 5 0), (19, .ptr 6 0), (21, .ptr 8 0), (22, bS had1), (123, bS (!r4049))] [(0, .row 24 (Enc.cells c)), (1, .row 24 [iS c1_Now2, iS c1_Next2, .own 9 0 c7q4.length]), (2, .row 28 (Enc.cells c2q3)), (3, .row 24 [iS c3_Now2, iS c3_Next2, .own 10 0 c8q2.length]), (4, .row 28 (Enc.cells c4q2)), (5, .row 28 (Enc.cells c5q2)), (6, .row 28 (Enc.cells c6q2)), (7, .row 28 (Enc.cells c7q6)), (8, .row 24 [iS c8_Now1, iS c8_Next1, .own 11 0 c11q1.length]), (9, .row 54 (fl c7q4)), (10, .row 54 (fl c8q2)), (11, .row 54 (fl c11q1))] 12 (by kernel_rfl) ?_
                        exact hK4047 ((!r4049)) _ _ _ h (leSt_m [(0, 0), (1, 3), (2, 4), (3, 5), (4, 6), (5, 8), (6, 10), (7, 11)] [] (by (try simp only [g4048]) <;> simp only [push_cast, seval]) (by (try simp only [g4048]) <;> simp only [push_cast, seval]) rfl rfl rfl)
                    · rintro t123q2 h
                      try dsimp only at h ⊢
                      unfold taskmilllaw_ClockSets_j4 at h
                      refine cond_sx h (by kernel_rfl) (fun g4050 h => ?_) (fun g4050 h => ?_)
                      · refine seq_np ?_
                        refine reg_f ?_
                        refine rs 1 [] [] (by kernel_rfl) allP_nil ?_
                        refine rf [(8, bS false)] [(0, .row 24 (Enc.cells c)), (1, .row 24 [iS c3_Now2, iS c3_Next2, .own 6 0 c8q2.length]), (2, .row 28 (Enc.cells c4q2)), (3, .row 28 (Enc.cells c5q2)), (4, .row 28 (Enc.cells c6q2)), (5, .row 24 [iS c8_Now1, iS c8_Next1, .own 7 0 c11q1.length]), (6, .row 54 (fl c8q2)), (7, .row 54 (fl c11q1))] 8 (by kernel_rfl) ?_
                        refine wk_id ?_
                        obtain rfl := Option.some.inj h
                        refine ret_at (bS false) (by kernel_rfl) ?_
                        exact ret_e [] [] (by simp only [push_cast, seval]) (by simp only [push_cast, seval]) rfl rfl rfl
                      · exact hK4043 () _ _ _ h (leSt_m [(0, 0), (1, 1), (2, 2), (3, 3), (4, 4), (5, 5), (6, 6), (7, 7)] [] (by simp only [push_cast, seval]) (by simp only [push_cast, seval]) rfl rfl rfl)
                  · refine seq_cut (A := Bool) (fun a => ([(4, .ptr 0 0), (14, .ptr 1 0), (15, bS xis2), (16, .ptr 2 0), (17, iS n2), (18, .ptr 3 0), (19, .ptr 4 0), (21, .ptr 5 0), (22, bS had1), (140, bS a)], [(0, .row 24 (Enc.cells c)), (1, .row 24 [iS c3_Now2, iS c3_Next2, .own 6 0 c8q2.length]), (2, .row 28 (Enc.cells c4q2)), (3, .row 28 (Enc.cells c5q2)), (4, .row 28 (Enc.cells c6q2)), (5, .row 24 [iS c8_Now1, iS c8_Next1, .own 7 0 c11q1.length]), (6, .row 54 (fl c8q2)), (7, .row 54 (fl c11q1))], 8)) (fun a => (taskmilllaw_ClockSets_j5 c xis2 n2 c3_Now2 c3_Next2 c4q2 c5q2 c6q2 c8q2 had1 c8_Now1 c8_Next1 c11q1 a) = some r) (fun K4055 hK4055 => ?_) ?_
                    · refine reg_t ?_
                      refine rs 4 [] [] (by kernel_rfl) allP_nil ?_
                      refine run_br h 127 (.inl (by kernel_rfl)) (fun g4056 h => ?_) (fun g4056 h => ?_)
                      · refine rs 13 [] [] (by kernel_rfl) allP_nil ?_
                        refine rt [(4, .ptr 0 0), (14, .ptr 3 0), (15, bS xis2), (16, .ptr 4 0), (17, iS n2), (18, .ptr 5 0), (19, .ptr 6 0), (21, .ptr 8 0), (22, bS had1), (140, bS true)] [(0, .row 24 (Enc.cells c)), (1, .row 24 [iS c1_Now2, iS c1_Next2, .own 9 0 c7q4.length]), (2, .row 28 (Enc.cells c2q3)), (3, .row 24 [iS c3_Now2, iS c3_Next2, .own 10 0 c8q2.length]), (4, .row 28 (Enc.cells c4q2)), (5, .row 28 (Enc.cells c5q2)), (6, .row 28 (Enc.cells c6q2)), (7, .row 28 (Enc.cells c7q6)), (8, .row 24 [iS c8_Now1, iS c8_Next1, .own 11 0 c11q1.length]), (9, .row 54 (fl c7q4)), (10, .row 54 (fl c8q2)), (11, .row 54 (fl c11q1))] 29 follows (by kernel_rfl) ?_
                        exact hK4055 (true) _ _ _ h (leSt_m [(0, 0), (1, 3), (2, 4), (3, 5), (4, 6), (5, 8), (6, 10), (7, 11)] [] (by (try simp only [g4056]) <;> simp only [push_cast, seval]) (by (try simp only [g4056]) <;> simp only [push_cast, seval]) rfl rfl rfl)
                      · refine rs 9 [] [] (by kernel_rfl) allP_nil ?_
                        obtain ⟨r4057, hr4057, h⟩ := bind_sx h
                        refine call_x (taskmillref_WithAlarm_spec (Clock.mk c8_Now1 c8_Next1 c11q1) (Alarm.mk xid (IntKind.i64.wrap (c.Now + after)) period 0) r4057 hr4057) (args := [.agg [iS c8_Now1, iS c8_Next1, .own 11 0 c11q1.length], .agg [iS xid, iS (IntKind.i64.wrap (c.Now + after)), iS period, iS 0]]) (dst := (some 137)) (by kernel_rfl) [(0, .row 24 (Enc.cells c)), (1, .row 24 [iS c1_Now2, iS c1_Next2, .own 9 0 c7q4.length]), (2, .row 28 (Enc.cells c2q3)), (3, .row 24 [iS c3_Now2, iS c3_Next2, .own 10 0 c8q2.length]), (4, .row 28 (Enc.cells c4q2)), (5, .row 28 (Enc.cells c5q2)), (6, .row 28 (Enc.cells c6q2)), (7, .row 28 (Enc.cells c7q6)), (8, .row 24 [iS c8_Now1, iS c8_Next1, .own 11 0 c11q1.length]), (9, .row 54 (fl c7q4)), (10, .row 54 (fl c8q2)), (11, .row 54 (fl c11q1))] 25 (by kernel_rfl) [] [11] (.agg [iS r4057.1, iS r4057.2.1, .own 25 0 r4057.2.2.length]) [(25, .row 54 (fl r4057.2.2))] (by simp only [push_cast, seval]) (by simp only [push_cast, seval]) (by kernel_rfl) (.inr ⟨by simp only [push_cast, seval], by simp only [push_cast, seval]⟩) (by simp only [push_cast, seval]) (by simp only [push_cast, seval]) ?_
                        obtain ⟨r4058, hr4058, h⟩ := bind_sx h
                        refine call_x (taskmillref_SameClock_spec (Clock.mk c1_Now2 c1_Next2 c7q4) (Clock.mk r4057.1 r4057.2.1 r4057.2.2) r4058 hr4058) (args := [.agg [iS c1_Now2, iS c1_Next2, .own 9 0 c7q4.length], .agg [iS r4057.1, iS r4057.2.1, .own 25 0 r4057.2.2.length]]) (dst := (some 138)) (by kernel_rfl) [(0, .row 24 (Enc.cells c)), (1, .row 24 [iS c1_Now2, iS c1_Next2, .own 9 0 c7q4.length]), (2, .row 28 (Enc.cells c2q3)), (3, .row 24 [iS c3_Now2, iS c3_Next2, .own 10 0 c8q2.length]), (4, .row 28 (Enc.cells c4q2)), (5, .row 28 (Enc.cells c5q2)), (6, .row 28 (Enc.cells c6q2)), (7, .row 28 (Enc.cells c7q6)), (8, .row 24 [iS c8_Now1, iS c8_Next1, .own 11 0 c11q1.length]), (9, .row 54 (fl c7q4)), (10, .row 54 (fl c8q2)), (11, .row 54 (fl c11q1)), (25, .row 54 (fl r4057.2.2))] 27 (by kernel_rfl) [] [9, 25] (bS r4058) [] (by simp only [push_cast, seval]) (by simp only [push_cast, seval]) (by kernel_rfl) (.inr ⟨by simp only [push_cast, seval], by simp only [push_cast, seval]⟩) (by simp only [push_cast, seval]) (by simp only [push_cast, seval]) ?_
                        refine rs 2 [] [] (by kernel_rfl) allP_nil ?_
                        refine rt [(4, .ptr 0 0), (14, .ptr 3 0), (15, bS xis2), (16, .ptr 4 0), (17, iS n2), (18, .ptr 5 0), (19, .ptr 6 0), (21, .ptr 8 0), (22, bS had1), (140, bS (!r4058))] [(0, .row 24 (Enc.cells c)), (1, .row 24 [iS c1_Now2, iS c1_Next2, .own 9 0 c7q4.length]), (2, .row 28 (Enc.cells c2q3)), (3, .row 24 [iS c3_Now2, iS c3_Next2, .own 10 0 c8q2.length]), (4, .row 28 (Enc.cells c4q2)), (5, .row 28 (Enc.cells c5q2)), (6, .row 28 (Enc.cells c6q2)), (7, .row 28 (Enc.cells c7q6)), (8, .row 24 [iS c8_Now1, iS c8_Next1, .own 11 0 c11q1.length]), (9, .row 54 (fl c7q4)), (10, .row 54 (fl c8q2)), (11, .row 54 (fl c11q1)), (25, .row 54 (fl r4057.2.2))] 30 follows (by kernel_rfl) ?_
                        exact hK4055 ((!r4058)) _ _ _ h (leSt_m [(0, 0), (1, 3), (2, 4), (3, 5), (4, 6), (5, 8), (6, 10), (7, 11)] [] (by (try simp only [g4056]) <;> simp only [push_cast, seval]) (by (try simp only [g4056]) <;> simp only [push_cast, seval]) rfl rfl rfl)
                    · rintro t140q2 h
                      try dsimp only at h ⊢
                      unfold taskmilllaw_ClockSets_j5 at h
                      refine cond_sx h (by kernel_rfl) (fun g4059 h => ?_) (fun g4059 h => ?_)
                      · refine seq_np ?_
                        refine reg_f ?_
                        refine rs 1 [] [] (by kernel_rfl) allP_nil ?_
                        refine rf [(8, bS false)] [(0, .row 24 (Enc.cells c)), (1, .row 24 [iS c3_Now2, iS c3_Next2, .own 6 0 c8q2.length]), (2, .row 28 (Enc.cells c4q2)), (3, .row 28 (Enc.cells c5q2)), (4, .row 28 (Enc.cells c6q2)), (5, .row 24 [iS c8_Now1, iS c8_Next1, .own 7 0 c11q1.length]), (6, .row 54 (fl c8q2)), (7, .row 54 (fl c11q1))] 8 (by kernel_rfl) ?_
                        refine wk_id ?_
                        obtain rfl := Option.some.inj h
                        refine ret_at (bS false) (by kernel_rfl) ?_
                        exact ret_e [] [] (by simp only [push_cast, seval]) (by simp only [push_cast, seval]) rfl rfl rfl
                      · exact hK4043 () _ _ _ h (leSt_m [(0, 0), (1, 1), (2, 2), (3, 3), (4, 4), (5, 5), (6, 6), (7, 7)] [] (by simp only [push_cast, seval]) (by simp only [push_cast, seval]) rfl rfl rfl)
                · rintro _ h
                  try dsimp only at h ⊢
                  unfold taskmilllaw_ClockSets_j3 at h
                  refine seq_np ?_
                  refine seq_cut (A := Bool) (fun a => ([(4, .ptr 0 0), (17, iS n2), (18, .ptr 1 0), (19, .ptr 2 0), (173, bS a)], [(0, .row 24 (Enc.cells c)), (1, .row 28 (Enc.cells c5q2)), (2, .row 28 (Enc.cells c6q2))], 3)) (fun a => (taskmilllaw_ClockSets_j2 c n2 c5q2 c6q2 a) = some r) (fun K4087 hK4087 => ?_) ?_
                  · refine reg_f ?_
                    refine rs 4 [] [] (by kernel_rfl) allP_nil ?_
                    refine run_br h 144 (.inl (by kernel_rfl)) (fun g4088 h => ?_) (fun g4088 h => ?_)
                    · refine rs 29 [] [] (by kernel_rfl) allP_nil ?_
                      refine rf [(4, .ptr 0 0), (17, iS n2), (18, .ptr 3 0), (19, .ptr 4 0), (173, bS true)] [(0, .row 24 (Enc.cells c)), (1, .row 24 [iS c3_Now2, iS c3_Next2, .own 6 0 c8q2.length]), (2, .row 28 (Enc.cells c4q2)), (3, .row 28 (Enc.cells c5q2)), (4, .row 28 (Enc.cells c6q2)), (5, .row 24 [iS c8_Now1, iS c8_Next1, .own 7 0 c11q1.length]), (6, .row 54 (fl c8q2)), (7, .row 54 (fl c11q1))] 8 (by kernel_rfl) ?_
                      exact hK4087 (true) _ _ _ h (leSt_m [(0, 0), (1, 3), (2, 4)] [] (by (try simp only [g4088]) <;> simp only [push_cast, seval]) (by (try simp only [g4088]) <;> simp only [push_cast, seval]) rfl rfl rfl)
                    · refine rs 4 [] [] (by kernel_rfl) allP_nil ?_
                      refine run_br h 148 (.inr (by kernel_rfl)) (fun g4089 h => ?_) (fun g4089 h => ?_)
                      · refine rs 2 [] [] (by kernel_rfl) allP_nil ?_
                        refine run_br h 150 (.inr (by kernel_rfl)) (fun g4090 h => ?_) (fun g4090 h => ?_)
                        · refine rn 10 [(4, .ptr 0 0), (14, .ptr 1 0), (15, bS xis2), (17, iS n2), (18, .ptr 3 0), (19, .ptr 4 0), (21, .ptr 5 0), (22, bS had1), (144, bS false), (148, .gd true (bS true)), (150, .gd true (bS true))] [(0, .row 24 (Enc.cells c)), (1, .row 24 [iS c3_Now2, iS c3_Next2, .own 6 0 c8q2.length]), (2, .row 28 (Enc.cells c4q2)), (3, .row 28 (Enc.cells c5q2)), (4, .row 28 (Enc.cells c6q2)), (5, .row 24 [iS c8_Now1, iS c8_Next1, .own 7 0 c11q1.length]), (6, .row 54 (fl c8q2)), (7, .row 54 (fl c11q1))] 8 (by kernel_rfl) ?_
                          refine rs 23 [] [] (by kernel_rfl) allP_nil ?_
                          refine rf [(4, .ptr 0 0), (17, iS n2), (18, .ptr 3 0), (19, .ptr 4 0), (173, bS true)] [(0, .row 24 (Enc.cells c)), (1, .row 24 [iS c3_Now2, iS c3_Next2, .own 6 0 c8q2.length]), (2, .row 28 (Enc.cells c4q2)), (3, .row 28 (Enc.cells c5q2)), (4, .row 28 (Enc.cells c6q2)), (5, .row 24 [iS c8_Now1, iS c8_Next1, .own 7 0 c11q1.length]), (6, .row 54 (fl c8q2)), (7, .row 54 (fl c11q1))] 8 (by kernel_rfl) ?_
                          exact hK4087 (true) _ _ _ h (leSt_m [(0, 0), (1, 3), (2, 4)] [] (by first | ((try simp only [g4088, g4089, g4090]) <;> simp only [push_cast, seval]; done) | ((try simp only [g4088]); (try simp only [g4089]); (try simp only [g4090]); simp only [push_cast, seval]; done) | (exfalso; clear h; simp_all; done)) (by first | ((try simp only [g4088, g4089, g4090]) <;> simp only [push_cast, seval]; done) | ((try simp only [g4088]); (try simp only [g4089]); (try simp only [g4090]); simp only [push_cast, seval]; done) | (exfalso; clear h; simp_all; done)) rfl rfl rfl)
                        · refine rn 10 [(4, .ptr 0 0), (14, .ptr 1 0), (15, bS xis2), (17, iS n2), (18, .ptr 3 0), (19, .ptr 4 0), (21, .ptr 5 0), (22, bS had1), (144, bS false), (148, .gd true (bS true)), (150, .gd true (bS false))] [(0, .row 24 (Enc.cells c)), (1, .row 24 [iS c3_Now2, iS c3_Next2, .own 6 0 c8q2.length]), (2, .row 28 (Enc.cells c4q2)), (3, .row 28 (Enc.cells c5q2)), (4, .row 28 (Enc.cells c6q2)), (5, .row 24 [iS c8_Now1, iS c8_Next1, .own 7 0 c11q1.length]), (6, .row 54 (fl c8q2)), (7, .row 54 (fl c11q1))] 8 (by kernel_rfl) ?_
                          refine rs 2 [] [] (by kernel_rfl) allP_nil ?_
                          obtain ⟨r4091, hr4091, h⟩ := bind_sx h
                          refine call_x (taskmillref_SameClock_spec (Clock.mk c3_Now2 c3_Next2 c8q2) (Clock.mk 0 0 []) r4091 hr4091) (args := [.agg [iS c3_Now2, iS c3_Next2, .own 6 0 c8q2.length], .agg [iS 0, iS 0, .v (.slice none 0 0)]]) (dst := (some 153)) (by kernel_rfl) [(0, .row 24 (Enc.cells c)), (1, .row 24 [iS c3_Now2, iS c3_Next2, .own 6 0 c8q2.length]), (2, .row 28 (Enc.cells c4q2)), (3, .row 28 (Enc.cells c5q2)), (4, .row 28 (Enc.cells c6q2)), (5, .row 24 [iS c8_Now1, iS c8_Next1, .own 7 0 c11q1.length]), (6, .row 54 (fl c8q2)), (7, .row 54 (fl c11q1))] 8 (by kernel_rfl) [] [6] (bS r4091) [] (by simp only [push_cast, seval]) (by simp only [push_cast, seval]) (by kernel_rfl) (.inr ⟨by simp only [push_cast, seval], by simp only [push_cast, seval]⟩) (by simp only [push_cast, seval]) (by simp only [push_cast, seval]) ?_
                          refine rs 5 [] [] (by kernel_rfl) allP_nil ?_
                          refine run_br h 158 (.inl (by kernel_rfl)) (fun g4092 h => ?_) (fun g4092 h => ?_)
                          · refine rs 15 [] [] (by kernel_rfl) allP_nil ?_
                            refine rf [(4, .ptr 0 0), (17, iS n2), (18, .ptr 3 0), (19, .ptr 4 0), (173, bS true)] [(0, .row 24 (Enc.cells c)), (1, .row 24 [iS c3_Now2, iS c3_Next2, .own 6 0 c8q2.length]), (2, .row 28 (Enc.cells c4q2)), (3, .row 28 (Enc.cells c5q2)), (4, .row 28 (Enc.cells c6q2)), (5, .row 24 [iS c8_Now1, iS c8_Next1, .own 7 0 c11q1.length]), (6, .row 54 (fl c8q2)), (7, .row 54 (fl c11q1))] 8 (by kernel_rfl) ?_
                            exact hK4087 (true) _ _ _ h (leSt_m [(0, 0), (1, 3), (2, 4)] [] (by first | ((try simp only [g4088, g4089, g4090, g4092]) <;> simp only [push_cast, seval]; done) | ((try simp only [g4088]); (try simp only [g4089]); (try simp only [g4090]); (try simp only [g4092]); simp only [push_cast, seval]; done) | (exfalso; clear h; simp_all; done)) (by first | ((try simp only [g4088, g4089, g4090, g4092]) <;> simp only [push_cast, seval]; done) | ((try simp only [g4088]); (try simp only [g4089]); (try simp only [g4090]); (try simp only [g4092]); simp only [push_cast, seval]; done) | (exfalso; clear h; simp_all; done)) rfl rfl rfl)
                          · refine rs 4 [] [] (by kernel_rfl) allP_nil ?_
                            refine run_br h 162 (.inr (by kernel_rfl)) (fun g4093 h => ?_) (fun g4093 h => ?_)
                            · refine rn 22 [(4, .ptr 0 0), (14, .ptr 1 0), (15, bS xis2), (17, iS n2), (18, .ptr 3 0), (19, .ptr 4 0), (21, .ptr 5 0), (22, bS had1), (158, bS false), (162, .gd true (bS true))] [(0, .row 24 (Enc.cells c)), (1, .row 24 [iS c3_Now2, iS c3_Next2, .own 6 0 c8q2.length]), (2, .row 28 (Enc.cells c4q2)), (3, .row 28 (Enc.cells c5q2)), (4, .row 28 (Enc.cells c6q2)), (5, .row 24 [iS c8_Now1, iS c8_Next1, .own 7 0 c11q1.length]), (6, .row 54 (fl c8q2)), (7, .row 54 (fl c11q1))] 8 (by kernel_rfl) ?_
                              refine rs 4 [] [] (by kernel_rfl) allP_nil ?_
                              refine run_br h 166 (.inr (by kernel_rfl)) (fun g4094 h => ?_) (fun g4094 h => ?_)
                              · refine rs 7 [] [] (by kernel_rfl) allP_nil ?_
                                refine rf [(4, .ptr 0 0), (17, iS n2), (18, .ptr 3 0), (19, .ptr 4 0), (173, bS true)] [(0, .row 24 (Enc.cells c)), (1, .row 24 [iS c3_Now2, iS c3_Next2, .own 6 0 c8q2.length]), (2, .row 28 (Enc.cells c4q2)), (3, .row 28 (Enc.cells c5q2)), (4, .row 28 (Enc.cells c6q2)), (5, .row 24 [iS c8_Now1, iS c8_Next1, .own 7 0 c11q1.length]), (6, .row 54 (fl c8q2)), (7, .row 54 (fl c11q1))] 8 (by kernel_rfl) ?_
                                exact hK4087 (true) _ _ _ h (leSt_m [(0, 0), (1, 3), (2, 4)] [] (by first | ((try simp only [g4088, g4089, g4090, g4092, g4093, g4094]) <;> simp only [push_cast, seval]; done) | ((try simp only [g4088]); (try simp only [g4089]); (try simp only [g4090]); (try simp only [g4092]); (try simp only [g4093]); (try simp only [g4094]); simp only [push_cast, seval]; done) | (exfalso; clear h; simp_all; done)) (by first | ((try simp only [g4088, g4089, g4090, g4092, g4093, g4094]) <;> simp only [push_cast, seval]; done) | ((try simp only [g4088]); (try simp only [g4089]); (try simp only [g4090]); (try simp only [g4092]); (try simp only [g4093]); (try simp only [g4094]); simp only [push_cast, seval]; done) | (exfalso; clear h; simp_all; done)) rfl rfl rfl)
                              · refine rs 2 [] [] (by kernel_rfl) allP_nil ?_
                                obtain ⟨r4095, hr4095, h⟩ := bind_sx h
                                refine call_x (taskmillref_SameClock_spec (Clock.mk c3_Now2 c3_Next2 c8q2) (Clock.mk c8_Now1 c8_Next1 c11q1) r4095 hr4095) (args := [.agg [iS c3_Now2, iS c3_Next2, .own 6 0 c8q2.length], .agg [iS c8_Now1, iS c8_Next1, .own 7 0 c11q1.length]]) (dst := (some 169)) (by kernel_rfl) [(0, .row 24 (Enc.cells c)), (1, .row 24 [iS c3_Now2, iS c3_Next2, .own 6 0 c8q2.length]), (2, .row 28 (Enc.cells c4q2)), (3, .row 28 (Enc.cells c5q2)), (4, .row 28 (Enc.cells c6q2)), (5, .row 24 [iS c8_Now1, iS c8_Next1, .own 7 0 c11q1.length]), (6, .row 54 (fl c8q2)), (7, .row 54 (fl c11q1))] 8 (by kernel_rfl) [] [6, 7] (bS r4095) [] (by simp only [push_cast, seval]) (by simp only [push_cast, seval]) (by kernel_rfl) (.inr ⟨by simp only [push_cast, seval], by simp only [push_cast, seval]⟩) (by simp only [push_cast, seval]) (by simp only [push_cast, seval]) ?_
                                refine rs 4 [] [] (by kernel_rfl) allP_nil ?_
                                refine rf [(4, .ptr 0 0), (17, iS n2), (18, .ptr 3 0), (19, .ptr 4 0), (173, bS (!r4095))] [(0, .row 24 (Enc.cells c)), (1, .row 24 [iS c3_Now2, iS c3_Next2, .own 6 0 c8q2.length]), (2, .row 28 (Enc.cells c4q2)), (3, .row 28 (Enc.cells c5q2)), (4, .row 28 (Enc.cells c6q2)), (5, .row 24 [iS c8_Now1, iS c8_Next1, .own 7 0 c11q1.length]), (6, .row 54 (fl c8q2)), (7, .row 54 (fl c11q1))] 8 (by kernel_rfl) ?_
                                exact hK4087 ((!r4095)) _ _ _ h (leSt_m [(0, 0), (1, 3), (2, 4)] [] (by first | ((try simp only [g4088, g4089, g4090, g4092, g4093, g4094]) <;> simp only [push_cast, seval]; done) | ((try simp only [g4088]); (try simp only [g4089]); (try simp only [g4090]); (try simp only [g4092]); (try simp only [g4093]); (try simp only [g4094]); simp only [push_cast, seval]; done) | (exfalso; clear h; simp_all; done)) (by first | ((try simp only [g4088, g4089, g4090, g4092, g4093, g4094]) <;> simp only [push_cast, seval]; done) | ((try simp only [g4088]); (try simp only [g4089]); (try simp only [g4090]); (try simp only [g4092]); (try simp only [g4093]); (try simp only [g4094]); simp only [push_cast, seval]; done) | (exfalso; clear h; simp_all; done)) rfl rfl rfl)
                            · refine rn 22 [(4, .ptr 0 0), (14, .ptr 1 0), (15, bS xis2), (17, iS n2), (18, .ptr 3 0), (19, .ptr 4 0), (21, .ptr 5 0), (22, bS had1), (158, bS false), (162, .gd true (bS false))] [(0, .row 24 (Enc.cells c)), (1, .row 24 [iS c3_Now2, iS c3_Next2, .own 6 0 c8q2.length]), (2, .row 28 (Enc.cells c4q2)), (3, .row 28 (Enc.cells c5q2)), (4, .row 28 (Enc.cells c6q2)), (5, .row 24 [iS c8_Now1, iS c8_Next1, .own 7 0 c11q1.length]), (6, .row 54 (fl c8q2)), (7, .row 54 (fl c11q1))] 8 (by kernel_rfl) ?_
                              refine rs 11 [] [] (by kernel_rfl) allP_nil ?_
                              refine rf [(4, .ptr 0 0), (17, iS n2), (18, .ptr 3 0), (19, .ptr 4 0), (173, bS false)] [(0, .row 24 (Enc.cells c)), (1, .row 24 [iS c3_Now2, iS c3_Next2, .own 6 0 c8q2.length]), (2, .row 28 (Enc.cells c4q2)), (3, .row 28 (Enc.cells c5q2)), (4, .row 28 (Enc.cells c6q2)), (5, .row 24 [iS c8_Now1, iS c8_Next1, .own 7 0 c11q1.length]), (6, .row 54 (fl c8q2)), (7, .row 54 (fl c11q1))] 8 (by kernel_rfl) ?_
                              exact hK4087 (false) _ _ _ h (leSt_m [(0, 0), (1, 3), (2, 4)] [] (by first | ((try simp only [g4088, g4089, g4090, g4092, g4093]) <;> simp only [push_cast, seval]; done) | ((try simp only [g4088]); (try simp only [g4089]); (try simp only [g4090]); (try simp only [g4092]); (try simp only [g4093]); simp only [push_cast, seval]; done) | (exfalso; clear h; simp_all; done)) (by first | ((try simp only [g4088, g4089, g4090, g4092, g4093]) <;> simp only [push_cast, seval]; done) | ((try simp only [g4088]); (try simp only [g4089]); (try simp only [g4090]); (try simp only [g4092]); (try simp only [g4093]); simp only [push_cast, seval]; done) | (exfalso; clear h; simp_all; done)) rfl rfl rfl)
                      · refine rs 14 [] [] (by kernel_rfl) allP_nil ?_
                        refine run_br h 162 (.inr (by kernel_rfl)) (fun g4096 h => ?_) (fun g4096 h => ?_)
                        · refine rn 22 [(4, .ptr 0 0), (14, .ptr 1 0), (15, bS xis2), (17, iS n2), (18, .ptr 3 0), (19, .ptr 4 0), (21, .ptr 5 0), (22, bS had1), (158, bS false), (162, .gd true (bS true))] [(0, .row 24 (Enc.cells c)), (1, .row 24 [iS c3_Now2, iS c3_Next2, .own 6 0 c8q2.length]), (2, .row 28 (Enc.cells c4q2)), (3, .row 28 (Enc.cells c5q2)), (4, .row 28 (Enc.cells c6q2)), (5, .row 24 [iS c8_Now1, iS c8_Next1, .own 7 0 c11q1.length]), (6, .row 54 (fl c8q2)), (7, .row 54 (fl c11q1))] 8 (by kernel_rfl) ?_
                          refine rs 4 [] [] (by kernel_rfl) allP_nil ?_
                          refine run_br h 166 (.inr (by kernel_rfl)) (fun g4097 h => ?_) (fun g4097 h => ?_)
                          · refine rs 7 [] [] (by kernel_rfl) allP_nil ?_
                            refine rf [(4, .ptr 0 0), (17, iS n2), (18, .ptr 3 0), (19, .ptr 4 0), (173, bS true)] [(0, .row 24 (Enc.cells c)), (1, .row 24 [iS c3_Now2, iS c3_Next2, .own 6 0 c8q2.length]), (2, .row 28 (Enc.cells c4q2)), (3, .row 28 (Enc.cells c5q2)), (4, .row 28 (Enc.cells c6q2)), (5, .row 24 [iS c8_Now1, iS c8_Next1, .own 7 0 c11q1.length]), (6, .row 54 (fl c8q2)), (7, .row 54 (fl c11q1))] 8 (by kernel_rfl) ?_
                            exact hK4087 (true) _ _ _ h (leSt_m [(0, 0), (1, 3), (2, 4)] [] (by first | ((try simp only [g4088, g4089, g4096, g4097]) <;> simp only [push_cast, seval]; done) | ((try simp only [g4088]); (try simp only [g4089]); (try simp only [g4096]); (try simp only [g4097]); simp only [push_cast, seval]; done) | (exfalso; clear h; simp_all; done)) (by first | ((try simp only [g4088, g4089, g4096, g4097]) <;> simp only [push_cast, seval]; done) | ((try simp only [g4088]); (try simp only [g4089]); (try simp only [g4096]); (try simp only [g4097]); simp only [push_cast, seval]; done) | (exfalso; clear h; simp_all; done)) rfl rfl rfl)
                          · refine rs 2 [] [] (by kernel_rfl) allP_nil ?_
                            obtain ⟨r4098, hr4098, h⟩ := bind_sx h
                            refine call_x (taskmillref_SameClock_spec (Clock.mk c3_Now2 c3_Next2 c8q2) (Clock.mk c8_Now1 c8_Next1 c11q1) r4098 hr4098) (args := [.agg [iS c3_Now2, iS c3_Next2, .own 6 0 c8q2.length], .agg [iS c8_Now1, iS c8_Next1, .own 7 0 c11q1.length]]) (dst := (some 169)) (by kernel_rfl) [(0, .row 24 (Enc.cells c)), (1, .row 24 [iS c3_Now2, iS c3_Next2, .own 6 0 c8q2.length]), (2, .row 28 (Enc.cells c4q2)), (3, .row 28 (Enc.cells c5q2)), (4, .row 28 (Enc.cells c6q2)), (5, .row 24 [iS c8_Now1, iS c8_Next1, .own 7 0 c11q1.length]), (6, .row 54 (fl c8q2)), (7, .row 54 (fl c11q1))] 8 (by kernel_rfl) [] [6, 7] (bS r4098) [] (by simp only [push_cast, seval]) (by simp only [push_cast, seval]) (by kernel_rfl) (.inr ⟨by simp only [push_cast, seval], by simp only [push_cast, seval]⟩) (by simp only [push_cast, seval]) (by simp only [push_cast, seval]) ?_
                            refine rs 4 [] [] (by kernel_rfl) allP_nil ?_
                            refine rf [(4, .ptr 0 0), (17, iS n2), (18, .ptr 3 0), (19, .ptr 4 0), (173, bS (!r4098))] [(0, .row 24 (Enc.cells c)), (1, .row 24 [iS c3_Now2, iS c3_Next2, .own 6 0 c8q2.length]), (2, .row 28 (Enc.cells c4q2)), (3, .row 28 (Enc.cells c5q2)), (4, .row 28 (Enc.cells c6q2)), (5, .row 24 [iS c8_Now1, iS c8_Next1, .own 7 0 c11q1.length]), (6, .row 54 (fl c8q2)), (7, .row 54 (fl c11q1))] 8 (by kernel_rfl) ?_
                            exact hK4087 ((!r4098)) _ _ _ h (leSt_m [(0, 0), (1, 3), (2, 4)] [] (by first | ((try simp only [g4088, g4089, g4096, g4097]) <;> simp only [push_cast, seval]; done) | ((try simp only [g4088]); (try simp only [g4089]); (try simp only [g4096]); (try simp only [g4097]); simp only [push_cast, seval]; done) | (exfalso; clear h; simp_all; done)) (by first | ((try simp only [g4088, g4089, g4096, g4097]) <;> simp only [push_cast, seval]; done) | ((try simp only [g4088]); (try simp only [g4089]); (try simp only [g4096]); (try simp only [g4097]); simp only [push_cast, seval]; done) | (exfalso; clear h; simp_all; done)) rfl rfl rfl)
                        · refine rn 22 [(4, .ptr 0 0), (14, .ptr 1 0), (15, bS xis2), (17, iS n2), (18, .ptr 3 0), (19, .ptr 4 0), (21, .ptr 5 0), (22, bS had1), (158, bS false), (162, .gd true (bS false))] [(0, .row 24 (Enc.cells c)), (1, .row 24 [iS c3_Now2, iS c3_Next2, .own 6 0 c8q2.length]), (2, .row 28 (Enc.cells c4q2)), (3, .row 28 (Enc.cells c5q2)), (4, .row 28 (Enc.cells c6q2)), (5, .row 24 [iS c8_Now1, iS c8_Next1, .own 7 0 c11q1.length]), (6, .row 54 (fl c8q2)), (7, .row 54 (fl c11q1))] 8 (by kernel_rfl) ?_
                          refine rs 11 [] [] (by kernel_rfl) allP_nil ?_
                          refine rf [(4, .ptr 0 0), (17, iS n2), (18, .ptr 3 0), (19, .ptr 4 0), (173, bS false)] [(0, .row 24 (Enc.cells c)), (1, .row 24 [iS c3_Now2, iS c3_Next2, .own 6 0 c8q2.length]), (2, .row 28 (Enc.cells c4q2)), (3, .row 28 (Enc.cells c5q2)), (4, .row 28 (Enc.cells c6q2)), (5, .row 24 [iS c8_Now1, iS c8_Next1, .own 7 0 c11q1.length]), (6, .row 54 (fl c8q2)), (7, .row 54 (fl c11q1))] 8 (by kernel_rfl) ?_
                          exact hK4087 (false) _ _ _ h (leSt_m [(0, 0), (1, 3), (2, 4)] [] (by first | ((try simp only [g4088, g4089, g4096]) <;> simp only [push_cast, seval]; done) | ((try simp only [g4088]); (try simp only [g4089]); (try simp only [g4096]); simp only [push_cast, seval]; done) | (exfalso; clear h; simp_all; done)) (by first | ((try simp only [g4088, g4089, g4096]) <;> simp only [push_cast, seval]; done) | ((try simp only [g4088]); (try simp only [g4089]); (try simp only [g4096]); simp only [push_cast, seval]; done) | (exfalso; clear h; simp_all; done)) rfl rfl rfl)
                  · rintro t173q2 h
                    try dsimp only at h ⊢
                    unfold taskmilllaw_ClockSets_j2 at h
                    refine cond_sx h (by kernel_rfl) (fun g4118 h => ?_) (fun g4118 h => ?_)
                    · refine seq_np ?_
                      refine reg_f ?_
                      refine rs 1 [] [] (by kernel_rfl) allP_nil ?_
                      refine rf [(8, bS false)] [(0, .row 24 (Enc.cells c)), (1, .row 28 (Enc.cells c5q2)), (2, .row 28 (Enc.cells c6q2))] 3 (by kernel_rfl) ?_
                      refine wk_id ?_
                      obtain rfl := Option.some.inj h
                      refine ret_at (bS false) (by kernel_rfl) ?_
                      exact ret_e [] [] (by simp only [push_cast, seval]) (by simp only [push_cast, seval]) rfl rfl rfl
                    · refine wk_id ?_
                      refine seq_cut (A := Fault) (fun a => ([(4, .ptr 0 0), (17, iS n2), (18, .ptr 1 0), (19, .ptr 2 0)], [(0, .row 24 (Enc.cells c)), (1, .row 28 (Enc.cells c5q2)), (2, .row 28 (Enc.cells a))], 3)) (fun a => (taskmilllaw_ClockSets_j1 c n2 c5q2 a) = some r) (fun K4103 hK4103 => ?_) ?_
                      · refine seq_cut (A := Unit) (fun _ => ([(4, .ptr 0 0), (17, iS n2), (18, .ptr 1 0), (19, .ptr 2 0), (182, bS ((c6q2.Code == 0) && (((c.List.length : Nat) : Int) == 0)))], [(0, .row 24 (Enc.cells c)), (1, .row 28 (Enc.cells c5q2)), (2, .row 28 (Enc.cells c6q2))], 3)) (fun _ => True) (fun K4105 hK4105 => ?_) (fun _ _ => ?_)
                        · refine reg_f ?_
                          refine rs 4 [] [] (by kernel_rfl) allP_nil ?_
                          refine run_split 177 (c6q2.Code == 0) (.inl (by kernel_rfl)) (fun g4106 => ?_) (fun g4106 => ?_)
                          · refine rs 5 [] [] (by kernel_rfl) allP_nil ?_
                            refine rf [(4, .ptr 0 0), (17, iS n2), (18, .ptr 1 0), (19, .ptr 2 0), (182, bS (((c.List.length : Nat) : Int) == 0))] [(0, .row 24 (Enc.cells c)), (1, .row 28 (Enc.cells c5q2)), (2, .row 28 (Enc.cells c6q2))] 3 (by kernel_rfl) ?_
                            exact hK4105 () _ _ _ trivial (leSt_m [(0, 0), (1, 1), (2, 2)] [] (by (try simp only [g4106]) <;> simp only [push_cast, seval]) (by (try simp only [g4106]) <;> simp only [push_cast, seval]) rfl rfl rfl)
                          · refine rs 5 [] [] (by kernel_rfl) allP_nil ?_
                            refine rf [(4, .ptr 0 0), (17, iS n2), (18, .ptr 1 0), (19, .ptr 2 0), (182, bS false)] [(0, .row 24 (Enc.cells c)), (1, .row 28 (Enc.cells c5q2)), (2, .row 28 (Enc.cells c6q2))] 3 (by kernel_rfl) ?_
                            exact hK4105 () _ _ _ trivial (leSt_m [(0, 0), (1, 1), (2, 2)] [] (by (try simp only [g4106]) <;> simp only [push_cast, seval]) (by (try simp only [g4106]) <;> simp only [push_cast, seval]) rfl rfl rfl)
                        · dsimp only
                          refine cond_sx h (by kernel_rfl) (fun g4109 h => ?_) (fun g4109 h => ?_)
                          · refine reg_f ?_
                            obtain ⟨r4108, hr4108, h⟩ := bind_sx h
                            refine run_call 12 [iS 6, iS 0] (some 183) (by kernel_rfl) ?_
                            refine call_0 (taskmillref_F_spec 6 0 r4108 hr4108) (by simp only [push_cast, seval]) (by simp only [push_cast, seval]) ?_
                            refine back_f ?_
                            refine rs 1 [] [] (by kernel_rfl) allP_nil ?_
                            refine rf [(4, .ptr 0 0), (17, iS n2), (18, .ptr 1 0), (19, .ptr 2 0)] [(0, .row 24 (Enc.cells c)), (1, .row 28 (Enc.cells c5q2)), (2, .row 28 (Enc.cells r4108))] 3 (by kernel_rfl) ?_
                            exact hK4103 (r4108) _ _ _ h (leSt_m [(0, 0), (1, 1), (2, 2)] [] (by simp only [push_cast, seval]) (by simp only [push_cast, seval]) rfl rfl rfl)
                          · exact hK4103 (c6q2) _ _ _ h (leSt_m [(0, 0), (1, 1), (2, 2)] [] (by simp only [push_cast, seval]) (by simp only [push_cast, seval]) rfl rfl rfl)
                      · rintro c2q4 h
                        try dsimp only at h ⊢
                        unfold taskmilllaw_ClockSets_j1 at h
                        refine seq_np ?_
                        refine seq_np ?_
                        refine reg_f ?_
                        refine rs 3 [] [] (by kernel_rfl) allP_nil ?_
                        refine rf [(4, .ptr 0 0), (17, iS n2), (19, .ptr 2 0), (186, bS (!((c5q2.Code == c2q4.Code) && ((c5q2.At == c2q4.At) && true))))] [(0, .row 24 (Enc.cells c)), (1, .row 28 (Enc.cells c5q2)), (2, .row 28 (Enc.cells c2q4))] 3 (by kernel_rfl) ?_
                        refine wk_id ?_
                        refine cond_sx h (by kernel_rfl) (fun g4117 h => ?_) (fun g4117 h => ?_)
                        · refine seq_np ?_
                          refine reg_f ?_
                          refine rs 1 [] [] (by kernel_rfl) allP_nil ?_
                          refine rf [(8, bS false)] [(0, .row 24 (Enc.cells c)), (1, .row 28 (Enc.cells c5q2)), (2, .row 28 (Enc.cells c2q4))] 3 (by kernel_rfl) ?_
                          refine wk_id ?_
                          obtain rfl := Option.some.inj h
                          refine ret_at (bS false) (by kernel_rfl) ?_
                          exact ret_e [] [] (by simp only [push_cast, seval]) (by simp only [push_cast, seval]) rfl rfl rfl
                        · refine wk_id ?_
                          refine seq_np ?_
                          refine seq_np ?_
                          refine reg_f ?_
                          refine rs 3 [] [] (by kernel_rfl) allP_nil ?_
                          refine rf [(4, .ptr 0 0), (17, iS n2), (189, bS (c2q4.Code != 0))] [(0, .row 24 (Enc.cells c)), (1, .row 28 (Enc.cells c5q2)), (2, .row 28 (Enc.cells c2q4))] 3 (by kernel_rfl) ?_
                          refine wk_id ?_
                          refine cond_sx h (by kernel_rfl) (fun g4116 h => ?_) (fun g4116 h => ?_)
                          · refine seq_np ?_
                            refine reg_f ?_
                            refine rs 3 [] [] (by kernel_rfl) allP_nil ?_
                            refine rf [(8, bS (n2 == 0))] [(0, .row 24 (Enc.cells c)), (1, .row 28 (Enc.cells c5q2)), (2, .row 28 (Enc.cells c2q4))] 3 (by kernel_rfl) ?_
                            refine wk_id ?_
                            obtain rfl := Option.some.inj h
                            refine ret_at (bS (n2 == 0)) (by kernel_rfl) ?_
                            exact ret_e [] [] (by simp only [push_cast, seval]) (by simp only [push_cast, seval]) rfl rfl rfl
                          · refine wk_id ?_
                            refine chk_sx h (fun g4115 h => ?_)
                            refine seq_np ?_
                            refine reg_t ?_
                            have k4114 : 0 ≤ (0 : Int) ∧ (0 : Int) < ((c.List.length : Nat) : Int) := by first | simpa only [Bool.and_eq_true, decide_eq_true_eq, bne_iff_ne, ne_eq] using g4115 | (simp at g4115 ⊢; omega)
                            refine rs 11 [none, none, none, some ⟨.iptr (fl c.List) (((0 : Int)).toNat * 4), [], 6, []⟩, none, some ⟨iS (ix c.List (0 : Int)).When, [], 8, []⟩] _ (by kernel_rfl) (allP_cons (ob_ld c.List (0 : Int) 4 1 ((((0 : Int)).toNat * 4) + 1) k4114 rfl (by decide) (by first | rfl | omega) (dflS Try.prog 3) (iS (ix c.List (0 : Int)).When) rfl 8 []) (allP_cons (ob_ix_l c.List 4 6 0 k4114) allP_nil)) ?_
                            refine rt [(8, bS (n2 == (IntKind.i64.wrap ((ix c.List (0 : Int)).When - c.Now))))] [(0, .row 24 (Enc.cells c)), (1, .row 28 (Enc.cells c5q2)), (2, .row 28 (Enc.cells c2q4))] 14 follows (by kernel_rfl) ?_
                            refine wk_id ?_
                            obtain rfl := Option.some.inj h
                            refine ret_at (bS (n2 == (IntKind.i64.wrap ((ix c.List (0 : Int)).When - c.Now)))) (by kernel_rfl) ?_
                            exact ret_e [] [] (by simp only [push_cast, seval]) (by simp only [push_cast, seval]) rfl rfl rfl

end Go.Proofs.Ytfgedphhlilpgaa
