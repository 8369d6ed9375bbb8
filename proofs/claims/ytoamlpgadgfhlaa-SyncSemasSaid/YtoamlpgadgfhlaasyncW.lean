/-
  What laws of the chapter sync compute, and lemmas on it.
  No conditions.
-/
import Derived.Test.YtoamlpgadgfhlaasyncW2
set_option linter.unusedSimpArgs false
set_option linter.unusedVariables false
namespace Go.Proofs.Ytoamlpgadgfhlaa
open Go Go.Sx
attribute [local irreducible] Wk RunAt
set_option maxRecDepth 100000 in
set_option maxHeartbeats 10000000 in
theorem taskmilllaw_SyncOnces_spec (xo : Once) (task : Int) (r : Bool) (h : taskmilllaw_SyncOnces xo task = some r) : SpecW Try.prog 8 [.agg (Enc.cells xo), iS task] [] 0 (fun x h n => x = bS r ∧ h = [] ∧ n = 0) := by
  unfold taskmilllaw_SyncOnces at h
  refine spec_of (draw_ok _) Try.func8 rfl (by decide) rfl (by kernel_rfl) ?_
  refine seq_np ?_
  refine reg_f ?_
  refine rs 2 [] [] (by kernel_rfl) allP_nil ?_
  refine rf [(1, iS task), (2, .ptr 0 0)] [(0, .row 58 (Enc.cells xo))] 1 (by kernel_rfl) ?_
  refine wk_id ?_
  refine seq_np ?_
  refine seq_np ?_
  refine reg_f ?_
  obtain ⟨r4302, hr4302, h⟩ := bind_sx h
  refine run_call 12 [] (some 14) (by kernel_rfl) ?_
  refine call_0 (taskmilllaw_syncBegun_spec r4302 hr4302) (by simp only [push_cast, seval]) (by simp only [push_cast, seval]) ?_
  refine back_f ?_
  refine rs 1 [] [] (by kernel_rfl) allP_nil ?_
  refine rf [(1, iS task), (2, .ptr 0 0), (15, bS (!r4302))] [(0, .row 58 (Enc.cells xo))] 1 (by kernel_rfl) ?_
  refine wk_id ?_
  refine cond_sx h (by kernel_rfl) (fun g4470 h => ?_) (fun g4470 h => ?_)
  · refine seq_np ?_
    refine reg_f ?_
    refine rs 1 [] [] (by kernel_rfl) allP_nil ?_
    refine rf [(4, bS false)] [(0, .row 58 (Enc.cells xo))] 1 (by kernel_rfl) ?_
    refine wk_id ?_
    obtain rfl := Option.some.inj h
    refine ret_at (bS false) (by kernel_rfl) ?_
    exact ret_e [] [] (by simp only [push_cast, seval]) (by simp only [push_cast, seval]) rfl rfl rfl
  · refine wk_id ?_
    refine seq_np ?_
    refine seq_np ?_
    refine reg_f ?_
    refine rs 3 [] [] (by kernel_rfl) allP_nil ?_
    obtain ⟨r4306, hr4306, h⟩ := bind_sx h
    refine run_call 13 [iS ((xo.Line.length : Nat) : Int)] (some 19) (by kernel_rfl) ?_
    refine call_0 (taskmilllaw_long_spec ((xo.Line.length : Nat) : Int) r4306 hr4306) (by simp only [push_cast, seval]) (by simp only [push_cast, seval]) ?_
    refine back_f ?_
    refine rf [(1, iS task), (2, .ptr 0 0), (19, bS r4306)] [(0, .row 58 (Enc.cells xo))] 1 (by kernel_rfl) ?_
    refine wk_id ?_
    refine cond_sx h (by kernel_rfl) (fun g4469 h => ?_) (fun g4469 h => ?_)
    · refine seq_np ?_
      refine reg_f ?_
      refine rs 1 [] [] (by kernel_rfl) allP_nil ?_
      refine rf [(4, bS true)] [(0, .row 58 (Enc.cells xo))] 1 (by kernel_rfl) ?_
      refine wk_id ?_
      obtain rfl := Option.some.inj h
      refine ret_at (bS true) (by kernel_rfl) ?_
      exact ret_e [] [] (by simp only [push_cast, seval]) (by simp only [push_cast, seval]) rfl rfl rfl
    · refine wk_id ?_
      refine seq_np ?_
      refine reg_t ?_
      refine rs 6 [] [] (by kernel_rfl) allP_nil ?_
      obtain ⟨r4308, hr4308, h⟩ := bind_sx h
      refine call_x (taskmilllaw_own_spec xo.Line r4308 hr4308) (args := [.sl xo.Line.length (fl xo.Line)]) (dst := (some 26)) (by kernel_rfl) [(0, .row 58 (Enc.cells xo))] 7 (by kernel_rfl) [] [] (.own 7 0 r4308.length) [(7, .row 3 (fl r4308))] (by simp only [push_cast, seval]) (by simp only [push_cast, seval]) (by kernel_rfl) (.inl rfl) (by simp only [push_cast, seval]) (by simp only [push_cast, seval]) ?_
      refine rs 3 [] [] (by kernel_rfl) allP_nil ?_
      refine rt [(1, iS task), (2, .ptr 0 0), (5, .ptr 10 0)] [(0, .row 58 (Enc.cells xo)), (7, .row 3 (fl r4308)), (10, .row 58 [iS xo.By, bS xo.Done, .own 7 0 r4308.length])] 13 follows (by kernel_rfl) ?_
      refine wk_id ?_
      refine seq_np ?_
      refine reg_f ?_
      refine rs 2 [] [] (by kernel_rfl) allP_nil ?_
      obtain ⟨r4310, hr4310, h⟩ := bind_sx h
      refine call_x (sync_Begin_spec (Once.mk xo.By xo.Done r4308) task r4310 hr4310) (args := [.agg [iS xo.By, bS xo.Done, .own 7 0 r4308.length], iS task]) (dst := (some 31)) (by kernel_rfl) [(0, .row 58 (Enc.cells xo)), (7, .row 3 (fl r4308)), (10, .row 58 [iS xo.By, bS xo.Done, .own 7 0 r4308.length])] 13 (by kernel_rfl) [] [7] (.tup [.agg [iS r4310.1, bS r4310.2.1, .own 13 0 r4310.2.2.2.2.length], iS r4310.2.2.1, .agg (Enc.cells r4310.2.2.2.1)]) [(13, .row 3 (fl r4310.2.2.2.2))] (by simp only [push_cast, seval]) (by simp only [push_cast, seval]) (by kernel_rfl) (.inr ⟨by simp only [push_cast, seval], by simp only [push_cast, seval]⟩) (by simp only [push_cast, seval]) (by simp only [push_cast, seval]) ?_
      refine rs 9 [] [] (by kernel_rfl) allP_nil ?_
      refine rf [(1, iS task), (2, .ptr 0 0), (5, .ptr 10 0), (6, .ptr 14 0), (7, iS r4310.2.2.1), (8, .ptr 15 0)] [(0, .row 58 (Enc.cells xo)), (7, .row 3 (fl r4308)), (10, .row 58 [iS xo.By, bS xo.Done, .own 7 0 r4308.length]), (13, .row 3 (fl r4310.2.2.2.2)), (14, .row 58 [iS r4310.1, bS r4310.2.1, .own 13 0 r4310.2.2.2.2.length]), (15, .row 29 (Enc.cells r4310.2.2.2.1))] 16 (by kernel_rfl) ?_
      refine wk_id ?_
      refine seq_np ?_
      refine reg_f ?_
      refine rs 2 [] [] (by kernel_rfl) allP_nil ?_
      obtain ⟨r4312, hr4312, h⟩ := bind_sx h
      refine call_x (sync_End_spec (Once.mk xo.By xo.Done r4308) task r4312 hr4312) (args := [.agg [iS xo.By, bS xo.Done, .own 7 0 r4308.length], iS task]) (dst := (some 38)) (by kernel_rfl) [(0, .row 58 (Enc.cells xo)), (7, .row 3 (fl r4308)), (10, .row 58 [iS xo.By, bS xo.Done, .own 7 0 r4308.length]), (13, .row 3 (fl r4310.2.2.2.2)), (14, .row 58 [iS r4310.1, bS r4310.2.1, .own 13 0 r4310.2.2.2.2.length]), (15, .row 29 (Enc.cells r4310.2.2.2.1))] 16 (by kernel_rfl) [] [7] (.tup [.agg [iS r4312.1, bS r4312.2.1, .v (.slice none 0 0)], .own 16 0 r4312.2.2.2.length, .agg (Enc.cells r4312.2.2.1)]) [(16, .row 3 (fl r4312.2.2.2))] (by simp only [push_cast, seval]) (by simp only [push_cast, seval]) (by kernel_rfl) (.inr ⟨by simp only [push_cast, seval], by simp only [push_cast, seval]⟩) (by simp only [push_cast, seval]) (by simp only [push_cast, seval]) ?_
      refine rs 9 [] [] (by kernel_rfl) allP_nil ?_
      refine rf [(1, iS task), (2, .ptr 0 0), (5, .ptr 10 0), (6, .ptr 14 0), (7, iS r4310.2.2.1), (8, .ptr 15 0), (9, .ptr 17 0), (10, .own 16 0 r4312.2.2.2.length), (11, .ptr 18 0)] [(0, .row 58 (Enc.cells xo)), (7, .row 3 (fl r4308)), (10, .row 58 [iS xo.By, bS xo.Done, .own 7 0 r4308.length]), (13, .row 3 (fl r4310.2.2.2.2)), (14, .row 58 [iS r4310.1, bS r4310.2.1, .own 13 0 r4310.2.2.2.2.length]), (15, .row 29 (Enc.cells r4310.2.2.2.1)), (16, .row 3 (fl r4312.2.2.2)), (17, .row 58 [iS r4312.1, bS r4312.2.1, .v (.slice none 0 0)]), (18, .row 29 (Enc.cells r4312.2.2.1))] 19 (by kernel_rfl) ?_
      refine wk_id ?_
      refine seq_np ?_
      refine reg_f ?_
      refine rs 1 [] [] (by kernel_rfl) allP_nil ?_
      obtain ⟨r4314, hr4314, h⟩ := bind_sx h
      refine run_call 31 [.agg (Enc.cells xo)] (some 43) (by kernel_rfl) ?_
      refine call_0 (taskmillref_OnceFault_spec xo r4314 hr4314) (by simp only [push_cast, seval]) (by simp only [push_cast, seval]) ?_
      refine back_f ?_
      refine rs 2 [] [] (by kernel_rfl) allP_nil ?_
      refine rf [(1, iS task), (2, .ptr 0 0), (5, .ptr 10 0), (6, .ptr 14 0), (7, iS r4310.2.2.1), (8, .ptr 15 0), (9, .ptr 17 0), (10, .own 16 0 r4312.2.2.2.length), (11, .ptr 18 0), (12, .ptr 19 0)] [(0, .row 58 (Enc.cells xo)), (7, .row 3 (fl r4308)), (10, .row 58 [iS xo.By, bS xo.Done, .own 7 0 r4308.length]), (13, .row 3 (fl r4310.2.2.2.2)), (14, .row 58 [iS r4310.1, bS r4310.2.1, .own 13 0 r4310.2.2.2.2.length]), (15, .row 29 (Enc.cells r4310.2.2.2.1)), (16, .row 3 (fl r4312.2.2.2)), (17, .row 58 [iS r4312.1, bS r4312.2.1, .v (.slice none 0 0)]), (18, .row 29 (Enc.cells r4312.2.2.1)), (19, .row 29 (Enc.cells r4314))] 20 (by kernel_rfl) ?_
      refine wk_id ?_
      refine seq_np ?_
      refine reg_f ?_
      refine rs 4 [] [] (by kernel_rfl) allP_nil ?_
      obtain ⟨r4316, hr4316, h⟩ := bind_sx h
      refine run_call 26 [.agg (Enc.cells r4314), .sl xo.Line.length (fl xo.Line), iS task] (some 48) (by kernel_rfl) ?_
      refine call_0 (taskmillref_ComeFault_spec r4314 xo.Line task r4316 hr4316) (by simp only [push_cast, seval]) (by simp only [push_cast, seval]) ?_
      refine back_f ?_
      refine rs 2 [] [] (by kernel_rfl) allP_nil ?_
      refine rf [(1, iS task), (2, .ptr 0 0), (5, .ptr 10 0), (6, .ptr 14 0), (7, iS r4310.2.2.1), (8, .ptr 15 0), (9, .ptr 17 0), (10, .own 16 0 r4312.2.2.2.length), (11, .ptr 18 0), (12, .ptr 19 0), (13, .ptr 20 0)] [(0, .row 58 (Enc.cells xo)), (7, .row 3 (fl r4308)), (10, .row 58 [iS xo.By, bS xo.Done, .own 7 0 r4308.length]), (13, .row 3 (fl r4310.2.2.2.2)), (14, .row 58 [iS r4310.1, bS r4310.2.1, .own 13 0 r4310.2.2.2.2.length]), (15, .row 29 (Enc.cells r4310.2.2.2.1)), (16, .row 3 (fl r4312.2.2.2)), (17, .row 58 [iS r4312.1, bS r4312.2.1, .v (.slice none 0 0)]), (18, .row 29 (Enc.cells r4312.2.2.1)), (19, .row 29 (Enc.cells r4314)), (20, .row 29 (Enc.cells r4316))] 21 (by kernel_rfl) ?_
      refine wk_id ?_
      refine seq_cut (A := Int × Int × Bool × Fault × Int × Bool × (List Int) × Fault × Fault × Fault × (List Int) × (List Int)) (fun a => ([(1, iS task), (2, .ptr 0 0), (5, .ptr 1 0), (6, .ptr 2 0), (7, iS a.1), (8, .ptr 3 0), (9, .ptr 4 0), (10, .own 5 0 a.2.2.2.2.2.2.1.length), (11, .ptr 6 0), (12, .ptr 7 0), (13, .ptr 8 0)], [(0, .row 58 (Enc.cells xo)), (1, .row 58 [iS xo.By, bS xo.Done, .own 9 0 a.2.2.2.2.2.2.2.2.2.2.1.length]), (2, .row 58 [iS a.2.1, bS a.2.2.1, .own 10 0 a.2.2.2.2.2.2.2.2.2.2.2.length]), (3, .row 29 (Enc.cells a.2.2.2.1)), (4, .row 58 [iS a.2.2.2.2.1, bS a.2.2.2.2.2.1, .v (.slice none 0 0)]), (5, .row 3 (fl a.2.2.2.2.2.2.1)), (6, .row 29 (Enc.cells a.2.2.2.2.2.2.2.1)), (7, .row 29 (Enc.cells a.2.2.2.2.2.2.2.2.1)), (8, .row 29 (Enc.cells a.2.2.2.2.2.2.2.2.2.1)), (9, .row 3 (fl a.2.2.2.2.2.2.2.2.2.2.1)), (10, .row 3 (fl a.2.2.2.2.2.2.2.2.2.2.2))], 11)) (fun a => (taskmilllaw_SyncOnces_j10 xo task a.1 a.2.1 a.2.2.1 a.2.2.2.1 a.2.2.2.2.1 a.2.2.2.2.2.1 a.2.2.2.2.2.2.1 a.2.2.2.2.2.2.2.1 a.2.2.2.2.2.2.2.2.1 a.2.2.2.2.2.2.2.2.2.1 a.2.2.2.2.2.2.2.2.2.2.1 a.2.2.2.2.2.2.2.2.2.2.2) = some r) (fun K4321 hK4321 => ?_) ?_
      · refine seq_cut (A := Unit) (fun _ => ([(1, iS task), (2, .ptr 0 0), (5, .ptr 10 0), (6, .ptr 14 0), (7, iS r4310.2.2.1), (8, .ptr 15 0), (9, .ptr 17 0), (10, .own 16 0 r4312.2.2.2.length), (11, .ptr 18 0), (12, .ptr 19 0), (13, .ptr 20 0), (57, bS ((r4316.Code == 0) && (xo.By == task)))], [(0, .row 58 (Enc.cells xo)), (7, .row 3 (fl r4308)), (10, .row 58 [iS xo.By, bS xo.Done, .own 7 0 r4308.length]), (13, .row 3 (fl r4310.2.2.2.2)), (14, .row 58 [iS r4310.1, bS r4310.2.1, .own 13 0 r4310.2.2.2.2.length]), (15, .row 29 (Enc.cells r4310.2.2.2.1)), (16, .row 3 (fl r4312.2.2.2)), (17, .row 58 [iS r4312.1, bS r4312.2.1, .v (.slice none 0 0)]), (18, .row 29 (Enc.cells r4312.2.2.1)), (19, .row 29 (Enc.cells r4314)), (20, .row 29 (Enc.cells r4316))], 21)) (fun _ => True) (fun K4323 hK4323 => ?_) (fun _ _ => ?_)
        · refine reg_f ?_
          refine rs 4 [] [] (by kernel_rfl) allP_nil ?_
          refine run_split 52 (r4316.Code == 0) (.inl (by kernel_rfl)) (fun g4324 => ?_) (fun g4324 => ?_)
          · refine rs 5 [] [] (by kernel_rfl) allP_nil ?_
            refine rf [(1, iS task), (2, .ptr 0 0), (5, .ptr 10 0), (6, .ptr 14 0), (7, iS r4310.2.2.1), (8, .ptr 15 0), (9, .ptr 17 0), (10, .own 16 0 r4312.2.2.2.length), (11, .ptr 18 0), (12, .ptr 19 0), (13, .ptr 20 0), (57, bS (xo.By == task))] [(0, .row 58 (Enc.cells xo)), (7, .row 3 (fl r4308)), (10, .row 58 [iS xo.By, bS xo.Done, .own 7 0 r4308.length]), (13, .row 3 (fl r4310.2.2.2.2)), (14, .row 58 [iS r4310.1, bS r4310.2.1, .own 13 0 r4310.2.2.2.2.length]), (15, .row 29 (Enc.cells r4310.2.2.2.1)), (16, .row 3 (fl r4312.2.2.2)), (17, .row 58 [iS r4312.1, bS r4312.2.1, .v (.slice none 0 0)]), (18, .row 29 (Enc.cells r4312.2.2.1)), (19, .row 29 (Enc.cells r4314)), (20, .row 29 (Enc.cells r4316))] 21 (by kernel_rfl) ?_
            exact hK4323 () _ _ _ trivial (leSt_m [(0, 0), (7, 7), (10, 10), (13, 13), (14, 14), (15, 15), (16, 16), (17, 17), (18, 18), (19, 19), (20, 20)] [] (by (try simp only [g4324]) <;> simp only [push_cast, seval]) (by (try simp only [g4324]) <;> simp only [push_cast, seval]) rfl rfl rfl)
          · refine rs 5 [] [] (by kernel_rfl) allP_nil ?_
            refine rf [(1, iS task), (2, .ptr 0 0), (5, .ptr 10 0), (6, .ptr 14 0), (7, iS r4310.2.2.1), (8, .ptr 15 0), (9, .ptr 17 0), (10, .own 16 0 r4312.2.2.2.length), (11, .ptr 18 0), (12, .ptr 19 0), (13, .ptr 20 0), (57, bS false)] [(0, .row 58 (Enc.cells xo)), (7, .row 3 (fl r4308)), (10, .row 58 [iS xo.By, bS xo.Done, .own 7 0 r4308.length]), (13, .row 3 (fl r4310.2.2.2.2)), (14, .row 58 [iS r4310.1, bS r4310.2.1, .own 13 0 r4310.2.2.2.2.length]), (15, .row 29 (Enc.cells r4310.2.2.2.1)), (16, .row 3 (fl r4312.2.2.2)), (17, .row 58 [iS r4312.1, bS r4312.2.1, .v (.slice none 0 0)]), (18, .row 29 (Enc.cells r4312.2.2.1)), (19, .row 29 (Enc.cells r4314)), (20, .row 29 (Enc.cells r4316))] 21 (by kernel_rfl) ?_
            exact hK4323 () _ _ _ trivial (leSt_m [(0, 0), (7, 7), (10, 10), (13, 13), (14, 14), (15, 15), (16, 16), (17, 17), (18, 18), (19, 19), (20, 20)] [] (by (try simp only [g4324]) <;> simp only [push_cast, seval]) (by (try simp only [g4324]) <;> simp only [push_cast, seval]) rfl rfl rfl)
        · dsimp only
          refine cond_sx h (by kernel_rfl) (fun g4327 h => ?_) (fun g4327 h => ?_)
          · refine reg_f ?_
            obtain ⟨r4326, hr4326, h⟩ := bind_sx h
            refine run_call 19 [iS 11, iS (-1)] (some 58) (by kernel_rfl) ?_
            refine call_0 (taskmillref_F_spec 11 (-1) r4326 hr4326) (by simp only [push_cast, seval]) (by simp only [push_cast, seval]) ?_
            refine back_f ?_
            refine rs 1 [] [] (by kernel_rfl) allP_nil ?_
            refine rf [(1, iS task), (2, .ptr 0 0), (5, .ptr 10 0), (6, .ptr 14 0), (7, iS r4310.2.2.1), (8, .ptr 15 0), (9, .ptr 17 0), (10, .own 16 0 r4312.2.2.2.length), (11, .ptr 18 0), (12, .ptr 19 0), (13, .ptr 20 0)] [(0, .row 58 (Enc.cells xo)), (7, .row 3 (fl r4308)), (10, .row 58 [iS xo.By, bS xo.Done, .own 7 0 r4308.length]), (13, .row 3 (fl r4310.2.2.2.2)), (14, .row 58 [iS r4310.1, bS r4310.2.1, .own 13 0 r4310.2.2.2.2.length]), (15, .row 29 (Enc.cells r4310.2.2.2.1)), (16, .row 3 (fl r4312.2.2.2)), (17, .row 58 [iS r4312.1, bS r4312.2.1, .v (.slice none 0 0)]), (18, .row 29 (Enc.cells r4312.2.2.1)), (19, .row 29 (Enc.cells r4314)), (20, .row 29 (Enc.cells r4326))] 21 (by kernel_rfl) ?_
            exact hK4321 (r4310.2.2.1, r4310.1, r4310.2.1, r4310.2.2.2.1, r4312.1, r4312.2.1, r4312.2.2.2, r4312.2.2.1, r4314, r4326, r4308, r4310.2.2.2.2) _ _ _ h (leSt_m [(0, 0), (1, 10), (2, 14), (3, 15), (4, 17), (5, 16), (6, 18), (7, 19), (8, 20), (9, 7), (10, 13)] [] (by simp only [push_cast, seval]) (by simp only [push_cast, seval]) rfl rfl rfl)
          · exact hK4321 (r4310.2.2.1, r4310.1, r4310.2.1, r4310.2.2.2.1, r4312.1, r4312.2.1, r4312.2.2.2, r4312.2.2.1, r4314, r4316, r4308, r4310.2.2.2.2) _ _ _ h (leSt_m [(0, 0), (1, 10), (2, 14), (3, 15), (4, 17), (5, 16), (6, 18), (7, 19), (8, 20), (9, 7), (10, 13)] [] (by simp only [push_cast, seval]) (by simp only [push_cast, seval]) rfl rfl rfl)
      · rintro ⟨k1, c2_By1, c2_Done1, c3q1, c4_By1, c4_Done1, c5q1, c6q1, c7q1, c8q1, c9q1, c10q1⟩ h
        try dsimp only at h ⊢
        unfold taskmilllaw_SyncOnces_j10 at h
        refine seq_np ?_
        refine seq_cut (A := Bool) (fun a => ([(1, iS task), (2, .ptr 0 0), (6, .ptr 1 0), (7, iS k1), (9, .ptr 2 0), (10, .own 3 0 c5q1.length), (11, .ptr 4 0), (12, .ptr 5 0), (13, .ptr 6 0), (67, bS a)], [(0, .row 58 (Enc.cells xo)), (1, .row 58 [iS c2_By1, bS c2_Done1, .own 7 0 c10q1.length]), (2, .row 58 [iS c4_By1, bS c4_Done1, .v (.slice none 0 0)]), (3, .row 3 (fl c5q1)), (4, .row 29 (Enc.cells c6q1)), (5, .row 29 (Enc.cells c7q1)), (6, .row 29 (Enc.cells c8q1)), (7, .row 3 (fl c10q1))], 8)) (fun a => (taskmilllaw_SyncOnces_j9 xo task k1 c2_By1 c2_Done1 c4_By1 c4_Done1 c5q1 c6q1 c7q1 c8q1 c10q1 a) = some r) (fun K4336 hK4336 => ?_) ?_
        · refine reg_f ?_
          refine rs 4 [] [] (by kernel_rfl) allP_nil ?_
          refine run_br h 62 (.inl (by kernel_rfl)) (fun g4337 h => ?_) (fun g4337 h => ?_)
          · refine rs 5 [] [] (by kernel_rfl) allP_nil ?_
            refine rf [(1, iS task), (2, .ptr 0 0), (6, .ptr 2 0), (7, iS k1), (9, .ptr 4 0), (10, .own 5 0 c5q1.length), (11, .ptr 6 0), (12, .ptr 7 0), (13, .ptr 8 0), (67, bS true)] [(0, .row 58 (Enc.cells xo)), (1, .row 58 [iS xo.By, bS xo.Done, .own 9 0 c9q1.length]), (2, .row 58 [iS c2_By1, bS c2_Done1, .own 10 0 c10q1.length]), (3, .row 29 (Enc.cells c3q1)), (4, .row 58 [iS c4_By1, bS c4_Done1, .v (.slice none 0 0)]), (5, .row 3 (fl c5q1)), (6, .row 29 (Enc.cells c6q1)), (7, .row 29 (Enc.cells c7q1)), (8, .row 29 (Enc.cells c8q1)), (9, .row 3 (fl c9q1)), (10, .row 3 (fl c10q1))] 11 (by kernel_rfl) ?_
            exact hK4336 (true) _ _ _ h (leSt_m [(0, 0), (1, 2), (2, 4), (3, 5), (4, 6), (5, 7), (6, 8), (7, 10)] [] (by (try simp only [g4337]) <;> simp only [push_cast, seval]) (by (try simp only [g4337]) <;> simp only [push_cast, seval]) rfl rfl rfl)
          · refine rs 2 [] [] (by kernel_rfl) allP_nil ?_
            obtain ⟨r4338, hr4338, h⟩ := bind_sx h
            refine call_x (taskmilllaw_sameOnce_spec (Once.mk xo.By xo.Done c9q1) xo r4338 hr4338) (args := [.agg [iS xo.By, bS xo.Done, .own 9 0 c9q1.length], .agg (Enc.cells xo)]) (dst := (some 65)) (by kernel_rfl) [(0, .row 58 (Enc.cells xo)), (1, .row 58 [iS xo.By, bS xo.Done, .own 9 0 c9q1.length]), (2, .row 58 [iS c2_By1, bS c2_Done1, .own 10 0 c10q1.length]), (3, .row 29 (Enc.cells c3q1)), (4, .row 58 [iS c4_By1, bS c4_Done1, .v (.slice none 0 0)]), (5, .row 3 (fl c5q1)), (6, .row 29 (Enc.cells c6q1)), (7, .row 29 (Enc.cells c7q1)), (8, .row 29 (Enc.cells c8q1)), (9, .row 3 (fl c9q1)), (10, .row 3 (fl c10q1))] 11 (by kernel_rfl) [] [9] (bS r4338) [] (by simp only [push_cast, seval]) (by simp only [push_cast, seval]) (by kernel_rfl) (.inr ⟨by simp only [push_cast, seval], by simp only [push_cast, seval]⟩) (by simp only [push_cast, seval]) (by simp only [push_cast, seval]) ?_
            refine rs 2 [] [] (by kernel_rfl) allP_nil ?_
            refine rf [(1, iS task), (2, .ptr 0 0), (6, .ptr 2 0), (7, iS k1), (9, .ptr 4 0), (10, .own 5 0 c5q1.length), (11, .ptr 6 0), (12, .ptr 7 0), (13, .ptr 8 0), (67, bS (!r4338))] [(0, .row 58 (Enc.cells xo)), (1, .row 58 [iS xo.By, bS xo.Done, .own 9 0 c9q1.length]), (2, .row 58 [iS c2_By1, bS c2_Done1, .own 10 0 c10q1.length]), (3, .row 29 (Enc.cells c3q1)), (4, .row 58 [iS c4_By1, bS c4_Done1, .v (.slice none 0 0)]), (5, .row 3 (fl c5q1)), (6, .row 29 (Enc.cells c6q1)), (7, .row 29 (Enc.cells c7q1)), (8, .row 29 (Enc.cells c8q1)), (9, .row 3 (fl c9q1)), (10, .row 3 (fl c10q1))] 11 (by kernel_rfl) ?_
            exact hK4336 ((!r4338)) _ _ _ h (leSt_m [(0, 0), (1, 2), (2, 4), (3, 5), (4, 6), (5, 7), (6, 8), (7, 10)] [] (by (try simp only [g4337]) <;> simp only [push_cast, seval]) (by (try simp only [g4337]) <;> simp only [push_cast, seval]) rfl rfl rfl)
        · rintro t67q2 h
          try dsimp only at h ⊢
          unfold taskmilllaw_SyncOnces_j9 at h
          refine cond_sx h (by kernel_rfl) (fun g4468 h => ?_) (fun g4468 h => ?_)
          · refine seq_np ?_
            refine reg_f ?_
            refine rs 1 [] [] (by kernel_rfl) allP_nil ?_
            refine rf [(4, bS false)] [(0, .row 58 (Enc.cells xo)), (1, .row 58 [iS c2_By1, bS c2_Done1, .own 7 0 c10q1.length]), (2, .row 58 [iS c4_By1, bS c4_Done1, .v (.slice none 0 0)]), (3, .row 3 (fl c5q1)), (4, .row 29 (Enc.cells c6q1)), (5, .row 29 (Enc.cells c7q1)), (6, .row 29 (Enc.cells c8q1)), (7, .row 3 (fl c10q1))] 8 (by kernel_rfl) ?_
            refine wk_id ?_
            obtain rfl := Option.some.inj h
            refine ret_at (bS false) (by kernel_rfl) ?_
            exact ret_e [] [] (by simp only [push_cast, seval]) (by simp only [push_cast, seval]) rfl rfl rfl
          · refine wk_id ?_
            refine seq_np ?_
            refine block_cut (A := Unit) (fun a => ([(1, iS task), (2, .ptr 0 0), (9, .ptr 1 0), (10, .own 2 0 c5q1.length), (11, .ptr 3 0), (12, .ptr 4 0)], [(0, .row 58 (Enc.cells xo)), (1, .row 58 [iS c4_By1, bS c4_Done1, .v (.slice none 0 0)]), (2, .row 3 (fl c5q1)), (3, .row 29 (Enc.cells c6q1)), (4, .row 29 (Enc.cells c7q1))], 5)) (fun a => (taskmilllaw_SyncOnces_j4 xo task c4_By1 c4_Done1 c5q1 c6q1 c7q1) = some r) (fun K4394 hK4394 => ?_) ?_
            · refine seq_np ?_
              refine reg_f ?_
              refine rs 4 [] [] (by kernel_rfl) allP_nil ?_
              refine rf [(1, iS task), (2, .ptr 0 0), (6, .ptr 1 0), (7, iS k1), (9, .ptr 2 0), (10, .own 3 0 c5q1.length), (11, .ptr 4 0), (12, .ptr 5 0), (84, bS (c8q1.Code != 0))] [(0, .row 58 (Enc.cells xo)), (1, .row 58 [iS c2_By1, bS c2_Done1, .own 7 0 c10q1.length]), (2, .row 58 [iS c4_By1, bS c4_Done1, .v (.slice none 0 0)]), (3, .row 3 (fl c5q1)), (4, .row 29 (Enc.cells c6q1)), (5, .row 29 (Enc.cells c7q1)), (6, .row 29 (Enc.cells c8q1)), (7, .row 3 (fl c10q1))] 8 (by kernel_rfl) ?_
              refine wk_id ?_
              refine cond_sx h (by kernel_rfl) (fun g4431 h => ?_) (fun g4431 h => ?_)
              · refine seq_cut (A := Bool) (fun a => ([(1, iS task), (2, .ptr 0 0), (9, .ptr 1 0), (10, .own 2 0 c5q1.length), (11, .ptr 3 0), (12, .ptr 4 0), (95, bS a)], [(0, .row 58 (Enc.cells xo)), (1, .row 58 [iS c4_By1, bS c4_Done1, .v (.slice none 0 0)]), (2, .row 3 (fl c5q1)), (3, .row 29 (Enc.cells c6q1)), (4, .row 29 (Enc.cells c7q1))], 5)) (fun a => (taskmilllaw_SyncOnces_j5 xo task c4_By1 c4_Done1 c5q1 c6q1 c7q1 a) = some r) (fun K4398 hK4398 => ?_) ?_
                · refine reg_f ?_
                  refine rs 2 [] [] (by kernel_rfl) allP_nil ?_
                  obtain ⟨r4399, hr4399, h⟩ := bind_sx h
                  refine call_x (taskmilllaw_sameOnce_spec (Once.mk c2_By1 c2_Done1 c10q1) (Once.mk 0 false []) r4399 hr4399) (args := [.agg [iS c2_By1, bS c2_Done1, .own 7 0 c10q1.length], .agg [iS 0, bS false, .v (.slice none 0 0)]]) (dst := (some 90)) (by kernel_rfl) [(0, .row 58 (Enc.cells xo)), (1, .row 58 [iS c2_By1, bS c2_Done1, .own 7 0 c10q1.length]), (2, .row 58 [iS c4_By1, bS c4_Done1, .v (.slice none 0 0)]), (3, .row 3 (fl c5q1)), (4, .row 29 (Enc.cells c6q1)), (5, .row 29 (Enc.cells c7q1)), (6, .row 29 (Enc.cells c8q1)), (7, .row 3 (fl c10q1))] 8 (by kernel_rfl) [] [7] (bS r4399) [] (by simp only [push_cast, seval]) (by simp only [push_cast, seval]) (by kernel_rfl) (.inr ⟨by simp only [push_cast, seval], by simp only [push_cast, seval]⟩) (by simp only [push_cast, seval]) (by simp only [push_cast, seval]) ?_
                  refine rs 2 [] [] (by kernel_rfl) allP_nil ?_
                  refine run_br h 92 (.inl (by kernel_rfl)) (fun g4400 h => ?_) (fun g4400 h => ?_)
                  · refine rs 3 [] [] (by kernel_rfl) allP_nil ?_
                    refine rf [(1, iS task), (2, .ptr 0 0), (9, .ptr 2 0), (10, .own 3 0 c5q1.length), (11, .ptr 4 0), (12, .ptr 5 0), (95, bS true)] [(0, .row 58 (Enc.cells xo)), (1, .row 58 [iS c2_By1, bS c2_Done1, .own 7 0 c10q1.length]), (2, .row 58 [iS c4_By1, bS c4_Done1, .v (.slice none 0 0)]), (3, .row 3 (fl c5q1)), (4, .row 29 (Enc.cells c6q1)), (5, .row 29 (Enc.cells c7q1)), (6, .row 29 (Enc.cells c8q1)), (7, .row 3 (fl c10q1))] 8 (by kernel_rfl) ?_
                    exact hK4398 (true) _ _ _ h (leSt_m [(0, 0), (1, 2), (2, 3), (3, 4), (4, 5)] [] (by (try simp only [g4400]) <;> simp only [push_cast, seval]) (by (try simp only [g4400]) <;> simp only [push_cast, seval]) rfl rfl rfl)
                  · refine rs 3 [] [] (by kernel_rfl) allP_nil ?_
                    refine rf [(1, iS task), (2, .ptr 0 0), (9, .ptr 2 0), (10, .own 3 0 c5q1.length), (11, .ptr 4 0), (12, .ptr 5 0), (95, bS (k1 != 0))] [(0, .row 58 (Enc.cells xo)), (1, .row 58 [iS c2_By1, bS c2_Done1, .own 7 0 c10q1.length]), (2, .row 58 [iS c4_By1, bS c4_Done1, .v (.slice none 0 0)]), (3, .row 3 (fl c5q1)), (4, .row 29 (Enc.cells c6q1)), (5, .row 29 (Enc.cells c7q1)), (6, .row 29 (Enc.cells c8q1)), (7, .row 3 (fl c10q1))] 8 (by kernel_rfl) ?_
                    exact hK4398 ((k1 != 0)) _ _ _ h (leSt_m [(0, 0), (1, 2), (2, 3), (3, 4), (4, 5)] [] (by (try simp only [g4400]) <;> simp only [push_cast, seval]) (by (try simp only [g4400]) <;> simp only [push_cast, seval]) rfl rfl rfl)
                · rintro t95q3 h
                  try dsimp only at h ⊢
                  unfold taskmilllaw_SyncOnces_j5 at h
                  refine cond_sx h (by kernel_rfl) (fun g4401 h => ?_) (fun g4401 h => ?_)
                  · refine seq_np ?_
                    refine reg_f ?_
                    refine rs 1 [] [] (by kernel_rfl) allP_nil ?_
                    refine rf [(4, bS false)] [(0, .row 58 (Enc.cells xo)), (1, .row 58 [iS c4_By1, bS c4_Done1, .v (.slice none 0 0)]), (2, .row 3 (fl c5q1)), (3, .row 29 (Enc.cells c6q1)), (4, .row 29 (Enc.cells c7q1))] 5 (by kernel_rfl) ?_
                    refine wk_id ?_
                    obtain rfl := Option.some.inj h
                    refine ret_at (bS false) (by kernel_rfl) ?_
                    exact ret_e [] [] (by simp only [push_cast, seval]) (by simp only [push_cast, seval]) rfl rfl rfl
                  · exact hK4394 () _ _ _ h (leSt_m [(0, 0), (1, 1), (2, 2), (3, 3), (4, 4)] [] (by simp only [push_cast, seval]) (by simp only [push_cast, seval]) rfl rfl rfl)
              · refine seq_np ?_
                refine reg_f ?_
                refine rs 3 [] [] (by kernel_rfl) allP_nil ?_
                refine rf [(1, iS task), (2, .ptr 0 0), (6, .ptr 1 0), (7, iS k1), (9, .ptr 2 0), (10, .own 3 0 c5q1.length), (11, .ptr 4 0), (12, .ptr 5 0), (96, bS xo.Done)] [(0, .row 58 (Enc.cells xo)), (1, .row 58 [iS c2_By1, bS c2_Done1, .own 7 0 c10q1.length]), (2, .row 58 [iS c4_By1, bS c4_Done1, .v (.slice none 0 0)]), (3, .row 3 (fl c5q1)), (4, .row 29 (Enc.cells c6q1)), (5, .row 29 (Enc.cells c7q1)), (6, .row 29 (Enc.cells c8q1)), (7, .row 3 (fl c10q1))] 8 (by kernel_rfl) ?_
                refine wk_id ?_
                refine cond_sx h (by kernel_rfl) (fun g4430 h => ?_) (fun g4430 h => ?_)
                · refine seq_cut (A := Bool) (fun a => ([(1, iS task), (2, .ptr 0 0), (9, .ptr 1 0), (10, .own 2 0 c5q1.length), (11, .ptr 3 0), (12, .ptr 4 0), (106, bS a)], [(0, .row 58 (Enc.cells xo)), (1, .row 58 [iS c4_By1, bS c4_Done1, .v (.slice none 0 0)]), (2, .row 3 (fl c5q1)), (3, .row 29 (Enc.cells c6q1)), (4, .row 29 (Enc.cells c7q1))], 5)) (fun a => (taskmilllaw_SyncOnces_j6 xo task c4_By1 c4_Done1 c5q1 c6q1 c7q1 a) = some r) (fun K4405 hK4405 => ?_) ?_
                  · refine reg_f ?_
                    refine rs 2 [] [] (by kernel_rfl) allP_nil ?_
                    obtain ⟨r4406, hr4406, h⟩ := bind_sx h
                    refine call_x (taskmilllaw_sameOnce_spec (Once.mk c2_By1 c2_Done1 c10q1) xo r4406 hr4406) (args := [.agg [iS c2_By1, bS c2_Done1, .own 7 0 c10q1.length], .agg (Enc.cells xo)]) (dst := (some 101)) (by kernel_rfl) [(0, .row 58 (Enc.cells xo)), (1, .row 58 [iS c2_By1, bS c2_Done1, .own 7 0 c10q1.length]), (2, .row 58 [iS c4_By1, bS c4_Done1, .v (.slice none 0 0)]), (3, .row 3 (fl c5q1)), (4, .row 29 (Enc.cells c6q1)), (5, .row 29 (Enc.cells c7q1)), (6, .row 29 (Enc.cells c8q1)), (7, .row 3 (fl c10q1))] 8 (by kernel_rfl) [] [7] (bS r4406) [] (by simp only [push_cast, seval]) (by simp only [push_cast, seval]) (by kernel_rfl) (.inr ⟨by simp only [push_cast, seval], by simp only [push_cast, seval]⟩) (by simp only [push_cast, seval]) (by simp only [push_cast, seval]) ?_
                    refine rs 2 [] [] (by kernel_rfl) allP_nil ?_
                    refine run_br h 103 (.inl (by kernel_rfl)) (fun g4407 h => ?_) (fun g4407 h => ?_)
                    · refine rs 3 [] [] (by kernel_rfl) allP_nil ?_
                      refine rf [(1, iS task), (2, .ptr 0 0), (9, .ptr 2 0), (10, .own 3 0 c5q1.length), (11, .ptr 4 0), (12, .ptr 5 0), (106, bS true)] [(0, .row 58 (Enc.cells xo)), (1, .row 58 [iS c2_By1, bS c2_Done1, .own 7 0 c10q1.length]), (2, .row 58 [iS c4_By1, bS c4_Done1, .v (.slice none 0 0)]), (3, .row 3 (fl c5q1)), (4, .row 29 (Enc.cells c6q1)), (5, .row 29 (Enc.cells c7q1)), (6, .row 29 (Enc.cells c8q1)), (7, .row 3 (fl c10q1))] 8 (by kernel_rfl) ?_
                      exact hK4405 (true) _ _ _ h (leSt_m [(0, 0), (1, 2), (2, 3), (3, 4), (4, 5)] [] (by (try simp only [g4407]) <;> simp only [push_cast, seval]) (by (try simp only [g4407]) <;> simp only [push_cast, seval]) rfl rfl rfl)
                    · refine rs 3 [] [] (by kernel_rfl) allP_nil ?_
                      refine rf [(1, iS task), (2, .ptr 0 0), (9, .ptr 2 0), (10, .own 3 0 c5q1.length), (11, .ptr 4 0), (12, .ptr 5 0), (106, bS (k1 != 2))] [(0, .row 58 (Enc.cells xo)), (1, .row 58 [iS c2_By1, bS c2_Done1, .own 7 0 c10q1.length]), (2, .row 58 [iS c4_By1, bS c4_Done1, .v (.slice none 0 0)]), (3, .row 3 (fl c5q1)), (4, .row 29 (Enc.cells c6q1)), (5, .row 29 (Enc.cells c7q1)), (6, .row 29 (Enc.cells c8q1)), (7, .row 3 (fl c10q1))] 8 (by kernel_rfl) ?_
                      exact hK4405 ((k1 != 2)) _ _ _ h (leSt_m [(0, 0), (1, 2), (2, 3), (3, 4), (4, 5)] [] (by (try simp only [g4407]) <;> simp only [push_cast, seval]) (by (try simp only [g4407]) <;> simp only [push_cast, seval]) rfl rfl rfl)
                  · rintro t106q3 h
                    try dsimp only at h ⊢
                    unfold taskmilllaw_SyncOnces_j6 at h
                    refine cond_sx h (by kernel_rfl) (fun g4408 h => ?_) (fun g4408 h => ?_)
                    · refine seq_np ?_
                      refine reg_f ?_
                      refine rs 1 [] [] (by kernel_rfl) allP_nil ?_
                      refine rf [(4, bS false)] [(0, .row 58 (Enc.cells xo)), (1, .row 58 [iS c4_By1, bS c4_Done1, .v (.slice none 0 0)]), (2, .row 3 (fl c5q1)), (3, .row 29 (Enc.cells c6q1)), (4, .row 29 (Enc.cells c7q1))] 5 (by kernel_rfl) ?_
                      refine wk_id ?_
                      obtain rfl := Option.some.inj h
                      refine ret_at (bS false) (by kernel_rfl) ?_
                      exact ret_e [] [] (by simp only [push_cast, seval]) (by simp only [push_cast, seval]) rfl rfl rfl
                    · exact hK4394 () _ _ _ h (leSt_m [(0, 0), (1, 1), (2, 2), (3, 3), (4, 4)] [] (by simp only [push_cast, seval]) (by simp only [push_cast, seval]) rfl rfl rfl)
                · refine seq_np ?_
                  refine reg_f ?_
                  refine rs 4 [] [] (by kernel_rfl) allP_nil ?_
                  refine rf [(1, iS task), (2, .ptr 0 0), (6, .ptr 1 0), (7, iS k1), (9, .ptr 2 0), (10, .own 3 0 c5q1.length), (11, .ptr 4 0), (12, .ptr 5 0), (107, bS (xo.By == 0))] [(0, .row 58 (Enc.cells xo)), (1, .row 58 [iS c2_By1, bS c2_Done1, .own 7 0 c10q1.length]), (2, .row 58 [iS c4_By1, bS c4_Done1, .v (.slice none 0 0)]), (3, .row 3 (fl c5q1)), (4, .row 29 (Enc.cells c6q1)), (5, .row 29 (Enc.cells c7q1)), (6, .row 29 (Enc.cells c8q1)), (7, .row 3 (fl c10q1))] 8 (by kernel_rfl) ?_
                  refine wk_id ?_
                  refine cond_sx h (by kernel_rfl) (fun g4429 h => ?_) (fun g4429 h => ?_)
                  · refine seq_cut (A := Bool) (fun a => ([(1, iS task), (2, .ptr 0 0), (9, .ptr 1 0), (10, .own 2 0 c5q1.length), (11, .ptr 3 0), (12, .ptr 4 0), (119, bS a)], [(0, .row 58 (Enc.cells xo)), (1, .row 58 [iS c4_By1, bS c4_Done1, .v (.slice none 0 0)]), (2, .row 3 (fl c5q1)), (3, .row 29 (Enc.cells c6q1)), (4, .row 29 (Enc.cells c7q1))], 5)) (fun a => (taskmilllaw_SyncOnces_j7 xo task c4_By1 c4_Done1 c5q1 c6q1 c7q1 a) = some r) (fun K4412 hK4412 => ?_) ?_
                    · refine reg_f ?_
                      refine rs 3 [] [] (by kernel_rfl) allP_nil ?_
                      obtain ⟨r4413, hr4413, h⟩ := bind_sx h
                      refine call_x (taskmilllaw_sameOnce_spec (Once.mk c2_By1 c2_Done1 c10q1) (Once.mk task false []) r4413 hr4413) (args := [.agg [iS c2_By1, bS c2_Done1, .own 7 0 c10q1.length], .agg [iS task, bS false, .v (.slice none 0 0)]]) (dst := (some 114)) (by kernel_rfl) [(0, .row 58 (Enc.cells xo)), (1, .row 58 [iS c2_By1, bS c2_Done1, .own 7 0 c10q1.length]), (2, .row 58 [iS c4_By1, bS c4_Done1, .v (.slice none 0 0)]), (3, .row 3 (fl c5q1)), (4, .row 29 (Enc.cells c6q1)), (5, .row 29 (Enc.cells c7q1)), (6, .row 29 (Enc.cells c8q1)), (7, .row 3 (fl c10q1))] 8 (by kernel_rfl) [] [7] (bS r4413) [] (by simp only [push_cast, seval]) (by simp only [push_cast, seval]) (by kernel_rfl) (.inr ⟨by simp only [push_cast, seval], by simp only [push_cast, seval]⟩) (by simp only [push_cast, seval]) (by simp only [push_cast, seval]) ?_
                      refine rs 2 [] [] (by kernel_rfl) allP_nil ?_
                      refine run_br h 116 (.inl (by kernel_rfl)) (fun g4414 h => ?_) (fun g4414 h => ?_)
                      · refine rs 3 [] [] (by kernel_rfl) allP_nil ?_
                        refine rf [(1, iS task), (2, .ptr 0 0), (9, .ptr 2 0), (10, .own 3 0 c5q1.length), (11, .ptr 4 0), (12, .ptr 5 0), (119, bS true)] [(0, .row 58 (Enc.cells xo)), (1, .row 58 [iS c2_By1, bS c2_Done1, .own 7 0 c10q1.length]), (2, .row 58 [iS c4_By1, bS c4_Done1, .v (.slice none 0 0)]), (3, .row 3 (fl c5q1)), (4, .row 29 (Enc.cells c6q1)), (5, .row 29 (Enc.cells c7q1)), (6, .row 29 (Enc.cells c8q1)), (7, .row 3 (fl c10q1))] 8 (by kernel_rfl) ?_
                        exact hK4412 (true) _ _ _ h (leSt_m [(0, 0), (1, 2), (2, 3), (3, 4), (4, 5)] [] (by (try simp only [g4414]) <;> simp only [push_cast, seval]) (by (try simp only [g4414]) <;> simp only [push_cast, seval]) rfl rfl rfl)
                      · refine rs 3 [] [] (by kernel_rfl) allP_nil ?_
                        refine rf [(1, iS task), (2, .ptr 0 0), (9, .ptr 2 0), (10, .own 3 0 c5q1.length), (11, .ptr 4 0), (12, .ptr 5 0), (119, bS (k1 != 1))] [(0, .row 58 (Enc.cells xo)), (1, .row 58 [iS c2_By1, bS c2_Done1, .own 7 0 c10q1.length]), (2, .row 58 [iS c4_By1, bS c4_Done1, .v (.slice none 0 0)]), (3, .row 3 (fl c5q1)), (4, .row 29 (Enc.cells c6q1)), (5, .row 29 (Enc.cells c7q1)), (6, .row 29 (Enc.cells c8q1)), (7, .row 3 (fl c10q1))] 8 (by kernel_rfl) ?_
                        exact hK4412 ((k1 != 1)) _ _ _ h (leSt_m [(0, 0), (1, 2), (2, 3), (3, 4), (4, 5)] [] (by (try simp only [g4414]) <;> simp only [push_cast, seval]) (by (try simp only [g4414]) <;> simp only [push_cast, seval]) rfl rfl rfl)
                    · rintro t119q3 h
                      try dsimp only at h ⊢
                      unfold taskmilllaw_SyncOnces_j7 at h
                      refine cond_sx h (by kernel_rfl) (fun g4415 h => ?_) (fun g4415 h => ?_)
                      · refine seq_np ?_
                        refine reg_f ?_
                        refine rs 1 [] [] (by kernel_rfl) allP_nil ?_
                        refine rf [(4, bS false)] [(0, .row 58 (Enc.cells xo)), (1, .row 58 [iS c4_By1, bS c4_Done1, .v (.slice none 0 0)]), (2, .row 3 (fl c5q1)), (3, .row 29 (Enc.cells c6q1)), (4, .row 29 (Enc.cells c7q1))] 5 (by kernel_rfl) ?_
                        refine wk_id ?_
                        obtain rfl := Option.some.inj h
                        refine ret_at (bS false) (by kernel_rfl) ?_
                        exact ret_e [] [] (by simp only [push_cast, seval]) (by simp only [push_cast, seval]) rfl rfl rfl
                      · exact hK4394 () _ _ _ h (leSt_m [(0, 0), (1, 1), (2, 2), (3, 3), (4, 4)] [] (by simp only [push_cast, seval]) (by simp only [push_cast, seval]) rfl rfl rfl)
                  · refine seq_cut (A := Bool) (fun a => ([(1, iS task), (2, .ptr 0 0), (9, .ptr 1 0), (10, .own 2 0 c5q1.length), (11, .ptr 3 0), (12, .ptr 4 0), (83, bS a)], [(0, .row 58 (Enc.cells xo)), (1, .row 58 [iS c4_By1, bS c4_Done1, .v (.slice none 0 0)]), (2, .row 3 (fl c5q1)), (3, .row 29 (Enc.cells c6q1)), (4, .row 29 (Enc.cells c7q1))], 5)) (fun a => (taskmilllaw_SyncOnces_j8 xo task c4_By1 c4_Done1 c5q1 c6q1 c7q1 a) = some r) (fun K4422 hK4422 => ?_) ?_
                    · refine reg_t ?_
                      refine rs 5 [] [] (by kernel_rfl) allP_nil ?_
                      obtain ⟨r4423, hr4423, h⟩ := bind_sx h
                      refine call_x (taskmilllaw_own_spec xo.Line r4423 hr4423) (args := [.sl xo.Line.length (fl xo.Line)]) (dst := (some 73)) (by kernel_rfl) [(0, .row 58 (Enc.cells xo)), (1, .row 58 [iS c2_By1, bS c2_Done1, .own 7 0 c10q1.length]), (2, .row 58 [iS c4_By1, bS c4_Done1, .v (.slice none 0 0)]), (3, .row 3 (fl c5q1)), (4, .row 29 (Enc.cells c6q1)), (5, .row 29 (Enc.cells c7q1)), (6, .row 29 (Enc.cells c8q1)), (7, .row 3 (fl c10q1))] 13 (by kernel_rfl) [] [] (.own 13 0 r4423.length) [(13, .row 3 (fl r4423))] (by simp only [push_cast, seval]) (by simp only [push_cast, seval]) (by kernel_rfl) (.inl rfl) (by simp only [push_cast, seval]) (by simp only [push_cast, seval]) ?_
                      refine chk_sx h (fun g4425 h => ?_)
                      have k4424 : (r4423 ++ ([task] : List Int)).length * 8 ≤ 140737488355328 := by first | simpa only [Bool.and_eq_true, decide_eq_true_eq, bne_iff_ne, ne_eq] using g4425 | (simp at g4425 ⊢; omega)
                      refine rs 4 [none, none, some ⟨.own 18 0 (r4423 ++ ([task] : List Int)).length, [(18, .row 3 (fl (r4423 ++ ([task] : List Int)))), (13, .dead)], 19, [13, 16]⟩] _ (by kernel_rfl) (allP_cons (ob_app (P := Try.prog) r4423 ([task] : List Int) 1 8 rfl (appCells (fl ([task] : List Int)) 0 (([task] : List Int).length * 1)) ([task] : List Int).length (app_own ([task] : List Int) 1 rfl) rfl (0 + ([task] : List Int).length * 1 ≤ (fl ([task] : List Int)).length) (app_own_le ([task] : List Int) 1 rfl) 3 (by kernel_rfl) (by decide) k4424 13 18 [16]) allP_nil) ?_
                      obtain ⟨r4426, hr4426, h⟩ := bind_sx h
                      refine call_x (taskmilllaw_sameOnce_spec (Once.mk c2_By1 c2_Done1 c10q1) (Once.mk xo.By false (r4423 ++ ([task] : List Int))) r4426 hr4426) (args := [.agg [iS c2_By1, bS c2_Done1, .own 7 0 c10q1.length], .agg [iS xo.By, bS false, .own 18 0 (r4423 ++ ([task] : List Int)).length]]) (dst := (some 78)) (by kernel_rfl) [(0, .row 58 (Enc.cells xo)), (1, .row 58 [iS c2_By1, bS c2_Done1, .own 7 0 c10q1.length]), (2, .row 58 [iS c4_By1, bS c4_Done1, .v (.slice none 0 0)]), (3, .row 3 (fl c5q1)), (4, .row 29 (Enc.cells c6q1)), (5, .row 29 (Enc.cells c7q1)), (6, .row 29 (Enc.cells c8q1)), (7, .row 3 (fl c10q1)), (13, .dead), (16, .row 3 (fl ([task] : List Int))), (18, .row 3 (fl (r4423 ++ ([task] : List Int))))] 21 (by kernel_rfl) [] [7, 18] (bS r4426) [] (by simp only [push_cast, seval]) (by simp only [push_cast, seval]) (by kernel_rfl) (.inr ⟨by simp only [push_cast, seval], by simp only [push_cast, seval]⟩) (by simp only [push_cast, seval]) (by simp only [push_cast, seval]) ?_
                      refine rs 2 [] [] (by kernel_rfl) allP_nil ?_
                      refine run_br h 80 (.inl (by kernel_rfl)) (fun g4427 h => ?_) (fun g4427 h => ?_)
                      · refine rn 13 [(1, iS task), (2, .ptr 0 0), (7, iS k1), (9, .ptr 2 0), (10, .own 3 0 c5q1.length), (11, .ptr 4 0), (12, .ptr 5 0), (80, bS true)] [(0, .row 58 (Enc.cells xo)), (1, .row 58 [iS c2_By1, bS c2_Done1, .own 7 0 c10q1.length]), (2, .row 58 [iS c4_By1, bS c4_Done1, .v (.slice none 0 0)]), (3, .row 3 (fl c5q1)), (4, .row 29 (Enc.cells c6q1)), (5, .row 29 (Enc.cells c7q1)), (6, .row 29 (Enc.cells c8q1)), (7, .row 3 (fl c10q1)), (13, .dead), (16, .row 3 (fl ([task] : List Int))), (18, .row 3 (fl (r4423 ++ ([task] : List Int))))] 24 (by kernel_rfl) ?_
                        refine rs 3 [] [] (by kernel_rfl) allP_nil ?_
                        refine rt [(1, iS task), (2, .ptr 0 0), (9, .ptr 2 0), (10, .own 3 0 c5q1.length), (11, .ptr 4 0), (12, .ptr 5 0), (83, bS true)] [(0, .row 58 (Enc.cells xo)), (1, .row 58 [iS c2_By1, bS c2_Done1, .own 7 0 c10q1.length]), (2, .row 58 [iS c4_By1, bS c4_Done1, .v (.slice none 0 0)]), (3, .row 3 (fl c5q1)), (4, .row 29 (Enc.cells c6q1)), (5, .row 29 (Enc.cells c7q1)), (6, .row 29 (Enc.cells c8q1)), (7, .row 3 (fl c10q1)), (13, .dead), (16, .row 3 (fl ([task] : List Int))), (18, .row 3 (fl (r4423 ++ ([task] : List Int))))] 27 follows (by kernel_rfl) ?_
                        exact hK4422 (true) _ _ _ h (leSt_m [(0, 0), (1, 2), (2, 3), (3, 4), (4, 5)] [] (by (try simp only [g4427]) <;> simp only [push_cast, seval]) (by (try simp only [g4427]) <;> simp only [push_cast, seval]) rfl rfl rfl)
                      · refine rn 13 [(1, iS task), (2, .ptr 0 0), (7, iS k1), (9, .ptr 2 0), (10, .own 3 0 c5q1.length), (11, .ptr 4 0), (12, .ptr 5 0), (80, bS false)] [(0, .row 58 (Enc.cells xo)), (1, .row 58 [iS c2_By1, bS c2_Done1, .own 7 0 c10q1.length]), (2, .row 58 [iS c4_By1, bS c4_Done1, .v (.slice none 0 0)]), (3, .row 3 (fl c5q1)), (4, .row 29 (Enc.cells c6q1)), (5, .row 29 (Enc.cells c7q1)), (6, .row 29 (Enc.cells c8q1)), (7, .row 3 (fl c10q1)), (13, .dead), (16, .row 3 (fl ([task] : List Int))), (18, .row 3 (fl (r4423 ++ ([task] : List Int))))] 24 (by kernel_rfl) ?_
                        refine rs 3 [] [] (by kernel_rfl) allP_nil ?_
                        refine rt [(1, iS task), (2, .ptr 0 0), (9, .ptr 2 0), (10, .own 3 0 c5q1.length), (11, .ptr 4 0), (12, .ptr 5 0), (83, bS (k1 != 0))] [(0, .row 58 (Enc.cells xo)), (1, .row 58 [iS c2_By1, bS c2_Done1, .own 7 0 c10q1.length]), (2, .row 58 [iS c4_By1, bS c4_Done1, .v (.slice none 0 0)]), (3, .row 3 (fl c5q1)), (4, .row 29 (Enc.cells c6q1)), (5, .row 29 (Enc.cells c7q1)), (6, .row 29 (Enc.cells c8q1)), (7, .row 3 (fl c10q1)), (13, .dead), (16, .row 3 (fl ([task] : List Int))), (18, .row 3 (fl (r4423 ++ ([task] : List Int))))] 27 follows (by kernel_rfl) ?_
                        exact hK4422 ((k1 != 0)) _ _ _ h (leSt_m [(0, 0), (1, 2), (2, 3), (3, 4), (4, 5)] [] (by (try simp only [g4427]) <;> simp only [push_cast, seval]) (by (try simp only [g4427]) <;> simp only [push_cast, seval]) rfl rfl rfl)
                    · rintro t83q3 h
                      try dsimp only at h ⊢
                      unfold taskmilllaw_SyncOnces_j8 at h
                      refine cond_sx h (by kernel_rfl) (fun g4428 h => ?_) (fun g4428 h => ?_)
                      · refine seq_np ?_
                        refine reg_f ?_
                        refine rs 1 [] [] (by kernel_rfl) allP_nil ?_
                        refine rf [(4, bS false)] [(0, .row 58 (Enc.cells xo)), (1, .row 58 [iS c4_By1, bS c4_Done1, .v (.slice none 0 0)]), (2, .row 3 (fl c5q1)), (3, .row 29 (Enc.cells c6q1)), (4, .row 29 (Enc.cells c7q1))] 5 (by kernel_rfl) ?_
                        refine wk_id ?_
                        obtain rfl := Option.some.inj h
                        refine ret_at (bS false) (by kernel_rfl) ?_
                        exact ret_e [] [] (by simp only [push_cast, seval]) (by simp only [push_cast, seval]) rfl rfl rfl
                      · exact hK4394 () _ _ _ h (leSt_m [(0, 0), (1, 1), (2, 2), (3, 3), (4, 4)] [] (by simp only [push_cast, seval]) (by simp only [push_cast, seval]) rfl rfl rfl)
            · rintro _ h
              try dsimp only at h ⊢
              unfold taskmilllaw_SyncOnces_j4 at h
              refine wk_id ?_
              refine seq_cut (A := Fault) (fun a => ([(2, .ptr 0 0), (9, .ptr 1 0), (10, .own 2 0 c5q1.length), (11, .ptr 3 0), (12, .ptr 4 0)], [(0, .row 58 (Enc.cells xo)), (1, .row 58 [iS c4_By1, bS c4_Done1, .v (.slice none 0 0)]), (2, .row 3 (fl c5q1)), (3, .row 29 (Enc.cells c6q1)), (4, .row 29 (Enc.cells a))], 5)) (fun a => (taskmilllaw_SyncOnces_j3 xo c4_By1 c4_Done1 c5q1 c6q1 a) = some r) (fun K4437 hK4437 => ?_) ?_
              · refine seq_cut (A := Unit) (fun _ => ([(2, .ptr 0 0), (9, .ptr 1 0), (10, .own 2 0 c5q1.length), (11, .ptr 3 0), (12, .ptr 4 0), (132, bS ((c7q1.Code == 0) && ((decide (task < 1)) || (task != xo.By))))], [(0, .row 58 (Enc.cells xo)), (1, .row 58 [iS c4_By1, bS c4_Done1, .v (.slice none 0 0)]), (2, .row 3 (fl c5q1)), (3, .row 29 (Enc.cells c6q1)), (4, .row 29 (Enc.cells c7q1))], 5)) (fun _ => True) (fun K4440 hK4440 => ?_) (fun _ _ => ?_)
                · refine reg_f ?_
                  refine rs 4 [] [] (by kernel_rfl) allP_nil ?_
                  refine run_split 123 (c7q1.Code == 0) (.inl (by kernel_rfl)) (fun g4441 => ?_) (fun g4441 => ?_)
                  · refine rs 3 [] [] (by kernel_rfl) allP_nil ?_
                    refine run_split 126 (decide (task < 1)) (.inr (by kernel_rfl)) (fun g4442 => ?_) (fun g4442 => ?_)
                    · refine rs 6 [] [] (by kernel_rfl) allP_nil ?_
                      refine rf [(2, .ptr 0 0), (9, .ptr 1 0), (10, .own 2 0 c5q1.length), (11, .ptr 3 0), (12, .ptr 4 0), (132, bS true)] [(0, .row 58 (Enc.cells xo)), (1, .row 58 [iS c4_By1, bS c4_Done1, .v (.slice none 0 0)]), (2, .row 3 (fl c5q1)), (3, .row 29 (Enc.cells c6q1)), (4, .row 29 (Enc.cells c7q1))] 5 (by kernel_rfl) ?_
                      exact hK4440 () _ _ _ trivial (leSt_m [(0, 0), (1, 1), (2, 2), (3, 3), (4, 4)] [] (by (try simp only [g4441, g4442]) <;> simp only [push_cast, seval]) (by (try simp only [g4441, g4442]) <;> simp only [push_cast, seval]) rfl rfl rfl)
                    · refine rs 6 [] [] (by kernel_rfl) allP_nil ?_
                      refine rf [(2, .ptr 0 0), (9, .ptr 1 0), (10, .own 2 0 c5q1.length), (11, .ptr 3 0), (12, .ptr 4 0), (132, bS (task != xo.By))] [(0, .row 58 (Enc.cells xo)), (1, .row 58 [iS c4_By1, bS c4_Done1, .v (.slice none 0 0)]), (2, .row 3 (fl c5q1)), (3, .row 29 (Enc.cells c6q1)), (4, .row 29 (Enc.cells c7q1))] 5 (by kernel_rfl) ?_
                      exact hK4440 () _ _ _ trivial (leSt_m [(0, 0), (1, 1), (2, 2), (3, 3), (4, 4)] [] (by (try simp only [g4441, g4442]) <;> simp only [push_cast, seval]) (by (try simp only [g4441, g4442]) <;> simp only [push_cast, seval]) rfl rfl rfl)
                  · refine rs 9 [] [] (by kernel_rfl) allP_nil ?_
                    refine rf [(2, .ptr 0 0), (9, .ptr 1 0), (10, .own 2 0 c5q1.length), (11, .ptr 3 0), (12, .ptr 4 0), (132, bS false)] [(0, .row 58 (Enc.cells xo)), (1, .row 58 [iS c4_By1, bS c4_Done1, .v (.slice none 0 0)]), (2, .row 3 (fl c5q1)), (3, .row 29 (Enc.cells c6q1)), (4, .row 29 (Enc.cells c7q1))] 5 (by kernel_rfl) ?_
                    exact hK4440 () _ _ _ trivial (leSt_m [(0, 0), (1, 1), (2, 2), (3, 3), (4, 4)] [] (by (try simp only [g4441]) <;> simp only [push_cast, seval]) (by (try simp only [g4441]) <;> simp only [push_cast, seval]) rfl rfl rfl)
                · dsimp only
                  refine cond_sx h (by kernel_rfl) (fun g4445 h => ?_) (fun g4445 h => ?_)
                  · refine reg_f ?_
                    obtain ⟨r4444, hr4444, h⟩ := bind_sx h
                    refine run_call 19 [iS 11, iS (-1)] (some 133) (by kernel_rfl) ?_
                    refine call_0 (taskmillref_F_spec 11 (-1) r4444 hr4444) (by simp only [push_cast, seval]) (by simp only [push_cast, seval]) ?_
                    refine back_f ?_
                    refine rs 1 [] [] (by kernel_rfl) allP_nil ?_
                    refine rf [(2, .ptr 0 0), (9, .ptr 1 0), (10, .own 2 0 c5q1.length), (11, .ptr 3 0), (12, .ptr 4 0)] [(0, .row 58 (Enc.cells xo)), (1, .row 58 [iS c4_By1, bS c4_Done1, .v (.slice none 0 0)]), (2, .row 3 (fl c5q1)), (3, .row 29 (Enc.cells c6q1)), (4, .row 29 (Enc.cells r4444))] 5 (by kernel_rfl) ?_
                    exact hK4437 (r4444) _ _ _ h (leSt_m [(0, 0), (1, 1), (2, 2), (3, 3), (4, 4)] [] (by simp only [push_cast, seval]) (by simp only [push_cast, seval]) rfl rfl rfl)
                  · exact hK4437 (c7q1) _ _ _ h (leSt_m [(0, 0), (1, 1), (2, 2), (3, 3), (4, 4)] [] (by simp only [push_cast, seval]) (by simp only [push_cast, seval]) rfl rfl rfl)
              · rintro c4q1 h
                try dsimp only at h ⊢
                unfold taskmilllaw_SyncOnces_j3 at h
                refine seq_np ?_
                refine seq_np ?_
                refine reg_f ?_
                refine rs 3 [] [] (by kernel_rfl) allP_nil ?_
                refine rf [(2, .ptr 0 0), (9, .ptr 1 0), (10, .own 2 0 c5q1.length), (12, .ptr 4 0), (136, bS (!((c6q1.Code == c4q1.Code) && ((c6q1.At == c4q1.At) && true))))] [(0, .row 58 (Enc.cells xo)), (1, .row 58 [iS c4_By1, bS c4_Done1, .v (.slice none 0 0)]), (2, .row 3 (fl c5q1)), (3, .row 29 (Enc.cells c6q1)), (4, .row 29 (Enc.cells c4q1))] 5 (by kernel_rfl) ?_
                refine wk_id ?_
                refine cond_sx h (by kernel_rfl) (fun g4467 h => ?_) (fun g4467 h => ?_)
                · refine seq_np ?_
                  refine reg_f ?_
                  refine rs 1 [] [] (by kernel_rfl) allP_nil ?_
                  refine rf [(4, bS false)] [(0, .row 58 (Enc.cells xo)), (1, .row 58 [iS c4_By1, bS c4_Done1, .v (.slice none 0 0)]), (2, .row 3 (fl c5q1)), (3, .row 29 (Enc.cells c6q1)), (4, .row 29 (Enc.cells c4q1))] 5 (by kernel_rfl) ?_
                  refine wk_id ?_
                  obtain rfl := Option.some.inj h
                  refine ret_at (bS false) (by kernel_rfl) ?_
                  exact ret_e [] [] (by simp only [push_cast, seval]) (by simp only [push_cast, seval]) rfl rfl rfl
                · refine wk_id ?_
                  refine seq_np ?_
                  refine seq_np ?_
                  refine reg_f ?_
                  refine rs 3 [] [] (by kernel_rfl) allP_nil ?_
                  refine rf [(2, .ptr 0 0), (9, .ptr 1 0), (10, .own 2 0 c5q1.length), (139, bS (c4q1.Code != 0))] [(0, .row 58 (Enc.cells xo)), (1, .row 58 [iS c4_By1, bS c4_Done1, .v (.slice none 0 0)]), (2, .row 3 (fl c5q1)), (3, .row 29 (Enc.cells c6q1)), (4, .row 29 (Enc.cells c4q1))] 5 (by kernel_rfl) ?_
                  refine wk_id ?_
                  refine cond_sx h (by kernel_rfl) (fun g4466 h => ?_) (fun g4466 h => ?_)
                  · refine seq_cut (A := Bool) (fun a => ([(4, bS a)], [], 0)) (fun a => (taskmilllaw_SyncOnces_j1 a) = some r) (fun K4455 hK4455 => ?_) ?_
                    · refine reg_f ?_
                      refine rs 2 [] [] (by kernel_rfl) allP_nil ?_
                      obtain ⟨r4456, hr4456, h⟩ := bind_sx h
                      refine call_x (taskmilllaw_sameOnce_spec (Once.mk c4_By1 c4_Done1 []) (Once.mk 0 false []) r4456 hr4456) (args := [.agg [iS c4_By1, bS c4_Done1, .v (.slice none 0 0)], .agg [iS 0, bS false, .v (.slice none 0 0)]]) (dst := (some 142)) (by kernel_rfl) [(0, .row 58 (Enc.cells xo)), (1, .row 58 [iS c4_By1, bS c4_Done1, .v (.slice none 0 0)]), (2, .row 3 (fl c5q1)), (3, .row 29 (Enc.cells c6q1)), (4, .row 29 (Enc.cells c4q1))] 5 (by kernel_rfl) [] [] (bS r4456) [] (by simp only [push_cast, seval]) (by simp only [push_cast, seval]) (by kernel_rfl) (.inl rfl) (by simp only [push_cast, seval]) (by simp only [push_cast, seval]) ?_
                      refine rs 1 [] [] (by kernel_rfl) allP_nil ?_
                      refine run_br h 143 (.inl (by kernel_rfl)) (fun g4457 h => ?_) (fun g4457 h => ?_)
                      · refine rs 5 [] [] (by kernel_rfl) allP_nil ?_
                        refine rf [(4, bS (((c5q1.length : Nat) : Int) == 0))] [(0, .row 58 (Enc.cells xo)), (1, .row 58 [iS c4_By1, bS c4_Done1, .v (.slice none 0 0)]), (2, .row 3 (fl c5q1)), (3, .row 29 (Enc.cells c6q1)), (4, .row 29 (Enc.cells c4q1))] 5 (by kernel_rfl) ?_
                        exact hK4455 ((((c5q1.length : Nat) : Int) == 0)) _ _ _ h (leSt_m [] [] (by (try simp only [g4457]) <;> simp only [push_cast, seval]) (by (try simp only [g4457]) <;> simp only [push_cast, seval]) rfl rfl rfl)
                      · refine rs 5 [] [] (by kernel_rfl) allP_nil ?_
                        refine rf [(4, bS false)] [(0, .row 58 (Enc.cells xo)), (1, .row 58 [iS c4_By1, bS c4_Done1, .v (.slice none 0 0)]), (2, .row 3 (fl c5q1)), (3, .row 29 (Enc.cells c6q1)), (4, .row 29 (Enc.cells c4q1))] 5 (by kernel_rfl) ?_
                        exact hK4455 (false) _ _ _ h (leSt_m [] [] (by (try simp only [g4457]) <;> simp only [push_cast, seval]) (by (try simp only [g4457]) <;> simp only [push_cast, seval]) rfl rfl rfl)
                    · rintro t4q3 h
                      try dsimp only at h ⊢
                      unfold taskmilllaw_SyncOnces_j1 at h
                      obtain rfl := Option.some.inj h
                      refine ret_at (bS t4q3) (by kernel_rfl) ?_
                      exact ret_e [] [] (by simp only [push_cast, seval]) (by simp only [push_cast, seval]) rfl rfl rfl
                  · refine wk_id ?_
                    refine seq_cut (A := Bool) (fun a => ([(4, bS a)], [], 0)) (fun a => (taskmilllaw_SyncOnces_j2 a) = some r) (fun K4462 hK4462 => ?_) ?_
                    · refine reg_f ?_
                      refine rs 2 [] [] (by kernel_rfl) allP_nil ?_
                      obtain ⟨r4463, hr4463, h⟩ := bind_sx h
                      refine call_x (taskmilllaw_sameOnce_spec (Once.mk c4_By1 c4_Done1 []) (Once.mk 0 true []) r4463 hr4463) (args := [.agg [iS c4_By1, bS c4_Done1, .v (.slice none 0 0)], .agg [iS 0, bS true, .v (.slice none 0 0)]]) (dst := (some 150)) (by kernel_rfl) [(0, .row 58 (Enc.cells xo)), (1, .row 58 [iS c4_By1, bS c4_Done1, .v (.slice none 0 0)]), (2, .row 3 (fl c5q1)), (3, .row 29 (Enc.cells c6q1)), (4, .row 29 (Enc.cells c4q1))] 5 (by kernel_rfl) [] [] (bS r4463) [] (by simp only [push_cast, seval]) (by simp only [push_cast, seval]) (by kernel_rfl) (.inl rfl) (by simp only [push_cast, seval]) (by simp only [push_cast, seval]) ?_
                      refine rs 1 [] [] (by kernel_rfl) allP_nil ?_
                      refine run_br h 151 (.inl (by kernel_rfl)) (fun g4464 h => ?_) (fun g4464 h => ?_)
                      · refine rs 3 [] [] (by kernel_rfl) allP_nil ?_
                        obtain ⟨r4465, hr4465, h⟩ := bind_sx h
                        refine call_x (taskmillref_Ints_spec c5q1 xo.Line r4465 hr4465) (args := [.own 2 0 c5q1.length, .sl xo.Line.length (fl xo.Line)]) (dst := (some 155)) (by kernel_rfl) [(0, .row 58 (Enc.cells xo)), (1, .row 58 [iS c4_By1, bS c4_Done1, .v (.slice none 0 0)]), (2, .row 3 (fl c5q1)), (3, .row 29 (Enc.cells c6q1)), (4, .row 29 (Enc.cells c4q1))] 5 (by kernel_rfl) [] [2] (bS r4465) [] (by simp only [push_cast, seval]) (by simp only [push_cast, seval]) (by kernel_rfl) (.inr ⟨by simp only [push_cast, seval], by simp only [push_cast, seval]⟩) (by simp only [push_cast, seval]) (by simp only [push_cast, seval]) ?_
                        refine rs 2 [] [] (by kernel_rfl) allP_nil ?_
                        refine rf [(4, bS r4465)] [(0, .row 58 (Enc.cells xo)), (1, .row 58 [iS c4_By1, bS c4_Done1, .v (.slice none 0 0)]), (2, .row 3 (fl c5q1)), (3, .row 29 (Enc.cells c6q1)), (4, .row 29 (Enc.cells c4q1))] 5 (by kernel_rfl) ?_
                        exact hK4462 (r4465) _ _ _ h (leSt_m [] [] (by (try simp only [g4464]) <;> simp only [push_cast, seval]) (by (try simp only [g4464]) <;> simp only [push_cast, seval]) rfl rfl rfl)
                      · refine rs 6 [] [] (by kernel_rfl) allP_nil ?_
                        refine rf [(4, bS false)] [(0, .row 58 (Enc.cells xo)), (1, .row 58 [iS c4_By1, bS c4_Done1, .v (.slice none 0 0)]), (2, .row 3 (fl c5q1)), (3, .row 29 (Enc.cells c6q1)), (4, .row 29 (Enc.cells c4q1))] 5 (by kernel_rfl) ?_
                        exact hK4462 (false) _ _ _ h (leSt_m [] [] (by (try simp only [g4464]) <;> simp only [push_cast, seval]) (by (try simp only [g4464]) <;> simp only [push_cast, seval]) rfl rfl rfl)
                    · rintro t4q4 h
                      try dsimp only at h ⊢
                      unfold taskmilllaw_SyncOnces_j2 at h
                      obtain rfl := Option.some.inj h
                      refine ret_at (bS t4q4) (by kernel_rfl) ?_
                      exact ret_e [] [] (by simp only [push_cast, seval]) (by simp only [push_cast, seval]) rfl rfl rfl

set_option maxRecDepth 100000 in
set_option maxHeartbeats 10000000 in
theorem taskmilllaw_SyncOnlyOnce_spec (early : Int) (late : Int) (r : Bool) (h : taskmilllaw_SyncOnlyOnce early late = some r) : SpecW Try.prog 9 [iS early, iS late] [] 0 (fun x h n => x = bS r ∧ h = [] ∧ n = 0) := by
  unfold taskmilllaw_SyncOnlyOnce at h
  refine spec_of (draw_ok _) Try.func9 rfl (by decide) rfl (by kernel_rfl) ?_
  refine seq_np ?_
  refine reg_f ?_
  refine rs 1 [] [] (by kernel_rfl) allP_nil ?_
  refine rf [(0, iS early), (1, iS late)] [] 0 (by kernel_rfl) ?_
  refine wk_id ?_
  refine seq_np ?_
  refine seq_np ?_
  refine reg_f ?_
  obtain ⟨r4537, hr4537, h⟩ := bind_sx h
  refine run_call 12 [] (some 18) (by kernel_rfl) ?_
  refine call_0 (taskmilllaw_syncBegun_spec r4537 hr4537) (by simp only [push_cast, seval]) (by simp only [push_cast, seval]) ?_
  refine back_f ?_
  refine rs 1 [] [] (by kernel_rfl) allP_nil ?_
  refine rf [(0, iS early), (1, iS late), (19, bS (!r4537))] [] 0 (by kernel_rfl) ?_
  refine wk_id ?_
  refine cond_sx h (by kernel_rfl) (fun g4764 h => ?_) (fun g4764 h => ?_)
  · refine seq_np ?_
    refine reg_f ?_
    refine rs 1 [] [] (by kernel_rfl) allP_nil ?_
    refine rf [(4, bS false)] [] 0 (by kernel_rfl) ?_
    refine wk_id ?_
    obtain rfl := Option.some.inj h
    refine ret_at (bS false) (by kernel_rfl) ?_
    exact ret_e [] [] (by simp only [push_cast, seval]) (by simp only [push_cast, seval]) rfl rfl rfl
  · refine wk_id ?_
    refine seq_np ?_
    refine seq_cut (A := Unit) (fun _ => ([(0, iS early), (1, iS late), (33, bS ((decide (early < 1)) || ((decide ((60 : Int) < early)) || ((decide (late < 0)) || (decide ((60 : Int) < late))))))], [], 0)) (fun _ => True) (fun K4545 hK4545 => ?_) (fun _ _ => ?_)
    · refine reg_f ?_
      refine rs 3 [] [] (by kernel_rfl) allP_nil ?_
      refine run_split 22 (decide (early < 1)) (.inl (by kernel_rfl)) (fun g4546 => ?_) (fun g4546 => ?_)
      · refine rs 11 [] [] (by kernel_rfl) allP_nil ?_
        refine rf [(0, iS early), (1, iS late), (33, bS true)] [] 0 (by kernel_rfl) ?_
        exact hK4545 () _ _ _ trivial (leSt_m [] [] (by (try simp only [g4546]) <;> simp only [push_cast, seval]) (by (try simp only [g4546]) <;> simp only [push_cast, seval]) rfl rfl rfl)
      · refine rs 4 [] [] (by kernel_rfl) allP_nil ?_
        refine run_split 26 (decide ((60 : Int) < early)) (.inl (by kernel_rfl)) (fun g4547 => ?_) (fun g4547 => ?_)
        · refine rs 7 [] [] (by kernel_rfl) allP_nil ?_
          refine rf [(0, iS early), (1, iS late), (33, bS true)] [] 0 (by kernel_rfl) ?_
          exact hK4545 () _ _ _ trivial (leSt_m [] [] (by (try simp only [g4546, g4547]) <;> simp only [push_cast, seval]) (by (try simp only [g4546, g4547]) <;> simp only [push_cast, seval]) rfl rfl rfl)
        · refine rs 4 [] [] (by kernel_rfl) allP_nil ?_
          refine run_split 30 (decide (late < 0)) (.inl (by kernel_rfl)) (fun g4548 => ?_) (fun g4548 => ?_)
          · refine rn 11 [(0, iS early), (1, iS late), (30, bS true)] [] 0 (by kernel_rfl) ?_
            refine rs 3 [] [] (by kernel_rfl) allP_nil ?_
            refine rf [(0, iS early), (1, iS late), (33, bS true)] [] 0 (by kernel_rfl) ?_
            exact hK4545 () _ _ _ trivial (leSt_m [] [] (by (try simp only [g4546, g4547, g4548]) <;> simp only [push_cast, seval]) (by (try simp only [g4546, g4547, g4548]) <;> simp only [push_cast, seval]) rfl rfl rfl)
          · refine rn 11 [(0, iS early), (1, iS late), (30, bS false)] [] 0 (by kernel_rfl) ?_
            refine rs 3 [] [] (by kernel_rfl) allP_nil ?_
            refine rf [(0, iS early), (1, iS late), (33, bS (decide ((60 : Int) < late)))] [] 0 (by kernel_rfl) ?_
            exact hK4545 () _ _ _ trivial (leSt_m [] [] (by (try simp only [g4546, g4547, g4548]) <;> simp only [push_cast, seval]) (by (try simp only [g4546, g4547, g4548]) <;> simp only [push_cast, seval]) rfl rfl rfl)
    · dsimp only
      refine cond_sx h (by kernel_rfl) (fun g4763 h => ?_) (fun g4763 h => ?_)
      · refine seq_np ?_
        refine reg_f ?_
        refine rs 1 [] [] (by kernel_rfl) allP_nil ?_
        refine rf [(4, bS true)] [] 0 (by kernel_rfl) ?_
        refine wk_id ?_
        obtain rfl := Option.some.inj h
        refine ret_at (bS true) (by kernel_rfl) ?_
        exact ret_e [] [] (by simp only [push_cast, seval]) (by simp only [push_cast, seval]) rfl rfl rfl
      · refine wk_id ?_
        refine seq_np ?_
        refine reg_f ?_
        refine rs 3 [] [] (by kernel_rfl) allP_nil ?_
        refine rf [(0, iS early), (1, iS late), (5, .ptr 0 0)] [(0, .row 58 [iS 0, bS false, .v (.slice none 0 0)])] 1 (by kernel_rfl) ?_
        refine wk_id ?_
        refine seq_np ?_
        refine seq_np ?_
        refine reg_f ?_
        refine rs 1 [] [] (by kernel_rfl) allP_nil ?_
        refine rf [(0, iS early), (1, iS late), (5, .ptr 0 0), (6, iS 1)] [(0, .row 58 [iS 0, bS false, .v (.slice none 0 0)])] 1 (by kernel_rfl) ?_
        refine wk_id ?_
        refine block_np ?_
        refine loop_sx (S := Int × Int × Bool × (List Int)) (fun a => ([(0, iS early), (1, iS late), (5, .ptr 0 0), (6, iS a.1)], [(0, .row 58 [iS a.2.1, bS a.2.2.1, .own 1 0 a.2.2.2.length]), (1, .row 3 (fl a.2.2.2))], 2)) h (leSt_m [(0, 0)] [] (by simp only [push_cast, seval]) (by simp only [push_cast, seval]) rfl rfl rfl) ?_
        rintro ⟨t9, c0_By10, c0_Done10, c1q10⟩ o4 R4 h hr4 hn4 hx4 ht4
        try dsimp only at h hn4 ⊢
        unfold taskmilllaw_SyncOnlyOnce_l3 at h
        try dsimp only at h
        refine seq_np ?_
        refine seq_np ?_
        refine reg_f ?_
        refine rs 3 [] [] (by kernel_rfl) allP_nil ?_
        refine rf [(0, iS early), (1, iS late), (5, .ptr 0 0), (6, iS t9), (37, bS (decide (t9 ≤ early)))] [(0, .row 58 [iS c0_By10, bS c0_Done10, .own 1 0 c1q10.length]), (1, .row 3 (fl c1q10))] 2 (by kernel_rfl) ?_
        refine wk_id ?_
        refine cond_sx h (by kernel_rfl) (fun g4762 h => ?_) (fun g4762 h => ?_)
        · refine wk_id ?_
          refine seq_np ?_
          refine block_np ?_
          refine seq_np ?_
          refine reg_f ?_
          refine rs 2 [] [] (by kernel_rfl) allP_nil ?_
          obtain ⟨r4602, hr4602, h⟩ := bind_sx h
          refine call_x (sync_Begin_spec (Once.mk c0_By10 c0_Done10 c1q10) t9 r4602 hr4602) (args := [.agg [iS c0_By10, bS c0_Done10, .own 1 0 c1q10.length], iS t9]) (dst := (some 43)) (by kernel_rfl) [(0, .row 58 [iS c0_By10, bS c0_Done10, .own 1 0 c1q10.length]), (1, .row 3 (fl c1q10))] 2 (by kernel_rfl) [] [1] (.tup [.agg [iS r4602.1, bS r4602.2.1, .own 2 0 r4602.2.2.2.2.length], iS r4602.2.2.1, .agg (Enc.cells r4602.2.2.2.1)]) [(2, .row 3 (fl r4602.2.2.2.2))] (by simp only [push_cast, seval]) (by simp only [push_cast, seval]) (by kernel_rfl) (.inr ⟨by simp only [push_cast, seval], by simp only [push_cast, seval]⟩) (by simp only [push_cast, seval]) (by simp only [push_cast, seval]) ?_
          refine rs 9 [] [] (by kernel_rfl) allP_nil ?_
          refine rf [(0, iS early), (1, iS late), (5, .ptr 0 0), (6, iS t9), (7, .ptr 3 0), (8, iS r4602.2.2.1), (9, .ptr 4 0)] [(0, .row 58 [iS c0_By10, bS c0_Done10, .own 1 0 c1q10.length]), (1, .row 3 (fl c1q10)), (2, .row 3 (fl r4602.2.2.2.2)), (3, .row 58 [iS r4602.1, bS r4602.2.1, .own 2 0 r4602.2.2.2.2.length]), (4, .row 29 (Enc.cells r4602.2.2.2.1))] 5 (by kernel_rfl) ?_
          refine wk_id ?_
          refine seq_np ?_
          refine seq_cut (A := Unit) (fun _ => ([(0, iS early), (1, iS late), (5, .ptr 0 0), (6, iS t9), (7, .ptr 3 0), (60, bS ((r4602.2.2.2.1.Code != 0) || (((r4602.2.2.1 == 1) != (t9 == 1)) || (r4602.2.2.1 == 2))))], [(0, .row 58 [iS c0_By10, bS c0_Done10, .own 1 0 c1q10.length]), (1, .row 3 (fl c1q10)), (2, .row 3 (fl r4602.2.2.2.2)), (3, .row 58 [iS r4602.1, bS r4602.2.1, .own 2 0 r4602.2.2.2.2.length]), (4, .row 29 (Enc.cells r4602.2.2.2.1))], 5)) (fun _ => True) (fun K4608 hK4608 => ?_) (fun _ _ => ?_)
          · refine reg_f ?_
            refine rs 4 [] [] (by kernel_rfl) allP_nil ?_
            refine run_split 50 (r4602.2.2.2.1.Code != 0) (.inl (by kernel_rfl)) (fun g4609 => ?_) (fun g4609 => ?_)
            · refine rs 10 [] [] (by kernel_rfl) allP_nil ?_
              refine rf [(0, iS early), (1, iS late), (5, .ptr 0 0), (6, iS t9), (7, .ptr 3 0), (60, bS true)] [(0, .row 58 [iS c0_By10, bS c0_Done10, .own 1 0 c1q10.length]), (1, .row 3 (fl c1q10)), (2, .row 3 (fl r4602.2.2.2.2)), (3, .row 58 [iS r4602.1, bS r4602.2.1, .own 2 0 r4602.2.2.2.2.length]), (4, .row 29 (Enc.cells r4602.2.2.2.1))] 5 (by kernel_rfl) ?_
              exact hK4608 () _ _ _ trivial (leSt_m [(0, 0), (1, 1), (2, 2), (3, 3), (4, 4)] [] (by (try simp only [g4609]) <;> simp only [push_cast, seval]) (by (try simp only [g4609]) <;> simp only [push_cast, seval]) rfl rfl rfl)
            · refine rs 7 [] [] (by kernel_rfl) allP_nil ?_
              refine run_split 57 ((r4602.2.2.1 == 1) != (t9 == 1)) (.inl (by kernel_rfl)) (fun g4610 => ?_) (fun g4610 => ?_)
              · refine rs 3 [] [] (by kernel_rfl) allP_nil ?_
                refine rf [(0, iS early), (1, iS late), (5, .ptr 0 0), (6, iS t9), (7, .ptr 3 0), (60, bS true)] [(0, .row 58 [iS c0_By10, bS c0_Done10, .own 1 0 c1q10.length]), (1, .row 3 (fl c1q10)), (2, .row 3 (fl r4602.2.2.2.2)), (3, .row 58 [iS r4602.1, bS r4602.2.1, .own 2 0 r4602.2.2.2.2.length]), (4, .row 29 (Enc.cells r4602.2.2.2.1))] 5 (by kernel_rfl) ?_
                exact hK4608 () _ _ _ trivial (leSt_m [(0, 0), (1, 1), (2, 2), (3, 3), (4, 4)] [] (by (try simp only [g4609, g4610]) <;> simp only [push_cast, seval]) (by (try simp only [g4609, g4610]) <;> simp only [push_cast, seval]) rfl rfl rfl)
              · refine rs 3 [] [] (by kernel_rfl) allP_nil ?_
                refine rf [(0, iS early), (1, iS late), (5, .ptr 0 0), (6, iS t9), (7, .ptr 3 0), (60, bS (r4602.2.2.1 == 2))] [(0, .row 58 [iS c0_By10, bS c0_Done10, .own 1 0 c1q10.length]), (1, .row 3 (fl c1q10)), (2, .row 3 (fl r4602.2.2.2.2)), (3, .row 58 [iS r4602.1, bS r4602.2.1, .own 2 0 r4602.2.2.2.2.length]), (4, .row 29 (Enc.cells r4602.2.2.2.1))] 5 (by kernel_rfl) ?_
                exact hK4608 () _ _ _ trivial (leSt_m [(0, 0), (1, 1), (2, 2), (3, 3), (4, 4)] [] (by (try simp only [g4609, g4610]) <;> simp only [push_cast, seval]) (by (try simp only [g4609, g4610]) <;> simp only [push_cast, seval]) rfl rfl rfl)
          · dsimp only
            refine cond_sx h (by kernel_rfl) (fun g4611 h => ?_) (fun g4611 h => ?_)
            · refine seq_np ?_
              refine reg_f ?_
              refine rs 1 [] [] (by kernel_rfl) allP_nil ?_
              refine rf [(4, bS false)] [(0, .row 58 [iS c0_By10, bS c0_Done10, .own 1 0 c1q10.length]), (1, .row 3 (fl c1q10)), (2, .row 3 (fl r4602.2.2.2.2)), (3, .row 58 [iS r4602.1, bS r4602.2.1, .own 2 0 r4602.2.2.2.2.length]), (4, .row 29 (Enc.cells r4602.2.2.2.1))] 5 (by kernel_rfl) ?_
              refine wk_id ?_
              refine rt_cast ht4 ?_
              obtain ⟨r0, h, e0⟩ := map_sx h
              have e1 := hr4 r0 e0.symm
              subst r0
              obtain rfl := Option.some.inj h
              refine ret_at (bS false) (by kernel_rfl) ?_
              exact ret_e [] [] (by simp only [push_cast, seval]) (by simp only [push_cast, seval]) rfl rfl rfl
            · refine wk_id ?_
              refine reg_f ?_
              refine rs 2 [] [] (by kernel_rfl) allP_nil ?_
              refine rf [(0, iS early), (1, iS late), (5, .ptr 0 0), (6, iS t9)] [(0, .row 58 [iS r4602.1, bS r4602.2.1, .own 2 0 r4602.2.2.2.2.length]), (1, .row 3 (fl c1q10)), (2, .row 3 (fl r4602.2.2.2.2)), (3, .row 58 [iS r4602.1, bS r4602.2.1, .own 2 0 r4602.2.2.2.2.length]), (4, .row 29 (Enc.cells r4602.2.2.2.1))] 5 (by kernel_rfl) ?_
              refine wk_id ?_
              refine wk_id ?_
              refine reg_f ?_
              refine rs 3 [] [] (by kernel_rfl) allP_nil ?_
              refine rf [(0, iS early), (1, iS late), (5, .ptr 0 0), (6, iS (IntKind.i64.wrap (t9 + 1)))] [(0, .row 58 [iS r4602.1, bS r4602.2.1, .own 2 0 r4602.2.2.2.2.length]), (1, .row 3 (fl c1q10)), (2, .row 3 (fl r4602.2.2.2.2)), (3, .row 58 [iS r4602.1, bS r4602.2.1, .own 2 0 r4602.2.2.2.2.length]), (4, .row 29 (Enc.cells r4602.2.2.2.1))] 5 (by kernel_rfl) ?_
              exact hn4 ((IntKind.i64.wrap (t9 + 1)), r4602.1, r4602.2.1, r4602.2.2.2.2) _ _ _ (Option.some.inj h).symm (leSt_m [(0, 0), (1, 2)] [] (by simp only [push_cast, seval]) (by simp only [push_cast, seval]) rfl rfl rfl)
        · refine ex_cast hx4 (id := 0) ?_
          obtain ⟨r0, h, e0⟩ := map_sx h
          have e1 := hr4 r0 e0.symm
          subst r0
          refine wk_id ?_
          refine wk_id ?_
          refine seq_np ?_
          refine reg_f ?_
          refine rs 1 [] [] (by kernel_rfl) allP_nil ?_
          obtain ⟨r4613, hr4613, h⟩ := bind_sx h
          refine call_x (sync_End_spec (Once.mk c0_By10 c0_Done10 c1q10) 1 r4613 hr4613) (args := [.agg [iS c0_By10, bS c0_Done10, .own 1 0 c1q10.length], iS 1]) (dst := (some 64)) (by kernel_rfl) [(0, .row 58 [iS c0_By10, bS c0_Done10, .own 1 0 c1q10.length]), (1, .row 3 (fl c1q10))] 2 (by kernel_rfl) [] [1] (.tup [.agg [iS r4613.1, bS r4613.2.1, .v (.slice none 0 0)], .own 2 0 r4613.2.2.2.length, .agg (Enc.cells r4613.2.2.1)]) [(2, .row 3 (fl r4613.2.2.2))] (by simp only [push_cast, seval]) (by simp only [push_cast, seval]) (by kernel_rfl) (.inr ⟨by simp only [push_cast, seval], by simp only [push_cast, seval]⟩) (by simp only [push_cast, seval]) (by simp only [push_cast, seval]) ?_
          refine rs 9 [] [] (by kernel_rfl) allP_nil ?_
          refine rf [(0, iS early), (1, iS late), (10, .ptr 3 0), (11, .own 2 0 r4613.2.2.2.length), (12, .ptr 4 0)] [(0, .row 58 [iS c0_By10, bS c0_Done10, .own 1 0 c1q10.length]), (1, .row 3 (fl c1q10)), (2, .row 3 (fl r4613.2.2.2)), (3, .row 58 [iS r4613.1, bS r4613.2.1, .v (.slice none 0 0)]), (4, .row 29 (Enc.cells r4613.2.2.1))] 5 (by kernel_rfl) ?_
          refine wk_id ?_
          refine seq_np ?_
          refine seq_cut (A := Unit) (fun _ => ([(0, iS early), (1, iS late), (10, .ptr 3 0), (11, .own 2 0 r4613.2.2.2.length), (77, bS ((r4613.2.2.1.Code != 0) || (((r4613.2.2.2.length : Nat) : Int) != (IntKind.i64.wrap (early - 1)))))], [(0, .row 58 [iS c0_By10, bS c0_Done10, .own 1 0 c1q10.length]), (1, .row 3 (fl c1q10)), (2, .row 3 (fl r4613.2.2.2)), (3, .row 58 [iS r4613.1, bS r4613.2.1, .v (.slice none 0 0)]), (4, .row 29 (Enc.cells r4613.2.2.1))], 5)) (fun _ => True) (fun K4617 hK4617 => ?_) (fun _ _ => ?_)
          · refine reg_f ?_
            refine rs 4 [] [] (by kernel_rfl) allP_nil ?_
            refine run_split 71 (r4613.2.2.1.Code != 0) (.inl (by kernel_rfl)) (fun g4618 => ?_) (fun g4618 => ?_)
            · refine rs 6 [] [] (by kernel_rfl) allP_nil ?_
              refine rf [(0, iS early), (1, iS late), (10, .ptr 3 0), (11, .own 2 0 r4613.2.2.2.length), (77, bS true)] [(0, .row 58 [iS c0_By10, bS c0_Done10, .own 1 0 c1q10.length]), (1, .row 3 (fl c1q10)), (2, .row 3 (fl r4613.2.2.2)), (3, .row 58 [iS r4613.1, bS r4613.2.1, .v (.slice none 0 0)]), (4, .row 29 (Enc.cells r4613.2.2.1))] 5 (by kernel_rfl) ?_
              exact hK4617 () _ _ _ trivial (leSt_m [(0, 0), (1, 1), (2, 2), (3, 3), (4, 4)] [] (by (try simp only [g4618]) <;> simp only [push_cast, seval]) (by (try simp only [g4618]) <;> simp only [push_cast, seval]) rfl rfl rfl)
            · refine rs 6 [] [] (by kernel_rfl) allP_nil ?_
              refine rf [(0, iS early), (1, iS late), (10, .ptr 3 0), (11, .own 2 0 r4613.2.2.2.length), (77, bS (((r4613.2.2.2.length : Nat) : Int) != (IntKind.i64.wrap (early - 1))))] [(0, .row 58 [iS c0_By10, bS c0_Done10, .own 1 0 c1q10.length]), (1, .row 3 (fl c1q10)), (2, .row 3 (fl r4613.2.2.2)), (3, .row 58 [iS r4613.1, bS r4613.2.1, .v (.slice none 0 0)]), (4, .row 29 (Enc.cells r4613.2.2.1))] 5 (by kernel_rfl) ?_
              exact hK4617 () _ _ _ trivial (leSt_m [(0, 0), (1, 1), (2, 2), (3, 3), (4, 4)] [] (by (try simp only [g4618]) <;> simp only [push_cast, seval]) (by (try simp only [g4618]) <;> simp only [push_cast, seval]) rfl rfl rfl)
          · dsimp only
            refine cond_sx h (by kernel_rfl) (fun g4761 h => ?_) (fun g4761 h => ?_)
            · refine seq_np ?_
              refine reg_f ?_
              refine rs 1 [] [] (by kernel_rfl) allP_nil ?_
              refine rf [(4, bS false)] [(0, .row 58 [iS c0_By10, bS c0_Done10, .own 1 0 c1q10.length]), (1, .row 3 (fl c1q10)), (2, .row 3 (fl r4613.2.2.2)), (3, .row 58 [iS r4613.1, bS r4613.2.1, .v (.slice none 0 0)]), (4, .row 29 (Enc.cells r4613.2.2.1))] 5 (by kernel_rfl) ?_
              refine wk_id ?_
              obtain rfl := Option.some.inj h
              refine ret_at (bS false) (by kernel_rfl) ?_
              exact ret_e [] [] (by simp only [push_cast, seval]) (by simp only [push_cast, seval]) rfl rfl rfl
            · refine wk_id ?_
              refine seq_np ?_
              refine seq_np ?_
              refine reg_f ?_
              refine rs 1 [] [] (by kernel_rfl) allP_nil ?_
              refine rf [(0, iS early), (1, iS late), (10, .ptr 3 0), (11, .own 2 0 r4613.2.2.2.length), (13, iS 0)] [(0, .row 58 [iS c0_By10, bS c0_Done10, .own 1 0 c1q10.length]), (1, .row 3 (fl c1q10)), (2, .row 3 (fl r4613.2.2.2)), (3, .row 58 [iS r4613.1, bS r4613.2.1, .v (.slice none 0 0)]), (4, .row 29 (Enc.cells r4613.2.2.1))] 5 (by kernel_rfl) ?_
              refine wk_id ?_
              refine block_np ?_
              refine loop_sx (S := Int × Int × Bool × (List Int)) (fun a => ([(0, iS early), (1, iS late), (10, .ptr 0 0), (11, .own 1 0 a.2.2.2.length), (13, iS a.1)], [(0, .row 58 [iS a.2.1, bS a.2.2.1, .v (.slice none 0 0)]), (1, .row 3 (fl a.2.2.2))], 2)) h (leSt_m [(0, 3), (1, 2)] [] (by simp only [push_cast, seval]) (by simp only [push_cast, seval]) rfl rfl rfl) ?_
              rintro ⟨i7, c0_By19, c0_Done19, c1q19⟩ o5 R5 h hr5 hn5 hx5 ht5
              try dsimp only at h hn5 ⊢
              unfold taskmilllaw_SyncOnlyOnce_l2 at h
              try dsimp only at h
              refine seq_np ?_
              refine seq_np ?_
              refine reg_f ?_
              refine rs 4 [] [] (by kernel_rfl) allP_nil ?_
              refine rf [(0, iS early), (1, iS late), (10, .ptr 0 0), (11, .own 1 0 c1q19.length), (13, iS i7), (81, bS (decide (i7 < ((c1q19.length : Nat) : Int))))] [(0, .row 58 [iS c0_By19, bS c0_Done19, .v (.slice none 0 0)]), (1, .row 3 (fl c1q19))] 2 (by kernel_rfl) ?_
              refine wk_id ?_
              refine cond_sx h (by kernel_rfl) (fun g4760 h => ?_) (fun g4760 h => ?_)
              · refine wk_id ?_
                refine seq_np ?_
                refine block_np ?_
                refine chk_sx h (fun g4664 h => ?_)
                refine seq_np ?_
                refine reg_f ?_
                have k4663 : 0 ≤ i7 ∧ i7 < ((c1q19.length : Nat) : Int) := by first | simpa only [Bool.and_eq_true, decide_eq_true_eq, bne_iff_ne, ne_eq] using g4664 | (simp at g4664 ⊢; omega)
                refine rs 7 [none, none, some ⟨.ptr 1 (0 + (i7).toNat * 1), [], 2, [1]⟩, some ⟨iS (ix c1q19 i7), [], 2, [1]⟩] _ (by kernel_rfl) (allP_cons (ob_ld c1q19 i7 1 0 (0 + (i7).toNat * 1) k4663 rfl (by decide) (by first | rfl | omega) (dflS Try.prog 3) (iS (ix c1q19 i7)) rfl 2 [1]) (allP_cons (ob_ix_o 1 c1q19.length 0 1 2 i7 k4663) allP_nil)) ?_
                refine rf [(0, iS early), (1, iS late), (10, .ptr 0 0), (11, .own 1 0 c1q19.length), (13, iS i7), (90, bS ((ix c1q19 i7) != (IntKind.i64.wrap (i7 + 2))))] [(0, .row 58 [iS c0_By19, bS c0_Done19, .v (.slice none 0 0)]), (1, .row 3 (fl c1q19))] 2 (by kernel_rfl) ?_
                refine wk_id ?_
                refine cond_sx h (by kernel_rfl) (fun g4665 h => ?_) (fun g4665 h => ?_)
                · refine seq_np ?_
                  refine reg_f ?_
                  refine rs 1 [] [] (by kernel_rfl) allP_nil ?_
                  refine rf [(4, bS false)] [(0, .row 58 [iS c0_By19, bS c0_Done19, .v (.slice none 0 0)]), (1, .row 3 (fl c1q19))] 2 (by kernel_rfl) ?_
                  refine wk_id ?_
                  refine rt_cast ht5 ?_
                  obtain ⟨r0, h, e0⟩ := map_sx h
                  have e1 := hr5 r0 e0.symm
                  subst r0
                  obtain rfl := Option.some.inj h
                  refine ret_at (bS false) (by kernel_rfl) ?_
                  exact ret_e [] [] (by simp only [push_cast, seval]) (by simp only [push_cast, seval]) rfl rfl rfl
                · refine wk_id ?_
                  refine wk_id ?_
                  refine reg_f ?_
                  refine rs 3 [] [] (by kernel_rfl) allP_nil ?_
                  refine rf [(0, iS early), (1, iS late), (10, .ptr 0 0), (11, .own 1 0 c1q19.length), (13, iS (IntKind.i64.wrap (i7 + 1)))] [(0, .row 58 [iS c0_By19, bS c0_Done19, .v (.slice none 0 0)]), (1, .row 3 (fl c1q19))] 2 (by kernel_rfl) ?_
                  exact hn5 ((IntKind.i64.wrap (i7 + 1)), c0_By19, c0_Done19, c1q19) _ _ _ (Option.some.inj h).symm (leSt_m [(0, 0), (1, 1)] [] (by simp only [push_cast, seval]) (by simp only [push_cast, seval]) rfl rfl rfl)
              · refine ex_cast hx5 (id := 2) ?_
                obtain ⟨r0, h, e0⟩ := map_sx h
                have e1 := hr5 r0 e0.symm
                subst r0
                refine wk_id ?_
                refine wk_id ?_
                refine seq_np ?_
                refine seq_np ?_
                refine reg_f ?_
                refine rs 3 [] [] (by kernel_rfl) allP_nil ?_
                refine rf [(0, iS early), (1, iS late), (10, .ptr 0 0), (14, iS (IntKind.i64.wrap (early + 1)))] [(0, .row 58 [iS c0_By19, bS c0_Done19, .v (.slice none 0 0)]), (1, .row 3 (fl c1q19))] 2 (by kernel_rfl) ?_
                refine wk_id ?_
                refine block_np ?_
                refine loop_sx (S := Int) (fun a => ([(0, iS early), (1, iS late), (10, .ptr 0 0), (14, iS a)], [(0, .row 58 [iS c0_By19, bS c0_Done19, .v (.slice none 0 0)])], 1)) h (leSt_m [(0, 0)] [] (by simp only [push_cast, seval]) (by simp only [push_cast, seval]) rfl rfl rfl) ?_
                rintro t15 o6 R6 h hr6 hn6 hx6 ht6
                try dsimp only at h hn6 ⊢
                unfold taskmilllaw_SyncOnlyOnce_l1 at h
                try dsimp only at h
                refine seq_np ?_
                refine seq_np ?_
                refine reg_f ?_
                refine rs 5 [] [] (by kernel_rfl) allP_nil ?_
                refine rf [(0, iS early), (1, iS late), (10, .ptr 0 0), (14, iS t15), (97, bS (decide (t15 ≤ (IntKind.i64.wrap (early + late)))))] [(0, .row 58 [iS c0_By19, bS c0_Done19, .v (.slice none 0 0)])] 1 (by kernel_rfl) ?_
                refine wk_id ?_
                refine cond_sx h (by kernel_rfl) (fun g4759 h => ?_) (fun g4759 h => ?_)
                · refine wk_id ?_
                  refine seq_np ?_
                  refine block_np ?_
                  refine seq_np ?_
                  refine reg_f ?_
                  refine rs 2 [] [] (by kernel_rfl) allP_nil ?_
                  obtain ⟨r4749, hr4749, h⟩ := bind_sx h
                  refine call_x (sync_Begin_spec (Once.mk c0_By19 c0_Done19 []) t15 r4749 hr4749) (args := [.agg [iS c0_By19, bS c0_Done19, .v (.slice none 0 0)], iS t15]) (dst := (some 103)) (by kernel_rfl) [(0, .row 58 [iS c0_By19, bS c0_Done19, .v (.slice none 0 0)])] 1 (by kernel_rfl) [] [] (.tup [.agg [iS r4749.1, bS r4749.2.1, .own 1 0 r4749.2.2.2.2.length], iS r4749.2.2.1, .agg (Enc.cells r4749.2.2.2.1)]) [(1, .row 3 (fl r4749.2.2.2.2))] (by simp only [push_cast, seval]) (by simp only [push_cast, seval]) (by kernel_rfl) (.inl rfl) (by simp only [push_cast, seval]) (by simp only [push_cast, seval]) ?_
                  refine rs 9 [] [] (by kernel_rfl) allP_nil ?_
                  refine rf [(0, iS early), (1, iS late), (10, .ptr 0 0), (14, iS t15), (15, .ptr 2 0), (16, iS r4749.2.2.1), (17, .ptr 3 0)] [(0, .row 58 [iS c0_By19, bS c0_Done19, .v (.slice none 0 0)]), (1, .row 3 (fl r4749.2.2.2.2)), (2, .row 58 [iS r4749.1, bS r4749.2.1, .own 1 0 r4749.2.2.2.2.length]), (3, .row 29 (Enc.cells r4749.2.2.2.1))] 4 (by kernel_rfl) ?_
                  refine wk_id ?_
                  refine seq_cut (A := Bool) (fun a => ([(0, iS early), (1, iS late), (10, .ptr 0 0), (14, iS t15), (119, bS a)], [(0, .row 58 [iS c0_By19, bS c0_Done19, .v (.slice none 0 0)])], 1)) (fun a => (taskmilllaw_SyncOnlyOnce_j1 early late c0_By19 c0_Done19 t15 a) = some o6) (fun K4754 hK4754 => ?_) ?_
                  · refine reg_f ?_
                    refine rs 4 [] [] (by kernel_rfl) allP_nil ?_
                    refine run_br h 110 (.inl (by kernel_rfl)) (fun g4755 h => ?_) (fun g4755 h => ?_)
                    · refine rs 9 [] [] (by kernel_rfl) allP_nil ?_
                      refine rf [(0, iS early), (1, iS late), (10, .ptr 0 0), (14, iS t15), (119, bS true)] [(0, .row 58 [iS c0_By19, bS c0_Done19, .v (.slice none 0 0)]), (1, .row 3 (fl r4749.2.2.2.2)), (2, .row 58 [iS r4749.1, bS r4749.2.1, .own 1 0 r4749.2.2.2.2.length]), (3, .row 29 (Enc.cells r4749.2.2.2.1))] 4 (by kernel_rfl) ?_
                      exact hK4754 (true) _ _ _ h (leSt_m [(0, 0)] [] (by (try simp only [g4755]) <;> simp only [push_cast, seval]) (by (try simp only [g4755]) <;> simp only [push_cast, seval]) rfl rfl rfl)
                    · refine rs 4 [] [] (by kernel_rfl) allP_nil ?_
                      refine run_br h 114 (.inl (by kernel_rfl)) (fun g4756 h => ?_) (fun g4756 h => ?_)
                      · refine rs 5 [] [] (by kernel_rfl) allP_nil ?_
                        refine rf [(0, iS early), (1, iS late), (10, .ptr 0 0), (14, iS t15), (119, bS true)] [(0, .row 58 [iS c0_By19, bS c0_Done19, .v (.slice none 0 0)]), (1, .row 3 (fl r4749.2.2.2.2)), (2, .row 58 [iS r4749.1, bS r4749.2.1, .own 1 0 r4749.2.2.2.2.length]), (3, .row 29 (Enc.cells r4749.2.2.2.1))] 4 (by kernel_rfl) ?_
                        exact hK4754 (true) _ _ _ h (leSt_m [(0, 0)] [] (by (try simp only [g4755, g4756]) <;> simp only [push_cast, seval]) (by (try simp only [g4755, g4756]) <;> simp only [push_cast, seval]) rfl rfl rfl)
                      · refine rs 2 [] [] (by kernel_rfl) allP_nil ?_
                        obtain ⟨r4757, hr4757, h⟩ := bind_sx h
                        refine call_x (taskmilllaw_sameOnce_spec (Once.mk r4749.1 r4749.2.1 r4749.2.2.2.2) (Once.mk c0_By19 c0_Done19 []) r4757 hr4757) (args := [.agg [iS r4749.1, bS r4749.2.1, .own 1 0 r4749.2.2.2.2.length], .agg [iS c0_By19, bS c0_Done19, .v (.slice none 0 0)]]) (dst := (some 117)) (by kernel_rfl) [(0, .row 58 [iS c0_By19, bS c0_Done19, .v (.slice none 0 0)]), (1, .row 3 (fl r4749.2.2.2.2)), (2, .row 58 [iS r4749.1, bS r4749.2.1, .own 1 0 r4749.2.2.2.2.length]), (3, .row 29 (Enc.cells r4749.2.2.2.1))] 4 (by kernel_rfl) [] [1] (bS r4757) [] (by simp only [push_cast, seval]) (by simp only [push_cast, seval]) (by kernel_rfl) (.inr ⟨by simp only [push_cast, seval], by simp only [push_cast, seval]⟩) (by simp only [push_cast, seval]) (by simp only [push_cast, seval]) ?_
                        refine rs 2 [] [] (by kernel_rfl) allP_nil ?_
                        refine rf [(0, iS early), (1, iS late), (10, .ptr 0 0), (14, iS t15), (119, bS (!r4757))] [(0, .row 58 [iS c0_By19, bS c0_Done19, .v (.slice none 0 0)]), (1, .row 3 (fl r4749.2.2.2.2)), (2, .row 58 [iS r4749.1, bS r4749.2.1, .own 1 0 r4749.2.2.2.2.length]), (3, .row 29 (Enc.cells r4749.2.2.2.1))] 4 (by kernel_rfl) ?_
                        exact hK4754 ((!r4757)) _ _ _ h (leSt_m [(0, 0)] [] (by (try simp only [g4755, g4756]) <;> simp only [push_cast, seval]) (by (try simp only [g4755, g4756]) <;> simp only [push_cast, seval]) rfl rfl rfl)
                  · rintro t119q13 h
                    try dsimp only at h ⊢
                    unfold taskmilllaw_SyncOnlyOnce_j1 at h
                    refine cond_sx h (by kernel_rfl) (fun g4758 h => ?_) (fun g4758 h => ?_)
                    · refine seq_np ?_
                      refine reg_f ?_
                      refine rs 1 [] [] (by kernel_rfl) allP_nil ?_
                      refine rf [(4, bS false)] [(0, .row 58 [iS c0_By19, bS c0_Done19, .v (.slice none 0 0)])] 1 (by kernel_rfl) ?_
                      refine wk_id ?_
                      refine rt_cast ht6 ?_
                      obtain ⟨r0, h, e0⟩ := map_sx h
                      have e1 := hr6 r0 e0.symm
                      subst r0
                      obtain rfl := Option.some.inj h
                      refine ret_at (bS false) (by kernel_rfl) ?_
                      exact ret_e [] [] (by simp only [push_cast, seval]) (by simp only [push_cast, seval]) rfl rfl rfl
                    · refine wk_id ?_
                      refine wk_id ?_
                      refine reg_f ?_
                      refine rs 3 [] [] (by kernel_rfl) allP_nil ?_
                      refine rf [(0, iS early), (1, iS late), (10, .ptr 0 0), (14, iS (IntKind.i64.wrap (t15 + 1)))] [(0, .row 58 [iS c0_By19, bS c0_Done19, .v (.slice none 0 0)])] 1 (by kernel_rfl) ?_
                      exact hn6 ((IntKind.i64.wrap (t15 + 1))) _ _ _ (Option.some.inj h).symm (leSt_m [(0, 0)] [] (by simp only [push_cast, seval]) (by simp only [push_cast, seval]) rfl rfl rfl)
                · refine ex_cast hx6 (id := 4) ?_
                  obtain ⟨r0, h, e0⟩ := map_sx h
                  have e1 := hr6 r0 e0.symm
                  subst r0
                  refine wk_id ?_
                  refine wk_id ?_
                  refine seq_np ?_
                  refine reg_f ?_
                  refine rs 1 [] [] (by kernel_rfl) allP_nil ?_
                  refine rf [(4, bS true)] [(0, .row 58 [iS c0_By19, bS c0_Done19, .v (.slice none 0 0)])] 1 (by kernel_rfl) ?_
                  refine wk_id ?_
                  obtain rfl := Option.some.inj h
                  refine ret_at (bS true) (by kernel_rfl) ?_
                  exact ret_e [] [] (by simp only [push_cast, seval]) (by simp only [push_cast, seval]) rfl rfl rfl

set_option maxRecDepth 100000 in
set_option maxHeartbeats 10000000 in
theorem sync_group_spec (g : Group) (r : Fault) (h : sync_group g = some r) : SpecW Try.prog 50 [.agg (Enc.cells g)] [] 0 (fun x h n => x = .agg (Enc.cells r) ∧ h = [] ∧ n = 0) := by
  unfold sync_group at h
  refine spec_of (draw_ok _) Try.func50 rfl (by decide) rfl (by kernel_rfl) ?_
  refine seq_np ?_
  refine reg_f ?_
  refine rs 2 [] [] (by kernel_rfl) allP_nil ?_
  refine rf [(1, .ptr 0 0), (2, .ptr 1 0)] [(0, .row 67 (Enc.cells g)), (1, .row 29 [iS 0, iS 0])] 2 (by kernel_rfl) ?_
  refine wk_id ?_
  refine seq_np ?_
  refine seq_np ?_
  refine reg_f ?_
  refine rs 2 [] [] (by kernel_rfl) allP_nil ?_
  obtain ⟨r4781, hr4781, h⟩ := bind_sx h
  refine run_call 45 [.sl g.Line.length (fl g.Line)] (some 6) (by kernel_rfl) ?_
  refine call_0 (sync_line_spec g.Line r4781 hr4781) (by simp only [push_cast, seval]) (by simp only [push_cast, seval]) ?_
  refine back_f ?_
  refine rs 2 [] [] (by kernel_rfl) allP_nil ?_
  refine rf [(1, .ptr 0 0), (2, .ptr 1 0), (3, .ptr 2 0)] [(0, .row 67 (Enc.cells g)), (1, .row 29 [iS 0, iS 0]), (2, .row 29 (Enc.cells r4781))] 3 (by kernel_rfl) ?_
  refine wk_id ?_
  refine seq_np ?_
  refine reg_f ?_
  refine rs 3 [] [] (by kernel_rfl) allP_nil ?_
  refine rf [(1, .ptr 0 0), (2, .ptr 1 0), (3, .ptr 2 0), (9, bS (r4781.Code != 0))] [(0, .row 67 (Enc.cells g)), (1, .row 29 [iS 0, iS 0]), (2, .row 29 (Enc.cells r4781))] 3 (by kernel_rfl) ?_
  refine wk_id ?_
  refine cond_sx h (by kernel_rfl) (fun g4800 h => ?_) (fun g4800 h => ?_)
  · refine seq_np ?_
    refine reg_f ?_
    refine rs 2 [] [] (by kernel_rfl) allP_nil ?_
    refine rf [(2, .ptr 1 0)] [(0, .row 67 (Enc.cells g)), (1, .row 29 (Enc.cells r4781)), (2, .row 29 (Enc.cells r4781))] 3 (by kernel_rfl) ?_
    refine wk_id ?_
    obtain rfl := Option.some.inj h
    refine ret_at (.agg (Enc.cells r4781)) (by kernel_rfl) ?_
    exact ret_e [] [] (by simp only [push_cast, seval]) (by simp only [push_cast, seval]) rfl rfl rfl
  · refine wk_id ?_
    refine seq_np ?_
    refine seq_cut (A := Unit) (fun _ => ([(1, .ptr 0 0), (2, .ptr 1 0), (18, bS ((decide (g.Count < 0)) || (decide ((1000000000 : Int) < g.Count))))], [(0, .row 67 (Enc.cells g)), (1, .row 29 [iS 0, iS 0]), (2, .row 29 (Enc.cells r4781))], 3)) (fun _ => True) (fun K4786 hK4786 => ?_) (fun _ _ => ?_)
    · refine reg_f ?_
      refine rs 4 [] [] (by kernel_rfl) allP_nil ?_
      refine run_split 14 (decide (g.Count < 0)) (.inl (by kernel_rfl)) (fun g4787 => ?_) (fun g4787 => ?_)
      · refine rs 4 [] [] (by kernel_rfl) allP_nil ?_
        refine rf [(1, .ptr 0 0), (2, .ptr 1 0), (18, bS true)] [(0, .row 67 (Enc.cells g)), (1, .row 29 [iS 0, iS 0]), (2, .row 29 (Enc.cells r4781))] 3 (by kernel_rfl) ?_
        exact hK4786 () _ _ _ trivial (leSt_m [(0, 0), (1, 1), (2, 2)] [] (by (try simp only [g4787]) <;> simp only [push_cast, seval]) (by (try simp only [g4787]) <;> simp only [push_cast, seval]) rfl rfl rfl)
      · refine rs 4 [] [] (by kernel_rfl) allP_nil ?_
        refine rf [(1, .ptr 0 0), (2, .ptr 1 0), (18, bS (decide ((1000000000 : Int) < g.Count)))] [(0, .row 67 (Enc.cells g)), (1, .row 29 [iS 0, iS 0]), (2, .row 29 (Enc.cells r4781))] 3 (by kernel_rfl) ?_
        exact hK4786 () _ _ _ trivial (leSt_m [(0, 0), (1, 1), (2, 2)] [] (by (try simp only [g4787]) <;> simp only [push_cast, seval]) (by (try simp only [g4787]) <;> simp only [push_cast, seval]) rfl rfl rfl)
    · dsimp only
      refine cond_sx h (by kernel_rfl) (fun g4799 h => ?_) (fun g4799 h => ?_)
      · refine seq_np ?_
        refine reg_f ?_
        obtain ⟨r4789, hr4789, h⟩ := bind_sx h
        refine run_call 38 [iS 3, iS 0] (some 19) (by kernel_rfl) ?_
        refine call_0 (sync_fault_spec 3 0 r4789 hr4789) (by simp only [push_cast, seval]) (by simp only [push_cast, seval]) ?_
        refine back_f ?_
        refine rs 1 [] [] (by kernel_rfl) allP_nil ?_
        refine rf [(2, .ptr 1 0)] [(0, .row 67 (Enc.cells g)), (1, .row 29 (Enc.cells r4789)), (2, .row 29 (Enc.cells r4781))] 3 (by kernel_rfl) ?_
        refine wk_id ?_
        obtain rfl := Option.some.inj h
        refine ret_at (.agg (Enc.cells r4789)) (by kernel_rfl) ?_
        exact ret_e [] [] (by simp only [push_cast, seval]) (by simp only [push_cast, seval]) rfl rfl rfl
      · refine wk_id ?_
        refine seq_np ?_
        refine seq_cut (A := Unit) (fun _ => ([(2, .ptr 1 0), (28, bS ((g.Count == 0) && (decide ((0 : Int) < ((g.Line.length : Nat) : Int)))))], [(0, .row 67 (Enc.cells g)), (1, .row 29 [iS 0, iS 0]), (2, .row 29 (Enc.cells r4781))], 3)) (fun _ => True) (fun K4794 hK4794 => ?_) (fun _ _ => ?_)
        · refine reg_f ?_
          refine rs 4 [] [] (by kernel_rfl) allP_nil ?_
          refine run_split 23 (g.Count == 0) (.inl (by kernel_rfl)) (fun g4795 => ?_) (fun g4795 => ?_)
          · refine rs 5 [] [] (by kernel_rfl) allP_nil ?_
            refine rf [(2, .ptr 1 0), (28, bS (decide ((0 : Int) < ((g.Line.length : Nat) : Int))))] [(0, .row 67 (Enc.cells g)), (1, .row 29 [iS 0, iS 0]), (2, .row 29 (Enc.cells r4781))] 3 (by kernel_rfl) ?_
            exact hK4794 () _ _ _ trivial (leSt_m [(0, 0), (1, 1), (2, 2)] [] (by (try simp only [g4795]) <;> simp only [push_cast, seval]) (by (try simp only [g4795]) <;> simp only [push_cast, seval]) rfl rfl rfl)
          · refine rs 5 [] [] (by kernel_rfl) allP_nil ?_
            refine rf [(2, .ptr 1 0), (28, bS false)] [(0, .row 67 (Enc.cells g)), (1, .row 29 [iS 0, iS 0]), (2, .row 29 (Enc.cells r4781))] 3 (by kernel_rfl) ?_
            exact hK4794 () _ _ _ trivial (leSt_m [(0, 0), (1, 1), (2, 2)] [] (by (try simp only [g4795]) <;> simp only [push_cast, seval]) (by (try simp only [g4795]) <;> simp only [push_cast, seval]) rfl rfl rfl)
        · dsimp only
          refine cond_sx h (by kernel_rfl) (fun g4798 h => ?_) (fun g4798 h => ?_)
          · refine seq_np ?_
            refine reg_f ?_
            obtain ⟨r4797, hr4797, h⟩ := bind_sx h
            refine run_call 38 [iS 5, iS 0] (some 29) (by kernel_rfl) ?_
            refine call_0 (sync_fault_spec 5 0 r4797 hr4797) (by simp only [push_cast, seval]) (by simp only [push_cast, seval]) ?_
            refine back_f ?_
            refine rs 1 [] [] (by kernel_rfl) allP_nil ?_
            refine rf [(2, .ptr 1 0)] [(0, .row 67 (Enc.cells g)), (1, .row 29 (Enc.cells r4797)), (2, .row 29 (Enc.cells r4781))] 3 (by kernel_rfl) ?_
            refine wk_id ?_
            obtain rfl := Option.some.inj h
            refine ret_at (.agg (Enc.cells r4797)) (by kernel_rfl) ?_
            exact ret_e [] [] (by simp only [push_cast, seval]) (by simp only [push_cast, seval]) rfl rfl rfl
          · refine wk_id ?_
            refine seq_np ?_
            refine reg_f ?_
            refine rs 2 [] [] (by kernel_rfl) allP_nil ?_
            refine rf [(2, .ptr 1 0)] [(0, .row 67 (Enc.cells g)), (1, .row 29 [iS 0, iS 0]), (2, .row 29 (Enc.cells r4781))] 3 (by kernel_rfl) ?_
            refine wk_id ?_
            obtain rfl := Option.some.inj h
            refine ret_at (.agg [iS 0, iS 0]) (by kernel_rfl) ?_
            exact ret_e [] [] (by simp only [push_cast, seval]) (by simp only [push_cast, seval]) rfl rfl rfl

set_option maxRecDepth 100000 in
set_option maxHeartbeats 10000000 in
theorem sync_Add_spec (g : Group) (n : Int) (r : Int × Bool × Fault × (List Int) × (List Int)) (h : sync_Add g n = some r) : SpecW Try.prog 33 [.agg (Enc.cells g), iS n] [] 0 (fun x h n => x = .tup [.agg [iS r.1, .own 0 0 r.2.2.2.1.length], .own 1 0 r.2.2.2.2.length, bS r.2.1, .agg (Enc.cells r.2.2.1)] ∧ h = [(0, .row 3 (fl r.2.2.2.1)), (1, .row 3 (fl r.2.2.2.2))] ∧ n = 2) := by
  unfold sync_Add at h
  refine spec_of (draw_ok _) Try.func33 rfl (by decide) rfl (by kernel_rfl) ?_
  refine seq_np ?_
  refine reg_f ?_
  refine rs 5 [] [] (by kernel_rfl) allP_nil ?_
  refine rf [(1, iS n), (2, .ptr 0 0), (4, .ptr 1 0), (7, .ptr 2 0)] [(0, .row 67 (Enc.cells g)), (1, .row 67 [iS 0, .v (.slice none 0 0)]), (2, .row 29 [iS 0, iS 0])] 3 (by kernel_rfl) ?_
  refine wk_id ?_
  refine seq_np ?_
  refine seq_np ?_
  refine reg_f ?_
  refine rs 1 [] [] (by kernel_rfl) allP_nil ?_
  obtain ⟨r4814, hr4814, h⟩ := bind_sx h
  refine run_call 50 [.agg (Enc.cells g)] (some 12) (by kernel_rfl) ?_
  refine call_0 (sync_group_spec g r4814 hr4814) (by simp only [push_cast, seval]) (by simp only [push_cast, seval]) ?_
  refine back_f ?_
  refine rs 2 [] [] (by kernel_rfl) allP_nil ?_
  refine rf [(1, iS n), (2, .ptr 0 0), (4, .ptr 1 0), (7, .ptr 2 0), (8, .ptr 3 0)] [(0, .row 67 (Enc.cells g)), (1, .row 67 [iS 0, .v (.slice none 0 0)]), (2, .row 29 [iS 0, iS 0]), (3, .row 29 (Enc.cells r4814))] 4 (by kernel_rfl) ?_
  refine wk_id ?_
  refine seq_np ?_
  refine reg_f ?_
  refine rs 3 [] [] (by kernel_rfl) allP_nil ?_
  refine rf [(1, iS n), (2, .ptr 0 0), (4, .ptr 1 0), (7, .ptr 2 0), (8, .ptr 3 0), (15, bS (r4814.Code != 0))] [(0, .row 67 (Enc.cells g)), (1, .row 67 [iS 0, .v (.slice none 0 0)]), (2, .row 29 [iS 0, iS 0]), (3, .row 29 (Enc.cells r4814))] 4 (by kernel_rfl) ?_
  refine wk_id ?_
  refine cond_sx h (by kernel_rfl) (fun g4839 h => ?_) (fun g4839 h => ?_)
  · refine seq_np ?_
    refine reg_t ?_
    refine rs 6 [] [] (by kernel_rfl) allP_nil ?_
    refine rt [(4, .ptr 1 0), (5, .v (.slice none 0 0)), (6, bS false), (7, .ptr 2 0)] [(0, .row 67 (Enc.cells g)), (1, .row 67 [iS 0, .v (.slice none 0 0)]), (2, .row 29 (Enc.cells r4814)), (3, .row 29 (Enc.cells r4814))] 10 follows (by kernel_rfl) ?_
    refine wk_id ?_
    obtain rfl := Option.some.inj h
    refine ret_at (.tup [.agg [iS 0, .v (.slice none 0 0)], .v (.slice none 0 0), bS false, .agg (Enc.cells r4814)]) (by kernel_rfl) ?_
    exact ret_e [] [] (by simp only [push_cast, seval]) (by simp only [push_cast, seval]) rfl rfl rfl
  · refine wk_id ?_
    refine seq_np ?_
    refine seq_cut (A := Unit) (fun _ => ([(1, iS n), (2, .ptr 0 0), (4, .ptr 1 0), (7, .ptr 2 0), (23, bS ((decide (n < (-1000000000))) || (decide ((1000000000 : Int) < n))))], [(0, .row 67 (Enc.cells g)), (1, .row 67 [iS 0, .v (.slice none 0 0)]), (2, .row 29 [iS 0, iS 0]), (3, .row 29 (Enc.cells r4814))], 4)) (fun _ => True) (fun K4819 hK4819 => ?_) (fun _ _ => ?_)
    · refine reg_f ?_
      refine rs 3 [] [] (by kernel_rfl) allP_nil ?_
      refine run_split 20 (decide (n < (-1000000000))) (.inl (by kernel_rfl)) (fun g4820 => ?_) (fun g4820 => ?_)
      · refine rs 3 [] [] (by kernel_rfl) allP_nil ?_
        refine rf [(1, iS n), (2, .ptr 0 0), (4, .ptr 1 0), (7, .ptr 2 0), (23, bS true)] [(0, .row 67 (Enc.cells g)), (1, .row 67 [iS 0, .v (.slice none 0 0)]), (2, .row 29 [iS 0, iS 0]), (3, .row 29 (Enc.cells r4814))] 4 (by kernel_rfl) ?_
        exact hK4819 () _ _ _ trivial (leSt_m [(0, 0), (1, 1), (2, 2), (3, 3)] [] (by (try simp only [g4820]) <;> simp only [push_cast, seval]) (by (try simp only [g4820]) <;> simp only [push_cast, seval]) rfl rfl rfl)
      · refine rs 3 [] [] (by kernel_rfl) allP_nil ?_
        refine rf [(1, iS n), (2, .ptr 0 0), (4, .ptr 1 0), (7, .ptr 2 0), (23, bS (decide ((1000000000 : Int) < n)))] [(0, .row 67 (Enc.cells g)), (1, .row 67 [iS 0, .v (.slice none 0 0)]), (2, .row 29 [iS 0, iS 0]), (3, .row 29 (Enc.cells r4814))] 4 (by kernel_rfl) ?_
        exact hK4819 () _ _ _ trivial (leSt_m [(0, 0), (1, 1), (2, 2), (3, 3)] [] (by (try simp only [g4820]) <;> simp only [push_cast, seval]) (by (try simp only [g4820]) <;> simp only [push_cast, seval]) rfl rfl rfl)
    · dsimp only
      refine cond_sx h (by kernel_rfl) (fun g4838 h => ?_) (fun g4838 h => ?_)
      · refine seq_np ?_
        refine reg_f ?_
        refine rs 1 [] [] (by kernel_rfl) allP_nil ?_
        obtain ⟨r4822, hr4822, h⟩ := bind_sx h
        refine run_call 38 [iS 3, iS (-1)] (some 25) (by kernel_rfl) ?_
        refine call_0 (sync_fault_spec 3 (-1) r4822 hr4822) (by simp only [push_cast, seval]) (by simp only [push_cast, seval]) ?_
        refine back_f ?_
        refine rs 4 [] [] (by kernel_rfl) allP_nil ?_
        refine rf [(4, .ptr 1 0), (5, .v (.slice none 0 0)), (6, bS false), (7, .ptr 2 0)] [(0, .row 67 (Enc.cells g)), (1, .row 67 [iS 0, .v (.slice none 0 0)]), (2, .row 29 (Enc.cells r4822)), (3, .row 29 (Enc.cells r4814))] 4 (by kernel_rfl) ?_
        refine wk_id ?_
        obtain rfl := Option.some.inj h
        refine ret_at (.tup [.agg [iS 0, .v (.slice none 0 0)], .v (.slice none 0 0), bS false, .agg (Enc.cells r4822)]) (by kernel_rfl) ?_
        exact ret_e [] [] (by simp only [push_cast, seval]) (by simp only [push_cast, seval]) rfl rfl rfl
      · refine wk_id ?_
        refine seq_np ?_
        refine reg_t ?_
        refine rs 4 [] [] (by kernel_rfl) allP_nil ?_
        obtain ⟨r4824, hr4824, h⟩ := bind_sx h
        refine call_x (slices_Clone_int_spec g.Line r4824 hr4824) (args := [.sl g.Line.length (fl g.Line)]) (dst := (some 30)) (by kernel_rfl) [(0, .row 67 (Enc.cells g)), (1, .row 67 [iS 0, .v (.slice none 0 0)]), (2, .row 29 [iS 0, iS 0]), (3, .row 29 (Enc.cells r4814))] 8 (by kernel_rfl) [] [] (.own 8 0 r4824.length) [(8, .row 3 (fl r4824))] (by simp only [push_cast, seval]) (by simp only [push_cast, seval]) (by kernel_rfl) (.inl rfl) (by simp only [push_cast, seval]) (by simp only [push_cast, seval]) ?_
        refine rs 3 [] [] (by kernel_rfl) allP_nil ?_
        refine rt [(1, iS n), (2, .ptr 0 0), (4, .ptr 1 0), (7, .ptr 2 0), (9, .ptr 11 0)] [(0, .row 67 (Enc.cells g)), (1, .row 67 [iS 0, .v (.slice none 0 0)]), (2, .row 29 [iS 0, iS 0]), (3, .row 29 (Enc.cells r4814)), (8, .row 3 (fl r4824)), (11, .row 67 [iS g.Count, .own 8 0 r4824.length])] 14 follows (by kernel_rfl) ?_
        refine wk_id ?_
        refine seq_np ?_
        refine seq_np ?_
        refine reg_f ?_
        refine rs 5 [] [] (by kernel_rfl) allP_nil ?_
        refine rf [(4, .ptr 1 0), (7, .ptr 2 0), (9, .ptr 11 0), (10, iS (IntKind.i64.wrap (g.Count + n)))] [(0, .row 67 (Enc.cells g)), (1, .row 67 [iS 0, .v (.slice none 0 0)]), (2, .row 29 [iS 0, iS 0]), (3, .row 29 (Enc.cells r4814)), (8, .row 3 (fl r4824)), (11, .row 67 [iS g.Count, .own 8 0 r4824.length])] 14 (by kernel_rfl) ?_
        refine wk_id ?_
        refine block_np ?_
        refine seq_np ?_
        refine reg_f ?_
        refine rs 3 [] [] (by kernel_rfl) allP_nil ?_
        refine rf [(4, .ptr 1 0), (7, .ptr 2 0), (9, .ptr 11 0), (10, iS (IntKind.i64.wrap (g.Count + n))), (38, bS (decide ((IntKind.i64.wrap (g.Count + n)) < 0)))] [(0, .row 67 (Enc.cells g)), (1, .row 67 [iS 0, .v (.slice none 0 0)]), (2, .row 29 [iS 0, iS 0]), (3, .row 29 (Enc.cells r4814)), (8, .row 3 (fl r4824)), (11, .row 67 [iS g.Count, .own 8 0 r4824.length])] 14 (by kernel_rfl) ?_
        refine wk_id ?_
        refine cond_sx h (by kernel_rfl) (fun g4837 h => ?_) (fun g4837 h => ?_)
        · refine seq_np ?_
          refine reg_f ?_
          refine rs 6 [] [] (by kernel_rfl) allP_nil ?_
          refine rf [(4, .ptr 1 0), (5, .v (.slice none 0 0)), (6, bS true), (7, .ptr 2 0)] [(0, .row 67 (Enc.cells g)), (1, .row 67 [iS g.Count, .own 8 0 r4824.length]), (2, .row 29 [iS 0, iS 0]), (3, .row 29 (Enc.cells r4814)), (8, .row 3 (fl r4824)), (11, .row 67 [iS g.Count, .own 8 0 r4824.length])] 14 (by kernel_rfl) ?_
          refine wk_id ?_
          obtain rfl := Option.some.inj h
          refine ret_at (.tup [.agg [iS g.Count, .own 8 0 r4824.length], .v (.slice none 0 0), bS true, .agg [iS 0, iS 0]]) (by kernel_rfl) ?_
          exact ret_e [(0, 8)] [] (by simp only [push_cast, seval]) (by simp only [push_cast, seval]) rfl rfl rfl
        · refine seq_np ?_
          refine reg_f ?_
          refine rs 3 [] [] (by kernel_rfl) allP_nil ?_
          refine rf [(4, .ptr 1 0), (7, .ptr 2 0), (9, .ptr 11 0), (10, iS (IntKind.i64.wrap (g.Count + n))), (43, bS (decide ((1000000000 : Int) < (IntKind.i64.wrap (g.Count + n)))))] [(0, .row 67 (Enc.cells g)), (1, .row 67 [iS 0, .v (.slice none 0 0)]), (2, .row 29 [iS 0, iS 0]), (3, .row 29 (Enc.cells r4814)), (8, .row 3 (fl r4824)), (11, .row 67 [iS g.Count, .own 8 0 r4824.length])] 14 (by kernel_rfl) ?_
          refine wk_id ?_
          refine cond_sx h (by kernel_rfl) (fun g4836 h => ?_) (fun g4836 h => ?_)
          · refine seq_np ?_
            refine reg_f ?_
            refine rs 1 [] [] (by kernel_rfl) allP_nil ?_
            obtain ⟨r4834, hr4834, h⟩ := bind_sx h
            refine run_call 38 [iS 9, iS 0] (some 47) (by kernel_rfl) ?_
            refine call_0 (sync_fault_spec 9 0 r4834 hr4834) (by simp only [push_cast, seval]) (by simp only [push_cast, seval]) ?_
            refine back_f ?_
            refine rs 4 [] [] (by kernel_rfl) allP_nil ?_
            refine rf [(4, .ptr 1 0), (5, .v (.slice none 0 0)), (6, bS false), (7, .ptr 2 0)] [(0, .row 67 (Enc.cells g)), (1, .row 67 [iS 0, .v (.slice none 0 0)]), (2, .row 29 (Enc.cells r4834)), (3, .row 29 (Enc.cells r4814)), (8, .row 3 (fl r4824)), (11, .row 67 [iS g.Count, .own 8 0 r4824.length])] 14 (by kernel_rfl) ?_
            refine wk_id ?_
            obtain rfl := Option.some.inj h
            refine ret_at (.tup [.agg [iS 0, .v (.slice none 0 0)], .v (.slice none 0 0), bS false, .agg (Enc.cells r4834)]) (by kernel_rfl) ?_
            exact ret_e [] [] (by simp only [push_cast, seval]) (by simp only [push_cast, seval]) rfl rfl rfl
          · refine seq_np ?_
            refine reg_f ?_
            refine rs 3 [] [] (by kernel_rfl) allP_nil ?_
            refine rf [(4, .ptr 1 0), (7, .ptr 2 0), (9, .ptr 11 0), (10, iS (IntKind.i64.wrap (g.Count + n))), (48, bS ((IntKind.i64.wrap (g.Count + n)) == 0))] [(0, .row 67 (Enc.cells g)), (1, .row 67 [iS 0, .v (.slice none 0 0)]), (2, .row 29 [iS 0, iS 0]), (3, .row 29 (Enc.cells r4814)), (8, .row 3 (fl r4824)), (11, .row 67 [iS g.Count, .own 8 0 r4824.length])] 14 (by kernel_rfl) ?_
            refine wk_id ?_
            refine cond_sx h (by kernel_rfl) (fun g4835 h => ?_) (fun g4835 h => ?_)
            · refine seq_np ?_
              refine reg_t ?_
              refine rs 8 [] [] (by kernel_rfl) allP_nil ?_
              refine rt [(4, .ptr 1 0), (5, .own 8 0 r4824.length), (6, bS false), (7, .ptr 2 0)] [(0, .row 67 (Enc.cells g)), (1, .row 67 [iS 0, .v (.slice none 0 0)]), (2, .row 29 [iS 0, iS 0]), (3, .row 29 (Enc.cells r4814)), (8, .row 3 (fl r4824)), (11, .row 67 [iS g.Count, .own 8 0 r4824.length])] 22 follows (by kernel_rfl) ?_
              refine wk_id ?_
              obtain rfl := Option.some.inj h
              refine ret_at (.tup [.agg [iS 0, .v (.slice none 0 0)], .own 8 0 r4824.length, bS false, .agg [iS 0, iS 0]]) (by kernel_rfl) ?_
              exact ret_e [(1, 8)] [] (by simp only [push_cast, seval]) (by simp only [push_cast, seval]) rfl rfl rfl
            · refine reg_f ?_
              refine rs 3 [] [] (by kernel_rfl) allP_nil ?_
              refine rf [(4, .ptr 1 0), (7, .ptr 2 0), (9, .ptr 11 0)] [(0, .row 67 (Enc.cells g)), (1, .row 67 [iS 0, .v (.slice none 0 0)]), (2, .row 29 [iS 0, iS 0]), (3, .row 29 (Enc.cells r4814)), (8, .row 3 (fl r4824)), (11, .row 67 [iS (IntKind.i64.wrap (g.Count + n)), .own 8 0 r4824.length])] 14 (by kernel_rfl) ?_
              refine wk_id ?_
              refine wk_id ?_
              refine seq_np ?_
              refine reg_f ?_
              refine rs 6 [] [] (by kernel_rfl) allP_nil ?_
              refine rf [(4, .ptr 1 0), (5, .v (.slice none 0 0)), (6, bS false), (7, .ptr 2 0)] [(0, .row 67 (Enc.cells g)), (1, .row 67 [iS (IntKind.i64.wrap (g.Count + n)), .own 8 0 r4824.length]), (2, .row 29 [iS 0, iS 0]), (3, .row 29 (Enc.cells r4814)), (8, .row 3 (fl r4824)), (11, .row 67 [iS (IntKind.i64.wrap (g.Count + n)), .own 8 0 r4824.length])] 14 (by kernel_rfl) ?_
              refine wk_id ?_
              obtain rfl := Option.some.inj h
              refine ret_at (.tup [.agg [iS (IntKind.i64.wrap (g.Count + n)), .own 8 0 r4824.length], .v (.slice none 0 0), bS false, .agg [iS 0, iS 0]]) (by kernel_rfl) ?_
              exact ret_e [(0, 8)] [] (by simp only [push_cast, seval]) (by simp only [push_cast, seval]) rfl rfl rfl

set_option maxRecDepth 100000 in
set_option maxHeartbeats 10000000 in
theorem sync_Await_spec (g : Group) (task : Int) (r : Int × Bool × Fault × (List Int)) (h : sync_Await g task = some r) : SpecW Try.prog 34 [.agg (Enc.cells g), iS task] [] 0 (fun x h n => x = .tup [.agg [iS r.1, .own 0 0 r.2.2.2.length], bS r.2.1, .agg (Enc.cells r.2.2.1)] ∧ h = [(0, .row 3 (fl r.2.2.2))] ∧ n = 1) := by
  unfold sync_Await at h
  refine spec_of (draw_ok _) Try.func34 rfl (by decide) rfl (by kernel_rfl) ?_
  refine seq_np ?_
  refine reg_f ?_
  refine rs 4 [] [] (by kernel_rfl) allP_nil ?_
  refine rf [(1, iS task), (2, .ptr 0 0), (4, .ptr 1 0), (6, .ptr 2 0)] [(0, .row 67 (Enc.cells g)), (1, .row 67 [iS 0, .v (.slice none 0 0)]), (2, .row 29 [iS 0, iS 0])] 3 (by kernel_rfl) ?_
  refine wk_id ?_
  refine seq_np ?_
  refine reg_f ?_
  refine rs 1 [] [] (by kernel_rfl) allP_nil ?_
  obtain ⟨r4854, hr4854, h⟩ := bind_sx h
  refine run_call 50 [.agg (Enc.cells g)] (some 10) (by kernel_rfl) ?_
  refine call_0 (sync_group_spec g r4854 hr4854) (by simp only [push_cast, seval]) (by simp only [push_cast, seval]) ?_
  refine back_f ?_
  refine rs 2 [] [] (by kernel_rfl) allP_nil ?_
  refine rf [(1, iS task), (2, .ptr 0 0), (4, .ptr 1 0), (6, .ptr 2 0), (7, .ptr 3 0)] [(0, .row 67 (Enc.cells g)), (1, .row 67 [iS 0, .v (.slice none 0 0)]), (2, .row 29 [iS 0, iS 0]), (3, .row 29 (Enc.cells r4854))] 4 (by kernel_rfl) ?_
  refine wk_id ?_
  refine seq_cut (A := Fault) (fun a => ([(1, iS task), (2, .ptr 0 0), (4, .ptr 1 0), (6, .ptr 2 0), (7, .ptr 3 0)], [(0, .row 67 (Enc.cells g)), (1, .row 67 [iS 0, .v (.slice none 0 0)]), (2, .row 29 [iS 0, iS 0]), (3, .row 29 (Enc.cells a))], 4)) (fun a => (sync_Await_j2 g task a) = some r) (fun K4858 hK4858 => ?_) ?_
  · refine seq_np ?_
    refine reg_f ?_
    refine rs 3 [] [] (by kernel_rfl) allP_nil ?_
    refine rf [(1, iS task), (2, .ptr 0 0), (4, .ptr 1 0), (6, .ptr 2 0), (7, .ptr 3 0), (13, bS (r4854.Code == 0))] [(0, .row 67 (Enc.cells g)), (1, .row 67 [iS 0, .v (.slice none 0 0)]), (2, .row 29 [iS 0, iS 0]), (3, .row 29 (Enc.cells r4854))] 4 (by kernel_rfl) ?_
    refine wk_id ?_
    refine cond_sx h (by kernel_rfl) (fun g4861 h => ?_) (fun g4861 h => ?_)
    · refine reg_f ?_
      refine rs 3 [] [] (by kernel_rfl) allP_nil ?_
      obtain ⟨r4860, hr4860, h⟩ := bind_sx h
      refine run_call 46 [.sl g.Line.length (fl g.Line), iS task] (some 17) (by kernel_rfl) ?_
      refine call_0 (sync_comes_spec g.Line task r4860 hr4860) (by simp only [push_cast, seval]) (by simp only [push_cast, seval]) ?_
      refine back_f ?_
      refine rs 1 [] [] (by kernel_rfl) allP_nil ?_
      refine rf [(1, iS task), (2, .ptr 0 0), (4, .ptr 1 0), (6, .ptr 2 0), (7, .ptr 3 0)] [(0, .row 67 (Enc.cells g)), (1, .row 67 [iS 0, .v (.slice none 0 0)]), (2, .row 29 [iS 0, iS 0]), (3, .row 29 (Enc.cells r4860))] 4 (by kernel_rfl) ?_
      exact hK4858 (r4860) _ _ _ h (leSt_m [(0, 0), (1, 1), (2, 2), (3, 3)] [] (by simp only [push_cast, seval]) (by simp only [push_cast, seval]) rfl rfl rfl)
    · exact hK4858 (r4854) _ _ _ h (leSt_m [(0, 0), (1, 1), (2, 2), (3, 3)] [] (by simp only [push_cast, seval]) (by simp only [push_cast, seval]) rfl rfl rfl)
  · rintro c3q1 h
    try dsimp only at h ⊢
    unfold sync_Await_j2 at h
    refine seq_np ?_
    refine seq_np ?_
    refine reg_f ?_
    refine rs 3 [] [] (by kernel_rfl) allP_nil ?_
    refine rf [(1, iS task), (2, .ptr 0 0), (4, .ptr 1 0), (6, .ptr 2 0), (7, .ptr 3 0), (20, bS (c3q1.Code != 0))] [(0, .row 67 (Enc.cells g)), (1, .row 67 [iS 0, .v (.slice none 0 0)]), (2, .row 29 [iS 0, iS 0]), (3, .row 29 (Enc.cells c3q1))] 4 (by kernel_rfl) ?_
    refine wk_id ?_
    refine cond_sx h (by kernel_rfl) (fun g4875 h => ?_) (fun g4875 h => ?_)
    · refine seq_np ?_
      refine reg_t ?_
      refine rs 5 [] [] (by kernel_rfl) allP_nil ?_
      refine rt [(4, .ptr 1 0), (5, bS false), (6, .ptr 2 0)] [(0, .row 67 (Enc.cells g)), (1, .row 67 [iS 0, .v (.slice none 0 0)]), (2, .row 29 (Enc.cells c3q1)), (3, .row 29 (Enc.cells c3q1))] 9 follows (by kernel_rfl) ?_
      refine wk_id ?_
      obtain rfl := Option.some.inj h
      refine ret_at (.tup [.agg [iS 0, .v (.slice none 0 0)], bS false, .agg (Enc.cells c3q1)]) (by kernel_rfl) ?_
      exact ret_e [] [] (by simp only [push_cast, seval]) (by simp only [push_cast, seval]) rfl rfl rfl
    · refine wk_id ?_
      refine seq_np ?_
      refine reg_t ?_
      refine rs 4 [] [] (by kernel_rfl) allP_nil ?_
      obtain ⟨r4864, hr4864, h⟩ := bind_sx h
      refine call_x (slices_Clone_int_spec g.Line r4864 hr4864) (args := [.sl g.Line.length (fl g.Line)]) (dst := (some 27)) (by kernel_rfl) [(0, .row 67 (Enc.cells g)), (1, .row 67 [iS 0, .v (.slice none 0 0)]), (2, .row 29 [iS 0, iS 0]), (3, .row 29 (Enc.cells c3q1))] 8 (by kernel_rfl) [] [] (.own 8 0 r4864.length) [(8, .row 3 (fl r4864))] (by simp only [push_cast, seval]) (by simp only [push_cast, seval]) (by kernel_rfl) (.inl rfl) (by simp only [push_cast, seval]) (by simp only [push_cast, seval]) ?_
      refine rs 3 [] [] (by kernel_rfl) allP_nil ?_
      refine rt [(1, iS task), (2, .ptr 0 0), (4, .ptr 1 0), (6, .ptr 2 0), (8, .ptr 11 0)] [(0, .row 67 (Enc.cells g)), (1, .row 67 [iS 0, .v (.slice none 0 0)]), (2, .row 29 [iS 0, iS 0]), (3, .row 29 (Enc.cells c3q1)), (8, .row 3 (fl r4864)), (11, .row 67 [iS g.Count, .own 8 0 r4864.length])] 14 follows (by kernel_rfl) ?_
      refine wk_id ?_
      refine seq_cut (A := (List Int)) (fun a => ([(2, .ptr 0 0), (4, .ptr 1 0), (6, .ptr 2 0), (8, .ptr 3 0)], [(0, .row 67 (Enc.cells g)), (1, .row 67 [iS 0, .v (.slice none 0 0)]), (2, .row 29 [iS 0, iS 0]), (3, .row 67 [iS g.Count, .own 4 0 a.length]), (4, .row 3 (fl a))], 5)) (fun a => (sync_Await_j1 g a) = some r) (fun K4869 hK4869 => ?_) ?_
      · refine seq_np ?_
        refine reg_f ?_
        refine rs 3 [] [] (by kernel_rfl) allP_nil ?_
        refine rf [(1, iS task), (2, .ptr 0 0), (4, .ptr 1 0), (6, .ptr 2 0), (8, .ptr 11 0), (31, bS (decide ((0 : Int) < g.Count)))] [(0, .row 67 (Enc.cells g)), (1, .row 67 [iS 0, .v (.slice none 0 0)]), (2, .row 29 [iS 0, iS 0]), (3, .row 29 (Enc.cells c3q1)), (8, .row 3 (fl r4864)), (11, .row 67 [iS g.Count, .own 8 0 r4864.length])] 14 (by kernel_rfl) ?_
        refine wk_id ?_
        refine cond_sx h (by kernel_rfl) (fun g4874 h => ?_) (fun g4874 h => ?_)
        · refine chk_sx h (fun g4873 h => ?_)
          refine reg_f ?_
          have k4872 : (r4864 ++ ([task] : List Int)).length * 8 ≤ 140737488355328 := by first | simpa only [Bool.and_eq_true, decide_eq_true_eq, bne_iff_ne, ne_eq] using g4873 | (simp at g4873 ⊢; omega)
          refine rs 7 [none, none, none, none, some ⟨.own 15 0 (r4864 ++ ([task] : List Int)).length, [(15, .row 3 (fl (r4864 ++ ([task] : List Int)))), (8, .dead)], 16, [8, 14]⟩] _ (by kernel_rfl) (allP_cons (ob_app (P := Try.prog) r4864 ([task] : List Int) 1 8 rfl (appCells (fl ([task] : List Int)) 0 (([task] : List Int).length * 1)) ([task] : List Int).length (app_own ([task] : List Int) 1 rfl) rfl (0 + ([task] : List Int).length * 1 ≤ (fl ([task] : List Int)).length) (app_own_le ([task] : List Int) 1 rfl) 3 (by kernel_rfl) (by decide) k4872 8 15 [14]) allP_nil) ?_
          refine rf [(2, .ptr 0 0), (4, .ptr 1 0), (6, .ptr 2 0), (8, .ptr 11 0)] [(0, .row 67 (Enc.cells g)), (1, .row 67 [iS 0, .v (.slice none 0 0)]), (2, .row 29 [iS 0, iS 0]), (3, .row 29 (Enc.cells c3q1)), (8, .dead), (11, .row 67 [iS g.Count, .own 15 0 (r4864 ++ ([task] : List Int)).length]), (14, .row 3 (fl ([task] : List Int))), (15, .row 3 (fl (r4864 ++ ([task] : List Int))))] 16 (by kernel_rfl) ?_
          exact hK4869 ((r4864 ++ ([task] : List Int))) _ _ _ h (leSt_m [(0, 0), (1, 1), (2, 2), (3, 11), (4, 15)] [] (by simp only [push_cast, seval]) (by simp only [push_cast, seval]) rfl rfl rfl)
        · exact hK4869 (r4864) _ _ _ h (leSt_m [(0, 0), (1, 1), (2, 2), (3, 11), (4, 8)] [] (by simp only [push_cast, seval]) (by simp only [push_cast, seval]) rfl rfl rfl)
      · rintro c4q1 h
        try dsimp only at h ⊢
        unfold sync_Await_j1 at h
        refine seq_np ?_
        refine reg_t ?_
        refine rs 8 [] [] (by kernel_rfl) allP_nil ?_
        refine rt [(4, .ptr 1 0), (5, bS (g.Count == 0)), (6, .ptr 2 0)] [(0, .row 67 (Enc.cells g)), (1, .row 67 [iS g.Count, .own 4 0 c4q1.length]), (2, .row 29 [iS 0, iS 0]), (3, .row 67 [iS g.Count, .own 4 0 c4q1.length]), (4, .row 3 (fl c4q1))] 13 follows (by kernel_rfl) ?_
        refine wk_id ?_
        obtain rfl := Option.some.inj h
        refine ret_at (.tup [.agg [iS g.Count, .own 4 0 c4q1.length], bS (g.Count == 0), .agg [iS 0, iS 0]]) (by kernel_rfl) ?_
        exact ret_e [(0, 4)] [] (by simp only [push_cast, seval]) (by simp only [push_cast, seval]) rfl rfl rfl

set_option maxRecDepth 100000 in
set_option maxHeartbeats 10000000 in
theorem taskmillref_GroupFault_spec (g : Group) (r : Fault) (h : taskmillref_GroupFault g = some r) : SpecW Try.prog 35 [.agg (Enc.cells g)] [] 0 (fun x h n => x = .agg (Enc.cells r) ∧ h = [] ∧ n = 0) := by
  unfold taskmillref_GroupFault at h
  refine spec_of (draw_ok _) Try.func35 rfl (by decide) rfl (by kernel_rfl) ?_
  refine seq_np ?_
  refine reg_f ?_
  refine rs 2 [] [] (by kernel_rfl) allP_nil ?_
  refine rf [(1, .ptr 0 0), (2, .ptr 1 0)] [(0, .row 67 (Enc.cells g)), (1, .row 29 [iS 0, iS 0])] 2 (by kernel_rfl) ?_
  refine wk_id ?_
  refine seq_np ?_
  refine reg_f ?_
  refine rs 2 [] [] (by kernel_rfl) allP_nil ?_
  obtain ⟨r4891, hr4891, h⟩ := bind_sx h
  refine run_call 48 [.sl g.Line.length (fl g.Line)] (some 6) (by kernel_rfl) ?_
  refine call_0 (taskmillref_LineFault_spec g.Line r4891 hr4891) (by simp only [push_cast, seval]) (by simp only [push_cast, seval]) ?_
  refine back_f ?_
  refine rs 2 [] [] (by kernel_rfl) allP_nil ?_
  refine rf [(1, .ptr 0 0), (2, .ptr 1 0), (3, .ptr 2 0)] [(0, .row 67 (Enc.cells g)), (1, .row 29 [iS 0, iS 0]), (2, .row 29 (Enc.cells r4891))] 3 (by kernel_rfl) ?_
  refine wk_id ?_
  refine seq_cut (A := Fault) (fun a => ([(1, .ptr 0 0), (2, .ptr 1 0), (3, .ptr 2 0)], [(0, .row 67 (Enc.cells g)), (1, .row 29 [iS 0, iS 0]), (2, .row 29 (Enc.cells a))], 3)) (fun a => (taskmillref_GroupFault_j2 g a) = some r) (fun K4897 hK4897 => ?_) ?_
  · refine seq_cut (A := Unit) (fun _ => ([(1, .ptr 0 0), (2, .ptr 1 0), (3, .ptr 2 0), (19, bS ((r4891.Code == 0) && ((decide (g.Count < 0)) || (decide ((1000000000 : Int) < g.Count)))))], [(0, .row 67 (Enc.cells g)), (1, .row 29 [iS 0, iS 0]), (2, .row 29 (Enc.cells r4891))], 3)) (fun _ => True) (fun K4900 hK4900 => ?_) (fun _ _ => ?_)
    · refine reg_f ?_
      refine rs 4 [] [] (by kernel_rfl) allP_nil ?_
      refine run_split 10 (r4891.Code == 0) (.inl (by kernel_rfl)) (fun g4901 => ?_) (fun g4901 => ?_)
      · refine rs 4 [] [] (by kernel_rfl) allP_nil ?_
        refine run_split 14 (decide (g.Count < 0)) (.inr (by kernel_rfl)) (fun g4902 => ?_) (fun g4902 => ?_)
        · refine rs 5 [] [] (by kernel_rfl) allP_nil ?_
          refine rf [(1, .ptr 0 0), (2, .ptr 1 0), (3, .ptr 2 0), (19, bS true)] [(0, .row 67 (Enc.cells g)), (1, .row 29 [iS 0, iS 0]), (2, .row 29 (Enc.cells r4891))] 3 (by kernel_rfl) ?_
          exact hK4900 () _ _ _ trivial (leSt_m [(0, 0), (1, 1), (2, 2)] [] (by (try simp only [g4901, g4902]) <;> simp only [push_cast, seval]) (by (try simp only [g4901, g4902]) <;> simp only [push_cast, seval]) rfl rfl rfl)
        · refine rs 5 [] [] (by kernel_rfl) allP_nil ?_
          refine rf [(1, .ptr 0 0), (2, .ptr 1 0), (3, .ptr 2 0), (19, bS (decide ((1000000000 : Int) < g.Count)))] [(0, .row 67 (Enc.cells g)), (1, .row 29 [iS 0, iS 0]), (2, .row 29 (Enc.cells r4891))] 3 (by kernel_rfl) ?_
          exact hK4900 () _ _ _ trivial (leSt_m [(0, 0), (1, 1), (2, 2)] [] (by (try simp only [g4901, g4902]) <;> simp only [push_cast, seval]) (by (try simp only [g4901, g4902]) <;> simp only [push_cast, seval]) rfl rfl rfl)
      · refine rs 9 [] [] (by kernel_rfl) allP_nil ?_
        refine rf [(1, .ptr 0 0), (2, .ptr 1 0), (3, .ptr 2 0), (19, bS false)] [(0, .row 67 (Enc.cells g)), (1, .row 29 [iS 0, iS 0]), (2, .row 29 (Enc.cells r4891))] 3 (by kernel_rfl) ?_
        exact hK4900 () _ _ _ trivial (leSt_m [(0, 0), (1, 1), (2, 2)] [] (by (try simp only [g4901]) <;> simp only [push_cast, seval]) (by (try simp only [g4901]) <;> simp only [push_cast, seval]) rfl rfl rfl)
    · dsimp only
      refine cond_sx h (by kernel_rfl) (fun g4905 h => ?_) (fun g4905 h => ?_)
      · refine reg_f ?_
        obtain ⟨r4904, hr4904, h⟩ := bind_sx h
        refine run_call 19 [iS 3, iS 0] (some 20) (by kernel_rfl) ?_
        refine call_0 (taskmillref_F_spec 3 0 r4904 hr4904) (by simp only [push_cast, seval]) (by simp only [push_cast, seval]) ?_
        refine back_f ?_
        refine rs 1 [] [] (by kernel_rfl) allP_nil ?_
        refine rf [(1, .ptr 0 0), (2, .ptr 1 0), (3, .ptr 2 0)] [(0, .row 67 (Enc.cells g)), (1, .row 29 [iS 0, iS 0]), (2, .row 29 (Enc.cells r4904))] 3 (by kernel_rfl) ?_
        exact hK4897 (r4904) _ _ _ h (leSt_m [(0, 0), (1, 1), (2, 2)] [] (by simp only [push_cast, seval]) (by simp only [push_cast, seval]) rfl rfl rfl)
      · exact hK4897 (r4891) _ _ _ h (leSt_m [(0, 0), (1, 1), (2, 2)] [] (by simp only [push_cast, seval]) (by simp only [push_cast, seval]) rfl rfl rfl)
  · rintro c2q1 h
    try dsimp only at h ⊢
    unfold taskmillref_GroupFault_j2 at h
    refine seq_cut (A := Fault) (fun a => ([(2, .ptr 0 0), (3, .ptr 1 0)], [(0, .row 29 [iS 0, iS 0]), (1, .row 29 (Enc.cells a))], 2)) (fun a => (taskmillref_GroupFault_j1 a) = some r) (fun K4911 hK4911 => ?_) ?_
    · refine seq_cut (A := Unit) (fun _ => ([(2, .ptr 1 0), (3, .ptr 2 0), (34, bS ((c2q1.Code == 0) && ((g.Count == 0) && (decide ((0 : Int) < ((g.Line.length : Nat) : Int))))))], [(0, .row 67 (Enc.cells g)), (1, .row 29 [iS 0, iS 0]), (2, .row 29 (Enc.cells c2q1))], 3)) (fun _ => True) (fun K4914 hK4914 => ?_) (fun _ _ => ?_)
      · refine reg_f ?_
        refine rs 4 [] [] (by kernel_rfl) allP_nil ?_
        refine run_split 24 (c2q1.Code == 0) (.inl (by kernel_rfl)) (fun g4915 => ?_) (fun g4915 => ?_)
        · refine rs 5 [] [] (by kernel_rfl) allP_nil ?_
          refine run_split 29 (g.Count == 0) (.inl (by kernel_rfl)) (fun g4916 => ?_) (fun g4916 => ?_)
          · refine rs 5 [] [] (by kernel_rfl) allP_nil ?_
            refine rf [(2, .ptr 1 0), (3, .ptr 2 0), (34, bS (decide ((0 : Int) < ((g.Line.length : Nat) : Int))))] [(0, .row 67 (Enc.cells g)), (1, .row 29 [iS 0, iS 0]), (2, .row 29 (Enc.cells c2q1))] 3 (by kernel_rfl) ?_
            exact hK4914 () _ _ _ trivial (leSt_m [(0, 0), (1, 1), (2, 2)] [] (by (try simp only [g4915, g4916]) <;> simp only [push_cast, seval]) (by (try simp only [g4915, g4916]) <;> simp only [push_cast, seval]) rfl rfl rfl)
          · refine rs 5 [] [] (by kernel_rfl) allP_nil ?_
            refine rf [(2, .ptr 1 0), (3, .ptr 2 0), (34, bS false)] [(0, .row 67 (Enc.cells g)), (1, .row 29 [iS 0, iS 0]), (2, .row 29 (Enc.cells c2q1))] 3 (by kernel_rfl) ?_
            exact hK4914 () _ _ _ trivial (leSt_m [(0, 0), (1, 1), (2, 2)] [] (by (try simp only [g4915, g4916]) <;> simp only [push_cast, seval]) (by (try simp only [g4915, g4916]) <;> simp only [push_cast, seval]) rfl rfl rfl)
        · refine rs 10 [] [] (by kernel_rfl) allP_nil ?_
          refine rf [(2, .ptr 1 0), (3, .ptr 2 0), (34, bS false)] [(0, .row 67 (Enc.cells g)), (1, .row 29 [iS 0, iS 0]), (2, .row 29 (Enc.cells c2q1))] 3 (by kernel_rfl) ?_
          exact hK4914 () _ _ _ trivial (leSt_m [(0, 0), (1, 1), (2, 2)] [] (by (try simp only [g4915]) <;> simp only [push_cast, seval]) (by (try simp only [g4915]) <;> simp only [push_cast, seval]) rfl rfl rfl)
      · dsimp only
        refine cond_sx h (by kernel_rfl) (fun g4919 h => ?_) (fun g4919 h => ?_)
        · refine reg_f ?_
          obtain ⟨r4918, hr4918, h⟩ := bind_sx h
          refine run_call 19 [iS 5, iS 0] (some 35) (by kernel_rfl) ?_
          refine call_0 (taskmillref_F_spec 5 0 r4918 hr4918) (by simp only [push_cast, seval]) (by simp only [push_cast, seval]) ?_
          refine back_f ?_
          refine rs 1 [] [] (by kernel_rfl) allP_nil ?_
          refine rf [(2, .ptr 1 0), (3, .ptr 2 0)] [(0, .row 67 (Enc.cells g)), (1, .row 29 [iS 0, iS 0]), (2, .row 29 (Enc.cells r4918))] 3 (by kernel_rfl) ?_
          exact hK4911 (r4918) _ _ _ h (leSt_m [(0, 1), (1, 2)] [] (by simp only [push_cast, seval]) (by simp only [push_cast, seval]) rfl rfl rfl)
        · exact hK4911 (c2q1) _ _ _ h (leSt_m [(0, 1), (1, 2)] [] (by simp only [push_cast, seval]) (by simp only [push_cast, seval]) rfl rfl rfl)
    · rintro c1q1 h
      try dsimp only at h ⊢
      unfold taskmillref_GroupFault_j1 at h
      refine seq_np ?_
      refine reg_f ?_
      refine rs 2 [] [] (by kernel_rfl) allP_nil ?_
      refine rf [(2, .ptr 0 0)] [(0, .row 29 (Enc.cells c1q1)), (1, .row 29 (Enc.cells c1q1))] 2 (by kernel_rfl) ?_
      refine wk_id ?_
      obtain rfl := Option.some.inj h
      refine ret_at (.agg (Enc.cells c1q1)) (by kernel_rfl) ?_
      exact ret_e [] [] (by simp only [push_cast, seval]) (by simp only [push_cast, seval]) rfl rfl rfl

set_option maxRecDepth 100000 in
set_option maxHeartbeats 10000000 in
theorem taskmilllaw_sameGroup_spec (xa : Group) (b : Group) (r : Bool) (h : taskmilllaw_sameGroup xa b = some r) : SpecW Try.prog 36 [.agg (Enc.cells xa), .agg (Enc.cells b)] [] 0 (fun x h n => x = bS r ∧ h = [] ∧ n = 0) := by
  unfold taskmilllaw_sameGroup at h
  refine spec_of (draw_ok _) Try.func36 rfl (by decide) rfl (by kernel_rfl) ?_
  refine seq_np ?_
  refine reg_f ?_
  refine rs 3 [] [] (by kernel_rfl) allP_nil ?_
  refine rf [(2, .ptr 0 0), (3, .ptr 1 0)] [(0, .row 67 (Enc.cells xa)), (1, .row 67 (Enc.cells b))] 2 (by kernel_rfl) ?_
  refine wk_id ?_
  refine seq_cut (A := Bool) (fun a => ([(4, bS a)], [], 0)) (fun a => (taskmilllaw_sameGroup_j1 a) = some r) (fun K4928 hK4928 => ?_) ?_
  · refine reg_f ?_
    refine rs 6 [] [] (by kernel_rfl) allP_nil ?_
    refine run_br h 10 (.inl (by kernel_rfl)) (fun g4929 h => ?_) (fun g4929 h => ?_)
    · refine rs 4 [] [] (by kernel_rfl) allP_nil ?_
      obtain ⟨r4930, hr4930, h⟩ := bind_sx h
      refine run_call 23 [.sl xa.Line.length (fl xa.Line), .sl b.Line.length (fl b.Line)] (some 15) (by kernel_rfl) ?_
      refine call_0 (taskmillref_Ints_spec xa.Line b.Line r4930 hr4930) (by simp only [push_cast, seval]) (by simp only [push_cast, seval]) ?_
      refine back_f ?_
      refine rs 2 [] [] (by kernel_rfl) allP_nil ?_
      refine rf [(4, bS r4930)] [(0, .row 67 (Enc.cells xa)), (1, .row 67 (Enc.cells b))] 2 (by kernel_rfl) ?_
      exact hK4928 (r4930) _ _ _ h (leSt_m [] [] (by (try simp only [g4929]) <;> simp only [push_cast, seval]) (by (try simp only [g4929]) <;> simp only [push_cast, seval]) rfl rfl rfl)
    · refine rs 7 [] [] (by kernel_rfl) allP_nil ?_
      refine rf [(4, bS false)] [(0, .row 67 (Enc.cells xa)), (1, .row 67 (Enc.cells b))] 2 (by kernel_rfl) ?_
      exact hK4928 (false) _ _ _ h (leSt_m [] [] (by (try simp only [g4929]) <;> simp only [push_cast, seval]) (by (try simp only [g4929]) <;> simp only [push_cast, seval]) rfl rfl rfl)
  · rintro t4q1 h
    try dsimp only at h ⊢
    unfold taskmilllaw_sameGroup_j1 at h
    obtain rfl := Option.some.inj h
    refine ret_at (bS t4q1) (by kernel_rfl) ?_
    exact ret_e [] [] (by simp only [push_cast, seval]) (by simp only [push_cast, seval]) rfl rfl rfl

set_option maxRecDepth 100000 in
set_option maxHeartbeats 10000000 in
theorem taskmilllaw_SyncGroups_spec (g : Group) (n : Int) (task : Int) (r : Bool) (h : taskmilllaw_SyncGroups g n task = some r) : SpecW Try.prog 10 [.agg (Enc.cells g), iS n, iS task] [] 0 (fun x h n => x = bS r ∧ h = [] ∧ n = 0) := by
  unfold taskmilllaw_SyncGroups at h
  refine spec_of (draw_ok _) Try.func10 rfl (by decide) rfl (by kernel_rfl) ?_
  refine seq_np ?_
  refine reg_f ?_
  refine rs 2 [] [] (by kernel_rfl) allP_nil ?_
  refine rf [(1, iS n), (2, iS task), (3, .ptr 0 0)] [(0, .row 67 (Enc.cells g))] 1 (by kernel_rfl) ?_
  refine wk_id ?_
  refine seq_np ?_
  refine seq_np ?_
  refine reg_f ?_
  obtain ⟨r4997, hr4997, h⟩ := bind_sx h
  refine run_call 12 [] (some 17) (by kernel_rfl) ?_
  refine call_0 (taskmilllaw_syncBegun_spec r4997 hr4997) (by simp only [push_cast, seval]) (by simp only [push_cast, seval]) ?_
  refine back_f ?_
  refine rs 1 [] [] (by kernel_rfl) allP_nil ?_
  refine rf [(1, iS n), (2, iS task), (3, .ptr 0 0), (18, bS (!r4997))] [(0, .row 67 (Enc.cells g))] 1 (by kernel_rfl) ?_
  refine wk_id ?_
  refine cond_sx h (by kernel_rfl) (fun g5184 h => ?_) (fun g5184 h => ?_)
  · refine seq_np ?_
    refine reg_f ?_
    refine rs 1 [] [] (by kernel_rfl) allP_nil ?_
    refine rf [(6, bS false)] [(0, .row 67 (Enc.cells g))] 1 (by kernel_rfl) ?_
    refine wk_id ?_
    obtain rfl := Option.some.inj h
    refine ret_at (bS false) (by kernel_rfl) ?_
    exact ret_e [] [] (by simp only [push_cast, seval]) (by simp only [push_cast, seval]) rfl rfl rfl
  · refine wk_id ?_
    refine seq_np ?_
    refine seq_np ?_
    refine reg_f ?_
    refine rs 3 [] [] (by kernel_rfl) allP_nil ?_
    obtain ⟨r5001, hr5001, h⟩ := bind_sx h
    refine run_call 13 [iS ((g.Line.length : Nat) : Int)] (some 22) (by kernel_rfl) ?_
    refine call_0 (taskmilllaw_long_spec ((g.Line.length : Nat) : Int) r5001 hr5001) (by simp only [push_cast, seval]) (by simp only [push_cast, seval]) ?_
    refine back_f ?_
    refine rf [(1, iS n), (2, iS task), (3, .ptr 0 0), (22, bS r5001)] [(0, .row 67 (Enc.cells g))] 1 (by kernel_rfl) ?_
    refine wk_id ?_
    refine cond_sx h (by kernel_rfl) (fun g5183 h => ?_) (fun g5183 h => ?_)
    · refine seq_np ?_
      refine reg_f ?_
      refine rs 1 [] [] (by kernel_rfl) allP_nil ?_
      refine rf [(6, bS true)] [(0, .row 67 (Enc.cells g))] 1 (by kernel_rfl) ?_
      refine wk_id ?_
      obtain rfl := Option.some.inj h
      refine ret_at (bS true) (by kernel_rfl) ?_
      exact ret_e [] [] (by simp only [push_cast, seval]) (by simp only [push_cast, seval]) rfl rfl rfl
    · refine wk_id ?_
      refine seq_np ?_
      refine reg_t ?_
      refine rs 4 [] [] (by kernel_rfl) allP_nil ?_
      obtain ⟨r5003, hr5003, h⟩ := bind_sx h
      refine call_x (taskmilllaw_own_spec g.Line r5003 hr5003) (args := [.sl g.Line.length (fl g.Line)]) (dst := (some 27)) (by kernel_rfl) [(0, .row 67 (Enc.cells g))] 5 (by kernel_rfl) [] [] (.own 5 0 r5003.length) [(5, .row 3 (fl r5003))] (by simp only [push_cast, seval]) (by simp only [push_cast, seval]) (by kernel_rfl) (.inl rfl) (by simp only [push_cast, seval]) (by simp only [push_cast, seval]) ?_
      refine rs 3 [] [] (by kernel_rfl) allP_nil ?_
      refine rt [(1, iS n), (2, iS task), (3, .ptr 0 0), (7, .ptr 8 0)] [(0, .row 67 (Enc.cells g)), (5, .row 3 (fl r5003)), (8, .row 67 [iS g.Count, .own 5 0 r5003.length])] 11 follows (by kernel_rfl) ?_
      refine wk_id ?_
      refine seq_np ?_
      refine reg_f ?_
      refine rs 2 [] [] (by kernel_rfl) allP_nil ?_
      obtain ⟨r5005, hr5005, h⟩ := bind_sx h
      refine call_x (sync_Add_spec (Group.mk g.Count r5003) n r5005 hr5005) (args := [.agg [iS g.Count, .own 5 0 r5003.length], iS n]) (dst := (some 32)) (by kernel_rfl) [(0, .row 67 (Enc.cells g)), (5, .row 3 (fl r5003)), (8, .row 67 [iS g.Count, .own 5 0 r5003.length])] 11 (by kernel_rfl) [] [5] (.tup [.agg [iS r5005.1, .own 11 0 r5005.2.2.2.1.length], .own 12 0 r5005.2.2.2.2.length, bS r5005.2.1, .agg (Enc.cells r5005.2.2.1)]) [(11, .row 3 (fl r5005.2.2.2.1)), (12, .row 3 (fl r5005.2.2.2.2))] (by simp only [push_cast, seval]) (by simp only [push_cast, seval]) (by kernel_rfl) (.inr ⟨by simp only [push_cast, seval], by simp only [push_cast, seval]⟩) (by simp only [push_cast, seval]) (by simp only [push_cast, seval]) ?_
      refine rs 11 [] [] (by kernel_rfl) allP_nil ?_
      refine rf [(1, iS n), (2, iS task), (3, .ptr 0 0), (7, .ptr 8 0), (8, .ptr 13 0), (9, .own 12 0 r5005.2.2.2.2.length), (10, bS r5005.2.1), (11, .ptr 14 0)] [(0, .row 67 (Enc.cells g)), (5, .row 3 (fl r5003)), (8, .row 67 [iS g.Count, .own 5 0 r5003.length]), (11, .row 3 (fl r5005.2.2.2.1)), (12, .row 3 (fl r5005.2.2.2.2)), (13, .row 67 [iS r5005.1, .own 11 0 r5005.2.2.2.1.length]), (14, .row 29 (Enc.cells r5005.2.2.1))] 15 (by kernel_rfl) ?_
      refine wk_id ?_
      refine seq_np ?_
      refine reg_f ?_
      refine rs 2 [] [] (by kernel_rfl) allP_nil ?_
      obtain ⟨r5007, hr5007, h⟩ := bind_sx h
      refine call_x (sync_Await_spec (Group.mk g.Count r5003) task r5007 hr5007) (args := [.agg [iS g.Count, .own 5 0 r5003.length], iS task]) (dst := (some 40)) (by kernel_rfl) [(0, .row 67 (Enc.cells g)), (5, .row 3 (fl r5003)), (8, .row 67 [iS g.Count, .own 5 0 r5003.length]), (11, .row 3 (fl r5005.2.2.2.1)), (12, .row 3 (fl r5005.2.2.2.2)), (13, .row 67 [iS r5005.1, .own 11 0 r5005.2.2.2.1.length]), (14, .row 29 (Enc.cells r5005.2.2.1))] 15 (by kernel_rfl) [] [5] (.tup [.agg [iS r5007.1, .own 15 0 r5007.2.2.2.length], bS r5007.2.1, .agg (Enc.cells r5007.2.2.1)]) [(15, .row 3 (fl r5007.2.2.2))] (by simp only [push_cast, seval]) (by simp only [push_cast, seval]) (by kernel_rfl) (.inr ⟨by simp only [push_cast, seval], by simp only [push_cast, seval]⟩) (by simp only [push_cast, seval]) (by simp only [push_cast, seval]) ?_
      refine rs 9 [] [] (by kernel_rfl) allP_nil ?_
      refine rf [(1, iS n), (2, iS task), (3, .ptr 0 0), (7, .ptr 8 0), (8, .ptr 13 0), (9, .own 12 0 r5005.2.2.2.2.length), (10, bS r5005.2.1), (11, .ptr 14 0), (12, .ptr 16 0), (13, bS r5007.2.1), (14, .ptr 17 0)] [(0, .row 67 (Enc.cells g)), (5, .row 3 (fl r5003)), (8, .row 67 [iS g.Count, .own 5 0 r5003.length]), (11, .row 3 (fl r5005.2.2.2.1)), (12, .row 3 (fl r5005.2.2.2.2)), (13, .row 67 [iS r5005.1, .own 11 0 r5005.2.2.2.1.length]), (14, .row 29 (Enc.cells r5005.2.2.1)), (15, .row 3 (fl r5007.2.2.2)), (16, .row 67 [iS r5007.1, .own 15 0 r5007.2.2.2.length]), (17, .row 29 (Enc.cells r5007.2.2.1))] 18 (by kernel_rfl) ?_
      refine wk_id ?_
      refine seq_np ?_
      refine reg_f ?_
      refine rs 1 [] [] (by kernel_rfl) allP_nil ?_
      obtain ⟨r5009, hr5009, h⟩ := bind_sx h
      refine run_call 35 [.agg (Enc.cells g)] (some 45) (by kernel_rfl) ?_
      refine call_0 (taskmillref_GroupFault_spec g r5009 hr5009) (by simp only [push_cast, seval]) (by simp only [push_cast, seval]) ?_
      refine back_f ?_
      refine rs 2 [] [] (by kernel_rfl) allP_nil ?_
      refine rf [(1, iS n), (2, iS task), (3, .ptr 0 0), (7, .ptr 8 0), (8, .ptr 13 0), (9, .own 12 0 r5005.2.2.2.2.length), (10, bS r5005.2.1), (11, .ptr 14 0), (12, .ptr 16 0), (13, bS r5007.2.1), (14, .ptr 17 0), (15, .ptr 18 0)] [(0, .row 67 (Enc.cells g)), (5, .row 3 (fl r5003)), (8, .row 67 [iS g.Count, .own 5 0 r5003.length]), (11, .row 3 (fl r5005.2.2.2.1)), (12, .row 3 (fl r5005.2.2.2.2)), (13, .row 67 [iS r5005.1, .own 11 0 r5005.2.2.2.1.length]), (14, .row 29 (Enc.cells r5005.2.2.1)), (15, .row 3 (fl r5007.2.2.2)), (16, .row 67 [iS r5007.1, .own 15 0 r5007.2.2.2.length]), (17, .row 29 (Enc.cells r5007.2.2.1)), (18, .row 29 (Enc.cells r5009))] 19 (by kernel_rfl) ?_
      refine wk_id ?_
      refine seq_np ?_
      refine seq_np ?_
      refine reg_f ?_
      refine rs 2 [] [] (by kernel_rfl) allP_nil ?_
      obtain ⟨r5013, hr5013, h⟩ := bind_sx h
      refine call_x (taskmilllaw_sameGroup_spec (Group.mk g.Count r5003) g r5013 hr5013) (args := [.agg [iS g.Count, .own 5 0 r5003.length], .agg (Enc.cells g)]) (dst := (some 48)) (by kernel_rfl) [(0, .row 67 (Enc.cells g)), (5, .row 3 (fl r5003)), (8, .row 67 [iS g.Count, .own 5 0 r5003.length]), (11, .row 3 (fl r5005.2.2.2.1)), (12, .row 3 (fl r5005.2.2.2.2)), (13, .row 67 [iS r5005.1, .own 11 0 r5005.2.2.2.1.length]), (14, .row 29 (Enc.cells r5005.2.2.1)), (15, .row 3 (fl r5007.2.2.2)), (16, .row 67 [iS r5007.1, .own 15 0 r5007.2.2.2.length]), (17, .row 29 (Enc.cells r5007.2.2.1)), (18, .row 29 (Enc.cells r5009))] 19 (by kernel_rfl) [] [5] (bS r5013) [] (by simp only [push_cast, seval]) (by simp only [push_cast, seval]) (by kernel_rfl) (.inr ⟨by simp only [push_cast, seval], by simp only [push_cast, seval]⟩) (by simp only [push_cast, seval]) (by simp only [push_cast, seval]) ?_
      refine rs 1 [] [] (by kernel_rfl) allP_nil ?_
      refine rf [(1, iS n), (2, iS task), (3, .ptr 0 0), (8, .ptr 13 0), (9, .own 12 0 r5005.2.2.2.2.length), (10, bS r5005.2.1), (11, .ptr 14 0), (12, .ptr 16 0), (13, bS r5007.2.1), (14, .ptr 17 0), (15, .ptr 18 0), (49, bS (!r5013))] [(0, .row 67 (Enc.cells g)), (5, .row 3 (fl r5003)), (8, .row 67 [iS g.Count, .own 5 0 r5003.length]), (11, .row 3 (fl r5005.2.2.2.1)), (12, .row 3 (fl r5005.2.2.2.2)), (13, .row 67 [iS r5005.1, .own 11 0 r5005.2.2.2.1.length]), (14, .row 29 (Enc.cells r5005.2.2.1)), (15, .row 3 (fl r5007.2.2.2)), (16, .row 67 [iS r5007.1, .own 15 0 r5007.2.2.2.length]), (17, .row 29 (Enc.cells r5007.2.2.1)), (18, .row 29 (Enc.cells r5009))] 19 (by kernel_rfl) ?_
      refine wk_id ?_
      refine cond_sx h (by kernel_rfl) (fun g5182 h => ?_) (fun g5182 h => ?_)
      · refine seq_np ?_
        refine reg_f ?_
        refine rs 1 [] [] (by kernel_rfl) allP_nil ?_
        refine rf [(6, bS false)] [(0, .row 67 (Enc.cells g)), (5, .row 3 (fl r5003)), (8, .row 67 [iS g.Count, .own 5 0 r5003.length]), (11, .row 3 (fl r5005.2.2.2.1)), (12, .row 3 (fl r5005.2.2.2.2)), (13, .row 67 [iS r5005.1, .own 11 0 r5005.2.2.2.1.length]), (14, .row 29 (Enc.cells r5005.2.2.1)), (15, .row 3 (fl r5007.2.2.2)), (16, .row 67 [iS r5007.1, .own 15 0 r5007.2.2.2.length]), (17, .row 29 (Enc.cells r5007.2.2.1)), (18, .row 29 (Enc.cells r5009))] 19 (by kernel_rfl) ?_
        refine wk_id ?_
        obtain rfl := Option.some.inj h
        refine ret_at (bS false) (by kernel_rfl) ?_
        exact ret_e [] [] (by simp only [push_cast, seval]) (by simp only [push_cast, seval]) rfl rfl rfl
      · refine wk_id ?_
        refine seq_np ?_
        refine reg_f ?_
        refine rs 3 [] [] (by kernel_rfl) allP_nil ?_
        refine rf [(1, iS n), (2, iS task), (3, .ptr 0 0), (8, .ptr 13 0), (9, .own 12 0 r5005.2.2.2.2.length), (10, bS r5005.2.1), (11, .ptr 14 0), (12, .ptr 16 0), (13, bS r5007.2.1), (14, .ptr 17 0), (15, .ptr 18 0), (16, .ptr 19 0)] [(0, .row 67 (Enc.cells g)), (5, .row 3 (fl r5003)), (8, .row 67 [iS g.Count, .own 5 0 r5003.length]), (11, .row 3 (fl r5005.2.2.2.1)), (12, .row 3 (fl r5005.2.2.2.2)), (13, .row 67 [iS r5005.1, .own 11 0 r5005.2.2.2.1.length]), (14, .row 29 (Enc.cells r5005.2.2.1)), (15, .row 3 (fl r5007.2.2.2)), (16, .row 67 [iS r5007.1, .own 15 0 r5007.2.2.2.length]), (17, .row 29 (Enc.cells r5007.2.2.1)), (18, .row 29 (Enc.cells r5009)), (19, .row 29 (Enc.cells r5009))] 20 (by kernel_rfl) ?_
        refine wk_id ?_
        refine seq_cut (A := Bool × Bool × Int × (List Int) × Fault × Int × Fault × Fault × Fault × (List Int) × (List Int)) (fun a => ([(1, iS n), (2, iS task), (3, .ptr 0 0), (8, .ptr 1 0), (9, .own 2 0 a.2.2.2.1.length), (10, bS a.1), (11, .ptr 3 0), (12, .ptr 4 0), (13, bS a.2.1), (14, .ptr 5 0), (15, .ptr 6 0), (16, .ptr 7 0)], [(0, .row 67 (Enc.cells g)), (1, .row 67 [iS a.2.2.1, .own 8 0 a.2.2.2.2.2.2.2.2.2.1.length]), (2, .row 3 (fl a.2.2.2.1)), (3, .row 29 (Enc.cells a.2.2.2.2.1)), (4, .row 67 [iS a.2.2.2.2.2.1, .own 9 0 a.2.2.2.2.2.2.2.2.2.2.length]), (5, .row 29 (Enc.cells a.2.2.2.2.2.2.1)), (6, .row 29 (Enc.cells a.2.2.2.2.2.2.2.1)), (7, .row 29 (Enc.cells a.2.2.2.2.2.2.2.2.1)), (8, .row 3 (fl a.2.2.2.2.2.2.2.2.2.1)), (9, .row 3 (fl a.2.2.2.2.2.2.2.2.2.2))], 10)) (fun a => (taskmilllaw_SyncGroups_j10 g n task a.1 a.2.1 a.2.2.1 a.2.2.2.1 a.2.2.2.2.1 a.2.2.2.2.2.1 a.2.2.2.2.2.2.1 a.2.2.2.2.2.2.2.1 a.2.2.2.2.2.2.2.2.1 a.2.2.2.2.2.2.2.2.2.1 a.2.2.2.2.2.2.2.2.2.2) = some r) (fun K5019 hK5019 => ?_) ?_
        · refine seq_cut (A := Unit) (fun _ => ([(1, iS n), (2, iS task), (3, .ptr 0 0), (8, .ptr 13 0), (9, .own 12 0 r5005.2.2.2.2.length), (10, bS r5005.2.1), (11, .ptr 14 0), (12, .ptr 16 0), (13, bS r5007.2.1), (14, .ptr 17 0), (15, .ptr 18 0), (16, .ptr 19 0), (61, bS ((r5009.Code == 0) && ((decide (n < (-1000000000))) || (decide ((1000000000 : Int) < n)))))], [(0, .row 67 (Enc.cells g)), (5, .row 3 (fl r5003)), (8, .row 67 [iS g.Count, .own 5 0 r5003.length]), (11, .row 3 (fl r5005.2.2.2.1)), (12, .row 3 (fl r5005.2.2.2.2)), (13, .row 67 [iS r5005.1, .own 11 0 r5005.2.2.2.1.length]), (14, .row 29 (Enc.cells r5005.2.2.1)), (15, .row 3 (fl r5007.2.2.2)), (16, .row 67 [iS r5007.1, .own 15 0 r5007.2.2.2.length]), (17, .row 29 (Enc.cells r5007.2.2.1)), (18, .row 29 (Enc.cells r5009)), (19, .row 29 (Enc.cells r5009))], 20)) (fun _ => True) (fun K5022 hK5022 => ?_) (fun _ _ => ?_)
          · refine reg_f ?_
            refine rs 4 [] [] (by kernel_rfl) allP_nil ?_
            refine run_split 54 (r5009.Code == 0) (.inl (by kernel_rfl)) (fun g5023 => ?_) (fun g5023 => ?_)
            · refine rs 3 [] [] (by kernel_rfl) allP_nil ?_
              refine run_split 57 (decide (n < (-1000000000))) (.inr (by kernel_rfl)) (fun g5024 => ?_) (fun g5024 => ?_)
              · refine rs 4 [] [] (by kernel_rfl) allP_nil ?_
                refine rf [(1, iS n), (2, iS task), (3, .ptr 0 0), (8, .ptr 13 0), (9, .own 12 0 r5005.2.2.2.2.length), (10, bS r5005.2.1), (11, .ptr 14 0), (12, .ptr 16 0), (13, bS r5007.2.1), (14, .ptr 17 0), (15, .ptr 18 0), (16, .ptr 19 0), (61, bS true)] [(0, .row 67 (Enc.cells g)), (5, .row 3 (fl r5003)), (8, .row 67 [iS g.Count, .own 5 0 r5003.length]), (11, .row 3 (fl r5005.2.2.2.1)), (12, .row 3 (fl r5005.2.2.2.2)), (13, .row 67 [iS r5005.1, .own 11 0 r5005.2.2.2.1.length]), (14, .row 29 (Enc.cells r5005.2.2.1)), (15, .row 3 (fl r5007.2.2.2)), (16, .row 67 [iS r5007.1, .own 15 0 r5007.2.2.2.length]), (17, .row 29 (Enc.cells r5007.2.2.1)), (18, .row 29 (Enc.cells r5009)), (19, .row 29 (Enc.cells r5009))] 20 (by kernel_rfl) ?_
                exact hK5022 () _ _ _ trivial (leSt_m [(0, 0), (5, 5), (8, 8), (11, 11), (12, 12), (13, 13), (14, 14), (15, 15), (16, 16), (17, 17), (18, 18), (19, 19)] [] (by (try simp only [g5023, g5024]) <;> simp only [push_cast, seval]) (by (try simp only [g5023, g5024]) <;> simp only [push_cast, seval]) rfl rfl rfl)
              · refine rs 4 [] [] (by kernel_rfl) allP_nil ?_
                refine rf [(1, iS n), (2, iS task), (3, .ptr 0 0), (8, .ptr 13 0), (9, .own 12 0 r5005.2.2.2.2.length), (10, bS r5005.2.1), (11, .ptr 14 0), (12, .ptr 16 0), (13, bS r5007.2.1), (14, .ptr 17 0), (15, .ptr 18 0), (16, .ptr 19 0), (61, bS (decide ((1000000000 : Int) < n)))] [(0, .row 67 (Enc.cells g)), (5, .row 3 (fl r5003)), (8, .row 67 [iS g.Count, .own 5 0 r5003.length]), (11, .row 3 (fl r5005.2.2.2.1)), (12, .row 3 (fl r5005.2.2.2.2)), (13, .row 67 [iS r5005.1, .own 11 0 r5005.2.2.2.1.length]), (14, .row 29 (Enc.cells r5005.2.2.1)), (15, .row 3 (fl r5007.2.2.2)), (16, .row 67 [iS r5007.1, .own 15 0 r5007.2.2.2.length]), (17, .row 29 (Enc.cells r5007.2.2.1)), (18, .row 29 (Enc.cells r5009)), (19, .row 29 (Enc.cells r5009))] 20 (by kernel_rfl) ?_
                exact hK5022 () _ _ _ trivial (leSt_m [(0, 0), (5, 5), (8, 8), (11, 11), (12, 12), (13, 13), (14, 14), (15, 15), (16, 16), (17, 17), (18, 18), (19, 19)] [] (by (try simp only [g5023, g5024]) <;> simp only [push_cast, seval]) (by (try simp only [g5023, g5024]) <;> simp only [push_cast, seval]) rfl rfl rfl)
            · refine rs 7 [] [] (by kernel_rfl) allP_nil ?_
              refine rf [(1, iS n), (2, iS task), (3, .ptr 0 0), (8, .ptr 13 0), (9, .own 12 0 r5005.2.2.2.2.length), (10, bS r5005.2.1), (11, .ptr 14 0), (12, .ptr 16 0), (13, bS r5007.2.1), (14, .ptr 17 0), (15, .ptr 18 0), (16, .ptr 19 0), (61, bS false)] [(0, .row 67 (Enc.cells g)), (5, .row 3 (fl r5003)), (8, .row 67 [iS g.Count, .own 5 0 r5003.length]), (11, .row 3 (fl r5005.2.2.2.1)), (12, .row 3 (fl r5005.2.2.2.2)), (13, .row 67 [iS r5005.1, .own 11 0 r5005.2.2.2.1.length]), (14, .row 29 (Enc.cells r5005.2.2.1)), (15, .row 3 (fl r5007.2.2.2)), (16, .row 67 [iS r5007.1, .own 15 0 r5007.2.2.2.length]), (17, .row 29 (Enc.cells r5007.2.2.1)), (18, .row 29 (Enc.cells r5009)), (19, .row 29 (Enc.cells r5009))] 20 (by kernel_rfl) ?_
              exact hK5022 () _ _ _ trivial (leSt_m [(0, 0), (5, 5), (8, 8), (11, 11), (12, 12), (13, 13), (14, 14), (15, 15), (16, 16), (17, 17), (18, 18), (19, 19)] [] (by (try simp only [g5023]) <;> simp only [push_cast, seval]) (by (try simp only [g5023]) <;> simp only [push_cast, seval]) rfl rfl rfl)
          · dsimp only
            refine cond_sx h (by kernel_rfl) (fun g5027 h => ?_) (fun g5027 h => ?_)
            · refine reg_f ?_
              obtain ⟨r5026, hr5026, h⟩ := bind_sx h
              refine run_call 19 [iS 3, iS (-1)] (some 62) (by kernel_rfl) ?_
              refine call_0 (taskmillref_F_spec 3 (-1) r5026 hr5026) (by simp only [push_cast, seval]) (by simp only [push_cast, seval]) ?_
              refine back_f ?_
              refine rs 1 [] [] (by kernel_rfl) allP_nil ?_
              refine rf [(1, iS n), (2, iS task), (3, .ptr 0 0), (8, .ptr 13 0), (9, .own 12 0 r5005.2.2.2.2.length), (10, bS r5005.2.1), (11, .ptr 14 0), (12, .ptr 16 0), (13, bS r5007.2.1), (14, .ptr 17 0), (15, .ptr 18 0), (16, .ptr 19 0)] [(0, .row 67 (Enc.cells g)), (5, .row 3 (fl r5003)), (8, .row 67 [iS g.Count, .own 5 0 r5003.length]), (11, .row 3 (fl r5005.2.2.2.1)), (12, .row 3 (fl r5005.2.2.2.2)), (13, .row 67 [iS r5005.1, .own 11 0 r5005.2.2.2.1.length]), (14, .row 29 (Enc.cells r5005.2.2.1)), (15, .row 3 (fl r5007.2.2.2)), (16, .row 67 [iS r5007.1, .own 15 0 r5007.2.2.2.length]), (17, .row 29 (Enc.cells r5007.2.2.1)), (18, .row 29 (Enc.cells r5009)), (19, .row 29 (Enc.cells r5026))] 20 (by kernel_rfl) ?_
              exact hK5019 (r5005.2.1, r5007.2.1, r5005.1, r5005.2.2.2.2, r5005.2.2.1, r5007.1, r5007.2.2.1, r5009, r5026, r5005.2.2.2.1, r5007.2.2.2) _ _ _ h (leSt_m [(0, 0), (1, 13), (2, 12), (3, 14), (4, 16), (5, 17), (6, 18), (7, 19), (8, 11), (9, 15)] [] (by simp only [push_cast, seval]) (by simp only [push_cast, seval]) rfl rfl rfl)
            · exact hK5019 (r5005.2.1, r5007.2.1, r5005.1, r5005.2.2.2.2, r5005.2.2.1, r5007.1, r5007.2.2.1, r5009, r5009, r5005.2.2.2.1, r5007.2.2.2) _ _ _ h (leSt_m [(0, 0), (1, 13), (2, 12), (3, 14), (4, 16), (5, 17), (6, 18), (7, 19), (8, 11), (9, 15)] [] (by simp only [push_cast, seval]) (by simp only [push_cast, seval]) rfl rfl rfl)
        · rintro ⟨p1, xin1, c1_Count1, c2q1, c3q1, c4_Count1, c5q1, c6q1, c7q2, c8q1, c9q1⟩ h
          try dsimp only at h ⊢
          unfold taskmilllaw_SyncGroups_j10 at h
          refine seq_cut (A := Fault) (fun a => ([(1, iS n), (2, iS task), (3, .ptr 0 0), (8, .ptr 1 0), (9, .own 2 0 c2q1.length), (10, bS p1), (11, .ptr 3 0), (12, .ptr 4 0), (13, bS xin1), (14, .ptr 5 0), (15, .ptr 6 0), (16, .ptr 7 0)], [(0, .row 67 (Enc.cells g)), (1, .row 67 [iS c1_Count1, .own 8 0 c8q1.length]), (2, .row 3 (fl c2q1)), (3, .row 29 (Enc.cells c3q1)), (4, .row 67 [iS c4_Count1, .own 9 0 c9q1.length]), (5, .row 29 (Enc.cells c5q1)), (6, .row 29 (Enc.cells c6q1)), (7, .row 29 (Enc.cells a)), (8, .row 3 (fl c8q1)), (9, .row 3 (fl c9q1))], 10)) (fun a => (taskmilllaw_SyncGroups_j9 g n task p1 xin1 c1_Count1 c2q1 c3q1 c4_Count1 c5q1 c6q1 c8q1 c9q1 a) = some r) (fun K5032 hK5032 => ?_) ?_
          · refine seq_cut (A := Unit) (fun _ => ([(1, iS n), (2, iS task), (3, .ptr 0 0), (8, .ptr 1 0), (9, .own 2 0 c2q1.length), (10, bS p1), (11, .ptr 3 0), (12, .ptr 4 0), (13, bS xin1), (14, .ptr 5 0), (15, .ptr 6 0), (16, .ptr 7 0), (72, bS ((c7q2.Code == 0) && (decide ((1000000000 : Int) < (IntKind.i64.wrap (g.Count + n))))))], [(0, .row 67 (Enc.cells g)), (1, .row 67 [iS c1_Count1, .own 8 0 c8q1.length]), (2, .row 3 (fl c2q1)), (3, .row 29 (Enc.cells c3q1)), (4, .row 67 [iS c4_Count1, .own 9 0 c9q1.length]), (5, .row 29 (Enc.cells c5q1)), (6, .row 29 (Enc.cells c6q1)), (7, .row 29 (Enc.cells c7q2)), (8, .row 3 (fl c8q1)), (9, .row 3 (fl c9q1))], 10)) (fun _ => True) (fun K5034 hK5034 => ?_) (fun _ _ => ?_)
            · refine reg_f ?_
              refine rs 4 [] [] (by kernel_rfl) allP_nil ?_
              refine run_split 66 (c7q2.Code == 0) (.inl (by kernel_rfl)) (fun g5035 => ?_) (fun g5035 => ?_)
              · refine rs 6 [] [] (by kernel_rfl) allP_nil ?_
                refine rf [(1, iS n), (2, iS task), (3, .ptr 0 0), (8, .ptr 1 0), (9, .own 2 0 c2q1.length), (10, bS p1), (11, .ptr 3 0), (12, .ptr 4 0), (13, bS xin1), (14, .ptr 5 0), (15, .ptr 6 0), (16, .ptr 7 0), (72, bS (decide ((1000000000 : Int) < (IntKind.i64.wrap (g.Count + n)))))] [(0, .row 67 (Enc.cells g)), (1, .row 67 [iS c1_Count1, .own 8 0 c8q1.length]), (2, .row 3 (fl c2q1)), (3, .row 29 (Enc.cells c3q1)), (4, .row 67 [iS c4_Count1, .own 9 0 c9q1.length]), (5, .row 29 (Enc.cells c5q1)), (6, .row 29 (Enc.cells c6q1)), (7, .row 29 (Enc.cells c7q2)), (8, .row 3 (fl c8q1)), (9, .row 3 (fl c9q1))] 10 (by kernel_rfl) ?_
                exact hK5034 () _ _ _ trivial (leSt_m [(0, 0), (1, 1), (2, 2), (3, 3), (4, 4), (5, 5), (6, 6), (7, 7), (8, 8), (9, 9)] [] (by (try simp only [g5035]) <;> simp only [push_cast, seval]) (by (try simp only [g5035]) <;> simp only [push_cast, seval]) rfl rfl rfl)
              · refine rs 6 [] [] (by kernel_rfl) allP_nil ?_
                refine rf [(1, iS n), (2, iS task), (3, .ptr 0 0), (8, .ptr 1 0), (9, .own 2 0 c2q1.length), (10, bS p1), (11, .ptr 3 0), (12, .ptr 4 0), (13, bS xin1), (14, .ptr 5 0), (15, .ptr 6 0), (16, .ptr 7 0), (72, bS false)] [(0, .row 67 (Enc.cells g)), (1, .row 67 [iS c1_Count1, .own 8 0 c8q1.length]), (2, .row 3 (fl c2q1)), (3, .row 29 (Enc.cells c3q1)), (4, .row 67 [iS c4_Count1, .own 9 0 c9q1.length]), (5, .row 29 (Enc.cells c5q1)), (6, .row 29 (Enc.cells c6q1)), (7, .row 29 (Enc.cells c7q2)), (8, .row 3 (fl c8q1)), (9, .row 3 (fl c9q1))] 10 (by kernel_rfl) ?_
                exact hK5034 () _ _ _ trivial (leSt_m [(0, 0), (1, 1), (2, 2), (3, 3), (4, 4), (5, 5), (6, 6), (7, 7), (8, 8), (9, 9)] [] (by (try simp only [g5035]) <;> simp only [push_cast, seval]) (by (try simp only [g5035]) <;> simp only [push_cast, seval]) rfl rfl rfl)
            · dsimp only
              refine cond_sx h (by kernel_rfl) (fun g5038 h => ?_) (fun g5038 h => ?_)
              · refine reg_f ?_
                obtain ⟨r5037, hr5037, h⟩ := bind_sx h
                refine run_call 19 [iS 9, iS 0] (some 73) (by kernel_rfl) ?_
                refine call_0 (taskmillref_F_spec 9 0 r5037 hr5037) (by simp only [push_cast, seval]) (by simp only [push_cast, seval]) ?_
                refine back_f ?_
                refine rs 1 [] [] (by kernel_rfl) allP_nil ?_
                refine rf [(1, iS n), (2, iS task), (3, .ptr 0 0), (8, .ptr 1 0), (9, .own 2 0 c2q1.length), (10, bS p1), (11, .ptr 3 0), (12, .ptr 4 0), (13, bS xin1), (14, .ptr 5 0), (15, .ptr 6 0), (16, .ptr 7 0)] [(0, .row 67 (Enc.cells g)), (1, .row 67 [iS c1_Count1, .own 8 0 c8q1.length]), (2, .row 3 (fl c2q1)), (3, .row 29 (Enc.cells c3q1)), (4, .row 67 [iS c4_Count1, .own 9 0 c9q1.length]), (5, .row 29 (Enc.cells c5q1)), (6, .row 29 (Enc.cells c6q1)), (7, .row 29 (Enc.cells r5037)), (8, .row 3 (fl c8q1)), (9, .row 3 (fl c9q1))] 10 (by kernel_rfl) ?_
                exact hK5032 (r5037) _ _ _ h (leSt_m [(0, 0), (1, 1), (2, 2), (3, 3), (4, 4), (5, 5), (6, 6), (7, 7), (8, 8), (9, 9)] [] (by simp only [push_cast, seval]) (by simp only [push_cast, seval]) rfl rfl rfl)
              · exact hK5032 (c7q2) _ _ _ h (leSt_m [(0, 0), (1, 1), (2, 2), (3, 3), (4, 4), (5, 5), (6, 6), (7, 7), (8, 8), (9, 9)] [] (by simp only [push_cast, seval]) (by simp only [push_cast, seval]) rfl rfl rfl)
          · rintro c7q3 h
            try dsimp only at h ⊢
            unfold taskmilllaw_SyncGroups_j9 at h
            refine seq_np ?_
            refine seq_np ?_
            refine reg_f ?_
            refine rs 3 [] [] (by kernel_rfl) allP_nil ?_
            refine rf [(1, iS n), (2, iS task), (3, .ptr 0 0), (8, .ptr 1 0), (9, .own 2 0 c2q1.length), (10, bS p1), (12, .ptr 4 0), (13, bS xin1), (14, .ptr 5 0), (15, .ptr 6 0), (16, .ptr 7 0), (76, bS (!((c3q1.Code == c7q3.Code) && ((c3q1.At == c7q3.At) && true))))] [(0, .row 67 (Enc.cells g)), (1, .row 67 [iS c1_Count1, .own 8 0 c8q1.length]), (2, .row 3 (fl c2q1)), (3, .row 29 (Enc.cells c3q1)), (4, .row 67 [iS c4_Count1, .own 9 0 c9q1.length]), (5, .row 29 (Enc.cells c5q1)), (6, .row 29 (Enc.cells c6q1)), (7, .row 29 (Enc.cells c7q3)), (8, .row 3 (fl c8q1)), (9, .row 3 (fl c9q1))] 10 (by kernel_rfl) ?_
            refine wk_id ?_
            refine cond_sx h (by kernel_rfl) (fun g5181 h => ?_) (fun g5181 h => ?_)
            · refine seq_np ?_
              refine reg_f ?_
              refine rs 1 [] [] (by kernel_rfl) allP_nil ?_
              refine rf [(6, bS false)] [(0, .row 67 (Enc.cells g)), (1, .row 67 [iS c1_Count1, .own 8 0 c8q1.length]), (2, .row 3 (fl c2q1)), (3, .row 29 (Enc.cells c3q1)), (4, .row 67 [iS c4_Count1, .own 9 0 c9q1.length]), (5, .row 29 (Enc.cells c5q1)), (6, .row 29 (Enc.cells c6q1)), (7, .row 29 (Enc.cells c7q3)), (8, .row 3 (fl c8q1)), (9, .row 3 (fl c9q1))] 10 (by kernel_rfl) ?_
              refine wk_id ?_
              obtain rfl := Option.some.inj h
              refine ret_at (bS false) (by kernel_rfl) ?_
              exact ret_e [] [] (by simp only [push_cast, seval]) (by simp only [push_cast, seval]) rfl rfl rfl
            · refine wk_id ?_
              refine seq_np ?_
              refine block_cut (A := Unit) (fun a => ([(2, iS task), (3, .ptr 0 0), (12, .ptr 1 0), (13, bS xin1), (14, .ptr 2 0), (15, .ptr 3 0), (16, .ptr 4 0)], [(0, .row 67 (Enc.cells g)), (1, .row 67 [iS c4_Count1, .own 5 0 c9q1.length]), (2, .row 29 (Enc.cells c5q1)), (3, .row 29 (Enc.cells c6q1)), (4, .row 29 (Enc.cells c7q3)), (5, .row 3 (fl c9q1))], 6)) (fun a => (taskmilllaw_SyncGroups_j4 g task xin1 c4_Count1 c5q1 c6q1 c9q1 c7q3) = some r) (fun K5099 hK5099 => ?_) ?_
              · refine seq_np ?_
                refine reg_f ?_
                refine rs 4 [] [] (by kernel_rfl) allP_nil ?_
                refine rf [(1, iS n), (2, iS task), (3, .ptr 0 0), (8, .ptr 1 0), (9, .own 2 0 c2q1.length), (10, bS p1), (12, .ptr 4 0), (13, bS xin1), (14, .ptr 5 0), (15, .ptr 6 0), (16, .ptr 7 0), (95, bS (c7q3.Code != 0))] [(0, .row 67 (Enc.cells g)), (1, .row 67 [iS c1_Count1, .own 8 0 c8q1.length]), (2, .row 3 (fl c2q1)), (3, .row 29 (Enc.cells c3q1)), (4, .row 67 [iS c4_Count1, .own 9 0 c9q1.length]), (5, .row 29 (Enc.cells c5q1)), (6, .row 29 (Enc.cells c6q1)), (7, .row 29 (Enc.cells c7q3)), (8, .row 3 (fl c8q1)), (9, .row 3 (fl c9q1))] 10 (by kernel_rfl) ?_
                refine wk_id ?_
                refine cond_sx h (by kernel_rfl) (fun g5140 h => ?_) (fun g5140 h => ?_)
                · refine seq_cut (A := Bool) (fun a => ([(2, iS task), (3, .ptr 0 0), (12, .ptr 1 0), (13, bS xin1), (14, .ptr 2 0), (15, .ptr 3 0), (16, .ptr 4 0), (110, bS a)], [(0, .row 67 (Enc.cells g)), (1, .row 67 [iS c4_Count1, .own 5 0 c9q1.length]), (2, .row 29 (Enc.cells c5q1)), (3, .row 29 (Enc.cells c6q1)), (4, .row 29 (Enc.cells c7q3)), (5, .row 3 (fl c9q1))], 6)) (fun a => (taskmilllaw_SyncGroups_j5 g task xin1 c4_Count1 c5q1 c6q1 c9q1 c7q3 a) = some r) (fun K5104 hK5104 => ?_) ?_
                  · refine reg_f ?_
                    refine rs 2 [] [] (by kernel_rfl) allP_nil ?_
                    obtain ⟨r5105, hr5105, h⟩ := bind_sx h
                    refine call_x (taskmilllaw_sameGroup_spec (Group.mk c1_Count1 c8q1) (Group.mk 0 []) r5105 hr5105) (args := [.agg [iS c1_Count1, .own 8 0 c8q1.length], .agg [iS 0, .v (.slice none 0 0)]]) (dst := (some 101)) (by kernel_rfl) [(0, .row 67 (Enc.cells g)), (1, .row 67 [iS c1_Count1, .own 8 0 c8q1.length]), (2, .row 3 (fl c2q1)), (3, .row 29 (Enc.cells c3q1)), (4, .row 67 [iS c4_Count1, .own 9 0 c9q1.length]), (5, .row 29 (Enc.cells c5q1)), (6, .row 29 (Enc.cells c6q1)), (7, .row 29 (Enc.cells c7q3)), (8, .row 3 (fl c8q1)), (9, .row 3 (fl c9q1))] 10 (by kernel_rfl) [] [8] (bS r5105) [] (by simp only [push_cast, seval]) (by simp only [push_cast, seval]) (by kernel_rfl) (.inr ⟨by simp only [push_cast, seval], by simp only [push_cast, seval]⟩) (by simp only [push_cast, seval]) (by simp only [push_cast, seval]) ?_
                    refine rs 2 [] [] (by kernel_rfl) allP_nil ?_
                    refine run_br h 103 (.inl (by kernel_rfl)) (fun g5106 h => ?_) (fun g5106 h => ?_)
                    · refine rs 7 [] [] (by kernel_rfl) allP_nil ?_
                      refine rf [(2, iS task), (3, .ptr 0 0), (12, .ptr 4 0), (13, bS xin1), (14, .ptr 5 0), (15, .ptr 6 0), (16, .ptr 7 0), (110, bS true)] [(0, .row 67 (Enc.cells g)), (1, .row 67 [iS c1_Count1, .own 8 0 c8q1.length]), (2, .row 3 (fl c2q1)), (3, .row 29 (Enc.cells c3q1)), (4, .row 67 [iS c4_Count1, .own 9 0 c9q1.length]), (5, .row 29 (Enc.cells c5q1)), (6, .row 29 (Enc.cells c6q1)), (7, .row 29 (Enc.cells c7q3)), (8, .row 3 (fl c8q1)), (9, .row 3 (fl c9q1))] 10 (by kernel_rfl) ?_
                      exact hK5104 (true) _ _ _ h (leSt_m [(0, 0), (1, 4), (2, 5), (3, 6), (4, 7), (5, 9)] [] (by (try simp only [g5106]) <;> simp only [push_cast, seval]) (by (try simp only [g5106]) <;> simp only [push_cast, seval]) rfl rfl rfl)
                    · refine rs 5 [] [] (by kernel_rfl) allP_nil ?_
                      refine run_br h 108 (.inl (by kernel_rfl)) (fun g5107 h => ?_) (fun g5107 h => ?_)
                      · refine rs 2 [] [] (by kernel_rfl) allP_nil ?_
                        refine rf [(2, iS task), (3, .ptr 0 0), (12, .ptr 4 0), (13, bS xin1), (14, .ptr 5 0), (15, .ptr 6 0), (16, .ptr 7 0), (110, bS true)] [(0, .row 67 (Enc.cells g)), (1, .row 67 [iS c1_Count1, .own 8 0 c8q1.length]), (2, .row 3 (fl c2q1)), (3, .row 29 (Enc.cells c3q1)), (4, .row 67 [iS c4_Count1, .own 9 0 c9q1.length]), (5, .row 29 (Enc.cells c5q1)), (6, .row 29 (Enc.cells c6q1)), (7, .row 29 (Enc.cells c7q3)), (8, .row 3 (fl c8q1)), (9, .row 3 (fl c9q1))] 10 (by kernel_rfl) ?_
                        exact hK5104 (true) _ _ _ h (leSt_m [(0, 0), (1, 4), (2, 5), (3, 6), (4, 7), (5, 9)] [] (by (try simp only [g5106, g5107]) <;> simp only [push_cast, seval]) (by (try simp only [g5106, g5107]) <;> simp only [push_cast, seval]) rfl rfl rfl)
                      · refine rs 2 [] [] (by kernel_rfl) allP_nil ?_
                        refine rf [(2, iS task), (3, .ptr 0 0), (12, .ptr 4 0), (13, bS xin1), (14, .ptr 5 0), (15, .ptr 6 0), (16, .ptr 7 0), (110, bS p1)] [(0, .row 67 (Enc.cells g)), (1, .row 67 [iS c1_Count1, .own 8 0 c8q1.length]), (2, .row 3 (fl c2q1)), (3, .row 29 (Enc.cells c3q1)), (4, .row 67 [iS c4_Count1, .own 9 0 c9q1.length]), (5, .row 29 (Enc.cells c5q1)), (6, .row 29 (Enc.cells c6q1)), (7, .row 29 (Enc.cells c7q3)), (8, .row 3 (fl c8q1)), (9, .row 3 (fl c9q1))] 10 (by kernel_rfl) ?_
                        exact hK5104 (p1) _ _ _ h (leSt_m [(0, 0), (1, 4), (2, 5), (3, 6), (4, 7), (5, 9)] [] (by (try simp only [g5106, g5107]) <;> simp only [push_cast, seval]) (by (try simp only [g5106, g5107]) <;> simp only [push_cast, seval]) rfl rfl rfl)
                  · rintro t110q3 h
                    try dsimp only at h ⊢
                    unfold taskmilllaw_SyncGroups_j5 at h
                    refine cond_sx h (by kernel_rfl) (fun g5108 h => ?_) (fun g5108 h => ?_)
                    · refine seq_np ?_
                      refine reg_f ?_
                      refine rs 1 [] [] (by kernel_rfl) allP_nil ?_
                      refine rf [(6, bS false)] [(0, .row 67 (Enc.cells g)), (1, .row 67 [iS c4_Count1, .own 5 0 c9q1.length]), (2, .row 29 (Enc.cells c5q1)), (3, .row 29 (Enc.cells c6q1)), (4, .row 29 (Enc.cells c7q3)), (5, .row 3 (fl c9q1))] 6 (by kernel_rfl) ?_
                      refine wk_id ?_
                      obtain rfl := Option.some.inj h
                      refine ret_at (bS false) (by kernel_rfl) ?_
                      exact ret_e [] [] (by simp only [push_cast, seval]) (by simp only [push_cast, seval]) rfl rfl rfl
                    · exact hK5099 () _ _ _ h (leSt_m [(0, 0), (1, 1), (2, 2), (3, 3), (4, 4), (5, 5)] [] (by simp only [push_cast, seval]) (by simp only [push_cast, seval]) rfl rfl rfl)
                · refine seq_np ?_
                  refine reg_f ?_
                  refine rs 6 [] [] (by kernel_rfl) allP_nil ?_
                  refine rf [(1, iS n), (2, iS task), (3, .ptr 0 0), (8, .ptr 1 0), (9, .own 2 0 c2q1.length), (10, bS p1), (12, .ptr 4 0), (13, bS xin1), (14, .ptr 5 0), (15, .ptr 6 0), (16, .ptr 7 0), (111, bS (decide ((IntKind.i64.wrap (g.Count + n)) < 0)))] [(0, .row 67 (Enc.cells g)), (1, .row 67 [iS c1_Count1, .own 8 0 c8q1.length]), (2, .row 3 (fl c2q1)), (3, .row 29 (Enc.cells c3q1)), (4, .row 67 [iS c4_Count1, .own 9 0 c9q1.length]), (5, .row 29 (Enc.cells c5q1)), (6, .row 29 (Enc.cells c6q1)), (7, .row 29 (Enc.cells c7q3)), (8, .row 3 (fl c8q1)), (9, .row 3 (fl c9q1))] 10 (by kernel_rfl) ?_
                  refine wk_id ?_
                  refine cond_sx h (by kernel_rfl) (fun g5139 h => ?_) (fun g5139 h => ?_)
                  · refine seq_cut (A := Bool) (fun a => ([(2, iS task), (3, .ptr 0 0), (12, .ptr 1 0), (13, bS xin1), (14, .ptr 2 0), (15, .ptr 3 0), (16, .ptr 4 0), (129, bS a)], [(0, .row 67 (Enc.cells g)), (1, .row 67 [iS c4_Count1, .own 5 0 c9q1.length]), (2, .row 29 (Enc.cells c5q1)), (3, .row 29 (Enc.cells c6q1)), (4, .row 29 (Enc.cells c7q3)), (5, .row 3 (fl c9q1))], 6)) (fun a => (taskmilllaw_SyncGroups_j6 g task xin1 c4_Count1 c5q1 c6q1 c9q1 c7q3 a) = some r) (fun K5113 hK5113 => ?_) ?_
                    · refine reg_f ?_
                      refine rs 2 [] [] (by kernel_rfl) allP_nil ?_
                      obtain ⟨r5114, hr5114, h⟩ := bind_sx h
                      refine call_x (taskmilllaw_sameGroup_spec (Group.mk c1_Count1 c8q1) g r5114 hr5114) (args := [.agg [iS c1_Count1, .own 8 0 c8q1.length], .agg (Enc.cells g)]) (dst := (some 119)) (by kernel_rfl) [(0, .row 67 (Enc.cells g)), (1, .row 67 [iS c1_Count1, .own 8 0 c8q1.length]), (2, .row 3 (fl c2q1)), (3, .row 29 (Enc.cells c3q1)), (4, .row 67 [iS c4_Count1, .own 9 0 c9q1.length]), (5, .row 29 (Enc.cells c5q1)), (6, .row 29 (Enc.cells c6q1)), (7, .row 29 (Enc.cells c7q3)), (8, .row 3 (fl c8q1)), (9, .row 3 (fl c9q1))] 10 (by kernel_rfl) [] [8] (bS r5114) [] (by simp only [push_cast, seval]) (by simp only [push_cast, seval]) (by kernel_rfl) (.inr ⟨by simp only [push_cast, seval], by simp only [push_cast, seval]⟩) (by simp only [push_cast, seval]) (by simp only [push_cast, seval]) ?_
                      refine rs 2 [] [] (by kernel_rfl) allP_nil ?_
                      refine run_br h 121 (.inl (by kernel_rfl)) (fun g5115 h => ?_) (fun g5115 h => ?_)
                      · refine rs 8 [] [] (by kernel_rfl) allP_nil ?_
                        refine rf [(2, iS task), (3, .ptr 0 0), (12, .ptr 4 0), (13, bS xin1), (14, .ptr 5 0), (15, .ptr 6 0), (16, .ptr 7 0), (129, bS true)] [(0, .row 67 (Enc.cells g)), (1, .row 67 [iS c1_Count1, .own 8 0 c8q1.length]), (2, .row 3 (fl c2q1)), (3, .row 29 (Enc.cells c3q1)), (4, .row 67 [iS c4_Count1, .own 9 0 c9q1.length]), (5, .row 29 (Enc.cells c5q1)), (6, .row 29 (Enc.cells c6q1)), (7, .row 29 (Enc.cells c7q3)), (8, .row 3 (fl c8q1)), (9, .row 3 (fl c9q1))] 10 (by kernel_rfl) ?_
                        exact hK5113 (true) _ _ _ h (leSt_m [(0, 0), (1, 4), (2, 5), (3, 6), (4, 7), (5, 9)] [] (by (try simp only [g5115]) <;> simp only [push_cast, seval]) (by (try simp only [g5115]) <;> simp only [push_cast, seval]) rfl rfl rfl)
                      · refine rs 5 [] [] (by kernel_rfl) allP_nil ?_
                        refine run_br h 126 (.inl (by kernel_rfl)) (fun g5116 h => ?_) (fun g5116 h => ?_)
                        · refine rn 10 [(2, iS task), (3, .ptr 0 0), (10, bS p1), (12, .ptr 4 0), (13, bS xin1), (14, .ptr 5 0), (15, .ptr 6 0), (16, .ptr 7 0), (126, bS true)] [(0, .row 67 (Enc.cells g)), (1, .row 67 [iS c1_Count1, .own 8 0 c8q1.length]), (2, .row 3 (fl c2q1)), (3, .row 29 (Enc.cells c3q1)), (4, .row 67 [iS c4_Count1, .own 9 0 c9q1.length]), (5, .row 29 (Enc.cells c5q1)), (6, .row 29 (Enc.cells c6q1)), (7, .row 29 (Enc.cells c7q3)), (8, .row 3 (fl c8q1)), (9, .row 3 (fl c9q1))] 10 (by kernel_rfl) ?_
                          refine rs 3 [] [] (by kernel_rfl) allP_nil ?_
                          refine rf [(2, iS task), (3, .ptr 0 0), (12, .ptr 4 0), (13, bS xin1), (14, .ptr 5 0), (15, .ptr 6 0), (16, .ptr 7 0), (129, bS true)] [(0, .row 67 (Enc.cells g)), (1, .row 67 [iS c1_Count1, .own 8 0 c8q1.length]), (2, .row 3 (fl c2q1)), (3, .row 29 (Enc.cells c3q1)), (4, .row 67 [iS c4_Count1, .own 9 0 c9q1.length]), (5, .row 29 (Enc.cells c5q1)), (6, .row 29 (Enc.cells c6q1)), (7, .row 29 (Enc.cells c7q3)), (8, .row 3 (fl c8q1)), (9, .row 3 (fl c9q1))] 10 (by kernel_rfl) ?_
                          exact hK5113 (true) _ _ _ h (leSt_m [(0, 0), (1, 4), (2, 5), (3, 6), (4, 7), (5, 9)] [] (by (try simp only [g5115, g5116]) <;> simp only [push_cast, seval]) (by (try simp only [g5115, g5116]) <;> simp only [push_cast, seval]) rfl rfl rfl)
                        · refine rn 10 [(2, iS task), (3, .ptr 0 0), (10, bS p1), (12, .ptr 4 0), (13, bS xin1), (14, .ptr 5 0), (15, .ptr 6 0), (16, .ptr 7 0), (126, bS false)] [(0, .row 67 (Enc.cells g)), (1, .row 67 [iS c1_Count1, .own 8 0 c8q1.length]), (2, .row 3 (fl c2q1)), (3, .row 29 (Enc.cells c3q1)), (4, .row 67 [iS c4_Count1, .own 9 0 c9q1.length]), (5, .row 29 (Enc.cells c5q1)), (6, .row 29 (Enc.cells c6q1)), (7, .row 29 (Enc.cells c7q3)), (8, .row 3 (fl c8q1)), (9, .row 3 (fl c9q1))] 10 (by kernel_rfl) ?_
                          refine rs 3 [] [] (by kernel_rfl) allP_nil ?_
                          refine rf [(2, iS task), (3, .ptr 0 0), (12, .ptr 4 0), (13, bS xin1), (14, .ptr 5 0), (15, .ptr 6 0), (16, .ptr 7 0), (129, bS (!p1))] [(0, .row 67 (Enc.cells g)), (1, .row 67 [iS c1_Count1, .own 8 0 c8q1.length]), (2, .row 3 (fl c2q1)), (3, .row 29 (Enc.cells c3q1)), (4, .row 67 [iS c4_Count1, .own 9 0 c9q1.length]), (5, .row 29 (Enc.cells c5q1)), (6, .row 29 (Enc.cells c6q1)), (7, .row 29 (Enc.cells c7q3)), (8, .row 3 (fl c8q1)), (9, .row 3 (fl c9q1))] 10 (by kernel_rfl) ?_
                          exact hK5113 ((!p1)) _ _ _ h (leSt_m [(0, 0), (1, 4), (2, 5), (3, 6), (4, 7), (5, 9)] [] (by (try simp only [g5115, g5116]) <;> simp only [push_cast, seval]) (by (try simp only [g5115, g5116]) <;> simp only [push_cast, seval]) rfl rfl rfl)
                    · rintro t129q3 h
                      try dsimp only at h ⊢
                      unfold taskmilllaw_SyncGroups_j6 at h
                      refine cond_sx h (by kernel_rfl) (fun g5117 h => ?_) (fun g5117 h => ?_)
                      · refine seq_np ?_
                        refine reg_f ?_
                        refine rs 1 [] [] (by kernel_rfl) allP_nil ?_
                        refine rf [(6, bS false)] [(0, .row 67 (Enc.cells g)), (1, .row 67 [iS c4_Count1, .own 5 0 c9q1.length]), (2, .row 29 (Enc.cells c5q1)), (3, .row 29 (Enc.cells c6q1)), (4, .row 29 (Enc.cells c7q3)), (5, .row 3 (fl c9q1))] 6 (by kernel_rfl) ?_
                        refine wk_id ?_
                        obtain rfl := Option.some.inj h
                        refine ret_at (bS false) (by kernel_rfl) ?_
                        exact ret_e [] [] (by simp only [push_cast, seval]) (by simp only [push_cast, seval]) rfl rfl rfl
                      · exact hK5099 () _ _ _ h (leSt_m [(0, 0), (1, 1), (2, 2), (3, 3), (4, 4), (5, 5)] [] (by simp only [push_cast, seval]) (by simp only [push_cast, seval]) rfl rfl rfl)
                  · refine seq_np ?_
                    refine reg_f ?_
                    refine rs 6 [] [] (by kernel_rfl) allP_nil ?_
                    refine rf [(1, iS n), (2, iS task), (3, .ptr 0 0), (8, .ptr 1 0), (9, .own 2 0 c2q1.length), (10, bS p1), (12, .ptr 4 0), (13, bS xin1), (14, .ptr 5 0), (15, .ptr 6 0), (16, .ptr 7 0), (130, bS ((IntKind.i64.wrap (g.Count + n)) == 0))] [(0, .row 67 (Enc.cells g)), (1, .row 67 [iS c1_Count1, .own 8 0 c8q1.length]), (2, .row 3 (fl c2q1)), (3, .row 29 (Enc.cells c3q1)), (4, .row 67 [iS c4_Count1, .own 9 0 c9q1.length]), (5, .row 29 (Enc.cells c5q1)), (6, .row 29 (Enc.cells c6q1)), (7, .row 29 (Enc.cells c7q3)), (8, .row 3 (fl c8q1)), (9, .row 3 (fl c9q1))] 10 (by kernel_rfl) ?_
                    refine wk_id ?_
                    refine cond_sx h (by kernel_rfl) (fun g5138 h => ?_) (fun g5138 h => ?_)
                    · refine seq_cut (A := Bool) (fun a => ([(2, iS task), (3, .ptr 0 0), (12, .ptr 1 0), (13, bS xin1), (14, .ptr 2 0), (15, .ptr 3 0), (16, .ptr 4 0), (149, bS a)], [(0, .row 67 (Enc.cells g)), (1, .row 67 [iS c4_Count1, .own 5 0 c9q1.length]), (2, .row 29 (Enc.cells c5q1)), (3, .row 29 (Enc.cells c6q1)), (4, .row 29 (Enc.cells c7q3)), (5, .row 3 (fl c9q1))], 6)) (fun a => (taskmilllaw_SyncGroups_j7 g task xin1 c4_Count1 c5q1 c6q1 c9q1 c7q3 a) = some r) (fun K5123 hK5123 => ?_) ?_
                      · refine reg_f ?_
                        refine rs 2 [] [] (by kernel_rfl) allP_nil ?_
                        obtain ⟨r5124, hr5124, h⟩ := bind_sx h
                        refine call_x (taskmilllaw_sameGroup_spec (Group.mk c1_Count1 c8q1) (Group.mk 0 []) r5124 hr5124) (args := [.agg [iS c1_Count1, .own 8 0 c8q1.length], .agg [iS 0, .v (.slice none 0 0)]]) (dst := (some 138)) (by kernel_rfl) [(0, .row 67 (Enc.cells g)), (1, .row 67 [iS c1_Count1, .own 8 0 c8q1.length]), (2, .row 3 (fl c2q1)), (3, .row 29 (Enc.cells c3q1)), (4, .row 67 [iS c4_Count1, .own 9 0 c9q1.length]), (5, .row 29 (Enc.cells c5q1)), (6, .row 29 (Enc.cells c6q1)), (7, .row 29 (Enc.cells c7q3)), (8, .row 3 (fl c8q1)), (9, .row 3 (fl c9q1))] 10 (by kernel_rfl) [] [8] (bS r5124) [] (by simp only [push_cast, seval]) (by simp only [push_cast, seval]) (by kernel_rfl) (.inr ⟨by simp only [push_cast, seval], by simp only [push_cast, seval]⟩) (by simp only [push_cast, seval]) (by simp only [push_cast, seval]) ?_
                        refine rs 2 [] [] (by kernel_rfl) allP_nil ?_
                        refine run_br h 140 (.inl (by kernel_rfl)) (fun g5125 h => ?_) (fun g5125 h => ?_)
                        · refine rs 9 [] [] (by kernel_rfl) allP_nil ?_
                          refine rf [(2, iS task), (3, .ptr 0 0), (12, .ptr 4 0), (13, bS xin1), (14, .ptr 5 0), (15, .ptr 6 0), (16, .ptr 7 0), (149, bS true)] [(0, .row 67 (Enc.cells g)), (1, .row 67 [iS c1_Count1, .own 8 0 c8q1.length]), (2, .row 3 (fl c2q1)), (3, .row 29 (Enc.cells c3q1)), (4, .row 67 [iS c4_Count1, .own 9 0 c9q1.length]), (5, .row 29 (Enc.cells c5q1)), (6, .row 29 (Enc.cells c6q1)), (7, .row 29 (Enc.cells c7q3)), (8, .row 3 (fl c8q1)), (9, .row 3 (fl c9q1))] 10 (by kernel_rfl) ?_
                          exact hK5123 (true) _ _ _ h (leSt_m [(0, 0), (1, 4), (2, 5), (3, 6), (4, 7), (5, 9)] [] (by (try simp only [g5125]) <;> simp only [push_cast, seval]) (by (try simp only [g5125]) <;> simp only [push_cast, seval]) rfl rfl rfl)
                        · refine rs 3 [] [] (by kernel_rfl) allP_nil ?_
                          obtain ⟨r5126, hr5126, h⟩ := bind_sx h
                          refine call_x (taskmillref_Ints_spec c2q1 g.Line r5126 hr5126) (args := [.own 2 0 c2q1.length, .sl g.Line.length (fl g.Line)]) (dst := (some 144)) (by kernel_rfl) [(0, .row 67 (Enc.cells g)), (1, .row 67 [iS c1_Count1, .own 8 0 c8q1.length]), (2, .row 3 (fl c2q1)), (3, .row 29 (Enc.cells c3q1)), (4, .row 67 [iS c4_Count1, .own 9 0 c9q1.length]), (5, .row 29 (Enc.cells c5q1)), (6, .row 29 (Enc.cells c6q1)), (7, .row 29 (Enc.cells c7q3)), (8, .row 3 (fl c8q1)), (9, .row 3 (fl c9q1))] 10 (by kernel_rfl) [] [2] (bS r5126) [] (by simp only [push_cast, seval]) (by simp only [push_cast, seval]) (by kernel_rfl) (.inr ⟨by simp only [push_cast, seval], by simp only [push_cast, seval]⟩) (by simp only [push_cast, seval]) (by simp only [push_cast, seval]) ?_
                          refine rn 9 [(2, iS task), (3, .ptr 0 0), (10, bS p1), (12, .ptr 4 0), (13, bS xin1), (14, .ptr 5 0), (15, .ptr 6 0), (16, .ptr 7 0), (140, bS false), (144, bS r5126)] [(0, .row 67 (Enc.cells g)), (1, .row 67 [iS c1_Count1, .own 8 0 c8q1.length]), (2, .row 3 (fl c2q1)), (3, .row 29 (Enc.cells c3q1)), (4, .row 67 [iS c4_Count1, .own 9 0 c9q1.length]), (5, .row 29 (Enc.cells c5q1)), (6, .row 29 (Enc.cells c6q1)), (7, .row 29 (Enc.cells c7q3)), (8, .row 3 (fl c8q1)), (9, .row 3 (fl c9q1))] 10 (by kernel_rfl) ?_
                          refine rs 3 [] [] (by kernel_rfl) allP_nil ?_
                          refine run_br h 147 (.inl (by kernel_rfl)) (fun g5127 h => ?_) (fun g5127 h => ?_)
                          · refine rs 2 [] [] (by kernel_rfl) allP_nil ?_
                            refine rf [(2, iS task), (3, .ptr 0 0), (12, .ptr 4 0), (13, bS xin1), (14, .ptr 5 0), (15, .ptr 6 0), (16, .ptr 7 0), (149, bS true)] [(0, .row 67 (Enc.cells g)), (1, .row 67 [iS c1_Count1, .own 8 0 c8q1.length]), (2, .row 3 (fl c2q1)), (3, .row 29 (Enc.cells c3q1)), (4, .row 67 [iS c4_Count1, .own 9 0 c9q1.length]), (5, .row 29 (Enc.cells c5q1)), (6, .row 29 (Enc.cells c6q1)), (7, .row 29 (Enc.cells c7q3)), (8, .row 3 (fl c8q1)), (9, .row 3 (fl c9q1))] 10 (by kernel_rfl) ?_
                            exact hK5123 (true) _ _ _ h (leSt_m [(0, 0), (1, 4), (2, 5), (3, 6), (4, 7), (5, 9)] [] (by (try simp only [g5125, g5127]) <;> simp only [push_cast, seval]) (by (try simp only [g5125, g5127]) <;> simp only [push_cast, seval]) rfl rfl rfl)
                          · refine rs 2 [] [] (by kernel_rfl) allP_nil ?_
                            refine rf [(2, iS task), (3, .ptr 0 0), (12, .ptr 4 0), (13, bS xin1), (14, .ptr 5 0), (15, .ptr 6 0), (16, .ptr 7 0), (149, bS p1)] [(0, .row 67 (Enc.cells g)), (1, .row 67 [iS c1_Count1, .own 8 0 c8q1.length]), (2, .row 3 (fl c2q1)), (3, .row 29 (Enc.cells c3q1)), (4, .row 67 [iS c4_Count1, .own 9 0 c9q1.length]), (5, .row 29 (Enc.cells c5q1)), (6, .row 29 (Enc.cells c6q1)), (7, .row 29 (Enc.cells c7q3)), (8, .row 3 (fl c8q1)), (9, .row 3 (fl c9q1))] 10 (by kernel_rfl) ?_
                            exact hK5123 (p1) _ _ _ h (leSt_m [(0, 0), (1, 4), (2, 5), (3, 6), (4, 7), (5, 9)] [] (by (try simp only [g5125, g5127]) <;> simp only [push_cast, seval]) (by (try simp only [g5125, g5127]) <;> simp only [push_cast, seval]) rfl rfl rfl)
                      · rintro t149q3 h
                        try dsimp only at h ⊢
                        unfold taskmilllaw_SyncGroups_j7 at h
                        refine cond_sx h (by kernel_rfl) (fun g5128 h => ?_) (fun g5128 h => ?_)
                        · refine seq_np ?_
                          refine reg_f ?_
                          refine rs 1 [] [] (by kernel_rfl) allP_nil ?_
                          refine rf [(6, bS false)] [(0, .row 67 (Enc.cells g)), (1, .row 67 [iS c4_Count1, .own 5 0 c9q1.length]), (2, .row 29 (Enc.cells c5q1)), (3, .row 29 (Enc.cells c6q1)), (4, .row 29 (Enc.cells c7q3)), (5, .row 3 (fl c9q1))] 6 (by kernel_rfl) ?_
                          refine wk_id ?_
                          obtain rfl := Option.some.inj h
                          refine ret_at (bS false) (by kernel_rfl) ?_
                          exact ret_e [] [] (by simp only [push_cast, seval]) (by simp only [push_cast, seval]) rfl rfl rfl
                        · exact hK5099 () _ _ _ h (leSt_m [(0, 0), (1, 1), (2, 2), (3, 3), (4, 4), (5, 5)] [] (by simp only [push_cast, seval]) (by simp only [push_cast, seval]) rfl rfl rfl)
                    · refine seq_cut (A := Bool) (fun a => ([(2, iS task), (3, .ptr 0 0), (12, .ptr 1 0), (13, bS xin1), (14, .ptr 2 0), (15, .ptr 3 0), (16, .ptr 4 0), (94, bS a)], [(0, .row 67 (Enc.cells g)), (1, .row 67 [iS c4_Count1, .own 5 0 c9q1.length]), (2, .row 29 (Enc.cells c5q1)), (3, .row 29 (Enc.cells c6q1)), (4, .row 29 (Enc.cells c7q3)), (5, .row 3 (fl c9q1))], 6)) (fun a => (taskmilllaw_SyncGroups_j8 g task xin1 c4_Count1 c5q1 c6q1 c9q1 c7q3 a) = some r) (fun K5133 hK5133 => ?_) ?_
                      · refine reg_f ?_
                        refine rs 8 [] [] (by kernel_rfl) allP_nil ?_
                        obtain ⟨r5134, hr5134, h⟩ := bind_sx h
                        refine call_x (taskmilllaw_sameGroup_spec (Group.mk c1_Count1 c8q1) (Group.mk (IntKind.i64.wrap (g.Count + n)) g.Line) r5134 hr5134) (args := [.agg [iS c1_Count1, .own 8 0 c8q1.length], .agg [iS (IntKind.i64.wrap (g.Count + n)), .sl g.Line.length (fl g.Line)]]) (dst := (some 85)) (by kernel_rfl) [(0, .row 67 (Enc.cells g)), (1, .row 67 [iS c1_Count1, .own 8 0 c8q1.length]), (2, .row 3 (fl c2q1)), (3, .row 29 (Enc.cells c3q1)), (4, .row 67 [iS c4_Count1, .own 9 0 c9q1.length]), (5, .row 29 (Enc.cells c5q1)), (6, .row 29 (Enc.cells c6q1)), (7, .row 29 (Enc.cells c7q3)), (8, .row 3 (fl c8q1)), (9, .row 3 (fl c9q1))] 10 (by kernel_rfl) [] [8] (bS r5134) [] (by simp only [push_cast, seval]) (by simp only [push_cast, seval]) (by kernel_rfl) (.inr ⟨by simp only [push_cast, seval], by simp only [push_cast, seval]⟩) (by simp only [push_cast, seval]) (by simp only [push_cast, seval]) ?_
                        refine rs 2 [] [] (by kernel_rfl) allP_nil ?_
                        refine run_br h 87 (.inl (by kernel_rfl)) (fun g5135 h => ?_) (fun g5135 h => ?_)
                        · refine rs 7 [] [] (by kernel_rfl) allP_nil ?_
                          refine rf [(2, iS task), (3, .ptr 0 0), (12, .ptr 4 0), (13, bS xin1), (14, .ptr 5 0), (15, .ptr 6 0), (16, .ptr 7 0), (94, bS true)] [(0, .row 67 (Enc.cells g)), (1, .row 67 [iS c1_Count1, .own 8 0 c8q1.length]), (2, .row 3 (fl c2q1)), (3, .row 29 (Enc.cells c3q1)), (4, .row 67 [iS c4_Count1, .own 9 0 c9q1.length]), (5, .row 29 (Enc.cells c5q1)), (6, .row 29 (Enc.cells c6q1)), (7, .row 29 (Enc.cells c7q3)), (8, .row 3 (fl c8q1)), (9, .row 3 (fl c9q1))] 10 (by kernel_rfl) ?_
                          exact hK5133 (true) _ _ _ h (leSt_m [(0, 0), (1, 4), (2, 5), (3, 6), (4, 7), (5, 9)] [] (by (try simp only [g5135]) <;> simp only [push_cast, seval]) (by (try simp only [g5135]) <;> simp only [push_cast, seval]) rfl rfl rfl)
                        · refine rs 5 [] [] (by kernel_rfl) allP_nil ?_
                          refine run_br h 92 (.inl (by kernel_rfl)) (fun g5136 h => ?_) (fun g5136 h => ?_)
                          · refine rs 2 [] [] (by kernel_rfl) allP_nil ?_
                            refine rf [(2, iS task), (3, .ptr 0 0), (12, .ptr 4 0), (13, bS xin1), (14, .ptr 5 0), (15, .ptr 6 0), (16, .ptr 7 0), (94, bS true)] [(0, .row 67 (Enc.cells g)), (1, .row 67 [iS c1_Count1, .own 8 0 c8q1.length]), (2, .row 3 (fl c2q1)), (3, .row 29 (Enc.cells c3q1)), (4, .row 67 [iS c4_Count1, .own 9 0 c9q1.length]), (5, .row 29 (Enc.cells c5q1)), (6, .row 29 (Enc.cells c6q1)), (7, .row 29 (Enc.cells c7q3)), (8, .row 3 (fl c8q1)), (9, .row 3 (fl c9q1))] 10 (by kernel_rfl) ?_
                            exact hK5133 (true) _ _ _ h (leSt_m [(0, 0), (1, 4), (2, 5), (3, 6), (4, 7), (5, 9)] [] (by (try simp only [g5135, g5136]) <;> simp only [push_cast, seval]) (by (try simp only [g5135, g5136]) <;> simp only [push_cast, seval]) rfl rfl rfl)
                          · refine rs 2 [] [] (by kernel_rfl) allP_nil ?_
                            refine rf [(2, iS task), (3, .ptr 0 0), (12, .ptr 4 0), (13, bS xin1), (14, .ptr 5 0), (15, .ptr 6 0), (16, .ptr 7 0), (94, bS p1)] [(0, .row 67 (Enc.cells g)), (1, .row 67 [iS c1_Count1, .own 8 0 c8q1.length]), (2, .row 3 (fl c2q1)), (3, .row 29 (Enc.cells c3q1)), (4, .row 67 [iS c4_Count1, .own 9 0 c9q1.length]), (5, .row 29 (Enc.cells c5q1)), (6, .row 29 (Enc.cells c6q1)), (7, .row 29 (Enc.cells c7q3)), (8, .row 3 (fl c8q1)), (9, .row 3 (fl c9q1))] 10 (by kernel_rfl) ?_
                            exact hK5133 (p1) _ _ _ h (leSt_m [(0, 0), (1, 4), (2, 5), (3, 6), (4, 7), (5, 9)] [] (by (try simp only [g5135, g5136]) <;> simp only [push_cast, seval]) (by (try simp only [g5135, g5136]) <;> simp only [push_cast, seval]) rfl rfl rfl)
                      · rintro t94q3 h
                        try dsimp only at h ⊢
                        unfold taskmilllaw_SyncGroups_j8 at h
                        refine cond_sx h (by kernel_rfl) (fun g5137 h => ?_) (fun g5137 h => ?_)
                        · refine seq_np ?_
                          refine reg_f ?_
                          refine rs 1 [] [] (by kernel_rfl) allP_nil ?_
                          refine rf [(6, bS false)] [(0, .row 67 (Enc.cells g)), (1, .row 67 [iS c4_Count1, .own 5 0 c9q1.length]), (2, .row 29 (Enc.cells c5q1)), (3, .row 29 (Enc.cells c6q1)), (4, .row 29 (Enc.cells c7q3)), (5, .row 3 (fl c9q1))] 6 (by kernel_rfl) ?_
                          refine wk_id ?_
                          obtain rfl := Option.some.inj h
                          refine ret_at (bS false) (by kernel_rfl) ?_
                          exact ret_e [] [] (by simp only [push_cast, seval]) (by simp only [push_cast, seval]) rfl rfl rfl
                        · exact hK5099 () _ _ _ h (leSt_m [(0, 0), (1, 1), (2, 2), (3, 3), (4, 4), (5, 5)] [] (by simp only [push_cast, seval]) (by simp only [push_cast, seval]) rfl rfl rfl)
              · rintro _ h
                try dsimp only at h ⊢
                unfold taskmilllaw_SyncGroups_j4 at h
                refine wk_id ?_
                refine seq_np ?_
                refine reg_f ?_
                refine rs 4 [] [] (by kernel_rfl) allP_nil ?_
                obtain ⟨r5142, hr5142, h⟩ := bind_sx h
                refine run_call 26 [.agg (Enc.cells c6q1), .sl g.Line.length (fl g.Line), iS task] (some 154) (by kernel_rfl) ?_
                refine call_0 (taskmillref_ComeFault_spec c6q1 g.Line task r5142 hr5142) (by simp only [push_cast, seval]) (by simp only [push_cast, seval]) ?_
                refine back_f ?_
                refine rs 1 [] [] (by kernel_rfl) allP_nil ?_
                refine rf [(2, iS task), (3, .ptr 0 0), (12, .ptr 1 0), (13, bS xin1), (14, .ptr 2 0), (16, .ptr 4 0)] [(0, .row 67 (Enc.cells g)), (1, .row 67 [iS c4_Count1, .own 5 0 c9q1.length]), (2, .row 29 (Enc.cells c5q1)), (3, .row 29 (Enc.cells c6q1)), (4, .row 29 (Enc.cells r5142)), (5, .row 3 (fl c9q1))] 6 (by kernel_rfl) ?_
                refine wk_id ?_
                refine seq_np ?_
                refine seq_np ?_
                refine reg_f ?_
                refine rs 3 [] [] (by kernel_rfl) allP_nil ?_
                refine rf [(2, iS task), (3, .ptr 0 0), (12, .ptr 1 0), (13, bS xin1), (16, .ptr 4 0), (157, bS (!((c5q1.Code == r5142.Code) && ((c5q1.At == r5142.At) && true))))] [(0, .row 67 (Enc.cells g)), (1, .row 67 [iS c4_Count1, .own 5 0 c9q1.length]), (2, .row 29 (Enc.cells c5q1)), (3, .row 29 (Enc.cells c6q1)), (4, .row 29 (Enc.cells r5142)), (5, .row 3 (fl c9q1))] 6 (by kernel_rfl) ?_
                refine wk_id ?_
                refine cond_sx h (by kernel_rfl) (fun g5180 h => ?_) (fun g5180 h => ?_)
                · refine seq_np ?_
                  refine reg_f ?_
                  refine rs 1 [] [] (by kernel_rfl) allP_nil ?_
                  refine rf [(6, bS false)] [(0, .row 67 (Enc.cells g)), (1, .row 67 [iS c4_Count1, .own 5 0 c9q1.length]), (2, .row 29 (Enc.cells c5q1)), (3, .row 29 (Enc.cells c6q1)), (4, .row 29 (Enc.cells r5142)), (5, .row 3 (fl c9q1))] 6 (by kernel_rfl) ?_
                  refine wk_id ?_
                  obtain rfl := Option.some.inj h
                  refine ret_at (bS false) (by kernel_rfl) ?_
                  exact ret_e [] [] (by simp only [push_cast, seval]) (by simp only [push_cast, seval]) rfl rfl rfl
                · refine wk_id ?_
                  refine seq_np ?_
                  refine seq_np ?_
                  refine reg_f ?_
                  refine rs 3 [] [] (by kernel_rfl) allP_nil ?_
                  refine rf [(2, iS task), (3, .ptr 0 0), (12, .ptr 1 0), (13, bS xin1), (160, bS (r5142.Code != 0))] [(0, .row 67 (Enc.cells g)), (1, .row 67 [iS c4_Count1, .own 5 0 c9q1.length]), (2, .row 29 (Enc.cells c5q1)), (3, .row 29 (Enc.cells c6q1)), (4, .row 29 (Enc.cells r5142)), (5, .row 3 (fl c9q1))] 6 (by kernel_rfl) ?_
                  refine wk_id ?_
                  refine cond_sx h (by kernel_rfl) (fun g5179 h => ?_) (fun g5179 h => ?_)
                  · refine seq_cut (A := Bool) (fun a => ([(6, bS a)], [], 0)) (fun a => (taskmilllaw_SyncGroups_j1 a) = some r) (fun K5152 hK5152 => ?_) ?_
                    · refine reg_f ?_
                      refine rs 2 [] [] (by kernel_rfl) allP_nil ?_
                      obtain ⟨r5153, hr5153, h⟩ := bind_sx h
                      refine call_x (taskmilllaw_sameGroup_spec (Group.mk c4_Count1 c9q1) (Group.mk 0 []) r5153 hr5153) (args := [.agg [iS c4_Count1, .own 5 0 c9q1.length], .agg [iS 0, .v (.slice none 0 0)]]) (dst := (some 163)) (by kernel_rfl) [(0, .row 67 (Enc.cells g)), (1, .row 67 [iS c4_Count1, .own 5 0 c9q1.length]), (2, .row 29 (Enc.cells c5q1)), (3, .row 29 (Enc.cells c6q1)), (4, .row 29 (Enc.cells r5142)), (5, .row 3 (fl c9q1))] 6 (by kernel_rfl) [] [5] (bS r5153) [] (by simp only [push_cast, seval]) (by simp only [push_cast, seval]) (by kernel_rfl) (.inr ⟨by simp only [push_cast, seval], by simp only [push_cast, seval]⟩) (by simp only [push_cast, seval]) (by simp only [push_cast, seval]) ?_
                      refine rs 1 [] [] (by kernel_rfl) allP_nil ?_
                      refine run_br h 164 (.inl (by kernel_rfl)) (fun g5154 h => ?_) (fun g5154 h => ?_)
                      · refine rs 4 [] [] (by kernel_rfl) allP_nil ?_
                        refine rf [(6, bS (!xin1))] [(0, .row 67 (Enc.cells g)), (1, .row 67 [iS c4_Count1, .own 5 0 c9q1.length]), (2, .row 29 (Enc.cells c5q1)), (3, .row 29 (Enc.cells c6q1)), (4, .row 29 (Enc.cells r5142)), (5, .row 3 (fl c9q1))] 6 (by kernel_rfl) ?_
                        exact hK5152 ((!xin1)) _ _ _ h (leSt_m [] [] (by (try simp only [g5154]) <;> simp only [push_cast, seval]) (by (try simp only [g5154]) <;> simp only [push_cast, seval]) rfl rfl rfl)
                      · refine rs 4 [] [] (by kernel_rfl) allP_nil ?_
                        refine rf [(6, bS false)] [(0, .row 67 (Enc.cells g)), (1, .row 67 [iS c4_Count1, .own 5 0 c9q1.length]), (2, .row 29 (Enc.cells c5q1)), (3, .row 29 (Enc.cells c6q1)), (4, .row 29 (Enc.cells r5142)), (5, .row 3 (fl c9q1))] 6 (by kernel_rfl) ?_
                        exact hK5152 (false) _ _ _ h (leSt_m [] [] (by (try simp only [g5154]) <;> simp only [push_cast, seval]) (by (try simp only [g5154]) <;> simp only [push_cast, seval]) rfl rfl rfl)
                    · rintro t6q4 h
                      try dsimp only at h ⊢
                      unfold taskmilllaw_SyncGroups_j1 at h
                      obtain rfl := Option.some.inj h
                      refine ret_at (bS t6q4) (by kernel_rfl) ?_
                      exact ret_e [] [] (by simp only [push_cast, seval]) (by simp only [push_cast, seval]) rfl rfl rfl
                  · refine wk_id ?_
                    refine seq_np ?_
                    refine seq_np ?_
                    refine reg_f ?_
                    refine rs 3 [] [] (by kernel_rfl) allP_nil ?_
                    refine rf [(2, iS task), (3, .ptr 0 0), (12, .ptr 1 0), (13, bS xin1), (170, bS (g.Count == 0))] [(0, .row 67 (Enc.cells g)), (1, .row 67 [iS c4_Count1, .own 5 0 c9q1.length]), (2, .row 29 (Enc.cells c5q1)), (3, .row 29 (Enc.cells c6q1)), (4, .row 29 (Enc.cells r5142)), (5, .row 3 (fl c9q1))] 6 (by kernel_rfl) ?_
                    refine wk_id ?_
                    refine cond_sx h (by kernel_rfl) (fun g5178 h => ?_) (fun g5178 h => ?_)
                    · refine seq_cut (A := Bool) (fun a => ([(6, bS a)], [], 0)) (fun a => (taskmilllaw_SyncGroups_j2 a) = some r) (fun K5163 hK5163 => ?_) ?_
                      · refine reg_f ?_
                        refine rs 2 [] [] (by kernel_rfl) allP_nil ?_
                        refine run_br h 172 (.inl (by kernel_rfl)) (fun g5164 h => ?_) (fun g5164 h => ?_)
                        · refine rs 2 [] [] (by kernel_rfl) allP_nil ?_
                          obtain ⟨r5165, hr5165, h⟩ := bind_sx h
                          refine call_x (taskmilllaw_sameGroup_spec (Group.mk c4_Count1 c9q1) g r5165 hr5165) (args := [.agg [iS c4_Count1, .own 5 0 c9q1.length], .agg (Enc.cells g)]) (dst := (some 175)) (by kernel_rfl) [(0, .row 67 (Enc.cells g)), (1, .row 67 [iS c4_Count1, .own 5 0 c9q1.length]), (2, .row 29 (Enc.cells c5q1)), (3, .row 29 (Enc.cells c6q1)), (4, .row 29 (Enc.cells r5142)), (5, .row 3 (fl c9q1))] 6 (by kernel_rfl) [] [5] (bS r5165) [] (by simp only [push_cast, seval]) (by simp only [push_cast, seval]) (by kernel_rfl) (.inr ⟨by simp only [push_cast, seval], by simp only [push_cast, seval]⟩) (by simp only [push_cast, seval]) (by simp only [push_cast, seval]) ?_
                          refine rs 2 [] [] (by kernel_rfl) allP_nil ?_
                          refine rf [(6, bS r5165)] [(0, .row 67 (Enc.cells g)), (1, .row 67 [iS c4_Count1, .own 5 0 c9q1.length]), (2, .row 29 (Enc.cells c5q1)), (3, .row 29 (Enc.cells c6q1)), (4, .row 29 (Enc.cells r5142)), (5, .row 3 (fl c9q1))] 6 (by kernel_rfl) ?_
                          exact hK5163 (r5165) _ _ _ h (leSt_m [] [] (by (try simp only [g5164]) <;> simp only [push_cast, seval]) (by (try simp only [g5164]) <;> simp only [push_cast, seval]) rfl rfl rfl)
                        · refine rs 5 [] [] (by kernel_rfl) allP_nil ?_
                          refine rf [(6, bS false)] [(0, .row 67 (Enc.cells g)), (1, .row 67 [iS c4_Count1, .own 5 0 c9q1.length]), (2, .row 29 (Enc.cells c5q1)), (3, .row 29 (Enc.cells c6q1)), (4, .row 29 (Enc.cells r5142)), (5, .row 3 (fl c9q1))] 6 (by kernel_rfl) ?_
                          exact hK5163 (false) _ _ _ h (leSt_m [] [] (by (try simp only [g5164]) <;> simp only [push_cast, seval]) (by (try simp only [g5164]) <;> simp only [push_cast, seval]) rfl rfl rfl)
                      · rintro t6q6 h
                        try dsimp only at h ⊢
                        unfold taskmilllaw_SyncGroups_j2 at h
                        obtain rfl := Option.some.inj h
                        refine ret_at (bS t6q6) (by kernel_rfl) ?_
                        exact ret_e [] [] (by simp only [push_cast, seval]) (by simp only [push_cast, seval]) rfl rfl rfl
                    · refine wk_id ?_
                      refine seq_cut (A := Bool) (fun a => ([(6, bS a)], [], 0)) (fun a => (taskmilllaw_SyncGroups_j3 a) = some r) (fun K5172 hK5172 => ?_) ?_
                      · refine reg_t ?_
                        refine rs 3 [] [] (by kernel_rfl) allP_nil ?_
                        refine run_br h 179 (.inl (by kernel_rfl)) (fun g5173 h => ?_) (fun g5173 h => ?_)
                        · refine rs 5 [] [] (by kernel_rfl) allP_nil ?_
                          obtain ⟨r5174, hr5174, h⟩ := bind_sx h
                          refine call_x (taskmilllaw_own_spec g.Line r5174 hr5174) (args := [.sl g.Line.length (fl g.Line)]) (dst := (some 185)) (by kernel_rfl) [(0, .row 67 (Enc.cells g)), (1, .row 67 [iS c4_Count1, .own 5 0 c9q1.length]), (2, .row 29 (Enc.cells c5q1)), (3, .row 29 (Enc.cells c6q1)), (4, .row 29 (Enc.cells r5142)), (5, .row 3 (fl c9q1))] 14 (by kernel_rfl) [] [] (.own 14 0 r5174.length) [(14, .row 3 (fl r5174))] (by simp only [push_cast, seval]) (by simp only [push_cast, seval]) (by kernel_rfl) (.inl rfl) (by simp only [push_cast, seval]) (by simp only [push_cast, seval]) ?_
                          refine chk_sx h (fun g5176 h => ?_)
                          have k5175 : (r5174 ++ ([task] : List Int)).length * 8 ≤ 140737488355328 := by first | simpa only [Bool.and_eq_true, decide_eq_true_eq, bne_iff_ne, ne_eq] using g5176 | (simp at g5176 ⊢; omega)
                          refine rs 4 [none, none, some ⟨.own 19 0 (r5174 ++ ([task] : List Int)).length, [(19, .row 3 (fl (r5174 ++ ([task] : List Int)))), (14, .dead)], 20, [14, 17]⟩] _ (by kernel_rfl) (allP_cons (ob_app (P := Try.prog) r5174 ([task] : List Int) 1 8 rfl (appCells (fl ([task] : List Int)) 0 (([task] : List Int).length * 1)) ([task] : List Int).length (app_own ([task] : List Int) 1 rfl) rfl (0 + ([task] : List Int).length * 1 ≤ (fl ([task] : List Int)).length) (app_own_le ([task] : List Int) 1 rfl) 3 (by kernel_rfl) (by decide) k5175 14 19 [17]) allP_nil) ?_
                          obtain ⟨r5177, hr5177, h⟩ := bind_sx h
                          refine call_x (taskmilllaw_sameGroup_spec (Group.mk c4_Count1 c9q1) (Group.mk g.Count (r5174 ++ ([task] : List Int))) r5177 hr5177) (args := [.agg [iS c4_Count1, .own 5 0 c9q1.length], .agg [iS g.Count, .own 19 0 (r5174 ++ ([task] : List Int)).length]]) (dst := (some 190)) (by kernel_rfl) [(0, .row 67 (Enc.cells g)), (1, .row 67 [iS c4_Count1, .own 5 0 c9q1.length]), (2, .row 29 (Enc.cells c5q1)), (3, .row 29 (Enc.cells c6q1)), (4, .row 29 (Enc.cells r5142)), (5, .row 3 (fl c9q1)), (14, .dead), (17, .row 3 (fl ([task] : List Int))), (19, .row 3 (fl (r5174 ++ ([task] : List Int))))] 22 (by kernel_rfl) [] [5, 19] (bS r5177) [] (by simp only [push_cast, seval]) (by simp only [push_cast, seval]) (by kernel_rfl) (.inr ⟨by simp only [push_cast, seval], by simp only [push_cast, seval]⟩) (by simp only [push_cast, seval]) (by simp only [push_cast, seval]) ?_
                          refine rs 2 [] [] (by kernel_rfl) allP_nil ?_
                          refine rt [(6, bS r5177)] [(0, .row 67 (Enc.cells g)), (1, .row 67 [iS c4_Count1, .own 5 0 c9q1.length]), (2, .row 29 (Enc.cells c5q1)), (3, .row 29 (Enc.cells c6q1)), (4, .row 29 (Enc.cells r5142)), (5, .row 3 (fl c9q1)), (14, .dead), (17, .row 3 (fl ([task] : List Int))), (19, .row 3 (fl (r5174 ++ ([task] : List Int))))] 25 follows (by kernel_rfl) ?_
                          exact hK5172 (r5177) _ _ _ h (leSt_m [] [] (by (try simp only [g5173]) <;> simp only [push_cast, seval]) (by (try simp only [g5173]) <;> simp only [push_cast, seval]) rfl rfl rfl)
                        · refine rs 13 [] [] (by kernel_rfl) allP_nil ?_
                          refine rt [(6, bS false)] [(0, .row 67 (Enc.cells g)), (1, .row 67 [iS c4_Count1, .own 5 0 c9q1.length]), (2, .row 29 (Enc.cells c5q1)), (3, .row 29 (Enc.cells c6q1)), (4, .row 29 (Enc.cells r5142)), (5, .row 3 (fl c9q1))] 22 follows (by kernel_rfl) ?_
                          exact hK5172 (false) _ _ _ h (leSt_m [] [] (by (try simp only [g5173]) <;> simp only [push_cast, seval]) (by (try simp only [g5173]) <;> simp only [push_cast, seval]) rfl rfl rfl)
                      · rintro t6q7 h
                        try dsimp only at h ⊢
                        unfold taskmilllaw_SyncGroups_j3 at h
                        obtain rfl := Option.some.inj h
                        refine ret_at (bS t6q7) (by kernel_rfl) ?_
                        exact ret_e [] [] (by simp only [push_cast, seval]) (by simp only [push_cast, seval]) rfl rfl rfl

set_option maxRecDepth 100000 in
set_option maxHeartbeats 10000000 in
theorem taskmilllaw_SyncWaits_spec (adds : (List Int)) (tasks : Int) (r : Bool) (h : taskmilllaw_SyncWaits adds tasks = some r) : SpecW Try.prog 11 [.sl adds.length (fl adds), iS tasks] [] 0 (fun x h n => x = bS r ∧ h = [] ∧ n = 0) := by
  unfold taskmilllaw_SyncWaits at h
  refine spec_of (draw_ok _) Try.func11 rfl (by decide) rfl (by kernel_rfl) ?_
  refine seq_np ?_
  refine reg_f ?_
  refine rs 1 [] [] (by kernel_rfl) allP_nil ?_
  refine rf [(0, .sl adds.length (fl adds)), (1, iS tasks)] [] 0 (by kernel_rfl) ?_
  refine wk_id ?_
  refine seq_np ?_
  refine seq_np ?_
  refine reg_f ?_
  obtain ⟨r5325, hr5325, h⟩ := bind_sx h
  refine run_call 12 [] (some 26) (by kernel_rfl) ?_
  refine call_0 (taskmilllaw_syncBegun_spec r5325 hr5325) (by simp only [push_cast, seval]) (by simp only [push_cast, seval]) ?_
  refine back_f ?_
  refine rs 1 [] [] (by kernel_rfl) allP_nil ?_
  refine rf [(0, .sl adds.length (fl adds)), (1, iS tasks), (27, bS (!r5325))] [] 0 (by kernel_rfl) ?_
  refine wk_id ?_
  refine cond_sx h (by kernel_rfl) (fun g5859 h => ?_) (fun g5859 h => ?_)
  · refine seq_np ?_
    refine reg_f ?_
    refine rs 1 [] [] (by kernel_rfl) allP_nil ?_
    refine rf [(4, bS false)] [] 0 (by kernel_rfl) ?_
    refine wk_id ?_
    obtain rfl := Option.some.inj h
    refine ret_at (bS false) (by kernel_rfl) ?_
    exact ret_e [] [] (by simp only [push_cast, seval]) (by simp only [push_cast, seval]) rfl rfl rfl
  · refine wk_id ?_
    refine seq_np ?_
    refine seq_cut (A := Unit) (fun _ => ([(0, .sl adds.length (fl adds)), (1, iS tasks), (38, bS ((decide ((100 : Int) < ((adds.length : Nat) : Int))) || ((decide (tasks < 0)) || (decide ((50 : Int) < tasks)))))], [], 0)) (fun _ => True) (fun K5331 hK5331 => ?_) (fun _ _ => ?_)
    · refine reg_f ?_
      refine rs 4 [] [] (by kernel_rfl) allP_nil ?_
      refine run_split 31 (decide ((100 : Int) < ((adds.length : Nat) : Int))) (.inl (by kernel_rfl)) (fun g5332 => ?_) (fun g5332 => ?_)
      · refine rs 7 [] [] (by kernel_rfl) allP_nil ?_
        refine rf [(0, .sl adds.length (fl adds)), (1, iS tasks), (38, bS true)] [] 0 (by kernel_rfl) ?_
        exact hK5331 () _ _ _ trivial (leSt_m [] [] (by (try simp only [g5332]) <;> simp only [push_cast, seval]) (by (try simp only [g5332]) <;> simp only [push_cast, seval]) rfl rfl rfl)
      · refine rs 4 [] [] (by kernel_rfl) allP_nil ?_
        refine run_split 35 (decide (tasks < 0)) (.inl (by kernel_rfl)) (fun g5333 => ?_) (fun g5333 => ?_)
        · refine rs 3 [] [] (by kernel_rfl) allP_nil ?_
          refine rf [(0, .sl adds.length (fl adds)), (1, iS tasks), (38, bS true)] [] 0 (by kernel_rfl) ?_
          exact hK5331 () _ _ _ trivial (leSt_m [] [] (by (try simp only [g5332, g5333]) <;> simp only [push_cast, seval]) (by (try simp only [g5332, g5333]) <;> simp only [push_cast, seval]) rfl rfl rfl)
        · refine rs 3 [] [] (by kernel_rfl) allP_nil ?_
          refine rf [(0, .sl adds.length (fl adds)), (1, iS tasks), (38, bS (decide ((50 : Int) < tasks)))] [] 0 (by kernel_rfl) ?_
          exact hK5331 () _ _ _ trivial (leSt_m [] [] (by (try simp only [g5332, g5333]) <;> simp only [push_cast, seval]) (by (try simp only [g5332, g5333]) <;> simp only [push_cast, seval]) rfl rfl rfl)
    · dsimp only
      refine cond_sx h (by kernel_rfl) (fun g5858 h => ?_) (fun g5858 h => ?_)
      · refine seq_np ?_
        refine reg_f ?_
        refine rs 1 [] [] (by kernel_rfl) allP_nil ?_
        refine rf [(4, bS true)] [] 0 (by kernel_rfl) ?_
        refine wk_id ?_
        obtain rfl := Option.some.inj h
        refine ret_at (bS true) (by kernel_rfl) ?_
        exact ret_e [] [] (by simp only [push_cast, seval]) (by simp only [push_cast, seval]) rfl rfl rfl
      · refine wk_id ?_
        refine seq_np ?_
        refine reg_f ?_
        refine rs 3 [] [] (by kernel_rfl) allP_nil ?_
        refine rf [(0, .sl adds.length (fl adds)), (1, iS tasks), (5, .ptr 0 0)] [(0, .row 67 [iS 0, .v (.slice none 0 0)])] 1 (by kernel_rfl) ?_
        refine wk_id ?_
        refine seq_np ?_
        refine reg_f ?_
        refine rs 1 [] [] (by kernel_rfl) allP_nil ?_
        refine rf [(0, .sl adds.length (fl adds)), (1, iS tasks), (5, .ptr 0 0), (6, iS 0)] [(0, .row 67 [iS 0, .v (.slice none 0 0)])] 1 (by kernel_rfl) ?_
        refine wk_id ?_
        refine seq_np ?_
        refine seq_np ?_
        refine reg_f ?_
        refine rs 1 [] [] (by kernel_rfl) allP_nil ?_
        refine rf [(0, .sl adds.length (fl adds)), (1, iS tasks), (5, .ptr 0 0), (6, iS 0), (7, iS 0)] [(0, .row 67 [iS 0, .v (.slice none 0 0)])] 1 (by kernel_rfl) ?_
        refine wk_id ?_
        refine block_np ?_
        refine loop_sx (S := Int × Int × Int × (List Int)) (fun a => ([(0, .sl adds.length (fl adds)), (1, iS tasks), (5, .ptr 0 0), (6, iS a.1), (7, iS a.2.1)], [(0, .row 67 [iS a.2.2.1, .own 1 0 a.2.2.2.length]), (1, .row 3 (fl a.2.2.2))], 2)) h (leSt_m [(0, 0)] [] (by simp only [push_cast, seval]) (by simp only [push_cast, seval]) rfl rfl rfl) ?_
        rintro ⟨sum9, i9, c0_Count11, c1q12⟩ o4 R4 h hr4 hn4 hx4 ht4
        try dsimp only at h hn4 ⊢
        unfold taskmilllaw_SyncWaits_l3 at h
        try dsimp only at h
        refine seq_np ?_
        refine seq_np ?_
        refine reg_f ?_
        refine rs 4 [] [] (by kernel_rfl) allP_nil ?_
        refine rf [(0, .sl adds.length (fl adds)), (1, iS tasks), (5, .ptr 0 0), (6, iS sum9), (7, iS i9), (43, bS (decide (i9 < ((adds.length : Nat) : Int))))] [(0, .row 67 [iS c0_Count11, .own 1 0 c1q12.length]), (1, .row 3 (fl c1q12))] 2 (by kernel_rfl) ?_
        refine wk_id ?_
        refine cond_sx h (by kernel_rfl) (fun g5857 h => ?_) (fun g5857 h => ?_)
        · refine wk_id ?_
          refine seq_np ?_
          refine block_np ?_
          refine seq_np ?_
          refine chk_sx h (fun g5499 h => ?_)
          refine chk_sx h (fun g5502 h => ?_)
          refine seq_cut (A := Unit) (fun _ => ([(0, .sl adds.length (fl adds)), (1, iS tasks), (5, .ptr 0 0), (6, iS sum9), (7, iS i9), (57, bS ((decide ((ix adds i9) < 1)) || (decide ((1000 : Int) < (ix adds i9)))))], [(0, .row 67 [iS c0_Count11, .own 1 0 c1q12.length]), (1, .row 3 (fl c1q12))], 2)) (fun _ => True) (fun K5497 hK5497 => ?_) (fun _ _ => ?_)
          · refine reg_f ?_
            have k5498 : 0 ≤ i9 ∧ i9 < ((adds.length : Nat) : Int) := by first | simpa only [Bool.and_eq_true, decide_eq_true_eq, bne_iff_ne, ne_eq] using g5499 | (simp at g5499 ⊢; omega)
            refine rs 6 [none, none, some ⟨.iptr (fl adds) ((i9).toNat * 1), [], 2, []⟩, some ⟨iS (ix adds i9), [], 2, []⟩] _ (by kernel_rfl) (allP_cons (ob_ld adds i9 1 0 ((i9).toNat * 1) k5498 rfl (by decide) (by first | rfl | omega) (dflS Try.prog 3) (iS (ix adds i9)) rfl 2 []) (allP_cons (ob_ix_l adds 1 2 i9 k5498) allP_nil)) ?_
            refine run_split 51 (decide ((ix adds i9) < 1)) (.inl (by kernel_rfl)) (fun g5500 => ?_) (fun g5500 => ?_)
            · refine rs 6 [] [] (by kernel_rfl) allP_nil ?_
              refine rf [(0, .sl adds.length (fl adds)), (1, iS tasks), (5, .ptr 0 0), (6, iS sum9), (7, iS i9), (57, bS true)] [(0, .row 67 [iS c0_Count11, .own 1 0 c1q12.length]), (1, .row 3 (fl c1q12))] 2 (by kernel_rfl) ?_
              exact hK5497 () _ _ _ trivial (leSt_m [(0, 0), (1, 1)] [] (by (try simp only [g5500]) <;> simp only [push_cast, seval]) (by (try simp only [g5500]) <;> simp only [push_cast, seval]) rfl rfl rfl)
            · have k5501 : 0 ≤ i9 ∧ i9 < ((adds.length : Nat) : Int) := by have e := or_use g5502 (by (try simp only [g5500]) <;> rfl); first | simpa only [Bool.and_eq_true, decide_eq_true_eq, bne_iff_ne, ne_eq] using e | (simp at e ⊢; omega)
              refine rs 6 [none, none, some ⟨.iptr (fl adds) ((i9).toNat * 1), [], 2, []⟩, some ⟨iS (ix adds i9), [], 2, []⟩] _ (by kernel_rfl) (allP_cons (ob_ld adds i9 1 0 ((i9).toNat * 1) k5501 rfl (by decide) (by first | rfl | omega) (dflS Try.prog 3) (iS (ix adds i9)) rfl 2 []) (allP_cons (ob_ix_l adds 1 2 i9 k5501) allP_nil)) ?_
              refine rf [(0, .sl adds.length (fl adds)), (1, iS tasks), (5, .ptr 0 0), (6, iS sum9), (7, iS i9), (57, bS (decide ((1000 : Int) < (ix adds i9))))] [(0, .row 67 [iS c0_Count11, .own 1 0 c1q12.length]), (1, .row 3 (fl c1q12))] 2 (by kernel_rfl) ?_
              exact hK5497 () _ _ _ trivial (leSt_m [(0, 0), (1, 1)] [] (by (try simp only [g5500]) <;> simp only [push_cast, seval]) (by (try simp only [g5500]) <;> simp only [push_cast, seval]) rfl rfl rfl)
          · dsimp only
            refine cond_sx h (by kernel_rfl) (fun g5522 h => ?_) (fun g5522 h => ?_)
            · refine seq_np ?_
              refine reg_f ?_
              refine rs 1 [] [] (by kernel_rfl) allP_nil ?_
              refine rf [(4, bS true)] [(0, .row 67 [iS c0_Count11, .own 1 0 c1q12.length]), (1, .row 3 (fl c1q12))] 2 (by kernel_rfl) ?_
              refine wk_id ?_
              refine rt_cast ht4 ?_
              obtain ⟨r0, h, e0⟩ := map_sx h
              have e1 := hr4 r0 e0.symm
              subst r0
              obtain rfl := Option.some.inj h
              refine ret_at (bS true) (by kernel_rfl) ?_
              exact ret_e [] [] (by simp only [push_cast, seval]) (by simp only [push_cast, seval]) rfl rfl rfl
            · refine wk_id ?_
              refine chk_sx h (fun g5507 h => ?_)
              refine seq_np ?_
              refine reg_t ?_
              have k5506 : 0 ≤ i9 ∧ i9 < ((adds.length : Nat) : Int) := by first | simpa only [Bool.and_eq_true, decide_eq_true_eq, bne_iff_ne, ne_eq] using g5507 | (simp at g5507 ⊢; omega)
              refine rs 5 [none, none, none, some ⟨.iptr (fl adds) ((i9).toNat * 1), [], 5, []⟩, some ⟨iS (ix adds i9), [], 6, []⟩] _ (by kernel_rfl) (allP_cons (ob_ld adds i9 1 0 ((i9).toNat * 1) k5506 rfl (by decide) (by first | rfl | omega) (dflS Try.prog 3) (iS (ix adds i9)) rfl 6 []) (allP_cons (ob_ix_l adds 1 5 i9 k5506) allP_nil)) ?_
              obtain ⟨r5508, hr5508, h⟩ := bind_sx h
              refine call_x (sync_Add_spec (Group.mk c0_Count11 c1q12) (ix adds i9) r5508 hr5508) (args := [.agg [iS c0_Count11, .own 1 0 c1q12.length], iS (ix adds i9)]) (dst := (some 64)) (by kernel_rfl) [(0, .row 67 [iS c0_Count11, .own 1 0 c1q12.length]), (1, .row 3 (fl c1q12))] 7 (by kernel_rfl) [] [1] (.tup [.agg [iS r5508.1, .own 7 0 r5508.2.2.2.1.length], .own 8 0 r5508.2.2.2.2.length, bS r5508.2.1, .agg (Enc.cells r5508.2.2.1)]) [(7, .row 3 (fl r5508.2.2.2.1)), (8, .row 3 (fl r5508.2.2.2.2))] (by simp only [push_cast, seval]) (by simp only [push_cast, seval]) (by kernel_rfl) (.inr ⟨by simp only [push_cast, seval], by simp only [push_cast, seval]⟩) (by simp only [push_cast, seval]) (by simp only [push_cast, seval]) ?_
              refine rs 11 [] [] (by kernel_rfl) allP_nil ?_
              refine rt [(0, .sl adds.length (fl adds)), (1, iS tasks), (5, .ptr 0 0), (6, iS sum9), (7, iS i9), (8, .ptr 15 0), (9, .own 8 0 r5508.2.2.2.2.length), (10, bS r5508.2.1), (11, .ptr 17 0)] [(0, .row 67 [iS c0_Count11, .own 1 0 c1q12.length]), (1, .row 3 (fl c1q12)), (7, .row 3 (fl r5508.2.2.2.1)), (8, .row 3 (fl r5508.2.2.2.2)), (15, .row 67 [iS r5508.1, .own 7 0 r5508.2.2.2.1.length]), (17, .row 29 (Enc.cells r5508.2.2.1))] 23 follows (by kernel_rfl) ?_
              refine wk_id ?_
              refine seq_np ?_
              refine seq_cut (A := Unit) (fun _ => ([(0, .sl adds.length (fl adds)), (1, iS tasks), (5, .ptr 0 0), (6, iS sum9), (7, iS i9), (8, .ptr 15 0), (79, bS ((r5508.2.2.1.Code != 0) || (r5508.2.1 || (decide ((0 : Int) < ((r5508.2.2.2.2.length : Nat) : Int))))))], [(0, .row 67 [iS c0_Count11, .own 1 0 c1q12.length]), (1, .row 3 (fl c1q12)), (7, .row 3 (fl r5508.2.2.2.1)), (8, .row 3 (fl r5508.2.2.2.2)), (15, .row 67 [iS r5508.1, .own 7 0 r5508.2.2.2.1.length]), (17, .row 29 (Enc.cells r5508.2.2.1))], 23)) (fun _ => True) (fun K5514 hK5514 => ?_) (fun _ _ => ?_)
              · refine reg_f ?_
                refine rs 4 [] [] (by kernel_rfl) allP_nil ?_
                refine run_split 72 (r5508.2.2.1.Code != 0) (.inl (by kernel_rfl)) (fun g5515 => ?_) (fun g5515 => ?_)
                · refine rs 7 [] [] (by kernel_rfl) allP_nil ?_
                  refine rf [(0, .sl adds.length (fl adds)), (1, iS tasks), (5, .ptr 0 0), (6, iS sum9), (7, iS i9), (8, .ptr 15 0), (79, bS true)] [(0, .row 67 [iS c0_Count11, .own 1 0 c1q12.length]), (1, .row 3 (fl c1q12)), (7, .row 3 (fl r5508.2.2.2.1)), (8, .row 3 (fl r5508.2.2.2.2)), (15, .row 67 [iS r5508.1, .own 7 0 r5508.2.2.2.1.length]), (17, .row 29 (Enc.cells r5508.2.2.1))] 23 (by kernel_rfl) ?_
                  exact hK5514 () _ _ _ trivial (leSt_m [(0, 0), (1, 1), (7, 7), (8, 8), (15, 15), (17, 17)] [] (by (try simp only [g5515]) <;> simp only [push_cast, seval]) (by (try simp only [g5515]) <;> simp only [push_cast, seval]) rfl rfl rfl)
                · refine rs 3 [] [] (by kernel_rfl) allP_nil ?_
                  refine run_split 75 r5508.2.1 (.inl (by kernel_rfl)) (fun g5516 => ?_) (fun g5516 => ?_)
                  · refine rs 4 [] [] (by kernel_rfl) allP_nil ?_
                    refine rf [(0, .sl adds.length (fl adds)), (1, iS tasks), (5, .ptr 0 0), (6, iS sum9), (7, iS i9), (8, .ptr 15 0), (79, bS true)] [(0, .row 67 [iS c0_Count11, .own 1 0 c1q12.length]), (1, .row 3 (fl c1q12)), (7, .row 3 (fl r5508.2.2.2.1)), (8, .row 3 (fl r5508.2.2.2.2)), (15, .row 67 [iS r5508.1, .own 7 0 r5508.2.2.2.1.length]), (17, .row 29 (Enc.cells r5508.2.2.1))] 23 (by kernel_rfl) ?_
                    exact hK5514 () _ _ _ trivial (leSt_m [(0, 0), (1, 1), (7, 7), (8, 8), (15, 15), (17, 17)] [] (by (try simp only [g5515, g5516]) <;> simp only [push_cast, seval]) (by (try simp only [g5515, g5516]) <;> simp only [push_cast, seval]) rfl rfl rfl)
                  · refine rs 4 [] [] (by kernel_rfl) allP_nil ?_
                    refine rf [(0, .sl adds.length (fl adds)), (1, iS tasks), (5, .ptr 0 0), (6, iS sum9), (7, iS i9), (8, .ptr 15 0), (79, bS (decide ((0 : Int) < ((r5508.2.2.2.2.length : Nat) : Int))))] [(0, .row 67 [iS c0_Count11, .own 1 0 c1q12.length]), (1, .row 3 (fl c1q12)), (7, .row 3 (fl r5508.2.2.2.1)), (8, .row 3 (fl r5508.2.2.2.2)), (15, .row 67 [iS r5508.1, .own 7 0 r5508.2.2.2.1.length]), (17, .row 29 (Enc.cells r5508.2.2.1))] 23 (by kernel_rfl) ?_
                    exact hK5514 () _ _ _ trivial (leSt_m [(0, 0), (1, 1), (7, 7), (8, 8), (15, 15), (17, 17)] [] (by (try simp only [g5515, g5516]) <;> simp only [push_cast, seval]) (by (try simp only [g5515, g5516]) <;> simp only [push_cast, seval]) rfl rfl rfl)
              · dsimp only
                refine cond_sx h (by kernel_rfl) (fun g5521 h => ?_) (fun g5521 h => ?_)
                · refine seq_np ?_
                  refine reg_f ?_
                  refine rs 1 [] [] (by kernel_rfl) allP_nil ?_
                  refine rf [(4, bS false)] [(0, .row 67 [iS c0_Count11, .own 1 0 c1q12.length]), (1, .row 3 (fl c1q12)), (7, .row 3 (fl r5508.2.2.2.1)), (8, .row 3 (fl r5508.2.2.2.2)), (15, .row 67 [iS r5508.1, .own 7 0 r5508.2.2.2.1.length]), (17, .row 29 (Enc.cells r5508.2.2.1))] 23 (by kernel_rfl) ?_
                  refine wk_id ?_
                  refine rt_cast ht4 ?_
                  obtain ⟨r0, h, e0⟩ := map_sx h
                  have e1 := hr4 r0 e0.symm
                  subst r0
                  obtain rfl := Option.some.inj h
                  refine ret_at (bS false) (by kernel_rfl) ?_
                  exact ret_e [] [] (by simp only [push_cast, seval]) (by simp only [push_cast, seval]) rfl rfl rfl
                · refine wk_id ?_
                  refine seq_np ?_
                  refine reg_f ?_
                  refine rs 2 [] [] (by kernel_rfl) allP_nil ?_
                  refine rf [(0, .sl adds.length (fl adds)), (1, iS tasks), (5, .ptr 0 0), (6, iS sum9), (7, iS i9)] [(0, .row 67 [iS r5508.1, .own 7 0 r5508.2.2.2.1.length]), (1, .row 3 (fl c1q12)), (7, .row 3 (fl r5508.2.2.2.1)), (8, .row 3 (fl r5508.2.2.2.2)), (15, .row 67 [iS r5508.1, .own 7 0 r5508.2.2.2.1.length]), (17, .row 29 (Enc.cells r5508.2.2.1))] 23 (by kernel_rfl) ?_
                  refine wk_id ?_
                  refine chk_sx h (fun g5520 h => ?_)
                  refine reg_f ?_
                  have k5519 : 0 ≤ i9 ∧ i9 < ((adds.length : Nat) : Int) := by first | simpa only [Bool.and_eq_true, decide_eq_true_eq, bne_iff_ne, ne_eq] using g5520 | (simp at g5520 ⊢; omega)
                  refine rs 7 [none, none, none, some ⟨.iptr (fl adds) ((i9).toNat * 1), [], 23, []⟩, some ⟨iS (ix adds i9), [], 23, []⟩] _ (by kernel_rfl) (allP_cons (ob_ld adds i9 1 0 ((i9).toNat * 1) k5519 rfl (by decide) (by first | rfl | omega) (dflS Try.prog 3) (iS (ix adds i9)) rfl 23 []) (allP_cons (ob_ix_l adds 1 23 i9 k5519) allP_nil)) ?_
                  refine rf [(0, .sl adds.length (fl adds)), (1, iS tasks), (5, .ptr 0 0), (6, iS (IntKind.i64.wrap (sum9 + (ix adds i9)))), (7, iS i9)] [(0, .row 67 [iS r5508.1, .own 7 0 r5508.2.2.2.1.length]), (1, .row 3 (fl c1q12)), (7, .row 3 (fl r5508.2.2.2.1)), (8, .row 3 (fl r5508.2.2.2.2)), (15, .row 67 [iS r5508.1, .own 7 0 r5508.2.2.2.1.length]), (17, .row 29 (Enc.cells r5508.2.2.1))] 23 (by kernel_rfl) ?_
                  refine wk_id ?_
                  refine wk_id ?_
                  refine reg_f ?_
                  refine rs 3 [] [] (by kernel_rfl) allP_nil ?_
                  refine rf [(0, .sl adds.length (fl adds)), (1, iS tasks), (5, .ptr 0 0), (6, iS (IntKind.i64.wrap (sum9 + (ix adds i9)))), (7, iS (IntKind.i64.wrap (i9 + 1)))] [(0, .row 67 [iS r5508.1, .own 7 0 r5508.2.2.2.1.length]), (1, .row 3 (fl c1q12)), (7, .row 3 (fl r5508.2.2.2.1)), (8, .row 3 (fl r5508.2.2.2.2)), (15, .row 67 [iS r5508.1, .own 7 0 r5508.2.2.2.1.length]), (17, .row 29 (Enc.cells r5508.2.2.1))] 23 (by kernel_rfl) ?_
                  exact hn4 ((IntKind.i64.wrap (sum9 + (ix adds i9))), (IntKind.i64.wrap (i9 + 1)), r5508.1, r5508.2.2.2.1) _ _ _ (Option.some.inj h).symm (leSt_m [(0, 0), (1, 7)] [] (by simp only [push_cast, seval]) (by simp only [push_cast, seval]) rfl rfl rfl)
        · refine ex_cast hx4 (id := 0) ?_
          obtain ⟨r0, h, e0⟩ := map_sx h
          have e1 := hr4 r0 e0.symm
          subst r0
          refine wk_id ?_
          refine wk_id ?_
          refine seq_np ?_
          refine reg_f ?_
          refine rs 1 [] [] (by kernel_rfl) allP_nil ?_
          refine rf [(0, .sl adds.length (fl adds)), (1, iS tasks), (5, .ptr 0 0), (6, iS sum9), (12, .v (.slice none 0 0))] [(0, .row 67 [iS c0_Count11, .own 1 0 c1q12.length]), (1, .row 3 (fl c1q12))] 2 (by kernel_rfl) ?_
          refine wk_id ?_
          refine seq_np ?_
          refine seq_np ?_
          refine reg_f ?_
          refine rs 1 [] [] (by kernel_rfl) allP_nil ?_
          refine rf [(0, .sl adds.length (fl adds)), (1, iS tasks), (5, .ptr 0 0), (6, iS sum9), (12, .v (.slice none 0 0)), (13, iS 1)] [(0, .row 67 [iS c0_Count11, .own 1 0 c1q12.length]), (1, .row 3 (fl c1q12))] 2 (by kernel_rfl) ?_
          refine wk_id ?_
          refine block_np ?_
          refine loop_sx (S := Int × Int × (List Int) × (List Int)) (fun a => ([(0, .sl adds.length (fl adds)), (1, iS tasks), (5, .ptr 0 0), (6, iS sum9), (12, .own 1 0 a.2.2.1.length), (13, iS a.1)], [(0, .row 67 [iS a.2.1, .own 2 0 a.2.2.2.length]), (1, .row 3 (fl a.2.2.1)), (2, .row 3 (fl a.2.2.2))], 3)) h (leSt_m [(0, 0), (2, 1)] [] (by simp only [push_cast, seval]) (by simp only [push_cast, seval]) rfl rfl rfl) ?_
          rintro ⟨t7, c0_Count17, c1q26, c2q9⟩ o5 R5 h hr5 hn5 hx5 ht5
          try dsimp only at h hn5 ⊢
          unfold taskmilllaw_SyncWaits_l2 at h
          try dsimp only at h
          refine seq_np ?_
          refine seq_np ?_
          refine reg_f ?_
          refine rs 3 [] [] (by kernel_rfl) allP_nil ?_
          refine rf [(0, .sl adds.length (fl adds)), (1, iS tasks), (5, .ptr 0 0), (6, iS sum9), (12, .own 1 0 c1q26.length), (13, iS t7), (89, bS (decide (t7 ≤ tasks)))] [(0, .row 67 [iS c0_Count17, .own 2 0 c2q9.length]), (1, .row 3 (fl c1q26)), (2, .row 3 (fl c2q9))] 3 (by kernel_rfl) ?_
          refine wk_id ?_
          refine cond_sx h (by kernel_rfl) (fun g5856 h => ?_) (fun g5856 h => ?_)
          · refine wk_id ?_
            refine seq_np ?_
            refine block_np ?_
            refine seq_np ?_
            refine reg_f ?_
            refine rs 2 [] [] (by kernel_rfl) allP_nil ?_
            obtain ⟨r5616, hr5616, h⟩ := bind_sx h
            refine call_x (sync_Await_spec (Group.mk c0_Count17 c2q9) t7 r5616 hr5616) (args := [.agg [iS c0_Count17, .own 2 0 c2q9.length], iS t7]) (dst := (some 95)) (by kernel_rfl) [(0, .row 67 [iS c0_Count17, .own 2 0 c2q9.length]), (1, .row 3 (fl c1q26)), (2, .row 3 (fl c2q9))] 3 (by kernel_rfl) [] [2] (.tup [.agg [iS r5616.1, .own 3 0 r5616.2.2.2.length], bS r5616.2.1, .agg (Enc.cells r5616.2.2.1)]) [(3, .row 3 (fl r5616.2.2.2))] (by simp only [push_cast, seval]) (by simp only [push_cast, seval]) (by kernel_rfl) (.inr ⟨by simp only [push_cast, seval], by simp only [push_cast, seval]⟩) (by simp only [push_cast, seval]) (by simp only [push_cast, seval]) ?_
            refine rs 9 [] [] (by kernel_rfl) allP_nil ?_
            refine rf [(0, .sl adds.length (fl adds)), (1, iS tasks), (5, .ptr 0 0), (6, iS sum9), (12, .own 1 0 c1q26.length), (13, iS t7), (14, .ptr 4 0), (15, bS r5616.2.1), (16, .ptr 5 0)] [(0, .row 67 [iS c0_Count17, .own 2 0 c2q9.length]), (1, .row 3 (fl c1q26)), (2, .row 3 (fl c2q9)), (3, .row 3 (fl r5616.2.2.2)), (4, .row 67 [iS r5616.1, .own 3 0 r5616.2.2.2.length]), (5, .row 29 (Enc.cells r5616.2.2.1))] 6 (by kernel_rfl) ?_
            refine wk_id ?_
            refine seq_np ?_
            refine seq_cut (A := Unit) (fun _ => ([(0, .sl adds.length (fl adds)), (1, iS tasks), (5, .ptr 0 0), (6, iS sum9), (12, .own 1 0 c1q26.length), (13, iS t7), (14, .ptr 4 0), (15, bS r5616.2.1), (107, bS ((r5616.2.2.1.Code != 0) || (r5616.2.1 != (sum9 == 0))))], [(0, .row 67 [iS c0_Count17, .own 2 0 c2q9.length]), (1, .row 3 (fl c1q26)), (2, .row 3 (fl c2q9)), (3, .row 3 (fl r5616.2.2.2)), (4, .row 67 [iS r5616.1, .own 3 0 r5616.2.2.2.length]), (5, .row 29 (Enc.cells r5616.2.2.1))], 6)) (fun _ => True) (fun K5620 hK5620 => ?_) (fun _ _ => ?_)
            · refine reg_f ?_
              refine rs 4 [] [] (by kernel_rfl) allP_nil ?_
              refine run_split 102 (r5616.2.2.1.Code != 0) (.inl (by kernel_rfl)) (fun g5621 => ?_) (fun g5621 => ?_)
              · refine rs 5 [] [] (by kernel_rfl) allP_nil ?_
                refine rf [(0, .sl adds.length (fl adds)), (1, iS tasks), (5, .ptr 0 0), (6, iS sum9), (12, .own 1 0 c1q26.length), (13, iS t7), (14, .ptr 4 0), (15, bS r5616.2.1), (107, bS true)] [(0, .row 67 [iS c0_Count17, .own 2 0 c2q9.length]), (1, .row 3 (fl c1q26)), (2, .row 3 (fl c2q9)), (3, .row 3 (fl r5616.2.2.2)), (4, .row 67 [iS r5616.1, .own 3 0 r5616.2.2.2.length]), (5, .row 29 (Enc.cells r5616.2.2.1))] 6 (by kernel_rfl) ?_
                exact hK5620 () _ _ _ trivial (leSt_m [(0, 0), (1, 1), (2, 2), (3, 3), (4, 4), (5, 5)] [] (by (try simp only [g5621]) <;> simp only [push_cast, seval]) (by (try simp only [g5621]) <;> simp only [push_cast, seval]) rfl rfl rfl)
              · refine rs 5 [] [] (by kernel_rfl) allP_nil ?_
                refine rf [(0, .sl adds.length (fl adds)), (1, iS tasks), (5, .ptr 0 0), (6, iS sum9), (12, .own 1 0 c1q26.length), (13, iS t7), (14, .ptr 4 0), (15, bS r5616.2.1), (107, bS (r5616.2.1 != (sum9 == 0)))] [(0, .row 67 [iS c0_Count17, .own 2 0 c2q9.length]), (1, .row 3 (fl c1q26)), (2, .row 3 (fl c2q9)), (3, .row 3 (fl r5616.2.2.2)), (4, .row 67 [iS r5616.1, .own 3 0 r5616.2.2.2.length]), (5, .row 29 (Enc.cells r5616.2.2.1))] 6 (by kernel_rfl) ?_
                exact hK5620 () _ _ _ trivial (leSt_m [(0, 0), (1, 1), (2, 2), (3, 3), (4, 4), (5, 5)] [] (by (try simp only [g5621]) <;> simp only [push_cast, seval]) (by (try simp only [g5621]) <;> simp only [push_cast, seval]) rfl rfl rfl)
            · dsimp only
              refine cond_sx h (by kernel_rfl) (fun g5632 h => ?_) (fun g5632 h => ?_)
              · refine seq_np ?_
                refine reg_f ?_
                refine rs 1 [] [] (by kernel_rfl) allP_nil ?_
                refine rf [(4, bS false)] [(0, .row 67 [iS c0_Count17, .own 2 0 c2q9.length]), (1, .row 3 (fl c1q26)), (2, .row 3 (fl c2q9)), (3, .row 3 (fl r5616.2.2.2)), (4, .row 67 [iS r5616.1, .own 3 0 r5616.2.2.2.length]), (5, .row 29 (Enc.cells r5616.2.2.1))] 6 (by kernel_rfl) ?_
                refine wk_id ?_
                refine rt_cast ht5 ?_
                obtain ⟨r0, h, e0⟩ := map_sx h
                have e1 := hr5 r0 e0.symm
                subst r0
                obtain rfl := Option.some.inj h
                refine ret_at (bS false) (by kernel_rfl) ?_
                exact ret_e [] [] (by simp only [push_cast, seval]) (by simp only [push_cast, seval]) rfl rfl rfl
              · refine wk_id ?_
                refine seq_cut (A := (List Int) × Int × (List Int)) (fun a => ([(0, .sl adds.length (fl adds)), (1, iS tasks), (5, .ptr 0 0), (6, iS sum9), (12, .own 1 0 a.1.length), (13, iS t7), (14, .ptr 2 0)], [(0, .row 67 [iS c0_Count17, .own 3 0 c2q9.length]), (1, .row 3 (fl a.1)), (2, .row 67 [iS a.2.1, .own 4 0 a.2.2.length]), (3, .row 3 (fl c2q9)), (4, .row 3 (fl a.2.2))], 5)) (fun a => (taskmilllaw_SyncWaits_j1 adds tasks sum9 t7 c0_Count17 c2q9 a.1 a.2.1 a.2.2) = some o5) (fun K5626 hK5626 => ?_) ?_
                · refine seq_np ?_
                  refine reg_f ?_
                  refine rs 2 [] [] (by kernel_rfl) allP_nil ?_
                  refine rf [(0, .sl adds.length (fl adds)), (1, iS tasks), (5, .ptr 0 0), (6, iS sum9), (12, .own 1 0 c1q26.length), (13, iS t7), (14, .ptr 4 0), (109, bS (!r5616.2.1))] [(0, .row 67 [iS c0_Count17, .own 2 0 c2q9.length]), (1, .row 3 (fl c1q26)), (2, .row 3 (fl c2q9)), (3, .row 3 (fl r5616.2.2.2)), (4, .row 67 [iS r5616.1, .own 3 0 r5616.2.2.2.length]), (5, .row 29 (Enc.cells r5616.2.2.1))] 6 (by kernel_rfl) ?_
                  refine wk_id ?_
                  refine cond_sx h (by kernel_rfl) (fun g5631 h => ?_) (fun g5631 h => ?_)
                  · refine chk_sx h (fun g5630 h => ?_)
                    refine reg_f ?_
                    have k5629 : (c1q26 ++ ([t7] : List Int)).length * 8 ≤ 140737488355328 := by first | simpa only [Bool.and_eq_true, decide_eq_true_eq, bne_iff_ne, ne_eq] using g5630 | (simp at g5630 ⊢; omega)
                    refine rs 5 [none, none, none, some ⟨.own 7 0 (c1q26 ++ ([t7] : List Int)).length, [(7, .row 3 (fl (c1q26 ++ ([t7] : List Int)))), (1, .dead)], 8, [1, 6]⟩] _ (by kernel_rfl) (allP_cons (ob_app (P := Try.prog) c1q26 ([t7] : List Int) 1 8 rfl (appCells (fl ([t7] : List Int)) 0 (([t7] : List Int).length * 1)) ([t7] : List Int).length (app_own ([t7] : List Int) 1 rfl) rfl (0 + ([t7] : List Int).length * 1 ≤ (fl ([t7] : List Int)).length) (app_own_le ([t7] : List Int) 1 rfl) 3 (by kernel_rfl) (by decide) k5629 1 7 [6]) allP_nil) ?_
                    refine rf [(0, .sl adds.length (fl adds)), (1, iS tasks), (5, .ptr 0 0), (6, iS sum9), (12, .own 7 0 (c1q26 ++ ([t7] : List Int)).length), (13, iS t7), (14, .ptr 4 0)] [(0, .row 67 [iS c0_Count17, .own 2 0 c2q9.length]), (1, .dead), (2, .row 3 (fl c2q9)), (3, .row 3 (fl r5616.2.2.2)), (4, .row 67 [iS r5616.1, .own 3 0 r5616.2.2.2.length]), (5, .row 29 (Enc.cells r5616.2.2.1)), (6, .row 3 (fl ([t7] : List Int))), (7, .row 3 (fl (c1q26 ++ ([t7] : List Int))))] 8 (by kernel_rfl) ?_
                    exact hK5626 ((c1q26 ++ ([t7] : List Int)), r5616.1, r5616.2.2.2) _ _ _ h (leSt_m [(0, 0), (1, 7), (2, 4), (3, 2), (4, 3)] [] (by simp only [push_cast, seval]) (by simp only [push_cast, seval]) rfl rfl rfl)
                  · exact hK5626 (c1q26, r5616.1, r5616.2.2.2) _ _ _ h (leSt_m [(0, 0), (1, 1), (2, 4), (3, 2), (4, 3)] [] (by simp only [push_cast, seval]) (by simp only [push_cast, seval]) rfl rfl rfl)
                · rintro ⟨c1q29, c2_Count16, c4q16⟩ h
                  try dsimp only at h ⊢
                  unfold taskmilllaw_SyncWaits_j1 at h
                  refine reg_f ?_
                  refine rs 2 [] [] (by kernel_rfl) allP_nil ?_
                  refine rf [(0, .sl adds.length (fl adds)), (1, iS tasks), (5, .ptr 0 0), (6, iS sum9), (12, .own 1 0 c1q29.length), (13, iS t7)] [(0, .row 67 [iS c2_Count16, .own 4 0 c4q16.length]), (1, .row 3 (fl c1q29)), (2, .row 67 [iS c2_Count16, .own 4 0 c4q16.length]), (3, .row 3 (fl c2q9)), (4, .row 3 (fl c4q16))] 5 (by kernel_rfl) ?_
                  refine wk_id ?_
                  refine wk_id ?_
                  refine reg_f ?_
                  refine rs 3 [] [] (by kernel_rfl) allP_nil ?_
                  refine rf [(0, .sl adds.length (fl adds)), (1, iS tasks), (5, .ptr 0 0), (6, iS sum9), (12, .own 1 0 c1q29.length), (13, iS (IntKind.i64.wrap (t7 + 1)))] [(0, .row 67 [iS c2_Count16, .own 4 0 c4q16.length]), (1, .row 3 (fl c1q29)), (2, .row 67 [iS c2_Count16, .own 4 0 c4q16.length]), (3, .row 3 (fl c2q9)), (4, .row 3 (fl c4q16))] 5 (by kernel_rfl) ?_
                  exact hn5 ((IntKind.i64.wrap (t7 + 1)), c2_Count16, c1q29, c4q16) _ _ _ (Option.some.inj h).symm (leSt_m [(0, 0), (1, 1), (2, 4)] [] (by simp only [push_cast, seval]) (by simp only [push_cast, seval]) rfl rfl rfl)
          · refine ex_cast hx5 (id := 2) ?_
            obtain ⟨r0, h, e0⟩ := map_sx h
            have e1 := hr5 r0 e0.symm
            subst r0
            refine wk_id ?_
            refine wk_id ?_
            refine seq_np ?_
            refine seq_np ?_
            refine reg_f ?_
            refine rs 1 [] [] (by kernel_rfl) allP_nil ?_
            refine rf [(0, .sl adds.length (fl adds)), (5, .ptr 0 0), (6, iS sum9), (12, .own 1 0 c1q26.length), (17, iS 0)] [(0, .row 67 [iS c0_Count17, .own 2 0 c2q9.length]), (1, .row 3 (fl c1q26)), (2, .row 3 (fl c2q9))] 3 (by kernel_rfl) ?_
            refine wk_id ?_
            refine block_np ?_
            refine loop_sx (S := Int × Int × Int × (List Int)) (fun a => ([(0, .sl adds.length (fl adds)), (5, .ptr 0 0), (6, iS a.1), (12, .own 1 0 c1q26.length), (17, iS a.2.1)], [(0, .row 67 [iS a.2.2.1, .own 2 0 a.2.2.2.length]), (1, .row 3 (fl c1q26)), (2, .row 3 (fl a.2.2.2))], 3)) h (leSt_m [(0, 0), (1, 1), (2, 2)] [] (by simp only [push_cast, seval]) (by simp only [push_cast, seval]) rfl rfl rfl) ?_
            rintro ⟨sum15, i15, c0_Count23, c2q15⟩ o6 R6 h hr6 hn6 hx6 ht6
            try dsimp only at h hn6 ⊢
            unfold taskmilllaw_SyncWaits_l1 at h
            try dsimp only at h
            refine seq_np ?_
            refine seq_np ?_
            refine reg_f ?_
            refine rs 4 [] [] (by kernel_rfl) allP_nil ?_
            refine rf [(0, .sl adds.length (fl adds)), (5, .ptr 0 0), (6, iS sum15), (12, .own 1 0 c1q26.length), (17, iS i15), (118, bS (decide (i15 < ((adds.length : Nat) : Int))))] [(0, .row 67 [iS c0_Count23, .own 2 0 c2q15.length]), (1, .row 3 (fl c1q26)), (2, .row 3 (fl c2q15))] 3 (by kernel_rfl) ?_
            refine wk_id ?_
            refine cond_sx h (by kernel_rfl) (fun g5855 h => ?_) (fun g5855 h => ?_)
            · refine wk_id ?_
              refine seq_np ?_
              refine block_np ?_
              refine chk_sx h (fun g5809 h => ?_)
              refine seq_np ?_
              refine reg_t ?_
              have k5808 : 0 ≤ i15 ∧ i15 < ((adds.length : Nat) : Int) := by first | simpa only [Bool.and_eq_true, decide_eq_true_eq, bne_iff_ne, ne_eq] using g5809 | (simp at g5809 ⊢; omega)
              refine rs 6 [none, none, none, some ⟨.iptr (fl adds) ((i15).toNat * 1), [], 6, []⟩, some ⟨iS (ix adds i15), [], 7, []⟩] _ (by kernel_rfl) (allP_cons (ob_ld adds i15 1 0 ((i15).toNat * 1) k5808 rfl (by decide) (by first | rfl | omega) (dflS Try.prog 3) (iS (ix adds i15)) rfl 7 []) (allP_cons (ob_ix_l adds 1 6 i15 k5808) allP_nil)) ?_
              obtain ⟨r5810, hr5810, h⟩ := bind_sx h
              refine call_x (sync_Add_spec (Group.mk c0_Count23 c2q15) (IntKind.i64.wrap (0 - (ix adds i15))) r5810 hr5810) (args := [.agg [iS c0_Count23, .own 2 0 c2q15.length], iS (IntKind.i64.wrap (0 - (ix adds i15)))]) (dst := (some 128)) (by kernel_rfl) [(0, .row 67 [iS c0_Count23, .own 2 0 c2q15.length]), (1, .row 3 (fl c1q26)), (2, .row 3 (fl c2q15))] 9 (by kernel_rfl) [] [2] (.tup [.agg [iS r5810.1, .own 9 0 r5810.2.2.2.1.length], .own 10 0 r5810.2.2.2.2.length, bS r5810.2.1, .agg (Enc.cells r5810.2.2.1)]) [(9, .row 3 (fl r5810.2.2.2.1)), (10, .row 3 (fl r5810.2.2.2.2))] (by simp only [push_cast, seval]) (by simp only [push_cast, seval]) (by kernel_rfl) (.inr ⟨by simp only [push_cast, seval], by simp only [push_cast, seval]⟩) (by simp only [push_cast, seval]) (by simp only [push_cast, seval]) ?_
              refine rs 11 [] [] (by kernel_rfl) allP_nil ?_
              refine rt [(0, .sl adds.length (fl adds)), (5, .ptr 0 0), (6, iS sum15), (12, .own 1 0 c1q26.length), (17, iS i15), (18, .ptr 17 0), (19, .own 10 0 r5810.2.2.2.2.length), (20, bS r5810.2.1), (21, .ptr 19 0)] [(0, .row 67 [iS c0_Count23, .own 2 0 c2q15.length]), (1, .row 3 (fl c1q26)), (2, .row 3 (fl c2q15)), (9, .row 3 (fl r5810.2.2.2.1)), (10, .row 3 (fl r5810.2.2.2.2)), (17, .row 67 [iS r5810.1, .own 9 0 r5810.2.2.2.1.length]), (19, .row 29 (Enc.cells r5810.2.2.1))] 25 follows (by kernel_rfl) ?_
              refine wk_id ?_
              refine chk_sx h (fun g5814 h => ?_)
              refine seq_np ?_
              refine reg_f ?_
              have k5813 : 0 ≤ i15 ∧ i15 < ((adds.length : Nat) : Int) := by first | simpa only [Bool.and_eq_true, decide_eq_true_eq, bne_iff_ne, ne_eq] using g5814 | (simp at g5814 ⊢; omega)
              refine rs 7 [none, none, none, some ⟨.iptr (fl adds) ((i15).toNat * 1), [], 25, []⟩, some ⟨iS (ix adds i15), [], 25, []⟩] _ (by kernel_rfl) (allP_cons (ob_ld adds i15 1 0 ((i15).toNat * 1) k5813 rfl (by decide) (by first | rfl | omega) (dflS Try.prog 3) (iS (ix adds i15)) rfl 25 []) (allP_cons (ob_ix_l adds 1 25 i15 k5813) allP_nil)) ?_
              refine rf [(0, .sl adds.length (fl adds)), (5, .ptr 0 0), (6, iS (IntKind.i64.wrap (sum15 - (ix adds i15)))), (12, .own 1 0 c1q26.length), (17, iS i15), (18, .ptr 17 0), (19, .own 10 0 r5810.2.2.2.2.length), (20, bS r5810.2.1), (21, .ptr 19 0)] [(0, .row 67 [iS c0_Count23, .own 2 0 c2q15.length]), (1, .row 3 (fl c1q26)), (2, .row 3 (fl c2q15)), (9, .row 3 (fl r5810.2.2.2.1)), (10, .row 3 (fl r5810.2.2.2.2)), (17, .row 67 [iS r5810.1, .own 9 0 r5810.2.2.2.1.length]), (19, .row 29 (Enc.cells r5810.2.2.1))] 25 (by kernel_rfl) ?_
              refine wk_id ?_
              refine seq_np ?_
              refine seq_cut (A := Bool × Int × (List Int)) (fun a => ([(0, .sl adds.length (fl adds)), (5, .ptr 0 0), (6, iS (IntKind.i64.wrap (sum15 - (ix adds i15)))), (12, .own 1 0 c1q26.length), (17, iS i15), (18, .ptr 2 0), (163, bS a.1)], [(0, .row 67 [iS c0_Count23, .own 3 0 c2q15.length]), (1, .row 3 (fl c1q26)), (2, .row 67 [iS a.2.1, .own 4 0 a.2.2.length]), (3, .row 3 (fl c2q15)), (4, .row 3 (fl a.2.2))], 5)) (fun a => (taskmilllaw_SyncWaits_j2 adds c1q26 sum15 i15 c0_Count23 c2q15 a.1 a.2.1 a.2.2) = some o6) (fun K5835 hK5835 => ?_) ?_
              · refine reg_f ?_
                refine rs 4 [] [] (by kernel_rfl) allP_nil ?_
                refine run_br h 142 (.inl (by kernel_rfl)) (fun g5836 h => ?_) (fun g5836 h => ?_)
                · refine rs 21 [] [] (by kernel_rfl) allP_nil ?_
                  refine rf [(0, .sl adds.length (fl adds)), (5, .ptr 0 0), (6, iS (IntKind.i64.wrap (sum15 - (ix adds i15)))), (12, .own 1 0 c1q26.length), (17, iS i15), (18, .ptr 17 0), (163, bS true)] [(0, .row 67 [iS c0_Count23, .own 2 0 c2q15.length]), (1, .row 3 (fl c1q26)), (2, .row 3 (fl c2q15)), (9, .row 3 (fl r5810.2.2.2.1)), (10, .row 3 (fl r5810.2.2.2.2)), (17, .row 67 [iS r5810.1, .own 9 0 r5810.2.2.2.1.length]), (19, .row 29 (Enc.cells r5810.2.2.1))] 25 (by kernel_rfl) ?_
                  exact hK5835 (true, r5810.1, r5810.2.2.2.1) _ _ _ h (leSt_m [(0, 0), (1, 1), (2, 17), (3, 2), (4, 9)] [] (by (try simp only [g5836]) <;> simp only [push_cast, seval]) (by (try simp only [g5836]) <;> simp only [push_cast, seval]) rfl rfl rfl)
                · refine rs 3 [] [] (by kernel_rfl) allP_nil ?_
                  refine run_br h 145 (.inl (by kernel_rfl)) (fun g5837 h => ?_) (fun g5837 h => ?_)
                  · refine rs 18 [] [] (by kernel_rfl) allP_nil ?_
                    refine rf [(0, .sl adds.length (fl adds)), (5, .ptr 0 0), (6, iS (IntKind.i64.wrap (sum15 - (ix adds i15)))), (12, .own 1 0 c1q26.length), (17, iS i15), (18, .ptr 17 0), (163, bS true)] [(0, .row 67 [iS c0_Count23, .own 2 0 c2q15.length]), (1, .row 3 (fl c1q26)), (2, .row 3 (fl c2q15)), (9, .row 3 (fl r5810.2.2.2.1)), (10, .row 3 (fl r5810.2.2.2.2)), (17, .row 67 [iS r5810.1, .own 9 0 r5810.2.2.2.1.length]), (19, .row 29 (Enc.cells r5810.2.2.1))] 25 (by kernel_rfl) ?_
                    exact hK5835 (true, r5810.1, r5810.2.2.2.1) _ _ _ h (leSt_m [(0, 0), (1, 1), (2, 17), (3, 2), (4, 9)] [] (by (try simp only [g5836, g5837]) <;> simp only [push_cast, seval]) (by (try simp only [g5836, g5837]) <;> simp only [push_cast, seval]) rfl rfl rfl)
                  · refine rs 3 [] [] (by kernel_rfl) allP_nil ?_
                    refine run_br h 148 (.inr (by kernel_rfl)) (fun g5838 h => ?_) (fun g5838 h => ?_)
                    · refine rn 10 [(0, .sl adds.length (fl adds)), (5, .ptr 0 0), (6, iS (IntKind.i64.wrap (sum15 - (ix adds i15)))), (12, .own 1 0 c1q26.length), (17, iS i15), (18, .ptr 17 0), (19, .own 10 0 r5810.2.2.2.2.length), (145, bS false), (148, .gd true (bS true))] [(0, .row 67 [iS c0_Count23, .own 2 0 c2q15.length]), (1, .row 3 (fl c1q26)), (2, .row 3 (fl c2q15)), (9, .row 3 (fl r5810.2.2.2.1)), (10, .row 3 (fl r5810.2.2.2.2)), (17, .row 67 [iS r5810.1, .own 9 0 r5810.2.2.2.1.length]), (19, .row 29 (Enc.cells r5810.2.2.1))] 25 (by kernel_rfl) ?_
                      refine rs 6 [] [] (by kernel_rfl) allP_nil ?_
                      refine run_br h 154 (.inl (by kernel_rfl)) (fun g5839 h => ?_) (fun g5839 h => ?_)
                      · refine rs 9 [] [] (by kernel_rfl) allP_nil ?_
                        refine rf [(0, .sl adds.length (fl adds)), (5, .ptr 0 0), (6, iS (IntKind.i64.wrap (sum15 - (ix adds i15)))), (12, .own 1 0 c1q26.length), (17, iS i15), (18, .ptr 17 0), (163, bS true)] [(0, .row 67 [iS c0_Count23, .own 2 0 c2q15.length]), (1, .row 3 (fl c1q26)), (2, .row 3 (fl c2q15)), (9, .row 3 (fl r5810.2.2.2.1)), (10, .row 3 (fl r5810.2.2.2.2)), (17, .row 67 [iS r5810.1, .own 9 0 r5810.2.2.2.1.length]), (19, .row 29 (Enc.cells r5810.2.2.1))] 25 (by kernel_rfl) ?_
                        exact hK5835 (true, r5810.1, r5810.2.2.2.1) _ _ _ h (leSt_m [(0, 0), (1, 1), (2, 17), (3, 2), (4, 9)] [] (by (try simp only [g5836, g5837, g5838, g5839]) <;> simp only [push_cast, seval]) (by (try simp only [g5836, g5837, g5838, g5839]) <;> simp only [push_cast, seval]) rfl rfl rfl)
                      · refine rs 3 [] [] (by kernel_rfl) allP_nil ?_
                        refine run_br h 157 (.inr (by kernel_rfl)) (fun g5840 h => ?_) (fun g5840 h => ?_)
                        · refine rs 2 [] [] (by kernel_rfl) allP_nil ?_
                          obtain ⟨r5841, hr5841, h⟩ := bind_sx h
                          refine call_x (taskmillref_Ints_spec r5810.2.2.2.2 c1q26 r5841 hr5841) (args := [.own 10 0 r5810.2.2.2.2.length, .own 1 0 c1q26.length]) (dst := (some 160)) (by kernel_rfl) [(0, .row 67 [iS c0_Count23, .own 2 0 c2q15.length]), (1, .row 3 (fl c1q26)), (2, .row 3 (fl c2q15)), (9, .row 3 (fl r5810.2.2.2.1)), (10, .row 3 (fl r5810.2.2.2.2)), (17, .row 67 [iS r5810.1, .own 9 0 r5810.2.2.2.1.length]), (19, .row 29 (Enc.cells r5810.2.2.1))] 25 (by kernel_rfl) [] [1, 10] (bS r5841) [] (by simp only [push_cast, seval]) (by simp only [push_cast, seval]) (by kernel_rfl) (.inr ⟨by simp only [push_cast, seval], by simp only [push_cast, seval]⟩) (by simp only [push_cast, seval]) (by simp only [push_cast, seval]) ?_
                          refine rn 22 [(0, .sl adds.length (fl adds)), (5, .ptr 0 0), (6, iS (IntKind.i64.wrap (sum15 - (ix adds i15)))), (12, .own 1 0 c1q26.length), (17, iS i15), (18, .ptr 17 0), (154, bS false), (157, .gd true (bS true)), (160, bS r5841)] [(0, .row 67 [iS c0_Count23, .own 2 0 c2q15.length]), (1, .row 3 (fl c1q26)), (2, .row 3 (fl c2q15)), (9, .row 3 (fl r5810.2.2.2.1)), (10, .row 3 (fl r5810.2.2.2.2)), (17, .row 67 [iS r5810.1, .own 9 0 r5810.2.2.2.1.length]), (19, .row 29 (Enc.cells r5810.2.2.1))] 25 (by kernel_rfl) ?_
                          refine rs 3 [] [] (by kernel_rfl) allP_nil ?_
                          refine rf [(0, .sl adds.length (fl adds)), (5, .ptr 0 0), (6, iS (IntKind.i64.wrap (sum15 - (ix adds i15)))), (12, .own 1 0 c1q26.length), (17, iS i15), (18, .ptr 17 0), (163, bS (!r5841))] [(0, .row 67 [iS c0_Count23, .own 2 0 c2q15.length]), (1, .row 3 (fl c1q26)), (2, .row 3 (fl c2q15)), (9, .row 3 (fl r5810.2.2.2.1)), (10, .row 3 (fl r5810.2.2.2.2)), (17, .row 67 [iS r5810.1, .own 9 0 r5810.2.2.2.1.length]), (19, .row 29 (Enc.cells r5810.2.2.1))] 25 (by kernel_rfl) ?_
                          exact hK5835 ((!r5841), r5810.1, r5810.2.2.2.1) _ _ _ h (leSt_m [(0, 0), (1, 1), (2, 17), (3, 2), (4, 9)] [] (by (try simp only [g5836, g5837, g5838, g5839, g5840]) <;> simp only [push_cast, seval]) (by (try simp only [g5836, g5837, g5838, g5839, g5840]) <;> simp only [push_cast, seval]) rfl rfl rfl)
                        · refine rs 6 [] [] (by kernel_rfl) allP_nil ?_
                          refine rf [(0, .sl adds.length (fl adds)), (5, .ptr 0 0), (6, iS (IntKind.i64.wrap (sum15 - (ix adds i15)))), (12, .own 1 0 c1q26.length), (17, iS i15), (18, .ptr 17 0), (163, bS false)] [(0, .row 67 [iS c0_Count23, .own 2 0 c2q15.length]), (1, .row 3 (fl c1q26)), (2, .row 3 (fl c2q15)), (9, .row 3 (fl r5810.2.2.2.1)), (10, .row 3 (fl r5810.2.2.2.2)), (17, .row 67 [iS r5810.1, .own 9 0 r5810.2.2.2.1.length]), (19, .row 29 (Enc.cells r5810.2.2.1))] 25 (by kernel_rfl) ?_
                          exact hK5835 (false, r5810.1, r5810.2.2.2.1) _ _ _ h (leSt_m [(0, 0), (1, 1), (2, 17), (3, 2), (4, 9)] [] (by (try simp only [g5836, g5837, g5838, g5839, g5840]) <;> simp only [push_cast, seval]) (by (try simp only [g5836, g5837, g5838, g5839, g5840]) <;> simp only [push_cast, seval]) rfl rfl rfl)
                    · refine rn 10 [(0, .sl adds.length (fl adds)), (5, .ptr 0 0), (6, iS (IntKind.i64.wrap (sum15 - (ix adds i15)))), (12, .own 1 0 c1q26.length), (17, iS i15), (18, .ptr 17 0), (19, .own 10 0 r5810.2.2.2.2.length), (145, bS false), (148, .gd true (bS false))] [(0, .row 67 [iS c0_Count23, .own 2 0 c2q15.length]), (1, .row 3 (fl c1q26)), (2, .row 3 (fl c2q15)), (9, .row 3 (fl r5810.2.2.2.1)), (10, .row 3 (fl r5810.2.2.2.2)), (17, .row 67 [iS r5810.1, .own 9 0 r5810.2.2.2.1.length]), (19, .row 29 (Enc.cells r5810.2.2.1))] 25 (by kernel_rfl) ?_
                      refine rs 9 [] [] (by kernel_rfl) allP_nil ?_
                      refine run_br h 157 (.inr (by kernel_rfl)) (fun g5842 h => ?_) (fun g5842 h => ?_)
                      · refine rs 2 [] [] (by kernel_rfl) allP_nil ?_
                        obtain ⟨r5843, hr5843, h⟩ := bind_sx h
                        refine call_x (taskmillref_Ints_spec r5810.2.2.2.2 c1q26 r5843 hr5843) (args := [.own 10 0 r5810.2.2.2.2.length, .own 1 0 c1q26.length]) (dst := (some 160)) (by kernel_rfl) [(0, .row 67 [iS c0_Count23, .own 2 0 c2q15.length]), (1, .row 3 (fl c1q26)), (2, .row 3 (fl c2q15)), (9, .row 3 (fl r5810.2.2.2.1)), (10, .row 3 (fl r5810.2.2.2.2)), (17, .row 67 [iS r5810.1, .own 9 0 r5810.2.2.2.1.length]), (19, .row 29 (Enc.cells r5810.2.2.1))] 25 (by kernel_rfl) [] [1, 10] (bS r5843) [] (by simp only [push_cast, seval]) (by simp only [push_cast, seval]) (by kernel_rfl) (.inr ⟨by simp only [push_cast, seval], by simp only [push_cast, seval]⟩) (by simp only [push_cast, seval]) (by simp only [push_cast, seval]) ?_
                        refine rs 3 [] [] (by kernel_rfl) allP_nil ?_
                        refine rf [(0, .sl adds.length (fl adds)), (5, .ptr 0 0), (6, iS (IntKind.i64.wrap (sum15 - (ix adds i15)))), (12, .own 1 0 c1q26.length), (17, iS i15), (18, .ptr 17 0), (163, bS (!r5843))] [(0, .row 67 [iS c0_Count23, .own 2 0 c2q15.length]), (1, .row 3 (fl c1q26)), (2, .row 3 (fl c2q15)), (9, .row 3 (fl r5810.2.2.2.1)), (10, .row 3 (fl r5810.2.2.2.2)), (17, .row 67 [iS r5810.1, .own 9 0 r5810.2.2.2.1.length]), (19, .row 29 (Enc.cells r5810.2.2.1))] 25 (by kernel_rfl) ?_
                        exact hK5835 ((!r5843), r5810.1, r5810.2.2.2.1) _ _ _ h (leSt_m [(0, 0), (1, 1), (2, 17), (3, 2), (4, 9)] [] (by (try simp only [g5836, g5837, g5838, g5842]) <;> simp only [push_cast, seval]) (by (try simp only [g5836, g5837, g5838, g5842]) <;> simp only [push_cast, seval]) rfl rfl rfl)
                      · refine rs 6 [] [] (by kernel_rfl) allP_nil ?_
                        refine rf [(0, .sl adds.length (fl adds)), (5, .ptr 0 0), (6, iS (IntKind.i64.wrap (sum15 - (ix adds i15)))), (12, .own 1 0 c1q26.length), (17, iS i15), (18, .ptr 17 0), (163, bS false)] [(0, .row 67 [iS c0_Count23, .own 2 0 c2q15.length]), (1, .row 3 (fl c1q26)), (2, .row 3 (fl c2q15)), (9, .row 3 (fl r5810.2.2.2.1)), (10, .row 3 (fl r5810.2.2.2.2)), (17, .row 67 [iS r5810.1, .own 9 0 r5810.2.2.2.1.length]), (19, .row 29 (Enc.cells r5810.2.2.1))] 25 (by kernel_rfl) ?_
                        exact hK5835 (false, r5810.1, r5810.2.2.2.1) _ _ _ h (leSt_m [(0, 0), (1, 1), (2, 17), (3, 2), (4, 9)] [] (by (try simp only [g5836, g5837, g5838, g5842]) <;> simp only [push_cast, seval]) (by (try simp only [g5836, g5837, g5838, g5842]) <;> simp only [push_cast, seval]) rfl rfl rfl)
              · rintro ⟨t163q14, c2_Count28, c4q28⟩ h
                try dsimp only at h ⊢
                unfold taskmilllaw_SyncWaits_j2 at h
                refine cond_sx h (by kernel_rfl) (fun g5844 h => ?_) (fun g5844 h => ?_)
                · refine seq_np ?_
                  refine reg_f ?_
                  refine rs 1 [] [] (by kernel_rfl) allP_nil ?_
                  refine rf [(4, bS false)] [(0, .row 67 [iS c0_Count23, .own 3 0 c2q15.length]), (1, .row 3 (fl c1q26)), (2, .row 67 [iS c2_Count28, .own 4 0 c4q28.length]), (3, .row 3 (fl c2q15)), (4, .row 3 (fl c4q28))] 5 (by kernel_rfl) ?_
                  refine wk_id ?_
                  refine rt_cast ht6 ?_
                  obtain ⟨r0, h, e0⟩ := map_sx h
                  have e1 := hr6 r0 e0.symm
                  subst r0
                  obtain rfl := Option.some.inj h
                  refine ret_at (bS false) (by kernel_rfl) ?_
                  exact ret_e [] [] (by simp only [push_cast, seval]) (by simp only [push_cast, seval]) rfl rfl rfl
                · refine wk_id ?_
                  refine reg_f ?_
                  refine rs 2 [] [] (by kernel_rfl) allP_nil ?_
                  refine rf [(0, .sl adds.length (fl adds)), (5, .ptr 0 0), (6, iS (IntKind.i64.wrap (sum15 - (ix adds i15)))), (12, .own 1 0 c1q26.length), (17, iS i15)] [(0, .row 67 [iS c2_Count28, .own 4 0 c4q28.length]), (1, .row 3 (fl c1q26)), (2, .row 67 [iS c2_Count28, .own 4 0 c4q28.length]), (3, .row 3 (fl c2q15)), (4, .row 3 (fl c4q28))] 5 (by kernel_rfl) ?_
                  refine wk_id ?_
                  refine wk_id ?_
                  refine reg_f ?_
                  refine rs 3 [] [] (by kernel_rfl) allP_nil ?_
                  refine rf [(0, .sl adds.length (fl adds)), (5, .ptr 0 0), (6, iS (IntKind.i64.wrap (sum15 - (ix adds i15)))), (12, .own 1 0 c1q26.length), (17, iS (IntKind.i64.wrap (i15 + 1)))] [(0, .row 67 [iS c2_Count28, .own 4 0 c4q28.length]), (1, .row 3 (fl c1q26)), (2, .row 67 [iS c2_Count28, .own 4 0 c4q28.length]), (3, .row 3 (fl c2q15)), (4, .row 3 (fl c4q28))] 5 (by kernel_rfl) ?_
                  exact hn6 ((IntKind.i64.wrap (sum15 - (ix adds i15))), (IntKind.i64.wrap (i15 + 1)), c2_Count28, c4q28) _ _ _ (Option.some.inj h).symm (leSt_m [(0, 0), (1, 1), (2, 4)] [] (by simp only [push_cast, seval]) (by simp only [push_cast, seval]) rfl rfl rfl)
            · refine ex_cast hx6 (id := 4) ?_
              obtain ⟨r0, h, e0⟩ := map_sx h
              have e1 := hr6 r0 e0.symm
              subst r0
              refine wk_id ?_
              refine wk_id ?_
              refine seq_np ?_
              refine reg_f ?_
              refine rs 1 [] [] (by kernel_rfl) allP_nil ?_
              obtain ⟨r5846, hr5846, h⟩ := bind_sx h
              refine call_x (sync_Add_spec (Group.mk c0_Count23 c2q15) (-1) r5846 hr5846) (args := [.agg [iS c0_Count23, .own 2 0 c2q15.length], iS (-1)]) (dst := (some 167)) (by kernel_rfl) [(0, .row 67 [iS c0_Count23, .own 2 0 c2q15.length]), (1, .row 3 (fl c1q26)), (2, .row 3 (fl c2q15))] 3 (by kernel_rfl) [] [2] (.tup [.agg [iS r5846.1, .own 3 0 r5846.2.2.2.1.length], .own 4 0 r5846.2.2.2.2.length, bS r5846.2.1, .agg (Enc.cells r5846.2.2.1)]) [(3, .row 3 (fl r5846.2.2.2.1)), (4, .row 3 (fl r5846.2.2.2.2))] (by simp only [push_cast, seval]) (by simp only [push_cast, seval]) (by kernel_rfl) (.inr ⟨by simp only [push_cast, seval], by simp only [push_cast, seval]⟩) (by simp only [push_cast, seval]) (by simp only [push_cast, seval]) ?_
              refine rs 11 [] [] (by kernel_rfl) allP_nil ?_
              refine rf [(5, .ptr 0 0), (24, bS r5846.2.1), (25, .ptr 6 0)] [(0, .row 67 [iS c0_Count23, .own 2 0 c2q15.length]), (1, .row 3 (fl c1q26)), (2, .row 3 (fl c2q15)), (3, .row 3 (fl r5846.2.2.2.1)), (4, .row 3 (fl r5846.2.2.2.2)), (5, .row 67 [iS r5846.1, .own 3 0 r5846.2.2.2.1.length]), (6, .row 29 (Enc.cells r5846.2.2.1))] 7 (by kernel_rfl) ?_
              refine wk_id ?_
              refine seq_cut (A := Bool) (fun a => ([(4, bS a)], [], 0)) (fun a => (taskmilllaw_SyncWaits_j3 a) = some r) (fun K5851 hK5851 => ?_) ?_
              · refine reg_f ?_
                refine rs 4 [] [] (by kernel_rfl) allP_nil ?_
                refine run_br h 175 (.inl (by kernel_rfl)) (fun g5852 h => ?_) (fun g5852 h => ?_)
                · refine rs 3 [] [] (by kernel_rfl) allP_nil ?_
                  refine run_br h 178 (.inl (by kernel_rfl)) (fun g5853 h => ?_) (fun g5853 h => ?_)
                  · refine rs 2 [] [] (by kernel_rfl) allP_nil ?_
                    obtain ⟨r5854, hr5854, h⟩ := bind_sx h
                    refine call_x (taskmilllaw_sameGroup_spec (Group.mk c0_Count23 c2q15) (Group.mk 0 []) r5854 hr5854) (args := [.agg [iS c0_Count23, .own 2 0 c2q15.length], .agg [iS 0, .v (.slice none 0 0)]]) (dst := (some 181)) (by kernel_rfl) [(0, .row 67 [iS c0_Count23, .own 2 0 c2q15.length]), (1, .row 3 (fl c1q26)), (2, .row 3 (fl c2q15)), (3, .row 3 (fl r5846.2.2.2.1)), (4, .row 3 (fl r5846.2.2.2.2)), (5, .row 67 [iS r5846.1, .own 3 0 r5846.2.2.2.1.length]), (6, .row 29 (Enc.cells r5846.2.2.1))] 7 (by kernel_rfl) [] [2] (bS r5854) [] (by simp only [push_cast, seval]) (by simp only [push_cast, seval]) (by kernel_rfl) (.inr ⟨by simp only [push_cast, seval], by simp only [push_cast, seval]⟩) (by simp only [push_cast, seval]) (by simp only [push_cast, seval]) ?_
                    refine rs 2 [] [] (by kernel_rfl) allP_nil ?_
                    refine rf [(4, bS r5854)] [(0, .row 67 [iS c0_Count23, .own 2 0 c2q15.length]), (1, .row 3 (fl c1q26)), (2, .row 3 (fl c2q15)), (3, .row 3 (fl r5846.2.2.2.1)), (4, .row 3 (fl r5846.2.2.2.2)), (5, .row 67 [iS r5846.1, .own 3 0 r5846.2.2.2.1.length]), (6, .row 29 (Enc.cells r5846.2.2.1))] 7 (by kernel_rfl) ?_
                    exact hK5851 (r5854) _ _ _ h (leSt_m [] [] (by (try simp only [g5852, g5853]) <;> simp only [push_cast, seval]) (by (try simp only [g5852, g5853]) <;> simp only [push_cast, seval]) rfl rfl rfl)
                  · refine rs 5 [] [] (by kernel_rfl) allP_nil ?_
                    refine rf [(4, bS false)] [(0, .row 67 [iS c0_Count23, .own 2 0 c2q15.length]), (1, .row 3 (fl c1q26)), (2, .row 3 (fl c2q15)), (3, .row 3 (fl r5846.2.2.2.1)), (4, .row 3 (fl r5846.2.2.2.2)), (5, .row 67 [iS r5846.1, .own 3 0 r5846.2.2.2.1.length]), (6, .row 29 (Enc.cells r5846.2.2.1))] 7 (by kernel_rfl) ?_
                    exact hK5851 (false) _ _ _ h (leSt_m [] [] (by (try simp only [g5852, g5853]) <;> simp only [push_cast, seval]) (by (try simp only [g5852, g5853]) <;> simp only [push_cast, seval]) rfl rfl rfl)
                · refine rs 8 [] [] (by kernel_rfl) allP_nil ?_
                  refine rf [(4, bS false)] [(0, .row 67 [iS c0_Count23, .own 2 0 c2q15.length]), (1, .row 3 (fl c1q26)), (2, .row 3 (fl c2q15)), (3, .row 3 (fl r5846.2.2.2.1)), (4, .row 3 (fl r5846.2.2.2.2)), (5, .row 67 [iS r5846.1, .own 3 0 r5846.2.2.2.1.length]), (6, .row 29 (Enc.cells r5846.2.2.1))] 7 (by kernel_rfl) ?_
                  exact hK5851 (false) _ _ _ h (leSt_m [] [] (by (try simp only [g5852]) <;> simp only [push_cast, seval]) (by (try simp only [g5852]) <;> simp only [push_cast, seval]) rfl rfl rfl)
              · rintro t4q1 h
                try dsimp only at h ⊢
                unfold taskmilllaw_SyncWaits_j3 at h
                obtain rfl := Option.some.inj h
                refine ret_at (bS t4q1) (by kernel_rfl) ?_
                exact ret_e [] [] (by simp only [push_cast, seval]) (by simp only [push_cast, seval]) rfl rfl rfl

end Go.Proofs.Ytoamlpgadgfhlaa
