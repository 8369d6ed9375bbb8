/-
  What laws of the chapter wait compute, and lemmas on it.
  No conditions.
-/
import Derived.Test.YtnnpjaoddniifaawaitWWaitWakesUpto1
set_option linter.unusedSimpArgs false
set_option linter.unusedVariables false
namespace Go.Proofs.Ytnnpjaoddniifaa
open Go Go.Sx
attribute [local irreducible] Wk RunAt
set_option maxRecDepth 100000 in
set_option maxHeartbeats 200000000 in
theorem taskmilllaw_WaitWakes_spec (l : (List Line)) (xat : Int) (to : Int) (n : Int) (r : Bool) (h : taskmilllaw_WaitWakes l xat to n = some r) : SpecW Try.prog 5 [.sl l.length (fl l), iS xat, iS to, iS n] [] 0 (fun x h n => x = bS r ∧ h = [] ∧ n = 0) := by
  unfold taskmilllaw_WaitWakes at h
  refine spec_of (draw_ok _) Try.func5 rfl (by decide) rfl (by kernel_rfl) ?_
  refine seq_np ?_
  refine reg_f ?_
  refine rs 4 [] [] (by kernel_rfl) allP_nil ?_
  refine rf [(3, iS n), (4, .ptr 0 0), (5, .ptr 1 0), (6, .ptr 2 0)] [(0, .row 22 [.sl l.length (fl l)]), (1, .row 3 [iS xat]), (2, .row 3 [iS to])] 3 (by kernel_rfl) ?_
  refine wk_id ?_
  refine seq_np ?_
  refine seq_np ?_
  refine reg_f ?_
  obtain ⟨r4275, hr4275, h⟩ := bind_sx h
  refine run_call 8 [] (some 17) (by kernel_rfl) ?_
  refine call_0 (taskmilllaw_waitBegun_spec r4275 hr4275) (by simp only [push_cast, seval]) (by simp only [push_cast, seval]) ?_
  refine back_f ?_
  refine rs 1 [] [] (by kernel_rfl) allP_nil ?_
  refine rf [(3, iS n), (4, .ptr 0 0), (5, .ptr 1 0), (6, .ptr 2 0), (18, bS (!r4275))] [(0, .row 22 [.sl l.length (fl l)]), (1, .row 3 [iS xat]), (2, .row 3 [iS to])] 3 (by kernel_rfl) ?_
  refine wk_id ?_
  refine cond_sx h (by kernel_rfl) (fun g4334 h => ?_) (fun g4334 h => ?_)
  · refine seq_np ?_
    refine reg_f ?_
    refine rs 1 [] [] (by kernel_rfl) allP_nil ?_
    refine rf [(8, bS false)] [(0, .row 22 [.sl l.length (fl l)]), (1, .row 3 [iS xat]), (2, .row 3 [iS to])] 3 (by kernel_rfl) ?_
    refine wk_id ?_
    obtain rfl := Option.some.inj h
    refine ret_at (bS false) (by kernel_rfl) ?_
    exact ret_e [] [] (by simp only [push_cast, seval]) (by simp only [push_cast, seval]) rfl rfl rfl
  · refine wk_id ?_
    refine seq_np ?_
    refine seq_cut (A := Bool) (fun a => ([(3, iS n), (4, .ptr 0 0), (5, .ptr 1 0), (6, .ptr 2 0), (26, bS a)], [(0, .row 22 [.sl l.length (fl l)]), (1, .row 3 [iS xat]), (2, .row 3 [iS to])], 3)) (fun a => (taskmilllaw_WaitWakes_j3 l xat to n a) = some r) (fun K4286 hK4286 => ?_) ?_
    · refine reg_f ?_
      refine rs 1 [] [] (by kernel_rfl) allP_nil ?_
      obtain ⟨r4287, hr4287, h⟩ := bind_sx h
      refine run_call 9 [.sl l.length (fl l)] (some 20) (by kernel_rfl) ?_
      refine call_0 (taskmilllaw_vastLines_spec l r4287 hr4287) (by simp only [push_cast, seval]) (by simp only [push_cast, seval]) ?_
      refine back_f ?_
      refine rs 1 [] [] (by kernel_rfl) allP_nil ?_
      refine run_br h 21 (.inl (by kernel_rfl)) (fun g4288 h => ?_) (fun g4288 h => ?_)
      · refine rs 5 [] [] (by kernel_rfl) allP_nil ?_
        refine rf [(3, iS n), (4, .ptr 0 0), (5, .ptr 1 0), (6, .ptr 2 0), (26, bS true)] [(0, .row 22 [.sl l.length (fl l)]), (1, .row 3 [iS xat]), (2, .row 3 [iS to])] 3 (by kernel_rfl) ?_
        exact hK4286 (true) _ _ _ h (leSt_m [(0, 0), (1, 1), (2, 2)] [] (by (try simp only [g4288]) <;> simp only [push_cast, seval]) (by (try simp only [g4288]) <;> simp only [push_cast, seval]) rfl rfl rfl)
      · refine rs 1 [] [] (by kernel_rfl) allP_nil ?_
        obtain ⟨r4289, hr4289, h⟩ := bind_sx h
        refine call_x (taskmillref_Waiting_spec l r4289 hr4289) (args := [.sl l.length (fl l)]) (dst := (some 23)) (by kernel_rfl) [(0, .row 22 [.sl l.length (fl l)]), (1, .row 3 [iS xat]), (2, .row 3 [iS to])] 3 (by kernel_rfl) [] [] (.own 3 0 r4289.length) [(3, .row 3 (fl r4289))] (by simp only [push_cast, seval]) (by simp only [push_cast, seval]) (by kernel_rfl) (.inl rfl) (by simp only [push_cast, seval]) (by simp only [push_cast, seval]) ?_
        refine rn 5 [(3, iS n), (4, .ptr 0 0), (5, .ptr 1 0), (6, .ptr 2 0), (21, bS false), (23, .own 3 0 r4289.length)] [(0, .row 22 [.sl l.length (fl l)]), (1, .row 3 [iS xat]), (2, .row 3 [iS to]), (3, .row 3 (fl r4289))] 4 (by kernel_rfl) ?_
        refine rs 3 [] [] (by kernel_rfl) allP_nil ?_
        refine rf [(3, iS n), (4, .ptr 0 0), (5, .ptr 1 0), (6, .ptr 2 0), (26, bS (decide ((300 : Int) < ((r4289.length : Nat) : Int))))] [(0, .row 22 [.sl l.length (fl l)]), (1, .row 3 [iS xat]), (2, .row 3 [iS to]), (3, .row 3 (fl r4289))] 4 (by kernel_rfl) ?_
        exact hK4286 ((decide ((300 : Int) < ((r4289.length : Nat) : Int)))) _ _ _ h (leSt_m [(0, 0), (1, 1), (2, 2)] [] (by (try simp only [g4288]) <;> simp only [push_cast, seval]) (by (try simp only [g4288]) <;> simp only [push_cast, seval]) rfl rfl rfl)
    · rintro t26q2 h
      try dsimp only at h ⊢
      unfold taskmilllaw_WaitWakes_j3 at h
      refine cond_sx h (by kernel_rfl) (fun g4333 h => ?_) (fun g4333 h => ?_)
      · refine seq_np ?_
        refine reg_f ?_
        refine rs 1 [] [] (by kernel_rfl) allP_nil ?_
        refine rf [(8, bS true)] [(0, .row 22 [.sl l.length (fl l)]), (1, .row 3 [iS xat]), (2, .row 3 [iS to])] 3 (by kernel_rfl) ?_
        refine wk_id ?_
        obtain rfl := Option.some.inj h
        refine ret_at (bS true) (by kernel_rfl) ?_
        exact ret_e [] [] (by simp only [push_cast, seval]) (by simp only [push_cast, seval]) rfl rfl rfl
      · refine wk_id ?_
        refine seq_np ?_
        refine reg_t ?_
        refine rs 1 [] [] (by kernel_rfl) allP_nil ?_
        obtain ⟨r4292, hr4292, h⟩ := bind_sx h
        refine call_x (taskmilllaw_ownLines_spec l r4292 hr4292) (args := [.sl l.length (fl l)]) (dst := (some 29)) (by kernel_rfl) [(0, .row 22 [.sl l.length (fl l)]), (1, .row 3 [iS xat]), (2, .row 3 [iS to])] 4 (by kernel_rfl) [] [] (.own 4 0 r4292.length) [(4, .row 55 (fl r4292))] (by simp only [push_cast, seval]) (by simp only [push_cast, seval]) (by kernel_rfl) (.inl rfl) (by simp only [push_cast, seval]) (by simp only [push_cast, seval]) ?_
        refine rs 2 [] [] (by kernel_rfl) allP_nil ?_
        obtain ⟨r4293, hr4293, h⟩ := bind_sx h
        refine call_x (SpecW.give (wait_Wake_spec r4292 xat n r4293 hr4293) [(0, .row 55 (fl r4292))] [.own 0 0 r4292.length, iS xat, iS n] [] (.tup [.own 1 0 r4293.2.1.length, .own 2 0 r4293.2.2.length, .agg (Enc.cells r4293.1)]) [(1, .row 55 (fl r4293.2.1)), (2, .row 3 (fl r4293.2.2))] (by first | simp only [push_cast, seval] | simp only [push_cast, List.mem_singleton, true_and, and_true, seval]) (by simp only [push_cast, seval]) (by simp only [push_cast, seval]) (by simp only [push_cast, seval]) rfl (by simp only [push_cast, seval]) (by simp only [push_cast, seval]) rfl) (args := [.own 4 0 r4292.length, iS xat, iS n]) (dst := (some 32)) (by kernel_rfl) [(0, .row 22 [.sl l.length (fl l)]), (1, .row 3 [iS xat]), (2, .row 3 [iS to]), (4, .row 55 (fl r4292))] 8 (by kernel_rfl) [(0, 4)] [] (.tup [.own 9 0 r4293.2.1.length, .own 10 0 r4293.2.2.length, .agg (Enc.cells r4293.1)]) [(9, .row 55 (fl r4293.2.1)), (10, .row 3 (fl r4293.2.2)), (4, .dead)] (by simp only [push_cast, seval]) (by simp only [push_cast, seval]) (by kernel_rfl) (.inl rfl) (by simp only [push_cast, seval]) (by simp only [push_cast, seval]) ?_
        refine rs 8 [] [] (by kernel_rfl) allP_nil ?_
        refine rt [(3, iS n), (4, .ptr 0 0), (5, .ptr 1 0), (6, .ptr 2 0), (9, .own 9 0 r4293.2.1.length), (10, .own 10 0 r4293.2.2.length), (11, .ptr 16 0)] [(0, .row 22 [.sl l.length (fl l)]), (1, .row 3 [iS xat]), (2, .row 3 [iS to]), (4, .dead), (9, .row 55 (fl r4293.2.1)), (10, .row 3 (fl r4293.2.2)), (16, .row 27 (Enc.cells r4293.1))] 21 follows (by kernel_rfl) ?_
        refine wk_id ?_
        refine seq_np ?_
        refine reg_t ?_
        refine rs 1 [] [] (by kernel_rfl) allP_nil ?_
        obtain ⟨r4296, hr4296, h⟩ := bind_sx h
        refine call_x (taskmilllaw_ownLines_spec l r4296 hr4296) (args := [.sl l.length (fl l)]) (dst := (some 38)) (by kernel_rfl) [(0, .row 22 [.sl l.length (fl l)]), (1, .row 3 [iS xat]), (2, .row 3 [iS to]), (4, .dead), (9, .row 55 (fl r4293.2.1)), (10, .row 3 (fl r4293.2.2)), (16, .row 27 (Enc.cells r4293.1))] 22 (by kernel_rfl) [] [] (.own 22 0 r4296.length) [(22, .row 55 (fl r4296))] (by simp only [push_cast, seval]) (by simp only [push_cast, seval]) (by kernel_rfl) (.inl rfl) (by simp only [push_cast, seval]) (by simp only [push_cast, seval]) ?_
        refine rs 3 [] [] (by kernel_rfl) allP_nil ?_
        obtain ⟨r4297, hr4297, h⟩ := bind_sx h
        refine call_x (SpecW.give (wait_Move_spec r4296 xat to n r4297 hr4297) [(0, .row 55 (fl r4296))] [.own 0 0 r4296.length, iS xat, iS to, iS n] [] (.tup [.sl r4297.1.length (fl r4297.1), .agg (Enc.cells r4297.2)]) [] (by first | simp only [push_cast, seval] | simp only [push_cast, List.mem_singleton, true_and, and_true, seval]) (by simp only [push_cast, seval]) (by simp only [push_cast, seval]) (by simp only [push_cast, seval]) rfl (by simp only [push_cast, seval]) (by simp only [push_cast, seval]) rfl) (args := [.own 22 0 r4296.length, iS xat, iS to, iS n]) (dst := (some 42)) (by kernel_rfl) [(0, .row 22 [.sl l.length (fl l)]), (1, .row 3 [iS xat]), (2, .row 3 [iS to]), (4, .dead), (9, .row 55 (fl r4293.2.1)), (10, .row 3 (fl r4293.2.2)), (16, .row 27 (Enc.cells r4293.1)), (22, .row 55 (fl r4296))] 27 (by kernel_rfl) [(0, 22)] [] (.tup [.sl r4297.1.length (fl r4297.1), .agg (Enc.cells r4297.2)]) [(22, .dead)] (by simp only [push_cast, seval]) (by simp only [push_cast, seval]) (by kernel_rfl) (.inl rfl) (by simp only [push_cast, seval]) (by simp only [push_cast, seval]) ?_
        refine rs 6 [] [] (by kernel_rfl) allP_nil ?_
        refine rt [(3, iS n), (4, .ptr 0 0), (5, .ptr 1 0), (6, .ptr 2 0), (9, .own 9 0 r4293.2.1.length), (10, .own 10 0 r4293.2.2.length), (11, .ptr 16 0), (12, .sl r4297.1.length (fl r4297.1)), (13, .ptr 32 0)] [(0, .row 22 [.sl l.length (fl l)]), (1, .row 3 [iS xat]), (2, .row 3 [iS to]), (4, .dead), (9, .row 55 (fl r4293.2.1)), (10, .row 3 (fl r4293.2.2)), (16, .row 27 (Enc.cells r4293.1)), (22, .dead), (32, .row 27 (Enc.cells r4297.2))] 36 follows (by kernel_rfl) ?_
        refine wk_id ?_
        refine seq_np ?_
        refine reg_f ?_
        refine rs 1 [] [] (by kernel_rfl) allP_nil ?_
        obtain ⟨r4299, hr4299, h⟩ := bind_sx h
        refine run_call 13 [.sl l.length (fl l)] (some 46) (by kernel_rfl) ?_
        refine call_0 (taskmillref_LinesFault_spec l r4299 hr4299) (by simp only [push_cast, seval]) (by simp only [push_cast, seval]) ?_
        refine back_f ?_
        refine rs 2 [] [] (by kernel_rfl) allP_nil ?_
        refine rf [(3, iS n), (4, .ptr 0 0), (5, .ptr 1 0), (6, .ptr 2 0), (9, .own 9 0 r4293.2.1.length), (10, .own 10 0 r4293.2.2.length), (11, .ptr 16 0), (12, .sl r4297.1.length (fl r4297.1)), (13, .ptr 32 0), (14, .ptr 36 0)] [(0, .row 22 [.sl l.length (fl l)]), (1, .row 3 [iS xat]), (2, .row 3 [iS to]), (4, .dead), (9, .row 55 (fl r4293.2.1)), (10, .row 3 (fl r4293.2.2)), (16, .row 27 (Enc.cells r4293.1)), (22, .dead), (32, .row 27 (Enc.cells r4297.2)), (36, .row 27 (Enc.cells r4299))] 37 (by kernel_rfl) ?_
        refine wk_id ?_
        refine seq_np ?_
        refine seq_cut (A := Unit) (fun _ => ([(3, iS n), (4, .ptr 0 0), (5, .ptr 1 0), (6, .ptr 2 0), (9, .own 9 0 r4293.2.1.length), (10, .own 10 0 r4293.2.2.length), (11, .ptr 16 0), (12, .sl r4297.1.length (fl r4297.1)), (13, .ptr 32 0), (14, .ptr 36 0), (59, bS ((!((r4293.1.Code == r4299.Code) && ((r4293.1.At == r4299.At) && true))) || ((r4299.Code != 0) && (decide ((0 : Int) < ((r4293.2.2.length : Nat) : Int))))))], [(0, .row 22 [.sl l.length (fl l)]), (1, .row 3 [iS xat]), (2, .row 3 [iS to]), (9, .row 55 (fl r4293.2.1)), (10, .row 3 (fl r4293.2.2)), (16, .row 27 (Enc.cells r4293.1)), (32, .row 27 (Enc.cells r4297.2)), (36, .row 27 (Enc.cells r4299))], 37)) (fun _ => True) (fun K4305 hK4305 => ?_) (fun _ _ => ?_)
        · refine reg_f ?_
          refine rs 4 [] [] (by kernel_rfl) allP_nil ?_
          refine run_split 50 (!((r4293.1.Code == r4299.Code) && ((r4293.1.At == r4299.At) && true))) (.inl (by kernel_rfl)) (fun g4306 => ?_) (fun g4306 => ?_)
          · refine rs 9 [] [] (by kernel_rfl) allP_nil ?_
            refine rf [(3, iS n), (4, .ptr 0 0), (5, .ptr 1 0), (6, .ptr 2 0), (9, .own 9 0 r4293.2.1.length), (10, .own 10 0 r4293.2.2.length), (11, .ptr 16 0), (12, .sl r4297.1.length (fl r4297.1)), (13, .ptr 32 0), (14, .ptr 36 0), (59, bS true)] [(0, .row 22 [.sl l.length (fl l)]), (1, .row 3 [iS xat]), (2, .row 3 [iS to]), (4, .dead), (9, .row 55 (fl r4293.2.1)), (10, .row 3 (fl r4293.2.2)), (16, .row 27 (Enc.cells r4293.1)), (22, .dead), (32, .row 27 (Enc.cells r4297.2)), (36, .row 27 (Enc.cells r4299))] 37 (by kernel_rfl) ?_
            exact hK4305 () _ _ _ trivial (leSt_m [(0, 0), (1, 1), (2, 2), (9, 9), (10, 10), (16, 16), (32, 32), (36, 36)] [] (by (try simp only [g4306]) <;> simp only [push_cast, seval]) (by (try simp only [g4306]) <;> simp only [push_cast, seval]) rfl rfl rfl)
          · refine rs 4 [] [] (by kernel_rfl) allP_nil ?_
            refine run_split 54 (r4299.Code != 0) (.inr (by kernel_rfl)) (fun g4307 => ?_) (fun g4307 => ?_)
            · refine rs 5 [] [] (by kernel_rfl) allP_nil ?_
              refine rf [(3, iS n), (4, .ptr 0 0), (5, .ptr 1 0), (6, .ptr 2 0), (9, .own 9 0 r4293.2.1.length), (10, .own 10 0 r4293.2.2.length), (11, .ptr 16 0), (12, .sl r4297.1.length (fl r4297.1)), (13, .ptr 32 0), (14, .ptr 36 0), (59, bS (decide ((0 : Int) < ((r4293.2.2.length : Nat) : Int))))] [(0, .row 22 [.sl l.length (fl l)]), (1, .row 3 [iS xat]), (2, .row 3 [iS to]), (4, .dead), (9, .row 55 (fl r4293.2.1)), (10, .row 3 (fl r4293.2.2)), (16, .row 27 (Enc.cells r4293.1)), (22, .dead), (32, .row 27 (Enc.cells r4297.2)), (36, .row 27 (Enc.cells r4299))] 37 (by kernel_rfl) ?_
              exact hK4305 () _ _ _ trivial (leSt_m [(0, 0), (1, 1), (2, 2), (9, 9), (10, 10), (16, 16), (32, 32), (36, 36)] [] (by first | ((try simp only [g4306, g4307]) <;> simp only [push_cast, seval]; done) | ((try simp only [g4306]); (try simp only [g4307]); simp only [push_cast, seval]; done) | (exfalso; clear h; simp_all; done)) (by first | ((try simp only [g4306, g4307]) <;> simp only [push_cast, seval]; done) | ((try simp only [g4306]); (try simp only [g4307]); simp only [push_cast, seval]; done) | (exfalso; clear h; simp_all; done)) rfl rfl rfl)
            · refine rs 5 [] [] (by kernel_rfl) allP_nil ?_
              refine rf [(3, iS n), (4, .ptr 0 0), (5, .ptr 1 0), (6, .ptr 2 0), (9, .own 9 0 r4293.2.1.length), (10, .own 10 0 r4293.2.2.length), (11, .ptr 16 0), (12, .sl r4297.1.length (fl r4297.1)), (13, .ptr 32 0), (14, .ptr 36 0), (59, bS false)] [(0, .row 22 [.sl l.length (fl l)]), (1, .row 3 [iS xat]), (2, .row 3 [iS to]), (4, .dead), (9, .row 55 (fl r4293.2.1)), (10, .row 3 (fl r4293.2.2)), (16, .row 27 (Enc.cells r4293.1)), (22, .dead), (32, .row 27 (Enc.cells r4297.2)), (36, .row 27 (Enc.cells r4299))] 37 (by kernel_rfl) ?_
              exact hK4305 () _ _ _ trivial (leSt_m [(0, 0), (1, 1), (2, 2), (9, 9), (10, 10), (16, 16), (32, 32), (36, 36)] [] (by first | ((try simp only [g4306, g4307]) <;> simp only [push_cast, seval]; done) | ((try simp only [g4306]); (try simp only [g4307]); simp only [push_cast, seval]; done) | (exfalso; clear h; simp_all; done)) (by first | ((try simp only [g4306, g4307]) <;> simp only [push_cast, seval]; done) | ((try simp only [g4306]); (try simp only [g4307]); simp only [push_cast, seval]; done) | (exfalso; clear h; simp_all; done)) rfl rfl rfl)
        · dsimp only
          refine cond_sx h (by kernel_rfl) (fun g4332 h => ?_) (fun g4332 h => ?_)
          · refine seq_np ?_
            refine reg_f ?_
            refine rs 1 [] [] (by kernel_rfl) allP_nil ?_
            refine rf [(8, bS false)] [(0, .row 22 [.sl l.length (fl l)]), (1, .row 3 [iS xat]), (2, .row 3 [iS to]), (9, .row 55 (fl r4293.2.1)), (10, .row 3 (fl r4293.2.2)), (16, .row 27 (Enc.cells r4293.1)), (32, .row 27 (Enc.cells r4297.2)), (36, .row 27 (Enc.cells r4299))] 37 (by kernel_rfl) ?_
            refine wk_id ?_
            obtain rfl := Option.some.inj h
            refine ret_at (bS false) (by kernel_rfl) ?_
            exact ret_e [] [] (by simp only [push_cast, seval]) (by simp only [push_cast, seval]) rfl rfl rfl
          · refine wk_id ?_
            refine seq_np ?_
            refine reg_f ?_
            refine rs 2 [] [] (by kernel_rfl) allP_nil ?_
            obtain ⟨r4310, hr4310, h⟩ := bind_sx h
            refine run_call 21 [.sl l.length (fl l), iS xat] (some 63) (by kernel_rfl) ?_
            refine call_0 (taskmillref_AtLine_spec l xat r4310 hr4310) (by simp only [push_cast, seval]) (by simp only [push_cast, seval]) ?_
            refine back_f ?_
            refine rs 1 [] [] (by kernel_rfl) allP_nil ?_
            obtain ⟨r4311, hr4311, h⟩ := bind_sx h
            refine run_call 25 [.sl r4310.length (fl r4310), iS n] (some 65) (by kernel_rfl) ?_
            refine call_0 (taskmilllaw_woken_spec r4310 n r4311 hr4311) (by simp only [push_cast, seval]) (by simp only [push_cast, seval]) ?_
            refine back_f ?_
            refine rs 7 [] [] (by kernel_rfl) allP_nil ?_
            refine rf [(4, .ptr 0 0), (5, .ptr 1 0), (6, .ptr 2 0), (9, .own 9 0 r4293.2.1.length), (10, .own 10 0 r4293.2.2.length), (11, .ptr 16 0), (12, .sl r4297.1.length (fl r4297.1)), (13, .ptr 32 0), (14, .ptr 36 0), (15, .ptr 37 0), (16, .ptr 38 0)] [(0, .row 22 [.sl l.length (fl l)]), (1, .row 3 [iS xat]), (2, .row 3 [iS to]), (9, .row 55 (fl r4293.2.1)), (10, .row 3 (fl r4293.2.2)), (16, .row 27 (Enc.cells r4293.1)), (32, .row 27 (Enc.cells r4297.2)), (36, .row 27 (Enc.cells r4299)), (37, .row 34 [.sl r4311.1.length (fl r4311.1)]), (38, .row 34 [.sl r4311.2.length (fl r4311.2)])] 39 (by kernel_rfl) ?_
            refine wk_id ?_
            refine seq_np ?_
            refine seq_cut (A := (List Line) × Bool × (List Line) × Fault × Fault × Fault × (List Int) × (List Int)) (fun a => ([(4, .ptr 0 0), (5, .ptr 1 0), (6, .ptr 2 0), (9, .own 3 0 a.2.2.1.length), (11, .ptr 4 0), (12, .sl a.1.length (fl a.1)), (13, .ptr 5 0), (14, .ptr 6 0), (15, .ptr 7 0), (16, .ptr 8 0), (76, bS a.2.1)], [(0, .row 22 [.sl l.length (fl l)]), (1, .row 3 [iS xat]), (2, .row 3 [iS to]), (3, .row 55 (fl a.2.2.1)), (4, .row 27 (Enc.cells a.2.2.2.1)), (5, .row 27 (Enc.cells a.2.2.2.2.1)), (6, .row 27 (Enc.cells a.2.2.2.2.2.1)), (7, .row 34 [.sl a.2.2.2.2.2.2.1.length (fl a.2.2.2.2.2.2.1)]), (8, .row 34 [.sl a.2.2.2.2.2.2.2.length (fl a.2.2.2.2.2.2.2)])], 9)) (fun a => (taskmilllaw_WaitWakes_j2 l xat to a.1 a.2.1 a.2.2.1 a.2.2.2.1 a.2.2.2.2.1 a.2.2.2.2.2.1 a.2.2.2.2.2.2.1 a.2.2.2.2.2.2.2) = some r) (fun K4320 hK4320 => ?_) ?_
            · refine reg_f ?_
              refine rs 4 [] [] (by kernel_rfl) allP_nil ?_
              refine run_br h 71 (.inl (by kernel_rfl)) (fun g4321 h => ?_) (fun g4321 h => ?_)
              · refine rs 2 [] [] (by kernel_rfl) allP_nil ?_
                obtain ⟨r4322, hr4322, h⟩ := bind_sx h
                refine call_x (taskmillref_Ints_spec r4293.2.2 r4311.1 r4322 hr4322) (args := [.own 10 0 r4293.2.2.length, .sl r4311.1.length (fl r4311.1)]) (dst := (some 74)) (by kernel_rfl) [(0, .row 22 [.sl l.length (fl l)]), (1, .row 3 [iS xat]), (2, .row 3 [iS to]), (9, .row 55 (fl r4293.2.1)), (10, .row 3 (fl r4293.2.2)), (16, .row 27 (Enc.cells r4293.1)), (32, .row 27 (Enc.cells r4297.2)), (36, .row 27 (Enc.cells r4299)), (37, .row 34 [.sl r4311.1.length (fl r4311.1)]), (38, .row 34 [.sl r4311.2.length (fl r4311.2)])] 39 (by kernel_rfl) [] [10] (bS r4322) [] (by simp only [push_cast, seval]) (by simp only [push_cast, seval]) (by kernel_rfl) (.inr ⟨by simp only [push_cast, seval], by simp only [push_cast, seval]⟩) (by simp only [push_cast, seval]) (by simp only [push_cast, seval]) ?_
                refine rs 2 [] [] (by kernel_rfl) allP_nil ?_
                refine rf [(4, .ptr 0 0), (5, .ptr 1 0), (6, .ptr 2 0), (9, .own 9 0 r4293.2.1.length), (11, .ptr 16 0), (12, .sl r4297.1.length (fl r4297.1)), (13, .ptr 32 0), (14, .ptr 36 0), (15, .ptr 37 0), (16, .ptr 38 0), (76, bS (!r4322))] [(0, .row 22 [.sl l.length (fl l)]), (1, .row 3 [iS xat]), (2, .row 3 [iS to]), (9, .row 55 (fl r4293.2.1)), (10, .row 3 (fl r4293.2.2)), (16, .row 27 (Enc.cells r4293.1)), (32, .row 27 (Enc.cells r4297.2)), (36, .row 27 (Enc.cells r4299)), (37, .row 34 [.sl r4311.1.length (fl r4311.1)]), (38, .row 34 [.sl r4311.2.length (fl r4311.2)])] 39 (by kernel_rfl) ?_
                exact hK4320 (r4297.1, (!r4322), r4293.2.1, r4293.1, r4297.2, r4299, r4311.1, r4311.2) _ _ _ h (leSt_m [(0, 0), (1, 1), (2, 2), (3, 9), (4, 16), (5, 32), (6, 36), (7, 37), (8, 38)] [] (by (try simp only [g4321]) <;> simp only [push_cast, seval]) (by (try simp only [g4321]) <;> simp only [push_cast, seval]) rfl rfl rfl)
              · refine rs 5 [] [] (by kernel_rfl) allP_nil ?_
                refine rf [(4, .ptr 0 0), (5, .ptr 1 0), (6, .ptr 2 0), (9, .own 9 0 r4293.2.1.length), (11, .ptr 16 0), (12, .sl r4297.1.length (fl r4297.1)), (13, .ptr 32 0), (14, .ptr 36 0), (15, .ptr 37 0), (16, .ptr 38 0), (76, bS false)] [(0, .row 22 [.sl l.length (fl l)]), (1, .row 3 [iS xat]), (2, .row 3 [iS to]), (9, .row 55 (fl r4293.2.1)), (10, .row 3 (fl r4293.2.2)), (16, .row 27 (Enc.cells r4293.1)), (32, .row 27 (Enc.cells r4297.2)), (36, .row 27 (Enc.cells r4299)), (37, .row 34 [.sl r4311.1.length (fl r4311.1)]), (38, .row 34 [.sl r4311.2.length (fl r4311.2)])] 39 (by kernel_rfl) ?_
                exact hK4320 (r4297.1, false, r4293.2.1, r4293.1, r4297.2, r4299, r4311.1, r4311.2) _ _ _ h (leSt_m [(0, 0), (1, 1), (2, 2), (3, 9), (4, 16), (5, 32), (6, 36), (7, 37), (8, 38)] [] (by (try simp only [g4321]) <;> simp only [push_cast, seval]) (by (try simp only [g4321]) <;> simp only [push_cast, seval]) rfl rfl rfl)
            · rintro ⟨m2, t76q2, c3q2, c4q2, c5q2, c6q2, c7q2, c8q2⟩ h
              try dsimp only at h ⊢
              unfold taskmilllaw_WaitWakes_j2 at h
              refine cond_sx h (by kernel_rfl) (fun g4331 h => ?_) (fun g4331 h => ?_)
              · refine seq_np ?_
                refine reg_f ?_
                refine rs 1 [] [] (by kernel_rfl) allP_nil ?_
                refine rf [(8, bS false)] [(0, .row 22 [.sl l.length (fl l)]), (1, .row 3 [iS xat]), (2, .row 3 [iS to]), (3, .row 55 (fl c3q2)), (4, .row 27 (Enc.cells c4q2)), (5, .row 27 (Enc.cells c5q2)), (6, .row 27 (Enc.cells c6q2)), (7, .row 34 [.sl c7q2.length (fl c7q2)]), (8, .row 34 [.sl c8q2.length (fl c8q2)])] 9 (by kernel_rfl) ?_
                refine wk_id ?_
                obtain rfl := Option.some.inj h
                refine ret_at (bS false) (by kernel_rfl) ?_
                exact ret_e [] [] (by simp only [push_cast, seval]) (by simp only [push_cast, seval]) rfl rfl rfl
              · refine wk_id ?_
                refine seq_cut (A := Bool) (fun a => ([(8, bS a)], [], 0)) (fun a => (taskmilllaw_WaitWakes_j1 a) = some r) (fun K4327 hK4327 => ?_) ?_
                · refine reg_f ?_
                  refine rs 4 [] [] (by kernel_rfl) allP_nil ?_
                  obtain ⟨r4328, hr4328, h⟩ := bind_sx h
                  refine call_x (SpecW.give (taskmilllaw_linesAs_1_spec c3q2 c4q2 c6q2 l xat c8q2 r4328 hr4328) [(0, .row 22 [.sl l.length (fl l)]), (1, .row 3 [iS xat]), (2, .row 34 [.sl c8q2.length (fl c8q2)]), (3, .row 55 (fl c3q2))] [.own 3 0 c3q2.length, .agg (Enc.cells c4q2), .agg (Enc.cells c6q2), .clo 27 [.ptr 0 0, .ptr 1 0, .ptr 2 0]] [(0, 0), (1, 1), (2, 2)] (bS r4328.1) [(0, .row 22 [.sl r4328.2.1.length (fl r4328.2.1)]), (1, .row 3 [iS r4328.2.2.1]), (2, .row 34 [.sl r4328.2.2.2.length (fl r4328.2.2.2)]), (0, .dead), (1, .dead), (2, .dead)] (by first | simp only [push_cast, seval] | simp only [push_cast, List.mem_singleton, true_and, and_true, seval]) (by simp only [push_cast, seval]) (by simp only [push_cast, seval]) (by simp only [push_cast, seval]) rfl (by simp only [push_cast, seval]) (by simp only [push_cast, seval]) rfl) (args := [.own 3 0 c3q2.length, .agg (Enc.cells c4q2), .agg (Enc.cells c6q2), .clo 27 [.ptr 0 0, .ptr 1 0, .ptr 8 0]]) (dst := (some 81)) (by kernel_rfl) [(0, .row 22 [.sl l.length (fl l)]), (1, .row 3 [iS xat]), (2, .row 3 [iS to]), (3, .row 55 (fl c3q2)), (4, .row 27 (Enc.cells c4q2)), (5, .row 27 (Enc.cells c5q2)), (6, .row 27 (Enc.cells c6q2)), (7, .row 34 [.sl c7q2.length (fl c7q2)]), (8, .row 34 [.sl c8q2.length (fl c8q2)])] 9 (by kernel_rfl) [(0, 0), (1, 1), (2, 8), (3, 3)] [] (bS r4328.1) [(0, .row 22 [.sl r4328.2.1.length (fl r4328.2.1)]), (1, .row 3 [iS r4328.2.2.1]), (8, .row 34 [.sl r4328.2.2.2.length (fl r4328.2.2.2)]), (0, .dead), (1, .dead), (8, .dead), (0, .dead), (1, .dead), (8, .dead), (3, .dead)] (by simp only [push_cast, seval]) (by simp only [push_cast, seval]) (by kernel_rfl) (.inl rfl) (by simp only [push_cast, seval]) (by simp only [push_cast, seval]) ?_
                  refine rs 1 [] [] (by kernel_rfl) allP_nil ?_
                  refine run_br h 82 (.inl (by kernel_rfl)) (fun g4329 h => ?_) (fun g4329 h => ?_)
                  · refine rs 4 [] [] (by kernel_rfl) allP_nil ?_
                    obtain ⟨r4330, hr4330, h⟩ := bind_sx h
                    refine call_x (taskmilllaw_linesAs_2_spec m2 c5q2 c6q2 r4328.2.1 r4328.2.2.1 r4328.2.2.2 to c7q2 r4330 hr4330) (args := [.sl m2.length (fl m2), .agg (Enc.cells c5q2), .agg (Enc.cells c6q2), .clo 28 [.ptr 0 0, .ptr 1 0, .ptr 8 0, .ptr 2 0, .ptr 7 0]]) (dst := (some 87)) (by kernel_rfl) [(0, .row 22 [.sl r4328.2.1.length (fl r4328.2.1)]), (1, .row 3 [iS r4328.2.2.1]), (2, .row 3 [iS to]), (3, .dead), (4, .row 27 (Enc.cells c4q2)), (5, .row 27 (Enc.cells c5q2)), (6, .row 27 (Enc.cells c6q2)), (7, .row 34 [.sl c7q2.length (fl c7q2)]), (8, .row 34 [.sl r4328.2.2.2.length (fl r4328.2.2.2)])] 16 (by kernel_rfl) [(0, 0), (1, 1), (2, 8), (3, 2), (4, 7)] [] (bS r4330.1) [(0, .row 22 [.sl r4330.2.1.length (fl r4330.2.1)]), (1, .row 3 [iS r4330.2.2.1]), (8, .row 34 [.sl r4330.2.2.2.1.length (fl r4330.2.2.2.1)]), (2, .row 3 [iS r4330.2.2.2.2.1]), (7, .row 34 [.sl r4330.2.2.2.2.2.length (fl r4330.2.2.2.2.2)]), (0, .dead), (1, .dead), (8, .dead), (2, .dead), (7, .dead)] (by simp only [push_cast, seval]) (by simp only [push_cast, seval]) (by kernel_rfl) (.inl rfl) (by simp only [push_cast, seval]) (by simp only [push_cast, seval]) ?_
                    refine rs 2 [] [] (by kernel_rfl) allP_nil ?_
                    refine rf [(8, bS r4330.1)] [(0, .row 22 [.sl r4330.2.1.length (fl r4330.2.1)]), (1, .row 3 [iS r4330.2.2.1]), (2, .row 3 [iS r4330.2.2.2.2.1]), (3, .dead), (4, .row 27 (Enc.cells c4q2)), (5, .row 27 (Enc.cells c5q2)), (6, .row 27 (Enc.cells c6q2)), (7, .row 34 [.sl r4330.2.2.2.2.2.length (fl r4330.2.2.2.2.2)]), (8, .row 34 [.sl r4330.2.2.2.1.length (fl r4330.2.2.2.1)])] 21 (by kernel_rfl) ?_
                    exact hK4327 (r4330.1) _ _ _ h (leSt_m [] [] (by (try simp only [g4329]) <;> simp only [push_cast, seval]) (by (try simp only [g4329]) <;> simp only [push_cast, seval]) rfl rfl rfl)
                  · refine rs 7 [] [] (by kernel_rfl) allP_nil ?_
                    refine rf [(8, bS false)] [(0, .row 22 [.sl r4328.2.1.length (fl r4328.2.1)]), (1, .row 3 [iS r4328.2.2.1]), (2, .row 3 [iS to]), (3, .dead), (4, .row 27 (Enc.cells c4q2)), (5, .row 27 (Enc.cells c5q2)), (6, .row 27 (Enc.cells c6q2)), (7, .row 34 [.sl c7q2.length (fl c7q2)]), (8, .row 34 [.sl r4328.2.2.2.length (fl r4328.2.2.2)])] 16 (by kernel_rfl) ?_
                    exact hK4327 (false) _ _ _ h (leSt_m [] [] (by (try simp only [g4329]) <;> simp only [push_cast, seval]) (by (try simp only [g4329]) <;> simp only [push_cast, seval]) rfl rfl rfl)
                · rintro t8q1 h
                  try dsimp only at h ⊢
                  unfold taskmilllaw_WaitWakes_j1 at h
                  obtain rfl := Option.some.inj h
                  refine ret_at (bS t8q1) (by kernel_rfl) ?_
                  exact ret_e [] [] (by simp only [push_cast, seval]) (by simp only [push_cast, seval]) rfl rfl rfl

end Go.Proofs.Ytnnpjaoddniifaa
