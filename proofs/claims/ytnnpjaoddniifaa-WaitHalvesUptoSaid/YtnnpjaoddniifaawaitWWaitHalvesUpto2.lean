/-
  What laws of the chapter wait compute, and lemmas on it.
  No conditions.
-/
import Derived.Test.YtnnpjaoddniifaawaitWWaitHalvesUpto1
set_option linter.unusedSimpArgs false
set_option linter.unusedVariables false
namespace Go.Proofs.Ytnnpjaoddniifaa
open Go Go.Sx
attribute [local irreducible] Wk RunAt
set_option maxRecDepth 100000 in
set_option maxHeartbeats 200000000 in
theorem taskmilllaw_WaitHalves_spec (l : (List Line)) (xat : Int) (to : Int) (m : Int) (n : Int) (r : Bool) (h : taskmilllaw_WaitHalves l xat to m n = some r) : SpecW Try.prog 7 [.sl l.length (fl l), iS xat, iS to, iS m, iS n] [] 0 (fun x h n => x = bS r ∧ h = [] ∧ n = 0) := by
  unfold taskmilllaw_WaitHalves at h
  refine spec_of (draw_ok _) Try.func7 rfl (by decide) rfl (by kernel_rfl) ?_
  refine seq_np ?_
  refine reg_f ?_
  refine rs 1 [] [] (by kernel_rfl) allP_nil ?_
  refine rf [(0, .sl l.length (fl l)), (1, iS xat), (2, iS to), (3, iS m), (4, iS n)] [] 0 (by kernel_rfl) ?_
  refine wk_id ?_
  refine seq_np ?_
  refine seq_np ?_
  refine reg_f ?_
  obtain ⟨r4905, hr4905, h⟩ := bind_sx h
  refine run_call 8 [] (some 29) (by kernel_rfl) ?_
  refine call_0 (taskmilllaw_waitBegun_spec r4905 hr4905) (by simp only [push_cast, seval]) (by simp only [push_cast, seval]) ?_
  refine back_f ?_
  refine rs 1 [] [] (by kernel_rfl) allP_nil ?_
  refine rf [(0, .sl l.length (fl l)), (1, iS xat), (2, iS to), (3, iS m), (4, iS n), (30, bS (!r4905))] [] 0 (by kernel_rfl) ?_
  refine wk_id ?_
  refine cond_sx h (by kernel_rfl) (fun g5043 h => ?_) (fun g5043 h => ?_)
  · refine seq_np ?_
    refine reg_f ?_
    refine rs 1 [] [] (by kernel_rfl) allP_nil ?_
    refine rf [(10, bS false)] [] 0 (by kernel_rfl) ?_
    refine wk_id ?_
    obtain rfl := Option.some.inj h
    refine ret_at (bS false) (by kernel_rfl) ?_
    exact ret_e [] [] (by simp only [push_cast, seval]) (by simp only [push_cast, seval]) rfl rfl rfl
  · refine wk_id ?_
    refine seq_np ?_
    refine seq_cut (A := Bool) (fun a => ([(0, .sl l.length (fl l)), (1, iS xat), (2, iS to), (3, iS m), (4, iS n), (65, bS a)], [], 0)) (fun a => (taskmilllaw_WaitHalves_j5 l xat to m n a) = some r) (fun K4930 hK4930 => ?_) ?_
    · refine reg_f ?_
      refine rs 1 [] [] (by kernel_rfl) allP_nil ?_
      obtain ⟨r4931, hr4931, h⟩ := bind_sx h
      refine run_call 9 [.sl l.length (fl l)] (some 32) (by kernel_rfl) ?_
      refine call_0 (taskmilllaw_vastLines_spec l r4931 hr4931) (by simp only [push_cast, seval]) (by simp only [push_cast, seval]) ?_
      refine back_f ?_
      refine rs 1 [] [] (by kernel_rfl) allP_nil ?_
      refine run_br h 33 (.inl (by kernel_rfl)) (fun g4932 h => ?_) (fun g4932 h => ?_)
      · refine rs 32 [] [] (by kernel_rfl) allP_nil ?_
        refine rf [(0, .sl l.length (fl l)), (1, iS xat), (2, iS to), (3, iS m), (4, iS n), (65, bS true)] [] 0 (by kernel_rfl) ?_
        exact hK4930 (true) _ _ _ h (leSt_m [] [] (by (try simp only [g4932]) <;> simp only [push_cast, seval]) (by (try simp only [g4932]) <;> simp only [push_cast, seval]) rfl rfl rfl)
      · refine rs 1 [] [] (by kernel_rfl) allP_nil ?_
        obtain ⟨r4933, hr4933, h⟩ := bind_sx h
        refine call_x (taskmillref_Waiting_spec l r4933 hr4933) (args := [.sl l.length (fl l)]) (dst := (some 35)) (by kernel_rfl) [] 0 (by kernel_rfl) [] [] (.own 0 0 r4933.length) [(0, .row 3 (fl r4933))] (by simp only [push_cast, seval]) (by simp only [push_cast, seval]) (by kernel_rfl) (.inl rfl) (by simp only [push_cast, seval]) (by simp only [push_cast, seval]) ?_
        refine rn 5 [(0, .sl l.length (fl l)), (1, iS xat), (2, iS to), (3, iS m), (4, iS n), (33, bS false), (35, .own 0 0 r4933.length)] [(0, .row 3 (fl r4933))] 1 (by kernel_rfl) ?_
        refine rs 4 [] [] (by kernel_rfl) allP_nil ?_
        refine run_br h 39 (.inl (by kernel_rfl)) (fun g4934 h => ?_) (fun g4934 h => ?_)
        · refine rs 26 [] [] (by kernel_rfl) allP_nil ?_
          refine rf [(0, .sl l.length (fl l)), (1, iS xat), (2, iS to), (3, iS m), (4, iS n), (65, bS true)] [(0, .row 3 (fl r4933))] 1 (by kernel_rfl) ?_
          exact hK4930 (true) _ _ _ h (leSt_m [] [] (by first | ((try simp only [g4932, g4934]) <;> simp only [push_cast, seval]; done) | ((try simp only [g4932]); (try simp only [g4934]); simp only [push_cast, seval]; done) | (exfalso; clear h; simp_all; done)) (by first | ((try simp only [g4932, g4934]) <;> simp only [push_cast, seval]; done) | ((try simp only [g4932]); (try simp only [g4934]); simp only [push_cast, seval]; done) | (exfalso; clear h; simp_all; done)) rfl rfl rfl)
        · refine rs 1 [] [] (by kernel_rfl) allP_nil ?_
          obtain ⟨r4935, hr4935, h⟩ := bind_sx h
          refine run_call 13 [.sl l.length (fl l)] (some 41) (by kernel_rfl) ?_
          refine call_0 (taskmillref_LinesFault_spec l r4935 hr4935) (by simp only [push_cast, seval]) (by simp only [push_cast, seval]) ?_
          refine back_f ?_
          refine rs 4 [] [] (by kernel_rfl) allP_nil ?_
          refine run_br h 45 (.inl (by kernel_rfl)) (fun g4936 h => ?_) (fun g4936 h => ?_)
          · refine rn 15 [(0, .sl l.length (fl l)), (1, iS xat), (2, iS to), (3, iS m), (4, iS n), (45, bS true)] [(0, .row 3 (fl r4933))] 1 (by kernel_rfl) ?_
            refine rs 20 [] [] (by kernel_rfl) allP_nil ?_
            refine rf [(0, .sl l.length (fl l)), (1, iS xat), (2, iS to), (3, iS m), (4, iS n), (65, bS true)] [(0, .row 3 (fl r4933))] 1 (by kernel_rfl) ?_
            exact hK4930 (true) _ _ _ h (leSt_m [] [] (by first | ((try simp only [g4932, g4934, g4936]) <;> simp only [push_cast, seval]; done) | ((try simp only [g4932]); (try simp only [g4934]); (try simp only [g4936]); simp only [push_cast, seval]; done) | (exfalso; clear h; simp_all; done)) (by first | ((try simp only [g4932, g4934, g4936]) <;> simp only [push_cast, seval]; done) | ((try simp only [g4932]); (try simp only [g4934]); (try simp only [g4936]); simp only [push_cast, seval]; done) | (exfalso; clear h; simp_all; done)) rfl rfl rfl)
          · refine rn 15 [(0, .sl l.length (fl l)), (1, iS xat), (2, iS to), (3, iS m), (4, iS n), (45, bS false)] [(0, .row 3 (fl r4933))] 1 (by kernel_rfl) ?_
            refine rs 4 [] [] (by kernel_rfl) allP_nil ?_
            refine run_br h 49 (.inl (by kernel_rfl)) (fun g4937 h => ?_) (fun g4937 h => ?_)
            · refine rs 16 [] [] (by kernel_rfl) allP_nil ?_
              refine rf [(0, .sl l.length (fl l)), (1, iS xat), (2, iS to), (3, iS m), (4, iS n), (65, bS true)] [(0, .row 3 (fl r4933))] 1 (by kernel_rfl) ?_
              exact hK4930 (true) _ _ _ h (leSt_m [] [] (by first | ((try simp only [g4932, g4934, g4936, g4937]) <;> simp only [push_cast, seval]; done) | ((try simp only [g4932]); (try simp only [g4934]); (try simp only [g4936]); (try simp only [g4937]); simp only [push_cast, seval]; done) | (exfalso; clear h; simp_all; done)) (by first | ((try simp only [g4932, g4934, g4936, g4937]) <;> simp only [push_cast, seval]; done) | ((try simp only [g4932]); (try simp only [g4934]); (try simp only [g4936]); (try simp only [g4937]); simp only [push_cast, seval]; done) | (exfalso; clear h; simp_all; done)) rfl rfl rfl)
            · refine rs 4 [] [] (by kernel_rfl) allP_nil ?_
              refine run_br h 53 (.inl (by kernel_rfl)) (fun g4938 h => ?_) (fun g4938 h => ?_)
              · refine rs 12 [] [] (by kernel_rfl) allP_nil ?_
                refine rf [(0, .sl l.length (fl l)), (1, iS xat), (2, iS to), (3, iS m), (4, iS n), (65, bS true)] [(0, .row 3 (fl r4933))] 1 (by kernel_rfl) ?_
                exact hK4930 (true) _ _ _ h (leSt_m [] [] (by first | ((try simp only [g4932, g4934, g4936, g4937, g4938]) <;> simp only [push_cast, seval]; done) | ((try simp only [g4932]); (try simp only [g4934]); (try simp only [g4936]); (try simp only [g4937]); (try simp only [g4938]); simp only [push_cast, seval]; done) | (exfalso; clear h; simp_all; done)) (by first | ((try simp only [g4932, g4934, g4936, g4937, g4938]) <;> simp only [push_cast, seval]; done) | ((try simp only [g4932]); (try simp only [g4934]); (try simp only [g4936]); (try simp only [g4937]); (try simp only [g4938]); simp only [push_cast, seval]; done) | (exfalso; clear h; simp_all; done)) rfl rfl rfl)
              · refine rs 4 [] [] (by kernel_rfl) allP_nil ?_
                refine run_br h 57 (.inl (by kernel_rfl)) (fun g4939 h => ?_) (fun g4939 h => ?_)
                · refine rn 27 [(0, .sl l.length (fl l)), (1, iS xat), (2, iS to), (3, iS m), (4, iS n), (57, bS true)] [(0, .row 3 (fl r4933))] 1 (by kernel_rfl) ?_
                  refine rs 8 [] [] (by kernel_rfl) allP_nil ?_
                  refine rf [(0, .sl l.length (fl l)), (1, iS xat), (2, iS to), (3, iS m), (4, iS n), (65, bS true)] [(0, .row 3 (fl r4933))] 1 (by kernel_rfl) ?_
                  exact hK4930 (true) _ _ _ h (leSt_m [] [] (by first | ((try simp only [g4932, g4934, g4936, g4937, g4938, g4939]) <;> simp only [push_cast, seval]; done) | ((try simp only [g4932]); (try simp only [g4934]); (try simp only [g4936]); (try simp only [g4937]); (try simp only [g4938]); (try simp only [g4939]); simp only [push_cast, seval]; done) | (exfalso; clear h; simp_all; done)) (by first | ((try simp only [g4932, g4934, g4936, g4937, g4938, g4939]) <;> simp only [push_cast, seval]; done) | ((try simp only [g4932]); (try simp only [g4934]); (try simp only [g4936]); (try simp only [g4937]); (try simp only [g4938]); (try simp only [g4939]); simp only [push_cast, seval]; done) | (exfalso; clear h; simp_all; done)) rfl rfl rfl)
                · refine rn 27 [(0, .sl l.length (fl l)), (1, iS xat), (2, iS to), (3, iS m), (4, iS n), (57, bS false)] [(0, .row 3 (fl r4933))] 1 (by kernel_rfl) ?_
                  refine rs 4 [] [] (by kernel_rfl) allP_nil ?_
                  refine run_br h 61 (.inl (by kernel_rfl)) (fun g4940 h => ?_) (fun g4940 h => ?_)
                  · refine rs 4 [] [] (by kernel_rfl) allP_nil ?_
                    refine rf [(0, .sl l.length (fl l)), (1, iS xat), (2, iS to), (3, iS m), (4, iS n), (65, bS true)] [(0, .row 3 (fl r4933))] 1 (by kernel_rfl) ?_
                    exact hK4930 (true) _ _ _ h (leSt_m [] [] (by first | ((try simp only [g4932, g4934, g4936, g4937, g4938, g4939, g4940]) <;> simp only [push_cast, seval]; done) | ((try simp only [g4932]); (try simp only [g4934]); (try simp only [g4936]); (try simp only [g4937]); (try simp only [g4938]); (try simp only [g4939]); (try simp only [g4940]); simp only [push_cast, seval]; done) | (exfalso; clear h; simp_all; done)) (by first | ((try simp only [g4932, g4934, g4936, g4937, g4938, g4939, g4940]) <;> simp only [push_cast, seval]; done) | ((try simp only [g4932]); (try simp only [g4934]); (try simp only [g4936]); (try simp only [g4937]); (try simp only [g4938]); (try simp only [g4939]); (try simp only [g4940]); simp only [push_cast, seval]; done) | (exfalso; clear h; simp_all; done)) rfl rfl rfl)
                  · refine rs 4 [] [] (by kernel_rfl) allP_nil ?_
                    refine rf [(0, .sl l.length (fl l)), (1, iS xat), (2, iS to), (3, iS m), (4, iS n), (65, bS (xat == to))] [(0, .row 3 (fl r4933))] 1 (by kernel_rfl) ?_
                    exact hK4930 ((xat == to)) _ _ _ h (leSt_m [] [] (by first | ((try simp only [g4932, g4934, g4936, g4937, g4938, g4939, g4940]) <;> simp only [push_cast, seval]; done) | ((try simp only [g4932]); (try simp only [g4934]); (try simp only [g4936]); (try simp only [g4937]); (try simp only [g4938]); (try simp only [g4939]); (try simp only [g4940]); simp only [push_cast, seval]; done) | (exfalso; clear h; simp_all; done)) (by first | ((try simp only [g4932, g4934, g4936, g4937, g4938, g4939, g4940]) <;> simp only [push_cast, seval]; done) | ((try simp only [g4932]); (try simp only [g4934]); (try simp only [g4936]); (try simp only [g4937]); (try simp only [g4938]); (try simp only [g4939]); (try simp only [g4940]); simp only [push_cast, seval]; done) | (exfalso; clear h; simp_all; done)) rfl rfl rfl)
    · rintro t65q2 h
      try dsimp only at h ⊢
      unfold taskmilllaw_WaitHalves_j5 at h
      refine cond_sx h (by kernel_rfl) (fun g5042 h => ?_) (fun g5042 h => ?_)
      · refine seq_np ?_
        refine reg_f ?_
        refine rs 1 [] [] (by kernel_rfl) allP_nil ?_
        refine rf [(10, bS true)] [] 0 (by kernel_rfl) ?_
        refine wk_id ?_
        obtain rfl := Option.some.inj h
        refine ret_at (bS true) (by kernel_rfl) ?_
        exact ret_e [] [] (by simp only [push_cast, seval]) (by simp only [push_cast, seval]) rfl rfl rfl
      · refine wk_id ?_
        refine seq_np ?_
        refine reg_f ?_
        refine rs 3 [] [] (by kernel_rfl) allP_nil ?_
        obtain ⟨r4942, hr4942, h⟩ := bind_sx h
        refine call_x (wait_Wake_spec l xat m r4942 hr4942) (args := [.sl l.length (fl l), iS xat, iS m]) (dst := (some 70)) (by kernel_rfl) [] 0 (by kernel_rfl) [] [] (.tup [.own 0 0 r4942.2.1.length, .own 1 0 r4942.2.2.length, .agg (Enc.cells r4942.1)]) [(0, .row 55 (fl r4942.2.1)), (1, .row 3 (fl r4942.2.2))] (by simp only [push_cast, seval]) (by simp only [push_cast, seval]) (by kernel_rfl) (.inl rfl) (by simp only [push_cast, seval]) (by simp only [push_cast, seval]) ?_
        refine rs 8 [] [] (by kernel_rfl) allP_nil ?_
        refine rf [(0, .sl l.length (fl l)), (1, iS xat), (2, iS to), (3, iS m), (4, iS n), (11, .own 0 0 r4942.2.1.length), (12, .own 1 0 r4942.2.2.length), (13, .ptr 2 0)] [(0, .row 55 (fl r4942.2.1)), (1, .row 3 (fl r4942.2.2)), (2, .row 27 (Enc.cells r4942.1))] 3 (by kernel_rfl) ?_
        refine wk_id ?_
        refine seq_np ?_
        refine reg_f ?_
        refine rs 3 [] [] (by kernel_rfl) allP_nil ?_
        obtain ⟨r4944, hr4944, h⟩ := bind_sx h
        refine call_x (SpecW.give (wait_Wake_spec r4942.2.1 xat n r4944 hr4944) [(0, .row 55 (fl r4942.2.1))] [.own 0 0 r4942.2.1.length, iS xat, iS n] [] (.tup [.own 1 0 r4944.2.1.length, .own 2 0 r4944.2.2.length, .agg (Enc.cells r4944.1)]) [(1, .row 55 (fl r4944.2.1)), (2, .row 3 (fl r4944.2.2))] (by first | simp only [push_cast, seval] | simp only [push_cast, List.mem_singleton, true_and, and_true, seval]) (by simp only [push_cast, seval]) (by simp only [push_cast, seval]) (by simp only [push_cast, seval]) rfl (by simp only [push_cast, seval]) (by simp only [push_cast, seval]) rfl) (args := [.own 0 0 r4942.2.1.length, iS xat, iS n]) (dst := (some 78)) (by kernel_rfl) [(0, .row 55 (fl r4942.2.1)), (1, .row 3 (fl r4942.2.2)), (2, .row 27 (Enc.cells r4942.1))] 3 (by kernel_rfl) [(0, 0)] [] (.tup [.own 4 0 r4944.2.1.length, .own 5 0 r4944.2.2.length, .agg (Enc.cells r4944.1)]) [(4, .row 55 (fl r4944.2.1)), (5, .row 3 (fl r4944.2.2)), (0, .dead)] (by simp only [push_cast, seval]) (by simp only [push_cast, seval]) (by kernel_rfl) (.inl rfl) (by simp only [push_cast, seval]) (by simp only [push_cast, seval]) ?_
        refine rs 8 [] [] (by kernel_rfl) allP_nil ?_
        refine rf [(0, .sl l.length (fl l)), (1, iS xat), (2, iS to), (3, iS m), (4, iS n), (12, .own 1 0 r4942.2.2.length), (13, .ptr 2 0), (14, .own 4 0 r4944.2.1.length), (15, .own 5 0 r4944.2.2.length), (16, .ptr 6 0)] [(0, .dead), (1, .row 3 (fl r4942.2.2)), (2, .row 27 (Enc.cells r4942.1)), (4, .row 55 (fl r4944.2.1)), (5, .row 3 (fl r4944.2.2)), (6, .row 27 (Enc.cells r4944.1))] 7 (by kernel_rfl) ?_
        refine wk_id ?_
        refine seq_np ?_
        refine reg_f ?_
        refine rs 5 [] [] (by kernel_rfl) allP_nil ?_
        obtain ⟨r4946, hr4946, h⟩ := bind_sx h
        refine call_x (wait_Wake_spec l xat (IntKind.i64.wrap (m + n)) r4946 hr4946) (args := [.sl l.length (fl l), iS xat, iS (IntKind.i64.wrap (m + n))]) (dst := (some 88)) (by kernel_rfl) [(0, .dead), (1, .row 3 (fl r4942.2.2)), (2, .row 27 (Enc.cells r4942.1)), (4, .row 55 (fl r4944.2.1)), (5, .row 3 (fl r4944.2.2)), (6, .row 27 (Enc.cells r4944.1))] 7 (by kernel_rfl) [] [] (.tup [.own 7 0 r4946.2.1.length, .own 8 0 r4946.2.2.length, .agg (Enc.cells r4946.1)]) [(7, .row 55 (fl r4946.2.1)), (8, .row 3 (fl r4946.2.2))] (by simp only [push_cast, seval]) (by simp only [push_cast, seval]) (by kernel_rfl) (.inl rfl) (by simp only [push_cast, seval]) (by simp only [push_cast, seval]) ?_
        refine rs 8 [] [] (by kernel_rfl) allP_nil ?_
        refine rf [(0, .sl l.length (fl l)), (1, iS xat), (2, iS to), (3, iS m), (4, iS n), (12, .own 1 0 r4942.2.2.length), (13, .ptr 2 0), (14, .own 4 0 r4944.2.1.length), (15, .own 5 0 r4944.2.2.length), (16, .ptr 6 0), (17, .own 7 0 r4946.2.1.length), (18, .own 8 0 r4946.2.2.length), (19, .ptr 9 0)] [(0, .dead), (1, .row 3 (fl r4942.2.2)), (2, .row 27 (Enc.cells r4942.1)), (4, .row 55 (fl r4944.2.1)), (5, .row 3 (fl r4944.2.2)), (6, .row 27 (Enc.cells r4944.1)), (7, .row 55 (fl r4946.2.1)), (8, .row 3 (fl r4946.2.2)), (9, .row 27 (Enc.cells r4946.1))] 10 (by kernel_rfl) ?_
        refine wk_id ?_
        refine seq_np ?_
        refine seq_cut (A := Bool × (List Int)) (fun a => ([(0, .sl l.length (fl l)), (1, iS xat), (2, iS to), (3, iS m), (4, iS n), (18, .own 0 0 a.2.length), (119, bS a.1)], [(0, .row 3 (fl a.2))], 1)) (fun a => (taskmilllaw_WaitHalves_j4 l xat to m n a.1 a.2) = some r) (fun K4969 hK4969 => ?_) ?_
        · refine reg_f ?_
          refine rs 4 [] [] (by kernel_rfl) allP_nil ?_
          refine run_br h 95 (.inl (by kernel_rfl)) (fun g4970 h => ?_) (fun g4970 h => ?_)
          · refine rs 24 [] [] (by kernel_rfl) allP_nil ?_
            refine rf [(0, .sl l.length (fl l)), (1, iS xat), (2, iS to), (3, iS m), (4, iS n), (18, .own 8 0 r4946.2.2.length), (119, bS true)] [(0, .dead), (1, .row 3 (fl r4942.2.2)), (2, .row 27 (Enc.cells r4942.1)), (4, .row 55 (fl r4944.2.1)), (5, .row 3 (fl r4944.2.2)), (6, .row 27 (Enc.cells r4944.1)), (7, .row 55 (fl r4946.2.1)), (8, .row 3 (fl r4946.2.2)), (9, .row 27 (Enc.cells r4946.1))] 10 (by kernel_rfl) ?_
            exact hK4969 (true, r4946.2.2) _ _ _ h (leSt_m [(0, 8)] [] (by (try simp only [g4970]) <;> simp only [push_cast, seval]) (by (try simp only [g4970]) <;> simp only [push_cast, seval]) rfl rfl rfl)
          · refine rs 5 [] [] (by kernel_rfl) allP_nil ?_
            refine run_br h 100 (.inl (by kernel_rfl)) (fun g4971 h => ?_) (fun g4971 h => ?_)
            · refine rs 19 [] [] (by kernel_rfl) allP_nil ?_
              refine rf [(0, .sl l.length (fl l)), (1, iS xat), (2, iS to), (3, iS m), (4, iS n), (18, .own 8 0 r4946.2.2.length), (119, bS true)] [(0, .dead), (1, .row 3 (fl r4942.2.2)), (2, .row 27 (Enc.cells r4942.1)), (4, .row 55 (fl r4944.2.1)), (5, .row 3 (fl r4944.2.2)), (6, .row 27 (Enc.cells r4944.1)), (7, .row 55 (fl r4946.2.1)), (8, .row 3 (fl r4946.2.2)), (9, .row 27 (Enc.cells r4946.1))] 10 (by kernel_rfl) ?_
              exact hK4969 (true, r4946.2.2) _ _ _ h (leSt_m [(0, 8)] [] (by first | ((try simp only [g4970, g4971]) <;> simp only [push_cast, seval]; done) | ((try simp only [g4970]); (try simp only [g4971]); simp only [push_cast, seval]; done) | (exfalso; clear h; simp_all; done)) (by first | ((try simp only [g4970, g4971]) <;> simp only [push_cast, seval]; done) | ((try simp only [g4970]); (try simp only [g4971]); simp only [push_cast, seval]; done) | (exfalso; clear h; simp_all; done)) rfl rfl rfl)
            · refine rs 5 [] [] (by kernel_rfl) allP_nil ?_
              refine run_br h 105 (.inl (by kernel_rfl)) (fun g4972 h => ?_) (fun g4972 h => ?_)
              · refine rn 14 [(0, .sl l.length (fl l)), (1, iS xat), (2, iS to), (3, iS m), (4, iS n), (12, .own 1 0 r4942.2.2.length), (14, .own 4 0 r4944.2.1.length), (15, .own 5 0 r4944.2.2.length), (17, .own 7 0 r4946.2.1.length), (18, .own 8 0 r4946.2.2.length), (105, bS true)] [(0, .dead), (1, .row 3 (fl r4942.2.2)), (2, .row 27 (Enc.cells r4942.1)), (4, .row 55 (fl r4944.2.1)), (5, .row 3 (fl r4944.2.2)), (6, .row 27 (Enc.cells r4944.1)), (7, .row 55 (fl r4946.2.1)), (8, .row 3 (fl r4946.2.2)), (9, .row 27 (Enc.cells r4946.1))] 10 (by kernel_rfl) ?_
                refine rs 14 [] [] (by kernel_rfl) allP_nil ?_
                refine rf [(0, .sl l.length (fl l)), (1, iS xat), (2, iS to), (3, iS m), (4, iS n), (18, .own 8 0 r4946.2.2.length), (119, bS true)] [(0, .dead), (1, .row 3 (fl r4942.2.2)), (2, .row 27 (Enc.cells r4942.1)), (4, .row 55 (fl r4944.2.1)), (5, .row 3 (fl r4944.2.2)), (6, .row 27 (Enc.cells r4944.1)), (7, .row 55 (fl r4946.2.1)), (8, .row 3 (fl r4946.2.2)), (9, .row 27 (Enc.cells r4946.1))] 10 (by kernel_rfl) ?_
                exact hK4969 (true, r4946.2.2) _ _ _ h (leSt_m [(0, 8)] [] (by first | ((try simp only [g4970, g4971, g4972]) <;> simp only [push_cast, seval]; done) | ((try simp only [g4970]); (try simp only [g4971]); (try simp only [g4972]); simp only [push_cast, seval]; done) | (exfalso; clear h; simp_all; done)) (by first | ((try simp only [g4970, g4971, g4972]) <;> simp only [push_cast, seval]; done) | ((try simp only [g4970]); (try simp only [g4971]); (try simp only [g4972]); simp only [push_cast, seval]; done) | (exfalso; clear h; simp_all; done)) rfl rfl rfl)
              · refine rn 14 [(0, .sl l.length (fl l)), (1, iS xat), (2, iS to), (3, iS m), (4, iS n), (12, .own 1 0 r4942.2.2.length), (14, .own 4 0 r4944.2.1.length), (15, .own 5 0 r4944.2.2.length), (17, .own 7 0 r4946.2.1.length), (18, .own 8 0 r4946.2.2.length), (105, bS false)] [(0, .dead), (1, .row 3 (fl r4942.2.2)), (2, .row 27 (Enc.cells r4942.1)), (4, .row 55 (fl r4944.2.1)), (5, .row 3 (fl r4944.2.2)), (6, .row 27 (Enc.cells r4944.1)), (7, .row 55 (fl r4946.2.1)), (8, .row 3 (fl r4946.2.2)), (9, .row 27 (Enc.cells r4946.1))] 10 (by kernel_rfl) ?_
                refine rs 2 [] [] (by kernel_rfl) allP_nil ?_
                obtain ⟨r4973, hr4973, h⟩ := bind_sx h
                refine call_x (taskmillref_SameLines_spec r4944.2.1 r4946.2.1 r4973 hr4973) (args := [.own 4 0 r4944.2.1.length, .own 7 0 r4946.2.1.length]) (dst := (some 108)) (by kernel_rfl) [(0, .dead), (1, .row 3 (fl r4942.2.2)), (2, .row 27 (Enc.cells r4942.1)), (4, .row 55 (fl r4944.2.1)), (5, .row 3 (fl r4944.2.2)), (6, .row 27 (Enc.cells r4944.1)), (7, .row 55 (fl r4946.2.1)), (8, .row 3 (fl r4946.2.2)), (9, .row 27 (Enc.cells r4946.1))] 10 (by kernel_rfl) [] [4, 7] (bS r4973) [] (by simp only [push_cast, seval]) (by simp only [push_cast, seval]) (by kernel_rfl) (.inr ⟨by simp only [push_cast, seval], by simp only [push_cast, seval]⟩) (by simp only [push_cast, seval]) (by simp only [push_cast, seval]) ?_
                refine rs 3 [] [] (by kernel_rfl) allP_nil ?_
                refine run_br h 111 (.inl (by kernel_rfl)) (fun g4974 h => ?_) (fun g4974 h => ?_)
                · refine rs 8 [] [] (by kernel_rfl) allP_nil ?_
                  refine rf [(0, .sl l.length (fl l)), (1, iS xat), (2, iS to), (3, iS m), (4, iS n), (18, .own 8 0 r4946.2.2.length), (119, bS true)] [(0, .dead), (1, .row 3 (fl r4942.2.2)), (2, .row 27 (Enc.cells r4942.1)), (4, .row 55 (fl r4944.2.1)), (5, .row 3 (fl r4944.2.2)), (6, .row 27 (Enc.cells r4944.1)), (7, .row 55 (fl r4946.2.1)), (8, .row 3 (fl r4946.2.2)), (9, .row 27 (Enc.cells r4946.1))] 10 (by kernel_rfl) ?_
                  exact hK4969 (true, r4946.2.2) _ _ _ h (leSt_m [(0, 8)] [] (by first | ((try simp only [g4970, g4971, g4972, g4974]) <;> simp only [push_cast, seval]; done) | ((try simp only [g4970]); (try simp only [g4971]); (try simp only [g4972]); (try simp only [g4974]); simp only [push_cast, seval]; done) | (exfalso; clear h; simp_all; done)) (by first | ((try simp only [g4970, g4971, g4972, g4974]) <;> simp only [push_cast, seval]; done) | ((try simp only [g4970]); (try simp only [g4971]); (try simp only [g4972]); (try simp only [g4974]); simp only [push_cast, seval]; done) | (exfalso; clear h; simp_all; done)) rfl rfl rfl)
                · refine rs 1 [] [] (by kernel_rfl) allP_nil ?_
                  obtain ⟨r4975, hr4975, h⟩ := bind_sx h
                  refine call_x (taskmilllaw_own_spec r4942.2.2 r4975 hr4975) (args := [.own 1 0 r4942.2.2.length]) (dst := (some 113)) (by kernel_rfl) [(0, .dead), (1, .row 3 (fl r4942.2.2)), (2, .row 27 (Enc.cells r4942.1)), (4, .row 55 (fl r4944.2.1)), (5, .row 3 (fl r4944.2.2)), (6, .row 27 (Enc.cells r4944.1)), (7, .row 55 (fl r4946.2.1)), (8, .row 3 (fl r4946.2.2)), (9, .row 27 (Enc.cells r4946.1))] 10 (by kernel_rfl) [] [1] (.own 10 0 r4975.length) [(10, .row 3 (fl r4975))] (by simp only [push_cast, seval]) (by simp only [push_cast, seval]) (by kernel_rfl) (.inr ⟨by simp only [push_cast, seval], by simp only [push_cast, seval]⟩) (by simp only [push_cast, seval]) (by simp only [push_cast, seval]) ?_
                  refine rn 22 [(0, .sl l.length (fl l)), (1, iS xat), (2, iS to), (3, iS m), (4, iS n), (15, .own 5 0 r4944.2.2.length), (18, .own 8 0 r4946.2.2.length), (111, bS false), (113, .own 10 0 r4975.length)] [(0, .dead), (1, .row 3 (fl r4942.2.2)), (2, .row 27 (Enc.cells r4942.1)), (4, .row 55 (fl r4944.2.1)), (5, .row 3 (fl r4944.2.2)), (6, .row 27 (Enc.cells r4944.1)), (7, .row 55 (fl r4946.2.1)), (8, .row 3 (fl r4946.2.2)), (9, .row 27 (Enc.cells r4946.1)), (10, .row 3 (fl r4975))] 11 (by kernel_rfl) ?_
                  refine chk_sx h (fun g4977 h => ?_)
                  have k4976 : (r4975 ++ r4944.2.2).length * 8 ≤ 140737488355328 := by first | simpa only [Bool.and_eq_true, decide_eq_true_eq, bne_iff_ne, ne_eq] using g4977 | (simp at g4977 ⊢; omega)
                  refine rs 3 [none, some ⟨.own 11 0 (r4975 ++ r4944.2.2).length, [(11, .row 3 (fl (r4975 ++ r4944.2.2))), (10, .dead)], 12, [10, 5]⟩] _ (by kernel_rfl) (allP_cons (ob_app (P := Try.prog) r4975 r4944.2.2 1 8 rfl (appCells (fl r4944.2.2) 0 (r4944.2.2.length * 1)) r4944.2.2.length (app_own r4944.2.2 1 rfl) rfl (0 + r4944.2.2.length * 1 ≤ (fl r4944.2.2).length) (app_own_le r4944.2.2 1 rfl) 3 (by kernel_rfl) (by decide) k4976 10 11 [5]) allP_nil) ?_
                  obtain ⟨r4978, hr4978, h⟩ := bind_sx h
                  refine call_x (taskmillref_Ints_spec (r4975 ++ r4944.2.2) r4946.2.2 r4978 hr4978) (args := [.own 11 0 (r4975 ++ r4944.2.2).length, .own 8 0 r4946.2.2.length]) (dst := (some 117)) (by kernel_rfl) [(0, .dead), (1, .row 3 (fl r4942.2.2)), (2, .row 27 (Enc.cells r4942.1)), (4, .row 55 (fl r4944.2.1)), (5, .row 3 (fl r4944.2.2)), (6, .row 27 (Enc.cells r4944.1)), (7, .row 55 (fl r4946.2.1)), (8, .row 3 (fl r4946.2.2)), (9, .row 27 (Enc.cells r4946.1)), (10, .dead), (11, .row 3 (fl (r4975 ++ r4944.2.2)))] 12 (by kernel_rfl) [] [8, 11] (bS r4978) [] (by simp only [push_cast, seval]) (by simp only [push_cast, seval]) (by kernel_rfl) (.inr ⟨by simp only [push_cast, seval], by simp only [push_cast, seval]⟩) (by simp only [push_cast, seval]) (by simp only [push_cast, seval]) ?_
                  refine rs 2 [] [] (by kernel_rfl) allP_nil ?_
                  refine rf [(0, .sl l.length (fl l)), (1, iS xat), (2, iS to), (3, iS m), (4, iS n), (18, .own 8 0 r4946.2.2.length), (119, bS (!r4978))] [(0, .dead), (1, .row 3 (fl r4942.2.2)), (2, .row 27 (Enc.cells r4942.1)), (4, .row 55 (fl r4944.2.1)), (5, .row 3 (fl r4944.2.2)), (6, .row 27 (Enc.cells r4944.1)), (7, .row 55 (fl r4946.2.1)), (8, .row 3 (fl r4946.2.2)), (9, .row 27 (Enc.cells r4946.1)), (10, .dead), (11, .row 3 (fl (r4975 ++ r4944.2.2)))] 12 (by kernel_rfl) ?_
                  exact hK4969 ((!r4978), r4946.2.2) _ _ _ h (leSt_m [(0, 8)] [] (by first | ((try simp only [g4970, g4971, g4972, g4974]) <;> simp only [push_cast, seval]; done) | ((try simp only [g4970]); (try simp only [g4971]); (try simp only [g4972]); (try simp only [g4974]); simp only [push_cast, seval]; done) | (exfalso; clear h; simp_all; done)) (by first | ((try simp only [g4970, g4971, g4972, g4974]) <;> simp only [push_cast, seval]; done) | ((try simp only [g4970]); (try simp only [g4971]); (try simp only [g4972]); (try simp only [g4974]); simp only [push_cast, seval]; done) | (exfalso; clear h; simp_all; done)) rfl rfl rfl)
        · rintro ⟨t119q2, c0q2⟩ h
          try dsimp only at h ⊢
          unfold taskmilllaw_WaitHalves_j4 at h
          refine cond_sx h (by kernel_rfl) (fun g5041 h => ?_) (fun g5041 h => ?_)
          · refine seq_np ?_
            refine reg_f ?_
            refine rs 1 [] [] (by kernel_rfl) allP_nil ?_
            refine rf [(10, bS false)] [(0, .row 3 (fl c0q2))] 1 (by kernel_rfl) ?_
            refine wk_id ?_
            obtain rfl := Option.some.inj h
            refine ret_at (bS false) (by kernel_rfl) ?_
            exact ret_e [] [] (by simp only [push_cast, seval]) (by simp only [push_cast, seval]) rfl rfl rfl
          · refine wk_id ?_
            refine seq_cut (A := Unit) (fun a => ([(0, .sl l.length (fl l)), (1, iS xat), (2, iS to), (3, iS m), (4, iS n), (18, .own 0 0 c0q2.length)], [(0, .row 3 (fl c0q2))], 1)) (fun a => (taskmilllaw_WaitHalves_j2 l xat to m n c0q2) = some r) (fun K4994 hK4994 => ?_) ?_
            · refine seq_np ?_
              refine reg_f ?_
              refine rs 3 [] [] (by kernel_rfl) allP_nil ?_
              refine rf [(0, .sl l.length (fl l)), (1, iS xat), (2, iS to), (3, iS m), (4, iS n), (18, .own 0 0 c0q2.length), (122, bS (decide ((0 : Int) < ((c0q2.length : Nat) : Int))))] [(0, .row 3 (fl c0q2))] 1 (by kernel_rfl) ?_
              refine wk_id ?_
              refine cond_sx h (by kernel_rfl) (fun g5020 h => ?_) (fun g5020 h => ?_)
              · refine chk_sx h (fun g4999 h => ?_)
                refine seq_np ?_
                refine reg_f ?_
                have k4998 : 0 ≤ (0 : Int) ∧ (0 : Int) < ((c0q2.length : Nat) : Int) := by first | simpa only [Bool.and_eq_true, decide_eq_true_eq, bne_iff_ne, ne_eq] using g4999 | (simp at g4999 ⊢; omega)
                refine rs 4 [none, none, some ⟨.ptr 0 (0 + ((0 : Int)).toNat * 1), [], 1, [0]⟩, some ⟨iS (ix c0q2 (0 : Int)), [], 1, [0]⟩] _ (by kernel_rfl) (allP_cons (ob_ld c0q2 (0 : Int) 1 0 (0 + ((0 : Int)).toNat * 1) k4998 rfl (by decide) (by first | rfl | omega) (dflS Try.prog 3) (iS (ix c0q2 (0 : Int))) rfl 1 [0]) (allP_cons (ob_ix_o 0 c0q2.length 0 1 1 0 k4998) allP_nil)) ?_
                obtain ⟨r5000, hr5000, h⟩ := bind_sx h
                refine call_x (wait_Drop_spec l (ix c0q2 (0 : Int)) r5000 hr5000) (args := [.sl l.length (fl l), iS (ix c0q2 (0 : Int))]) (dst := (some 128)) (by kernel_rfl) [(0, .row 3 (fl c0q2))] 1 (by kernel_rfl) [] [] (.tup [.own 1 0 r5000.2.2.length, iS r5000.1, .agg (Enc.cells r5000.2.1)]) [(1, .row 55 (fl r5000.2.2))] (by simp only [push_cast, seval]) (by simp only [push_cast, seval]) (by kernel_rfl) (.inl rfl) (by simp only [push_cast, seval]) (by simp only [push_cast, seval]) ?_
                refine rs 8 [] [] (by kernel_rfl) allP_nil ?_
                refine rf [(0, .sl l.length (fl l)), (1, iS xat), (2, iS to), (3, iS m), (4, iS n), (18, .own 0 0 c0q2.length), (20, .own 1 0 r5000.2.2.length), (21, iS r5000.1), (22, .ptr 2 0)] [(0, .row 3 (fl c0q2)), (1, .row 55 (fl r5000.2.2)), (2, .row 27 (Enc.cells r5000.2.1))] 3 (by kernel_rfl) ?_
                refine wk_id ?_
                refine seq_np ?_
                refine seq_cut (A := Unit) (fun _ => ([(0, .sl l.length (fl l)), (1, iS xat), (2, iS to), (3, iS m), (4, iS n), (18, .own 0 0 c0q2.length), (20, .own 1 0 r5000.2.2.length), (22, .ptr 2 0), (139, bS ((r5000.2.1.Code != 0) || (r5000.1 != xat)))], [(0, .row 3 (fl c0q2)), (1, .row 55 (fl r5000.2.2)), (2, .row 27 (Enc.cells r5000.2.1))], 3)) (fun _ => True) (fun K5004 hK5004 => ?_) (fun _ _ => ?_)
                · refine reg_f ?_
                  refine rs 4 [] [] (by kernel_rfl) allP_nil ?_
                  refine run_split 135 (r5000.2.1.Code != 0) (.inl (by kernel_rfl)) (fun g5005 => ?_) (fun g5005 => ?_)
                  · refine rs 4 [] [] (by kernel_rfl) allP_nil ?_
                    refine rf [(0, .sl l.length (fl l)), (1, iS xat), (2, iS to), (3, iS m), (4, iS n), (18, .own 0 0 c0q2.length), (20, .own 1 0 r5000.2.2.length), (22, .ptr 2 0), (139, bS true)] [(0, .row 3 (fl c0q2)), (1, .row 55 (fl r5000.2.2)), (2, .row 27 (Enc.cells r5000.2.1))] 3 (by kernel_rfl) ?_
                    exact hK5004 () _ _ _ trivial (leSt_m [(0, 0), (1, 1), (2, 2)] [] (by (try simp only [g5005]) <;> simp only [push_cast, seval]) (by (try simp only [g5005]) <;> simp only [push_cast, seval]) rfl rfl rfl)
                  · refine rs 4 [] [] (by kernel_rfl) allP_nil ?_
                    refine rf [(0, .sl l.length (fl l)), (1, iS xat), (2, iS to), (3, iS m), (4, iS n), (18, .own 0 0 c0q2.length), (20, .own 1 0 r5000.2.2.length), (22, .ptr 2 0), (139, bS (r5000.1 != xat))] [(0, .row 3 (fl c0q2)), (1, .row 55 (fl r5000.2.2)), (2, .row 27 (Enc.cells r5000.2.1))] 3 (by kernel_rfl) ?_
                    exact hK5004 () _ _ _ trivial (leSt_m [(0, 0), (1, 1), (2, 2)] [] (by (try simp only [g5005]) <;> simp only [push_cast, seval]) (by (try simp only [g5005]) <;> simp only [push_cast, seval]) rfl rfl rfl)
                · dsimp only
                  refine cond_sx h (by kernel_rfl) (fun g5019 h => ?_) (fun g5019 h => ?_)
                  · refine seq_np ?_
                    refine reg_f ?_
                    refine rs 1 [] [] (by kernel_rfl) allP_nil ?_
                    refine rf [(10, bS false)] [(0, .row 3 (fl c0q2)), (1, .row 55 (fl r5000.2.2)), (2, .row 27 (Enc.cells r5000.2.1))] 3 (by kernel_rfl) ?_
                    refine wk_id ?_
                    obtain rfl := Option.some.inj h
                    refine ret_at (bS false) (by kernel_rfl) ?_
                    exact ret_e [] [] (by simp only [push_cast, seval]) (by simp only [push_cast, seval]) rfl rfl rfl
                  · refine wk_id ?_
                    refine seq_np ?_
                    refine reg_f ?_
                    refine rs 5 [] [] (by kernel_rfl) allP_nil ?_
                    obtain ⟨r5007, hr5007, h⟩ := bind_sx h
                    refine call_x (SpecW.give (wait_Wake_spec r5000.2.2 xat (IntKind.i64.wrap (m + n)) r5007 hr5007) [(0, .row 55 (fl r5000.2.2))] [.own 0 0 r5000.2.2.length, iS xat, iS (IntKind.i64.wrap (m + n))] [] (.tup [.own 1 0 r5007.2.1.length, .own 2 0 r5007.2.2.length, .agg (Enc.cells r5007.1)]) [(1, .row 55 (fl r5007.2.1)), (2, .row 3 (fl r5007.2.2))] (by first | simp only [push_cast, seval] | simp only [push_cast, List.mem_singleton, true_and, and_true, seval]) (by simp only [push_cast, seval]) (by simp only [push_cast, seval]) (by simp only [push_cast, seval]) rfl (by simp only [push_cast, seval]) (by simp only [push_cast, seval]) rfl) (args := [.own 1 0 r5000.2.2.length, iS xat, iS (IntKind.i64.wrap (m + n))]) (dst := (some 146)) (by kernel_rfl) [(0, .row 3 (fl c0q2)), (1, .row 55 (fl r5000.2.2)), (2, .row 27 (Enc.cells r5000.2.1))] 3 (by kernel_rfl) [(0, 1)] [] (.tup [.own 4 0 r5007.2.1.length, .own 5 0 r5007.2.2.length, .agg (Enc.cells r5007.1)]) [(4, .row 55 (fl r5007.2.1)), (5, .row 3 (fl r5007.2.2)), (1, .dead)] (by simp only [push_cast, seval]) (by simp only [push_cast, seval]) (by kernel_rfl) (.inl rfl) (by simp only [push_cast, seval]) (by simp only [push_cast, seval]) ?_
                    refine rs 7 [] [] (by kernel_rfl) allP_nil ?_
                    refine rf [(0, .sl l.length (fl l)), (1, iS xat), (2, iS to), (3, iS m), (4, iS n), (18, .own 0 0 c0q2.length), (22, .ptr 2 0), (24, .own 5 0 r5007.2.2.length)] [(0, .row 3 (fl c0q2)), (1, .dead), (2, .row 27 (Enc.cells r5007.1)), (4, .row 55 (fl r5007.2.1)), (5, .row 3 (fl r5007.2.2))] 6 (by kernel_rfl) ?_
                    refine wk_id ?_
                    refine seq_cut (A := Bool) (fun a => ([(0, .sl l.length (fl l)), (1, iS xat), (2, iS to), (3, iS m), (4, iS n), (18, .own 0 0 c0q2.length), (159, bS a)], [(0, .row 3 (fl c0q2))], 1)) (fun a => (taskmilllaw_WaitHalves_j3 l xat to m n c0q2 a) = some r) (fun K5013 hK5013 => ?_) ?_
                    · refine reg_f ?_
                      refine rs 4 [] [] (by kernel_rfl) allP_nil ?_
                      refine run_br h 153 (.inl (by kernel_rfl)) (fun g5014 h => ?_) (fun g5014 h => ?_)
                      · refine rs 6 [] [] (by kernel_rfl) allP_nil ?_
                        refine rf [(0, .sl l.length (fl l)), (1, iS xat), (2, iS to), (3, iS m), (4, iS n), (18, .own 0 0 c0q2.length), (159, bS true)] [(0, .row 3 (fl c0q2)), (1, .dead), (2, .row 27 (Enc.cells r5007.1)), (4, .row 55 (fl r5007.2.1)), (5, .row 3 (fl r5007.2.2))] 6 (by kernel_rfl) ?_
                        exact hK5013 (true) _ _ _ h (leSt_m [(0, 0)] [] (by (try simp only [g5014]) <;> simp only [push_cast, seval]) (by (try simp only [g5014]) <;> simp only [push_cast, seval]) rfl rfl rfl)
                      · refine chk_sx h (fun g5016 h => ?_)
                        have k5015 : 0 ≤ (0 : Int) ∧ (0 : Int) < ((c0q2.length : Nat) : Int) := by first | simpa only [Bool.and_eq_true, decide_eq_true_eq, bne_iff_ne, ne_eq] using g5016 | (simp at g5016 ⊢; omega)
                        refine rs 4 [none, none, some ⟨.ptr 0 (0 + ((0 : Int)).toNat * 1), [], 6, [0]⟩, some ⟨iS (ix c0q2 (0 : Int)), [], 6, [0]⟩] _ (by kernel_rfl) (allP_cons (ob_ld c0q2 (0 : Int) 1 0 (0 + ((0 : Int)).toNat * 1) k5015 rfl (by decide) (by first | rfl | omega) (dflS Try.prog 3) (iS (ix c0q2 (0 : Int))) rfl 6 [0]) (allP_cons (ob_ix_o 0 c0q2.length 0 1 6 0 k5015) allP_nil)) ?_
                        obtain ⟨r5017, hr5017, h⟩ := bind_sx h
                        refine call_x (taskmillref_Has_spec r5007.2.2 (ix c0q2 (0 : Int)) r5017 hr5017) (args := [.own 5 0 r5007.2.2.length, iS (ix c0q2 (0 : Int))]) (dst := (some 158)) (by kernel_rfl) [(0, .row 3 (fl c0q2)), (1, .dead), (2, .row 27 (Enc.cells r5007.1)), (4, .row 55 (fl r5007.2.1)), (5, .row 3 (fl r5007.2.2))] 6 (by kernel_rfl) [] [5] (bS r5017) [] (by simp only [push_cast, seval]) (by simp only [push_cast, seval]) (by kernel_rfl) (.inr ⟨by simp only [push_cast, seval], by simp only [push_cast, seval]⟩) (by simp only [push_cast, seval]) (by simp only [push_cast, seval]) ?_
                        refine rs 1 [] [] (by kernel_rfl) allP_nil ?_
                        refine rf [(0, .sl l.length (fl l)), (1, iS xat), (2, iS to), (3, iS m), (4, iS n), (18, .own 0 0 c0q2.length), (159, bS r5017)] [(0, .row 3 (fl c0q2)), (1, .dead), (2, .row 27 (Enc.cells r5007.1)), (4, .row 55 (fl r5007.2.1)), (5, .row 3 (fl r5007.2.2))] 6 (by kernel_rfl) ?_
                        exact hK5013 (r5017) _ _ _ h (leSt_m [(0, 0)] [] (by (try simp only [g5014]) <;> simp only [push_cast, seval]) (by (try simp only [g5014]) <;> simp only [push_cast, seval]) rfl rfl rfl)
                    · rintro t159q2 h
                      try dsimp only at h ⊢
                      unfold taskmilllaw_WaitHalves_j3 at h
                      refine cond_sx h (by kernel_rfl) (fun g5018 h => ?_) (fun g5018 h => ?_)
                      · refine seq_np ?_
                        refine reg_f ?_
                        refine rs 1 [] [] (by kernel_rfl) allP_nil ?_
                        refine rf [(10, bS false)] [(0, .row 3 (fl c0q2))] 1 (by kernel_rfl) ?_
                        refine wk_id ?_
                        obtain rfl := Option.some.inj h
                        refine ret_at (bS false) (by kernel_rfl) ?_
                        exact ret_e [] [] (by simp only [push_cast, seval]) (by simp only [push_cast, seval]) rfl rfl rfl
                      · exact hK4994 () _ _ _ h (leSt_m [(0, 0)] [] (by simp only [push_cast, seval]) (by simp only [push_cast, seval]) rfl rfl rfl)
              · exact hK4994 () _ _ _ h (leSt_m [(0, 0)] [] (by simp only [push_cast, seval]) (by simp only [push_cast, seval]) rfl rfl rfl)
            · rintro _ h
              try dsimp only at h ⊢
              unfold taskmilllaw_WaitHalves_j2 at h
              refine seq_np ?_
              refine reg_f ?_
              refine rs 6 [] [] (by kernel_rfl) allP_nil ?_
              obtain ⟨r5022, hr5022, h⟩ := bind_sx h
              refine run_call 24 [.sl l.length (fl l), iS xat, iS to, iS (IntKind.i64.wrap (m + n))] (some 167) (by kernel_rfl) ?_
              refine call_0 (wait_Move_spec l xat to (IntKind.i64.wrap (m + n)) r5022 hr5022) (by simp only [push_cast, seval]) (by simp only [push_cast, seval]) ?_
              refine back_f ?_
              refine rs 6 [] [] (by kernel_rfl) allP_nil ?_
              refine rf [(0, .sl l.length (fl l)), (2, iS to), (18, .own 0 0 c0q2.length), (25, .sl r5022.1.length (fl r5022.1)), (26, .ptr 1 0)] [(0, .row 3 (fl c0q2)), (1, .row 27 (Enc.cells r5022.2))] 2 (by kernel_rfl) ?_
              refine wk_id ?_
              refine seq_np ?_
              refine seq_np ?_
              refine reg_f ?_
              refine rs 3 [] [] (by kernel_rfl) allP_nil ?_
              refine rf [(0, .sl l.length (fl l)), (2, iS to), (18, .own 0 0 c0q2.length), (25, .sl r5022.1.length (fl r5022.1)), (26, .ptr 1 0), (172, bS (r5022.2.Code != 0))] [(0, .row 3 (fl c0q2)), (1, .row 27 (Enc.cells r5022.2))] 2 (by kernel_rfl) ?_
              refine wk_id ?_
              refine cond_sx h (by kernel_rfl) (fun g5040 h => ?_) (fun g5040 h => ?_)
              · refine seq_np ?_
                refine reg_f ?_
                refine rs 1 [] [] (by kernel_rfl) allP_nil ?_
                refine rf [(10, bS false)] [(0, .row 3 (fl c0q2)), (1, .row 27 (Enc.cells r5022.2))] 2 (by kernel_rfl) ?_
                refine wk_id ?_
                obtain rfl := Option.some.inj h
                refine ret_at (bS false) (by kernel_rfl) ?_
                exact ret_e [] [] (by simp only [push_cast, seval]) (by simp only [push_cast, seval]) rfl rfl rfl
              · refine wk_id ?_
                refine seq_np ?_
                refine reg_f ?_
                refine rs 2 [] [] (by kernel_rfl) allP_nil ?_
                obtain ⟨r5025, hr5025, h⟩ := bind_sx h
                refine call_x (wait_Wake_spec r5022.1 to 5000 r5025 hr5025) (args := [.sl r5022.1.length (fl r5022.1), iS to, iS 5000]) (dst := (some 176)) (by kernel_rfl) [(0, .row 3 (fl c0q2)), (1, .row 27 (Enc.cells r5022.2))] 2 (by kernel_rfl) [] [] (.tup [.own 2 0 r5025.2.1.length, .own 3 0 r5025.2.2.length, .agg (Enc.cells r5025.1)]) [(2, .row 55 (fl r5025.2.1)), (3, .row 3 (fl r5025.2.2))] (by simp only [push_cast, seval]) (by simp only [push_cast, seval]) (by kernel_rfl) (.inl rfl) (by simp only [push_cast, seval]) (by simp only [push_cast, seval]) ?_
                refine rs 7 [] [] (by kernel_rfl) allP_nil ?_
                refine rf [(0, .sl l.length (fl l)), (2, iS to), (18, .own 0 0 c0q2.length), (26, .ptr 1 0), (28, .own 3 0 r5025.2.2.length)] [(0, .row 3 (fl c0q2)), (1, .row 27 (Enc.cells r5025.1)), (2, .row 55 (fl r5025.2.1)), (3, .row 3 (fl r5025.2.2))] 4 (by kernel_rfl) ?_
                refine wk_id ?_
                refine seq_cut (A := Bool) (fun a => ([(10, bS a)], [], 0)) (fun a => (taskmilllaw_WaitHalves_j1 a) = some r) (fun K5033 hK5033 => ?_) ?_
                · refine reg_f ?_
                  refine rs 4 [] [] (by kernel_rfl) allP_nil ?_
                  refine run_br h 183 (.inl (by kernel_rfl)) (fun g5034 h => ?_) (fun g5034 h => ?_)
                  · refine rs 3 [] [] (by kernel_rfl) allP_nil ?_
                    obtain ⟨r5035, hr5035, h⟩ := bind_sx h
                    refine run_call 21 [.sl l.length (fl l), iS to] (some 187) (by kernel_rfl) ?_
                    refine call_0 (taskmillref_AtLine_spec l to r5035 hr5035) (by simp only [push_cast, seval]) (by simp only [push_cast, seval]) ?_
                    refine back_f ?_
                    obtain ⟨r5036, hr5036, h⟩ := bind_sx h
                    refine call_x (taskmilllaw_own_spec r5035 r5036 hr5036) (args := [.sl r5035.length (fl r5035)]) (dst := (some 188)) (by kernel_rfl) [(0, .row 3 (fl c0q2)), (1, .row 27 (Enc.cells r5025.1)), (2, .row 55 (fl r5025.2.1)), (3, .row 3 (fl r5025.2.2))] 4 (by kernel_rfl) [] [] (.own 4 0 r5036.length) [(4, .row 3 (fl r5036))] (by simp only [push_cast, seval]) (by simp only [push_cast, seval]) (by kernel_rfl) (.inl rfl) (by simp only [push_cast, seval]) (by simp only [push_cast, seval]) ?_
                    refine rn 9 [(18, .own 0 0 c0q2.length), (183, bS true), (184, .gd true (.own 3 0 r5025.2.2.length)), (188, .own 4 0 r5036.length)] [(0, .row 3 (fl c0q2)), (1, .row 27 (Enc.cells r5025.1)), (2, .row 55 (fl r5025.2.1)), (3, .row 3 (fl r5025.2.2)), (4, .row 3 (fl r5036))] 5 (by kernel_rfl) ?_
                    refine chk_sx h (fun g5038 h => ?_)
                    have k5037 : (r5036 ++ c0q2).length * 8 ≤ 140737488355328 := by first | simpa only [Bool.and_eq_true, decide_eq_true_eq, bne_iff_ne, ne_eq] using g5038 | (simp at g5038 ⊢; omega)
                    refine rs 2 [none, some ⟨.own 5 0 (r5036 ++ c0q2).length, [(5, .row 3 (fl (r5036 ++ c0q2))), (4, .dead)], 6, [4, 0]⟩] _ (by kernel_rfl) (allP_cons (ob_app (P := Try.prog) r5036 c0q2 1 8 rfl (appCells (fl c0q2) 0 (c0q2.length * 1)) c0q2.length (app_own c0q2 1 rfl) rfl (0 + c0q2.length * 1 ≤ (fl c0q2).length) (app_own_le c0q2 1 rfl) 3 (by kernel_rfl) (by decide) k5037 4 5 [0]) allP_nil) ?_
                    obtain ⟨r5039, hr5039, h⟩ := bind_sx h
                    refine call_x (taskmillref_Ints_spec r5025.2.2 (r5036 ++ c0q2) r5039 hr5039) (args := [.own 3 0 r5025.2.2.length, .own 5 0 (r5036 ++ c0q2).length]) (dst := (some 191)) (by kernel_rfl) [(0, .row 3 (fl c0q2)), (1, .row 27 (Enc.cells r5025.1)), (2, .row 55 (fl r5025.2.1)), (3, .row 3 (fl r5025.2.2)), (4, .dead), (5, .row 3 (fl (r5036 ++ c0q2)))] 6 (by kernel_rfl) [] [3, 5] (bS r5039) [] (by simp only [push_cast, seval]) (by simp only [push_cast, seval]) (by kernel_rfl) (.inr ⟨by simp only [push_cast, seval], by simp only [push_cast, seval]⟩) (by simp only [push_cast, seval]) (by simp only [push_cast, seval]) ?_
                    refine rs 2 [] [] (by kernel_rfl) allP_nil ?_
                    refine rf [(10, bS r5039)] [(0, .row 3 (fl c0q2)), (1, .row 27 (Enc.cells r5025.1)), (2, .row 55 (fl r5025.2.1)), (3, .row 3 (fl r5025.2.2)), (4, .dead), (5, .row 3 (fl (r5036 ++ c0q2)))] 6 (by kernel_rfl) ?_
                    exact hK5033 (r5039) _ _ _ h (leSt_m [] [] (by (try simp only [g5034]) <;> simp only [push_cast, seval]) (by (try simp only [g5034]) <;> simp only [push_cast, seval]) rfl rfl rfl)
                  · refine rs 10 [] [] (by kernel_rfl) allP_nil ?_
                    refine rf [(10, bS false)] [(0, .row 3 (fl c0q2)), (1, .row 27 (Enc.cells r5025.1)), (2, .row 55 (fl r5025.2.1)), (3, .row 3 (fl r5025.2.2))] 4 (by kernel_rfl) ?_
                    exact hK5033 (false) _ _ _ h (leSt_m [] [] (by (try simp only [g5034]) <;> simp only [push_cast, seval]) (by (try simp only [g5034]) <;> simp only [push_cast, seval]) rfl rfl rfl)
                · rintro t10q1 h
                  try dsimp only at h ⊢
                  unfold taskmilllaw_WaitHalves_j1 at h
                  obtain rfl := Option.some.inj h
                  refine ret_at (bS t10q1) (by kernel_rfl) ?_
                  exact ret_e [] [] (by simp only [push_cast, seval]) (by simp only [push_cast, seval]) rfl rfl rfl

end Go.Proofs.Ytnnpjaoddniifaa
