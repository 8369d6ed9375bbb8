/-
  What laws of the chapter sweep compute, and lemmas on it.
  No conditions.
-/
import Derived.Test.YtlfcicekappbfaasweepWSweepStopped1
set_option linter.unusedSimpArgs false
set_option linter.unusedVariables false
namespace Go.Proofs.Ytlfcicekappbfaa
open Go Go.Sx
attribute [local irreducible] Wk RunAt
set_option maxRecDepth 100000 in
set_option maxHeartbeats 200000000 in
theorem taskmilllaw_sweepBegun_spec (r : Bool) (h : taskmilllaw_sweepBegun = some r) : SpecW Try.prog 8 [] [] 0 (fun x h n => x = bS r ∧ h = [] ∧ n = 0) := by
  unfold taskmilllaw_sweepBegun at h
  refine spec_of (draw_ok _) Try.func8 rfl (by decide) rfl (by kernel_rfl) ?_
  refine seq_np ?_
  refine reg_f ?_
  refine rs 1 [] [] (by kernel_rfl) allP_nil ?_
  refine rf [] [] 0 (by kernel_rfl) ?_
  refine wk_id ?_
  refine seq_np ?_
  refine reg_f ?_
  refine rs 1 [] [] (by kernel_rfl) allP_nil ?_
  refine run_mk0 Int (some 8) 3 (by kernel_rfl) ?_
  refine rs 5 [] [] (by kernel_rfl) allP_nil ?_
  refine rf [(1, .ptr 4 0)] [(0, .row 3 (fl ([(-1)] : List Int))), (1, .row 3 (fl ([] : List Int))), (2, .row 23 [.own 0 0 ([(-1)] : List Int).length, .own 1 0 ([] : List Int).length]), (3, .row 3 (fl ([0] : List Int))), (4, .row 25 [.own 2 0 2, .own 3 0 ([0] : List Int).length])] 5 (by kernel_rfl) ?_
  refine wk_id ?_
  refine seq_np ?_
  refine reg_f ?_
  refine rs 1 [] [] (by kernel_rfl) allP_nil ?_
  obtain ⟨r2052, hr2052, h⟩ := bind_sx h
  refine call_x (sweep_Lost_spec (GHeap.mk ([([(-1)] : List Int), ([] : List Int)] : List (List Int)) ([0] : List Int)) r2052 hr2052) (args := [.agg [.own 2 0 2, .own 3 0 ([0] : List Int).length]]) (dst := (some 14)) (by kernel_rfl) [(0, .row 3 (fl ([(-1)] : List Int))), (1, .row 3 (fl ([] : List Int))), (2, .row 23 [.own 0 0 ([(-1)] : List Int).length, .own 1 0 ([] : List Int).length]), (3, .row 3 (fl ([0] : List Int))), (4, .row 25 [.own 2 0 2, .own 3 0 ([0] : List Int).length])] 5 (by kernel_rfl) [] [2, 0, 1, 3] (.tup [.own 5 0 r2052.2.length, .agg (Enc.cells r2052.1)]) [(5, .row 3 (fl r2052.2))] (by simp only [↓leS_frzL ([([(-1)] : List Int), ([] : List Int)] : List (List Int)) [.own 0 0 ([(-1)] : List Int).length, .own 1 0 ([] : List Int).length], leS_frz, leL_flD, renL_flD, push_cast, seval]) (by simp only [↓leS_frzL ([([(-1)] : List Int), ([] : List Int)] : List (List Int)) [.own 0 0 ([(-1)] : List Int).length, .own 1 0 ([] : List Int).length], leS_frz, leL_flD, renL_flD, push_cast, seval]) (by kernel_rfl) (.inr ⟨by simp only [push_cast, leL_flD, renL_flD, seval], by simp only [push_cast, leL_flD, renL_flD, seval]⟩) (by simp only [push_cast, leL_flD, renL_flD, seval]) (by simp only [push_cast, leL_flD, renL_flD, seval]) ?_
  refine rs 6 [] [] (by kernel_rfl) allP_nil ?_
  refine rf [(1, .ptr 4 0), (2, .own 5 0 r2052.2.length), (3, .ptr 6 0)] [(0, .row 3 (fl ([(-1)] : List Int))), (1, .row 3 (fl ([] : List Int))), (2, .row 23 [.own 0 0 ([(-1)] : List Int).length, .own 1 0 ([] : List Int).length]), (3, .row 3 (fl ([0] : List Int))), (4, .row 25 [.own 2 0 2, .own 3 0 ([0] : List Int).length]), (5, .row 3 (fl r2052.2)), (6, .row 30 (Enc.cells r2052.1))] 7 (by kernel_rfl) ?_
  refine wk_mk [(1, .ptr 4 0), (2, .own 5 0 r2052.2.length), (3, .ptr 6 0)] [(4, .row 25 [.sl ([([(-1)] : List Int), ([] : List Int)] : List (List Int)).length (fl ([([(-1)] : List Int), ([] : List Int)] : List (List Int))), .sl ([0] : List Int).length (fl ([0] : List Int))]), (5, .row 3 (fl r2052.2)), (6, .row 30 (Enc.cells r2052.1))] 7 (leSt_m [(4, 4), (5, 5), (6, 6)] [2, 3, 0, 1] (by simp only [↓leS_frzL ([([(-1)] : List Int), ([] : List Int)] : List (List Int)) [.own 0 0 ([(-1)] : List Int).length, .own 1 0 ([] : List Int).length], leS_frz, leS_cut, leL_flD, renL_flD, push_cast, seval]) (by simp only [↓leS_frzL ([([(-1)] : List Int), ([] : List Int)] : List (List Int)) [.own 0 0 ([(-1)] : List Int).length, .own 1 0 ([] : List Int).length], leS_frz, leS_cut, leL_flD, renL_flD, push_cast, seval]) rfl rfl rfl) ?_
  refine seq_np ?_
  refine reg_f ?_
  refine rs 3 [] [] (by kernel_rfl) allP_nil ?_
  obtain ⟨r2054, hr2054, h⟩ := bind_sx h
  refine call_x (SpecW.give (sweep_Cycle_spec (GHeap.mk ([([(-1)] : List Int), ([] : List Int)] : List (List Int)) ([0] : List Int)) 0 ([(GAct.mk 5 0 0 0)] : List GAct) r2054 hr2054) [(0, .row 47 (fl ([(GAct.mk 5 0 0 0)] : List GAct)))] [.agg [.sl ([([(-1)] : List Int), ([] : List Int)] : List (List Int)).length (fl ([([(-1)] : List Int), ([] : List Int)] : List (List Int))), .sl ([0] : List Int).length (fl ([0] : List Int))], iS 0, .own 0 0 ([(GAct.mk 5 0 0 0)] : List GAct).length] [] (.tup [.agg [.own 1 0 r2054.2.1.length, .own 2 0 r2054.2.2.1.length], .own 3 0 r2054.2.2.2.length, .agg (Enc.cells r2054.1)]) [(1, .row 23 (flD dLListInt [4] r2054.2.1)), (2, .row 3 (fl r2054.2.2.1)), (3, .row 3 (fl r2054.2.2.2)), ((.s 4 0), .fam (famD dLListInt 0 r2054.2.1))] (by first | simp only [push_cast, leL_flD, renL_flD, seval] | simp only [push_cast, List.mem_singleton, true_and, and_true, leL_flD, renL_flD, seval]) (by simp only [push_cast, leL_flD, renL_flD, seval]) (by simp only [push_cast, leL_flD, renL_flD, seval]) (by simp only [push_cast, leL_flD, renL_flD, seval]) rfl (by first | (simp only [push_cast, leL_flD, renL_flD, seval]; done) | (simp only [push_cast, leL_flD, renL_flD, seval]; kernel_rfl) | kernel_rfl) (by first | (simp only [push_cast, leL_flD, renL_flD, seval]; done) | (simp only [push_cast, leL_flD, renL_flD, seval]; kernel_rfl) | kernel_rfl) rfl) (args := [.agg [.sl ([([(-1)] : List Int), ([] : List Int)] : List (List Int)).length (fl ([([(-1)] : List Int), ([] : List Int)] : List (List Int))), .sl ([0] : List Int).length (fl ([0] : List Int))], iS 0, .own 7 0 ([(GAct.mk 5 0 0 0)] : List GAct).length]) (dst := (some 21)) (by kernel_rfl) [(4, .row 25 [.sl ([([(-1)] : List Int), ([] : List Int)] : List (List Int)).length (fl ([([(-1)] : List Int), ([] : List Int)] : List (List Int))), .sl ([0] : List Int).length (fl ([0] : List Int))]), (5, .row 3 (fl r2052.2)), (6, .row 30 (Enc.cells r2052.1)), (7, .row 47 (fl ([(GAct.mk 5 0 0 0)] : List GAct)))] 8 (by kernel_rfl) [(0, 7)] [] (.tup [.agg [.own 9 0 r2054.2.1.length, .own 10 0 r2054.2.2.1.length], .own 11 0 r2054.2.2.2.length, .agg (Enc.cells r2054.1)]) [(9, .row 23 (flD dLListInt [12] r2054.2.1)), (10, .row 3 (fl r2054.2.2.1)), (11, .row 3 (fl r2054.2.2.2)), ((.s 12 0), .fam (famD dLListInt 0 r2054.2.1)), (7, .dead)] (by simp only [push_cast, leL_flD, renL_flD, seval]) (by simp only [push_cast, leL_flD, renL_flD, seval]) (by kernel_rfl) (.inl rfl) (by first | (simp only [push_cast, leL_flD, renL_flD, seval]; done) | (simp only [push_cast, leL_flD, renL_flD, seval]; kernel_rfl) | kernel_rfl) (by first | (simp only [push_cast, leL_flD, renL_flD, seval]; done) | (simp only [push_cast, leL_flD, renL_flD, seval]; kernel_rfl) | kernel_rfl) ?_
  refine rs 9 [] [] (by kernel_rfl) allP_nil ?_
  refine rf [(2, .own 5 0 r2052.2.length), (3, .ptr 6 0), (5, .own 11 0 r2054.2.2.2.length), (6, .ptr 14 0)] [(4, .row 25 [.sl ([([(-1)] : List Int), ([] : List Int)] : List (List Int)).length (fl ([([(-1)] : List Int), ([] : List Int)] : List (List Int))), .sl ([0] : List Int).length (fl ([0] : List Int))]), (5, .row 3 (fl r2052.2)), (6, .row 30 (Enc.cells r2052.1)), (7, .dead), (9, .row 23 (flD dLListInt [12] r2054.2.1)), (10, .row 3 (fl r2054.2.2.1)), (11, .row 3 (fl r2054.2.2.2)), ((.s 12 0), .fam (famD dLListInt 0 r2054.2.1)), (13, .row 25 [.own 9 0 r2054.2.1.length, .own 10 0 r2054.2.2.1.length]), (14, .row 30 (Enc.cells r2054.1))] 15 (by kernel_rfl) ?_
  refine wk_id ?_
  refine seq_cut (A := Bool) (fun a => ([(0, bS a)], [], 0)) (fun a => (taskmilllaw_sweepBegun_j1 a) = some r) (fun K2061 hK2061 => ?_) ?_
  · refine reg_f ?_
    refine rs 4 [] [] (by kernel_rfl) allP_nil ?_
    refine run_br h 28 (.inl (by kernel_rfl)) (fun g2062 h => ?_) (fun g2062 h => ?_)
    · refine rs 5 [] [] (by kernel_rfl) allP_nil ?_
      refine run_br h 33 (.inl (by kernel_rfl)) (fun g2063 h => ?_) (fun g2063 h => ?_)
      · refine rs 2 [] [] (by kernel_rfl) allP_nil ?_
        obtain ⟨r2064, hr2064, h⟩ := bind_sx h
        refine call_x (taskmillref_Ints_spec r2052.2 ([1] : List Int) r2064 hr2064) (args := [.own 5 0 r2052.2.length, .own 15 0 ([1] : List Int).length]) (dst := (some 36)) (by kernel_rfl) [(4, .row 25 [.sl ([([(-1)] : List Int), ([] : List Int)] : List (List Int)).length (fl ([([(-1)] : List Int), ([] : List Int)] : List (List Int))), .sl ([0] : List Int).length (fl ([0] : List Int))]), (5, .row 3 (fl r2052.2)), (6, .row 30 (Enc.cells r2052.1)), (7, .dead), (9, .row 23 (flD dLListInt [12] r2054.2.1)), (10, .row 3 (fl r2054.2.2.1)), (11, .row 3 (fl r2054.2.2.2)), ((.s 12 0), .fam (famD dLListInt 0 r2054.2.1)), (13, .row 25 [.own 9 0 r2054.2.1.length, .own 10 0 r2054.2.2.1.length]), (14, .row 30 (Enc.cells r2054.1)), (15, .row 3 (fl ([1] : List Int)))] 16 (by kernel_rfl) [] [5, 15] (bS r2064) [] (by simp only [push_cast, leL_flD, renL_flD, seval]) (by simp only [push_cast, leL_flD, renL_flD, seval]) (by kernel_rfl) (.inr ⟨by simp only [push_cast, leL_flD, renL_flD, seval], by simp only [push_cast, leL_flD, renL_flD, seval]⟩) (by simp only [push_cast, leL_flD, renL_flD, seval]) (by simp only [push_cast, leL_flD, renL_flD, seval]) ?_
        refine rn 12 [(5, .own 11 0 r2054.2.2.2.length), (33, bS true), (36, bS r2064)] [(4, .row 25 [.sl ([([(-1)] : List Int), ([] : List Int)] : List (List Int)).length (fl ([([(-1)] : List Int), ([] : List Int)] : List (List Int))), .sl ([0] : List Int).length (fl ([0] : List Int))]), (5, .row 3 (fl r2052.2)), (6, .row 30 (Enc.cells r2052.1)), (7, .dead), (9, .row 23 (flD dLListInt [12] r2054.2.1)), (10, .row 3 (fl r2054.2.2.1)), (11, .row 3 (fl r2054.2.2.2)), ((.s 12 0), .fam (famD dLListInt 0 r2054.2.1)), (13, .row 25 [.own 9 0 r2054.2.1.length, .own 10 0 r2054.2.2.1.length]), (14, .row 30 (Enc.cells r2054.1)), (15, .row 3 (fl ([1] : List Int)))] 16 (by kernel_rfl) ?_
        refine rs 2 [] [] (by kernel_rfl) allP_nil ?_
        refine run_br h 38 (.inl (by kernel_rfl)) (fun g2065 h => ?_) (fun g2065 h => ?_)
        · refine rs 2 [] [] (by kernel_rfl) allP_nil ?_
          obtain ⟨r2066, hr2066, h⟩ := bind_sx h
          refine call_x (taskmillref_Ints_spec r2054.2.2.2 ([1] : List Int) r2066 hr2066) (args := [.own 11 0 r2054.2.2.2.length, .own 16 0 ([1] : List Int).length]) (dst := (some 41)) (by kernel_rfl) [(4, .row 25 [.sl ([([(-1)] : List Int), ([] : List Int)] : List (List Int)).length (fl ([([(-1)] : List Int), ([] : List Int)] : List (List Int))), .sl ([0] : List Int).length (fl ([0] : List Int))]), (5, .row 3 (fl r2052.2)), (6, .row 30 (Enc.cells r2052.1)), (7, .dead), (9, .row 23 (flD dLListInt [12] r2054.2.1)), (10, .row 3 (fl r2054.2.2.1)), (11, .row 3 (fl r2054.2.2.2)), ((.s 12 0), .fam (famD dLListInt 0 r2054.2.1)), (13, .row 25 [.own 9 0 r2054.2.1.length, .own 10 0 r2054.2.2.1.length]), (14, .row 30 (Enc.cells r2054.1)), (15, .row 3 (fl ([1] : List Int))), (16, .row 3 (fl ([1] : List Int)))] 17 (by kernel_rfl) [] [11, 16] (bS r2066) [] (by simp only [push_cast, leL_flD, renL_flD, seval]) (by simp only [push_cast, leL_flD, renL_flD, seval]) (by kernel_rfl) (.inr ⟨by simp only [push_cast, leL_flD, renL_flD, seval], by simp only [push_cast, leL_flD, renL_flD, seval]⟩) (by simp only [push_cast, leL_flD, renL_flD, seval]) (by simp only [push_cast, leL_flD, renL_flD, seval]) ?_
          refine rs 2 [] [] (by kernel_rfl) allP_nil ?_
          refine rf [(0, bS r2066)] [(4, .row 25 [.sl ([([(-1)] : List Int), ([] : List Int)] : List (List Int)).length (fl ([([(-1)] : List Int), ([] : List Int)] : List (List Int))), .sl ([0] : List Int).length (fl ([0] : List Int))]), (5, .row 3 (fl r2052.2)), (6, .row 30 (Enc.cells r2052.1)), (7, .dead), (9, .row 23 (flD dLListInt [12] r2054.2.1)), (10, .row 3 (fl r2054.2.2.1)), (11, .row 3 (fl r2054.2.2.2)), ((.s 12 0), .fam (famD dLListInt 0 r2054.2.1)), (13, .row 25 [.own 9 0 r2054.2.1.length, .own 10 0 r2054.2.2.1.length]), (14, .row 30 (Enc.cells r2054.1)), (15, .row 3 (fl ([1] : List Int))), (16, .row 3 (fl ([1] : List Int)))] 17 (by kernel_rfl) ?_
          exact hK2061 (r2066) _ _ _ h (leSt_m [] [] (by first | ((try simp only [g2062, g2063, g2065]) <;> simp only [push_cast, leL_flD, renL_flD, seval]; done) | ((try simp only [g2062]); (try simp only [g2063]); (try simp only [g2065]); simp only [push_cast, leL_flD, renL_flD, seval]; done) | (exfalso; clear h; simp_all; done)) (by first | ((try simp only [g2062, g2063, g2065]) <;> simp only [push_cast, leL_flD, renL_flD, seval]; done) | ((try simp only [g2062]); (try simp only [g2063]); (try simp only [g2065]); simp only [push_cast, leL_flD, renL_flD, seval]; done) | (exfalso; clear h; simp_all; done)) rfl rfl rfl)
        · refine rs 5 [] [] (by kernel_rfl) allP_nil ?_
          refine rf [(0, bS false)] [(4, .row 25 [.sl ([([(-1)] : List Int), ([] : List Int)] : List (List Int)).length (fl ([([(-1)] : List Int), ([] : List Int)] : List (List Int))), .sl ([0] : List Int).length (fl ([0] : List Int))]), (5, .row 3 (fl r2052.2)), (6, .row 30 (Enc.cells r2052.1)), (7, .dead), (9, .row 23 (flD dLListInt [12] r2054.2.1)), (10, .row 3 (fl r2054.2.2.1)), (11, .row 3 (fl r2054.2.2.2)), ((.s 12 0), .fam (famD dLListInt 0 r2054.2.1)), (13, .row 25 [.own 9 0 r2054.2.1.length, .own 10 0 r2054.2.2.1.length]), (14, .row 30 (Enc.cells r2054.1)), (15, .row 3 (fl ([1] : List Int)))] 16 (by kernel_rfl) ?_
          exact hK2061 (false) _ _ _ h (leSt_m [] [] (by first | ((try simp only [g2062, g2063, g2065]) <;> simp only [push_cast, leL_flD, renL_flD, seval]; done) | ((try simp only [g2062]); (try simp only [g2063]); (try simp only [g2065]); simp only [push_cast, leL_flD, renL_flD, seval]; done) | (exfalso; clear h; simp_all; done)) (by first | ((try simp only [g2062, g2063, g2065]) <;> simp only [push_cast, leL_flD, renL_flD, seval]; done) | ((try simp only [g2062]); (try simp only [g2063]); (try simp only [g2065]); simp only [push_cast, leL_flD, renL_flD, seval]; done) | (exfalso; clear h; simp_all; done)) rfl rfl rfl)
      · refine rs 10 [] [] (by kernel_rfl) allP_nil ?_
        refine rf [(0, bS false)] [(4, .row 25 [.sl ([([(-1)] : List Int), ([] : List Int)] : List (List Int)).length (fl ([([(-1)] : List Int), ([] : List Int)] : List (List Int))), .sl ([0] : List Int).length (fl ([0] : List Int))]), (5, .row 3 (fl r2052.2)), (6, .row 30 (Enc.cells r2052.1)), (7, .dead), (9, .row 23 (flD dLListInt [12] r2054.2.1)), (10, .row 3 (fl r2054.2.2.1)), (11, .row 3 (fl r2054.2.2.2)), ((.s 12 0), .fam (famD dLListInt 0 r2054.2.1)), (13, .row 25 [.own 9 0 r2054.2.1.length, .own 10 0 r2054.2.2.1.length]), (14, .row 30 (Enc.cells r2054.1))] 15 (by kernel_rfl) ?_
        exact hK2061 (false) _ _ _ h (leSt_m [] [] (by first | ((try simp only [g2062, g2063]) <;> simp only [push_cast, leL_flD, renL_flD, seval]; done) | ((try simp only [g2062]); (try simp only [g2063]); simp only [push_cast, leL_flD, renL_flD, seval]; done) | (exfalso; clear h; simp_all; done)) (by first | ((try simp only [g2062, g2063]) <;> simp only [push_cast, leL_flD, renL_flD, seval]; done) | ((try simp only [g2062]); (try simp only [g2063]); simp only [push_cast, leL_flD, renL_flD, seval]; done) | (exfalso; clear h; simp_all; done)) rfl rfl rfl)
    · refine rs 15 [] [] (by kernel_rfl) allP_nil ?_
      refine rf [(0, bS false)] [(4, .row 25 [.sl ([([(-1)] : List Int), ([] : List Int)] : List (List Int)).length (fl ([([(-1)] : List Int), ([] : List Int)] : List (List Int))), .sl ([0] : List Int).length (fl ([0] : List Int))]), (5, .row 3 (fl r2052.2)), (6, .row 30 (Enc.cells r2052.1)), (7, .dead), (9, .row 23 (flD dLListInt [12] r2054.2.1)), (10, .row 3 (fl r2054.2.2.1)), (11, .row 3 (fl r2054.2.2.2)), ((.s 12 0), .fam (famD dLListInt 0 r2054.2.1)), (13, .row 25 [.own 9 0 r2054.2.1.length, .own 10 0 r2054.2.2.1.length]), (14, .row 30 (Enc.cells r2054.1))] 15 (by kernel_rfl) ?_
      exact hK2061 (false) _ _ _ h (leSt_m [] [] (by (try simp only [g2062]) <;> simp only [push_cast, leL_flD, renL_flD, seval]) (by (try simp only [g2062]) <;> simp only [push_cast, leL_flD, renL_flD, seval]) rfl rfl rfl)
  · rintro t0q1 h
    try dsimp only at h ⊢
    unfold taskmilllaw_sweepBegun_j1 at h
    obtain rfl := Option.some.inj h
    refine ret_at (bS t0q1) (by kernel_rfl) ?_
    exact ret_e [] [] (by simp only [push_cast, leL_flD, renL_flD, seval]) (by simp only [push_cast, leL_flD, renL_flD, seval]) rfl rfl rfl

set_option maxRecDepth 100000 in
set_option maxHeartbeats 200000000 in
theorem taskmilllaw_vastHeap_spec (xh : GHeap) (r : Bool) (h : taskmilllaw_vastHeap xh = some r) : SpecW Try.prog 9 [.agg (Enc.cells xh)] [] 0 (fun x h n => x = bS r ∧ h = [] ∧ n = 0) := by
  unfold taskmilllaw_vastHeap at h
  refine spec_of (draw_ok _) Try.func9 rfl (by decide) rfl (by kernel_rfl) ?_
  refine seq_np ?_
  refine reg_f ?_
  refine rs 2 [] [] (by kernel_rfl) allP_nil ?_
  refine rf [(1, .ptr 0 0)] [(0, .row 25 (Enc.cells xh))] 1 (by kernel_rfl) ?_
  refine wk_id ?_
  refine seq_np ?_
  refine seq_np ?_
  refine reg_f ?_
  refine rs 1 [] [] (by kernel_rfl) allP_nil ?_
  refine rf [(1, .ptr 0 0), (3, iS 0)] [(0, .row 25 (Enc.cells xh))] 1 (by kernel_rfl) ?_
  refine wk_id ?_
  refine block_np ?_
  refine loop_sx (S := Int) (fun a => ([(1, .ptr 0 0), (3, iS a)], [(0, .row 25 (Enc.cells xh))], 1)) h (leSt_m [(0, 0)] [] (by simp only [push_cast, leL_flD, renL_flD, seval]) (by simp only [push_cast, leL_flD, renL_flD, seval]) rfl rfl rfl) ?_
  rintro i7 o2 R2 h hr2 hn2 hx2 ht2
  try dsimp only at h hn2 ⊢
  unfold taskmilllaw_vastHeap_l1 at h
  try dsimp only at h
  refine seq_np ?_
  refine seq_np ?_
  refine reg_f ?_
  refine rs 5 [] [] (by kernel_rfl) allP_nil ?_
  refine rf [(1, .ptr 0 0), (3, iS i7), (8, bS (decide (i7 < ((xh.Objects.length : Nat) : Int))))] [(0, .row 25 (Enc.cells xh))] 1 (by kernel_rfl) ?_
  refine wk_id ?_
  refine cond_sx h (by kernel_rfl) (fun g2133 h => ?_) (fun g2133 h => ?_)
  · refine wk_id ?_
    refine seq_np ?_
    refine block_np ?_
    refine chk_sx h (fun g2128 h => ?_)
    refine seq_np ?_
    refine reg_f ?_
    have k2127 : 0 ≤ i7 ∧ i7 < ((xh.Objects.length : Nat) : Int) := by first | simpa only [Bool.and_eq_true, decide_eq_true_eq, bne_iff_ne, ne_eq] using g2128 | (simp at g2128 ⊢; omega)
    refine rs 7 [none, none, none, some ⟨.iptr (fl xh.Objects) ((i7).toNat * 1), [], 1, []⟩, some ⟨.sl (ix xh.Objects i7).length (fl (ix xh.Objects i7)), [], 1, []⟩] _ (by kernel_rfl) (allP_cons (ob_ld xh.Objects i7 1 0 ((i7).toNat * 1) k2127 rfl (by decide) (by first | rfl | omega) (dflS Try.prog 23) (.sl (ix xh.Objects i7).length (fl (ix xh.Objects i7))) rfl 1 []) (allP_cons (ob_ix_l xh.Objects 1 1 i7 k2127) allP_nil)) ?_
    refine rf [(1, .ptr 0 0), (3, iS i7), (17, bS (decide ((1000 : Int) < (((ix xh.Objects i7).length : Nat) : Int))))] [(0, .row 25 (Enc.cells xh))] 1 (by kernel_rfl) ?_
    refine wk_id ?_
    refine cond_sx h (by kernel_rfl) (fun g2129 h => ?_) (fun g2129 h => ?_)
    · refine seq_np ?_
      refine reg_f ?_
      refine rs 1 [] [] (by kernel_rfl) allP_nil ?_
      refine rf [(2, bS true)] [(0, .row 25 (Enc.cells xh))] 1 (by kernel_rfl) ?_
      refine wk_id ?_
      refine rt_cast ht2 ?_
      obtain ⟨r0, h, e0⟩ := map_sx h
      have e1 := hr2 r0 e0.symm
      subst r0
      obtain rfl := Option.some.inj h
      refine ret_at (bS true) (by kernel_rfl) ?_
      exact ret_e [] [] (by simp only [push_cast, leL_flD, renL_flD, seval]) (by simp only [push_cast, leL_flD, renL_flD, seval]) rfl rfl rfl
    · refine wk_id ?_
      refine wk_id ?_
      refine reg_f ?_
      refine rs 3 [] [] (by kernel_rfl) allP_nil ?_
      refine rf [(1, .ptr 0 0), (3, iS (IntKind.i64.wrap (i7 + 1)))] [(0, .row 25 (Enc.cells xh))] 1 (by kernel_rfl) ?_
      exact hn2 ((IntKind.i64.wrap (i7 + 1))) _ _ _ (Option.some.inj h).symm (leSt_m [(0, 0)] [] (by simp only [push_cast, leL_flD, renL_flD, seval]) (by simp only [push_cast, leL_flD, renL_flD, seval]) rfl rfl rfl)
  · change R2 (.exit 0) _ _ _
    refine ex_cast hx2 (id := 0) ?_
    obtain ⟨r0, h, e0⟩ := map_sx h
    have e1 := hr2 r0 e0.symm
    subst r0
    refine wk_id ?_
    refine wk_id ?_
    refine seq_cut (A := Unit) (fun _ => ([(2, bS ((decide ((1000 : Int) < ((xh.Objects.length : Nat) : Int))) || (decide ((1000 : Int) < ((xh.Roots.length : Nat) : Int)))))], [(0, .row 25 (Enc.cells xh))], 1)) (fun _ => True) (fun K2131 hK2131 => ?_) (fun _ _ => ?_)
    · refine reg_f ?_
      refine rs 5 [] [] (by kernel_rfl) allP_nil ?_
      refine run_split 22 (decide ((1000 : Int) < ((xh.Objects.length : Nat) : Int))) (.inl (by kernel_rfl)) (fun g2132 => ?_) (fun g2132 => ?_)
      · refine rs 6 [] [] (by kernel_rfl) allP_nil ?_
        refine rf [(2, bS true)] [(0, .row 25 (Enc.cells xh))] 1 (by kernel_rfl) ?_
        exact hK2131 () _ _ _ trivial (leSt_m [(0, 0)] [] (by (try simp only [g2132]) <;> simp only [push_cast, leL_flD, renL_flD, seval]) (by (try simp only [g2132]) <;> simp only [push_cast, leL_flD, renL_flD, seval]) rfl rfl rfl)
      · refine rs 6 [] [] (by kernel_rfl) allP_nil ?_
        refine rf [(2, bS (decide ((1000 : Int) < ((xh.Roots.length : Nat) : Int))))] [(0, .row 25 (Enc.cells xh))] 1 (by kernel_rfl) ?_
        exact hK2131 () _ _ _ trivial (leSt_m [(0, 0)] [] (by (try simp only [g2132]) <;> simp only [push_cast, leL_flD, renL_flD, seval]) (by (try simp only [g2132]) <;> simp only [push_cast, leL_flD, renL_flD, seval]) rfl rfl rfl)
    · dsimp only
      obtain rfl := Option.some.inj h
      refine ret_at (bS ((decide ((1000 : Int) < ((xh.Objects.length : Nat) : Int))) || (decide ((1000 : Int) < ((xh.Roots.length : Nat) : Int))))) (by kernel_rfl) ?_
      exact ret_e [] [] (by simp only [push_cast, leL_flD, renL_flD, seval]) (by simp only [push_cast, leL_flD, renL_flD, seval]) rfl rfl rfl

set_option maxRecDepth 100000 in
set_option maxHeartbeats 200000000 in
theorem taskmillref_F_spec (code : Int) (xat : Int) (r : Fault) (h : taskmillref_F code xat = some r) : SpecW Try.prog 20 [iS code, iS xat] [] 0 (fun x h n => x = .agg (Enc.cells r) ∧ h = [] ∧ n = 0) := by
  unfold taskmillref_F at h
  refine spec_of (draw_ok _) Try.func20 rfl (by decide) rfl (by kernel_rfl) ?_
  refine seq_np ?_
  refine reg_f ?_
  refine rs 1 [] [] (by kernel_rfl) allP_nil ?_
  refine rf [(0, iS code), (1, iS xat), (4, .ptr 0 0)] [(0, .row 30 [iS 0, iS 0])] 1 (by kernel_rfl) ?_
  refine wk_id ?_
  refine seq_np ?_
  refine reg_f ?_
  refine rs 4 [] [] (by kernel_rfl) allP_nil ?_
  refine rf [(4, .ptr 0 0)] [(0, .row 30 [iS code, iS xat])] 1 (by kernel_rfl) ?_
  refine wk_id ?_
  obtain rfl := Option.some.inj h
  refine ret_at (.agg [iS code, iS xat]) (by kernel_rfl) ?_
  exact ret_e [] [] (by simp only [push_cast, leL_flD, renL_flD, seval]) (by simp only [push_cast, leL_flD, renL_flD, seval]) rfl rfl rfl

set_option maxRecDepth 100000 in
set_option maxHeartbeats 200000000 in
theorem taskmillref_HeapsFault_spec (xh : GHeap) (r : Fault) (h : taskmillref_HeapsFault xh = some r) : SpecW Try.prog 13 [.agg (Enc.cells xh)] [] 0 (fun x h n => x = .agg (Enc.cells r) ∧ h = [] ∧ n = 0) := by
  unfold taskmillref_HeapsFault at h
  refine spec_of (draw_ok _) Try.func13 rfl (by decide) rfl (by kernel_rfl) ?_
  refine seq_np ?_
  refine reg_f ?_
  refine rs 2 [] [] (by kernel_rfl) allP_nil ?_
  refine rf [(1, .ptr 0 0), (2, .ptr 1 0)] [(0, .row 25 (Enc.cells xh)), (1, .row 30 [iS 0, iS 0])] 2 (by kernel_rfl) ?_
  refine wk_id ?_
  refine seq_np ?_
  refine seq_cut (A := Unit) (fun _ => ([(1, .ptr 0 0), (2, .ptr 1 0), (15, bS ((decide ((500 : Int) < ((xh.Objects.length : Nat) : Int))) || (decide ((16 : Int) < ((xh.Roots.length : Nat) : Int)))))], [(0, .row 25 (Enc.cells xh)), (1, .row 30 [iS 0, iS 0])], 2)) (fun _ => True) (fun K2417 hK2417 => ?_) (fun _ _ => ?_)
  · refine reg_f ?_
    refine rs 5 [] [] (by kernel_rfl) allP_nil ?_
    refine run_split 10 (decide ((500 : Int) < ((xh.Objects.length : Nat) : Int))) (.inl (by kernel_rfl)) (fun g2418 => ?_) (fun g2418 => ?_)
    · refine rs 5 [] [] (by kernel_rfl) allP_nil ?_
      refine rf [(1, .ptr 0 0), (2, .ptr 1 0), (15, bS true)] [(0, .row 25 (Enc.cells xh)), (1, .row 30 [iS 0, iS 0])] 2 (by kernel_rfl) ?_
      exact hK2417 () _ _ _ trivial (leSt_m [(0, 0), (1, 1)] [] (by (try simp only [g2418]) <;> simp only [push_cast, leL_flD, renL_flD, seval]) (by (try simp only [g2418]) <;> simp only [push_cast, leL_flD, renL_flD, seval]) rfl rfl rfl)
    · refine rs 5 [] [] (by kernel_rfl) allP_nil ?_
      refine rf [(1, .ptr 0 0), (2, .ptr 1 0), (15, bS (decide ((16 : Int) < ((xh.Roots.length : Nat) : Int))))] [(0, .row 25 (Enc.cells xh)), (1, .row 30 [iS 0, iS 0])] 2 (by kernel_rfl) ?_
      exact hK2417 () _ _ _ trivial (leSt_m [(0, 0), (1, 1)] [] (by (try simp only [g2418]) <;> simp only [push_cast, leL_flD, renL_flD, seval]) (by (try simp only [g2418]) <;> simp only [push_cast, leL_flD, renL_flD, seval]) rfl rfl rfl)
  · dsimp only
    refine cond_sx h (by kernel_rfl) (fun g3136 h => ?_) (fun g3136 h => ?_)
    · refine seq_np ?_
      refine reg_f ?_
      obtain ⟨r2420, hr2420, h⟩ := bind_sx h
      refine run_call 20 [iS 2, iS 0] (some 16) (by kernel_rfl) ?_
      refine call_0 (taskmillref_F_spec 2 0 r2420 hr2420) (by simp only [push_cast, leL_flD, renL_flD, seval]) (by simp only [push_cast, leL_flD, renL_flD, seval]) ?_
      refine back_f ?_
      refine rs 1 [] [] (by kernel_rfl) allP_nil ?_
      refine rf [(2, .ptr 1 0)] [(0, .row 25 (Enc.cells xh)), (1, .row 30 (Enc.cells r2420))] 2 (by kernel_rfl) ?_
      refine wk_id ?_
      obtain rfl := Option.some.inj h
      refine ret_at (.agg (Enc.cells r2420)) (by kernel_rfl) ?_
      exact ret_e [] [] (by simp only [push_cast, leL_flD, renL_flD, seval]) (by simp only [push_cast, leL_flD, renL_flD, seval]) rfl rfl rfl
    · refine wk_id ?_
      refine seq_np ?_
      refine seq_np ?_
      refine reg_f ?_
      refine rs 1 [] [] (by kernel_rfl) allP_nil ?_
      refine rf [(1, .ptr 0 0), (2, .ptr 1 0), (3, iS 0)] [(0, .row 25 (Enc.cells xh)), (1, .row 30 [iS 0, iS 0])] 2 (by kernel_rfl) ?_
      refine wk_id ?_
      refine block_np ?_
      refine loop_sx (S := Int) (fun a => ([(1, .ptr 0 0), (2, .ptr 1 0), (3, iS a)], [(0, .row 25 (Enc.cells xh)), (1, .row 30 [iS 0, iS 0])], 2)) h (leSt_m [(0, 0), (1, 1)] [] (by simp only [push_cast, leL_flD, renL_flD, seval]) (by simp only [push_cast, leL_flD, renL_flD, seval]) rfl rfl rfl) ?_
      rintro i9 o4 R4 h hr4 hn4 hx4 ht4
      try dsimp only at h hn4 ⊢
      unfold taskmillref_HeapsFault_l3 at h
      try dsimp only at h
      refine seq_np ?_
      refine seq_np ?_
      refine reg_f ?_
      refine rs 5 [] [] (by kernel_rfl) allP_nil ?_
      refine rf [(1, .ptr 0 0), (2, .ptr 1 0), (3, iS i9), (21, bS (decide (i9 < ((xh.Roots.length : Nat) : Int))))] [(0, .row 25 (Enc.cells xh)), (1, .row 30 [iS 0, iS 0])] 2 (by kernel_rfl) ?_
      refine wk_id ?_
      refine cond_sx h (by kernel_rfl) (fun g3135 h => ?_) (fun g3135 h => ?_)
      · refine wk_id ?_
        refine seq_np ?_
        refine block_np ?_
        refine chk_sx h (fun g2510 h => ?_)
        refine chk_sx h (fun g2513 h => ?_)
        refine seq_cut (A := Unit) (fun _ => ([(1, .ptr 0 0), (2, .ptr 1 0), (3, iS i9), (40, bS ((decide ((ix xh.Roots i9) < (-1))) || (decide (((xh.Objects.length : Nat) : Int) ≤ (ix xh.Roots i9)))))], [(0, .row 25 (Enc.cells xh)), (1, .row 30 [iS 0, iS 0])], 19)) (fun _ => True) (fun K2508 hK2508 => ?_) (fun _ _ => ?_)
        · refine reg_t ?_
          have k2509 : 0 ≤ i9 ∧ i9 < ((xh.Roots.length : Nat) : Int) := by first | simpa only [Bool.and_eq_true, decide_eq_true_eq, bne_iff_ne, ne_eq] using g2510 | (simp at g2510 ⊢; omega)
          refine rs 7 [none, none, none, some ⟨.iptr (fl xh.Roots) ((i9).toNat * 1), [], 5, []⟩, some ⟨iS (ix xh.Roots i9), [], 6, []⟩] _ (by kernel_rfl) (allP_cons (ob_ld xh.Roots i9 1 0 ((i9).toNat * 1) k2509 rfl (by decide) (by first | rfl | omega) (dflS Try.prog 3) (iS (ix xh.Roots i9)) rfl 6 []) (allP_cons (ob_ix_l xh.Roots 1 5 i9 k2509) allP_nil)) ?_
          refine run_split 30 (decide ((ix xh.Roots i9) < (-1))) (.inl (by kernel_rfl)) (fun g2511 => ?_) (fun g2511 => ?_)
          · refine rs 10 [] [] (by kernel_rfl) allP_nil ?_
            refine rt [(1, .ptr 0 0), (2, .ptr 1 0), (3, iS i9), (40, bS true)] [(0, .row 25 (Enc.cells xh)), (1, .row 30 [iS 0, iS 0])] 19 follows (by kernel_rfl) ?_
            exact hK2508 () _ _ _ trivial (leSt_m [(0, 0), (1, 1)] [] (by (try simp only [g2511]) <;> simp only [push_cast, leL_flD, renL_flD, seval]) (by (try simp only [g2511]) <;> simp only [push_cast, leL_flD, renL_flD, seval]) rfl rfl rfl)
          · have k2512 : 0 ≤ i9 ∧ i9 < ((xh.Roots.length : Nat) : Int) := by have e := or_use g2513 (by first | ((try simp only [g2511]) <;> rfl) | ((try simp only [g2511]); rfl) | (exfalso; clear h; simp_all; done)); first | simpa only [Bool.and_eq_true, decide_eq_true_eq, bne_iff_ne, ne_eq] using e | (simp at e ⊢; omega)
            refine rs 10 [none, none, none, some ⟨.iptr (fl xh.Roots) ((i9).toNat * 1), [], 12, []⟩, some ⟨iS (ix xh.Roots i9), [], 13, []⟩] _ (by kernel_rfl) (allP_cons (ob_ld xh.Roots i9 1 0 ((i9).toNat * 1) k2512 rfl (by decide) (by first | rfl | omega) (dflS Try.prog 3) (iS (ix xh.Roots i9)) rfl 13 []) (allP_cons (ob_ix_l xh.Roots 1 12 i9 k2512) allP_nil)) ?_
            refine rt [(1, .ptr 0 0), (2, .ptr 1 0), (3, iS i9), (40, bS (decide (((xh.Objects.length : Nat) : Int) ≤ (ix xh.Roots i9))))] [(0, .row 25 (Enc.cells xh)), (1, .row 30 [iS 0, iS 0])] 19 follows (by kernel_rfl) ?_
            exact hK2508 () _ _ _ trivial (leSt_m [(0, 0), (1, 1)] [] (by (try simp only [g2511]) <;> simp only [push_cast, leL_flD, renL_flD, seval]) (by (try simp only [g2511]) <;> simp only [push_cast, leL_flD, renL_flD, seval]) rfl rfl rfl)
        · dsimp only
          refine cond_sx h (by kernel_rfl) (fun g2516 h => ?_) (fun g2516 h => ?_)
          · refine seq_np ?_
            refine reg_f ?_
            refine rs 1 [] [] (by kernel_rfl) allP_nil ?_
            obtain ⟨r2515, hr2515, h⟩ := bind_sx h
            refine run_call 20 [iS 3, iS i9] (some 42) (by kernel_rfl) ?_
            refine call_0 (taskmillref_F_spec 3 i9 r2515 hr2515) (by simp only [push_cast, leL_flD, renL_flD, seval]) (by simp only [push_cast, leL_flD, renL_flD, seval]) ?_
            refine back_f ?_
            refine rs 1 [] [] (by kernel_rfl) allP_nil ?_
            refine rf [(2, .ptr 1 0)] [(0, .row 25 (Enc.cells xh)), (1, .row 30 (Enc.cells r2515))] 19 (by kernel_rfl) ?_
            refine wk_id ?_
            refine rt_cast ht4 ?_
            obtain ⟨r0, h, e0⟩ := map_sx h
            have e1 := hr4 r0 e0.symm
            subst r0
            obtain rfl := Option.some.inj h
            refine ret_at (.agg (Enc.cells r2515)) (by kernel_rfl) ?_
            exact ret_e [] [] (by simp only [push_cast, leL_flD, renL_flD, seval]) (by simp only [push_cast, leL_flD, renL_flD, seval]) rfl rfl rfl
          · refine wk_id ?_
            refine wk_id ?_
            refine reg_f ?_
            refine rs 3 [] [] (by kernel_rfl) allP_nil ?_
            refine rf [(1, .ptr 0 0), (2, .ptr 1 0), (3, iS (IntKind.i64.wrap (i9 + 1)))] [(0, .row 25 (Enc.cells xh)), (1, .row 30 [iS 0, iS 0])] 19 (by kernel_rfl) ?_
            exact hn4 ((IntKind.i64.wrap (i9 + 1))) _ _ _ (Option.some.inj h).symm (leSt_m [(0, 0), (1, 1)] [] (by simp only [push_cast, leL_flD, renL_flD, seval]) (by simp only [push_cast, leL_flD, renL_flD, seval]) rfl rfl rfl)
      · change R4 (.exit 0) _ _ _
        refine ex_cast hx4 (id := 0) ?_
        obtain ⟨r0, h, e0⟩ := map_sx h
        have e1 := hr4 r0 e0.symm
        subst r0
        refine wk_id ?_
        refine wk_id ?_
        refine seq_np ?_
        refine seq_np ?_
        refine reg_f ?_
        refine rs 1 [] [] (by kernel_rfl) allP_nil ?_
        refine rf [(1, .ptr 0 0), (2, .ptr 1 0), (4, iS 0)] [(0, .row 25 (Enc.cells xh)), (1, .row 30 [iS 0, iS 0])] 2 (by kernel_rfl) ?_
        refine wk_id ?_
        refine block_np ?_
        refine loop_sx (S := Int) (fun a => ([(1, .ptr 0 0), (2, .ptr 1 0), (4, iS a)], [(0, .row 25 (Enc.cells xh)), (1, .row 30 [iS 0, iS 0])], 2)) h (leSt_m [(0, 0), (1, 1)] [] (by simp only [push_cast, leL_flD, renL_flD, seval]) (by simp only [push_cast, leL_flD, renL_flD, seval]) rfl rfl rfl) ?_
        rintro i15 o5 R5 h hr5 hn5 hx5 ht5
        try dsimp only at h hn5 ⊢
        unfold taskmillref_HeapsFault_l2 at h
        try dsimp only at h
        refine seq_np ?_
        refine seq_np ?_
        refine reg_f ?_
        refine rs 5 [] [] (by kernel_rfl) allP_nil ?_
        refine rf [(1, .ptr 0 0), (2, .ptr 1 0), (4, iS i15), (47, bS (decide (i15 < ((xh.Objects.length : Nat) : Int))))] [(0, .row 25 (Enc.cells xh)), (1, .row 30 [iS 0, iS 0])] 2 (by kernel_rfl) ?_
        refine wk_id ?_
        refine cond_sx h (by kernel_rfl) (fun g3134 h => ?_) (fun g3134 h => ?_)
        · refine wk_id ?_
          refine seq_np ?_
          refine block_np ?_
          refine seq_np ?_
          refine chk_sx h (fun g3006 h => ?_)
          refine seq_np ?_
          refine reg_f ?_
          have k3005 : 0 ≤ i15 ∧ i15 < ((xh.Objects.length : Nat) : Int) := by first | simpa only [Bool.and_eq_true, decide_eq_true_eq, bne_iff_ne, ne_eq] using g3006 | (simp at g3006 ⊢; omega)
          refine rs 7 [none, none, none, some ⟨.iptr (fl xh.Objects) ((i15).toNat * 1), [], 2, []⟩, some ⟨.sl (ix xh.Objects i15).length (fl (ix xh.Objects i15)), [], 2, []⟩] _ (by kernel_rfl) (allP_cons (ob_ld xh.Objects i15 1 0 ((i15).toNat * 1) k3005 rfl (by decide) (by first | rfl | omega) (dflS Try.prog 23) (.sl (ix xh.Objects i15).length (fl (ix xh.Objects i15))) rfl 2 []) (allP_cons (ob_ix_l xh.Objects 1 2 i15 k3005) allP_nil)) ?_
          refine rf [(1, .ptr 0 0), (2, .ptr 1 0), (4, iS i15), (56, bS (decide ((20 : Int) < (((ix xh.Objects i15).length : Nat) : Int))))] [(0, .row 25 (Enc.cells xh)), (1, .row 30 [iS 0, iS 0])] 2 (by kernel_rfl) ?_
          refine wk_id ?_
          refine cond_sx h (by kernel_rfl) (fun g3133 h => ?_) (fun g3133 h => ?_)
          · refine seq_np ?_
            refine reg_f ?_
            refine rs 1 [] [] (by kernel_rfl) allP_nil ?_
            obtain ⟨r3008, hr3008, h⟩ := bind_sx h
            refine run_call 20 [iS 8, iS i15] (some 58) (by kernel_rfl) ?_
            refine call_0 (taskmillref_F_spec 8 i15 r3008 hr3008) (by simp only [push_cast, leL_flD, renL_flD, seval]) (by simp only [push_cast, leL_flD, renL_flD, seval]) ?_
            refine back_f ?_
            refine rs 1 [] [] (by kernel_rfl) allP_nil ?_
            refine rf [(2, .ptr 1 0)] [(0, .row 25 (Enc.cells xh)), (1, .row 30 (Enc.cells r3008))] 2 (by kernel_rfl) ?_
            refine wk_id ?_
            refine rt_cast ht5 ?_
            obtain ⟨r0, h, e0⟩ := map_sx h
            have e1 := hr5 r0 e0.symm
            subst r0
            obtain rfl := Option.some.inj h
            refine ret_at (.agg (Enc.cells r3008)) (by kernel_rfl) ?_
            exact ret_e [] [] (by simp only [push_cast, leL_flD, renL_flD, seval]) (by simp only [push_cast, leL_flD, renL_flD, seval]) rfl rfl rfl
          · refine wk_id ?_
            refine seq_np ?_
            refine reg_f ?_
            refine rs 1 [] [] (by kernel_rfl) allP_nil ?_
            refine rf [(1, .ptr 0 0), (2, .ptr 1 0), (4, iS i15), (5, iS 0)] [(0, .row 25 (Enc.cells xh)), (1, .row 30 [iS 0, iS 0])] 2 (by kernel_rfl) ?_
            refine wk_id ?_
            refine block_np ?_
            refine loop_sx (S := Int) (fun a => ([(1, .ptr 0 0), (2, .ptr 1 0), (4, iS i15), (5, iS a)], [(0, .row 25 (Enc.cells xh)), (1, .row 30 [iS 0, iS 0])], 2)) h (leSt_m [(0, 0), (1, 1)] [] (by simp only [push_cast, leL_flD, renL_flD, seval]) (by simp only [push_cast, leL_flD, renL_flD, seval]) rfl rfl rfl) ?_
            rintro k29 o6 R6 h hr6 hn6 hx6 ht6
            try dsimp only at h hn6 ⊢
            unfold taskmillref_HeapsFault_l1 at h
            try dsimp only at h
            refine seq_np ?_
            refine chk_sx h (fun g3087 h => ?_)
            refine seq_np ?_
            refine reg_f ?_
            have k3086 : 0 ≤ i15 ∧ i15 < ((xh.Objects.length : Nat) : Int) := by first | simpa only [Bool.and_eq_true, decide_eq_true_eq, bne_iff_ne, ne_eq] using g3087 | (simp at g3087 ⊢; omega)
            refine rs 8 [none, none, none, none, some ⟨.iptr (fl xh.Objects) ((i15).toNat * 1), [], 2, []⟩, some ⟨.sl (ix xh.Objects i15).length (fl (ix xh.Objects i15)), [], 2, []⟩] _ (by kernel_rfl) (allP_cons (ob_ld xh.Objects i15 1 0 ((i15).toNat * 1) k3086 rfl (by decide) (by first | rfl | omega) (dflS Try.prog 23) (.sl (ix xh.Objects i15).length (fl (ix xh.Objects i15))) rfl 2 []) (allP_cons (ob_ix_l xh.Objects 1 2 i15 k3086) allP_nil)) ?_
            refine rf [(1, .ptr 0 0), (2, .ptr 1 0), (4, iS i15), (5, iS k29), (66, bS (decide (k29 < (((ix xh.Objects i15).length : Nat) : Int))))] [(0, .row 25 (Enc.cells xh)), (1, .row 30 [iS 0, iS 0])] 2 (by kernel_rfl) ?_
            refine wk_id ?_
            refine cond_sx h (by kernel_rfl) (fun g3132 h => ?_) (fun g3132 h => ?_)
            · refine wk_id ?_
              refine seq_np ?_
              refine block_np ?_
              refine chk_sx h (fun g3121 h => ?_)
              refine chk_sx h (fun g3123 h => ?_)
              refine chk_sx h (fun g3126 h => ?_)
              refine chk_sx h (fun g3128 h => ?_)
              refine seq_cut (A := Unit) (fun _ => ([(1, .ptr 0 0), (2, .ptr 1 0), (4, iS i15), (5, iS k29), (91, bS ((decide ((ix (ix xh.Objects i15) k29) < (-1))) || (decide (((xh.Objects.length : Nat) : Int) ≤ (ix (ix xh.Objects i15) k29)))))], [(0, .row 25 (Enc.cells xh)), (1, .row 30 [iS 0, iS 0])], 25)) (fun _ => True) (fun K3119 hK3119 => ?_) (fun _ _ => ?_)
              · refine reg_t ?_
                have k3120 : 0 ≤ i15 ∧ i15 < ((xh.Objects.length : Nat) : Int) := by first | simpa only [Bool.and_eq_true, decide_eq_true_eq, bne_iff_ne, ne_eq] using g3121 | (simp at g3121 ⊢; omega)
                have k3122 : 0 ≤ k29 ∧ k29 < (((ix xh.Objects i15).length : Nat) : Int) := by first | simpa only [Bool.and_eq_true, decide_eq_true_eq, bne_iff_ne, ne_eq] using g3123 | (simp at g3123 ⊢; omega)
                refine rs 10 [none, none, none, some ⟨.iptr (fl xh.Objects) ((i15).toNat * 1), [], 5, []⟩, some ⟨.sl (ix xh.Objects i15).length (fl (ix xh.Objects i15)), [], 6, []⟩, none, some ⟨.iptr (fl (ix xh.Objects i15)) ((k29).toNat * 1), [], 8, []⟩, some ⟨iS (ix (ix xh.Objects i15) k29), [], 9, []⟩] _ (by kernel_rfl) (allP_cons (ob_ld (ix xh.Objects i15) k29 1 0 ((k29).toNat * 1) k3122 rfl (by decide) (by first | rfl | omega) (dflS Try.prog 3) (iS (ix (ix xh.Objects i15) k29)) rfl 9 []) (allP_cons (ob_ix_l (ix xh.Objects i15) 1 8 k29 k3122) (allP_cons (ob_ld xh.Objects i15 1 0 ((i15).toNat * 1) k3120 rfl (by decide) (by first | rfl | omega) (dflS Try.prog 23) (.sl (ix xh.Objects i15).length (fl (ix xh.Objects i15))) rfl 6 []) (allP_cons (ob_ix_l xh.Objects 1 5 i15 k3120) allP_nil)))) ?_
                refine run_split 78 (decide ((ix (ix xh.Objects i15) k29) < (-1))) (.inl (by kernel_rfl)) (fun g3124 => ?_) (fun g3124 => ?_)
                · refine rs 13 [] [] (by kernel_rfl) allP_nil ?_
                  refine rt [(1, .ptr 0 0), (2, .ptr 1 0), (4, iS i15), (5, iS k29), (91, bS true)] [(0, .row 25 (Enc.cells xh)), (1, .row 30 [iS 0, iS 0])] 25 follows (by kernel_rfl) ?_
                  exact hK3119 () _ _ _ trivial (leSt_m [(0, 0), (1, 1)] [] (by (try simp only [g3124]) <;> simp only [push_cast, leL_flD, renL_flD, seval]) (by (try simp only [g3124]) <;> simp only [push_cast, leL_flD, renL_flD, seval]) rfl rfl rfl)
                · have k3125 : 0 ≤ i15 ∧ i15 < ((xh.Objects.length : Nat) : Int) := by have e := or_use g3126 (by first | ((try simp only [g3124]) <;> rfl) | ((try simp only [g3124]); rfl) | (exfalso; clear h; simp_all; done)); first | simpa only [Bool.and_eq_true, decide_eq_true_eq, bne_iff_ne, ne_eq] using e | (simp at e ⊢; omega)
                  have k3127 : 0 ≤ k29 ∧ k29 < (((ix xh.Objects i15).length : Nat) : Int) := by have e := or_use g3128 (by first | ((try simp only [g3124]) <;> rfl) | ((try simp only [g3124]); rfl) | (exfalso; clear h; simp_all; done)); first | simpa only [Bool.and_eq_true, decide_eq_true_eq, bne_iff_ne, ne_eq] using e | (simp at e ⊢; omega)
                  refine rs 13 [none, none, none, some ⟨.iptr (fl xh.Objects) ((i15).toNat * 1), [], 15, []⟩, some ⟨.sl (ix xh.Objects i15).length (fl (ix xh.Objects i15)), [], 16, []⟩, none, some ⟨.iptr (fl (ix xh.Objects i15)) ((k29).toNat * 1), [], 18, []⟩, some ⟨iS (ix (ix xh.Objects i15) k29), [], 19, []⟩] _ (by kernel_rfl) (allP_cons (ob_ld (ix xh.Objects i15) k29 1 0 ((k29).toNat * 1) k3127 rfl (by decide) (by first | rfl | omega) (dflS Try.prog 3) (iS (ix (ix xh.Objects i15) k29)) rfl 19 []) (allP_cons (ob_ix_l (ix xh.Objects i15) 1 18 k29 k3127) (allP_cons (ob_ld xh.Objects i15 1 0 ((i15).toNat * 1) k3125 rfl (by decide) (by first | rfl | omega) (dflS Try.prog 23) (.sl (ix xh.Objects i15).length (fl (ix xh.Objects i15))) rfl 16 []) (allP_cons (ob_ix_l xh.Objects 1 15 i15 k3125) allP_nil)))) ?_
                  refine rt [(1, .ptr 0 0), (2, .ptr 1 0), (4, iS i15), (5, iS k29), (91, bS (decide (((xh.Objects.length : Nat) : Int) ≤ (ix (ix xh.Objects i15) k29))))] [(0, .row 25 (Enc.cells xh)), (1, .row 30 [iS 0, iS 0])] 25 follows (by kernel_rfl) ?_
                  exact hK3119 () _ _ _ trivial (leSt_m [(0, 0), (1, 1)] [] (by (try simp only [g3124]) <;> simp only [push_cast, leL_flD, renL_flD, seval]) (by (try simp only [g3124]) <;> simp only [push_cast, leL_flD, renL_flD, seval]) rfl rfl rfl)
              · dsimp only
                refine cond_sx h (by kernel_rfl) (fun g3131 h => ?_) (fun g3131 h => ?_)
                · refine seq_np ?_
                  refine reg_f ?_
                  refine rs 1 [] [] (by kernel_rfl) allP_nil ?_
                  obtain ⟨r3130, hr3130, h⟩ := bind_sx h
                  refine run_call 20 [iS 5, iS i15] (some 93) (by kernel_rfl) ?_
                  refine call_0 (taskmillref_F_spec 5 i15 r3130 hr3130) (by simp only [push_cast, leL_flD, renL_flD, seval]) (by simp only [push_cast, leL_flD, renL_flD, seval]) ?_
                  refine back_f ?_
                  refine rs 1 [] [] (by kernel_rfl) allP_nil ?_
                  refine rf [(2, .ptr 1 0)] [(0, .row 25 (Enc.cells xh)), (1, .row 30 (Enc.cells r3130))] 25 (by kernel_rfl) ?_
                  refine wk_id ?_
                  refine rt_cast ht6 ?_
                  obtain ⟨r0, h, e0⟩ := map_sx h
                  have e1 := hr6 r0 e0.symm
                  subst r0
                  refine rt_cast ht5 ?_
                  obtain ⟨r0, h, e0⟩ := map_sx h
                  have e1 := hr5 r0 e0.symm
                  subst r0
                  obtain rfl := Option.some.inj h
                  refine ret_at (.agg (Enc.cells r3130)) (by kernel_rfl) ?_
                  exact ret_e [] [] (by simp only [push_cast, leL_flD, renL_flD, seval]) (by simp only [push_cast, leL_flD, renL_flD, seval]) rfl rfl rfl
                · refine wk_id ?_
                  refine wk_id ?_
                  refine reg_f ?_
                  refine rs 3 [] [] (by kernel_rfl) allP_nil ?_
                  refine rf [(1, .ptr 0 0), (2, .ptr 1 0), (4, iS i15), (5, iS (IntKind.i64.wrap (k29 + 1)))] [(0, .row 25 (Enc.cells xh)), (1, .row 30 [iS 0, iS 0])] 25 (by kernel_rfl) ?_
                  exact hn6 ((IntKind.i64.wrap (k29 + 1))) _ _ _ (Option.some.inj h).symm (leSt_m [(0, 0), (1, 1)] [] (by simp only [push_cast, leL_flD, renL_flD, seval]) (by simp only [push_cast, leL_flD, renL_flD, seval]) rfl rfl rfl)
            · change R6 (.exit 4) _ _ _
              refine ex_cast hx6 (id := 4) ?_
              obtain ⟨r0, h, e0⟩ := map_sx h
              have e1 := hr6 r0 e0.symm
              subst r0
              refine wk_id ?_
              refine wk_id ?_
              refine wk_id ?_
              refine reg_f ?_
              refine rs 3 [] [] (by kernel_rfl) allP_nil ?_
              refine rf [(1, .ptr 0 0), (2, .ptr 1 0), (4, iS (IntKind.i64.wrap (i15 + 1)))] [(0, .row 25 (Enc.cells xh)), (1, .row 30 [iS 0, iS 0])] 2 (by kernel_rfl) ?_
              exact hn5 ((IntKind.i64.wrap (i15 + 1))) _ _ _ (Option.some.inj h).symm (leSt_m [(0, 0), (1, 1)] [] (by simp only [push_cast, leL_flD, renL_flD, seval]) (by simp only [push_cast, leL_flD, renL_flD, seval]) rfl rfl rfl)
        · change R5 (.exit 2) _ _ _
          refine ex_cast hx5 (id := 2) ?_
          obtain ⟨r0, h, e0⟩ := map_sx h
          have e1 := hr5 r0 e0.symm
          subst r0
          refine wk_id ?_
          refine wk_id ?_
          refine seq_np ?_
          refine reg_f ?_
          refine rs 2 [] [] (by kernel_rfl) allP_nil ?_
          refine rf [(2, .ptr 1 0)] [(0, .row 25 (Enc.cells xh)), (1, .row 30 [iS 0, iS 0])] 2 (by kernel_rfl) ?_
          refine wk_id ?_
          obtain rfl := Option.some.inj h
          refine ret_at (.agg [iS 0, iS 0]) (by kernel_rfl) ?_
          exact ret_e [] [] (by simp only [push_cast, leL_flD, renL_flD, seval]) (by simp only [push_cast, leL_flD, renL_flD, seval]) rfl rfl rfl

set_option maxRecDepth 100000 in
set_option maxHeartbeats 200000000 in
theorem taskmillref_Lists_spec (xa : (List (List Int))) (b : (List (List Int))) (r : Bool) (h : taskmillref_Lists xa b = some r) : SpecW Try.prog 29 [.sl xa.length (fl xa), .sl b.length (fl b)] [] 0 (fun x h n => x = bS r ∧ h = [] ∧ n = 0) := by
  unfold taskmillref_Lists at h
  refine spec_of (draw_ok _) Try.func29 rfl (by decide) rfl (by kernel_rfl) ?_
  refine seq_np ?_
  refine reg_f ?_
  refine rs 1 [] [] (by kernel_rfl) allP_nil ?_
  refine rf [(0, .sl xa.length (fl xa)), (1, .sl b.length (fl b))] [] 0 (by kernel_rfl) ?_
  refine wk_id ?_
  refine seq_np ?_
  refine seq_np ?_
  refine reg_f ?_
  refine rs 5 [] [] (by kernel_rfl) allP_nil ?_
  refine rf [(0, .sl xa.length (fl xa)), (1, .sl b.length (fl b)), (10, bS (((xa.length : Nat) : Int) != ((b.length : Nat) : Int)))] [] 0 (by kernel_rfl) ?_
  refine wk_id ?_
  refine cond_sx h (by kernel_rfl) (fun g3249 h => ?_) (fun g3249 h => ?_)
  · refine seq_np ?_
    refine reg_f ?_
    refine rs 1 [] [] (by kernel_rfl) allP_nil ?_
    refine rf [(4, bS false)] [] 0 (by kernel_rfl) ?_
    refine wk_id ?_
    obtain rfl := Option.some.inj h
    refine ret_at (bS false) (by kernel_rfl) ?_
    exact ret_e [] [] (by simp only [push_cast, leL_flD, renL_flD, seval]) (by simp only [push_cast, leL_flD, renL_flD, seval]) rfl rfl rfl
  · refine wk_id ?_
    refine seq_np ?_
    refine seq_np ?_
    refine reg_f ?_
    refine rs 1 [] [] (by kernel_rfl) allP_nil ?_
    refine rf [(0, .sl xa.length (fl xa)), (1, .sl b.length (fl b)), (5, iS 0)] [] 0 (by kernel_rfl) ?_
    refine wk_id ?_
    refine block_np ?_
    refine loop_sx (S := Int) (fun a => ([(0, .sl xa.length (fl xa)), (1, .sl b.length (fl b)), (5, iS a)], [], 0)) h (leSt_m [] [] (by simp only [push_cast, leL_flD, renL_flD, seval]) (by simp only [push_cast, leL_flD, renL_flD, seval]) rfl rfl rfl) ?_
    rintro i7 o2 R2 h hr2 hn2 hx2 ht2
    try dsimp only at h hn2 ⊢
    unfold taskmillref_Lists_l1 at h
    try dsimp only at h
    refine seq_np ?_
    refine seq_np ?_
    refine reg_f ?_
    refine rs 4 [] [] (by kernel_rfl) allP_nil ?_
    refine rf [(0, .sl xa.length (fl xa)), (1, .sl b.length (fl b)), (5, iS i7), (14, bS (decide (i7 < ((xa.length : Nat) : Int))))] [] 0 (by kernel_rfl) ?_
    refine wk_id ?_
    refine cond_sx h (by kernel_rfl) (fun g3248 h => ?_) (fun g3248 h => ?_)
    · refine wk_id ?_
      refine seq_np ?_
      refine block_np ?_
      refine chk_sx h (fun g3243 h => ?_)
      refine chk_sx h (fun g3245 h => ?_)
      refine seq_np ?_
      refine reg_t ?_
      have k3242 : 0 ≤ i7 ∧ i7 < ((xa.length : Nat) : Int) := by first | simpa only [Bool.and_eq_true, decide_eq_true_eq, bne_iff_ne, ne_eq] using g3243 | (simp at g3243 ⊢; omega)
      have k3244 : 0 ≤ i7 ∧ i7 < ((b.length : Nat) : Int) := by first | simpa only [Bool.and_eq_true, decide_eq_true_eq, bne_iff_ne, ne_eq] using g3245 | (simp at g3245 ⊢; omega)
      refine rs 8 [none, none, some ⟨.iptr (fl xa) ((i7).toNat * 1), [], 2, []⟩, some ⟨.sl (ix xa i7).length (fl (ix xa i7)), [], 3, []⟩, none, none, some ⟨.iptr (fl b) ((i7).toNat * 1), [], 6, []⟩, some ⟨.sl (ix b i7).length (fl (ix b i7)), [], 7, []⟩] _ (by kernel_rfl) (allP_cons (ob_ld b i7 1 0 ((i7).toNat * 1) k3244 rfl (by decide) (by first | rfl | omega) (dflS Try.prog 23) (.sl (ix b i7).length (fl (ix b i7))) rfl 7 []) (allP_cons (ob_ix_l b 1 6 i7 k3244) (allP_cons (ob_ld xa i7 1 0 ((i7).toNat * 1) k3242 rfl (by decide) (by first | rfl | omega) (dflS Try.prog 23) (.sl (ix xa i7).length (fl (ix xa i7))) rfl 3 []) (allP_cons (ob_ix_l xa 1 2 i7 k3242) allP_nil)))) ?_
      obtain ⟨r3246, hr3246, h⟩ := bind_sx h
      refine run_call 22 [.sl (ix xa i7).length (fl (ix xa i7)), .sl (ix b i7).length (fl (ix b i7))] (some 25) (by kernel_rfl) ?_
      refine callE_0 (taskmillref_Ints_spec (ix xa i7) (ix b i7) r3246 hr3246) (by simp only [push_cast, leL_flD, renL_flD, seval]) (by simp only [push_cast, leL_flD, renL_flD, seval]) ?_
      refine back_t ?_
      refine rs 1 [] [] (by kernel_rfl) allP_nil ?_
      refine rt [(0, .sl xa.length (fl xa)), (1, .sl b.length (fl b)), (5, iS i7), (26, bS (!r3246))] [] 10 follows (by kernel_rfl) ?_
      refine wk_id ?_
      refine cond_sx h (by kernel_rfl) (fun g3247 h => ?_) (fun g3247 h => ?_)
      · refine seq_np ?_
        refine reg_f ?_
        refine rs 1 [] [] (by kernel_rfl) allP_nil ?_
        refine rf [(4, bS false)] [] 10 (by kernel_rfl) ?_
        refine wk_id ?_
        refine rt_cast ht2 ?_
        obtain ⟨r0, h, e0⟩ := map_sx h
        have e1 := hr2 r0 e0.symm
        subst r0
        obtain rfl := Option.some.inj h
        refine ret_at (bS false) (by kernel_rfl) ?_
        exact ret_e [] [] (by simp only [push_cast, leL_flD, renL_flD, seval]) (by simp only [push_cast, leL_flD, renL_flD, seval]) rfl rfl rfl
      · refine wk_id ?_
        refine wk_id ?_
        refine reg_f ?_
        refine rs 3 [] [] (by kernel_rfl) allP_nil ?_
        refine rf [(0, .sl xa.length (fl xa)), (1, .sl b.length (fl b)), (5, iS (IntKind.i64.wrap (i7 + 1)))] [] 10 (by kernel_rfl) ?_
        exact hn2 ((IntKind.i64.wrap (i7 + 1))) _ _ _ (Option.some.inj h).symm (leSt_m [] [] (by simp only [push_cast, leL_flD, renL_flD, seval]) (by simp only [push_cast, leL_flD, renL_flD, seval]) rfl rfl rfl)
    · change R2 (.exit 0) _ _ _
      refine ex_cast hx2 (id := 0) ?_
      obtain ⟨r0, h, e0⟩ := map_sx h
      have e1 := hr2 r0 e0.symm
      subst r0
      refine wk_id ?_
      refine wk_id ?_
      refine seq_np ?_
      refine reg_f ?_
      refine rs 1 [] [] (by kernel_rfl) allP_nil ?_
      refine rf [(4, bS true)] [] 0 (by kernel_rfl) ?_
      refine wk_id ?_
      obtain rfl := Option.some.inj h
      refine ret_at (bS true) (by kernel_rfl) ?_
      exact ret_e [] [] (by simp only [push_cast, leL_flD, renL_flD, seval]) (by simp only [push_cast, leL_flD, renL_flD, seval]) rfl rfl rfl

set_option maxRecDepth 100000 in
set_option maxHeartbeats 200000000 in
theorem taskmillref_SameHeap_spec (xa : GHeap) (b : GHeap) (r : Bool) (h : taskmillref_SameHeap xa b = some r) : SpecW Try.prog 14 [.agg (Enc.cells xa), .agg (Enc.cells b)] [] 0 (fun x h n => x = bS r ∧ h = [] ∧ n = 0) := by
  unfold taskmillref_SameHeap at h
  refine spec_of (draw_ok _) Try.func14 rfl (by decide) rfl (by kernel_rfl) ?_
  refine seq_np ?_
  refine reg_f ?_
  refine rs 3 [] [] (by kernel_rfl) allP_nil ?_
  refine rf [(2, .ptr 0 0), (3, .ptr 1 0)] [(0, .row 25 (Enc.cells xa)), (1, .row 25 (Enc.cells b))] 2 (by kernel_rfl) ?_
  refine wk_id ?_
  refine seq_cut (A := Bool) (fun a => ([(4, bS a)], [], 0)) (fun a => (taskmillref_SameHeap_j1 a) = some r) (fun K3257 hK3257 => ?_) ?_
  · refine reg_f ?_
    refine rs 4 [] [] (by kernel_rfl) allP_nil ?_
    obtain ⟨r3258, hr3258, h⟩ := bind_sx h
    refine run_call 22 [.sl xa.Roots.length (fl xa.Roots), .sl b.Roots.length (fl b.Roots)] (some 9) (by kernel_rfl) ?_
    refine call_0 (taskmillref_Ints_spec xa.Roots b.Roots r3258 hr3258) (by simp only [push_cast, leL_flD, renL_flD, seval]) (by simp only [push_cast, leL_flD, renL_flD, seval]) ?_
    refine back_f ?_
    refine rs 1 [] [] (by kernel_rfl) allP_nil ?_
    refine run_br h 10 (.inl (by kernel_rfl)) (fun g3259 h => ?_) (fun g3259 h => ?_)
    · refine rs 4 [] [] (by kernel_rfl) allP_nil ?_
      obtain ⟨r3260, hr3260, h⟩ := bind_sx h
      refine run_call 29 [.sl xa.Objects.length (fl xa.Objects), .sl b.Objects.length (fl b.Objects)] (some 15) (by kernel_rfl) ?_
      refine call_0 (taskmillref_Lists_spec xa.Objects b.Objects r3260 hr3260) (by simp only [push_cast, leL_flD, renL_flD, seval]) (by simp only [push_cast, leL_flD, renL_flD, seval]) ?_
      refine back_f ?_
      refine rs 2 [] [] (by kernel_rfl) allP_nil ?_
      refine rf [(4, bS r3260)] [(0, .row 25 (Enc.cells xa)), (1, .row 25 (Enc.cells b))] 2 (by kernel_rfl) ?_
      exact hK3257 (r3260) _ _ _ h (leSt_m [] [] (by (try simp only [g3259]) <;> simp only [push_cast, leL_flD, renL_flD, seval]) (by (try simp only [g3259]) <;> simp only [push_cast, leL_flD, renL_flD, seval]) rfl rfl rfl)
    · refine rs 7 [] [] (by kernel_rfl) allP_nil ?_
      refine rf [(4, bS false)] [(0, .row 25 (Enc.cells xa)), (1, .row 25 (Enc.cells b))] 2 (by kernel_rfl) ?_
      exact hK3257 (false) _ _ _ h (leSt_m [] [] (by (try simp only [g3259]) <;> simp only [push_cast, leL_flD, renL_flD, seval]) (by (try simp only [g3259]) <;> simp only [push_cast, leL_flD, renL_flD, seval]) rfl rfl rfl)
  · rintro t4q1 h
    try dsimp only at h ⊢
    unfold taskmillref_SameHeap_j1 at h
    obtain rfl := Option.some.inj h
    refine ret_at (bS t4q1) (by kernel_rfl) ?_
    exact ret_e [] [] (by simp only [push_cast, leL_flD, renL_flD, seval]) (by simp only [push_cast, leL_flD, renL_flD, seval]) rfl rfl rfl

set_option maxRecDepth 100000 in
set_option maxHeartbeats 200000000 in
theorem taskmillref_Reached_spec (xh : GHeap) (r : (List Bool)) (h : taskmillref_Reached xh = some r) : SpecW Try.prog 18 [.agg (Enc.cells xh)] [] 0 (fun x h n => x = .own 0 0 r.length ∧ h = [(0, .row 4 (fl r))] ∧ n = 1) := by
  unfold taskmillref_Reached at h
  refine spec_of (draw_ok _) Try.func18 rfl (by decide) rfl (by kernel_rfl) ?_
  refine seq_np ?_
  refine reg_f ?_
  refine rs 2 [] [] (by kernel_rfl) allP_nil ?_
  refine rf [(1, .ptr 0 0)] [(0, .row 25 (Enc.cells xh))] 1 (by kernel_rfl) ?_
  refine wk_id ?_
  refine chk_sx h (fun g3813 h => ?_)
  refine seq_np ?_
  refine reg_f ?_
  have k3812 : 0 ≤ ((xh.Objects.length : Nat) : Int) ∧ ((xh.Objects.length : Nat) : Int) ≤ 4611686018427387904 ∧ (1 : Int) * ((xh.Objects.length : Nat) : Int) ≤ 140737488355328 := by first | simpa only [Bool.and_eq_true, decide_eq_true_eq, bne_iff_ne, ne_eq] using g3813 | (simp at g3813 ⊢; omega)
  refine rs 5 [none, none, none, some ⟨.own 1 0 (List.replicate (((xh.Objects.length : Nat) : Int)).toNat (default : Bool)).length, [(1, .row 4 (fl (List.replicate (((xh.Objects.length : Nat) : Int)).toNat (default : Bool))))], 2, []⟩] _ (by kernel_rfl) (allP_cons (ob_mk (P := Try.prog) (α := Bool) ((xh.Objects.length : Nat) : Int) 4 1 (by kernel_rfl) [bS false] rfl 1 rfl (by decide) k3812 1) allP_nil) ?_
  refine rf [(1, .ptr 0 0), (3, .own 1 0 (List.replicate (((xh.Objects.length : Nat) : Int)).toNat (default : Bool)).length)] [(0, .row 25 (Enc.cells xh)), (1, .row 4 (fl (List.replicate (((xh.Objects.length : Nat) : Int)).toNat (default : Bool))))] 2 (by kernel_rfl) ?_
  refine wk_id ?_
  refine seq_np ?_
  refine seq_np ?_
  refine reg_f ?_
  refine rs 1 [] [] (by kernel_rfl) allP_nil ?_
  refine rf [(1, .ptr 0 0), (3, .own 1 0 (List.replicate (((xh.Objects.length : Nat) : Int)).toNat (default : Bool)).length), (4, iS 0)] [(0, .row 25 (Enc.cells xh)), (1, .row 4 (fl (List.replicate (((xh.Objects.length : Nat) : Int)).toNat (default : Bool))))] 2 (by kernel_rfl) ?_
  refine wk_id ?_
  refine block_np ?_
  refine loop_sx (S := Int × (List Bool)) (fun a => ([(1, .ptr 0 0), (3, .own 1 0 a.2.length), (4, iS a.1)], [(0, .row 25 (Enc.cells xh)), (1, .row 4 (fl a.2))], 2)) h (leSt_m [(0, 0), (1, 1)] [] (by simp only [push_cast, leL_flD, renL_flD, seval]) (by simp only [push_cast, leL_flD, renL_flD, seval]) rfl rfl rfl) ?_
  rintro ⟨i13, c1q71⟩ o5 R5 h hr5 hn5 hx5 ht5
  try dsimp only at h hn5 ⊢
  unfold taskmillref_Reached_l4 at h
  try dsimp only at h
  refine seq_np ?_
  refine seq_np ?_
  refine reg_f ?_
  refine rs 5 [] [] (by kernel_rfl) allP_nil ?_
  refine rf [(1, .ptr 0 0), (3, .own 1 0 c1q71.length), (4, iS i13), (17, bS (decide (i13 < ((xh.Roots.length : Nat) : Int))))] [(0, .row 25 (Enc.cells xh)), (1, .row 4 (fl c1q71))] 2 (by kernel_rfl) ?_
  refine wk_id ?_
  refine cond_sx h (by kernel_rfl) (fun g5670 h => ?_) (fun g5670 h => ?_)
  · refine wk_id ?_
    refine seq_np ?_
    refine block_cut (A := (List Bool)) (fun a => ([(1, .ptr 0 0), (3, .own 1 0 a.length), (4, iS i13)], [(0, .row 25 (Enc.cells xh)), (1, .row 4 (fl a))], 2)) (fun a => (taskmillref_Reached_j1 xh i13 a) = some o5) (fun K3915 hK3915 => ?_) ?_
    · refine chk_sx h (fun g3919 h => ?_)
      refine seq_np ?_
      refine reg_f ?_
      have k3918 : 0 ≤ i13 ∧ i13 < ((xh.Roots.length : Nat) : Int) := by first | simpa only [Bool.and_eq_true, decide_eq_true_eq, bne_iff_ne, ne_eq] using g3919 | (simp at g3919 ⊢; omega)
      refine rs 6 [none, none, none, some ⟨.iptr (fl xh.Roots) ((i13).toNat * 1), [], 2, []⟩, some ⟨iS (ix xh.Roots i13), [], 2, []⟩] _ (by kernel_rfl) (allP_cons (ob_ld xh.Roots i13 1 0 ((i13).toNat * 1) k3918 rfl (by decide) (by first | rfl | omega) (dflS Try.prog 3) (iS (ix xh.Roots i13)) rfl 2 []) (allP_cons (ob_ix_l xh.Roots 1 2 i13 k3918) allP_nil)) ?_
      refine rf [(1, .ptr 0 0), (3, .own 1 0 c1q71.length), (4, iS i13), (25, bS (decide ((0 : Int) ≤ (ix xh.Roots i13))))] [(0, .row 25 (Enc.cells xh)), (1, .row 4 (fl c1q71))] 2 (by kernel_rfl) ?_
      refine wk_id ?_
      refine cond_sx h (by kernel_rfl) (fun g3928 h => ?_) (fun g3928 h => ?_)
      · refine chk_sx h (fun g3925 h => ?_)
        refine chk_sx h (fun g3927 h => ?_)
        refine reg_f ?_
        have k3924 : 0 ≤ i13 ∧ i13 < ((xh.Roots.length : Nat) : Int) := by first | simpa only [Bool.and_eq_true, decide_eq_true_eq, bne_iff_ne, ne_eq] using g3925 | (simp at g3925 ⊢; omega)
        have k3926 : 0 ≤ (ix xh.Roots i13) ∧ (ix xh.Roots i13) < ((c1q71.length : Nat) : Int) := by first | simpa only [Bool.and_eq_true, decide_eq_true_eq, bne_iff_ne, ne_eq] using g3927 | (simp at g3927 ⊢; omega)
        refine rs 8 [none, none, none, none, some ⟨.iptr (fl xh.Roots) ((i13).toNat * 1), [], 2, []⟩, some ⟨iS (ix xh.Roots i13), [], 2, []⟩, some ⟨.ptr 1 (0 + ((ix xh.Roots i13)).toNat * 1), [], 2, [1]⟩, some ⟨.any, [(1, .row 4 (fl (c1q71.set (ix xh.Roots i13).toNat true)))], 2, [1]⟩] _ (by kernel_rfl) (allP_cons (ob_st (P := Try.prog) c1q71 (ix xh.Roots i13) 1 0 (0 + ((ix xh.Roots i13)).toNat * 1) k3926 rfl [bS true] true (Nat.le_of_ble_eq_true rfl) (by first | rfl | omega) rfl 1 2 4 4 (by kernel_rfl) rfl) (allP_cons (ob_ix_o 1 c1q71.length 0 1 2 (ix xh.Roots i13) k3926) (allP_cons (ob_ld xh.Roots i13 1 0 ((i13).toNat * 1) k3924 rfl (by decide) (by first | rfl | omega) (dflS Try.prog 3) (iS (ix xh.Roots i13)) rfl 2 []) (allP_cons (ob_ix_l xh.Roots 1 2 i13 k3924) allP_nil)))) ?_
        refine run_eqF 3 (.own 1 0 c1q71.length) (.own 1 0 (c1q71.set (ix xh.Roots i13).toNat true).length) (congrArg (fun nq => (.own 1 0 nq : SV)) (show c1q71.length = (c1q71.set (ix xh.Roots i13).toNat true).length from (List.length_set ..).symm)) (by kernel_rfl) ?_
        refine rf [(1, .ptr 0 0), (3, .own 1 0 (c1q71.set (ix xh.Roots i13).toNat true).length), (4, iS i13)] [(0, .row 25 (Enc.cells xh)), (1, .row 4 (fl (c1q71.set (ix xh.Roots i13).toNat true)))] 2 (by kernel_rfl) ?_
        exact hK3915 ((c1q71.set (ix xh.Roots i13).toNat true)) _ _ _ h (leSt_m [(0, 0), (1, 1)] [] (by simp only [push_cast, leL_flD, renL_flD, seval]) (by simp only [push_cast, leL_flD, renL_flD, seval]) rfl rfl rfl)
      · exact hK3915 (c1q71) _ _ _ h (leSt_m [(0, 0), (1, 1)] [] (by simp only [push_cast, leL_flD, renL_flD, seval]) (by simp only [push_cast, leL_flD, renL_flD, seval]) rfl rfl rfl)
    · rintro c1q73 h
      try dsimp only at h ⊢
      unfold taskmillref_Reached_j1 at h
      refine wk_id ?_
      refine reg_f ?_
      refine rs 3 [] [] (by kernel_rfl) allP_nil ?_
      refine rf [(1, .ptr 0 0), (3, .own 1 0 c1q73.length), (4, iS (IntKind.i64.wrap (i13 + 1)))] [(0, .row 25 (Enc.cells xh)), (1, .row 4 (fl c1q73))] 2 (by kernel_rfl) ?_
      exact hn5 ((IntKind.i64.wrap (i13 + 1)), c1q73) _ _ _ (Option.some.inj h).symm (leSt_m [(0, 0), (1, 1)] [] (by simp only [push_cast, leL_flD, renL_flD, seval]) (by simp only [push_cast, leL_flD, renL_flD, seval]) rfl rfl rfl)
  · change R5 (.exit 0) _ _ _
    refine ex_cast hx5 (id := 0) ?_
    obtain ⟨r0, h, e0⟩ := map_sx h
    have e1 := hr5 r0 e0.symm
    subst r0
    refine wk_id ?_
    refine wk_id ?_
    refine seq_np ?_
    refine seq_np ?_
    refine reg_f ?_
    refine rs 1 [] [] (by kernel_rfl) allP_nil ?_
    refine rf [(1, .ptr 0 0), (3, .own 1 0 c1q71.length), (5, bS true)] [(0, .row 25 (Enc.cells xh)), (1, .row 4 (fl c1q71))] 2 (by kernel_rfl) ?_
    refine wk_id ?_
    refine block_np ?_
    refine loop_sx (S := Bool × (List Bool)) (fun a => ([(1, .ptr 0 0), (3, .own 1 0 a.2.length), (5, bS a.1)], [(0, .row 25 (Enc.cells xh)), (1, .row 4 (fl a.2))], 2)) h (leSt_m [(0, 0), (1, 1)] [] (by simp only [push_cast, leL_flD, renL_flD, seval]) (by simp only [push_cast, leL_flD, renL_flD, seval]) rfl rfl rfl) ?_
    rintro ⟨again194, c1q215⟩ o6 R6 h hr6 hn6 hx6 ht6
    try dsimp only at h hn6 ⊢
    unfold taskmillref_Reached_l3 at h
    try dsimp only at h
    refine seq_np ?_
    refine seq_np ?_
    refine reg_f ?_
    refine rs 1 [] [] (by kernel_rfl) allP_nil ?_
    refine rf [(1, .ptr 0 0), (3, .own 1 0 c1q215.length), (33, bS again194)] [(0, .row 25 (Enc.cells xh)), (1, .row 4 (fl c1q215))] 2 (by kernel_rfl) ?_
    refine wk_id ?_
    refine cond_sx h (by kernel_rfl) (fun g5669 h => ?_) (fun g5669 h => ?_)
    · refine wk_id ?_
      refine block_np ?_
      refine seq_np ?_
      refine reg_f ?_
      refine rs 1 [] [] (by kernel_rfl) allP_nil ?_
      refine rf [(1, .ptr 0 0), (3, .own 1 0 c1q215.length), (5, bS false)] [(0, .row 25 (Enc.cells xh)), (1, .row 4 (fl c1q215))] 2 (by kernel_rfl) ?_
      refine wk_id ?_
      refine seq_np ?_
      refine reg_f ?_
      refine rs 1 [] [] (by kernel_rfl) allP_nil ?_
      refine rf [(1, .ptr 0 0), (3, .own 1 0 c1q215.length), (5, bS false), (6, iS 0)] [(0, .row 25 (Enc.cells xh)), (1, .row 4 (fl c1q215))] 2 (by kernel_rfl) ?_
      refine wk_id ?_
      refine block_np ?_
      refine loop_sx (S := Bool × Int × (List Bool)) (fun a => ([(1, .ptr 0 0), (3, .own 1 0 a.2.2.length), (5, bS a.1), (6, iS a.2.1)], [(0, .row 25 (Enc.cells xh)), (1, .row 4 (fl a.2.2))], 2)) h (leSt_m [(0, 0), (1, 1)] [] (by simp only [push_cast, leL_flD, renL_flD, seval]) (by simp only [push_cast, leL_flD, renL_flD, seval]) rfl rfl rfl) ?_
      rintro ⟨again206, i31, c1q227⟩ o7 R7 h hr7 hn7 hx7 ht7
      try dsimp only at h hn7 ⊢
      unfold taskmillref_Reached_l2 at h
      try dsimp only at h
      refine seq_np ?_
      refine seq_np ?_
      refine reg_f ?_
      refine rs 4 [] [] (by kernel_rfl) allP_nil ?_
      refine rf [(1, .ptr 0 0), (3, .own 1 0 c1q227.length), (5, bS again206), (6, iS i31), (37, bS (decide (i31 < ((c1q227.length : Nat) : Int))))] [(0, .row 25 (Enc.cells xh)), (1, .row 4 (fl c1q227))] 2 (by kernel_rfl) ?_
      refine wk_id ?_
      refine cond_sx h (by kernel_rfl) (fun g5668 h => ?_) (fun g5668 h => ?_)
      · refine wk_id ?_
        refine seq_np ?_
        refine block_np ?_
        refine seq_np ?_
        refine reg_f ?_
        refine rs 1 [] [] (by kernel_rfl) allP_nil ?_
        refine rf [(1, .ptr 0 0), (3, .own 1 0 c1q227.length), (5, bS again206), (6, iS i31), (7, iS 0)] [(0, .row 25 (Enc.cells xh)), (1, .row 4 (fl c1q227))] 2 (by kernel_rfl) ?_
        refine wk_id ?_
        refine block_np ?_
        refine loop_sx (S := Bool × Int × (List Bool)) (fun a => ([(1, .ptr 0 0), (3, .own 1 0 a.2.2.length), (5, bS a.1), (6, iS i31), (7, iS a.2.1)], [(0, .row 25 (Enc.cells xh)), (1, .row 4 (fl a.2.2))], 2)) h (leSt_m [(0, 0), (1, 1)] [] (by simp only [push_cast, leL_flD, renL_flD, seval]) (by simp only [push_cast, leL_flD, renL_flD, seval]) rfl rfl rfl) ?_
        rintro ⟨again225, k77, c1q246⟩ o8 R8 h hr8 hn8 hx8 ht8
        try dsimp only at h hn8 ⊢
        unfold taskmillref_Reached_l1 at h
        try dsimp only at h
        refine seq_np ?_
        refine chk_sx h (fun g5619 h => ?_)
        refine chk_sx h (fun g5622 h => ?_)
        refine seq_cut (A := Unit) (fun _ => ([(1, .ptr 0 0), (3, .own 1 0 c1q246.length), (5, bS again225), (6, iS i31), (7, iS k77), (53, bS ((decide (k77 < (((ix xh.Objects i31).length : Nat) : Int))) && (ix c1q246 i31)))], [(0, .row 25 (Enc.cells xh)), (1, .row 4 (fl c1q246))], 2)) (fun _ => True) (fun K5617 hK5617 => ?_) (fun _ _ => ?_)
        · refine reg_f ?_
          have k5618 : 0 ≤ i31 ∧ i31 < ((xh.Objects.length : Nat) : Int) := by first | simpa only [Bool.and_eq_true, decide_eq_true_eq, bne_iff_ne, ne_eq] using g5619 | (simp at g5619 ⊢; omega)
          refine rs 9 [none, none, none, none, some ⟨.iptr (fl xh.Objects) ((i31).toNat * 1), [], 2, []⟩, some ⟨.sl (ix xh.Objects i31).length (fl (ix xh.Objects i31)), [], 2, []⟩] _ (by kernel_rfl) (allP_cons (ob_ld xh.Objects i31 1 0 ((i31).toNat * 1) k5618 rfl (by decide) (by first | rfl | omega) (dflS Try.prog 23) (.sl (ix xh.Objects i31).length (fl (ix xh.Objects i31))) rfl 2 []) (allP_cons (ob_ix_l xh.Objects 1 2 i31 k5618) allP_nil)) ?_
          refine run_split 48 (decide (k77 < (((ix xh.Objects i31).length : Nat) : Int))) (.inl (by kernel_rfl)) (fun g5620 => ?_) (fun g5620 => ?_)
          · have k5621 : 0 ≤ i31 ∧ i31 < ((c1q246.length : Nat) : Int) := by have e := or_use g5622 (by first | ((try simp only [g5620]) <;> rfl) | ((try simp only [g5620]); rfl) | (exfalso; clear h; simp_all; done)); first | simpa only [Bool.and_eq_true, decide_eq_true_eq, bne_iff_ne, ne_eq] using e | (simp at e ⊢; omega)
            refine rs 5 [none, none, some ⟨.ptr 1 (0 + (i31).toNat * 1), [], 2, [1]⟩, some ⟨bS (ix c1q246 i31), [], 2, [1]⟩] _ (by kernel_rfl) (allP_cons (ob_ld c1q246 i31 1 0 (0 + (i31).toNat * 1) k5621 rfl (by decide) (by first | rfl | omega) (dflS Try.prog 4) (bS (ix c1q246 i31)) rfl 2 [1]) (allP_cons (ob_ix_o 1 c1q246.length 0 1 2 i31 k5621) allP_nil)) ?_
            refine rf [(1, .ptr 0 0), (3, .own 1 0 c1q246.length), (5, bS again225), (6, iS i31), (7, iS k77), (53, bS (ix c1q246 i31))] [(0, .row 25 (Enc.cells xh)), (1, .row 4 (fl c1q246))] 2 (by kernel_rfl) ?_
            exact hK5617 () _ _ _ trivial (leSt_m [(0, 0), (1, 1)] [] (by (try simp only [g5620]) <;> simp only [push_cast, leL_flD, renL_flD, seval]) (by (try simp only [g5620]) <;> simp only [push_cast, leL_flD, renL_flD, seval]) rfl rfl rfl)
          · refine rs 5 [] [] (by kernel_rfl) allP_nil ?_
            refine rf [(1, .ptr 0 0), (3, .own 1 0 c1q246.length), (5, bS again225), (6, iS i31), (7, iS k77), (53, bS false)] [(0, .row 25 (Enc.cells xh)), (1, .row 4 (fl c1q246))] 2 (by kernel_rfl) ?_
            exact hK5617 () _ _ _ trivial (leSt_m [(0, 0), (1, 1)] [] (by (try simp only [g5620]) <;> simp only [push_cast, leL_flD, renL_flD, seval]) (by (try simp only [g5620]) <;> simp only [push_cast, leL_flD, renL_flD, seval]) rfl rfl rfl)
        · dsimp only
          refine cond_sx h (by kernel_rfl) (fun g5667 h => ?_) (fun g5667 h => ?_)
          · refine wk_id ?_
            refine seq_np ?_
            refine block_cut (A := Bool × (List Bool)) (fun a => ([(1, .ptr 0 0), (3, .own 1 0 a.2.length), (5, bS a.1), (6, iS i31), (7, iS k77)], [(0, .row 25 (Enc.cells xh)), (1, .row 4 (fl a.2))], 2)) (fun a => (taskmillref_Reached_j2 xh i31 k77 a.1 a.2) = some o8) (fun K5646 hK5646 => ?_) ?_
            · refine chk_sx h (fun g5652 h => ?_)
              refine chk_sx h (fun g5654 h => ?_)
              refine seq_np ?_
              refine reg_f ?_
              have k5651 : 0 ≤ i31 ∧ i31 < ((xh.Objects.length : Nat) : Int) := by first | simpa only [Bool.and_eq_true, decide_eq_true_eq, bne_iff_ne, ne_eq] using g5652 | (simp at g5652 ⊢; omega)
              have k5653 : 0 ≤ k77 ∧ k77 < (((ix xh.Objects i31).length : Nat) : Int) := by first | simpa only [Bool.and_eq_true, decide_eq_true_eq, bne_iff_ne, ne_eq] using g5654 | (simp at g5654 ⊢; omega)
              refine rs 9 [none, none, none, some ⟨.iptr (fl xh.Objects) ((i31).toNat * 1), [], 2, []⟩, some ⟨.sl (ix xh.Objects i31).length (fl (ix xh.Objects i31)), [], 2, []⟩, none, some ⟨.iptr (fl (ix xh.Objects i31)) ((k77).toNat * 1), [], 2, []⟩, some ⟨iS (ix (ix xh.Objects i31) k77), [], 2, []⟩] _ (by kernel_rfl) (allP_cons (ob_ld (ix xh.Objects i31) k77 1 0 ((k77).toNat * 1) k5653 rfl (by decide) (by first | rfl | omega) (dflS Try.prog 3) (iS (ix (ix xh.Objects i31) k77)) rfl 2 []) (allP_cons (ob_ix_l (ix xh.Objects i31) 1 2 k77 k5653) (allP_cons (ob_ld xh.Objects i31 1 0 ((i31).toNat * 1) k5651 rfl (by decide) (by first | rfl | omega) (dflS Try.prog 23) (.sl (ix xh.Objects i31).length (fl (ix xh.Objects i31))) rfl 2 []) (allP_cons (ob_ix_l xh.Objects 1 2 i31 k5651) allP_nil)))) ?_
              refine rf [(1, .ptr 0 0), (3, .own 1 0 c1q246.length), (5, bS again225), (6, iS i31), (7, iS k77), (8, iS (ix (ix xh.Objects i31) k77))] [(0, .row 25 (Enc.cells xh)), (1, .row 4 (fl c1q246))] 2 (by kernel_rfl) ?_
              refine wk_id ?_
              refine chk_sx h (fun g5661 h => ?_)
              refine seq_cut (A := Unit) (fun _ => ([(1, .ptr 0 0), (3, .own 1 0 c1q246.length), (5, bS again225), (6, iS i31), (7, iS k77), (8, iS (ix (ix xh.Objects i31) k77)), (72, bS ((decide ((0 : Int) ≤ (ix (ix xh.Objects i31) k77))) && (!(ix c1q246 (ix (ix xh.Objects i31) k77)))))], [(0, .row 25 (Enc.cells xh)), (1, .row 4 (fl c1q246))], 2)) (fun _ => True) (fun K5658 hK5658 => ?_) (fun _ _ => ?_)
              · refine reg_f ?_
                refine rs 3 [] [] (by kernel_rfl) allP_nil ?_
                refine run_split 66 (decide ((0 : Int) ≤ (ix (ix xh.Objects i31) k77))) (.inl (by kernel_rfl)) (fun g5659 => ?_) (fun g5659 => ?_)
                · have k5660 : 0 ≤ (ix (ix xh.Objects i31) k77) ∧ (ix (ix xh.Objects i31) k77) < ((c1q246.length : Nat) : Int) := by have e := or_use g5661 (by first | ((try simp only [g5659]) <;> rfl) | ((try simp only [g5659]); rfl) | (exfalso; clear h; simp_all; done)); first | simpa only [Bool.and_eq_true, decide_eq_true_eq, bne_iff_ne, ne_eq] using e | (simp at e ⊢; omega)
                  refine rs 6 [none, none, some ⟨.ptr 1 (0 + ((ix (ix xh.Objects i31) k77)).toNat * 1), [], 2, [1]⟩, some ⟨bS (ix c1q246 (ix (ix xh.Objects i31) k77)), [], 2, [1]⟩] _ (by kernel_rfl) (allP_cons (ob_ld c1q246 (ix (ix xh.Objects i31) k77) 1 0 (0 + ((ix (ix xh.Objects i31) k77)).toNat * 1) k5660 rfl (by decide) (by first | rfl | omega) (dflS Try.prog 4) (bS (ix c1q246 (ix (ix xh.Objects i31) k77))) rfl 2 [1]) (allP_cons (ob_ix_o 1 c1q246.length 0 1 2 (ix (ix xh.Objects i31) k77) k5660) allP_nil)) ?_
                  refine rf [(1, .ptr 0 0), (3, .own 1 0 c1q246.length), (5, bS again225), (6, iS i31), (7, iS k77), (8, iS (ix (ix xh.Objects i31) k77)), (72, bS (!(ix c1q246 (ix (ix xh.Objects i31) k77))))] [(0, .row 25 (Enc.cells xh)), (1, .row 4 (fl c1q246))] 2 (by kernel_rfl) ?_
                  exact hK5658 () _ _ _ trivial (leSt_m [(0, 0), (1, 1)] [] (by (try simp only [g5659]) <;> simp only [push_cast, leL_flD, renL_flD, seval]) (by (try simp only [g5659]) <;> simp only [push_cast, leL_flD, renL_flD, seval]) rfl rfl rfl)
                · refine rs 6 [] [] (by kernel_rfl) allP_nil ?_
                  refine rf [(1, .ptr 0 0), (3, .own 1 0 c1q246.length), (5, bS again225), (6, iS i31), (7, iS k77), (8, iS (ix (ix xh.Objects i31) k77)), (72, bS false)] [(0, .row 25 (Enc.cells xh)), (1, .row 4 (fl c1q246))] 2 (by kernel_rfl) ?_
                  exact hK5658 () _ _ _ trivial (leSt_m [(0, 0), (1, 1)] [] (by (try simp only [g5659]) <;> simp only [push_cast, leL_flD, renL_flD, seval]) (by (try simp only [g5659]) <;> simp only [push_cast, leL_flD, renL_flD, seval]) rfl rfl rfl)
              · dsimp only
                refine cond_sx h (by kernel_rfl) (fun g5666 h => ?_) (fun g5666 h => ?_)
                · refine chk_sx h (fun g5665 h => ?_)
                  refine seq_np ?_
                  refine reg_f ?_
                  have k5664 : 0 ≤ (ix (ix xh.Objects i31) k77) ∧ (ix (ix xh.Objects i31) k77) < ((c1q246.length : Nat) : Int) := by first | simpa only [Bool.and_eq_true, decide_eq_true_eq, bne_iff_ne, ne_eq] using g5665 | (simp at g5665 ⊢; omega)
                  refine rs 4 [none, none, some ⟨.ptr 1 (0 + ((ix (ix xh.Objects i31) k77)).toNat * 1), [], 2, [1]⟩, some ⟨.any, [(1, .row 4 (fl (c1q246.set (ix (ix xh.Objects i31) k77).toNat true)))], 2, [1]⟩] _ (by kernel_rfl) (allP_cons (ob_st (P := Try.prog) c1q246 (ix (ix xh.Objects i31) k77) 1 0 (0 + ((ix (ix xh.Objects i31) k77)).toNat * 1) k5664 rfl [bS true] true (Nat.le_of_ble_eq_true rfl) (by first | rfl | omega) rfl 1 2 4 4 (by kernel_rfl) rfl) (allP_cons (ob_ix_o 1 c1q246.length 0 1 2 (ix (ix xh.Objects i31) k77) k5664) allP_nil)) ?_
                  refine run_eqF 3 (.own 1 0 c1q246.length) (.own 1 0 (c1q246.set (ix (ix xh.Objects i31) k77).toNat true).length) (congrArg (fun nq => (.own 1 0 nq : SV)) (show c1q246.length = (c1q246.set (ix (ix xh.Objects i31) k77).toNat true).length from (List.length_set ..).symm)) (by kernel_rfl) ?_
                  refine rf [(1, .ptr 0 0), (3, .own 1 0 (c1q246.set (ix (ix xh.Objects i31) k77).toNat true).length), (6, iS i31), (7, iS k77)] [(0, .row 25 (Enc.cells xh)), (1, .row 4 (fl (c1q246.set (ix (ix xh.Objects i31) k77).toNat true)))] 2 (by kernel_rfl) ?_
                  refine wk_id ?_
                  refine reg_f ?_
                  refine rs 1 [] [] (by kernel_rfl) allP_nil ?_
                  refine rf [(1, .ptr 0 0), (3, .own 1 0 (c1q246.set (ix (ix xh.Objects i31) k77).toNat true).length), (5, bS true), (6, iS i31), (7, iS k77)] [(0, .row 25 (Enc.cells xh)), (1, .row 4 (fl (c1q246.set (ix (ix xh.Objects i31) k77).toNat true)))] 2 (by kernel_rfl) ?_
                  exact hK5646 (true, (c1q246.set (ix (ix xh.Objects i31) k77).toNat true)) _ _ _ h (leSt_m [(0, 0), (1, 1)] [] (by simp only [push_cast, leL_flD, renL_flD, seval]) (by simp only [push_cast, leL_flD, renL_flD, seval]) rfl rfl rfl)
                · exact hK5646 (again225, c1q246) _ _ _ h (leSt_m [(0, 0), (1, 1)] [] (by simp only [push_cast, leL_flD, renL_flD, seval]) (by simp only [push_cast, leL_flD, renL_flD, seval]) rfl rfl rfl)
            · rintro ⟨again227, c1q248⟩ h
              try dsimp only at h ⊢
              unfold taskmillref_Reached_j2 at h
              refine wk_id ?_
              refine reg_f ?_
              refine rs 3 [] [] (by kernel_rfl) allP_nil ?_
              refine rf [(1, .ptr 0 0), (3, .own 1 0 c1q248.length), (5, bS again227), (6, iS i31), (7, iS (IntKind.i64.wrap (k77 + 1)))] [(0, .row 25 (Enc.cells xh)), (1, .row 4 (fl c1q248))] 2 (by kernel_rfl) ?_
              exact hn8 (again227, (IntKind.i64.wrap (k77 + 1)), c1q248) _ _ _ (Option.some.inj h).symm (leSt_m [(0, 0), (1, 1)] [] (by simp only [push_cast, leL_flD, renL_flD, seval]) (by simp only [push_cast, leL_flD, renL_flD, seval]) rfl rfl rfl)
          · change R8 (.exit 6) _ _ _
            refine ex_cast hx8 (id := 6) ?_
            obtain ⟨r0, h, e0⟩ := map_sx h
            have e1 := hr8 r0 e0.symm
            subst r0
            refine wk_id ?_
            refine wk_id ?_
            refine wk_id ?_
            refine reg_f ?_
            refine rs 3 [] [] (by kernel_rfl) allP_nil ?_
            refine rf [(1, .ptr 0 0), (3, .own 1 0 c1q246.length), (5, bS again225), (6, iS (IntKind.i64.wrap (i31 + 1)))] [(0, .row 25 (Enc.cells xh)), (1, .row 4 (fl c1q246))] 2 (by kernel_rfl) ?_
            exact hn7 (again225, (IntKind.i64.wrap (i31 + 1)), c1q246) _ _ _ (Option.some.inj h).symm (leSt_m [(0, 0), (1, 1)] [] (by simp only [push_cast, leL_flD, renL_flD, seval]) (by simp only [push_cast, leL_flD, renL_flD, seval]) rfl rfl rfl)
      · change R7 (.exit 4) _ _ _
        refine ex_cast hx7 (id := 4) ?_
        obtain ⟨r0, h, e0⟩ := map_sx h
        have e1 := hr7 r0 e0.symm
        subst r0
        refine wk_id ?_
        refine wk_id ?_
        exact hn6 (again206, c1q227) _ _ _ (Option.some.inj h).symm (leSt_m [(0, 0), (1, 1)] [] (by simp only [push_cast, leL_flD, renL_flD, seval]) (by simp only [push_cast, leL_flD, renL_flD, seval]) rfl rfl rfl)
    · change R6 (.exit 2) _ _ _
      refine ex_cast hx6 (id := 2) ?_
      obtain ⟨r0, h, e0⟩ := map_sx h
      have e1 := hr6 r0 e0.symm
      subst r0
      refine wk_id ?_
      refine wk_id ?_
      refine seq_np ?_
      refine reg_f ?_
      refine rs 2 [] [] (by kernel_rfl) allP_nil ?_
      refine rf [(2, .own 1 0 c1q215.length)] [(0, .row 25 (Enc.cells xh)), (1, .row 4 (fl c1q215))] 2 (by kernel_rfl) ?_
      refine wk_id ?_
      obtain rfl := Option.some.inj h
      refine ret_at (.own 1 0 c1q215.length) (by kernel_rfl) ?_
      exact ret_e [(0, 1)] [] (by simp only [push_cast, leL_flD, renL_flD, seval]) (by simp only [push_cast, leL_flD, renL_flD, seval]) rfl rfl rfl

set_option maxRecDepth 100000 in
set_option maxHeartbeats 200000000 in
theorem taskmillref_Not_spec (xin : (List Bool)) (r : (List Int)) (h : taskmillref_Not xin = some r) : SpecW Try.prog 17 [.sl xin.length (fl xin)] [] 0 (fun x h n => x = .own 0 0 r.length ∧ h = [(0, .row 3 (fl r))] ∧ n = 1) := by
  unfold taskmillref_Not at h
  refine spec_of (draw_ok _) Try.func17 rfl (by decide) rfl (by kernel_rfl) ?_
  refine seq_np ?_
  refine reg_f ?_
  refine rs 1 [] [] (by kernel_rfl) allP_nil ?_
  refine rf [(0, .sl xin.length (fl xin))] [] 0 (by kernel_rfl) ?_
  refine wk_id ?_
  refine seq_np ?_
  refine reg_f ?_
  refine rs 1 [] [] (by kernel_rfl) allP_nil ?_
  refine rf [(0, .sl xin.length (fl xin)), (3, .v (.slice none 0 0))] [] 0 (by kernel_rfl) ?_
  refine wk_id ?_
  refine seq_np ?_
  refine seq_np ?_
  refine reg_f ?_
  refine rs 1 [] [] (by kernel_rfl) allP_nil ?_
  refine rf [(0, .sl xin.length (fl xin)), (3, .v (.slice none 0 0)), (4, iS 0)] [] 0 (by kernel_rfl) ?_
  refine wk_id ?_
  refine block_np ?_
  refine loop_sx (S := Int × (List Int)) (fun a => ([(0, .sl xin.length (fl xin)), (3, .own 0 0 a.2.length), (4, iS a.1)], [(0, .row 3 (fl a.2))], 1)) h (leSt_m [] [] (by simp only [push_cast, leL_flD, renL_flD, seval]) (by simp only [push_cast, leL_flD, renL_flD, seval]) rfl rfl rfl) ?_
  rintro ⟨i7, c0q19⟩ o2 R2 h hr2 hn2 hx2 ht2
  try dsimp only at h hn2 ⊢
  unfold taskmillref_Not_l1 at h
  try dsimp only at h
  refine seq_np ?_
  refine seq_np ?_
  refine reg_f ?_
  refine rs 4 [] [] (by kernel_rfl) allP_nil ?_
  refine rf [(0, .sl xin.length (fl xin)), (3, .own 0 0 c0q19.length), (4, iS i7), (8, bS (decide (i7 < ((xin.length : Nat) : Int))))] [(0, .row 3 (fl c0q19))] 1 (by kernel_rfl) ?_
  refine wk_id ?_
  refine cond_sx h (by kernel_rfl) (fun g5788 h => ?_) (fun g5788 h => ?_)
  · refine wk_id ?_
    refine seq_np ?_
    refine block_cut (A := (List Int)) (fun a => ([(0, .sl xin.length (fl xin)), (3, .own 0 0 a.length), (4, iS i7)], [(0, .row 3 (fl a))], 1)) (fun a => (taskmillref_Not_j1 xin i7 a) = some o2) (fun K5778 hK5778 => ?_) ?_
    · refine chk_sx h (fun g5782 h => ?_)
      refine seq_np ?_
      refine reg_f ?_
      have k5781 : 0 ≤ i7 ∧ i7 < ((xin.length : Nat) : Int) := by first | simpa only [Bool.and_eq_true, decide_eq_true_eq, bne_iff_ne, ne_eq] using g5782 | (simp at g5782 ⊢; omega)
      refine rs 5 [none, none, some ⟨.iptr (fl xin) ((i7).toNat * 1), [], 1, []⟩, some ⟨bS (ix xin i7), [], 1, []⟩] _ (by kernel_rfl) (allP_cons (ob_ld xin i7 1 0 ((i7).toNat * 1) k5781 rfl (by decide) (by first | rfl | omega) (dflS Try.prog 4) (bS (ix xin i7)) rfl 1 []) (allP_cons (ob_ix_l xin 1 1 i7 k5781) allP_nil)) ?_
      refine rf [(0, .sl xin.length (fl xin)), (3, .own 0 0 c0q19.length), (4, iS i7), (15, bS (!(ix xin i7)))] [(0, .row 3 (fl c0q19))] 1 (by kernel_rfl) ?_
      refine wk_id ?_
      refine cond_sx h (by kernel_rfl) (fun g5787 h => ?_) (fun g5787 h => ?_)
      · refine chk_sx h (fun g5786 h => ?_)
        refine reg_f ?_
        have k5785 : (c0q19 ++ ([i7] : List Int)).length * 8 ≤ 140737488355328 := by first | simpa only [Bool.and_eq_true, decide_eq_true_eq, bne_iff_ne, ne_eq] using g5786 | (simp at g5786 ⊢; omega)
        refine rs 5 [none, none, none, some ⟨.own 2 0 (c0q19 ++ ([i7] : List Int)).length, [(2, .row 3 (fl (c0q19 ++ ([i7] : List Int)))), (0, .dead)], 3, [0, 1]⟩] _ (by kernel_rfl) (allP_cons (ob_app (P := Try.prog) c0q19 ([i7] : List Int) 1 8 rfl (appCells (fl ([i7] : List Int)) 0 (([i7] : List Int).length * 1)) ([i7] : List Int).length (app_own ([i7] : List Int) 1 rfl) rfl (0 + ([i7] : List Int).length * 1 ≤ (fl ([i7] : List Int)).length) (app_own_le ([i7] : List Int) 1 rfl) 3 (by kernel_rfl) (by decide) k5785 0 2 [1]) allP_nil) ?_
        refine rf [(0, .sl xin.length (fl xin)), (3, .own 2 0 (c0q19 ++ ([i7] : List Int)).length), (4, iS i7)] [(0, .dead), (1, .row 3 (fl ([i7] : List Int))), (2, .row 3 (fl (c0q19 ++ ([i7] : List Int))))] 3 (by kernel_rfl) ?_
        exact hK5778 ((c0q19 ++ ([i7] : List Int))) _ _ _ h (leSt_m [(0, 2)] [] (by simp only [push_cast, leL_flD, renL_flD, seval]) (by simp only [push_cast, leL_flD, renL_flD, seval]) rfl rfl rfl)
      · exact hK5778 (c0q19) _ _ _ h (leSt_m [(0, 0)] [] (by simp only [push_cast, leL_flD, renL_flD, seval]) (by simp only [push_cast, leL_flD, renL_flD, seval]) rfl rfl rfl)
    · rintro c0q21 h
      try dsimp only at h ⊢
      unfold taskmillref_Not_j1 at h
      refine wk_id ?_
      refine reg_f ?_
      refine rs 3 [] [] (by kernel_rfl) allP_nil ?_
      refine rf [(0, .sl xin.length (fl xin)), (3, .own 0 0 c0q21.length), (4, iS (IntKind.i64.wrap (i7 + 1)))] [(0, .row 3 (fl c0q21))] 1 (by kernel_rfl) ?_
      exact hn2 ((IntKind.i64.wrap (i7 + 1)), c0q21) _ _ _ (Option.some.inj h).symm (leSt_m [(0, 0)] [] (by simp only [push_cast, leL_flD, renL_flD, seval]) (by simp only [push_cast, leL_flD, renL_flD, seval]) rfl rfl rfl)
  · change R2 (.exit 0) _ _ _
    refine ex_cast hx2 (id := 0) ?_
    obtain ⟨r0, h, e0⟩ := map_sx h
    have e1 := hr2 r0 e0.symm
    subst r0
    refine wk_id ?_
    refine wk_id ?_
    refine seq_np ?_
    refine reg_f ?_
    refine rs 2 [] [] (by kernel_rfl) allP_nil ?_
    refine rf [(2, .own 0 0 c0q19.length)] [(0, .row 3 (fl c0q19))] 1 (by kernel_rfl) ?_
    refine wk_id ?_
    obtain rfl := Option.some.inj h
    refine ret_at (.own 0 0 c0q19.length) (by kernel_rfl) ?_
    exact ret_e [(0, 0)] [] (by simp only [push_cast, leL_flD, renL_flD, seval]) (by simp only [push_cast, leL_flD, renL_flD, seval]) rfl rfl rfl

set_option maxRecDepth 100000 in
set_option maxHeartbeats 200000000 in
theorem taskmilllaw_SweepStopped_spec (xh : GHeap) (barrier : Int) (steps : Int) (r : Bool) (h : taskmilllaw_SweepStopped xh barrier steps = some r) : SpecW Try.prog 7 [.agg (Enc.cells xh), iS barrier, iS steps] [] 0 (fun x h n => x = bS r ∧ h = [] ∧ n = 0) := by
  unfold taskmilllaw_SweepStopped at h
  refine spec_of (draw_ok _) Try.func7 rfl (by decide) rfl (by kernel_rfl) ?_
  refine seq_np ?_
  refine reg_f ?_
  refine rs 2 [] [] (by kernel_rfl) allP_nil ?_
  refine rf [(1, iS barrier), (2, iS steps), (3, .ptr 0 0)] [(0, .row 25 (Enc.cells xh))] 1 (by kernel_rfl) ?_
  refine wk_id ?_
  refine seq_np ?_
  refine seq_np ?_
  refine reg_f ?_
  obtain ⟨r7693, hr7693, h⟩ := bind_sx h
  refine run_call 8 [] (some 12) (by kernel_rfl) ?_
  refine call_0 (taskmilllaw_sweepBegun_spec r7693 hr7693) (by simp only [push_cast, leL_flD, renL_flD, seval]) (by simp only [push_cast, leL_flD, renL_flD, seval]) ?_
  refine back_f ?_
  refine rs 1 [] [] (by kernel_rfl) allP_nil ?_
  refine rf [(1, iS barrier), (2, iS steps), (3, .ptr 0 0), (13, bS (!r7693))] [(0, .row 25 (Enc.cells xh))] 1 (by kernel_rfl) ?_
  refine wk_id ?_
  refine cond_sx h (by kernel_rfl) (fun g7774 h => ?_) (fun g7774 h => ?_)
  · refine seq_np ?_
    refine reg_f ?_
    refine rs 1 [] [] (by kernel_rfl) allP_nil ?_
    refine rf [(6, bS false)] [(0, .row 25 (Enc.cells xh))] 1 (by kernel_rfl) ?_
    refine wk_id ?_
    obtain rfl := Option.some.inj h
    refine ret_at (bS false) (by kernel_rfl) ?_
    exact ret_e [] [] (by simp only [push_cast, leL_flD, renL_flD, seval]) (by simp only [push_cast, leL_flD, renL_flD, seval]) rfl rfl rfl
  · refine wk_id ?_
    refine seq_np ?_
    refine seq_cut (A := Bool) (fun a => ([(1, iS barrier), (2, iS steps), (3, .ptr 0 0), (37, bS a)], [(0, .row 25 (Enc.cells xh))], 1)) (fun a => (taskmilllaw_SweepStopped_j2 xh barrier steps a) = some r) (fun K7712 hK7712 => ?_) ?_
    · refine reg_f ?_
      refine rs 1 [] [] (by kernel_rfl) allP_nil ?_
      obtain ⟨r7713, hr7713, h⟩ := bind_sx h
      refine run_call 9 [.agg (Enc.cells xh)] (some 15) (by kernel_rfl) ?_
      refine call_0 (taskmilllaw_vastHeap_spec xh r7713 hr7713) (by simp only [push_cast, leL_flD, renL_flD, seval]) (by simp only [push_cast, leL_flD, renL_flD, seval]) ?_
      refine back_f ?_
      refine rs 1 [] [] (by kernel_rfl) allP_nil ?_
      refine run_br h 16 (.inl (by kernel_rfl)) (fun g7714 h => ?_) (fun g7714 h => ?_)
      · refine rs 21 [] [] (by kernel_rfl) allP_nil ?_
        refine rf [(1, iS barrier), (2, iS steps), (3, .ptr 0 0), (37, bS true)] [(0, .row 25 (Enc.cells xh))] 1 (by kernel_rfl) ?_
        exact hK7712 (true) _ _ _ h (leSt_m [(0, 0)] [] (by (try simp only [g7714]) <;> simp only [push_cast, leL_flD, renL_flD, seval]) (by (try simp only [g7714]) <;> simp only [push_cast, leL_flD, renL_flD, seval]) rfl rfl rfl)
      · refine rs 1 [] [] (by kernel_rfl) allP_nil ?_
        obtain ⟨r7715, hr7715, h⟩ := bind_sx h
        refine run_call 13 [.agg (Enc.cells xh)] (some 18) (by kernel_rfl) ?_
        refine call_0 (taskmillref_HeapsFault_spec xh r7715 hr7715) (by simp only [push_cast, leL_flD, renL_flD, seval]) (by simp only [push_cast, leL_flD, renL_flD, seval]) ?_
        refine back_f ?_
        refine rn 5 [(1, iS barrier), (2, iS steps), (3, .ptr 0 0), (16, bS false), (18, .agg (Enc.cells r7715))] [(0, .row 25 (Enc.cells xh))] 1 (by kernel_rfl) ?_
        refine rs 4 [] [] (by kernel_rfl) allP_nil ?_
        refine run_br h 22 (.inl (by kernel_rfl)) (fun g7716 h => ?_) (fun g7716 h => ?_)
        · refine rs 15 [] [] (by kernel_rfl) allP_nil ?_
          refine rf [(1, iS barrier), (2, iS steps), (3, .ptr 0 0), (37, bS true)] [(0, .row 25 (Enc.cells xh))] 1 (by kernel_rfl) ?_
          exact hK7712 (true) _ _ _ h (leSt_m [(0, 0)] [] (by first | ((try simp only [g7714, g7716]) <;> simp only [push_cast, leL_flD, renL_flD, seval]; done) | ((try simp only [g7714]); (try simp only [g7716]); simp only [push_cast, leL_flD, renL_flD, seval]; done) | (exfalso; clear h; simp_all; done)) (by first | ((try simp only [g7714, g7716]) <;> simp only [push_cast, leL_flD, renL_flD, seval]; done) | ((try simp only [g7714]); (try simp only [g7716]); simp only [push_cast, leL_flD, renL_flD, seval]; done) | (exfalso; clear h; simp_all; done)) rfl rfl rfl)
        · refine rs 4 [] [] (by kernel_rfl) allP_nil ?_
          refine run_br h 26 (.inl (by kernel_rfl)) (fun g7717 h => ?_) (fun g7717 h => ?_)
          · refine rs 11 [] [] (by kernel_rfl) allP_nil ?_
            refine rf [(1, iS barrier), (2, iS steps), (3, .ptr 0 0), (37, bS true)] [(0, .row 25 (Enc.cells xh))] 1 (by kernel_rfl) ?_
            exact hK7712 (true) _ _ _ h (leSt_m [(0, 0)] [] (by first | ((try simp only [g7714, g7716, g7717]) <;> simp only [push_cast, leL_flD, renL_flD, seval]; done) | ((try simp only [g7714]); (try simp only [g7716]); (try simp only [g7717]); simp only [push_cast, leL_flD, renL_flD, seval]; done) | (exfalso; clear h; simp_all; done)) (by first | ((try simp only [g7714, g7716, g7717]) <;> simp only [push_cast, leL_flD, renL_flD, seval]; done) | ((try simp only [g7714]); (try simp only [g7716]); (try simp only [g7717]); simp only [push_cast, leL_flD, renL_flD, seval]; done) | (exfalso; clear h; simp_all; done)) rfl rfl rfl)
          · refine rs 4 [] [] (by kernel_rfl) allP_nil ?_
            refine run_br h 30 (.inl (by kernel_rfl)) (fun g7718 h => ?_) (fun g7718 h => ?_)
            · refine rn 17 [(1, iS barrier), (2, iS steps), (3, .ptr 0 0), (30, bS true)] [(0, .row 25 (Enc.cells xh))] 1 (by kernel_rfl) ?_
              refine rs 7 [] [] (by kernel_rfl) allP_nil ?_
              refine rf [(1, iS barrier), (2, iS steps), (3, .ptr 0 0), (37, bS true)] [(0, .row 25 (Enc.cells xh))] 1 (by kernel_rfl) ?_
              exact hK7712 (true) _ _ _ h (leSt_m [(0, 0)] [] (by first | ((try simp only [g7714, g7716, g7717, g7718]) <;> simp only [push_cast, leL_flD, renL_flD, seval]; done) | ((try simp only [g7714]); (try simp only [g7716]); (try simp only [g7717]); (try simp only [g7718]); simp only [push_cast, leL_flD, renL_flD, seval]; done) | (exfalso; clear h; simp_all; done)) (by first | ((try simp only [g7714, g7716, g7717, g7718]) <;> simp only [push_cast, leL_flD, renL_flD, seval]; done) | ((try simp only [g7714]); (try simp only [g7716]); (try simp only [g7717]); (try simp only [g7718]); simp only [push_cast, leL_flD, renL_flD, seval]; done) | (exfalso; clear h; simp_all; done)) rfl rfl rfl)
            · refine rn 17 [(1, iS barrier), (2, iS steps), (3, .ptr 0 0), (30, bS false)] [(0, .row 25 (Enc.cells xh))] 1 (by kernel_rfl) ?_
              refine rs 4 [] [] (by kernel_rfl) allP_nil ?_
              refine run_br h 34 (.inl (by kernel_rfl)) (fun g7719 h => ?_) (fun g7719 h => ?_)
              · refine rs 3 [] [] (by kernel_rfl) allP_nil ?_
                refine rf [(1, iS barrier), (2, iS steps), (3, .ptr 0 0), (37, bS true)] [(0, .row 25 (Enc.cells xh))] 1 (by kernel_rfl) ?_
                exact hK7712 (true) _ _ _ h (leSt_m [(0, 0)] [] (by first | ((try simp only [g7714, g7716, g7717, g7718, g7719]) <;> simp only [push_cast, leL_flD, renL_flD, seval]; done) | ((try simp only [g7714]); (try simp only [g7716]); (try simp only [g7717]); (try simp only [g7718]); (try simp only [g7719]); simp only [push_cast, leL_flD, renL_flD, seval]; done) | (exfalso; clear h; simp_all; done)) (by first | ((try simp only [g7714, g7716, g7717, g7718, g7719]) <;> simp only [push_cast, leL_flD, renL_flD, seval]; done) | ((try simp only [g7714]); (try simp only [g7716]); (try simp only [g7717]); (try simp only [g7718]); (try simp only [g7719]); simp only [push_cast, leL_flD, renL_flD, seval]; done) | (exfalso; clear h; simp_all; done)) rfl rfl rfl)
              · refine rs 3 [] [] (by kernel_rfl) allP_nil ?_
                refine rf [(1, iS barrier), (2, iS steps), (3, .ptr 0 0), (37, bS (decide ((1000 : Int) < steps)))] [(0, .row 25 (Enc.cells xh))] 1 (by kernel_rfl) ?_
                exact hK7712 ((decide ((1000 : Int) < steps))) _ _ _ h (leSt_m [(0, 0)] [] (by first | ((try simp only [g7714, g7716, g7717, g7718, g7719]) <;> simp only [push_cast, leL_flD, renL_flD, seval]; done) | ((try simp only [g7714]); (try simp only [g7716]); (try simp only [g7717]); (try simp only [g7718]); (try simp only [g7719]); simp only [push_cast, leL_flD, renL_flD, seval]; done) | (exfalso; clear h; simp_all; done)) (by first | ((try simp only [g7714, g7716, g7717, g7718, g7719]) <;> simp only [push_cast, leL_flD, renL_flD, seval]; done) | ((try simp only [g7714]); (try simp only [g7716]); (try simp only [g7717]); (try simp only [g7718]); (try simp only [g7719]); simp only [push_cast, leL_flD, renL_flD, seval]; done) | (exfalso; clear h; simp_all; done)) rfl rfl rfl)
    · rintro t37q2 h
      try dsimp only at h ⊢
      unfold taskmilllaw_SweepStopped_j2 at h
      refine cond_sx h (by kernel_rfl) (fun g7773 h => ?_) (fun g7773 h => ?_)
      · refine seq_np ?_
        refine reg_f ?_
        refine rs 1 [] [] (by kernel_rfl) allP_nil ?_
        refine rf [(6, bS true)] [(0, .row 25 (Enc.cells xh))] 1 (by kernel_rfl) ?_
        refine wk_id ?_
        obtain rfl := Option.some.inj h
        refine ret_at (bS true) (by kernel_rfl) ?_
        exact ret_e [] [] (by simp only [push_cast, leL_flD, renL_flD, seval]) (by simp only [push_cast, leL_flD, renL_flD, seval]) rfl rfl rfl
      · refine wk_id ?_
        refine seq_np ?_
        refine reg_f ?_
        refine rs 1 [] [] (by kernel_rfl) allP_nil ?_
        refine rf [(1, iS barrier), (2, iS steps), (3, .ptr 0 0), (7, .v (.slice none 0 0))] [(0, .row 25 (Enc.cells xh))] 1 (by kernel_rfl) ?_
        refine wk_id ?_
        refine seq_np ?_
        refine seq_np ?_
        refine reg_f ?_
        refine rs 1 [] [] (by kernel_rfl) allP_nil ?_
        refine rf [(1, iS barrier), (2, iS steps), (3, .ptr 0 0), (7, .v (.slice none 0 0)), (8, iS 0)] [(0, .row 25 (Enc.cells xh))] 1 (by kernel_rfl) ?_
        refine wk_id ?_
        refine block_np ?_
        refine loop_sx (S := Int × (List GAct)) (fun a => ([(1, iS barrier), (2, iS steps), (3, .ptr 0 0), (7, .own 1 0 a.2.length), (8, iS a.1)], [(0, .row 25 (Enc.cells xh)), (1, .row 47 (fl a.2))], 2)) h (leSt_m [(0, 0)] [] (by simp only [push_cast, leL_flD, renL_flD, seval]) (by simp only [push_cast, leL_flD, renL_flD, seval]) rfl rfl rfl) ?_
        rintro ⟨i7, c1q7⟩ o2 R2 h hr2 hn2 hx2 ht2
        try dsimp only at h hn2 ⊢
        unfold taskmilllaw_SweepStopped_l1 at h
        try dsimp only at h
        refine seq_np ?_
        refine seq_np ?_
        refine reg_f ?_
        refine rs 3 [] [] (by kernel_rfl) allP_nil ?_
        refine rf [(1, iS barrier), (2, iS steps), (3, .ptr 0 0), (7, .own 1 0 c1q7.length), (8, iS i7), (40, bS (decide (i7 < steps)))] [(0, .row 25 (Enc.cells xh)), (1, .row 47 (fl c1q7))] 2 (by kernel_rfl) ?_
        refine wk_id ?_
        refine cond_sx h (by kernel_rfl) (fun g7772 h => ?_) (fun g7772 h => ?_)
        · refine wk_id ?_
          refine seq_np ?_
          refine block_np ?_
          refine chk_sx h (fun g7755 h => ?_)
          refine reg_f ?_
          have k7754 : (c1q7 ++ ([(GAct.mk 5 0 0 0)] : List GAct)).length * 32 ≤ 140737488355328 := by first | simpa only [Bool.and_eq_true, decide_eq_true_eq, bne_iff_ne, ne_eq] using g7755 | (simp at g7755 ⊢; omega)
          refine rs 5 [none, none, none, some ⟨.own 3 0 (c1q7 ++ ([(GAct.mk 5 0 0 0)] : List GAct)).length, [(3, .row 47 (fl (c1q7 ++ ([(GAct.mk 5 0 0 0)] : List GAct)))), (1, .dead)], 4, [1, 2]⟩] _ (by kernel_rfl) (allP_cons (ob_app (P := Try.prog) c1q7 ([(GAct.mk 5 0 0 0)] : List GAct) 4 32 rfl (appCells (fl ([(GAct.mk 5 0 0 0)] : List GAct)) 0 (([(GAct.mk 5 0 0 0)] : List GAct).length * 4)) ([(GAct.mk 5 0 0 0)] : List GAct).length (app_own ([(GAct.mk 5 0 0 0)] : List GAct) 4 rfl) rfl (0 + ([(GAct.mk 5 0 0 0)] : List GAct).length * 4 ≤ (fl ([(GAct.mk 5 0 0 0)] : List GAct)).length) (app_own_le ([(GAct.mk 5 0 0 0)] : List GAct) 4 rfl) 47 (by kernel_rfl) (by decide) k7754 1 3 [2]) allP_nil) ?_
          refine rf [(1, iS barrier), (2, iS steps), (3, .ptr 0 0), (7, .own 3 0 (c1q7 ++ ([(GAct.mk 5 0 0 0)] : List GAct)).length), (8, iS i7)] [(0, .row 25 (Enc.cells xh)), (1, .dead), (2, .row 47 (fl ([(GAct.mk 5 0 0 0)] : List GAct))), (3, .row 47 (fl (c1q7 ++ ([(GAct.mk 5 0 0 0)] : List GAct))))] 4 (by kernel_rfl) ?_
          refine wk_id ?_
          refine wk_id ?_
          refine reg_f ?_
          refine rs 3 [] [] (by kernel_rfl) allP_nil ?_
          refine rf [(1, iS barrier), (2, iS steps), (3, .ptr 0 0), (7, .own 3 0 (c1q7 ++ ([(GAct.mk 5 0 0 0)] : List GAct)).length), (8, iS (IntKind.i64.wrap (i7 + 1)))] [(0, .row 25 (Enc.cells xh)), (1, .dead), (2, .row 47 (fl ([(GAct.mk 5 0 0 0)] : List GAct))), (3, .row 47 (fl (c1q7 ++ ([(GAct.mk 5 0 0 0)] : List GAct))))] 4 (by kernel_rfl) ?_
          exact hn2 ((IntKind.i64.wrap (i7 + 1)), (c1q7 ++ ([(GAct.mk 5 0 0 0)] : List GAct))) _ _ _ (Option.some.inj h).symm (leSt_m [(0, 0), (1, 3)] [] (by simp only [push_cast, leL_flD, renL_flD, seval]) (by simp only [push_cast, leL_flD, renL_flD, seval]) rfl rfl rfl)
        · change R2 (.exit 0) _ _ _
          refine ex_cast hx2 (id := 0) ?_
          obtain ⟨r0, h, e0⟩ := map_sx h
          have e1 := hr2 r0 e0.symm
          subst r0
          refine wk_id ?_
          refine wk_id ?_
          refine seq_np ?_
          refine reg_f ?_
          refine rs 3 [] [] (by kernel_rfl) allP_nil ?_
          obtain ⟨r7757, hr7757, h⟩ := bind_sx h
          refine call_x (SpecW.give (sweep_Cycle_spec xh barrier c1q7 r7757 hr7757) [(0, .row 47 (fl c1q7))] [.agg (Enc.cells xh), iS barrier, .own 0 0 c1q7.length] [] (.tup [.agg [.own 1 0 r7757.2.1.length, .own 2 0 r7757.2.2.1.length], .own 3 0 r7757.2.2.2.length, .agg (Enc.cells r7757.1)]) [(1, .row 23 (flD dLListInt [4] r7757.2.1)), (2, .row 3 (fl r7757.2.2.1)), (3, .row 3 (fl r7757.2.2.2)), ((.s 4 0), .fam (famD dLListInt 0 r7757.2.1))] (by first | simp only [push_cast, leL_flD, renL_flD, seval] | simp only [push_cast, List.mem_singleton, true_and, and_true, leL_flD, renL_flD, seval]) (by simp only [push_cast, leL_flD, renL_flD, seval]) (by simp only [push_cast, leL_flD, renL_flD, seval]) (by simp only [push_cast, leL_flD, renL_flD, seval]) rfl (by first | (simp only [push_cast, leL_flD, renL_flD, seval]; done) | (simp only [push_cast, leL_flD, renL_flD, seval]; kernel_rfl) | kernel_rfl) (by first | (simp only [push_cast, leL_flD, renL_flD, seval]; done) | (simp only [push_cast, leL_flD, renL_flD, seval]; kernel_rfl) | kernel_rfl) rfl) (args := [.agg (Enc.cells xh), iS barrier, .own 1 0 c1q7.length]) (dst := (some 51)) (by kernel_rfl) [(0, .row 25 (Enc.cells xh)), (1, .row 47 (fl c1q7))] 2 (by kernel_rfl) [(0, 1)] [] (.tup [.agg [.own 3 0 r7757.2.1.length, .own 4 0 r7757.2.2.1.length], .own 5 0 r7757.2.2.2.length, .agg (Enc.cells r7757.1)]) [(3, .row 23 (flD dLListInt [6] r7757.2.1)), (4, .row 3 (fl r7757.2.2.1)), (5, .row 3 (fl r7757.2.2.2)), ((.s 6 0), .fam (famD dLListInt 0 r7757.2.1)), (1, .dead)] (by simp only [push_cast, leL_flD, renL_flD, seval]) (by simp only [push_cast, leL_flD, renL_flD, seval]) (by kernel_rfl) (.inl rfl) (by first | (simp only [push_cast, leL_flD, renL_flD, seval]; done) | (simp only [push_cast, leL_flD, renL_flD, seval]; kernel_rfl) | kernel_rfl) (by first | (simp only [push_cast, leL_flD, renL_flD, seval]; done) | (simp only [push_cast, leL_flD, renL_flD, seval]; kernel_rfl) | kernel_rfl) ?_
          refine rs 9 [] [] (by kernel_rfl) allP_nil ?_
          refine rf [(3, .ptr 0 0), (9, .ptr 7 0), (10, .own 5 0 r7757.2.2.2.length), (11, .ptr 8 0)] [(0, .row 25 (Enc.cells xh)), (1, .dead), (3, .row 23 (flD dLListInt [6] r7757.2.1)), (4, .row 3 (fl r7757.2.2.1)), (5, .row 3 (fl r7757.2.2.2)), ((.s 6 0), .fam (famD dLListInt 0 r7757.2.1)), (7, .row 25 [.own 3 0 r7757.2.1.length, .own 4 0 r7757.2.2.1.length]), (8, .row 30 (Enc.cells r7757.1))] 9 (by kernel_rfl) ?_
          refine wk_id ?_
          refine seq_cut (A := Bool) (fun a => ([(6, bS a)], [], 0)) (fun a => (taskmilllaw_SweepStopped_j1 a) = some r) (fun K7765 hK7765 => ?_) ?_
          · refine reg_f ?_
            refine rs 4 [] [] (by kernel_rfl) allP_nil ?_
            refine run_br h 58 (.inl (by kernel_rfl)) (fun g7766 h => ?_) (fun g7766 h => ?_)
            · refine rs 2 [] [] (by kernel_rfl) allP_nil ?_
              obtain ⟨r7767, hr7767, h⟩ := bind_sx h
              refine call_x (taskmillref_SameHeap_spec (GHeap.mk r7757.2.1 r7757.2.2.1) xh r7767 hr7767) (args := [.agg [.own 3 0 r7757.2.1.length, .own 4 0 r7757.2.2.1.length], .agg (Enc.cells xh)]) (dst := (some 61)) (by kernel_rfl) [(0, .row 25 (Enc.cells xh)), (1, .dead), (3, .row 23 (flD dLListInt [6] r7757.2.1)), (4, .row 3 (fl r7757.2.2.1)), (5, .row 3 (fl r7757.2.2.2)), ((.s 6 0), .fam (famD dLListInt 0 r7757.2.1)), (7, .row 25 [.own 3 0 r7757.2.1.length, .own 4 0 r7757.2.2.1.length]), (8, .row 30 (Enc.cells r7757.1))] 9 (by kernel_rfl) [] [3, (.s 6 0), 4] (bS r7767) [] (by simp only [↓leS_frzD dLListInt [6] r7757.2.1, leS_frz, leL_flD, renL_flD, push_cast, seval]) (by simp only [↓leS_frzD dLListInt [6] r7757.2.1, leS_frz, leL_flD, renL_flD, push_cast, seval]) (by kernel_rfl) (.inr ⟨by simp only [push_cast, leL_flD, renL_flD, seval], by simp only [push_cast, leL_flD, renL_flD, seval]⟩) (by simp only [push_cast, leL_flD, renL_flD, seval]) (by simp only [push_cast, leL_flD, renL_flD, seval]) ?_
              refine rs 2 [] [] (by kernel_rfl) allP_nil ?_
              refine run_br h 63 (.inl (by kernel_rfl)) (fun g7768 h => ?_) (fun g7768 h => ?_)
              · refine rn 9 [(3, .ptr 0 0), (10, .own 5 0 r7757.2.2.2.length), (63, bS true)] [(0, .row 25 (Enc.cells xh)), (1, .dead), (3, .row 23 (flD dLListInt [6] r7757.2.1)), (4, .row 3 (fl r7757.2.2.1)), (5, .row 3 (fl r7757.2.2.2)), ((.s 6 0), .fam (famD dLListInt 0 r7757.2.1)), (7, .row 25 [.own 3 0 r7757.2.1.length, .own 4 0 r7757.2.2.1.length]), (8, .row 30 (Enc.cells r7757.1))] 9 (by kernel_rfl) ?_
                refine rs 2 [] [] (by kernel_rfl) allP_nil ?_
                obtain ⟨r7769, hr7769, h⟩ := bind_sx h
                refine call_x (taskmillref_Reached_spec xh r7769 hr7769) (args := [.agg (Enc.cells xh)]) (dst := (some 66)) (by kernel_rfl) [(0, .row 25 (Enc.cells xh)), (1, .dead), (3, .row 23 (flD dLListInt [6] r7757.2.1)), (4, .row 3 (fl r7757.2.2.1)), (5, .row 3 (fl r7757.2.2.2)), ((.s 6 0), .fam (famD dLListInt 0 r7757.2.1)), (7, .row 25 [.own 3 0 r7757.2.1.length, .own 4 0 r7757.2.2.1.length]), (8, .row 30 (Enc.cells r7757.1))] 9 (by kernel_rfl) [] [] (.own 9 0 r7769.length) [(9, .row 4 (fl r7769))] (by simp only [push_cast, leL_flD, renL_flD, seval]) (by simp only [push_cast, leL_flD, renL_flD, seval]) (by kernel_rfl) (.inl rfl) (by simp only [push_cast, leL_flD, renL_flD, seval]) (by simp only [push_cast, leL_flD, renL_flD, seval]) ?_
                obtain ⟨r7770, hr7770, h⟩ := bind_sx h
                refine call_x (taskmillref_Not_spec r7769 r7770 hr7770) (args := [.own 9 0 r7769.length]) (dst := (some 67)) (by kernel_rfl) [(0, .row 25 (Enc.cells xh)), (1, .dead), (3, .row 23 (flD dLListInt [6] r7757.2.1)), (4, .row 3 (fl r7757.2.2.1)), (5, .row 3 (fl r7757.2.2.2)), ((.s 6 0), .fam (famD dLListInt 0 r7757.2.1)), (7, .row 25 [.own 3 0 r7757.2.1.length, .own 4 0 r7757.2.2.1.length]), (8, .row 30 (Enc.cells r7757.1)), (9, .row 4 (fl r7769))] 10 (by kernel_rfl) [] [9] (.own 10 0 r7770.length) [(10, .row 3 (fl r7770))] (by simp only [push_cast, leL_flD, renL_flD, seval]) (by simp only [push_cast, leL_flD, renL_flD, seval]) (by kernel_rfl) (.inr ⟨by simp only [push_cast, leL_flD, renL_flD, seval], by simp only [push_cast, leL_flD, renL_flD, seval]⟩) (by simp only [push_cast, leL_flD, renL_flD, seval]) (by simp only [push_cast, leL_flD, renL_flD, seval]) ?_
                obtain ⟨r7771, hr7771, h⟩ := bind_sx h
                refine call_x (taskmillref_Ints_spec r7757.2.2.2 r7770 r7771 hr7771) (args := [.own 5 0 r7757.2.2.2.length, .own 10 0 r7770.length]) (dst := (some 68)) (by kernel_rfl) [(0, .row 25 (Enc.cells xh)), (1, .dead), (3, .row 23 (flD dLListInt [6] r7757.2.1)), (4, .row 3 (fl r7757.2.2.1)), (5, .row 3 (fl r7757.2.2.2)), ((.s 6 0), .fam (famD dLListInt 0 r7757.2.1)), (7, .row 25 [.own 3 0 r7757.2.1.length, .own 4 0 r7757.2.2.1.length]), (8, .row 30 (Enc.cells r7757.1)), (9, .row 4 (fl r7769)), (10, .row 3 (fl r7770))] 11 (by kernel_rfl) [] [5, 10] (bS r7771) [] (by simp only [push_cast, leL_flD, renL_flD, seval]) (by simp only [push_cast, leL_flD, renL_flD, seval]) (by kernel_rfl) (.inr ⟨by simp only [push_cast, leL_flD, renL_flD, seval], by simp only [push_cast, leL_flD, renL_flD, seval]⟩) (by simp only [push_cast, leL_flD, renL_flD, seval]) (by simp only [push_cast, leL_flD, renL_flD, seval]) ?_
                refine rs 2 [] [] (by kernel_rfl) allP_nil ?_
                refine rf [(6, bS r7771)] [(0, .row 25 (Enc.cells xh)), (1, .dead), (3, .row 23 (flD dLListInt [6] r7757.2.1)), (4, .row 3 (fl r7757.2.2.1)), (5, .row 3 (fl r7757.2.2.2)), ((.s 6 0), .fam (famD dLListInt 0 r7757.2.1)), (7, .row 25 [.own 3 0 r7757.2.1.length, .own 4 0 r7757.2.2.1.length]), (8, .row 30 (Enc.cells r7757.1)), (9, .row 4 (fl r7769)), (10, .row 3 (fl r7770))] 11 (by kernel_rfl) ?_
                exact hK7765 (r7771) _ _ _ h (leSt_m [] [] (by first | ((try simp only [g7766, g7768]) <;> simp only [push_cast, leL_flD, renL_flD, seval]; done) | ((try simp only [g7766]); (try simp only [g7768]); simp only [push_cast, leL_flD, renL_flD, seval]; done) | (exfalso; clear h; simp_all; done)) (by first | ((try simp only [g7766, g7768]) <;> simp only [push_cast, leL_flD, renL_flD, seval]; done) | ((try simp only [g7766]); (try simp only [g7768]); simp only [push_cast, leL_flD, renL_flD, seval]; done) | (exfalso; clear h; simp_all; done)) rfl rfl rfl)
              · refine rn 9 [(3, .ptr 0 0), (10, .own 5 0 r7757.2.2.2.length), (63, bS false)] [(0, .row 25 (Enc.cells xh)), (1, .dead), (3, .row 23 (flD dLListInt [6] r7757.2.1)), (4, .row 3 (fl r7757.2.2.1)), (5, .row 3 (fl r7757.2.2.2)), ((.s 6 0), .fam (famD dLListInt 0 r7757.2.1)), (7, .row 25 [.own 3 0 r7757.2.1.length, .own 4 0 r7757.2.2.1.length]), (8, .row 30 (Enc.cells r7757.1))] 9 (by kernel_rfl) ?_
                refine rs 7 [] [] (by kernel_rfl) allP_nil ?_
                refine rf [(6, bS false)] [(0, .row 25 (Enc.cells xh)), (1, .dead), (3, .row 23 (flD dLListInt [6] r7757.2.1)), (4, .row 3 (fl r7757.2.2.1)), (5, .row 3 (fl r7757.2.2.2)), ((.s 6 0), .fam (famD dLListInt 0 r7757.2.1)), (7, .row 25 [.own 3 0 r7757.2.1.length, .own 4 0 r7757.2.2.1.length]), (8, .row 30 (Enc.cells r7757.1))] 9 (by kernel_rfl) ?_
                exact hK7765 (false) _ _ _ h (leSt_m [] [] (by first | ((try simp only [g7766, g7768]) <;> simp only [push_cast, leL_flD, renL_flD, seval]; done) | ((try simp only [g7766]); (try simp only [g7768]); simp only [push_cast, leL_flD, renL_flD, seval]; done) | (exfalso; clear h; simp_all; done)) (by first | ((try simp only [g7766, g7768]) <;> simp only [push_cast, leL_flD, renL_flD, seval]; done) | ((try simp only [g7766]); (try simp only [g7768]); simp only [push_cast, leL_flD, renL_flD, seval]; done) | (exfalso; clear h; simp_all; done)) rfl rfl rfl)
            · refine rs 12 [] [] (by kernel_rfl) allP_nil ?_
              refine rf [(6, bS false)] [(0, .row 25 (Enc.cells xh)), (1, .dead), (3, .row 23 (flD dLListInt [6] r7757.2.1)), (4, .row 3 (fl r7757.2.2.1)), (5, .row 3 (fl r7757.2.2.2)), ((.s 6 0), .fam (famD dLListInt 0 r7757.2.1)), (7, .row 25 [.own 3 0 r7757.2.1.length, .own 4 0 r7757.2.2.1.length]), (8, .row 30 (Enc.cells r7757.1))] 9 (by kernel_rfl) ?_
              exact hK7765 (false) _ _ _ h (leSt_m [] [] (by (try simp only [g7766]) <;> simp only [push_cast, leL_flD, renL_flD, seval]) (by (try simp only [g7766]) <;> simp only [push_cast, leL_flD, renL_flD, seval]) rfl rfl rfl)
          · rintro t6q1 h
            try dsimp only at h ⊢
            unfold taskmilllaw_SweepStopped_j1 at h
            obtain rfl := Option.some.inj h
            refine ret_at (bS t6q1) (by kernel_rfl) ?_
            exact ret_e [] [] (by simp only [push_cast, leL_flD, renL_flD, seval]) (by simp only [push_cast, leL_flD, renL_flD, seval]) rfl rfl rfl

end Go.Proofs.Ytlfcicekappbfaa
