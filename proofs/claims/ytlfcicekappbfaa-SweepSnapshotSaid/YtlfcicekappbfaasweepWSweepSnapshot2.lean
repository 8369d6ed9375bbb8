/-
  What laws of the chapter sweep compute, and lemmas on it.
  No conditions.
-/
import Derived.Test.YtlfcicekappbfaasweepWSweepSnapshot1
set_option linter.unusedSimpArgs false
set_option linter.unusedVariables false
namespace Go.Proofs.Ytlfcicekappbfaa
open Go Go.Sx
attribute [local irreducible] Wk RunAt
set_option maxRecDepth 100000 in
set_option maxHeartbeats 200000000 in
theorem taskmilllaw_sweepBegun_spec (r : Bool) (h : taskmilllaw_sweepBegun = some r) : SpecW Try.prog 8 [] [] 0 (fun x h n => x = bS r ∧ h = [] ∧ n = 0) := by
  unfold taskmilllaw_sweepBegun at h
  refine spec_of (draw_ok _) Try.func8 rfl (by decide) rfl (by kernel_rfl) ?_
  refine seq_np ?_
  refine reg_f ?_
  refine rs 1 [] [] (by kernel_rfl) allP_nil ?_
  refine rf [] [] 0 (by kernel_rfl) ?_
  refine wk_id ?_
  refine seq_np ?_
  refine reg_f ?_
  refine rs 1 [] [] (by kernel_rfl) allP_nil ?_
  refine run_mk0 Int (some 8) 3 (by kernel_rfl) ?_
  refine rs 5 [] [] (by kernel_rfl) allP_nil ?_
  refine rf [(1, .ptr 4 0)] [(0, .row 3 (fl ([(-1)] : List Int))), (1, .row 3 (fl ([] : List Int))), (2, .row 23 [.own 0 0 ([(-1)] : List Int).length, .own 1 0 ([] : List Int).length]), (3, .row 3 (fl ([0] : List Int))), (4, .row 25 [.own 2 0 2, .own 3 0 ([0] : List Int).length])] 5 (by kernel_rfl) ?_
  refine wk_id ?_
  refine seq_np ?_
  refine reg_f ?_
  refine rs 1 [] [] (by kernel_rfl) allP_nil ?_
  obtain ⟨r2052, hr2052, h⟩ := bind_sx h
  refine call_x (sweep_Lost_spec (GHeap.mk ([([(-1)] : List Int), ([] : List Int)] : List (List Int)) ([0] : List Int)) r2052 hr2052) (args := [.agg [.own 2 0 2, .own 3 0 ([0] : List Int).length]]) (dst := (some 14)) (by kernel_rfl) [(0, .row 3 (fl ([(-1)] : List Int))), (1, .row 3 (fl ([] : List Int))), (2, .row 23 [.own 0 0 ([(-1)] : List Int).length, .own 1 0 ([] : List Int).length]), (3, .row 3 (fl ([0] : List Int))), (4, .row 25 [.own 2 0 2, .own 3 0 ([0] : List Int).length])] 5 (by kernel_rfl) [] [2, 0, 1, 3] (.tup [.own 5 0 r2052.2.length, .agg (Enc.cells r2052.1)]) [(5, .row 3 (fl r2052.2))] (by simp only [↓leS_frzL ([([(-1)] : List Int), ([] : List Int)] : List (List Int)) [.own 0 0 ([(-1)] : List Int).length, .own 1 0 ([] : List Int).length], leS_frz, leL_flD, renL_flD, push_cast, seval]) (by simp only [↓leS_frzL ([([(-1)] : List Int), ([] : List Int)] : List (List Int)) [.own 0 0 ([(-1)] : List Int).length, .own 1 0 ([] : List Int).length], leS_frz, leL_flD, renL_flD, push_cast, seval]) (by kernel_rfl) (.inr ⟨by simp only [push_cast, leL_flD, renL_flD, seval], by simp only [push_cast, leL_flD, renL_flD, seval]⟩) (by simp only [push_cast, leL_flD, renL_flD, seval]) (by simp only [push_cast, leL_flD, renL_flD, seval]) ?_
  refine rs 6 [] [] (by kernel_rfl) allP_nil ?_
  refine rf [(1, .ptr 4 0), (2, .own 5 0 r2052.2.length), (3, .ptr 6 0)] [(0, .row 3 (fl ([(-1)] : List Int))), (1, .row 3 (fl ([] : List Int))), (2, .row 23 [.own 0 0 ([(-1)] : List Int).length, .own 1 0 ([] : List Int).length]), (3, .row 3 (fl ([0] : List Int))), (4, .row 25 [.own 2 0 2, .own 3 0 ([0] : List Int).length]), (5, .row 3 (fl r2052.2)), (6, .row 30 (Enc.cells r2052.1))] 7 (by kernel_rfl) ?_
  refine wk_mk [(1, .ptr 4 0), (2, .own 5 0 r2052.2.length), (3, .ptr 6 0)] [(4, .row 25 [.sl ([([(-1)] : List Int), ([] : List Int)] : List (List Int)).length (fl ([([(-1)] : List Int), ([] : List Int)] : List (List Int))), .sl ([0] : List Int).length (fl ([0] : List Int))]), (5, .row 3 (fl r2052.2)), (6, .row 30 (Enc.cells r2052.1))] 7 (leSt_m [(4, 4), (5, 5), (6, 6)] [2, 3, 0, 1] (by simp only [↓leS_frzL ([([(-1)] : List Int), ([] : List Int)] : List (List Int)) [.own 0 0 ([(-1)] : List Int).length, .own 1 0 ([] : List Int).length], leS_frz, leS_cut, leL_flD, renL_flD, push_cast, seval]) (by simp only [↓leS_frzL ([([(-1)] : List Int), ([] : List Int)] : List (List Int)) [.own 0 0 ([(-1)] : List Int).length, .own 1 0 ([] : List Int).length], leS_frz, leS_cut, leL_flD, renL_flD, push_cast, seval]) rfl rfl rfl) ?_
  refine seq_np ?_
  refine reg_f ?_
  refine rs 3 [] [] (by kernel_rfl) allP_nil ?_
  obtain ⟨r2054, hr2054, h⟩ := bind_sx h
  refine call_x (SpecW.give (sweep_Cycle_spec (GHeap.mk ([([(-1)] : List Int), ([] : List Int)] : List (List Int)) ([0] : List Int)) 0 ([(GAct.mk 5 0 0 0)] : List GAct) r2054 hr2054) [(0, .row 47 (fl ([(GAct.mk 5 0 0 0)] : List GAct)))] [.agg [.sl ([([(-1)] : List Int), ([] : List Int)] : List (List Int)).length (fl ([([(-1)] : List Int), ([] : List Int)] : List (List Int))), .sl ([0] : List Int).length (fl ([0] : List Int))], iS 0, .own 0 0 ([(GAct.mk 5 0 0 0)] : List GAct).length] [] (.tup [.agg [.own 1 0 r2054.2.1.length, .own 2 0 r2054.2.2.1.length], .own 3 0 r2054.2.2.2.length, .agg (Enc.cells r2054.1)]) [(1, .row 23 (flD dLListInt [4] r2054.2.1)), (2, .row 3 (fl r2054.2.2.1)), (3, .row 3 (fl r2054.2.2.2)), ((.s 4 0), .fam (famD dLListInt 0 r2054.2.1))] (by first | simp only [push_cast, leL_flD, renL_flD, seval] | simp only [push_cast, List.mem_singleton, true_and, and_true, leL_flD, renL_flD, seval]) (by simp only [push_cast, leL_flD, renL_flD, seval]) (by simp only [push_cast, leL_flD, renL_flD, seval]) (by simp only [push_cast, leL_flD, renL_flD, seval]) rfl (by first | (simp only [push_cast, leL_flD, renL_flD, seval]; done) | (simp only [push_cast, leL_flD, renL_flD, seval]; kernel_rfl) | kernel_rfl) (by first | (simp only [push_cast, leL_flD, renL_flD, seval]; done) | (simp only [push_cast, leL_flD, renL_flD, seval]; kernel_rfl) | kernel_rfl) rfl) (args := [.agg [.sl ([([(-1)] : List Int), ([] : List Int)] : List (List Int)).length (fl ([([(-1)] : List Int), ([] : List Int)] : List (List Int))), .sl ([0] : List Int).length (fl ([0] : List Int))], iS 0, .own 7 0 ([(GAct.mk 5 0 0 0)] : List GAct).length]) (dst := (some 21)) (by kernel_rfl) [(4, .row 25 [.sl ([([(-1)] : List Int), ([] : List Int)] : List (List Int)).length (fl ([([(-1)] : List Int), ([] : List Int)] : List (List Int))), .sl ([0] : List Int).length (fl ([0] : List Int))]), (5, .row 3 (fl r2052.2)), (6, .row 30 (Enc.cells r2052.1)), (7, .row 47 (fl ([(GAct.mk 5 0 0 0)] : List GAct)))] 8 (by kernel_rfl) [(0, 7)] [] (.tup [.agg [.own 9 0 r2054.2.1.length, .own 10 0 r2054.2.2.1.length], .own 11 0 r2054.2.2.2.length, .agg (Enc.cells r2054.1)]) [(9, .row 23 (flD dLListInt [12] r2054.2.1)), (10, .row 3 (fl r2054.2.2.1)), (11, .row 3 (fl r2054.2.2.2)), ((.s 12 0), .fam (famD dLListInt 0 r2054.2.1)), (7, .dead)] (by simp only [push_cast, leL_flD, renL_flD, seval]) (by simp only [push_cast, leL_flD, renL_flD, seval]) (by kernel_rfl) (.inl rfl) (by first | (simp only [push_cast, leL_flD, renL_flD, seval]; done) | (simp only [push_cast, leL_flD, renL_flD, seval]; kernel_rfl) | kernel_rfl) (by first | (simp only [push_cast, leL_flD, renL_flD, seval]; done) | (simp only [push_cast, leL_flD, renL_flD, seval]; kernel_rfl) | kernel_rfl) ?_
  refine rs 9 [] [] (by kernel_rfl) allP_nil ?_
  refine rf [(2, .own 5 0 r2052.2.length), (3, .ptr 6 0), (5, .own 11 0 r2054.2.2.2.length), (6, .ptr 14 0)] [(4, .row 25 [.sl ([([(-1)] : List Int), ([] : List Int)] : List (List Int)).length (fl ([([(-1)] : List Int), ([] : List Int)] : List (List Int))), .sl ([0] : List Int).length (fl ([0] : List Int))]), (5, .row 3 (fl r2052.2)), (6, .row 30 (Enc.cells r2052.1)), (7, .dead), (9, .row 23 (flD dLListInt [12] r2054.2.1)), (10, .row 3 (fl r2054.2.2.1)), (11, .row 3 (fl r2054.2.2.2)), ((.s 12 0), .fam (famD dLListInt 0 r2054.2.1)), (13, .row 25 [.own 9 0 r2054.2.1.length, .own 10 0 r2054.2.2.1.length]), (14, .row 30 (Enc.cells r2054.1))] 15 (by kernel_rfl) ?_
  refine wk_id ?_
  refine seq_cut (A := Bool) (fun a => ([(0, bS a)], [], 0)) (fun a => (taskmilllaw_sweepBegun_j1 a) = some r) (fun K2061 hK2061 => ?_) ?_
  · refine reg_f ?_
    refine rs 4 [] [] (by kernel_rfl) allP_nil ?_
    refine run_br h 28 (.inl (by kernel_rfl)) (fun g2062 h => ?_) (fun g2062 h => ?_)
    · refine rs 5 [] [] (by kernel_rfl) allP_nil ?_
      refine run_br h 33 (.inl (by kernel_rfl)) (fun g2063 h => ?_) (fun g2063 h => ?_)
      · refine rs 2 [] [] (by kernel_rfl) allP_nil ?_
        obtain ⟨r2064, hr2064, h⟩ := bind_sx h
        refine call_x (taskmillref_Ints_spec r2052.2 ([1] : List Int) r2064 hr2064) (args := [.own 5 0 r2052.2.length, .own 15 0 ([1] : List Int).length]) (dst := (some 36)) (by kernel_rfl) [(4, .row 25 [.sl ([([(-1)] : List Int), ([] : List Int)] : List (List Int)).length (fl ([([(-1)] : List Int), ([] : List Int)] : List (List Int))), .sl ([0] : List Int).length (fl ([0] : List Int))]), (5, .row 3 (fl r2052.2)), (6, .row 30 (Enc.cells r2052.1)), (7, .dead), (9, .row 23 (flD dLListInt [12] r2054.2.1)), (10, .row 3 (fl r2054.2.2.1)), (11, .row 3 (fl r2054.2.2.2)), ((.s 12 0), .fam (famD dLListInt 0 r2054.2.1)), (13, .row 25 [.own 9 0 r2054.2.1.length, .own 10 0 r2054.2.2.1.length]), (14, .row 30 (Enc.cells r2054.1)), (15, .row 3 (fl ([1] : List Int)))] 16 (by kernel_rfl) [] [5, 15] (bS r2064) [] (by simp only [push_cast, leL_flD, renL_flD, seval]) (by simp only [push_cast, leL_flD, renL_flD, seval]) (by kernel_rfl) (.inr ⟨by simp only [push_cast, leL_flD, renL_flD, seval], by simp only [push_cast, leL_flD, renL_flD, seval]⟩) (by simp only [push_cast, leL_flD, renL_flD, seval]) (by simp only [push_cast, leL_flD, renL_flD, seval]) ?_
        refine rn 12 [(5, .own 11 0 r2054.2.2.2.length), (33, bS true), (36, bS r2064)] [(4, .row 25 [.sl ([([(-1)] : List Int), ([] : List Int)] : List (List Int)).length (fl ([([(-1)] : List Int), ([] : List Int)] : List (List Int))), .sl ([0] : List Int).length (fl ([0] : List Int))]), (5, .row 3 (fl r2052.2)), (6, .row 30 (Enc.cells r2052.1)), (7, .dead), (9, .row 23 (flD dLListInt [12] r2054.2.1)), (10, .row 3 (fl r2054.2.2.1)), (11, .row 3 (fl r2054.2.2.2)), ((.s 12 0), .fam (famD dLListInt 0 r2054.2.1)), (13, .row 25 [.own 9 0 r2054.2.1.length, .own 10 0 r2054.2.2.1.length]), (14, .row 30 (Enc.cells r2054.1)), (15, .row 3 (fl ([1] : List Int)))] 16 (by kernel_rfl) ?_
        refine rs 2 [] [] (by kernel_rfl) allP_nil ?_
        refine run_br h 38 (.inl (by kernel_rfl)) (fun g2065 h => ?_) (fun g2065 h => ?_)
        · refine rs 2 [] [] (by kernel_rfl) allP_nil ?_
          obtain ⟨r2066, hr2066, h⟩ := bind_sx h
          refine call_x (taskmillref_Ints_spec r2054.2.2.2 ([1] : List Int) r2066 hr2066) (args := [.own 11 0 r2054.2.2.2.length, .own 16 0 ([1] : List Int).length]) (dst := (some 41)) (by kernel_rfl) [(4, .row 25 [.sl ([([(-1)] : List Int), ([] : List Int)] : List (List Int)).length (fl ([([(-1)] : List Int), ([] : List Int)] : List (List Int))), .sl ([0] : List Int).length (fl ([0] : List Int))]), (5, .row 3 (fl r2052.2)), (6, .row 30 (Enc.cells r2052.1)), (7, .dead), (9, .row 23 (flD dLListInt [12] r2054.2.1)), (10, .row 3 (fl r2054.2.2.1)), (11, .row 3 (fl r2054.2.2.2)), ((.s 12 0), .fam (famD dLListInt 0 r2054.2.1)), (13, .row 25 [.own 9 0 r2054.2.1.length, .own 10 0 r2054.2.2.1.length]), (14, .row 30 (Enc.cells r2054.1)), (15, .row 3 (fl ([1] : List Int))), (16, .row 3 (fl ([1] : List Int)))] 17 (by kernel_rfl) [] [11, 16] (bS r2066) [] (by simp only [push_cast, leL_flD, renL_flD, seval]) (by simp only [push_cast, leL_flD, renL_flD, seval]) (by kernel_rfl) (.inr ⟨by simp only [push_cast, leL_flD, renL_flD, seval], by simp only [push_cast, leL_flD, renL_flD, seval]⟩) (by simp only [push_cast, leL_flD, renL_flD, seval]) (by simp only [push_cast, leL_flD, renL_flD, seval]) ?_
          refine rs 2 [] [] (by kernel_rfl) allP_nil ?_
          refine rf [(0, bS r2066)] [(4, .row 25 [.sl ([([(-1)] : List Int), ([] : List Int)] : List (List Int)).length (fl ([([(-1)] : List Int), ([] : List Int)] : List (List Int))), .sl ([0] : List Int).length (fl ([0] : List Int))]), (5, .row 3 (fl r2052.2)), (6, .row 30 (Enc.cells r2052.1)), (7, .dead), (9, .row 23 (flD dLListInt [12] r2054.2.1)), (10, .row 3 (fl r2054.2.2.1)), (11, .row 3 (fl r2054.2.2.2)), ((.s 12 0), .fam (famD dLListInt 0 r2054.2.1)), (13, .row 25 [.own 9 0 r2054.2.1.length, .own 10 0 r2054.2.2.1.length]), (14, .row 30 (Enc.cells r2054.1)), (15, .row 3 (fl ([1] : List Int))), (16, .row 3 (fl ([1] : List Int)))] 17 (by kernel_rfl) ?_
          exact hK2061 (r2066) _ _ _ h (leSt_m [] [] (by first | ((try simp only [g2062, g2063, g2065]) <;> simp only [push_cast, leL_flD, renL_flD, seval]; done) | ((try simp only [g2062]); (try simp only [g2063]); (try simp only [g2065]); simp only [push_cast, leL_flD, renL_flD, seval]; done) | (exfalso; clear h; simp_all; done)) (by first | ((try simp only [g2062, g2063, g2065]) <;> simp only [push_cast, leL_flD, renL_flD, seval]; done) | ((try simp only [g2062]); (try simp only [g2063]); (try simp only [g2065]); simp only [push_cast, leL_flD, renL_flD, seval]; done) | (exfalso; clear h; simp_all; done)) rfl rfl rfl)
        · refine rs 5 [] [] (by kernel_rfl) allP_nil ?_
          refine rf [(0, bS false)] [(4, .row 25 [.sl ([([(-1)] : List Int), ([] : List Int)] : List (List Int)).length (fl ([([(-1)] : List Int), ([] : List Int)] : List (List Int))), .sl ([0] : List Int).length (fl ([0] : List Int))]), (5, .row 3 (fl r2052.2)), (6, .row 30 (Enc.cells r2052.1)), (7, .dead), (9, .row 23 (flD dLListInt [12] r2054.2.1)), (10, .row 3 (fl r2054.2.2.1)), (11, .row 3 (fl r2054.2.2.2)), ((.s 12 0), .fam (famD dLListInt 0 r2054.2.1)), (13, .row 25 [.own 9 0 r2054.2.1.length, .own 10 0 r2054.2.2.1.length]), (14, .row 30 (Enc.cells r2054.1)), (15, .row 3 (fl ([1] : List Int)))] 16 (by kernel_rfl) ?_
          exact hK2061 (false) _ _ _ h (leSt_m [] [] (by first | ((try simp only [g2062, g2063, g2065]) <;> simp only [push_cast, leL_flD, renL_flD, seval]; done) | ((try simp only [g2062]); (try simp only [g2063]); (try simp only [g2065]); simp only [push_cast, leL_flD, renL_flD, seval]; done) | (exfalso; clear h; simp_all; done)) (by first | ((try simp only [g2062, g2063, g2065]) <;> simp only [push_cast, leL_flD, renL_flD, seval]; done) | ((try simp only [g2062]); (try simp only [g2063]); (try simp only [g2065]); simp only [push_cast, leL_flD, renL_flD, seval]; done) | (exfalso; clear h; simp_all; done)) rfl rfl rfl)
      · refine rs 10 [] [] (by kernel_rfl) allP_nil ?_
        refine rf [(0, bS false)] [(4, .row 25 [.sl ([([(-1)] : List Int), ([] : List Int)] : List (List Int)).length (fl ([([(-1)] : List Int), ([] : List Int)] : List (List Int))), .sl ([0] : List Int).length (fl ([0] : List Int))]), (5, .row 3 (fl r2052.2)), (6, .row 30 (Enc.cells r2052.1)), (7, .dead), (9, .row 23 (flD dLListInt [12] r2054.2.1)), (10, .row 3 (fl r2054.2.2.1)), (11, .row 3 (fl r2054.2.2.2)), ((.s 12 0), .fam (famD dLListInt 0 r2054.2.1)), (13, .row 25 [.own 9 0 r2054.2.1.length, .own 10 0 r2054.2.2.1.length]), (14, .row 30 (Enc.cells r2054.1))] 15 (by kernel_rfl) ?_
        exact hK2061 (false) _ _ _ h (leSt_m [] [] (by first | ((try simp only [g2062, g2063]) <;> simp only [push_cast, leL_flD, renL_flD, seval]; done) | ((try simp only [g2062]); (try simp only [g2063]); simp only [push_cast, leL_flD, renL_flD, seval]; done) | (exfalso; clear h; simp_all; done)) (by first | ((try simp only [g2062, g2063]) <;> simp only [push_cast, leL_flD, renL_flD, seval]; done) | ((try simp only [g2062]); (try simp only [g2063]); simp only [push_cast, leL_flD, renL_flD, seval]; done) | (exfalso; clear h; simp_all; done)) rfl rfl rfl)
    · refine rs 15 [] [] (by kernel_rfl) allP_nil ?_
      refine rf [(0, bS false)] [(4, .row 25 [.sl ([([(-1)] : List Int), ([] : List Int)] : List (List Int)).length (fl ([([(-1)] : List Int), ([] : List Int)] : List (List Int))), .sl ([0] : List Int).length (fl ([0] : List Int))]), (5, .row 3 (fl r2052.2)), (6, .row 30 (Enc.cells r2052.1)), (7, .dead), (9, .row 23 (flD dLListInt [12] r2054.2.1)), (10, .row 3 (fl r2054.2.2.1)), (11, .row 3 (fl r2054.2.2.2)), ((.s 12 0), .fam (famD dLListInt 0 r2054.2.1)), (13, .row 25 [.own 9 0 r2054.2.1.length, .own 10 0 r2054.2.2.1.length]), (14, .row 30 (Enc.cells r2054.1))] 15 (by kernel_rfl) ?_
      exact hK2061 (false) _ _ _ h (leSt_m [] [] (by (try simp only [g2062]) <;> simp only [push_cast, leL_flD, renL_flD, seval]) (by (try simp only [g2062]) <;> simp only [push_cast, leL_flD, renL_flD, seval]) rfl rfl rfl)
  · rintro t0q1 h
    try dsimp only at h ⊢
    unfold taskmilllaw_sweepBegun_j1 at h
    obtain rfl := Option.some.inj h
    refine ret_at (bS t0q1) (by kernel_rfl) ?_
    exact ret_e [] [] (by simp only [push_cast, leL_flD, renL_flD, seval]) (by simp only [push_cast, leL_flD, renL_flD, seval]) rfl rfl rfl

set_option maxRecDepth 100000 in
set_option maxHeartbeats 200000000 in
theorem taskmilllaw_vastHeap_spec (xh : GHeap) (r : Bool) (h : taskmilllaw_vastHeap xh = some r) : SpecW Try.prog 9 [.agg (Enc.cells xh)] [] 0 (fun x h n => x = bS r ∧ h = [] ∧ n = 0) := by
  unfold taskmilllaw_vastHeap at h
  refine spec_of (draw_ok _) Try.func9 rfl (by decide) rfl (by kernel_rfl) ?_
  refine seq_np ?_
  refine reg_f ?_
  refine rs 2 [] [] (by kernel_rfl) allP_nil ?_
  refine rf [(1, .ptr 0 0)] [(0, .row 25 (Enc.cells xh))] 1 (by kernel_rfl) ?_
  refine wk_id ?_
  refine seq_np ?_
  refine seq_np ?_
  refine reg_f ?_
  refine rs 1 [] [] (by kernel_rfl) allP_nil ?_
  refine rf [(1, .ptr 0 0), (3, iS 0)] [(0, .row 25 (Enc.cells xh))] 1 (by kernel_rfl) ?_
  refine wk_id ?_
  refine block_np ?_
  refine loop_sx (S := Int) (fun a => ([(1, .ptr 0 0), (3, iS a)], [(0, .row 25 (Enc.cells xh))], 1)) h (leSt_m [(0, 0)] [] (by simp only [push_cast, leL_flD, renL_flD, seval]) (by simp only [push_cast, leL_flD, renL_flD, seval]) rfl rfl rfl) ?_
  rintro i7 o2 R2 h hr2 hn2 hx2 ht2
  try dsimp only at h hn2 ⊢
  unfold taskmilllaw_vastHeap_l1 at h
  try dsimp only at h
  refine seq_np ?_
  refine seq_np ?_
  refine reg_f ?_
  refine rs 5 [] [] (by kernel_rfl) allP_nil ?_
  refine rf [(1, .ptr 0 0), (3, iS i7), (8, bS (decide (i7 < ((xh.Objects.length : Nat) : Int))))] [(0, .row 25 (Enc.cells xh))] 1 (by kernel_rfl) ?_
  refine wk_id ?_
  refine cond_sx h (by kernel_rfl) (fun g2133 h => ?_) (fun g2133 h => ?_)
  · refine wk_id ?_
    refine seq_np ?_
    refine block_np ?_
    refine chk_sx h (fun g2128 h => ?_)
    refine seq_np ?_
    refine reg_f ?_
    have k2127 : 0 ≤ i7 ∧ i7 < ((xh.Objects.length : Nat) : Int) := by first | simpa only [Bool.and_eq_true, decide_eq_true_eq, bne_iff_ne, ne_eq] using g2128 | (simp at g2128 ⊢; omega)
    refine rs 7 [none, none, none, some ⟨.iptr (fl xh.Objects) ((i7).toNat * 1), [], 1, []⟩, some ⟨.sl (ix xh.Objects i7).length (fl (ix xh.Objects i7)), [], 1, []⟩] _ (by kernel_rfl) (allP_cons (ob_ld xh.Objects i7 1 0 ((i7).toNat * 1) k2127 rfl (by decide) (by first | rfl | omega) (dflS Try.prog 23) (.sl (ix xh.Objects i7).length (fl (ix xh.Objects i7))) rfl 1 []) (allP_cons (ob_ix_l xh.Objects 1 1 i7 k2127) allP_nil)) ?_
    refine rf [(1, .ptr 0 0), (3, iS i7), (17, bS (decide ((1000 : Int) < (((ix xh.Objects i7).length : Nat) : Int))))] [(0, .row 25 (Enc.cells xh))] 1 (by kernel_rfl) ?_
    refine wk_id ?_
    refine cond_sx h (by kernel_rfl) (fun g2129 h => ?_) (fun g2129 h => ?_)
    · refine seq_np ?_
      refine reg_f ?_
      refine rs 1 [] [] (by kernel_rfl) allP_nil ?_
      refine rf [(2, bS true)] [(0, .row 25 (Enc.cells xh))] 1 (by kernel_rfl) ?_
      refine wk_id ?_
      refine rt_cast ht2 ?_
      obtain ⟨r0, h, e0⟩ := map_sx h
      have e1 := hr2 r0 e0.symm
      subst r0
      obtain rfl := Option.some.inj h
      refine ret_at (bS true) (by kernel_rfl) ?_
      exact ret_e [] [] (by simp only [push_cast, leL_flD, renL_flD, seval]) (by simp only [push_cast, leL_flD, renL_flD, seval]) rfl rfl rfl
    · refine wk_id ?_
      refine wk_id ?_
      refine reg_f ?_
      refine rs 3 [] [] (by kernel_rfl) allP_nil ?_
      refine rf [(1, .ptr 0 0), (3, iS (IntKind.i64.wrap (i7 + 1)))] [(0, .row 25 (Enc.cells xh))] 1 (by kernel_rfl) ?_
      exact hn2 ((IntKind.i64.wrap (i7 + 1))) _ _ _ (Option.some.inj h).symm (leSt_m [(0, 0)] [] (by simp only [push_cast, leL_flD, renL_flD, seval]) (by simp only [push_cast, leL_flD, renL_flD, seval]) rfl rfl rfl)
  · change R2 (.exit 0) _ _ _
    refine ex_cast hx2 (id := 0) ?_
    obtain ⟨r0, h, e0⟩ := map_sx h
    have e1 := hr2 r0 e0.symm
    subst r0
    refine wk_id ?_
    refine wk_id ?_
    refine seq_cut (A := Unit) (fun _ => ([(2, bS ((decide ((1000 : Int) < ((xh.Objects.length : Nat) : Int))) || (decide ((1000 : Int) < ((xh.Roots.length : Nat) : Int)))))], [(0, .row 25 (Enc.cells xh))], 1)) (fun _ => True) (fun K2131 hK2131 => ?_) (fun _ _ => ?_)
    · refine reg_f ?_
      refine rs 5 [] [] (by kernel_rfl) allP_nil ?_
      refine run_split 22 (decide ((1000 : Int) < ((xh.Objects.length : Nat) : Int))) (.inl (by kernel_rfl)) (fun g2132 => ?_) (fun g2132 => ?_)
      · refine rs 6 [] [] (by kernel_rfl) allP_nil ?_
        refine rf [(2, bS true)] [(0, .row 25 (Enc.cells xh))] 1 (by kernel_rfl) ?_
        exact hK2131 () _ _ _ trivial (leSt_m [(0, 0)] [] (by (try simp only [g2132]) <;> simp only [push_cast, leL_flD, renL_flD, seval]) (by (try simp only [g2132]) <;> simp only [push_cast, leL_flD, renL_flD, seval]) rfl rfl rfl)
      · refine rs 6 [] [] (by kernel_rfl) allP_nil ?_
        refine rf [(2, bS (decide ((1000 : Int) < ((xh.Roots.length : Nat) : Int))))] [(0, .row 25 (Enc.cells xh))] 1 (by kernel_rfl) ?_
        exact hK2131 () _ _ _ trivial (leSt_m [(0, 0)] [] (by (try simp only [g2132]) <;> simp only [push_cast, leL_flD, renL_flD, seval]) (by (try simp only [g2132]) <;> simp only [push_cast, leL_flD, renL_flD, seval]) rfl rfl rfl)
    · dsimp only
      obtain rfl := Option.some.inj h
      refine ret_at (bS ((decide ((1000 : Int) < ((xh.Objects.length : Nat) : Int))) || (decide ((1000 : Int) < ((xh.Roots.length : Nat) : Int))))) (by kernel_rfl) ?_
      exact ret_e [] [] (by simp only [push_cast, leL_flD, renL_flD, seval]) (by simp only [push_cast, leL_flD, renL_flD, seval]) rfl rfl rfl

set_option maxRecDepth 100000 in
set_option maxHeartbeats 200000000 in
theorem taskmillref_F_spec (code : Int) (xat : Int) (r : Fault) (h : taskmillref_F code xat = some r) : SpecW Try.prog 20 [iS code, iS xat] [] 0 (fun x h n => x = .agg (Enc.cells r) ∧ h = [] ∧ n = 0) := by
  unfold taskmillref_F at h
  refine spec_of (draw_ok _) Try.func20 rfl (by decide) rfl (by kernel_rfl) ?_
  refine seq_np ?_
  refine reg_f ?_
  refine rs 1 [] [] (by kernel_rfl) allP_nil ?_
  refine rf [(0, iS code), (1, iS xat), (4, .ptr 0 0)] [(0, .row 30 [iS 0, iS 0])] 1 (by kernel_rfl) ?_
  refine wk_id ?_
  refine seq_np ?_
  refine reg_f ?_
  refine rs 4 [] [] (by kernel_rfl) allP_nil ?_
  refine rf [(4, .ptr 0 0)] [(0, .row 30 [iS code, iS xat])] 1 (by kernel_rfl) ?_
  refine wk_id ?_
  obtain rfl := Option.some.inj h
  refine ret_at (.agg [iS code, iS xat]) (by kernel_rfl) ?_
  exact ret_e [] [] (by simp only [push_cast, leL_flD, renL_flD, seval]) (by simp only [push_cast, leL_flD, renL_flD, seval]) rfl rfl rfl

set_option maxRecDepth 100000 in
set_option maxHeartbeats 200000000 in
theorem taskmillref_HeapsFault_spec (xh : GHeap) (r : Fault) (h : taskmillref_HeapsFault xh = some r) : SpecW Try.prog 13 [.agg (Enc.cells xh)] [] 0 (fun x h n => x = .agg (Enc.cells r) ∧ h = [] ∧ n = 0) := by
  unfold taskmillref_HeapsFault at h
  refine spec_of (draw_ok _) Try.func13 rfl (by decide) rfl (by kernel_rfl) ?_
  refine seq_np ?_
  refine reg_f ?_
  refine rs 2 [] [] (by kernel_rfl) allP_nil ?_
  refine rf [(1, .ptr 0 0), (2, .ptr 1 0)] [(0, .row 25 (Enc.cells xh)), (1, .row 30 [iS 0, iS 0])] 2 (by kernel_rfl) ?_
  refine wk_id ?_
  refine seq_np ?_
  refine seq_cut (A := Unit) (fun _ => ([(1, .ptr 0 0), (2, .ptr 1 0), (15, bS ((decide ((500 : Int) < ((xh.Objects.length : Nat) : Int))) || (decide ((16 : Int) < ((xh.Roots.length : Nat) : Int)))))], [(0, .row 25 (Enc.cells xh)), (1, .row 30 [iS 0, iS 0])], 2)) (fun _ => True) (fun K2417 hK2417 => ?_) (fun _ _ => ?_)
  · refine reg_f ?_
    refine rs 5 [] [] (by kernel_rfl) allP_nil ?_
    refine run_split 10 (decide ((500 : Int) < ((xh.Objects.length : Nat) : Int))) (.inl (by kernel_rfl)) (fun g2418 => ?_) (fun g2418 => ?_)
    · refine rs 5 [] [] (by kernel_rfl) allP_nil ?_
      refine rf [(1, .ptr 0 0), (2, .ptr 1 0), (15, bS true)] [(0, .row 25 (Enc.cells xh)), (1, .row 30 [iS 0, iS 0])] 2 (by kernel_rfl) ?_
      exact hK2417 () _ _ _ trivial (leSt_m [(0, 0), (1, 1)] [] (by (try simp only [g2418]) <;> simp only [push_cast, leL_flD, renL_flD, seval]) (by (try simp only [g2418]) <;> simp only [push_cast, leL_flD, renL_flD, seval]) rfl rfl rfl)
    · refine rs 5 [] [] (by kernel_rfl) allP_nil ?_
      refine rf [(1, .ptr 0 0), (2, .ptr 1 0), (15, bS (decide ((16 : Int) < ((xh.Roots.length : Nat) : Int))))] [(0, .row 25 (Enc.cells xh)), (1, .row 30 [iS 0, iS 0])] 2 (by kernel_rfl) ?_
      exact hK2417 () _ _ _ trivial (leSt_m [(0, 0), (1, 1)] [] (by (try simp only [g2418]) <;> simp only [push_cast, leL_flD, renL_flD, seval]) (by (try simp only [g2418]) <;> simp only [push_cast, leL_flD, renL_flD, seval]) rfl rfl rfl)
  · dsimp only
    refine cond_sx h (by kernel_rfl) (fun g3136 h => ?_) (fun g3136 h => ?_)
    · refine seq_np ?_
      refine reg_f ?_
      obtain ⟨r2420, hr2420, h⟩ := bind_sx h
      refine run_call 20 [iS 2, iS 0] (some 16) (by kernel_rfl) ?_
      refine call_0 (taskmillref_F_spec 2 0 r2420 hr2420) (by simp only [push_cast, leL_flD, renL_flD, seval]) (by simp only [push_cast, leL_flD, renL_flD, seval]) ?_
      refine back_f ?_
      refine rs 1 [] [] (by kernel_rfl) allP_nil ?_
      refine rf [(2, .ptr 1 0)] [(0, .row 25 (Enc.cells xh)), (1, .row 30 (Enc.cells r2420))] 2 (by kernel_rfl) ?_
      refine wk_id ?_
      obtain rfl := Option.some.inj h
      refine ret_at (.agg (Enc.cells r2420)) (by kernel_rfl) ?_
      exact ret_e [] [] (by simp only [push_cast, leL_flD, renL_flD, seval]) (by simp only [push_cast, leL_flD, renL_flD, seval]) rfl rfl rfl
    · refine wk_id ?_
      refine seq_np ?_
      refine seq_np ?_
      refine reg_f ?_
      refine rs 1 [] [] (by kernel_rfl) allP_nil ?_
      refine rf [(1, .ptr 0 0), (2, .ptr 1 0), (3, iS 0)] [(0, .row 25 (Enc.cells xh)), (1, .row 30 [iS 0, iS 0])] 2 (by kernel_rfl) ?_
      refine wk_id ?_
      refine block_np ?_
      refine loop_sx (S := Int) (fun a => ([(1, .ptr 0 0), (2, .ptr 1 0), (3, iS a)], [(0, .row 25 (Enc.cells xh)), (1, .row 30 [iS 0, iS 0])], 2)) h (leSt_m [(0, 0), (1, 1)] [] (by simp only [push_cast, leL_flD, renL_flD, seval]) (by simp only [push_cast, leL_flD, renL_flD, seval]) rfl rfl rfl) ?_
      rintro i9 o4 R4 h hr4 hn4 hx4 ht4
      try dsimp only at h hn4 ⊢
      unfold taskmillref_HeapsFault_l3 at h
      try dsimp only at h
      refine seq_np ?_
      refine seq_np ?_
      refine reg_f ?_
      refine rs 5 [] [] (by kernel_rfl) allP_nil ?_
      refine rf [(1, .ptr 0 0), (2, .ptr 1 0), (3, iS i9), (21, bS (decide (i9 < ((xh.Roots.length : Nat) : Int))))] [(0, .row 25 (Enc.cells xh)), (1, .row 30 [iS 0, iS 0])] 2 (by kernel_rfl) ?_
      refine wk_id ?_
      refine cond_sx h (by kernel_rfl) (fun g3135 h => ?_) (fun g3135 h => ?_)
      · refine wk_id ?_
        refine seq_np ?_
        refine block_np ?_
        refine chk_sx h (fun g2510 h => ?_)
        refine chk_sx h (fun g2513 h => ?_)
        refine seq_cut (A := Unit) (fun _ => ([(1, .ptr 0 0), (2, .ptr 1 0), (3, iS i9), (40, bS ((decide ((ix xh.Roots i9) < (-1))) || (decide (((xh.Objects.length : Nat) : Int) ≤ (ix xh.Roots i9)))))], [(0, .row 25 (Enc.cells xh)), (1, .row 30 [iS 0, iS 0])], 19)) (fun _ => True) (fun K2508 hK2508 => ?_) (fun _ _ => ?_)
        · refine reg_t ?_
          have k2509 : 0 ≤ i9 ∧ i9 < ((xh.Roots.length : Nat) : Int) := by first | simpa only [Bool.and_eq_true, decide_eq_true_eq, bne_iff_ne, ne_eq] using g2510 | (simp at g2510 ⊢; omega)
          refine rs 7 [none, none, none, some ⟨.iptr (fl xh.Roots) ((i9).toNat * 1), [], 5, []⟩, some ⟨iS (ix xh.Roots i9), [], 6, []⟩] _ (by kernel_rfl) (allP_cons (ob_ld xh.Roots i9 1 0 ((i9).toNat * 1) k2509 rfl (by decide) (by first | rfl | omega) (dflS Try.prog 3) (iS (ix xh.Roots i9)) rfl 6 []) (allP_cons (ob_ix_l xh.Roots 1 5 i9 k2509) allP_nil)) ?_
          refine run_split 30 (decide ((ix xh.Roots i9) < (-1))) (.inl (by kernel_rfl)) (fun g2511 => ?_) (fun g2511 => ?_)
          · refine rs 10 [] [] (by kernel_rfl) allP_nil ?_
            refine rt [(1, .ptr 0 0), (2, .ptr 1 0), (3, iS i9), (40, bS true)] [(0, .row 25 (Enc.cells xh)), (1, .row 30 [iS 0, iS 0])] 19 follows (by kernel_rfl) ?_
            exact hK2508 () _ _ _ trivial (leSt_m [(0, 0), (1, 1)] [] (by (try simp only [g2511]) <;> simp only [push_cast, leL_flD, renL_flD, seval]) (by (try simp only [g2511]) <;> simp only [push_cast, leL_flD, renL_flD, seval]) rfl rfl rfl)
          · have k2512 : 0 ≤ i9 ∧ i9 < ((xh.Roots.length : Nat) : Int) := by have e := or_use g2513 (by first | ((try simp only [g2511]) <;> rfl) | ((try simp only [g2511]); rfl) | (exfalso; clear h; simp_all; done)); first | simpa only [Bool.and_eq_true, decide_eq_true_eq, bne_iff_ne, ne_eq] using e | (simp at e ⊢; omega)
            refine rs 10 [none, none, none, some ⟨.iptr (fl xh.Roots) ((i9).toNat * 1), [], 12, []⟩, some ⟨iS (ix xh.Roots i9), [], 13, []⟩] _ (by kernel_rfl) (allP_cons (ob_ld xh.Roots i9 1 0 ((i9).toNat * 1) k2512 rfl (by decide) (by first | rfl | omega) (dflS Try.prog 3) (iS (ix xh.Roots i9)) rfl 13 []) (allP_cons (ob_ix_l xh.Roots 1 12 i9 k2512) allP_nil)) ?_
            refine rt [(1, .ptr 0 0), (2, .ptr 1 0), (3, iS i9), (40, bS (decide (((xh.Objects.length : Nat) : Int) ≤ (ix xh.Roots i9))))] [(0, .row 25 (Enc.cells xh)), (1, .row 30 [iS 0, iS 0])] 19 follows (by kernel_rfl) ?_
            exact hK2508 () _ _ _ trivial (leSt_m [(0, 0), (1, 1)] [] (by (try simp only [g2511]) <;> simp only [push_cast, leL_flD, renL_flD, seval]) (by (try simp only [g2511]) <;> simp only [push_cast, leL_flD, renL_flD, seval]) rfl rfl rfl)
        · dsimp only
          refine cond_sx h (by kernel_rfl) (fun g2516 h => ?_) (fun g2516 h => ?_)
          · refine seq_np ?_
            refine reg_f ?_
            refine rs 1 [] [] (by kernel_rfl) allP_nil ?_
            obtain ⟨r2515, hr2515, h⟩ := bind_sx h
            refine run_call 20 [iS 3, iS i9] (some 42) (by kernel_rfl) ?_
            refine call_0 (taskmillref_F_spec 3 i9 r2515 hr2515) (by simp only [push_cast, leL_flD, renL_flD, seval]) (by simp only [push_cast, leL_flD, renL_flD, seval]) ?_
            refine back_f ?_
            refine rs 1 [] [] (by kernel_rfl) allP_nil ?_
            refine rf [(2, .ptr 1 0)] [(0, .row 25 (Enc.cells xh)), (1, .row 30 (Enc.cells r2515))] 19 (by kernel_rfl) ?_
            refine wk_id ?_
            refine rt_cast ht4 ?_
            obtain ⟨r0, h, e0⟩ := map_sx h
            have e1 := hr4 r0 e0.symm
            subst r0
            obtain rfl := Option.some.inj h
            refine ret_at (.agg (Enc.cells r2515)) (by kernel_rfl) ?_
            exact ret_e [] [] (by simp only [push_cast, leL_flD, renL_flD, seval]) (by simp only [push_cast, leL_flD, renL_flD, seval]) rfl rfl rfl
          · refine wk_id ?_
            refine wk_id ?_
            refine reg_f ?_
            refine rs 3 [] [] (by kernel_rfl) allP_nil ?_
            refine rf [(1, .ptr 0 0), (2, .ptr 1 0), (3, iS (IntKind.i64.wrap (i9 + 1)))] [(0, .row 25 (Enc.cells xh)), (1, .row 30 [iS 0, iS 0])] 19 (by kernel_rfl) ?_
            exact hn4 ((IntKind.i64.wrap (i9 + 1))) _ _ _ (Option.some.inj h).symm (leSt_m [(0, 0), (1, 1)] [] (by simp only [push_cast, leL_flD, renL_flD, seval]) (by simp only [push_cast, leL_flD, renL_flD, seval]) rfl rfl rfl)
      · change R4 (.exit 0) _ _ _
        refine ex_cast hx4 (id := 0) ?_
        obtain ⟨r0, h, e0⟩ := map_sx h
        have e1 := hr4 r0 e0.symm
        subst r0
        refine wk_id ?_
        refine wk_id ?_
        refine seq_np ?_
        refine seq_np ?_
        refine reg_f ?_
        refine rs 1 [] [] (by kernel_rfl) allP_nil ?_
        refine rf [(1, .ptr 0 0), (2, .ptr 1 0), (4, iS 0)] [(0, .row 25 (Enc.cells xh)), (1, .row 30 [iS 0, iS 0])] 2 (by kernel_rfl) ?_
        refine wk_id ?_
        refine block_np ?_
        refine loop_sx (S := Int) (fun a => ([(1, .ptr 0 0), (2, .ptr 1 0), (4, iS a)], [(0, .row 25 (Enc.cells xh)), (1, .row 30 [iS 0, iS 0])], 2)) h (leSt_m [(0, 0), (1, 1)] [] (by simp only [push_cast, leL_flD, renL_flD, seval]) (by simp only [push_cast, leL_flD, renL_flD, seval]) rfl rfl rfl) ?_
        rintro i15 o5 R5 h hr5 hn5 hx5 ht5
        try dsimp only at h hn5 ⊢
        unfold taskmillref_HeapsFault_l2 at h
        try dsimp only at h
        refine seq_np ?_
        refine seq_np ?_
        refine reg_f ?_
        refine rs 5 [] [] (by kernel_rfl) allP_nil ?_
        refine rf [(1, .ptr 0 0), (2, .ptr 1 0), (4, iS i15), (47, bS (decide (i15 < ((xh.Objects.length : Nat) : Int))))] [(0, .row 25 (Enc.cells xh)), (1, .row 30 [iS 0, iS 0])] 2 (by kernel_rfl) ?_
        refine wk_id ?_
        refine cond_sx h (by kernel_rfl) (fun g3134 h => ?_) (fun g3134 h => ?_)
        · refine wk_id ?_
          refine seq_np ?_
          refine block_np ?_
          refine seq_np ?_
          refine chk_sx h (fun g3006 h => ?_)
          refine seq_np ?_
          refine reg_f ?_
          have k3005 : 0 ≤ i15 ∧ i15 < ((xh.Objects.length : Nat) : Int) := by first | simpa only [Bool.and_eq_true, decide_eq_true_eq, bne_iff_ne, ne_eq] using g3006 | (simp at g3006 ⊢; omega)
          refine rs 7 [none, none, none, some ⟨.iptr (fl xh.Objects) ((i15).toNat * 1), [], 2, []⟩, some ⟨.sl (ix xh.Objects i15).length (fl (ix xh.Objects i15)), [], 2, []⟩] _ (by kernel_rfl) (allP_cons (ob_ld xh.Objects i15 1 0 ((i15).toNat * 1) k3005 rfl (by decide) (by first | rfl | omega) (dflS Try.prog 23) (.sl (ix xh.Objects i15).length (fl (ix xh.Objects i15))) rfl 2 []) (allP_cons (ob_ix_l xh.Objects 1 2 i15 k3005) allP_nil)) ?_
          refine rf [(1, .ptr 0 0), (2, .ptr 1 0), (4, iS i15), (56, bS (decide ((20 : Int) < (((ix xh.Objects i15).length : Nat) : Int))))] [(0, .row 25 (Enc.cells xh)), (1, .row 30 [iS 0, iS 0])] 2 (by kernel_rfl) ?_
          refine wk_id ?_
          refine cond_sx h (by kernel_rfl) (fun g3133 h => ?_) (fun g3133 h => ?_)
          · refine seq_np ?_
            refine reg_f ?_
            refine rs 1 [] [] (by kernel_rfl) allP_nil ?_
            obtain ⟨r3008, hr3008, h⟩ := bind_sx h
            refine run_call 20 [iS 8, iS i15] (some 58) (by kernel_rfl) ?_
            refine call_0 (taskmillref_F_spec 8 i15 r3008 hr3008) (by simp only [push_cast, leL_flD, renL_flD, seval]) (by simp only [push_cast, leL_flD, renL_flD, seval]) ?_
            refine back_f ?_
            refine rs 1 [] [] (by kernel_rfl) allP_nil ?_
            refine rf [(2, .ptr 1 0)] [(0, .row 25 (Enc.cells xh)), (1, .row 30 (Enc.cells r3008))] 2 (by kernel_rfl) ?_
            refine wk_id ?_
            refine rt_cast ht5 ?_
            obtain ⟨r0, h, e0⟩ := map_sx h
            have e1 := hr5 r0 e0.symm
            subst r0
            obtain rfl := Option.some.inj h
            refine ret_at (.agg (Enc.cells r3008)) (by kernel_rfl) ?_
            exact ret_e [] [] (by simp only [push_cast, leL_flD, renL_flD, seval]) (by simp only [push_cast, leL_flD, renL_flD, seval]) rfl rfl rfl
          · refine wk_id ?_
            refine seq_np ?_
            refine reg_f ?_
            refine rs 1 [] [] (by kernel_rfl) allP_nil ?_
            refine rf [(1, .ptr 0 0), (2, .ptr 1 0), (4, iS i15), (5, iS 0)] [(0, .row 25 (Enc.cells xh)), (1, .row 30 [iS 0, iS 0])] 2 (by kernel_rfl) ?_
            refine wk_id ?_
            refine block_np ?_
            refine loop_sx (S := Int) (fun a => ([(1, .ptr 0 0), (2, .ptr 1 0), (4, iS i15), (5, iS a)], [(0, .row 25 (Enc.cells xh)), (1, .row 30 [iS 0, iS 0])], 2)) h (leSt_m [(0, 0), (1, 1)] [] (by simp only [push_cast, leL_flD, renL_flD, seval]) (by simp only [push_cast, leL_flD, renL_flD, seval]) rfl rfl rfl) ?_
            rintro k29 o6 R6 h hr6 hn6 hx6 ht6
            try dsimp only at h hn6 ⊢
            unfold taskmillref_HeapsFault_l1 at h
            try dsimp only at h
            refine seq_np ?_
            refine chk_sx h (fun g3087 h => ?_)
            refine seq_np ?_
            refine reg_f ?_
            have k3086 : 0 ≤ i15 ∧ i15 < ((xh.Objects.length : Nat) : Int) := by first | simpa only [Bool.and_eq_true, decide_eq_true_eq, bne_iff_ne, ne_eq] using g3087 | (simp at g3087 ⊢; omega)
            refine rs 8 [none, none, none, none, some ⟨.iptr (fl xh.Objects) ((i15).toNat * 1), [], 2, []⟩, some ⟨.sl (ix xh.Objects i15).length (fl (ix xh.Objects i15)), [], 2, []⟩] _ (by kernel_rfl) (allP_cons (ob_ld xh.Objects i15 1 0 ((i15).toNat * 1) k3086 rfl (by decide) (by first | rfl | omega) (dflS Try.prog 23) (.sl (ix xh.Objects i15).length (fl (ix xh.Objects i15))) rfl 2 []) (allP_cons (ob_ix_l xh.Objects 1 2 i15 k3086) allP_nil)) ?_
            refine rf [(1, .ptr 0 0), (2, .ptr 1 0), (4, iS i15), (5, iS k29), (66, bS (decide (k29 < (((ix xh.Objects i15).length : Nat) : Int))))] [(0, .row 25 (Enc.cells xh)), (1, .row 30 [iS 0, iS 0])] 2 (by kernel_rfl) ?_
            refine wk_id ?_
            refine cond_sx h (by kernel_rfl) (fun g3132 h => ?_) (fun g3132 h => ?_)
            · refine wk_id ?_
              refine seq_np ?_
              refine block_np ?_
              refine chk_sx h (fun g3121 h => ?_)
              refine chk_sx h (fun g3123 h => ?_)
              refine chk_sx h (fun g3126 h => ?_)
              refine chk_sx h (fun g3128 h => ?_)
              refine seq_cut (A := Unit) (fun _ => ([(1, .ptr 0 0), (2, .ptr 1 0), (4, iS i15), (5, iS k29), (91, bS ((decide ((ix (ix xh.Objects i15) k29) < (-1))) || (decide (((xh.Objects.length : Nat) : Int) ≤ (ix (ix xh.Objects i15) k29)))))], [(0, .row 25 (Enc.cells xh)), (1, .row 30 [iS 0, iS 0])], 25)) (fun _ => True) (fun K3119 hK3119 => ?_) (fun _ _ => ?_)
              · refine reg_t ?_
                have k3120 : 0 ≤ i15 ∧ i15 < ((xh.Objects.length : Nat) : Int) := by first | simpa only [Bool.and_eq_true, decide_eq_true_eq, bne_iff_ne, ne_eq] using g3121 | (simp at g3121 ⊢; omega)
                have k3122 : 0 ≤ k29 ∧ k29 < (((ix xh.Objects i15).length : Nat) : Int) := by first | simpa only [Bool.and_eq_true, decide_eq_true_eq, bne_iff_ne, ne_eq] using g3123 | (simp at g3123 ⊢; omega)
                refine rs 10 [none, none, none, some ⟨.iptr (fl xh.Objects) ((i15).toNat * 1), [], 5, []⟩, some ⟨.sl (ix xh.Objects i15).length (fl (ix xh.Objects i15)), [], 6, []⟩, none, some ⟨.iptr (fl (ix xh.Objects i15)) ((k29).toNat * 1), [], 8, []⟩, some ⟨iS (ix (ix xh.Objects i15) k29), [], 9, []⟩] _ (by kernel_rfl) (allP_cons (ob_ld (ix xh.Objects i15) k29 1 0 ((k29).toNat * 1) k3122 rfl (by decide) (by first | rfl | omega) (dflS Try.prog 3) (iS (ix (ix xh.Objects i15) k29)) rfl 9 []) (allP_cons (ob_ix_l (ix xh.Objects i15) 1 8 k29 k3122) (allP_cons (ob_ld xh.Objects i15 1 0 ((i15).toNat * 1) k3120 rfl (by decide) (by first | rfl | omega) (dflS Try.prog 23) (.sl (ix xh.Objects i15).length (fl (ix xh.Objects i15))) rfl 6 []) (allP_cons (ob_ix_l xh.Objects 1 5 i15 k3120) allP_nil)))) ?_
                refine run_split 78 (decide ((ix (ix xh.Objects i15) k29) < (-1))) (.inl (by kernel_rfl)) (fun g3124 => ?_) (fun g3124 => ?_)
                · refine rs 13 [] [] (by kernel_rfl) allP_nil ?_
                  refine rt [(1, .ptr 0 0), (2, .ptr 1 0), (4, iS i15), (5, iS k29), (91, bS true)] [(0, .row 25 (Enc.cells xh)), (1, .row 30 [iS 0, iS 0])] 25 follows (by kernel_rfl) ?_
                  exact hK3119 () _ _ _ trivial (leSt_m [(0, 0), (1, 1)] [] (by (try simp only [g3124]) <;> simp only [push_cast, leL_flD, renL_flD, seval]) (by (try simp only [g3124]) <;> simp only [push_cast, leL_flD, renL_flD, seval]) rfl rfl rfl)
                · have k3125 : 0 ≤ i15 ∧ i15 < ((xh.Objects.length : Nat) : Int) := by have e := or_use g3126 (by first | ((try simp only [g3124]) <;> rfl) | ((try simp only [g3124]); rfl) | (exfalso; clear h; simp_all; done)); first | simpa only [Bool.and_eq_true, decide_eq_true_eq, bne_iff_ne, ne_eq] using e | (simp at e ⊢; omega)
                  have k3127 : 0 ≤ k29 ∧ k29 < (((ix xh.Objects i15).length : Nat) : Int) := by have e := or_use g3128 (by first | ((try simp only [g3124]) <;> rfl) | ((try simp only [g3124]); rfl) | (exfalso; clear h; simp_all; done)); first | simpa only [Bool.and_eq_true, decide_eq_true_eq, bne_iff_ne, ne_eq] using e | (simp at e ⊢; omega)
                  refine rs 13 [none, none, none, some ⟨.iptr (fl xh.Objects) ((i15).toNat * 1), [], 15, []⟩, some ⟨.sl (ix xh.Objects i15).length (fl (ix xh.Objects i15)), [], 16, []⟩, none, some ⟨.iptr (fl (ix xh.Objects i15)) ((k29).toNat * 1), [], 18, []⟩, some ⟨iS (ix (ix xh.Objects i15) k29), [], 19, []⟩] _ (by kernel_rfl) (allP_cons (ob_ld (ix xh.Objects i15) k29 1 0 ((k29).toNat * 1) k3127 rfl (by decide) (by first | rfl | omega) (dflS Try.prog 3) (iS (ix (ix xh.Objects i15) k29)) rfl 19 []) (allP_cons (ob_ix_l (ix xh.Objects i15) 1 18 k29 k3127) (allP_cons (ob_ld xh.Objects i15 1 0 ((i15).toNat * 1) k3125 rfl (by decide) (by first | rfl | omega) (dflS Try.prog 23) (.sl (ix xh.Objects i15).length (fl (ix xh.Objects i15))) rfl 16 []) (allP_cons (ob_ix_l xh.Objects 1 15 i15 k3125) allP_nil)))) ?_
                  refine rt [(1, .ptr 0 0), (2, .ptr 1 0), (4, iS i15), (5, iS k29), (91, bS (decide (((xh.Objects.length : Nat) : Int) ≤ (ix (ix xh.Objects i15) k29))))] [(0, .row 25 (Enc.cells xh)), (1, .row 30 [iS 0, iS 0])] 25 follows (by kernel_rfl) ?_
                  exact hK3119 () _ _ _ trivial (leSt_m [(0, 0), (1, 1)] [] (by (try simp only [g3124]) <;> simp only [push_cast, leL_flD, renL_flD, seval]) (by (try simp only [g3124]) <;> simp only [push_cast, leL_flD, renL_flD, seval]) rfl rfl rfl)
              · dsimp only
                refine cond_sx h (by kernel_rfl) (fun g3131 h => ?_) (fun g3131 h => ?_)
                · refine seq_np ?_
                  refine reg_f ?_
                  refine rs 1 [] [] (by kernel_rfl) allP_nil ?_
                  obtain ⟨r3130, hr3130, h⟩ := bind_sx h
                  refine run_call 20 [iS 5, iS i15] (some 93) (by kernel_rfl) ?_
                  refine call_0 (taskmillref_F_spec 5 i15 r3130 hr3130) (by simp only [push_cast, leL_flD, renL_flD, seval]) (by simp only [push_cast, leL_flD, renL_flD, seval]) ?_
                  refine back_f ?_
                  refine rs 1 [] [] (by kernel_rfl) allP_nil ?_
                  refine rf [(2, .ptr 1 0)] [(0, .row 25 (Enc.cells xh)), (1, .row 30 (Enc.cells r3130))] 25 (by kernel_rfl) ?_
                  refine wk_id ?_
                  refine rt_cast ht6 ?_
                  obtain ⟨r0, h, e0⟩ := map_sx h
                  have e1 := hr6 r0 e0.symm
                  subst r0
                  refine rt_cast ht5 ?_
                  obtain ⟨r0, h, e0⟩ := map_sx h
                  have e1 := hr5 r0 e0.symm
                  subst r0
                  obtain rfl := Option.some.inj h
                  refine ret_at (.agg (Enc.cells r3130)) (by kernel_rfl) ?_
                  exact ret_e [] [] (by simp only [push_cast, leL_flD, renL_flD, seval]) (by simp only [push_cast, leL_flD, renL_flD, seval]) rfl rfl rfl
                · refine wk_id ?_
                  refine wk_id ?_
                  refine reg_f ?_
                  refine rs 3 [] [] (by kernel_rfl) allP_nil ?_
                  refine rf [(1, .ptr 0 0), (2, .ptr 1 0), (4, iS i15), (5, iS (IntKind.i64.wrap (k29 + 1)))] [(0, .row 25 (Enc.cells xh)), (1, .row 30 [iS 0, iS 0])] 25 (by kernel_rfl) ?_
                  exact hn6 ((IntKind.i64.wrap (k29 + 1))) _ _ _ (Option.some.inj h).symm (leSt_m [(0, 0), (1, 1)] [] (by simp only [push_cast, leL_flD, renL_flD, seval]) (by simp only [push_cast, leL_flD, renL_flD, seval]) rfl rfl rfl)
            · change R6 (.exit 4) _ _ _
              refine ex_cast hx6 (id := 4) ?_
              obtain ⟨r0, h, e0⟩ := map_sx h
              have e1 := hr6 r0 e0.symm
              subst r0
              refine wk_id ?_
              refine wk_id ?_
              refine wk_id ?_
              refine reg_f ?_
              refine rs 3 [] [] (by kernel_rfl) allP_nil ?_
              refine rf [(1, .ptr 0 0), (2, .ptr 1 0), (4, iS (IntKind.i64.wrap (i15 + 1)))] [(0, .row 25 (Enc.cells xh)), (1, .row 30 [iS 0, iS 0])] 2 (by kernel_rfl) ?_
              exact hn5 ((IntKind.i64.wrap (i15 + 1))) _ _ _ (Option.some.inj h).symm (leSt_m [(0, 0), (1, 1)] [] (by simp only [push_cast, leL_flD, renL_flD, seval]) (by simp only [push_cast, leL_flD, renL_flD, seval]) rfl rfl rfl)
        · change R5 (.exit 2) _ _ _
          refine ex_cast hx5 (id := 2) ?_
          obtain ⟨r0, h, e0⟩ := map_sx h
          have e1 := hr5 r0 e0.symm
          subst r0
          refine wk_id ?_
          refine wk_id ?_
          refine seq_np ?_
          refine reg_f ?_
          refine rs 2 [] [] (by kernel_rfl) allP_nil ?_
          refine rf [(2, .ptr 1 0)] [(0, .row 25 (Enc.cells xh)), (1, .row 30 [iS 0, iS 0])] 2 (by kernel_rfl) ?_
          refine wk_id ?_
          obtain rfl := Option.some.inj h
          refine ret_at (.agg [iS 0, iS 0]) (by kernel_rfl) ?_
          exact ret_e [] [] (by simp only [push_cast, leL_flD, renL_flD, seval]) (by simp only [push_cast, leL_flD, renL_flD, seval]) rfl rfl rfl

set_option maxRecDepth 100000 in
set_option maxHeartbeats 200000000 in
theorem taskmillref_Reached_spec (xh : GHeap) (r : (List Bool)) (h : taskmillref_Reached xh = some r) : SpecW Try.prog 18 [.agg (Enc.cells xh)] [] 0 (fun x h n => x = .own 0 0 r.length ∧ h = [(0, .row 4 (fl r))] ∧ n = 1) := by
  unfold taskmillref_Reached at h
  refine spec_of (draw_ok _) Try.func18 rfl (by decide) rfl (by kernel_rfl) ?_
  refine seq_np ?_
  refine reg_f ?_
  refine rs 2 [] [] (by kernel_rfl) allP_nil ?_
  refine rf [(1, .ptr 0 0)] [(0, .row 25 (Enc.cells xh))] 1 (by kernel_rfl) ?_
  refine wk_id ?_
  refine chk_sx h (fun g3813 h => ?_)
  refine seq_np ?_
  refine reg_f ?_
  have k3812 : 0 ≤ ((xh.Objects.length : Nat) : Int) ∧ ((xh.Objects.length : Nat) : Int) ≤ 4611686018427387904 ∧ (1 : Int) * ((xh.Objects.length : Nat) : Int) ≤ 140737488355328 := by first | simpa only [Bool.and_eq_true, decide_eq_true_eq, bne_iff_ne, ne_eq] using g3813 | (simp at g3813 ⊢; omega)
  refine rs 5 [none, none, none, some ⟨.own 1 0 (List.replicate (((xh.Objects.length : Nat) : Int)).toNat (default : Bool)).length, [(1, .row 4 (fl (List.replicate (((xh.Objects.length : Nat) : Int)).toNat (default : Bool))))], 2, []⟩] _ (by kernel_rfl) (allP_cons (ob_mk (P := Try.prog) (α := Bool) ((xh.Objects.length : Nat) : Int) 4 1 (by kernel_rfl) [bS false] rfl 1 rfl (by decide) k3812 1) allP_nil) ?_
  refine rf [(1, .ptr 0 0), (3, .own 1 0 (List.replicate (((xh.Objects.length : Nat) : Int)).toNat (default : Bool)).length)] [(0, .row 25 (Enc.cells xh)), (1, .row 4 (fl (List.replicate (((xh.Objects.length : Nat) : Int)).toNat (default : Bool))))] 2 (by kernel_rfl) ?_
  refine wk_id ?_
  refine seq_np ?_
  refine seq_np ?_
  refine reg_f ?_
  refine rs 1 [] [] (by kernel_rfl) allP_nil ?_
  refine rf [(1, .ptr 0 0), (3, .own 1 0 (List.replicate (((xh.Objects.length : Nat) : Int)).toNat (default : Bool)).length), (4, iS 0)] [(0, .row 25 (Enc.cells xh)), (1, .row 4 (fl (List.replicate (((xh.Objects.length : Nat) : Int)).toNat (default : Bool))))] 2 (by kernel_rfl) ?_
  refine wk_id ?_
  refine block_np ?_
  refine loop_sx (S := Int × (List Bool)) (fun a => ([(1, .ptr 0 0), (3, .own 1 0 a.2.length), (4, iS a.1)], [(0, .row 25 (Enc.cells xh)), (1, .row 4 (fl a.2))], 2)) h (leSt_m [(0, 0), (1, 1)] [] (by simp only [push_cast, leL_flD, renL_flD, seval]) (by simp only [push_cast, leL_flD, renL_flD, seval]) rfl rfl rfl) ?_
  rintro ⟨i13, c1q71⟩ o5 R5 h hr5 hn5 hx5 ht5
  try dsimp only at h hn5 ⊢
  unfold taskmillref_Reached_l4 at h
  try dsimp only at h
  refine seq_np ?_
  refine seq_np ?_
  refine reg_f ?_
  refine rs 5 [] [] (by kernel_rfl) allP_nil ?_
  refine rf [(1, .ptr 0 0), (3, .own 1 0 c1q71.length), (4, iS i13), (17, bS (decide (i13 < ((xh.Roots.length : Nat) : Int))))] [(0, .row 25 (Enc.cells xh)), (1, .row 4 (fl c1q71))] 2 (by kernel_rfl) ?_
  refine wk_id ?_
  refine cond_sx h (by kernel_rfl) (fun g5670 h => ?_) (fun g5670 h => ?_)
  · refine wk_id ?_
    refine seq_np ?_
    refine block_cut (A := (List Bool)) (fun a => ([(1, .ptr 0 0), (3, .own 1 0 a.length), (4, iS i13)], [(0, .row 25 (Enc.cells xh)), (1, .row 4 (fl a))], 2)) (fun a => (taskmillref_Reached_j1 xh i13 a) = some o5) (fun K3915 hK3915 => ?_) ?_
    · refine chk_sx h (fun g3919 h => ?_)
      refine seq_np ?_
      refine reg_f ?_
      have k3918 : 0 ≤ i13 ∧ i13 < ((xh.Roots.length : Nat) : Int) := by first | simpa only [Bool.and_eq_true, decide_eq_true_eq, bne_iff_ne, ne_eq] using g3919 | (simp at g3919 ⊢; omega)
      refine rs 6 [none, none, none, some ⟨.iptr (fl xh.Roots) ((i13).toNat * 1), [], 2, []⟩, some ⟨iS (ix xh.Roots i13), [], 2, []⟩] _ (by kernel_rfl) (allP_cons (ob_ld xh.Roots i13 1 0 ((i13).toNat * 1) k3918 rfl (by decide) (by first | rfl | omega) (dflS Try.prog 3) (iS (ix xh.Roots i13)) rfl 2 []) (allP_cons (ob_ix_l xh.Roots 1 2 i13 k3918) allP_nil)) ?_
      refine rf [(1, .ptr 0 0), (3, .own 1 0 c1q71.length), (4, iS i13), (25, bS (decide ((0 : Int) ≤ (ix xh.Roots i13))))] [(0, .row 25 (Enc.cells xh)), (1, .row 4 (fl c1q71))] 2 (by kernel_rfl) ?_
      refine wk_id ?_
      refine cond_sx h (by kernel_rfl) (fun g3928 h => ?_) (fun g3928 h => ?_)
      · refine chk_sx h (fun g3925 h => ?_)
        refine chk_sx h (fun g3927 h => ?_)
        refine reg_f ?_
        have k3924 : 0 ≤ i13 ∧ i13 < ((xh.Roots.length : Nat) : Int) := by first | simpa only [Bool.and_eq_true, decide_eq_true_eq, bne_iff_ne, ne_eq] using g3925 | (simp at g3925 ⊢; omega)
        have k3926 : 0 ≤ (ix xh.Roots i13) ∧ (ix xh.Roots i13) < ((c1q71.length : Nat) : Int) := by first | simpa only [Bool.and_eq_true, decide_eq_true_eq, bne_iff_ne, ne_eq] using g3927 | (simp at g3927 ⊢; omega)
        refine rs 8 [none, none, none, none, some ⟨.iptr (fl xh.Roots) ((i13).toNat * 1), [], 2, []⟩, some ⟨iS (ix xh.Roots i13), [], 2, []⟩, some ⟨.ptr 1 (0 + ((ix xh.Roots i13)).toNat * 1), [], 2, [1]⟩, some ⟨.any, [(1, .row 4 (fl (c1q71.set (ix xh.Roots i13).toNat true)))], 2, [1]⟩] _ (by kernel_rfl) (allP_cons (ob_st (P := Try.prog) c1q71 (ix xh.Roots i13) 1 0 (0 + ((ix xh.Roots i13)).toNat * 1) k3926 rfl [bS true] true (Nat.le_of_ble_eq_true rfl) (by first | rfl | omega) rfl 1 2 4 4 (by kernel_rfl) rfl) (allP_cons (ob_ix_o 1 c1q71.length 0 1 2 (ix xh.Roots i13) k3926) (allP_cons (ob_ld xh.Roots i13 1 0 ((i13).toNat * 1) k3924 rfl (by decide) (by first | rfl | omega) (dflS Try.prog 3) (iS (ix xh.Roots i13)) rfl 2 []) (allP_cons (ob_ix_l xh.Roots 1 2 i13 k3924) allP_nil)))) ?_
        refine run_eqF 3 (.own 1 0 c1q71.length) (.own 1 0 (c1q71.set (ix xh.Roots i13).toNat true).length) (congrArg (fun nq => (.own 1 0 nq : SV)) (show c1q71.length = (c1q71.set (ix xh.Roots i13).toNat true).length from (List.length_set ..).symm)) (by kernel_rfl) ?_
        refine rf [(1, .ptr 0 0), (3, .own 1 0 (c1q71.set (ix xh.Roots i13).toNat true).length), (4, iS i13)] [(0, .row 25 (Enc.cells xh)), (1, .row 4 (fl (c1q71.set (ix xh.Roots i13).toNat true)))] 2 (by kernel_rfl) ?_
        exact hK3915 ((c1q71.set (ix xh.Roots i13).toNat true)) _ _ _ h (leSt_m [(0, 0), (1, 1)] [] (by simp only [push_cast, leL_flD, renL_flD, seval]) (by simp only [push_cast, leL_flD, renL_flD, seval]) rfl rfl rfl)
      · exact hK3915 (c1q71) _ _ _ h (leSt_m [(0, 0), (1, 1)] [] (by simp only [push_cast, leL_flD, renL_flD, seval]) (by simp only [push_cast, leL_flD, renL_flD, seval]) rfl rfl rfl)
    · rintro c1q73 h
      try dsimp only at h ⊢
      unfold taskmillref_Reached_j1 at h
      refine wk_id ?_
      refine reg_f ?_
      refine rs 3 [] [] (by kernel_rfl) allP_nil ?_
      refine rf [(1, .ptr 0 0), (3, .own 1 0 c1q73.length), (4, iS (IntKind.i64.wrap (i13 + 1)))] [(0, .row 25 (Enc.cells xh)), (1, .row 4 (fl c1q73))] 2 (by kernel_rfl) ?_
      exact hn5 ((IntKind.i64.wrap (i13 + 1)), c1q73) _ _ _ (Option.some.inj h).symm (leSt_m [(0, 0), (1, 1)] [] (by simp only [push_cast, leL_flD, renL_flD, seval]) (by simp only [push_cast, leL_flD, renL_flD, seval]) rfl rfl rfl)
  · change R5 (.exit 0) _ _ _
    refine ex_cast hx5 (id := 0) ?_
    obtain ⟨r0, h, e0⟩ := map_sx h
    have e1 := hr5 r0 e0.symm
    subst r0
    refine wk_id ?_
    refine wk_id ?_
    refine seq_np ?_
    refine seq_np ?_
    refine reg_f ?_
    refine rs 1 [] [] (by kernel_rfl) allP_nil ?_
    refine rf [(1, .ptr 0 0), (3, .own 1 0 c1q71.length), (5, bS true)] [(0, .row 25 (Enc.cells xh)), (1, .row 4 (fl c1q71))] 2 (by kernel_rfl) ?_
    refine wk_id ?_
    refine block_np ?_
    refine loop_sx (S := Bool × (List Bool)) (fun a => ([(1, .ptr 0 0), (3, .own 1 0 a.2.length), (5, bS a.1)], [(0, .row 25 (Enc.cells xh)), (1, .row 4 (fl a.2))], 2)) h (leSt_m [(0, 0), (1, 1)] [] (by simp only [push_cast, leL_flD, renL_flD, seval]) (by simp only [push_cast, leL_flD, renL_flD, seval]) rfl rfl rfl) ?_
    rintro ⟨again194, c1q215⟩ o6 R6 h hr6 hn6 hx6 ht6
    try dsimp only at h hn6 ⊢
    unfold taskmillref_Reached_l3 at h
    try dsimp only at h
    refine seq_np ?_
    refine seq_np ?_
    refine reg_f ?_
    refine rs 1 [] [] (by kernel_rfl) allP_nil ?_
    refine rf [(1, .ptr 0 0), (3, .own 1 0 c1q215.length), (33, bS again194)] [(0, .row 25 (Enc.cells xh)), (1, .row 4 (fl c1q215))] 2 (by kernel_rfl) ?_
    refine wk_id ?_
    refine cond_sx h (by kernel_rfl) (fun g5669 h => ?_) (fun g5669 h => ?_)
    · refine wk_id ?_
      refine block_np ?_
      refine seq_np ?_
      refine reg_f ?_
      refine rs 1 [] [] (by kernel_rfl) allP_nil ?_
      refine rf [(1, .ptr 0 0), (3, .own 1 0 c1q215.length), (5, bS false)] [(0, .row 25 (Enc.cells xh)), (1, .row 4 (fl c1q215))] 2 (by kernel_rfl) ?_
      refine wk_id ?_
      refine seq_np ?_
      refine reg_f ?_
      refine rs 1 [] [] (by kernel_rfl) allP_nil ?_
      refine rf [(1, .ptr 0 0), (3, .own 1 0 c1q215.length), (5, bS false), (6, iS 0)] [(0, .row 25 (Enc.cells xh)), (1, .row 4 (fl c1q215))] 2 (by kernel_rfl) ?_
      refine wk_id ?_
      refine block_np ?_
      refine loop_sx (S := Bool × Int × (List Bool)) (fun a => ([(1, .ptr 0 0), (3, .own 1 0 a.2.2.length), (5, bS a.1), (6, iS a.2.1)], [(0, .row 25 (Enc.cells xh)), (1, .row 4 (fl a.2.2))], 2)) h (leSt_m [(0, 0), (1, 1)] [] (by simp only [push_cast, leL_flD, renL_flD, seval]) (by simp only [push_cast, leL_flD, renL_flD, seval]) rfl rfl rfl) ?_
      rintro ⟨again206, i31, c1q227⟩ o7 R7 h hr7 hn7 hx7 ht7
      try dsimp only at h hn7 ⊢
      unfold taskmillref_Reached_l2 at h
      try dsimp only at h
      refine seq_np ?_
      refine seq_np ?_
      refine reg_f ?_
      refine rs 4 [] [] (by kernel_rfl) allP_nil ?_
      refine rf [(1, .ptr 0 0), (3, .own 1 0 c1q227.length), (5, bS again206), (6, iS i31), (37, bS (decide (i31 < ((c1q227.length : Nat) : Int))))] [(0, .row 25 (Enc.cells xh)), (1, .row 4 (fl c1q227))] 2 (by kernel_rfl) ?_
      refine wk_id ?_
      refine cond_sx h (by kernel_rfl) (fun g5668 h => ?_) (fun g5668 h => ?_)
      · refine wk_id ?_
        refine seq_np ?_
        refine block_np ?_
        refine seq_np ?_
        refine reg_f ?_
        refine rs 1 [] [] (by kernel_rfl) allP_nil ?_
        refine rf [(1, .ptr 0 0), (3, .own 1 0 c1q227.length), (5, bS again206), (6, iS i31), (7, iS 0)] [(0, .row 25 (Enc.cells xh)), (1, .row 4 (fl c1q227))] 2 (by kernel_rfl) ?_
        refine wk_id ?_
        refine block_np ?_
        refine loop_sx (S := Bool × Int × (List Bool)) (fun a => ([(1, .ptr 0 0), (3, .own 1 0 a.2.2.length), (5, bS a.1), (6, iS i31), (7, iS a.2.1)], [(0, .row 25 (Enc.cells xh)), (1, .row 4 (fl a.2.2))], 2)) h (leSt_m [(0, 0), (1, 1)] [] (by simp only [push_cast, leL_flD, renL_flD, seval]) (by simp only [push_cast, leL_flD, renL_flD, seval]) rfl rfl rfl) ?_
        rintro ⟨again225, k77, c1q246⟩ o8 R8 h hr8 hn8 hx8 ht8
        try dsimp only at h hn8 ⊢
        unfold taskmillref_Reached_l1 at h
        try dsimp only at h
        refine seq_np ?_
        refine chk_sx h (fun g5619 h => ?_)
        refine chk_sx h (fun g5622 h => ?_)
        refine seq_cut (A := Unit) (fun _ => ([(1, .ptr 0 0), (3, .own 1 0 c1q246.length), (5, bS again225), (6, iS i31), (7, iS k77), (53, bS ((decide (k77 < (((ix xh.Objects i31).length : Nat) : Int))) && (ix c1q246 i31)))], [(0, .row 25 (Enc.cells xh)), (1, .row 4 (fl c1q246))], 2)) (fun _ => True) (fun K5617 hK5617 => ?_) (fun _ _ => ?_)
        · refine reg_f ?_
          have k5618 : 0 ≤ i31 ∧ i31 < ((xh.Objects.length : Nat) : Int) := by first | simpa only [Bool.and_eq_true, decide_eq_true_eq, bne_iff_ne, ne_eq] using g5619 | (simp at g5619 ⊢; omega)
          refine rs 9 [none, none, none, none, some ⟨.iptr (fl xh.Objects) ((i31).toNat * 1), [], 2, []⟩, some ⟨.sl (ix xh.Objects i31).length (fl (ix xh.Objects i31)), [], 2, []⟩] _ (by kernel_rfl) (allP_cons (ob_ld xh.Objects i31 1 0 ((i31).toNat * 1) k5618 rfl (by decide) (by first | rfl | omega) (dflS Try.prog 23) (.sl (ix xh.Objects i31).length (fl (ix xh.Objects i31))) rfl 2 []) (allP_cons (ob_ix_l xh.Objects 1 2 i31 k5618) allP_nil)) ?_
          refine run_split 48 (decide (k77 < (((ix xh.Objects i31).length : Nat) : Int))) (.inl (by kernel_rfl)) (fun g5620 => ?_) (fun g5620 => ?_)
          · have k5621 : 0 ≤ i31 ∧ i31 < ((c1q246.length : Nat) : Int) := by have e := or_use g5622 (by first | ((try simp only [g5620]) <;> rfl) | ((try simp only [g5620]); rfl) | (exfalso; clear h; simp_all; done)); first | simpa only [Bool.and_eq_true, decide_eq_true_eq, bne_iff_ne, ne_eq] using e | (simp at e ⊢; omega)
            refine rs 5 [none, none, some ⟨.ptr 1 (0 + (i31).toNat * 1), [], 2, [1]⟩, some ⟨bS (ix c1q246 i31), [], 2, [1]⟩] _ (by kernel_rfl) (allP_cons (ob_ld c1q246 i31 1 0 (0 + (i31).toNat * 1) k5621 rfl (by decide) (by first | rfl | omega) (dflS Try.prog 4) (bS (ix c1q246 i31)) rfl 2 [1]) (allP_cons (ob_ix_o 1 c1q246.length 0 1 2 i31 k5621) allP_nil)) ?_
            refine rf [(1, .ptr 0 0), (3, .own 1 0 c1q246.length), (5, bS again225), (6, iS i31), (7, iS k77), (53, bS (ix c1q246 i31))] [(0, .row 25 (Enc.cells xh)), (1, .row 4 (fl c1q246))] 2 (by kernel_rfl) ?_
            exact hK5617 () _ _ _ trivial (leSt_m [(0, 0), (1, 1)] [] (by (try simp only [g5620]) <;> simp only [push_cast, leL_flD, renL_flD, seval]) (by (try simp only [g5620]) <;> simp only [push_cast, leL_flD, renL_flD, seval]) rfl rfl rfl)
          · refine rs 5 [] [] (by kernel_rfl) allP_nil ?_
            refine rf [(1, .ptr 0 0), (3, .own 1 0 c1q246.length), (5, bS again225), (6, iS i31), (7, iS k77), (53, bS false)] [(0, .row 25 (Enc.cells xh)), (1, .row 4 (fl c1q246))] 2 (by kernel_rfl) ?_
            exact hK5617 () _ _ _ trivial (leSt_m [(0, 0), (1, 1)] [] (by (try simp only [g5620]) <;> simp only [push_cast, leL_flD, renL_flD, seval]) (by (try simp only [g5620]) <;> simp only [push_cast, leL_flD, renL_flD, seval]) rfl rfl rfl)
        · dsimp only
          refine cond_sx h (by kernel_rfl) (fun g5667 h => ?_) (fun g5667 h => ?_)
          · refine wk_id ?_
            refine seq_np ?_
            refine block_cut (A := Bool × (List Bool)) (fun a => ([(1, .ptr 0 0), (3, .own 1 0 a.2.length), (5, bS a.1), (6, iS i31), (7, iS k77)], [(0, .row 25 (Enc.cells xh)), (1, .row 4 (fl a.2))], 2)) (fun a => (taskmillref_Reached_j2 xh i31 k77 a.1 a.2) = some o8) (fun K5646 hK5646 => ?_) ?_
            · refine chk_sx h (fun g5652 h => ?_)
              refine chk_sx h (fun g5654 h => ?_)
              refine seq_np ?_
              refine reg_f ?_
              have k5651 : 0 ≤ i31 ∧ i31 < ((xh.Objects.length : Nat) : Int) := by first | simpa only [Bool.and_eq_true, decide_eq_true_eq, bne_iff_ne, ne_eq] using g5652 | (simp at g5652 ⊢; omega)
              have k5653 : 0 ≤ k77 ∧ k77 < (((ix xh.Objects i31).length : Nat) : Int) := by first | simpa only [Bool.and_eq_true, decide_eq_true_eq, bne_iff_ne, ne_eq] using g5654 | (simp at g5654 ⊢; omega)
              refine rs 9 [none, none, none, some ⟨.iptr (fl xh.Objects) ((i31).toNat * 1), [], 2, []⟩, some ⟨.sl (ix xh.Objects i31).length (fl (ix xh.Objects i31)), [], 2, []⟩, none, some ⟨.iptr (fl (ix xh.Objects i31)) ((k77).toNat * 1), [], 2, []⟩, some ⟨iS (ix (ix xh.Objects i31) k77), [], 2, []⟩] _ (by kernel_rfl) (allP_cons (ob_ld (ix xh.Objects i31) k77 1 0 ((k77).toNat * 1) k5653 rfl (by decide) (by first | rfl | omega) (dflS Try.prog 3) (iS (ix (ix xh.Objects i31) k77)) rfl 2 []) (allP_cons (ob_ix_l (ix xh.Objects i31) 1 2 k77 k5653) (allP_cons (ob_ld xh.Objects i31 1 0 ((i31).toNat * 1) k5651 rfl (by decide) (by first | rfl | omega) (dflS Try.prog 23) (.sl (ix xh.Objects i31).length (fl (ix xh.Objects i31))) rfl 2 []) (allP_cons (ob_ix_l xh.Objects 1 2 i31 k5651) allP_nil)))) ?_
              refine rf [(1, .ptr 0 0), (3, .own 1 0 c1q246.length), (5, bS again225), (6, iS i31), (7, iS k77), (8, iS (ix (ix xh.Objects i31) k77))] [(0, .row 25 (Enc.cells xh)), (1, .row 4 (fl c1q246))] 2 (by kernel_rfl) ?_
              refine wk_id ?_
              refine chk_sx h (fun g5661 h => ?_)
              refine seq_cut (A := Unit) (fun _ => ([(1, .ptr 0 0), (3, .own 1 0 c1q246.length), (5, bS again225), (6, iS i31), (7, iS k77), (8, iS (ix (ix xh.Objects i31) k77)), (72, bS ((decide ((0 : Int) ≤ (ix (ix xh.Objects i31) k77))) && (!(ix c1q246 (ix (ix xh.Objects i31) k77)))))], [(0, .row 25 (Enc.cells xh)), (1, .row 4 (fl c1q246))], 2)) (fun _ => True) (fun K5658 hK5658 => ?_) (fun _ _ => ?_)
              · refine reg_f ?_
                refine rs 3 [] [] (by kernel_rfl) allP_nil ?_
                refine run_split 66 (decide ((0 : Int) ≤ (ix (ix xh.Objects i31) k77))) (.inl (by kernel_rfl)) (fun g5659 => ?_) (fun g5659 => ?_)
                · have k5660 : 0 ≤ (ix (ix xh.Objects i31) k77) ∧ (ix (ix xh.Objects i31) k77) < ((c1q246.length : Nat) : Int) := by have e := or_use g5661 (by first | ((try simp only [g5659]) <;> rfl) | ((try simp only [g5659]); rfl) | (exfalso; clear h; simp_all; done)); first | simpa only [Bool.and_eq_true, decide_eq_true_eq, bne_iff_ne, ne_eq] using e | (simp at e ⊢; omega)
                  refine rs 6 [none, none, some ⟨.ptr 1 (0 + ((ix (ix xh.Objects i31) k77)).toNat * 1), [], 2, [1]⟩, some ⟨bS (ix c1q246 (ix (ix xh.Objects i31) k77)), [], 2, [1]⟩] _ (by kernel_rfl) (allP_cons (ob_ld c1q246 (ix (ix xh.Objects i31) k77) 1 0 (0 + ((ix (ix xh.Objects i31) k77)).toNat * 1) k5660 rfl (by decide) (by first | rfl | omega) (dflS Try.prog 4) (bS (ix c1q246 (ix (ix xh.Objects i31) k77))) rfl 2 [1]) (allP_cons (ob_ix_o 1 c1q246.length 0 1 2 (ix (ix xh.Objects i31) k77) k5660) allP_nil)) ?_
                  refine rf [(1, .ptr 0 0), (3, .own 1 0 c1q246.length), (5, bS again225), (6, iS i31), (7, iS k77), (8, iS (ix (ix xh.Objects i31) k77)), (72, bS (!(ix c1q246 (ix (ix xh.Objects i31) k77))))] [(0, .row 25 (Enc.cells xh)), (1, .row 4 (fl c1q246))] 2 (by kernel_rfl) ?_
                  exact hK5658 () _ _ _ trivial (leSt_m [(0, 0), (1, 1)] [] (by (try simp only [g5659]) <;> simp only [push_cast, leL_flD, renL_flD, seval]) (by (try simp only [g5659]) <;> simp only [push_cast, leL_flD, renL_flD, seval]) rfl rfl rfl)
                · refine rs 6 [] [] (by kernel_rfl) allP_nil ?_
                  refine rf [(1, .ptr 0 0), (3, .own 1 0 c1q246.length), (5, bS again225), (6, iS i31), (7, iS k77), (8, iS (ix (ix xh.Objects i31) k77)), (72, bS false)] [(0, .row 25 (Enc.cells xh)), (1, .row 4 (fl c1q246))] 2 (by kernel_rfl) ?_
                  exact hK5658 () _ _ _ trivial (leSt_m [(0, 0), (1, 1)] [] (by (try simp only [g5659]) <;> simp only [push_cast, leL_flD, renL_flD, seval]) (by (try simp only [g5659]) <;> simp only [push_cast, leL_flD, renL_flD, seval]) rfl rfl rfl)
              · dsimp only
                refine cond_sx h (by kernel_rfl) (fun g5666 h => ?_) (fun g5666 h => ?_)
                · refine chk_sx h (fun g5665 h => ?_)
                  refine seq_np ?_
                  refine reg_f ?_
                  have k5664 : 0 ≤ (ix (ix xh.Objects i31) k77) ∧ (ix (ix xh.Objects i31) k77) < ((c1q246.length : Nat) : Int) := by first | simpa only [Bool.and_eq_true, decide_eq_true_eq, bne_iff_ne, ne_eq] using g5665 | (simp at g5665 ⊢; omega)
                  refine rs 4 [none, none, some ⟨.ptr 1 (0 + ((ix (ix xh.Objects i31) k77)).toNat * 1), [], 2, [1]⟩, some ⟨.any, [(1, .row 4 (fl (c1q246.set (ix (ix xh.Objects i31) k77).toNat true)))], 2, [1]⟩] _ (by kernel_rfl) (allP_cons (ob_st (P := Try.prog) c1q246 (ix (ix xh.Objects i31) k77) 1 0 (0 + ((ix (ix xh.Objects i31) k77)).toNat * 1) k5664 rfl [bS true] true (Nat.le_of_ble_eq_true rfl) (by first | rfl | omega) rfl 1 2 4 4 (by kernel_rfl) rfl) (allP_cons (ob_ix_o 1 c1q246.length 0 1 2 (ix (ix xh.Objects i31) k77) k5664) allP_nil)) ?_
                  refine run_eqF 3 (.own 1 0 c1q246.length) (.own 1 0 (c1q246.set (ix (ix xh.Objects i31) k77).toNat true).length) (congrArg (fun nq => (.own 1 0 nq : SV)) (show c1q246.length = (c1q246.set (ix (ix xh.Objects i31) k77).toNat true).length from (List.length_set ..).symm)) (by kernel_rfl) ?_
                  refine rf [(1, .ptr 0 0), (3, .own 1 0 (c1q246.set (ix (ix xh.Objects i31) k77).toNat true).length), (6, iS i31), (7, iS k77)] [(0, .row 25 (Enc.cells xh)), (1, .row 4 (fl (c1q246.set (ix (ix xh.Objects i31) k77).toNat true)))] 2 (by kernel_rfl) ?_
                  refine wk_id ?_
                  refine reg_f ?_
                  refine rs 1 [] [] (by kernel_rfl) allP_nil ?_
                  refine rf [(1, .ptr 0 0), (3, .own 1 0 (c1q246.set (ix (ix xh.Objects i31) k77).toNat true).length), (5, bS true), (6, iS i31), (7, iS k77)] [(0, .row 25 (Enc.cells xh)), (1, .row 4 (fl (c1q246.set (ix (ix xh.Objects i31) k77).toNat true)))] 2 (by kernel_rfl) ?_
                  exact hK5646 (true, (c1q246.set (ix (ix xh.Objects i31) k77).toNat true)) _ _ _ h (leSt_m [(0, 0), (1, 1)] [] (by simp only [push_cast, leL_flD, renL_flD, seval]) (by simp only [push_cast, leL_flD, renL_flD, seval]) rfl rfl rfl)
                · exact hK5646 (again225, c1q246) _ _ _ h (leSt_m [(0, 0), (1, 1)] [] (by simp only [push_cast, leL_flD, renL_flD, seval]) (by simp only [push_cast, leL_flD, renL_flD, seval]) rfl rfl rfl)
            · rintro ⟨again227, c1q248⟩ h
              try dsimp only at h ⊢
              unfold taskmillref_Reached_j2 at h
              refine wk_id ?_
              refine reg_f ?_
              refine rs 3 [] [] (by kernel_rfl) allP_nil ?_
              refine rf [(1, .ptr 0 0), (3, .own 1 0 c1q248.length), (5, bS again227), (6, iS i31), (7, iS (IntKind.i64.wrap (k77 + 1)))] [(0, .row 25 (Enc.cells xh)), (1, .row 4 (fl c1q248))] 2 (by kernel_rfl) ?_
              exact hn8 (again227, (IntKind.i64.wrap (k77 + 1)), c1q248) _ _ _ (Option.some.inj h).symm (leSt_m [(0, 0), (1, 1)] [] (by simp only [push_cast, leL_flD, renL_flD, seval]) (by simp only [push_cast, leL_flD, renL_flD, seval]) rfl rfl rfl)
          · change R8 (.exit 6) _ _ _
            refine ex_cast hx8 (id := 6) ?_
            obtain ⟨r0, h, e0⟩ := map_sx h
            have e1 := hr8 r0 e0.symm
            subst r0
            refine wk_id ?_
            refine wk_id ?_
            refine wk_id ?_
            refine reg_f ?_
            refine rs 3 [] [] (by kernel_rfl) allP_nil ?_
            refine rf [(1, .ptr 0 0), (3, .own 1 0 c1q246.length), (5, bS again225), (6, iS (IntKind.i64.wrap (i31 + 1)))] [(0, .row 25 (Enc.cells xh)), (1, .row 4 (fl c1q246))] 2 (by kernel_rfl) ?_
            exact hn7 (again225, (IntKind.i64.wrap (i31 + 1)), c1q246) _ _ _ (Option.some.inj h).symm (leSt_m [(0, 0), (1, 1)] [] (by simp only [push_cast, leL_flD, renL_flD, seval]) (by simp only [push_cast, leL_flD, renL_flD, seval]) rfl rfl rfl)
      · change R7 (.exit 4) _ _ _
        refine ex_cast hx7 (id := 4) ?_
        obtain ⟨r0, h, e0⟩ := map_sx h
        have e1 := hr7 r0 e0.symm
        subst r0
        refine wk_id ?_
        refine wk_id ?_
        exact hn6 (again206, c1q227) _ _ _ (Option.some.inj h).symm (leSt_m [(0, 0), (1, 1)] [] (by simp only [push_cast, leL_flD, renL_flD, seval]) (by simp only [push_cast, leL_flD, renL_flD, seval]) rfl rfl rfl)
    · change R6 (.exit 2) _ _ _
      refine ex_cast hx6 (id := 2) ?_
      obtain ⟨r0, h, e0⟩ := map_sx h
      have e1 := hr6 r0 e0.symm
      subst r0
      refine wk_id ?_
      refine wk_id ?_
      refine seq_np ?_
      refine reg_f ?_
      refine rs 2 [] [] (by kernel_rfl) allP_nil ?_
      refine rf [(2, .own 1 0 c1q215.length)] [(0, .row 25 (Enc.cells xh)), (1, .row 4 (fl c1q215))] 2 (by kernel_rfl) ?_
      refine wk_id ?_
      obtain rfl := Option.some.inj h
      refine ret_at (.own 1 0 c1q215.length) (by kernel_rfl) ?_
      exact ret_e [(0, 1)] [] (by simp only [push_cast, leL_flD, renL_flD, seval]) (by simp only [push_cast, leL_flD, renL_flD, seval]) rfl rfl rfl

set_option maxRecDepth 100000 in
set_option maxHeartbeats 200000000 in
theorem taskmilllaw_SweepSnapshot_spec (xh : GHeap) (barrier : Int) (acts : (List GAct)) (r : Bool) (h : taskmilllaw_SweepSnapshot xh barrier acts = some r) : SpecW Try.prog 6 [.agg (Enc.cells xh), iS barrier, .sl acts.length (fl acts)] [] 0 (fun x h n => x = bS r ∧ h = [] ∧ n = 0) := by
  unfold taskmilllaw_SweepSnapshot at h
  refine spec_of (draw_ok _) Try.func6 rfl (by decide) rfl (by kernel_rfl) ?_
  refine seq_np ?_
  refine reg_f ?_
  refine rs 2 [] [] (by kernel_rfl) allP_nil ?_
  refine rf [(1, iS barrier), (2, .sl acts.length (fl acts)), (3, .ptr 0 0)] [(0, .row 25 (Enc.cells xh))] 1 (by kernel_rfl) ?_
  refine wk_id ?_
  refine seq_np ?_
  refine seq_np ?_
  refine reg_f ?_
  obtain ⟨r7466, hr7466, h⟩ := bind_sx h
  refine run_call 8 [] (some 17) (by kernel_rfl) ?_
  refine call_0 (taskmilllaw_sweepBegun_spec r7466 hr7466) (by simp only [push_cast, leL_flD, renL_flD, seval]) (by simp only [push_cast, leL_flD, renL_flD, seval]) ?_
  refine back_f ?_
  refine rs 1 [] [] (by kernel_rfl) allP_nil ?_
  refine rf [(1, iS barrier), (2, .sl acts.length (fl acts)), (3, .ptr 0 0), (18, bS (!r7466))] [(0, .row 25 (Enc.cells xh))] 1 (by kernel_rfl) ?_
  refine wk_id ?_
  refine cond_sx h (by kernel_rfl) (fun g7658 h => ?_) (fun g7658 h => ?_)
  · refine seq_np ?_
    refine reg_f ?_
    refine rs 1 [] [] (by kernel_rfl) allP_nil ?_
    refine rf [(6, bS false)] [(0, .row 25 (Enc.cells xh))] 1 (by kernel_rfl) ?_
    refine wk_id ?_
    obtain rfl := Option.some.inj h
    refine ret_at (bS false) (by kernel_rfl) ?_
    exact ret_e [] [] (by simp only [push_cast, leL_flD, renL_flD, seval]) (by simp only [push_cast, leL_flD, renL_flD, seval]) rfl rfl rfl
  · refine wk_id ?_
    refine seq_np ?_
    refine seq_cut (A := Bool) (fun a => ([(1, iS barrier), (2, .sl acts.length (fl acts)), (3, .ptr 0 0), (33, bS a)], [(0, .row 25 (Enc.cells xh))], 1)) (fun a => (taskmilllaw_SweepSnapshot_j3 xh barrier acts a) = some r) (fun K7479 hK7479 => ?_) ?_
    · refine reg_f ?_
      refine rs 1 [] [] (by kernel_rfl) allP_nil ?_
      obtain ⟨r7480, hr7480, h⟩ := bind_sx h
      refine run_call 9 [.agg (Enc.cells xh)] (some 20) (by kernel_rfl) ?_
      refine call_0 (taskmilllaw_vastHeap_spec xh r7480 hr7480) (by simp only [push_cast, leL_flD, renL_flD, seval]) (by simp only [push_cast, leL_flD, renL_flD, seval]) ?_
      refine back_f ?_
      refine rs 1 [] [] (by kernel_rfl) allP_nil ?_
      refine run_br h 21 (.inl (by kernel_rfl)) (fun g7481 h => ?_) (fun g7481 h => ?_)
      · refine rs 12 [] [] (by kernel_rfl) allP_nil ?_
        refine rf [(1, iS barrier), (2, .sl acts.length (fl acts)), (3, .ptr 0 0), (33, bS true)] [(0, .row 25 (Enc.cells xh))] 1 (by kernel_rfl) ?_
        exact hK7479 (true) _ _ _ h (leSt_m [(0, 0)] [] (by (try simp only [g7481]) <;> simp only [push_cast, leL_flD, renL_flD, seval]) (by (try simp only [g7481]) <;> simp only [push_cast, leL_flD, renL_flD, seval]) rfl rfl rfl)
      · refine rs 5 [] [] (by kernel_rfl) allP_nil ?_
        refine run_br h 26 (.inl (by kernel_rfl)) (fun g7482 h => ?_) (fun g7482 h => ?_)
        · refine rn 8 [(1, iS barrier), (2, .sl acts.length (fl acts)), (3, .ptr 0 0), (26, bS true)] [(0, .row 25 (Enc.cells xh))] 1 (by kernel_rfl) ?_
          refine rs 7 [] [] (by kernel_rfl) allP_nil ?_
          refine rf [(1, iS barrier), (2, .sl acts.length (fl acts)), (3, .ptr 0 0), (33, bS true)] [(0, .row 25 (Enc.cells xh))] 1 (by kernel_rfl) ?_
          exact hK7479 (true) _ _ _ h (leSt_m [(0, 0)] [] (by first | ((try simp only [g7481, g7482]) <;> simp only [push_cast, leL_flD, renL_flD, seval]; done) | ((try simp only [g7481]); (try simp only [g7482]); simp only [push_cast, leL_flD, renL_flD, seval]; done) | (exfalso; clear h; simp_all; done)) (by first | ((try simp only [g7481, g7482]) <;> simp only [push_cast, leL_flD, renL_flD, seval]; done) | ((try simp only [g7481]); (try simp only [g7482]); simp only [push_cast, leL_flD, renL_flD, seval]; done) | (exfalso; clear h; simp_all; done)) rfl rfl rfl)
        · refine rn 8 [(1, iS barrier), (2, .sl acts.length (fl acts)), (3, .ptr 0 0), (26, bS false)] [(0, .row 25 (Enc.cells xh))] 1 (by kernel_rfl) ?_
          refine rs 4 [] [] (by kernel_rfl) allP_nil ?_
          refine run_br h 30 (.inl (by kernel_rfl)) (fun g7483 h => ?_) (fun g7483 h => ?_)
          · refine rs 3 [] [] (by kernel_rfl) allP_nil ?_
            refine rf [(1, iS barrier), (2, .sl acts.length (fl acts)), (3, .ptr 0 0), (33, bS true)] [(0, .row 25 (Enc.cells xh))] 1 (by kernel_rfl) ?_
            exact hK7479 (true) _ _ _ h (leSt_m [(0, 0)] [] (by first | ((try simp only [g7481, g7482, g7483]) <;> simp only [push_cast, leL_flD, renL_flD, seval]; done) | ((try simp only [g7481]); (try simp only [g7482]); (try simp only [g7483]); simp only [push_cast, leL_flD, renL_flD, seval]; done) | (exfalso; clear h; simp_all; done)) (by first | ((try simp only [g7481, g7482, g7483]) <;> simp only [push_cast, leL_flD, renL_flD, seval]; done) | ((try simp only [g7481]); (try simp only [g7482]); (try simp only [g7483]); simp only [push_cast, leL_flD, renL_flD, seval]; done) | (exfalso; clear h; simp_all; done)) rfl rfl rfl)
          · refine rs 3 [] [] (by kernel_rfl) allP_nil ?_
            refine rf [(1, iS barrier), (2, .sl acts.length (fl acts)), (3, .ptr 0 0), (33, bS (decide ((3 : Int) < barrier)))] [(0, .row 25 (Enc.cells xh))] 1 (by kernel_rfl) ?_
            exact hK7479 ((decide ((3 : Int) < barrier))) _ _ _ h (leSt_m [(0, 0)] [] (by first | ((try simp only [g7481, g7482, g7483]) <;> simp only [push_cast, leL_flD, renL_flD, seval]; done) | ((try simp only [g7481]); (try simp only [g7482]); (try simp only [g7483]); simp only [push_cast, leL_flD, renL_flD, seval]; done) | (exfalso; clear h; simp_all; done)) (by first | ((try simp only [g7481, g7482, g7483]) <;> simp only [push_cast, leL_flD, renL_flD, seval]; done) | ((try simp only [g7481]); (try simp only [g7482]); (try simp only [g7483]); simp only [push_cast, leL_flD, renL_flD, seval]; done) | (exfalso; clear h; simp_all; done)) rfl rfl rfl)
    · rintro t33q2 h
      try dsimp only at h ⊢
      unfold taskmilllaw_SweepSnapshot_j3 at h
      refine cond_sx h (by kernel_rfl) (fun g7657 h => ?_) (fun g7657 h => ?_)
      · refine seq_np ?_
        refine reg_f ?_
        refine rs 1 [] [] (by kernel_rfl) allP_nil ?_
        refine rf [(6, bS true)] [(0, .row 25 (Enc.cells xh))] 1 (by kernel_rfl) ?_
        refine wk_id ?_
        obtain rfl := Option.some.inj h
        refine ret_at (bS true) (by kernel_rfl) ?_
        exact ret_e [] [] (by simp only [push_cast, leL_flD, renL_flD, seval]) (by simp only [push_cast, leL_flD, renL_flD, seval]) rfl rfl rfl
      · refine wk_id ?_
        refine seq_np ?_
        refine reg_f ?_
        refine rs 3 [] [] (by kernel_rfl) allP_nil ?_
        obtain ⟨r7485, hr7485, h⟩ := bind_sx h
        refine call_x (sweep_Cycle_spec xh barrier acts r7485 hr7485) (args := [.agg (Enc.cells xh), iS barrier, .sl acts.length (fl acts)]) (dst := (some 38)) (by kernel_rfl) [(0, .row 25 (Enc.cells xh))] 1 (by kernel_rfl) [] [] (.tup [.agg [.own 1 0 r7485.2.1.length, .own 2 0 r7485.2.2.1.length], .own 3 0 r7485.2.2.2.length, .agg (Enc.cells r7485.1)]) [(1, .row 23 (flD dLListInt [4] r7485.2.1)), (2, .row 3 (fl r7485.2.2.1)), (3, .row 3 (fl r7485.2.2.2)), ((.s 4 0), .fam (famD dLListInt 0 r7485.2.1))] (by simp only [push_cast, leL_flD, renL_flD, seval]) (by simp only [push_cast, leL_flD, renL_flD, seval]) (by kernel_rfl) (.inl rfl) (by first | (simp only [push_cast, leL_flD, renL_flD, seval]; done) | (simp only [push_cast, leL_flD, renL_flD, seval]; kernel_rfl) | kernel_rfl) (by first | (simp only [push_cast, leL_flD, renL_flD, seval]; done) | (simp only [push_cast, leL_flD, renL_flD, seval]; kernel_rfl) | kernel_rfl) ?_
        refine rs 9 [] [] (by kernel_rfl) allP_nil ?_
        refine rf [(1, iS barrier), (3, .ptr 0 0), (7, .ptr 5 0), (8, .own 3 0 r7485.2.2.2.length), (9, .ptr 6 0)] [(0, .row 25 (Enc.cells xh)), (1, .row 23 (flD dLListInt [4] r7485.2.1)), (2, .row 3 (fl r7485.2.2.1)), (3, .row 3 (fl r7485.2.2.2)), ((.s 4 0), .fam (famD dLListInt 0 r7485.2.1)), (5, .row 25 [.own 1 0 r7485.2.1.length, .own 2 0 r7485.2.2.1.length]), (6, .row 30 (Enc.cells r7485.1))] 7 (by kernel_rfl) ?_
        refine wk_id ?_
        refine seq_np ?_
        refine seq_cut (A := Bool × (List Int) × Fault × (List (List Int)) × (List Int)) (fun a => ([(1, iS barrier), (3, .ptr 0 0), (7, .ptr 1 0), (8, .own 2 0 a.2.1.length), (9, .ptr 3 0), (50, bS a.1)], [(0, .row 25 (Enc.cells xh)), (1, .row 25 [.own 4 0 a.2.2.2.1.length, .own 5 0 a.2.2.2.2.length]), (2, .row 3 (fl a.2.1)), (3, .row 30 (Enc.cells a.2.2.1)), (4, .row 23 (flD dLListInt [6] a.2.2.2.1)), (5, .row 3 (fl a.2.2.2.2)), ((.s 6 0), .fam (famD dLListInt 0 a.2.2.2.1))], 7)) (fun a => (taskmilllaw_SweepSnapshot_j2 xh barrier a.1 a.2.1 a.2.2.1 a.2.2.2.1 a.2.2.2.2) = some r) (fun K7494 hK7494 => ?_) ?_
        · refine reg_f ?_
          refine rs 4 [] [] (by kernel_rfl) allP_nil ?_
          refine run_br h 45 (.inl (by kernel_rfl)) (fun g7495 h => ?_) (fun g7495 h => ?_)
          · refine rs 5 [] [] (by kernel_rfl) allP_nil ?_
            refine rf [(1, iS barrier), (3, .ptr 0 0), (7, .ptr 5 0), (8, .own 3 0 r7485.2.2.2.length), (9, .ptr 6 0), (50, bS true)] [(0, .row 25 (Enc.cells xh)), (1, .row 23 (flD dLListInt [4] r7485.2.1)), (2, .row 3 (fl r7485.2.2.1)), (3, .row 3 (fl r7485.2.2.2)), ((.s 4 0), .fam (famD dLListInt 0 r7485.2.1)), (5, .row 25 [.own 1 0 r7485.2.1.length, .own 2 0 r7485.2.2.1.length]), (6, .row 30 (Enc.cells r7485.1))] 7 (by kernel_rfl) ?_
            exact hK7494 (true, r7485.2.2.2, r7485.1, r7485.2.1, r7485.2.2.1) _ _ _ h (leSt_m [(0, 0), (1, 5), (2, 3), (3, 6), (4, 1), (5, 2), ((.s 6 0), (.s 4 0))] [] (by (try simp only [g7495]) <;> simp only [push_cast, leL_flD, renL_flD, seval]) (by (try simp only [g7495]) <;> simp only [push_cast, leL_flD, renL_flD, seval]) rfl rfl rfl)
          · refine rs 1 [] [] (by kernel_rfl) allP_nil ?_
            obtain ⟨r7496, hr7496, h⟩ := bind_sx h
            refine call_x (taskmillref_HeapsFault_spec (GHeap.mk r7485.2.1 r7485.2.2.1) r7496 hr7496) (args := [.agg [.own 1 0 r7485.2.1.length, .own 2 0 r7485.2.2.1.length]]) (dst := (some 47)) (by kernel_rfl) [(0, .row 25 (Enc.cells xh)), (1, .row 23 (flD dLListInt [4] r7485.2.1)), (2, .row 3 (fl r7485.2.2.1)), (3, .row 3 (fl r7485.2.2.2)), ((.s 4 0), .fam (famD dLListInt 0 r7485.2.1)), (5, .row 25 [.own 1 0 r7485.2.1.length, .own 2 0 r7485.2.2.1.length]), (6, .row 30 (Enc.cells r7485.1))] 7 (by kernel_rfl) [] [1, (.s 4 0), 2] (.agg (Enc.cells r7496)) [] (by simp only [↓leS_frzD dLListInt [4] r7485.2.1, leS_frz, leL_flD, renL_flD, push_cast, seval]) (by simp only [↓leS_frzD dLListInt [4] r7485.2.1, leS_frz, leL_flD, renL_flD, push_cast, seval]) (by kernel_rfl) (.inr ⟨by simp only [push_cast, leL_flD, renL_flD, seval], by simp only [push_cast, leL_flD, renL_flD, seval]⟩) (by simp only [push_cast, leL_flD, renL_flD, seval]) (by simp only [push_cast, leL_flD, renL_flD, seval]) ?_
            refine rs 3 [] [] (by kernel_rfl) allP_nil ?_
            refine rf [(1, iS barrier), (3, .ptr 0 0), (7, .ptr 5 0), (8, .own 3 0 r7485.2.2.2.length), (9, .ptr 6 0), (50, bS (r7496.Code != 0))] [(0, .row 25 (Enc.cells xh)), (1, .row 23 (flD dLListInt [4] r7485.2.1)), (2, .row 3 (fl r7485.2.2.1)), (3, .row 3 (fl r7485.2.2.2)), ((.s 4 0), .fam (famD dLListInt 0 r7485.2.1)), (5, .row 25 [.own 1 0 r7485.2.1.length, .own 2 0 r7485.2.2.1.length]), (6, .row 30 (Enc.cells r7485.1))] 7 (by kernel_rfl) ?_
            exact hK7494 ((r7496.Code != 0), r7485.2.2.2, r7485.1, r7485.2.1, r7485.2.2.1) _ _ _ h (leSt_m [(0, 0), (1, 5), (2, 3), (3, 6), (4, 1), (5, 2), ((.s 6 0), (.s 4 0))] [] (by (try simp only [g7495]) <;> simp only [push_cast, leL_flD, renL_flD, seval]) (by (try simp only [g7495]) <;> simp only [push_cast, leL_flD, renL_flD, seval]) rfl rfl rfl)
        · rintro ⟨t50q2, c2q5, c3q2, c4q2, c5q2⟩ h
          try dsimp only at h ⊢
          unfold taskmilllaw_SweepSnapshot_j2 at h
          refine cond_sx h (by kernel_rfl) (fun g7656 h => ?_) (fun g7656 h => ?_)
          · refine seq_np ?_
            refine reg_f ?_
            refine rs 4 [] [] (by kernel_rfl) allP_nil ?_
            refine rf [(6, bS (c3q2.Code != 0))] [(0, .row 25 (Enc.cells xh)), (1, .row 25 [.own 4 0 c4q2.length, .own 5 0 c5q2.length]), (2, .row 3 (fl c2q5)), (3, .row 30 (Enc.cells c3q2)), (4, .row 23 (flD dLListInt [6] c4q2)), (5, .row 3 (fl c5q2)), ((.s 6 0), .fam (famD dLListInt 0 c4q2))] 7 (by kernel_rfl) ?_
            refine wk_id ?_
            obtain rfl := Option.some.inj h
            refine ret_at (bS (c3q2.Code != 0)) (by kernel_rfl) ?_
            exact ret_e [] [] (by simp only [push_cast, leL_flD, renL_flD, seval]) (by simp only [push_cast, leL_flD, renL_flD, seval]) rfl rfl rfl
          · refine wk_id ?_
            refine seq_np ?_
            refine reg_f ?_
            refine rs 1 [] [] (by kernel_rfl) allP_nil ?_
            obtain ⟨r7498, hr7498, h⟩ := bind_sx h
            refine call_x (taskmillref_Reached_spec xh r7498 hr7498) (args := [.agg (Enc.cells xh)]) (dst := (some 55)) (by kernel_rfl) [(0, .row 25 (Enc.cells xh)), (1, .row 25 [.own 4 0 c4q2.length, .own 5 0 c5q2.length]), (2, .row 3 (fl c2q5)), (3, .row 30 (Enc.cells c3q2)), (4, .row 23 (flD dLListInt [6] c4q2)), (5, .row 3 (fl c5q2)), ((.s 6 0), .fam (famD dLListInt 0 c4q2))] 7 (by kernel_rfl) [] [] (.own 7 0 r7498.length) [(7, .row 4 (fl r7498))] (by simp only [push_cast, leL_flD, renL_flD, seval]) (by simp only [push_cast, leL_flD, renL_flD, seval]) (by kernel_rfl) (.inl rfl) (by simp only [push_cast, leL_flD, renL_flD, seval]) (by simp only [push_cast, leL_flD, renL_flD, seval]) ?_
            refine rs 1 [] [] (by kernel_rfl) allP_nil ?_
            refine rf [(1, iS barrier), (7, .ptr 1 0), (8, .own 2 0 c2q5.length), (10, .own 7 0 r7498.length)] [(0, .row 25 (Enc.cells xh)), (1, .row 25 [.own 4 0 c4q2.length, .own 5 0 c5q2.length]), (2, .row 3 (fl c2q5)), (3, .row 30 (Enc.cells c3q2)), (4, .row 23 (flD dLListInt [6] c4q2)), (5, .row 3 (fl c5q2)), ((.s 6 0), .fam (famD dLListInt 0 c4q2)), (7, .row 4 (fl r7498))] 8 (by kernel_rfl) ?_
            refine wk_id ?_
            refine seq_np ?_
            refine seq_np ?_
            refine reg_f ?_
            refine rs 1 [] [] (by kernel_rfl) allP_nil ?_
            refine rf [(1, iS barrier), (7, .ptr 1 0), (8, .own 2 0 c2q5.length), (10, .own 7 0 r7498.length), (11, iS 0)] [(0, .row 25 (Enc.cells xh)), (1, .row 25 [.own 4 0 c4q2.length, .own 5 0 c5q2.length]), (2, .row 3 (fl c2q5)), (3, .row 30 (Enc.cells c3q2)), (4, .row 23 (flD dLListInt [6] c4q2)), (5, .row 3 (fl c5q2)), ((.s 6 0), .fam (famD dLListInt 0 c4q2)), (7, .row 4 (fl r7498))] 8 (by kernel_rfl) ?_
            refine wk_id ?_
            refine block_np ?_
            refine loop_sx (S := Int × (List Bool)) (fun a => ([(1, iS barrier), (7, .ptr 0 0), (8, .own 1 0 c2q5.length), (10, .own 2 0 a.2.length), (11, iS a.1)], [(0, .row 25 [.own 3 0 c4q2.length, .own 4 0 c5q2.length]), (1, .row 3 (fl c2q5)), (2, .row 4 (fl a.2)), (3, .row 23 (flD dLListInt [5] c4q2)), (4, .row 3 (fl c5q2)), ((.s 5 0), .fam (famD dLListInt 0 c4q2))], 6)) h (leSt_m [(0, 1), (1, 2), (2, 7), (3, 4), (4, 5), ((.s 5 0), (.s 6 0))] [] (by simp only [push_cast, leL_flD, renL_flD, seval]) (by simp only [push_cast, leL_flD, renL_flD, seval]) rfl rfl rfl) ?_
            rintro ⟨i7, c2q14⟩ o2 R2 h hr2 hn2 hx2 ht2
            try dsimp only at h hn2 ⊢
            unfold taskmilllaw_SweepSnapshot_l1 at h
            try dsimp only at h
            refine seq_np ?_
            refine seq_np ?_
            refine reg_f ?_
            refine rs 4 [] [] (by kernel_rfl) allP_nil ?_
            refine rf [(1, iS barrier), (7, .ptr 0 0), (8, .own 1 0 c2q5.length), (10, .own 2 0 c2q14.length), (11, iS i7), (59, bS (decide (i7 < ((c2q5.length : Nat) : Int))))] [(0, .row 25 [.own 3 0 c4q2.length, .own 4 0 c5q2.length]), (1, .row 3 (fl c2q5)), (2, .row 4 (fl c2q14)), (3, .row 23 (flD dLListInt [5] c4q2)), (4, .row 3 (fl c5q2)), ((.s 5 0), .fam (famD dLListInt 0 c4q2))] 6 (by kernel_rfl) ?_
            refine wk_id ?_
            refine cond_sx h (by kernel_rfl) (fun g7655 h => ?_) (fun g7655 h => ?_)
            · refine wk_id ?_
              refine seq_np ?_
              refine block_np ?_
              refine chk_sx h (fun g7633 h => ?_)
              refine chk_sx h (fun g7636 h => ?_)
              refine chk_sx h (fun g7639 h => ?_)
              refine chk_sx h (fun g7641 h => ?_)
              refine seq_cut (A := Unit) (fun _ => ([(1, iS barrier), (7, .ptr 0 0), (8, .own 1 0 c2q5.length), (10, .own 2 0 c2q14.length), (11, iS i7), (84, bS ((decide ((ix c2q5 i7) < 0)) || ((decide (((c2q14.length : Nat) : Int) ≤ (ix c2q5 i7))) || (ix c2q14 (ix c2q5 i7)))))], [(0, .row 25 [.own 3 0 c4q2.length, .own 4 0 c5q2.length]), (1, .row 3 (fl c2q5)), (2, .row 4 (fl c2q14)), (3, .row 23 (flD dLListInt [5] c4q2)), (4, .row 3 (fl c5q2)), ((.s 5 0), .fam (famD dLListInt 0 c4q2))], 6)) (fun _ => True) (fun K7631 hK7631 => ?_) (fun _ _ => ?_)
              · refine reg_f ?_
                have k7632 : 0 ≤ i7 ∧ i7 < ((c2q5.length : Nat) : Int) := by first | simpa only [Bool.and_eq_true, decide_eq_true_eq, bne_iff_ne, ne_eq] using g7633 | (simp at g7633 ⊢; omega)
                refine rs 6 [none, none, some ⟨.ptr 1 (0 + (i7).toNat * 1), [], 6, [1]⟩, some ⟨iS (ix c2q5 i7), [], 6, [1]⟩] _ (by kernel_rfl) (allP_cons (ob_ld c2q5 i7 1 0 (0 + (i7).toNat * 1) k7632 rfl (by decide) (by first | rfl | omega) (dflS Try.prog 3) (iS (ix c2q5 i7)) rfl 6 [1]) (allP_cons (ob_ix_o 1 c2q5.length 0 1 6 i7 k7632) allP_nil)) ?_
                refine run_split 67 (decide ((ix c2q5 i7) < 0)) (.inl (by kernel_rfl)) (fun g7634 => ?_) (fun g7634 => ?_)
                · refine rs 17 [] [] (by kernel_rfl) allP_nil ?_
                  refine rf [(1, iS barrier), (7, .ptr 0 0), (8, .own 1 0 c2q5.length), (10, .own 2 0 c2q14.length), (11, iS i7), (84, bS true)] [(0, .row 25 [.own 3 0 c4q2.length, .own 4 0 c5q2.length]), (1, .row 3 (fl c2q5)), (2, .row 4 (fl c2q14)), (3, .row 23 (flD dLListInt [5] c4q2)), (4, .row 3 (fl c5q2)), ((.s 5 0), .fam (famD dLListInt 0 c4q2))] 6 (by kernel_rfl) ?_
                  exact hK7631 () _ _ _ trivial (leSt_m [(0, 0), (1, 1), (2, 2), (3, 3), (4, 4), ((.s 5 0), (.s 5 0))] [] (by (try simp only [g7634]) <;> simp only [push_cast, leL_flD, renL_flD, seval]) (by (try simp only [g7634]) <;> simp only [push_cast, leL_flD, renL_flD, seval]) rfl rfl rfl)
                · have k7635 : 0 ≤ i7 ∧ i7 < ((c2q5.length : Nat) : Int) := by have e := or_use g7636 (by first | ((try simp only [g7634]) <;> rfl) | ((try simp only [g7634]); rfl) | (exfalso; clear h; simp_all; done)); first | simpa only [Bool.and_eq_true, decide_eq_true_eq, bne_iff_ne, ne_eq] using e | (simp at e ⊢; omega)
                  refine rs 9 [none, none, some ⟨.ptr 1 (0 + (i7).toNat * 1), [], 6, [1]⟩, some ⟨iS (ix c2q5 i7), [], 6, [1]⟩] _ (by kernel_rfl) (allP_cons (ob_ld c2q5 i7 1 0 (0 + (i7).toNat * 1) k7635 rfl (by decide) (by first | rfl | omega) (dflS Try.prog 3) (iS (ix c2q5 i7)) rfl 6 [1]) (allP_cons (ob_ix_o 1 c2q5.length 0 1 6 i7 k7635) allP_nil)) ?_
                  refine run_split 76 (decide (((c2q14.length : Nat) : Int) ≤ (ix c2q5 i7))) (.inl (by kernel_rfl)) (fun g7637 => ?_) (fun g7637 => ?_)
                  · refine rs 8 [] [] (by kernel_rfl) allP_nil ?_
                    refine rf [(1, iS barrier), (7, .ptr 0 0), (8, .own 1 0 c2q5.length), (10, .own 2 0 c2q14.length), (11, iS i7), (84, bS true)] [(0, .row 25 [.own 3 0 c4q2.length, .own 4 0 c5q2.length]), (1, .row 3 (fl c2q5)), (2, .row 4 (fl c2q14)), (3, .row 23 (flD dLListInt [5] c4q2)), (4, .row 3 (fl c5q2)), ((.s 5 0), .fam (famD dLListInt 0 c4q2))] 6 (by kernel_rfl) ?_
                    exact hK7631 () _ _ _ trivial (leSt_m [(0, 0), (1, 1), (2, 2), (3, 3), (4, 4), ((.s 5 0), (.s 5 0))] [] (by first | ((try simp only [g7634, g7637]) <;> simp only [push_cast, leL_flD, renL_flD, seval]; done) | ((try simp only [g7634]); (try simp only [g7637]); simp only [push_cast, leL_flD, renL_flD, seval]; done) | (exfalso; clear h; simp_all; done)) (by first | ((try simp only [g7634, g7637]) <;> simp only [push_cast, leL_flD, renL_flD, seval]; done) | ((try simp only [g7634]); (try simp only [g7637]); simp only [push_cast, leL_flD, renL_flD, seval]; done) | (exfalso; clear h; simp_all; done)) rfl rfl rfl)
                  · have k7638 : 0 ≤ i7 ∧ i7 < ((c2q5.length : Nat) : Int) := by have e := or_use g7639 (by first | ((try simp only [g7634, g7637]) <;> rfl) | ((try simp only [g7634]); (try simp only [g7637]); rfl) | (exfalso; clear h; simp_all; done)); first | simpa only [Bool.and_eq_true, decide_eq_true_eq, bne_iff_ne, ne_eq] using e | (simp at e ⊢; omega)
                    have k7640 : 0 ≤ (ix c2q5 i7) ∧ (ix c2q5 i7) < ((c2q14.length : Nat) : Int) := by have e := or_use g7641 (by first | ((try simp only [g7634, g7637]) <;> rfl) | ((try simp only [g7634]); (try simp only [g7637]); rfl) | (exfalso; clear h; simp_all; done)); first | simpa only [Bool.and_eq_true, decide_eq_true_eq, bne_iff_ne, ne_eq] using e | (simp at e ⊢; omega)
                    refine rs 8 [none, none, none, some ⟨.ptr 1 (0 + (i7).toNat * 1), [], 6, [1]⟩, some ⟨iS (ix c2q5 i7), [], 6, [1]⟩, some ⟨.ptr 2 (0 + ((ix c2q5 i7)).toNat * 1), [], 6, [2]⟩, some ⟨bS (ix c2q14 (ix c2q5 i7)), [], 6, [2]⟩] _ (by kernel_rfl) (allP_cons (ob_ld c2q14 (ix c2q5 i7) 1 0 (0 + ((ix c2q5 i7)).toNat * 1) k7640 rfl (by decide) (by first | rfl | omega) (dflS Try.prog 4) (bS (ix c2q14 (ix c2q5 i7))) rfl 6 [2]) (allP_cons (ob_ix_o 2 c2q14.length 0 1 6 (ix c2q5 i7) k7640) (allP_cons (ob_ld c2q5 i7 1 0 (0 + (i7).toNat * 1) k7638 rfl (by decide) (by first | rfl | omega) (dflS Try.prog 3) (iS (ix c2q5 i7)) rfl 6 [1]) (allP_cons (ob_ix_o 1 c2q5.length 0 1 6 i7 k7638) allP_nil)))) ?_
                    refine rf [(1, iS barrier), (7, .ptr 0 0), (8, .own 1 0 c2q5.length), (10, .own 2 0 c2q14.length), (11, iS i7), (84, bS (ix c2q14 (ix c2q5 i7)))] [(0, .row 25 [.own 3 0 c4q2.length, .own 4 0 c5q2.length]), (1, .row 3 (fl c2q5)), (2, .row 4 (fl c2q14)), (3, .row 23 (flD dLListInt [5] c4q2)), (4, .row 3 (fl c5q2)), ((.s 5 0), .fam (famD dLListInt 0 c4q2))] 6 (by kernel_rfl) ?_
                    exact hK7631 () _ _ _ trivial (leSt_m [(0, 0), (1, 1), (2, 2), (3, 3), (4, 4), ((.s 5 0), (.s 5 0))] [] (by first | ((try simp only [g7634, g7637]) <;> simp only [push_cast, leL_flD, renL_flD, seval]; done) | ((try simp only [g7634]); (try simp only [g7637]); simp only [push_cast, leL_flD, renL_flD, seval]; done) | (exfalso; clear h; simp_all; done)) (by first | ((try simp only [g7634, g7637]) <;> simp only [push_cast, leL_flD, renL_flD, seval]; done) | ((try simp only [g7634]); (try simp only [g7637]); simp only [push_cast, leL_flD, renL_flD, seval]; done) | (exfalso; clear h; simp_all; done)) rfl rfl rfl)
              · dsimp only
                refine cond_sx h (by kernel_rfl) (fun g7642 h => ?_) (fun g7642 h => ?_)
                · refine seq_np ?_
                  refine reg_f ?_
                  refine rs 1 [] [] (by kernel_rfl) allP_nil ?_
                  refine rf [(6, bS false)] [(0, .row 25 [.own 3 0 c4q2.length, .own 4 0 c5q2.length]), (1, .row 3 (fl c2q5)), (2, .row 4 (fl c2q14)), (3, .row 23 (flD dLListInt [5] c4q2)), (4, .row 3 (fl c5q2)), ((.s 5 0), .fam (famD dLListInt 0 c4q2))] 6 (by kernel_rfl) ?_
                  refine wk_id ?_
                  refine rt_cast ht2 ?_
                  obtain ⟨r0, h, e0⟩ := map_sx h
                  have e1 := hr2 r0 e0.symm
                  subst r0
                  obtain rfl := Option.some.inj h
                  refine ret_at (bS false) (by kernel_rfl) ?_
                  exact ret_e [] [] (by simp only [push_cast, leL_flD, renL_flD, seval]) (by simp only [push_cast, leL_flD, renL_flD, seval]) rfl rfl rfl
                · refine wk_id ?_
                  refine wk_id ?_
                  refine reg_f ?_
                  refine rs 3 [] [] (by kernel_rfl) allP_nil ?_
                  refine rf [(1, iS barrier), (7, .ptr 0 0), (8, .own 1 0 c2q5.length), (10, .own 2 0 c2q14.length), (11, iS (IntKind.i64.wrap (i7 + 1)))] [(0, .row 25 [.own 3 0 c4q2.length, .own 4 0 c5q2.length]), (1, .row 3 (fl c2q5)), (2, .row 4 (fl c2q14)), (3, .row 23 (flD dLListInt [5] c4q2)), (4, .row 3 (fl c5q2)), ((.s 5 0), .fam (famD dLListInt 0 c4q2))] 6 (by kernel_rfl) ?_
                  exact hn2 ((IntKind.i64.wrap (i7 + 1)), c2q14) _ _ _ (Option.some.inj h).symm (leSt_m [(0, 0), (1, 1), (2, 2), (3, 3), (4, 4), ((.s 5 0), (.s 5 0))] [] (by simp only [push_cast, leL_flD, renL_flD, seval]) (by simp only [push_cast, leL_flD, renL_flD, seval]) rfl rfl rfl)
            · change R2 (.exit 0) _ _ _
              refine ex_cast hx2 (id := 0) ?_
              obtain ⟨r0, h, e0⟩ := map_sx h
              have e1 := hr2 r0 e0.symm
              subst r0
              refine wk_id ?_
              refine wk_mk [(1, iS barrier), (7, .ptr 0 0), (8, .own 1 0 c2q5.length), (10, .own 2 0 c2q14.length), (11, iS i7), (59, bS (decide (i7 < ((c2q5.length : Nat) : Int))))] [(0, .row 25 [.sl c4q2.length (fl c4q2), .sl c5q2.length (fl c5q2)]), (1, .row 3 (fl c2q5)), (2, .row 4 (fl c2q14))] 6 (leSt_m [(0, 0), (1, 1), (2, 2)] [3, 4, (.s 5 0)] (by simp only [↓leS_frzD dLListInt [5] c4q2, leS_frz, leS_cut, leL_flD, renL_flD, push_cast, seval]) (by simp only [↓leS_frzD dLListInt [5] c4q2, leS_frz, leS_cut, leL_flD, renL_flD, push_cast, seval]) rfl rfl rfl) ?_
              refine seq_np ?_
              refine reg_f ?_
              refine rs 2 [] [] (by kernel_rfl) allP_nil ?_
              obtain ⟨r7644, hr7644, h⟩ := bind_sx h
              refine call_x (sweep_Cycle_spec (GHeap.mk c4q2 c5q2) barrier [] r7644 hr7644) (args := [.agg [.sl c4q2.length (fl c4q2), .sl c5q2.length (fl c5q2)], iS barrier, .v (.slice none 0 0)]) (dst := (some 88)) (by kernel_rfl) [(0, .row 25 [.sl c4q2.length (fl c4q2), .sl c5q2.length (fl c5q2)]), (1, .row 3 (fl c2q5)), (2, .row 4 (fl c2q14))] 6 (by kernel_rfl) [] [] (.tup [.agg [.own 6 0 r7644.2.1.length, .own 7 0 r7644.2.2.1.length], .own 8 0 r7644.2.2.2.length, .agg (Enc.cells r7644.1)]) [(6, .row 23 (flD dLListInt [9] r7644.2.1)), (7, .row 3 (fl r7644.2.2.1)), (8, .row 3 (fl r7644.2.2.2)), ((.s 9 0), .fam (famD dLListInt 0 r7644.2.1))] (by simp only [push_cast, leL_flD, renL_flD, seval]) (by simp only [push_cast, leL_flD, renL_flD, seval]) (by kernel_rfl) (.inl rfl) (by first | (simp only [push_cast, leL_flD, renL_flD, seval]; done) | (simp only [push_cast, leL_flD, renL_flD, seval]; kernel_rfl) | kernel_rfl) (by first | (simp only [push_cast, leL_flD, renL_flD, seval]; done) | (simp only [push_cast, leL_flD, renL_flD, seval]; kernel_rfl) | kernel_rfl) ?_
              refine rs 9 [] [] (by kernel_rfl) allP_nil ?_
              refine rf [(7, .ptr 0 0), (13, .own 8 0 r7644.2.2.2.length), (14, .ptr 11 0)] [(0, .row 25 [.sl c4q2.length (fl c4q2), .sl c5q2.length (fl c5q2)]), (1, .row 3 (fl c2q5)), (2, .row 4 (fl c2q14)), (6, .row 23 (flD dLListInt [9] r7644.2.1)), (7, .row 3 (fl r7644.2.2.1)), (8, .row 3 (fl r7644.2.2.2)), ((.s 9 0), .fam (famD dLListInt 0 r7644.2.1)), (10, .row 25 [.own 6 0 r7644.2.1.length, .own 7 0 r7644.2.2.1.length]), (11, .row 30 (Enc.cells r7644.1))] 12 (by kernel_rfl) ?_
              refine wk_id ?_
              refine seq_np ?_
              refine reg_f ?_
              refine rs 1 [] [] (by kernel_rfl) allP_nil ?_
              obtain ⟨r7646, hr7646, h⟩ := bind_sx h
              refine call_x (sweep_Lost_spec (GHeap.mk c4q2 c5q2) r7646 hr7646) (args := [.agg [.sl c4q2.length (fl c4q2), .sl c5q2.length (fl c5q2)]]) (dst := (some 94)) (by kernel_rfl) [(0, .row 25 [.sl c4q2.length (fl c4q2), .sl c5q2.length (fl c5q2)]), (1, .row 3 (fl c2q5)), (2, .row 4 (fl c2q14)), (6, .row 23 (flD dLListInt [9] r7644.2.1)), (7, .row 3 (fl r7644.2.2.1)), (8, .row 3 (fl r7644.2.2.2)), ((.s 9 0), .fam (famD dLListInt 0 r7644.2.1)), (10, .row 25 [.own 6 0 r7644.2.1.length, .own 7 0 r7644.2.2.1.length]), (11, .row 30 (Enc.cells r7644.1))] 12 (by kernel_rfl) [] [] (.tup [.own 12 0 r7646.2.length, .agg (Enc.cells r7646.1)]) [(12, .row 3 (fl r7646.2))] (by simp only [push_cast, leL_flD, renL_flD, seval]) (by simp only [push_cast, leL_flD, renL_flD, seval]) (by kernel_rfl) (.inl rfl) (by simp only [push_cast, leL_flD, renL_flD, seval]) (by simp only [push_cast, leL_flD, renL_flD, seval]) ?_
              refine rs 6 [] [] (by kernel_rfl) allP_nil ?_
              refine rf [(13, .own 8 0 r7644.2.2.2.length), (14, .ptr 11 0), (15, .own 12 0 r7646.2.length), (16, .ptr 13 0)] [(0, .row 25 [.sl c4q2.length (fl c4q2), .sl c5q2.length (fl c5q2)]), (1, .row 3 (fl c2q5)), (2, .row 4 (fl c2q14)), (6, .row 23 (flD dLListInt [9] r7644.2.1)), (7, .row 3 (fl r7644.2.2.1)), (8, .row 3 (fl r7644.2.2.2)), ((.s 9 0), .fam (famD dLListInt 0 r7644.2.1)), (10, .row 25 [.own 6 0 r7644.2.1.length, .own 7 0 r7644.2.2.1.length]), (11, .row 30 (Enc.cells r7644.1)), (12, .row 3 (fl r7646.2)), (13, .row 30 (Enc.cells r7646.1))] 14 (by kernel_rfl) ?_
              refine wk_id ?_
              refine seq_cut (A := Bool) (fun a => ([(6, bS a)], [], 0)) (fun a => (taskmilllaw_SweepSnapshot_j1 a) = some r) (fun K7651 hK7651 => ?_) ?_
              · refine reg_f ?_
                refine rs 4 [] [] (by kernel_rfl) allP_nil ?_
                refine run_br h 100 (.inl (by kernel_rfl)) (fun g7652 h => ?_) (fun g7652 h => ?_)
                · refine rs 5 [] [] (by kernel_rfl) allP_nil ?_
                  refine run_br h 105 (.inl (by kernel_rfl)) (fun g7653 h => ?_) (fun g7653 h => ?_)
                  · refine rs 2 [] [] (by kernel_rfl) allP_nil ?_
                    obtain ⟨r7654, hr7654, h⟩ := bind_sx h
                    refine call_x (taskmillref_Ints_spec r7644.2.2.2 r7646.2 r7654 hr7654) (args := [.own 8 0 r7644.2.2.2.length, .own 12 0 r7646.2.length]) (dst := (some 108)) (by kernel_rfl) [(0, .row 25 [.sl c4q2.length (fl c4q2), .sl c5q2.length (fl c5q2)]), (1, .row 3 (fl c2q5)), (2, .row 4 (fl c2q14)), (6, .row 23 (flD dLListInt [9] r7644.2.1)), (7, .row 3 (fl r7644.2.2.1)), (8, .row 3 (fl r7644.2.2.2)), ((.s 9 0), .fam (famD dLListInt 0 r7644.2.1)), (10, .row 25 [.own 6 0 r7644.2.1.length, .own 7 0 r7644.2.2.1.length]), (11, .row 30 (Enc.cells r7644.1)), (12, .row 3 (fl r7646.2)), (13, .row 30 (Enc.cells r7646.1))] 14 (by kernel_rfl) [] [8, 12] (bS r7654) [] (by simp only [push_cast, leL_flD, renL_flD, seval]) (by simp only [push_cast, leL_flD, renL_flD, seval]) (by kernel_rfl) (.inr ⟨by simp only [push_cast, leL_flD, renL_flD, seval], by simp only [push_cast, leL_flD, renL_flD, seval]⟩) (by simp only [push_cast, leL_flD, renL_flD, seval]) (by simp only [push_cast, leL_flD, renL_flD, seval]) ?_
                    refine rs 2 [] [] (by kernel_rfl) allP_nil ?_
                    refine rf [(6, bS r7654)] [(0, .row 25 [.sl c4q2.length (fl c4q2), .sl c5q2.length (fl c5q2)]), (1, .row 3 (fl c2q5)), (2, .row 4 (fl c2q14)), (6, .row 23 (flD dLListInt [9] r7644.2.1)), (7, .row 3 (fl r7644.2.2.1)), (8, .row 3 (fl r7644.2.2.2)), ((.s 9 0), .fam (famD dLListInt 0 r7644.2.1)), (10, .row 25 [.own 6 0 r7644.2.1.length, .own 7 0 r7644.2.2.1.length]), (11, .row 30 (Enc.cells r7644.1)), (12, .row 3 (fl r7646.2)), (13, .row 30 (Enc.cells r7646.1))] 14 (by kernel_rfl) ?_
                    exact hK7651 (r7654) _ _ _ h (leSt_m [] [] (by first | ((try simp only [g7652, g7653]) <;> simp only [push_cast, leL_flD, renL_flD, seval]; done) | ((try simp only [g7652]); (try simp only [g7653]); simp only [push_cast, leL_flD, renL_flD, seval]; done) | (exfalso; clear h; simp_all; done)) (by first | ((try simp only [g7652, g7653]) <;> simp only [push_cast, leL_flD, renL_flD, seval]; done) | ((try simp only [g7652]); (try simp only [g7653]); simp only [push_cast, leL_flD, renL_flD, seval]; done) | (exfalso; clear h; simp_all; done)) rfl rfl rfl)
                  · refine rs 5 [] [] (by kernel_rfl) allP_nil ?_
                    refine rf [(6, bS false)] [(0, .row 25 [.sl c4q2.length (fl c4q2), .sl c5q2.length (fl c5q2)]), (1, .row 3 (fl c2q5)), (2, .row 4 (fl c2q14)), (6, .row 23 (flD dLListInt [9] r7644.2.1)), (7, .row 3 (fl r7644.2.2.1)), (8, .row 3 (fl r7644.2.2.2)), ((.s 9 0), .fam (famD dLListInt 0 r7644.2.1)), (10, .row 25 [.own 6 0 r7644.2.1.length, .own 7 0 r7644.2.2.1.length]), (11, .row 30 (Enc.cells r7644.1)), (12, .row 3 (fl r7646.2)), (13, .row 30 (Enc.cells r7646.1))] 14 (by kernel_rfl) ?_
                    exact hK7651 (false) _ _ _ h (leSt_m [] [] (by first | ((try simp only [g7652, g7653]) <;> simp only [push_cast, leL_flD, renL_flD, seval]; done) | ((try simp only [g7652]); (try simp only [g7653]); simp only [push_cast, leL_flD, renL_flD, seval]; done) | (exfalso; clear h; simp_all; done)) (by first | ((try simp only [g7652, g7653]) <;> simp only [push_cast, leL_flD, renL_flD, seval]; done) | ((try simp only [g7652]); (try simp only [g7653]); simp only [push_cast, leL_flD, renL_flD, seval]; done) | (exfalso; clear h; simp_all; done)) rfl rfl rfl)
                · refine rs 10 [] [] (by kernel_rfl) allP_nil ?_
                  refine rf [(6, bS false)] [(0, .row 25 [.sl c4q2.length (fl c4q2), .sl c5q2.length (fl c5q2)]), (1, .row 3 (fl c2q5)), (2, .row 4 (fl c2q14)), (6, .row 23 (flD dLListInt [9] r7644.2.1)), (7, .row 3 (fl r7644.2.2.1)), (8, .row 3 (fl r7644.2.2.2)), ((.s 9 0), .fam (famD dLListInt 0 r7644.2.1)), (10, .row 25 [.own 6 0 r7644.2.1.length, .own 7 0 r7644.2.2.1.length]), (11, .row 30 (Enc.cells r7644.1)), (12, .row 3 (fl r7646.2)), (13, .row 30 (Enc.cells r7646.1))] 14 (by kernel_rfl) ?_
                  exact hK7651 (false) _ _ _ h (leSt_m [] [] (by (try simp only [g7652]) <;> simp only [push_cast, leL_flD, renL_flD, seval]) (by (try simp only [g7652]) <;> simp only [push_cast, leL_flD, renL_flD, seval]) rfl rfl rfl)
              · rintro t6q1 h
                try dsimp only at h ⊢
                unfold taskmilllaw_SweepSnapshot_j1 at h
                obtain rfl := Option.some.inj h
                refine ret_at (bS t6q1) (by kernel_rfl) ?_
                exact ret_e [] [] (by simp only [push_cast, leL_flD, renL_flD, seval]) (by simp only [push_cast, leL_flD, renL_flD, seval]) rfl rfl rfl

end Go.Proofs.Ytlfcicekappbfaa
