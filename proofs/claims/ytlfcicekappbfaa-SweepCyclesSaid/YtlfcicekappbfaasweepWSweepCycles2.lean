/-
  What laws of the chapter sweep compute, and lemmas on it.
  No conditions.
-/
import Derived.Test.YtlfcicekappbfaasweepWSweepCycles1
set_option linter.unusedSimpArgs false
set_option linter.unusedVariables false
namespace Go.Proofs.Ytlfcicekappbfaa
open Go Go.Sx
attribute [local irreducible] Wk RunAt
set_option maxRecDepth 100000 in
set_option maxHeartbeats 200000000 in
theorem taskmilllaw_sweepBegun_spec (r : Bool) (h : taskmilllaw_sweepBegun = some r) : SpecW Try.prog 8 [] [] 0 (fun x h n => x = bS r ∧ h = [] ∧ n = 0) := by
  unfold taskmilllaw_sweepBegun at h
  refine spec_of (draw_ok _) Try.func8 rfl (by decide) rfl (by kernel_rfl) ?_
  refine seq_np ?_
  refine reg_f ?_
  refine rs 1 [] [] (by kernel_rfl) allP_nil ?_
  refine rf [] [] 0 (by kernel_rfl) ?_
  refine wk_id ?_
  refine seq_np ?_
  refine reg_f ?_
  refine rs 1 [] [] (by kernel_rfl) allP_nil ?_
  refine run_mk0 Int (some 8) 3 (by kernel_rfl) ?_
  refine rs 5 [] [] (by kernel_rfl) allP_nil ?_
  refine rf [(1, .ptr 4 0)] [(0, .row 3 (fl ([(-1)] : List Int))), (1, .row 3 (fl ([] : List Int))), (2, .row 23 [.own 0 0 ([(-1)] : List Int).length, .own 1 0 ([] : List Int).length]), (3, .row 3 (fl ([0] : List Int))), (4, .row 25 [.own 2 0 2, .own 3 0 ([0] : List Int).length])] 5 (by kernel_rfl) ?_
  refine wk_id ?_
  refine seq_np ?_
  refine reg_f ?_
  refine rs 1 [] [] (by kernel_rfl) allP_nil ?_
  obtain ⟨r2052, hr2052, h⟩ := bind_sx h
  refine call_x (sweep_Lost_spec (GHeap.mk ([([(-1)] : List Int), ([] : List Int)] : List (List Int)) ([0] : List Int)) r2052 hr2052) (args := [.agg [.own 2 0 2, .own 3 0 ([0] : List Int).length]]) (dst := (some 14)) (by kernel_rfl) [(0, .row 3 (fl ([(-1)] : List Int))), (1, .row 3 (fl ([] : List Int))), (2, .row 23 [.own 0 0 ([(-1)] : List Int).length, .own 1 0 ([] : List Int).length]), (3, .row 3 (fl ([0] : List Int))), (4, .row 25 [.own 2 0 2, .own 3 0 ([0] : List Int).length])] 5 (by kernel_rfl) [] [2, 0, 1, 3] (.tup [.own 5 0 r2052.2.length, .agg (Enc.cells r2052.1)]) [(5, .row 3 (fl r2052.2))] (by simp only [↓leS_frzL ([([(-1)] : List Int), ([] : List Int)] : List (List Int)) [.own 0 0 ([(-1)] : List Int).length, .own 1 0 ([] : List Int).length], leS_frz, leL_flD, renL_flD, push_cast, seval]) (by simp only [↓leS_frzL ([([(-1)] : List Int), ([] : List Int)] : List (List Int)) [.own 0 0 ([(-1)] : List Int).length, .own 1 0 ([] : List Int).length], leS_frz, leL_flD, renL_flD, push_cast, seval]) (by kernel_rfl) (.inr ⟨by simp only [push_cast, leL_flD, renL_flD, seval], by simp only [push_cast, leL_flD, renL_flD, seval]⟩) (by simp only [push_cast, leL_flD, renL_flD, seval]) (by simp only [push_cast, leL_flD, renL_flD, seval]) ?_
  refine rs 6 [] [] (by kernel_rfl) allP_nil ?_
  refine rf [(1, .ptr 4 0), (2, .own 5 0 r2052.2.length), (3, .ptr 6 0)] [(0, .row 3 (fl ([(-1)] : List Int))), (1, .row 3 (fl ([] : List Int))), (2, .row 23 [.own 0 0 ([(-1)] : List Int).length, .own 1 0 ([] : List Int).length]), (3, .row 3 (fl ([0] : List Int))), (4, .row 25 [.own 2 0 2, .own 3 0 ([0] : List Int).length]), (5, .row 3 (fl r2052.2)), (6, .row 30 (Enc.cells r2052.1))] 7 (by kernel_rfl) ?_
  refine wk_mk [(1, .ptr 4 0), (2, .own 5 0 r2052.2.length), (3, .ptr 6 0)] [(4, .row 25 [.sl ([([(-1)] : List Int), ([] : List Int)] : List (List Int)).length (fl ([([(-1)] : List Int), ([] : List Int)] : List (List Int))), .sl ([0] : List Int).length (fl ([0] : List Int))]), (5, .row 3 (fl r2052.2)), (6, .row 30 (Enc.cells r2052.1))] 7 (leSt_m [(4, 4), (5, 5), (6, 6)] [2, 3, 0, 1] (by simp only [↓leS_frzL ([([(-1)] : List Int), ([] : List Int)] : List (List Int)) [.own 0 0 ([(-1)] : List Int).length, .own 1 0 ([] : List Int).length], leS_frz, leS_cut, leL_flD, renL_flD, push_cast, seval]) (by simp only [↓leS_frzL ([([(-1)] : List Int), ([] : List Int)] : List (List Int)) [.own 0 0 ([(-1)] : List Int).length, .own 1 0 ([] : List Int).length], leS_frz, leS_cut, leL_flD, renL_flD, push_cast, seval]) rfl rfl rfl) ?_
  refine seq_np ?_
  refine reg_f ?_
  refine rs 3 [] [] (by kernel_rfl) allP_nil ?_
  obtain ⟨r2054, hr2054, h⟩ := bind_sx h
  refine call_x (SpecW.give (sweep_Cycle_spec (GHeap.mk ([([(-1)] : List Int), ([] : List Int)] : List (List Int)) ([0] : List Int)) 0 ([(GAct.mk 5 0 0 0)] : List GAct) r2054 hr2054) [(0, .row 47 (fl ([(GAct.mk 5 0 0 0)] : List GAct)))] [.agg [.sl ([([(-1)] : List Int), ([] : List Int)] : List (List Int)).length (fl ([([(-1)] : List Int), ([] : List Int)] : List (List Int))), .sl ([0] : List Int).length (fl ([0] : List Int))], iS 0, .own 0 0 ([(GAct.mk 5 0 0 0)] : List GAct).length] [] (.tup [.agg [.own 1 0 r2054.2.1.length, .own 2 0 r2054.2.2.1.length], .own 3 0 r2054.2.2.2.length, .agg (Enc.cells r2054.1)]) [(1, .row 23 (flD dLListInt [4] r2054.2.1)), (2, .row 3 (fl r2054.2.2.1)), (3, .row 3 (fl r2054.2.2.2)), ((.s 4 0), .fam (famD dLListInt 0 r2054.2.1))] (by first | simp only [push_cast, leL_flD, renL_flD, seval] | simp only [push_cast, List.mem_singleton, true_and, and_true, leL_flD, renL_flD, seval]) (by simp only [push_cast, leL_flD, renL_flD, seval]) (by simp only [push_cast, leL_flD, renL_flD, seval]) (by simp only [push_cast, leL_flD, renL_flD, seval]) rfl (by first | (simp only [push_cast, leL_flD, renL_flD, seval]; done) | (simp only [push_cast, leL_flD, renL_flD, seval]; kernel_rfl) | kernel_rfl) (by first | (simp only [push_cast, leL_flD, renL_flD, seval]; done) | (simp only [push_cast, leL_flD, renL_flD, seval]; kernel_rfl) | kernel_rfl) rfl) (args := [.agg [.sl ([([(-1)] : List Int), ([] : List Int)] : List (List Int)).length (fl ([([(-1)] : List Int), ([] : List Int)] : List (List Int))), .sl ([0] : List Int).length (fl ([0] : List Int))], iS 0, .own 7 0 ([(GAct.mk 5 0 0 0)] : List GAct).length]) (dst := (some 21)) (by kernel_rfl) [(4, .row 25 [.sl ([([(-1)] : List Int), ([] : List Int)] : List (List Int)).length (fl ([([(-1)] : List Int), ([] : List Int)] : List (List Int))), .sl ([0] : List Int).length (fl ([0] : List Int))]), (5, .row 3 (fl r2052.2)), (6, .row 30 (Enc.cells r2052.1)), (7, .row 47 (fl ([(GAct.mk 5 0 0 0)] : List GAct)))] 8 (by kernel_rfl) [(0, 7)] [] (.tup [.agg [.own 9 0 r2054.2.1.length, .own 10 0 r2054.2.2.1.length], .own 11 0 r2054.2.2.2.length, .agg (Enc.cells r2054.1)]) [(9, .row 23 (flD dLListInt [12] r2054.2.1)), (10, .row 3 (fl r2054.2.2.1)), (11, .row 3 (fl r2054.2.2.2)), ((.s 12 0), .fam (famD dLListInt 0 r2054.2.1)), (7, .dead)] (by simp only [push_cast, leL_flD, renL_flD, seval]) (by simp only [push_cast, leL_flD, renL_flD, seval]) (by kernel_rfl) (.inl rfl) (by first | (simp only [push_cast, leL_flD, renL_flD, seval]; done) | (simp only [push_cast, leL_flD, renL_flD, seval]; kernel_rfl) | kernel_rfl) (by first | (simp only [push_cast, leL_flD, renL_flD, seval]; done) | (simp only [push_cast, leL_flD, renL_flD, seval]; kernel_rfl) | kernel_rfl) ?_
  refine rs 9 [] [] (by kernel_rfl) allP_nil ?_
  refine rf [(2, .own 5 0 r2052.2.length), (3, .ptr 6 0), (5, .own 11 0 r2054.2.2.2.length), (6, .ptr 14 0)] [(4, .row 25 [.sl ([([(-1)] : List Int), ([] : List Int)] : List (List Int)).length (fl ([([(-1)] : List Int), ([] : List Int)] : List (List Int))), .sl ([0] : List Int).length (fl ([0] : List Int))]), (5, .row 3 (fl r2052.2)), (6, .row 30 (Enc.cells r2052.1)), (7, .dead), (9, .row 23 (flD dLListInt [12] r2054.2.1)), (10, .row 3 (fl r2054.2.2.1)), (11, .row 3 (fl r2054.2.2.2)), ((.s 12 0), .fam (famD dLListInt 0 r2054.2.1)), (13, .row 25 [.own 9 0 r2054.2.1.length, .own 10 0 r2054.2.2.1.length]), (14, .row 30 (Enc.cells r2054.1))] 15 (by kernel_rfl) ?_
  refine wk_id ?_
  refine seq_cut (A := Bool) (fun a => ([(0, bS a)], [], 0)) (fun a => (taskmilllaw_sweepBegun_j1 a) = some r) (fun K2061 hK2061 => ?_) ?_
  · refine reg_f ?_
    refine rs 4 [] [] (by kernel_rfl) allP_nil ?_
    refine run_br h 28 (.inl (by kernel_rfl)) (fun g2062 h => ?_) (fun g2062 h => ?_)
    · refine rs 5 [] [] (by kernel_rfl) allP_nil ?_
      refine run_br h 33 (.inl (by kernel_rfl)) (fun g2063 h => ?_) (fun g2063 h => ?_)
      · refine rs 2 [] [] (by kernel_rfl) allP_nil ?_
        obtain ⟨r2064, hr2064, h⟩ := bind_sx h
        refine call_x (taskmillref_Ints_spec r2052.2 ([1] : List Int) r2064 hr2064) (args := [.own 5 0 r2052.2.length, .own 15 0 ([1] : List Int).length]) (dst := (some 36)) (by kernel_rfl) [(4, .row 25 [.sl ([([(-1)] : List Int), ([] : List Int)] : List (List Int)).length (fl ([([(-1)] : List Int), ([] : List Int)] : List (List Int))), .sl ([0] : List Int).length (fl ([0] : List Int))]), (5, .row 3 (fl r2052.2)), (6, .row 30 (Enc.cells r2052.1)), (7, .dead), (9, .row 23 (flD dLListInt [12] r2054.2.1)), (10, .row 3 (fl r2054.2.2.1)), (11, .row 3 (fl r2054.2.2.2)), ((.s 12 0), .fam (famD dLListInt 0 r2054.2.1)), (13, .row 25 [.own 9 0 r2054.2.1.length, .own 10 0 r2054.2.2.1.length]), (14, .row 30 (Enc.cells r2054.1)), (15, .row 3 (fl ([1] : List Int)))] 16 (by kernel_rfl) [] [5, 15] (bS r2064) [] (by simp only [push_cast, leL_flD, renL_flD, seval]) (by simp only [push_cast, leL_flD, renL_flD, seval]) (by kernel_rfl) (.inr ⟨by simp only [push_cast, leL_flD, renL_flD, seval], by simp only [push_cast, leL_flD, renL_flD, seval]⟩) (by simp only [push_cast, leL_flD, renL_flD, seval]) (by simp only [push_cast, leL_flD, renL_flD, seval]) ?_
        refine rn 12 [(5, .own 11 0 r2054.2.2.2.length), (33, bS true), (36, bS r2064)] [(4, .row 25 [.sl ([([(-1)] : List Int), ([] : List Int)] : List (List Int)).length (fl ([([(-1)] : List Int), ([] : List Int)] : List (List Int))), .sl ([0] : List Int).length (fl ([0] : List Int))]), (5, .row 3 (fl r2052.2)), (6, .row 30 (Enc.cells r2052.1)), (7, .dead), (9, .row 23 (flD dLListInt [12] r2054.2.1)), (10, .row 3 (fl r2054.2.2.1)), (11, .row 3 (fl r2054.2.2.2)), ((.s 12 0), .fam (famD dLListInt 0 r2054.2.1)), (13, .row 25 [.own 9 0 r2054.2.1.length, .own 10 0 r2054.2.2.1.length]), (14, .row 30 (Enc.cells r2054.1)), (15, .row 3 (fl ([1] : List Int)))] 16 (by kernel_rfl) ?_
        refine rs 2 [] [] (by kernel_rfl) allP_nil ?_
        refine run_br h 38 (.inl (by kernel_rfl)) (fun g2065 h => ?_) (fun g2065 h => ?_)
        · refine rs 2 [] [] (by kernel_rfl) allP_nil ?_
          obtain ⟨r2066, hr2066, h⟩ := bind_sx h
          refine call_x (taskmillref_Ints_spec r2054.2.2.2 ([1] : List Int) r2066 hr2066) (args := [.own 11 0 r2054.2.2.2.length, .own 16 0 ([1] : List Int).length]) (dst := (some 41)) (by kernel_rfl) [(4, .row 25 [.sl ([([(-1)] : List Int), ([] : List Int)] : List (List Int)).length (fl ([([(-1)] : List Int), ([] : List Int)] : List (List Int))), .sl ([0] : List Int).length (fl ([0] : List Int))]), (5, .row 3 (fl r2052.2)), (6, .row 30 (Enc.cells r2052.1)), (7, .dead), (9, .row 23 (flD dLListInt [12] r2054.2.1)), (10, .row 3 (fl r2054.2.2.1)), (11, .row 3 (fl r2054.2.2.2)), ((.s 12 0), .fam (famD dLListInt 0 r2054.2.1)), (13, .row 25 [.own 9 0 r2054.2.1.length, .own 10 0 r2054.2.2.1.length]), (14, .row 30 (Enc.cells r2054.1)), (15, .row 3 (fl ([1] : List Int))), (16, .row 3 (fl ([1] : List Int)))] 17 (by kernel_rfl) [] [11, 16] (bS r2066) [] (by simp only [push_cast, leL_flD, renL_flD, seval]) (by simp only [push_cast, leL_flD, renL_flD, seval]) (by kernel_rfl) (.inr ⟨by simp only [push_cast, leL_flD, renL_flD, seval], by simp only [push_cast, leL_flD, renL_flD, seval]⟩) (by simp only [push_cast, leL_flD, renL_flD, seval]) (by simp only [push_cast, leL_flD, renL_flD, seval]) ?_
          refine rs 2 [] [] (by kernel_rfl) allP_nil ?_
          refine rf [(0, bS r2066)] [(4, .row 25 [.sl ([([(-1)] : List Int), ([] : List Int)] : List (List Int)).length (fl ([([(-1)] : List Int), ([] : List Int)] : List (List Int))), .sl ([0] : List Int).length (fl ([0] : List Int))]), (5, .row 3 (fl r2052.2)), (6, .row 30 (Enc.cells r2052.1)), (7, .dead), (9, .row 23 (flD dLListInt [12] r2054.2.1)), (10, .row 3 (fl r2054.2.2.1)), (11, .row 3 (fl r2054.2.2.2)), ((.s 12 0), .fam (famD dLListInt 0 r2054.2.1)), (13, .row 25 [.own 9 0 r2054.2.1.length, .own 10 0 r2054.2.2.1.length]), (14, .row 30 (Enc.cells r2054.1)), (15, .row 3 (fl ([1] : List Int))), (16, .row 3 (fl ([1] : List Int)))] 17 (by kernel_rfl) ?_
          exact hK2061 (r2066) _ _ _ h (leSt_m [] [] (by first | ((try simp only [g2062, g2063, g2065]) <;> simp only [push_cast, leL_flD, renL_flD, seval]; done) | ((try simp only [g2062]); (try simp only [g2063]); (try simp only [g2065]); simp only [push_cast, leL_flD, renL_flD, seval]; done) | (exfalso; clear h; simp_all; done)) (by first | ((try simp only [g2062, g2063, g2065]) <;> simp only [push_cast, leL_flD, renL_flD, seval]; done) | ((try simp only [g2062]); (try simp only [g2063]); (try simp only [g2065]); simp only [push_cast, leL_flD, renL_flD, seval]; done) | (exfalso; clear h; simp_all; done)) rfl rfl rfl)
        · refine rs 5 [] [] (by kernel_rfl) allP_nil ?_
          refine rf [(0, bS false)] [(4, .row 25 [.sl ([([(-1)] : List Int), ([] : List Int)] : List (List Int)).length (fl ([([(-1)] : List Int), ([] : List Int)] : List (List Int))), .sl ([0] : List Int).length (fl ([0] : List Int))]), (5, .row 3 (fl r2052.2)), (6, .row 30 (Enc.cells r2052.1)), (7, .dead), (9, .row 23 (flD dLListInt [12] r2054.2.1)), (10, .row 3 (fl r2054.2.2.1)), (11, .row 3 (fl r2054.2.2.2)), ((.s 12 0), .fam (famD dLListInt 0 r2054.2.1)), (13, .row 25 [.own 9 0 r2054.2.1.length, .own 10 0 r2054.2.2.1.length]), (14, .row 30 (Enc.cells r2054.1)), (15, .row 3 (fl ([1] : List Int)))] 16 (by kernel_rfl) ?_
          exact hK2061 (false) _ _ _ h (leSt_m [] [] (by first | ((try simp only [g2062, g2063, g2065]) <;> simp only [push_cast, leL_flD, renL_flD, seval]; done) | ((try simp only [g2062]); (try simp only [g2063]); (try simp only [g2065]); simp only [push_cast, leL_flD, renL_flD, seval]; done) | (exfalso; clear h; simp_all; done)) (by first | ((try simp only [g2062, g2063, g2065]) <;> simp only [push_cast, leL_flD, renL_flD, seval]; done) | ((try simp only [g2062]); (try simp only [g2063]); (try simp only [g2065]); simp only [push_cast, leL_flD, renL_flD, seval]; done) | (exfalso; clear h; simp_all; done)) rfl rfl rfl)
      · refine rs 10 [] [] (by kernel_rfl) allP_nil ?_
        refine rf [(0, bS false)] [(4, .row 25 [.sl ([([(-1)] : List Int), ([] : List Int)] : List (List Int)).length (fl ([([(-1)] : List Int), ([] : List Int)] : List (List Int))), .sl ([0] : List Int).length (fl ([0] : List Int))]), (5, .row 3 (fl r2052.2)), (6, .row 30 (Enc.cells r2052.1)), (7, .dead), (9, .row 23 (flD dLListInt [12] r2054.2.1)), (10, .row 3 (fl r2054.2.2.1)), (11, .row 3 (fl r2054.2.2.2)), ((.s 12 0), .fam (famD dLListInt 0 r2054.2.1)), (13, .row 25 [.own 9 0 r2054.2.1.length, .own 10 0 r2054.2.2.1.length]), (14, .row 30 (Enc.cells r2054.1))] 15 (by kernel_rfl) ?_
        exact hK2061 (false) _ _ _ h (leSt_m [] [] (by first | ((try simp only [g2062, g2063]) <;> simp only [push_cast, leL_flD, renL_flD, seval]; done) | ((try simp only [g2062]); (try simp only [g2063]); simp only [push_cast, leL_flD, renL_flD, seval]; done) | (exfalso; clear h; simp_all; done)) (by first | ((try simp only [g2062, g2063]) <;> simp only [push_cast, leL_flD, renL_flD, seval]; done) | ((try simp only [g2062]); (try simp only [g2063]); simp only [push_cast, leL_flD, renL_flD, seval]; done) | (exfalso; clear h; simp_all; done)) rfl rfl rfl)
    · refine rs 15 [] [] (by kernel_rfl) allP_nil ?_
      refine rf [(0, bS false)] [(4, .row 25 [.sl ([([(-1)] : List Int), ([] : List Int)] : List (List Int)).length (fl ([([(-1)] : List Int), ([] : List Int)] : List (List Int))), .sl ([0] : List Int).length (fl ([0] : List Int))]), (5, .row 3 (fl r2052.2)), (6, .row 30 (Enc.cells r2052.1)), (7, .dead), (9, .row 23 (flD dLListInt [12] r2054.2.1)), (10, .row 3 (fl r2054.2.2.1)), (11, .row 3 (fl r2054.2.2.2)), ((.s 12 0), .fam (famD dLListInt 0 r2054.2.1)), (13, .row 25 [.own 9 0 r2054.2.1.length, .own 10 0 r2054.2.2.1.length]), (14, .row 30 (Enc.cells r2054.1))] 15 (by kernel_rfl) ?_
      exact hK2061 (false) _ _ _ h (leSt_m [] [] (by (try simp only [g2062]) <;> simp only [push_cast, leL_flD, renL_flD, seval]) (by (try simp only [g2062]) <;> simp only [push_cast, leL_flD, renL_flD, seval]) rfl rfl rfl)
  · rintro t0q1 h
    try dsimp only at h ⊢
    unfold taskmilllaw_sweepBegun_j1 at h
    obtain rfl := Option.some.inj h
    refine ret_at (bS t0q1) (by kernel_rfl) ?_
    exact ret_e [] [] (by simp only [push_cast, leL_flD, renL_flD, seval]) (by simp only [push_cast, leL_flD, renL_flD, seval]) rfl rfl rfl

set_option maxRecDepth 100000 in
set_option maxHeartbeats 200000000 in
theorem taskmilllaw_vastHeap_spec (xh : GHeap) (r : Bool) (h : taskmilllaw_vastHeap xh = some r) : SpecW Try.prog 9 [.agg (Enc.cells xh)] [] 0 (fun x h n => x = bS r ∧ h = [] ∧ n = 0) := by
  unfold taskmilllaw_vastHeap at h
  refine spec_of (draw_ok _) Try.func9 rfl (by decide) rfl (by kernel_rfl) ?_
  refine seq_np ?_
  refine reg_f ?_
  refine rs 2 [] [] (by kernel_rfl) allP_nil ?_
  refine rf [(1, .ptr 0 0)] [(0, .row 25 (Enc.cells xh))] 1 (by kernel_rfl) ?_
  refine wk_id ?_
  refine seq_np ?_
  refine seq_np ?_
  refine reg_f ?_
  refine rs 1 [] [] (by kernel_rfl) allP_nil ?_
  refine rf [(1, .ptr 0 0), (3, iS 0)] [(0, .row 25 (Enc.cells xh))] 1 (by kernel_rfl) ?_
  refine wk_id ?_
  refine block_np ?_
  refine loop_sx (S := Int) (fun a => ([(1, .ptr 0 0), (3, iS a)], [(0, .row 25 (Enc.cells xh))], 1)) h (leSt_m [(0, 0)] [] (by simp only [push_cast, leL_flD, renL_flD, seval]) (by simp only [push_cast, leL_flD, renL_flD, seval]) rfl rfl rfl) ?_
  rintro i7 o2 R2 h hr2 hn2 hx2 ht2
  try dsimp only at h hn2 ⊢
  unfold taskmilllaw_vastHeap_l1 at h
  try dsimp only at h
  refine seq_np ?_
  refine seq_np ?_
  refine reg_f ?_
  refine rs 5 [] [] (by kernel_rfl) allP_nil ?_
  refine rf [(1, .ptr 0 0), (3, iS i7), (8, bS (decide (i7 < ((xh.Objects.length : Nat) : Int))))] [(0, .row 25 (Enc.cells xh))] 1 (by kernel_rfl) ?_
  refine wk_id ?_
  refine cond_sx h (by kernel_rfl) (fun g2133 h => ?_) (fun g2133 h => ?_)
  · refine wk_id ?_
    refine seq_np ?_
    refine block_np ?_
    refine chk_sx h (fun g2128 h => ?_)
    refine seq_np ?_
    refine reg_f ?_
    have k2127 : 0 ≤ i7 ∧ i7 < ((xh.Objects.length : Nat) : Int) := by first | simpa only [Bool.and_eq_true, decide_eq_true_eq, bne_iff_ne, ne_eq] using g2128 | (simp at g2128 ⊢; omega)
    refine rs 7 [none, none, none, some ⟨.iptr (fl xh.Objects) ((i7).toNat * 1), [], 1, []⟩, some ⟨.sl (ix xh.Objects i7).length (fl (ix xh.Objects i7)), [], 1, []⟩] _ (by kernel_rfl) (allP_cons (ob_ld xh.Objects i7 1 0 ((i7).toNat * 1) k2127 rfl (by decide) (by first | rfl | omega) (dflS Try.prog 23) (.sl (ix xh.Objects i7).length (fl (ix xh.Objects i7))) rfl 1 []) (allP_cons (ob_ix_l xh.Objects 1 1 i7 k2127) allP_nil)) ?_
    refine rf [(1, .ptr 0 0), (3, iS i7), (17, bS (decide ((1000 : Int) < (((ix xh.Objects i7).length : Nat) : Int))))] [(0, .row 25 (Enc.cells xh))] 1 (by kernel_rfl) ?_
    refine wk_id ?_
    refine cond_sx h (by kernel_rfl) (fun g2129 h => ?_) (fun g2129 h => ?_)
    · refine seq_np ?_
      refine reg_f ?_
      refine rs 1 [] [] (by kernel_rfl) allP_nil ?_
      refine rf [(2, bS true)] [(0, .row 25 (Enc.cells xh))] 1 (by kernel_rfl) ?_
      refine wk_id ?_
      refine rt_cast ht2 ?_
      obtain ⟨r0, h, e0⟩ := map_sx h
      have e1 := hr2 r0 e0.symm
      subst r0
      obtain rfl := Option.some.inj h
      refine ret_at (bS true) (by kernel_rfl) ?_
      exact ret_e [] [] (by simp only [push_cast, leL_flD, renL_flD, seval]) (by simp only [push_cast, leL_flD, renL_flD, seval]) rfl rfl rfl
    · refine wk_id ?_
      refine wk_id ?_
      refine reg_f ?_
      refine rs 3 [] [] (by kernel_rfl) allP_nil ?_
      refine rf [(1, .ptr 0 0), (3, iS (IntKind.i64.wrap (i7 + 1)))] [(0, .row 25 (Enc.cells xh))] 1 (by kernel_rfl) ?_
      exact hn2 ((IntKind.i64.wrap (i7 + 1))) _ _ _ (Option.some.inj h).symm (leSt_m [(0, 0)] [] (by simp only [push_cast, leL_flD, renL_flD, seval]) (by simp only [push_cast, leL_flD, renL_flD, seval]) rfl rfl rfl)
  · change R2 (.exit 0) _ _ _
    refine ex_cast hx2 (id := 0) ?_
    obtain ⟨r0, h, e0⟩ := map_sx h
    have e1 := hr2 r0 e0.symm
    subst r0
    refine wk_id ?_
    refine wk_id ?_
    refine seq_cut (A := Unit) (fun _ => ([(2, bS ((decide ((1000 : Int) < ((xh.Objects.length : Nat) : Int))) || (decide ((1000 : Int) < ((xh.Roots.length : Nat) : Int)))))], [(0, .row 25 (Enc.cells xh))], 1)) (fun _ => True) (fun K2131 hK2131 => ?_) (fun _ _ => ?_)
    · refine reg_f ?_
      refine rs 5 [] [] (by kernel_rfl) allP_nil ?_
      refine run_split 22 (decide ((1000 : Int) < ((xh.Objects.length : Nat) : Int))) (.inl (by kernel_rfl)) (fun g2132 => ?_) (fun g2132 => ?_)
      · refine rs 6 [] [] (by kernel_rfl) allP_nil ?_
        refine rf [(2, bS true)] [(0, .row 25 (Enc.cells xh))] 1 (by kernel_rfl) ?_
        exact hK2131 () _ _ _ trivial (leSt_m [(0, 0)] [] (by (try simp only [g2132]) <;> simp only [push_cast, leL_flD, renL_flD, seval]) (by (try simp only [g2132]) <;> simp only [push_cast, leL_flD, renL_flD, seval]) rfl rfl rfl)
      · refine rs 6 [] [] (by kernel_rfl) allP_nil ?_
        refine rf [(2, bS (decide ((1000 : Int) < ((xh.Roots.length : Nat) : Int))))] [(0, .row 25 (Enc.cells xh))] 1 (by kernel_rfl) ?_
        exact hK2131 () _ _ _ trivial (leSt_m [(0, 0)] [] (by (try simp only [g2132]) <;> simp only [push_cast, leL_flD, renL_flD, seval]) (by (try simp only [g2132]) <;> simp only [push_cast, leL_flD, renL_flD, seval]) rfl rfl rfl)
    · dsimp only
      obtain rfl := Option.some.inj h
      refine ret_at (bS ((decide ((1000 : Int) < ((xh.Objects.length : Nat) : Int))) || (decide ((1000 : Int) < ((xh.Roots.length : Nat) : Int))))) (by kernel_rfl) ?_
      exact ret_e [] [] (by simp only [push_cast, leL_flD, renL_flD, seval]) (by simp only [push_cast, leL_flD, renL_flD, seval]) rfl rfl rfl

set_option maxRecDepth 100000 in
set_option maxHeartbeats 200000000 in
theorem taskmilllaw_own_spec (l : (List Int)) (r : (List Int)) (h : taskmilllaw_own l = some r) : SpecW Try.prog 23 [.sl l.length (fl l)] [] 0 (fun x h n => x = .own 0 0 r.length ∧ h = [(0, .row 3 (fl r))] ∧ n = 1) := by
  unfold taskmilllaw_own at h
  refine spec_of (draw_ok _) Try.func23 rfl (by decide) rfl (by kernel_rfl) ?_
  refine seq_np ?_
  refine reg_f ?_
  refine rs 1 [] [] (by kernel_rfl) allP_nil ?_
  refine rf [(0, .sl l.length (fl l))] [] 0 (by kernel_rfl) ?_
  refine wk_id ?_
  refine chk_sx h (fun g2144 h => ?_)
  refine seq_np ?_
  refine reg_f ?_
  have k2143 : l.length * 8 ≤ 140737488355328 := by first | simpa only [Bool.and_eq_true, decide_eq_true_eq, bne_iff_ne, ne_eq] using g2144 | (simp at g2144 ⊢; omega)
  refine rs 3 [none, some ⟨.own 0 0 l.length, [(0, .row 3 (fl l))], 1, []⟩] _ (by kernel_rfl) (allP_cons (ob_app0 (P := Try.prog) l 1 8 rfl (fl l) l.length rfl rfl ((fl l).length = l.length * 1) (app_sl l 1 rfl) 3 (by kernel_rfl) (by decide) k2143 0 []) allP_nil) ?_
  refine rf [(2, .own 0 0 l.length)] [(0, .row 3 (fl l))] 1 (by kernel_rfl) ?_
  refine wk_id ?_
  obtain rfl := Option.some.inj h
  refine ret_at (.own 0 0 l.length) (by kernel_rfl) ?_
  exact ret_e [(0, 0)] [] (by simp only [push_cast, leL_flD, renL_flD, seval]) (by simp only [push_cast, leL_flD, renL_flD, seval]) rfl rfl rfl

set_option maxRecDepth 100000 in
set_option maxHeartbeats 200000000 in
theorem taskmilllaw_ownHeap_spec (xh : GHeap) (r : (List (List Int)) × (List Int)) (h : taskmilllaw_ownHeap xh = some r) : SpecW Try.prog 10 [.agg (Enc.cells xh)] [] 0 (fun x h n => x = .agg [.own 0 0 r.1.length, .own 1 0 r.2.length] ∧ h = [(0, .row 23 (fl r.1)), (1, .row 3 (fl r.2))] ∧ n = 2) := by
  unfold taskmilllaw_ownHeap at h
  refine spec_of (draw_ok _) Try.func10 rfl (by decide) rfl (by kernel_rfl) ?_
  refine seq_np ?_
  refine reg_f ?_
  refine rs 2 [] [] (by kernel_rfl) allP_nil ?_
  refine rf [(1, .ptr 0 0), (2, .ptr 1 0)] [(0, .row 25 (Enc.cells xh)), (1, .row 25 [.v (.slice none 0 0), .v (.slice none 0 0)])] 2 (by kernel_rfl) ?_
  refine wk_id ?_
  refine seq_np ?_
  refine reg_f ?_
  refine rs 1 [] [] (by kernel_rfl) allP_nil ?_
  refine rf [(1, .ptr 0 0), (2, .ptr 1 0), (3, .v (.slice none 0 0))] [(0, .row 25 (Enc.cells xh)), (1, .row 25 [.v (.slice none 0 0), .v (.slice none 0 0)])] 2 (by kernel_rfl) ?_
  refine wk_id ?_
  refine seq_np ?_
  refine seq_np ?_
  refine reg_f ?_
  refine rs 1 [] [] (by kernel_rfl) allP_nil ?_
  refine rf [(1, .ptr 0 0), (2, .ptr 1 0), (3, .v (.slice none 0 0)), (4, iS 0)] [(0, .row 25 (Enc.cells xh)), (1, .row 25 [.v (.slice none 0 0), .v (.slice none 0 0)])] 2 (by kernel_rfl) ?_
  refine wk_id ?_
  refine block_np ?_
  refine loop_sx (S := Int × (List (List Int))) (fun a => ([(1, .ptr 0 0), (2, .ptr 1 0), (3, .own 2 0 a.2.length), (4, iS a.1)], [(0, .row 25 (Enc.cells xh)), (1, .row 25 [.v (.slice none 0 0), .v (.slice none 0 0)]), (2, .row 23 (fl a.2))], 3)) h (leSt_m [(0, 0), (1, 1)] [] (by simp only [push_cast, leL_flD, renL_flD, seval]) (by simp only [push_cast, leL_flD, renL_flD, seval]) rfl rfl rfl) ?_
  rintro ⟨i7, c2q7⟩ o2 R2 h hr2 hn2 hx2 ht2
  try dsimp only at h hn2 ⊢
  unfold taskmilllaw_ownHeap_l1 at h
  try dsimp only at h
  refine seq_np ?_
  refine seq_np ?_
  refine reg_f ?_
  refine rs 5 [] [] (by kernel_rfl) allP_nil ?_
  refine rf [(1, .ptr 0 0), (2, .ptr 1 0), (3, .own 2 0 c2q7.length), (4, iS i7), (9, bS (decide (i7 < ((xh.Objects.length : Nat) : Int))))] [(0, .row 25 (Enc.cells xh)), (1, .row 25 [.v (.slice none 0 0), .v (.slice none 0 0)]), (2, .row 23 (fl c2q7))] 3 (by kernel_rfl) ?_
  refine wk_id ?_
  refine cond_sx h (by kernel_rfl) (fun g2236 h => ?_) (fun g2236 h => ?_)
  · refine wk_id ?_
    refine seq_np ?_
    refine block_np ?_
    refine chk_sx h (fun g2230 h => ?_)
    refine reg_f ?_
    have k2229 : 0 ≤ i7 ∧ i7 < ((xh.Objects.length : Nat) : Int) := by first | simpa only [Bool.and_eq_true, decide_eq_true_eq, bne_iff_ne, ne_eq] using g2230 | (simp at g2230 ⊢; omega)
    refine rs 6 [none, none, none, none, some ⟨.iptr (fl xh.Objects) ((i7).toNat * 1), [], 3, []⟩, some ⟨.sl (ix xh.Objects i7).length (fl (ix xh.Objects i7)), [], 3, []⟩] _ (by kernel_rfl) (allP_cons (ob_ld xh.Objects i7 1 0 ((i7).toNat * 1) k2229 rfl (by decide) (by first | rfl | omega) (dflS Try.prog 23) (.sl (ix xh.Objects i7).length (fl (ix xh.Objects i7))) rfl 3 []) (allP_cons (ob_ix_l xh.Objects 1 3 i7 k2229) allP_nil)) ?_
    obtain ⟨r2231, hr2231, h⟩ := bind_sx h
    refine call_x (SpecW.frz (taskmilllaw_own_spec (ix xh.Objects i7) r2231 hr2231)) (args := [.sl (ix xh.Objects i7).length (fl (ix xh.Objects i7))]) (dst := (some 18)) (by kernel_rfl) [(0, .row 25 (Enc.cells xh)), (1, .row 25 [.v (.slice none 0 0), .v (.slice none 0 0)]), (2, .row 23 (fl c2q7))] 3 (by kernel_rfl) [] [] (.sl r2231.length (fl r2231)) [(3, .dead)] (by simp only [push_cast, leL_flD, renL_flD, seval]) (by simp only [push_cast, leL_flD, renL_flD, seval]) (by kernel_rfl) (.inl rfl) (by simp only [push_cast, leL_flD, renL_flD, seval]) (by simp only [push_cast, leL_flD, renL_flD, seval]) ?_
    refine chk_sx h (fun g2233 h => ?_)
    have k2232 : (c2q7 ++ ([r2231] : List (List Int))).length * 24 ≤ 140737488355328 := by first | simpa only [Bool.and_eq_true, decide_eq_true_eq, bne_iff_ne, ne_eq] using g2233 | (simp at g2233 ⊢; omega)
    refine rs 3 [none, some ⟨.own 5 0 (c2q7 ++ ([r2231] : List (List Int))).length, [(5, .row 23 (fl (c2q7 ++ ([r2231] : List (List Int))))), (2, .dead)], 6, [2, 4]⟩] _ (by kernel_rfl) (allP_cons (ob_app (P := Try.prog) c2q7 ([r2231] : List (List Int)) 1 24 rfl (appCells (fl ([r2231] : List (List Int))) 0 (([r2231] : List (List Int)).length * 1)) ([r2231] : List (List Int)).length (app_own ([r2231] : List (List Int)) 1 rfl) rfl (0 + ([r2231] : List (List Int)).length * 1 ≤ (fl ([r2231] : List (List Int))).length) (app_own_le ([r2231] : List (List Int)) 1 rfl) 23 (by kernel_rfl) (by decide) k2232 2 5 [4]) allP_nil) ?_
    refine rf [(1, .ptr 0 0), (2, .ptr 1 0), (3, .own 5 0 (c2q7 ++ ([r2231] : List (List Int))).length), (4, iS i7)] [(0, .row 25 (Enc.cells xh)), (1, .row 25 [.v (.slice none 0 0), .v (.slice none 0 0)]), (2, .dead), (3, .dead), (4, .row 23 (fl ([r2231] : List (List Int)))), (5, .row 23 (fl (c2q7 ++ ([r2231] : List (List Int)))))] 6 (by kernel_rfl) ?_
    refine wk_id ?_
    refine wk_id ?_
    refine reg_f ?_
    refine rs 3 [] [] (by kernel_rfl) allP_nil ?_
    refine rf [(1, .ptr 0 0), (2, .ptr 1 0), (3, .own 5 0 (c2q7 ++ ([r2231] : List (List Int))).length), (4, iS (IntKind.i64.wrap (i7 + 1)))] [(0, .row 25 (Enc.cells xh)), (1, .row 25 [.v (.slice none 0 0), .v (.slice none 0 0)]), (2, .dead), (3, .dead), (4, .row 23 (fl ([r2231] : List (List Int)))), (5, .row 23 (fl (c2q7 ++ ([r2231] : List (List Int)))))] 6 (by kernel_rfl) ?_
    exact hn2 ((IntKind.i64.wrap (i7 + 1)), (c2q7 ++ ([r2231] : List (List Int)))) _ _ _ (Option.some.inj h).symm (leSt_m [(0, 0), (1, 1), (2, 5)] [] (by simp only [push_cast, leL_flD, renL_flD, seval]) (by simp only [push_cast, leL_flD, renL_flD, seval]) rfl rfl rfl)
  · change R2 (.exit 0) _ _ _
    refine ex_cast hx2 (id := 0) ?_
    obtain ⟨r0, h, e0⟩ := map_sx h
    have e1 := hr2 r0 e0.symm
    subst r0
    refine wk_id ?_
    refine wk_id ?_
    refine seq_np ?_
    refine reg_f ?_
    refine rs 3 [] [] (by kernel_rfl) allP_nil ?_
    obtain ⟨r2235, hr2235, h⟩ := bind_sx h
    refine call_x (taskmilllaw_own_spec xh.Roots r2235 hr2235) (args := [.sl xh.Roots.length (fl xh.Roots)]) (dst := (some 24)) (by kernel_rfl) [(0, .row 25 (Enc.cells xh)), (1, .row 25 [.v (.slice none 0 0), .v (.slice none 0 0)]), (2, .row 23 (fl c2q7))] 3 (by kernel_rfl) [] [] (.own 3 0 r2235.length) [(3, .row 3 (fl r2235))] (by simp only [push_cast, leL_flD, renL_flD, seval]) (by simp only [push_cast, leL_flD, renL_flD, seval]) (by kernel_rfl) (.inl rfl) (by simp only [push_cast, leL_flD, renL_flD, seval]) (by simp only [push_cast, leL_flD, renL_flD, seval]) ?_
    refine rs 2 [] [] (by kernel_rfl) allP_nil ?_
    refine rf [(2, .ptr 1 0)] [(0, .row 25 (Enc.cells xh)), (1, .row 25 [.own 2 0 c2q7.length, .own 3 0 r2235.length]), (2, .row 23 (fl c2q7)), (3, .row 3 (fl r2235))] 4 (by kernel_rfl) ?_
    refine wk_id ?_
    obtain rfl := Option.some.inj h
    refine ret_at (.agg [.own 2 0 c2q7.length, .own 3 0 r2235.length]) (by kernel_rfl) ?_
    exact ret_e [(0, 2), (1, 3)] [] (by simp only [push_cast, leL_flD, renL_flD, seval]) (by simp only [push_cast, leL_flD, renL_flD, seval]) rfl rfl rfl

set_option maxRecDepth 100000 in
set_option maxHeartbeats 200000000 in
theorem taskmillref_F_spec (code : Int) (xat : Int) (r : Fault) (h : taskmillref_F code xat = some r) : SpecW Try.prog 20 [iS code, iS xat] [] 0 (fun x h n => x = .agg (Enc.cells r) ∧ h = [] ∧ n = 0) := by
  unfold taskmillref_F at h
  refine spec_of (draw_ok _) Try.func20 rfl (by decide) rfl (by kernel_rfl) ?_
  refine seq_np ?_
  refine reg_f ?_
  refine rs 1 [] [] (by kernel_rfl) allP_nil ?_
  refine rf [(0, iS code), (1, iS xat), (4, .ptr 0 0)] [(0, .row 30 [iS 0, iS 0])] 1 (by kernel_rfl) ?_
  refine wk_id ?_
  refine seq_np ?_
  refine reg_f ?_
  refine rs 4 [] [] (by kernel_rfl) allP_nil ?_
  refine rf [(4, .ptr 0 0)] [(0, .row 30 [iS code, iS xat])] 1 (by kernel_rfl) ?_
  refine wk_id ?_
  obtain rfl := Option.some.inj h
  refine ret_at (.agg [iS code, iS xat]) (by kernel_rfl) ?_
  exact ret_e [] [] (by simp only [push_cast, leL_flD, renL_flD, seval]) (by simp only [push_cast, leL_flD, renL_flD, seval]) rfl rfl rfl

set_option maxRecDepth 100000 in
set_option maxHeartbeats 200000000 in
theorem taskmillref_HeapsFault_spec (xh : GHeap) (r : Fault) (h : taskmillref_HeapsFault xh = some r) : SpecW Try.prog 13 [.agg (Enc.cells xh)] [] 0 (fun x h n => x = .agg (Enc.cells r) ∧ h = [] ∧ n = 0) := by
  unfold taskmillref_HeapsFault at h
  refine spec_of (draw_ok _) Try.func13 rfl (by decide) rfl (by kernel_rfl) ?_
  refine seq_np ?_
  refine reg_f ?_
  refine rs 2 [] [] (by kernel_rfl) allP_nil ?_
  refine rf [(1, .ptr 0 0), (2, .ptr 1 0)] [(0, .row 25 (Enc.cells xh)), (1, .row 30 [iS 0, iS 0])] 2 (by kernel_rfl) ?_
  refine wk_id ?_
  refine seq_np ?_
  refine seq_cut (A := Unit) (fun _ => ([(1, .ptr 0 0), (2, .ptr 1 0), (15, bS ((decide ((500 : Int) < ((xh.Objects.length : Nat) : Int))) || (decide ((16 : Int) < ((xh.Roots.length : Nat) : Int)))))], [(0, .row 25 (Enc.cells xh)), (1, .row 30 [iS 0, iS 0])], 2)) (fun _ => True) (fun K2417 hK2417 => ?_) (fun _ _ => ?_)
  · refine reg_f ?_
    refine rs 5 [] [] (by kernel_rfl) allP_nil ?_
    refine run_split 10 (decide ((500 : Int) < ((xh.Objects.length : Nat) : Int))) (.inl (by kernel_rfl)) (fun g2418 => ?_) (fun g2418 => ?_)
    · refine rs 5 [] [] (by kernel_rfl) allP_nil ?_
      refine rf [(1, .ptr 0 0), (2, .ptr 1 0), (15, bS true)] [(0, .row 25 (Enc.cells xh)), (1, .row 30 [iS 0, iS 0])] 2 (by kernel_rfl) ?_
      exact hK2417 () _ _ _ trivial (leSt_m [(0, 0), (1, 1)] [] (by (try simp only [g2418]) <;> simp only [push_cast, leL_flD, renL_flD, seval]) (by (try simp only [g2418]) <;> simp only [push_cast, leL_flD, renL_flD, seval]) rfl rfl rfl)
    · refine rs 5 [] [] (by kernel_rfl) allP_nil ?_
      refine rf [(1, .ptr 0 0), (2, .ptr 1 0), (15, bS (decide ((16 : Int) < ((xh.Roots.length : Nat) : Int))))] [(0, .row 25 (Enc.cells xh)), (1, .row 30 [iS 0, iS 0])] 2 (by kernel_rfl) ?_
      exact hK2417 () _ _ _ trivial (leSt_m [(0, 0), (1, 1)] [] (by (try simp only [g2418]) <;> simp only [push_cast, leL_flD, renL_flD, seval]) (by (try simp only [g2418]) <;> simp only [push_cast, leL_flD, renL_flD, seval]) rfl rfl rfl)
  · dsimp only
    refine cond_sx h (by kernel_rfl) (fun g3136 h => ?_) (fun g3136 h => ?_)
    · refine seq_np ?_
      refine reg_f ?_
      obtain ⟨r2420, hr2420, h⟩ := bind_sx h
      refine run_call 20 [iS 2, iS 0] (some 16) (by kernel_rfl) ?_
      refine call_0 (taskmillref_F_spec 2 0 r2420 hr2420) (by simp only [push_cast, leL_flD, renL_flD, seval]) (by simp only [push_cast, leL_flD, renL_flD, seval]) ?_
      refine back_f ?_
      refine rs 1 [] [] (by kernel_rfl) allP_nil ?_
      refine rf [(2, .ptr 1 0)] [(0, .row 25 (Enc.cells xh)), (1, .row 30 (Enc.cells r2420))] 2 (by kernel_rfl) ?_
      refine wk_id ?_
      obtain rfl := Option.some.inj h
      refine ret_at (.agg (Enc.cells r2420)) (by kernel_rfl) ?_
      exact ret_e [] [] (by simp only [push_cast, leL_flD, renL_flD, seval]) (by simp only [push_cast, leL_flD, renL_flD, seval]) rfl rfl rfl
    · refine wk_id ?_
      refine seq_np ?_
      refine seq_np ?_
      refine reg_f ?_
      refine rs 1 [] [] (by kernel_rfl) allP_nil ?_
      refine rf [(1, .ptr 0 0), (2, .ptr 1 0), (3, iS 0)] [(0, .row 25 (Enc.cells xh)), (1, .row 30 [iS 0, iS 0])] 2 (by kernel_rfl) ?_
      refine wk_id ?_
      refine block_np ?_
      refine loop_sx (S := Int) (fun a => ([(1, .ptr 0 0), (2, .ptr 1 0), (3, iS a)], [(0, .row 25 (Enc.cells xh)), (1, .row 30 [iS 0, iS 0])], 2)) h (leSt_m [(0, 0), (1, 1)] [] (by simp only [push_cast, leL_flD, renL_flD, seval]) (by simp only [push_cast, leL_flD, renL_flD, seval]) rfl rfl rfl) ?_
      rintro i9 o4 R4 h hr4 hn4 hx4 ht4
      try dsimp only at h hn4 ⊢
      unfold taskmillref_HeapsFault_l3 at h
      try dsimp only at h
      refine seq_np ?_
      refine seq_np ?_
      refine reg_f ?_
      refine rs 5 [] [] (by kernel_rfl) allP_nil ?_
      refine rf [(1, .ptr 0 0), (2, .ptr 1 0), (3, iS i9), (21, bS (decide (i9 < ((xh.Roots.length : Nat) : Int))))] [(0, .row 25 (Enc.cells xh)), (1, .row 30 [iS 0, iS 0])] 2 (by kernel_rfl) ?_
      refine wk_id ?_
      refine cond_sx h (by kernel_rfl) (fun g3135 h => ?_) (fun g3135 h => ?_)
      · refine wk_id ?_
        refine seq_np ?_
        refine block_np ?_
        refine chk_sx h (fun g2510 h => ?_)
        refine chk_sx h (fun g2513 h => ?_)
        refine seq_cut (A := Unit) (fun _ => ([(1, .ptr 0 0), (2, .ptr 1 0), (3, iS i9), (40, bS ((decide ((ix xh.Roots i9) < (-1))) || (decide (((xh.Objects.length : Nat) : Int) ≤ (ix xh.Roots i9)))))], [(0, .row 25 (Enc.cells xh)), (1, .row 30 [iS 0, iS 0])], 19)) (fun _ => True) (fun K2508 hK2508 => ?_) (fun _ _ => ?_)
        · refine reg_t ?_
          have k2509 : 0 ≤ i9 ∧ i9 < ((xh.Roots.length : Nat) : Int) := by first | simpa only [Bool.and_eq_true, decide_eq_true_eq, bne_iff_ne, ne_eq] using g2510 | (simp at g2510 ⊢; omega)
          refine rs 7 [none, none, none, some ⟨.iptr (fl xh.Roots) ((i9).toNat * 1), [], 5, []⟩, some ⟨iS (ix xh.Roots i9), [], 6, []⟩] _ (by kernel_rfl) (allP_cons (ob_ld xh.Roots i9 1 0 ((i9).toNat * 1) k2509 rfl (by decide) (by first | rfl | omega) (dflS Try.prog 3) (iS (ix xh.Roots i9)) rfl 6 []) (allP_cons (ob_ix_l xh.Roots 1 5 i9 k2509) allP_nil)) ?_
          refine run_split 30 (decide ((ix xh.Roots i9) < (-1))) (.inl (by kernel_rfl)) (fun g2511 => ?_) (fun g2511 => ?_)
          · refine rs 10 [] [] (by kernel_rfl) allP_nil ?_
            refine rt [(1, .ptr 0 0), (2, .ptr 1 0), (3, iS i9), (40, bS true)] [(0, .row 25 (Enc.cells xh)), (1, .row 30 [iS 0, iS 0])] 19 follows (by kernel_rfl) ?_
            exact hK2508 () _ _ _ trivial (leSt_m [(0, 0), (1, 1)] [] (by (try simp only [g2511]) <;> simp only [push_cast, leL_flD, renL_flD, seval]) (by (try simp only [g2511]) <;> simp only [push_cast, leL_flD, renL_flD, seval]) rfl rfl rfl)
          · have k2512 : 0 ≤ i9 ∧ i9 < ((xh.Roots.length : Nat) : Int) := by have e := or_use g2513 (by first | ((try simp only [g2511]) <;> rfl) | ((try simp only [g2511]); rfl) | (exfalso; clear h; simp_all; done)); first | simpa only [Bool.and_eq_true, decide_eq_true_eq, bne_iff_ne, ne_eq] using e | (simp at e ⊢; omega)
            refine rs 10 [none, none, none, some ⟨.iptr (fl xh.Roots) ((i9).toNat * 1), [], 12, []⟩, some ⟨iS (ix xh.Roots i9), [], 13, []⟩] _ (by kernel_rfl) (allP_cons (ob_ld xh.Roots i9 1 0 ((i9).toNat * 1) k2512 rfl (by decide) (by first | rfl | omega) (dflS Try.prog 3) (iS (ix xh.Roots i9)) rfl 13 []) (allP_cons (ob_ix_l xh.Roots 1 12 i9 k2512) allP_nil)) ?_
            refine rt [(1, .ptr 0 0), (2, .ptr 1 0), (3, iS i9), (40, bS (decide (((xh.Objects.length : Nat) : Int) ≤ (ix xh.Roots i9))))] [(0, .row 25 (Enc.cells xh)), (1, .row 30 [iS 0, iS 0])] 19 follows (by kernel_rfl) ?_
            exact hK2508 () _ _ _ trivial (leSt_m [(0, 0), (1, 1)] [] (by (try simp only [g2511]) <;> simp only [push_cast, leL_flD, renL_flD, seval]) (by (try simp only [g2511]) <;> simp only [push_cast, leL_flD, renL_flD, seval]) rfl rfl rfl)
        · dsimp only
          refine cond_sx h (by kernel_rfl) (fun g2516 h => ?_) (fun g2516 h => ?_)
          · refine seq_np ?_
            refine reg_f ?_
            refine rs 1 [] [] (by kernel_rfl) allP_nil ?_
            obtain ⟨r2515, hr2515, h⟩ := bind_sx h
            refine run_call 20 [iS 3, iS i9] (some 42) (by kernel_rfl) ?_
            refine call_0 (taskmillref_F_spec 3 i9 r2515 hr2515) (by simp only [push_cast, leL_flD, renL_flD, seval]) (by simp only [push_cast, leL_flD, renL_flD, seval]) ?_
            refine back_f ?_
            refine rs 1 [] [] (by kernel_rfl) allP_nil ?_
            refine rf [(2, .ptr 1 0)] [(0, .row 25 (Enc.cells xh)), (1, .row 30 (Enc.cells r2515))] 19 (by kernel_rfl) ?_
            refine wk_id ?_
            refine rt_cast ht4 ?_
            obtain ⟨r0, h, e0⟩ := map_sx h
            have e1 := hr4 r0 e0.symm
            subst r0
            obtain rfl := Option.some.inj h
            refine ret_at (.agg (Enc.cells r2515)) (by kernel_rfl) ?_
            exact ret_e [] [] (by simp only [push_cast, leL_flD, renL_flD, seval]) (by simp only [push_cast, leL_flD, renL_flD, seval]) rfl rfl rfl
          · refine wk_id ?_
            refine wk_id ?_
            refine reg_f ?_
            refine rs 3 [] [] (by kernel_rfl) allP_nil ?_
            refine rf [(1, .ptr 0 0), (2, .ptr 1 0), (3, iS (IntKind.i64.wrap (i9 + 1)))] [(0, .row 25 (Enc.cells xh)), (1, .row 30 [iS 0, iS 0])] 19 (by kernel_rfl) ?_
            exact hn4 ((IntKind.i64.wrap (i9 + 1))) _ _ _ (Option.some.inj h).symm (leSt_m [(0, 0), (1, 1)] [] (by simp only [push_cast, leL_flD, renL_flD, seval]) (by simp only [push_cast, leL_flD, renL_flD, seval]) rfl rfl rfl)
      · change R4 (.exit 0) _ _ _
        refine ex_cast hx4 (id := 0) ?_
        obtain ⟨r0, h, e0⟩ := map_sx h
        have e1 := hr4 r0 e0.symm
        subst r0
        refine wk_id ?_
        refine wk_id ?_
        refine seq_np ?_
        refine seq_np ?_
        refine reg_f ?_
        refine rs 1 [] [] (by kernel_rfl) allP_nil ?_
        refine rf [(1, .ptr 0 0), (2, .ptr 1 0), (4, iS 0)] [(0, .row 25 (Enc.cells xh)), (1, .row 30 [iS 0, iS 0])] 2 (by kernel_rfl) ?_
        refine wk_id ?_
        refine block_np ?_
        refine loop_sx (S := Int) (fun a => ([(1, .ptr 0 0), (2, .ptr 1 0), (4, iS a)], [(0, .row 25 (Enc.cells xh)), (1, .row 30 [iS 0, iS 0])], 2)) h (leSt_m [(0, 0), (1, 1)] [] (by simp only [push_cast, leL_flD, renL_flD, seval]) (by simp only [push_cast, leL_flD, renL_flD, seval]) rfl rfl rfl) ?_
        rintro i15 o5 R5 h hr5 hn5 hx5 ht5
        try dsimp only at h hn5 ⊢
        unfold taskmillref_HeapsFault_l2 at h
        try dsimp only at h
        refine seq_np ?_
        refine seq_np ?_
        refine reg_f ?_
        refine rs 5 [] [] (by kernel_rfl) allP_nil ?_
        refine rf [(1, .ptr 0 0), (2, .ptr 1 0), (4, iS i15), (47, bS (decide (i15 < ((xh.Objects.length : Nat) : Int))))] [(0, .row 25 (Enc.cells xh)), (1, .row 30 [iS 0, iS 0])] 2 (by kernel_rfl) ?_
        refine wk_id ?_
        refine cond_sx h (by kernel_rfl) (fun g3134 h => ?_) (fun g3134 h => ?_)
        · refine wk_id ?_
          refine seq_np ?_
          refine block_np ?_
          refine seq_np ?_
          refine chk_sx h (fun g3006 h => ?_)
          refine seq_np ?_
          refine reg_f ?_
          have k3005 : 0 ≤ i15 ∧ i15 < ((xh.Objects.length : Nat) : Int) := by first | simpa only [Bool.and_eq_true, decide_eq_true_eq, bne_iff_ne, ne_eq] using g3006 | (simp at g3006 ⊢; omega)
          refine rs 7 [none, none, none, some ⟨.iptr (fl xh.Objects) ((i15).toNat * 1), [], 2, []⟩, some ⟨.sl (ix xh.Objects i15).length (fl (ix xh.Objects i15)), [], 2, []⟩] _ (by kernel_rfl) (allP_cons (ob_ld xh.Objects i15 1 0 ((i15).toNat * 1) k3005 rfl (by decide) (by first | rfl | omega) (dflS Try.prog 23) (.sl (ix xh.Objects i15).length (fl (ix xh.Objects i15))) rfl 2 []) (allP_cons (ob_ix_l xh.Objects 1 2 i15 k3005) allP_nil)) ?_
          refine rf [(1, .ptr 0 0), (2, .ptr 1 0), (4, iS i15), (56, bS (decide ((20 : Int) < (((ix xh.Objects i15).length : Nat) : Int))))] [(0, .row 25 (Enc.cells xh)), (1, .row 30 [iS 0, iS 0])] 2 (by kernel_rfl) ?_
          refine wk_id ?_
          refine cond_sx h (by kernel_rfl) (fun g3133 h => ?_) (fun g3133 h => ?_)
          · refine seq_np ?_
            refine reg_f ?_
            refine rs 1 [] [] (by kernel_rfl) allP_nil ?_
            obtain ⟨r3008, hr3008, h⟩ := bind_sx h
            refine run_call 20 [iS 8, iS i15] (some 58) (by kernel_rfl) ?_
            refine call_0 (taskmillref_F_spec 8 i15 r3008 hr3008) (by simp only [push_cast, leL_flD, renL_flD, seval]) (by simp only [push_cast, leL_flD, renL_flD, seval]) ?_
            refine back_f ?_
            refine rs 1 [] [] (by kernel_rfl) allP_nil ?_
            refine rf [(2, .ptr 1 0)] [(0, .row 25 (Enc.cells xh)), (1, .row 30 (Enc.cells r3008))] 2 (by kernel_rfl) ?_
            refine wk_id ?_
            refine rt_cast ht5 ?_
            obtain ⟨r0, h, e0⟩ := map_sx h
            have e1 := hr5 r0 e0.symm
            subst r0
            obtain rfl := Option.some.inj h
            refine ret_at (.agg (Enc.cells r3008)) (by kernel_rfl) ?_
            exact ret_e [] [] (by simp only [push_cast, leL_flD, renL_flD, seval]) (by simp only [push_cast, leL_flD, renL_flD, seval]) rfl rfl rfl
          · refine wk_id ?_
            refine seq_np ?_
            refine reg_f ?_
            refine rs 1 [] [] (by kernel_rfl) allP_nil ?_
            refine rf [(1, .ptr 0 0), (2, .ptr 1 0), (4, iS i15), (5, iS 0)] [(0, .row 25 (Enc.cells xh)), (1, .row 30 [iS 0, iS 0])] 2 (by kernel_rfl) ?_
            refine wk_id ?_
            refine block_np ?_
            refine loop_sx (S := Int) (fun a => ([(1, .ptr 0 0), (2, .ptr 1 0), (4, iS i15), (5, iS a)], [(0, .row 25 (Enc.cells xh)), (1, .row 30 [iS 0, iS 0])], 2)) h (leSt_m [(0, 0), (1, 1)] [] (by simp only [push_cast, leL_flD, renL_flD, seval]) (by simp only [push_cast, leL_flD, renL_flD, seval]) rfl rfl rfl) ?_
            rintro k29 o6 R6 h hr6 hn6 hx6 ht6
            try dsimp only at h hn6 ⊢
            unfold taskmillref_HeapsFault_l1 at h
            try dsimp only at h
            refine seq_np ?_
            refine chk_sx h (fun g3087 h => ?_)
            refine seq_np ?_
            refine reg_f ?_
            have k3086 : 0 ≤ i15 ∧ i15 < ((xh.Objects.length : Nat) : Int) := by first | simpa only [Bool.and_eq_true, decide_eq_true_eq, bne_iff_ne, ne_eq] using g3087 | (simp at g3087 ⊢; omega)
            refine rs 8 [none, none, none, none, some ⟨.iptr (fl xh.Objects) ((i15).toNat * 1), [], 2, []⟩, some ⟨.sl (ix xh.Objects i15).length (fl (ix xh.Objects i15)), [], 2, []⟩] _ (by kernel_rfl) (allP_cons (ob_ld xh.Objects i15 1 0 ((i15).toNat * 1) k3086 rfl (by decide) (by first | rfl | omega) (dflS Try.prog 23) (.sl (ix xh.Objects i15).length (fl (ix xh.Objects i15))) rfl 2 []) (allP_cons (ob_ix_l xh.Objects 1 2 i15 k3086) allP_nil)) ?_
            refine rf [(1, .ptr 0 0), (2, .ptr 1 0), (4, iS i15), (5, iS k29), (66, bS (decide (k29 < (((ix xh.Objects i15).length : Nat) : Int))))] [(0, .row 25 (Enc.cells xh)), (1, .row 30 [iS 0, iS 0])] 2 (by kernel_rfl) ?_
            refine wk_id ?_
            refine cond_sx h (by kernel_rfl) (fun g3132 h => ?_) (fun g3132 h => ?_)
            · refine wk_id ?_
              refine seq_np ?_
              refine block_np ?_
              refine chk_sx h (fun g3121 h => ?_)
              refine chk_sx h (fun g3123 h => ?_)
              refine chk_sx h (fun g3126 h => ?_)
              refine chk_sx h (fun g3128 h => ?_)
              refine seq_cut (A := Unit) (fun _ => ([(1, .ptr 0 0), (2, .ptr 1 0), (4, iS i15), (5, iS k29), (91, bS ((decide ((ix (ix xh.Objects i15) k29) < (-1))) || (decide (((xh.Objects.length : Nat) : Int) ≤ (ix (ix xh.Objects i15) k29)))))], [(0, .row 25 (Enc.cells xh)), (1, .row 30 [iS 0, iS 0])], 25)) (fun _ => True) (fun K3119 hK3119 => ?_) (fun _ _ => ?_)
              · refine reg_t ?_
                have k3120 : 0 ≤ i15 ∧ i15 < ((xh.Objects.length : Nat) : Int) := by first | simpa only [Bool.and_eq_true, decide_eq_true_eq, bne_iff_ne, ne_eq] using g3121 | (simp at g3121 ⊢; omega)
                have k3122 : 0 ≤ k29 ∧ k29 < (((ix xh.Objects i15).length : Nat) : Int) := by first | simpa only [Bool.and_eq_true, decide_eq_true_eq, bne_iff_ne, ne_eq] using g3123 | (simp at g3123 ⊢; omega)
                refine rs 10 [none, none, none, some ⟨.iptr (fl xh.Objects) ((i15).toNat * 1), [], 5, []⟩, some ⟨.sl (ix xh.Objects i15).length (fl (ix xh.Objects i15)), [], 6, []⟩, none, some ⟨.iptr (fl (ix xh.Objects i15)) ((k29).toNat * 1), [], 8, []⟩, some ⟨iS (ix (ix xh.Objects i15) k29), [], 9, []⟩] _ (by kernel_rfl) (allP_cons (ob_ld (ix xh.Objects i15) k29 1 0 ((k29).toNat * 1) k3122 rfl (by decide) (by first | rfl | omega) (dflS Try.prog 3) (iS (ix (ix xh.Objects i15) k29)) rfl 9 []) (allP_cons (ob_ix_l (ix xh.Objects i15) 1 8 k29 k3122) (allP_cons (ob_ld xh.Objects i15 1 0 ((i15).toNat * 1) k3120 rfl (by decide) (by first | rfl | omega) (dflS Try.prog 23) (.sl (ix xh.Objects i15).length (fl (ix xh.Objects i15))) rfl 6 []) (allP_cons (ob_ix_l xh.Objects 1 5 i15 k3120) allP_nil)))) ?_
                refine run_split 78 (decide ((ix (ix xh.Objects i15) k29) < (-1))) (.inl (by kernel_rfl)) (fun g3124 => ?_) (fun g3124 => ?_)
                · refine rs 13 [] [] (by kernel_rfl) allP_nil ?_
                  refine rt [(1, .ptr 0 0), (2, .ptr 1 0), (4, iS i15), (5, iS k29), (91, bS true)] [(0, .row 25 (Enc.cells xh)), (1, .row 30 [iS 0, iS 0])] 25 follows (by kernel_rfl) ?_
                  exact hK3119 () _ _ _ trivial (leSt_m [(0, 0), (1, 1)] [] (by (try simp only [g3124]) <;> simp only [push_cast, leL_flD, renL_flD, seval]) (by (try simp only [g3124]) <;> simp only [push_cast, leL_flD, renL_flD, seval]) rfl rfl rfl)
                · have k3125 : 0 ≤ i15 ∧ i15 < ((xh.Objects.length : Nat) : Int) := by have e := or_use g3126 (by first | ((try simp only [g3124]) <;> rfl) | ((try simp only [g3124]); rfl) | (exfalso; clear h; simp_all; done)); first | simpa only [Bool.and_eq_true, decide_eq_true_eq, bne_iff_ne, ne_eq] using e | (simp at e ⊢; omega)
                  have k3127 : 0 ≤ k29 ∧ k29 < (((ix xh.Objects i15).length : Nat) : Int) := by have e := or_use g3128 (by first | ((try simp only [g3124]) <;> rfl) | ((try simp only [g3124]); rfl) | (exfalso; clear h; simp_all; done)); first | simpa only [Bool.and_eq_true, decide_eq_true_eq, bne_iff_ne, ne_eq] using e | (simp at e ⊢; omega)
                  refine rs 13 [none, none, none, some ⟨.iptr (fl xh.Objects) ((i15).toNat * 1), [], 15, []⟩, some ⟨.sl (ix xh.Objects i15).length (fl (ix xh.Objects i15)), [], 16, []⟩, none, some ⟨.iptr (fl (ix xh.Objects i15)) ((k29).toNat * 1), [], 18, []⟩, some ⟨iS (ix (ix xh.Objects i15) k29), [], 19, []⟩] _ (by kernel_rfl) (allP_cons (ob_ld (ix xh.Objects i15) k29 1 0 ((k29).toNat * 1) k3127 rfl (by decide) (by first | rfl | omega) (dflS Try.prog 3) (iS (ix (ix xh.Objects i15) k29)) rfl 19 []) (allP_cons (ob_ix_l (ix xh.Objects i15) 1 18 k29 k3127) (allP_cons (ob_ld xh.Objects i15 1 0 ((i15).toNat * 1) k3125 rfl (by decide) (by first | rfl | omega) (dflS Try.prog 23) (.sl (ix xh.Objects i15).length (fl (ix xh.Objects i15))) rfl 16 []) (allP_cons (ob_ix_l xh.Objects 1 15 i15 k3125) allP_nil)))) ?_
                  refine rt [(1, .ptr 0 0), (2, .ptr 1 0), (4, iS i15), (5, iS k29), (91, bS (decide (((xh.Objects.length : Nat) : Int) ≤ (ix (ix xh.Objects i15) k29))))] [(0, .row 25 (Enc.cells xh)), (1, .row 30 [iS 0, iS 0])] 25 follows (by kernel_rfl) ?_
                  exact hK3119 () _ _ _ trivial (leSt_m [(0, 0), (1, 1)] [] (by (try simp only [g3124]) <;> simp only [push_cast, leL_flD, renL_flD, seval]) (by (try simp only [g3124]) <;> simp only [push_cast, leL_flD, renL_flD, seval]) rfl rfl rfl)
              · dsimp only
                refine cond_sx h (by kernel_rfl) (fun g3131 h => ?_) (fun g3131 h => ?_)
                · refine seq_np ?_
                  refine reg_f ?_
                  refine rs 1 [] [] (by kernel_rfl) allP_nil ?_
                  obtain ⟨r3130, hr3130, h⟩ := bind_sx h
                  refine run_call 20 [iS 5, iS i15] (some 93) (by kernel_rfl) ?_
                  refine call_0 (taskmillref_F_spec 5 i15 r3130 hr3130) (by simp only [push_cast, leL_flD, renL_flD, seval]) (by simp only [push_cast, leL_flD, renL_flD, seval]) ?_
                  refine back_f ?_
                  refine rs 1 [] [] (by kernel_rfl) allP_nil ?_
                  refine rf [(2, .ptr 1 0)] [(0, .row 25 (Enc.cells xh)), (1, .row 30 (Enc.cells r3130))] 25 (by kernel_rfl) ?_
                  refine wk_id ?_
                  refine rt_cast ht6 ?_
                  obtain ⟨r0, h, e0⟩ := map_sx h
                  have e1 := hr6 r0 e0.symm
                  subst r0
                  refine rt_cast ht5 ?_
                  obtain ⟨r0, h, e0⟩ := map_sx h
                  have e1 := hr5 r0 e0.symm
                  subst r0
                  obtain rfl := Option.some.inj h
                  refine ret_at (.agg (Enc.cells r3130)) (by kernel_rfl) ?_
                  exact ret_e [] [] (by simp only [push_cast, leL_flD, renL_flD, seval]) (by simp only [push_cast, leL_flD, renL_flD, seval]) rfl rfl rfl
                · refine wk_id ?_
                  refine wk_id ?_
                  refine reg_f ?_
                  refine rs 3 [] [] (by kernel_rfl) allP_nil ?_
                  refine rf [(1, .ptr 0 0), (2, .ptr 1 0), (4, iS i15), (5, iS (IntKind.i64.wrap (k29 + 1)))] [(0, .row 25 (Enc.cells xh)), (1, .row 30 [iS 0, iS 0])] 25 (by kernel_rfl) ?_
                  exact hn6 ((IntKind.i64.wrap (k29 + 1))) _ _ _ (Option.some.inj h).symm (leSt_m [(0, 0), (1, 1)] [] (by simp only [push_cast, leL_flD, renL_flD, seval]) (by simp only [push_cast, leL_flD, renL_flD, seval]) rfl rfl rfl)
            · change R6 (.exit 4) _ _ _
              refine ex_cast hx6 (id := 4) ?_
              obtain ⟨r0, h, e0⟩ := map_sx h
              have e1 := hr6 r0 e0.symm
              subst r0
              refine wk_id ?_
              refine wk_id ?_
              refine wk_id ?_
              refine reg_f ?_
              refine rs 3 [] [] (by kernel_rfl) allP_nil ?_
              refine rf [(1, .ptr 0 0), (2, .ptr 1 0), (4, iS (IntKind.i64.wrap (i15 + 1)))] [(0, .row 25 (Enc.cells xh)), (1, .row 30 [iS 0, iS 0])] 2 (by kernel_rfl) ?_
              exact hn5 ((IntKind.i64.wrap (i15 + 1))) _ _ _ (Option.some.inj h).symm (leSt_m [(0, 0), (1, 1)] [] (by simp only [push_cast, leL_flD, renL_flD, seval]) (by simp only [push_cast, leL_flD, renL_flD, seval]) rfl rfl rfl)
        · change R5 (.exit 2) _ _ _
          refine ex_cast hx5 (id := 2) ?_
          obtain ⟨r0, h, e0⟩ := map_sx h
          have e1 := hr5 r0 e0.symm
          subst r0
          refine wk_id ?_
          refine wk_id ?_
          refine seq_np ?_
          refine reg_f ?_
          refine rs 2 [] [] (by kernel_rfl) allP_nil ?_
          refine rf [(2, .ptr 1 0)] [(0, .row 25 (Enc.cells xh)), (1, .row 30 [iS 0, iS 0])] 2 (by kernel_rfl) ?_
          refine wk_id ?_
          obtain rfl := Option.some.inj h
          refine ret_at (.agg [iS 0, iS 0]) (by kernel_rfl) ?_
          exact ret_e [] [] (by simp only [push_cast, leL_flD, renL_flD, seval]) (by simp only [push_cast, leL_flD, renL_flD, seval]) rfl rfl rfl

set_option maxRecDepth 100000 in
set_option maxHeartbeats 200000000 in
theorem taskmillref_Lists_spec (xa : (List (List Int))) (b : (List (List Int))) (r : Bool) (h : taskmillref_Lists xa b = some r) : SpecW Try.prog 29 [.sl xa.length (fl xa), .sl b.length (fl b)] [] 0 (fun x h n => x = bS r ∧ h = [] ∧ n = 0) := by
  unfold taskmillref_Lists at h
  refine spec_of (draw_ok _) Try.func29 rfl (by decide) rfl (by kernel_rfl) ?_
  refine seq_np ?_
  refine reg_f ?_
  refine rs 1 [] [] (by kernel_rfl) allP_nil ?_
  refine rf [(0, .sl xa.length (fl xa)), (1, .sl b.length (fl b))] [] 0 (by kernel_rfl) ?_
  refine wk_id ?_
  refine seq_np ?_
  refine seq_np ?_
  refine reg_f ?_
  refine rs 5 [] [] (by kernel_rfl) allP_nil ?_
  refine rf [(0, .sl xa.length (fl xa)), (1, .sl b.length (fl b)), (10, bS (((xa.length : Nat) : Int) != ((b.length : Nat) : Int)))] [] 0 (by kernel_rfl) ?_
  refine wk_id ?_
  refine cond_sx h (by kernel_rfl) (fun g3249 h => ?_) (fun g3249 h => ?_)
  · refine seq_np ?_
    refine reg_f ?_
    refine rs 1 [] [] (by kernel_rfl) allP_nil ?_
    refine rf [(4, bS false)] [] 0 (by kernel_rfl) ?_
    refine wk_id ?_
    obtain rfl := Option.some.inj h
    refine ret_at (bS false) (by kernel_rfl) ?_
    exact ret_e [] [] (by simp only [push_cast, leL_flD, renL_flD, seval]) (by simp only [push_cast, leL_flD, renL_flD, seval]) rfl rfl rfl
  · refine wk_id ?_
    refine seq_np ?_
    refine seq_np ?_
    refine reg_f ?_
    refine rs 1 [] [] (by kernel_rfl) allP_nil ?_
    refine rf [(0, .sl xa.length (fl xa)), (1, .sl b.length (fl b)), (5, iS 0)] [] 0 (by kernel_rfl) ?_
    refine wk_id ?_
    refine block_np ?_
    refine loop_sx (S := Int) (fun a => ([(0, .sl xa.length (fl xa)), (1, .sl b.length (fl b)), (5, iS a)], [], 0)) h (leSt_m [] [] (by simp only [push_cast, leL_flD, renL_flD, seval]) (by simp only [push_cast, leL_flD, renL_flD, seval]) rfl rfl rfl) ?_
    rintro i7 o2 R2 h hr2 hn2 hx2 ht2
    try dsimp only at h hn2 ⊢
    unfold taskmillref_Lists_l1 at h
    try dsimp only at h
    refine seq_np ?_
    refine seq_np ?_
    refine reg_f ?_
    refine rs 4 [] [] (by kernel_rfl) allP_nil ?_
    refine rf [(0, .sl xa.length (fl xa)), (1, .sl b.length (fl b)), (5, iS i7), (14, bS (decide (i7 < ((xa.length : Nat) : Int))))] [] 0 (by kernel_rfl) ?_
    refine wk_id ?_
    refine cond_sx h (by kernel_rfl) (fun g3248 h => ?_) (fun g3248 h => ?_)
    · refine wk_id ?_
      refine seq_np ?_
      refine block_np ?_
      refine chk_sx h (fun g3243 h => ?_)
      refine chk_sx h (fun g3245 h => ?_)
      refine seq_np ?_
      refine reg_t ?_
      have k3242 : 0 ≤ i7 ∧ i7 < ((xa.length : Nat) : Int) := by first | simpa only [Bool.and_eq_true, decide_eq_true_eq, bne_iff_ne, ne_eq] using g3243 | (simp at g3243 ⊢; omega)
      have k3244 : 0 ≤ i7 ∧ i7 < ((b.length : Nat) : Int) := by first | simpa only [Bool.and_eq_true, decide_eq_true_eq, bne_iff_ne, ne_eq] using g3245 | (simp at g3245 ⊢; omega)
      refine rs 8 [none, none, some ⟨.iptr (fl xa) ((i7).toNat * 1), [], 2, []⟩, some ⟨.sl (ix xa i7).length (fl (ix xa i7)), [], 3, []⟩, none, none, some ⟨.iptr (fl b) ((i7).toNat * 1), [], 6, []⟩, some ⟨.sl (ix b i7).length (fl (ix b i7)), [], 7, []⟩] _ (by kernel_rfl) (allP_cons (ob_ld b i7 1 0 ((i7).toNat * 1) k3244 rfl (by decide) (by first | rfl | omega) (dflS Try.prog 23) (.sl (ix b i7).length (fl (ix b i7))) rfl 7 []) (allP_cons (ob_ix_l b 1 6 i7 k3244) (allP_cons (ob_ld xa i7 1 0 ((i7).toNat * 1) k3242 rfl (by decide) (by first | rfl | omega) (dflS Try.prog 23) (.sl (ix xa i7).length (fl (ix xa i7))) rfl 3 []) (allP_cons (ob_ix_l xa 1 2 i7 k3242) allP_nil)))) ?_
      obtain ⟨r3246, hr3246, h⟩ := bind_sx h
      refine run_call 22 [.sl (ix xa i7).length (fl (ix xa i7)), .sl (ix b i7).length (fl (ix b i7))] (some 25) (by kernel_rfl) ?_
      refine callE_0 (taskmillref_Ints_spec (ix xa i7) (ix b i7) r3246 hr3246) (by simp only [push_cast, leL_flD, renL_flD, seval]) (by simp only [push_cast, leL_flD, renL_flD, seval]) ?_
      refine back_t ?_
      refine rs 1 [] [] (by kernel_rfl) allP_nil ?_
      refine rt [(0, .sl xa.length (fl xa)), (1, .sl b.length (fl b)), (5, iS i7), (26, bS (!r3246))] [] 10 follows (by kernel_rfl) ?_
      refine wk_id ?_
      refine cond_sx h (by kernel_rfl) (fun g3247 h => ?_) (fun g3247 h => ?_)
      · refine seq_np ?_
        refine reg_f ?_
        refine rs 1 [] [] (by kernel_rfl) allP_nil ?_
        refine rf [(4, bS false)] [] 10 (by kernel_rfl) ?_
        refine wk_id ?_
        refine rt_cast ht2 ?_
        obtain ⟨r0, h, e0⟩ := map_sx h
        have e1 := hr2 r0 e0.symm
        subst r0
        obtain rfl := Option.some.inj h
        refine ret_at (bS false) (by kernel_rfl) ?_
        exact ret_e [] [] (by simp only [push_cast, leL_flD, renL_flD, seval]) (by simp only [push_cast, leL_flD, renL_flD, seval]) rfl rfl rfl
      · refine wk_id ?_
        refine wk_id ?_
        refine reg_f ?_
        refine rs 3 [] [] (by kernel_rfl) allP_nil ?_
        refine rf [(0, .sl xa.length (fl xa)), (1, .sl b.length (fl b)), (5, iS (IntKind.i64.wrap (i7 + 1)))] [] 10 (by kernel_rfl) ?_
        exact hn2 ((IntKind.i64.wrap (i7 + 1))) _ _ _ (Option.some.inj h).symm (leSt_m [] [] (by simp only [push_cast, leL_flD, renL_flD, seval]) (by simp only [push_cast, leL_flD, renL_flD, seval]) rfl rfl rfl)
    · change R2 (.exit 0) _ _ _
      refine ex_cast hx2 (id := 0) ?_
      obtain ⟨r0, h, e0⟩ := map_sx h
      have e1 := hr2 r0 e0.symm
      subst r0
      refine wk_id ?_
      refine wk_id ?_
      refine seq_np ?_
      refine reg_f ?_
      refine rs 1 [] [] (by kernel_rfl) allP_nil ?_
      refine rf [(4, bS true)] [] 0 (by kernel_rfl) ?_
      refine wk_id ?_
      obtain rfl := Option.some.inj h
      refine ret_at (bS true) (by kernel_rfl) ?_
      exact ret_e [] [] (by simp only [push_cast, leL_flD, renL_flD, seval]) (by simp only [push_cast, leL_flD, renL_flD, seval]) rfl rfl rfl

set_option maxRecDepth 100000 in
set_option maxHeartbeats 200000000 in
theorem taskmillref_SameHeap_spec (xa : GHeap) (b : GHeap) (r : Bool) (h : taskmillref_SameHeap xa b = some r) : SpecW Try.prog 14 [.agg (Enc.cells xa), .agg (Enc.cells b)] [] 0 (fun x h n => x = bS r ∧ h = [] ∧ n = 0) := by
  unfold taskmillref_SameHeap at h
  refine spec_of (draw_ok _) Try.func14 rfl (by decide) rfl (by kernel_rfl) ?_
  refine seq_np ?_
  refine reg_f ?_
  refine rs 3 [] [] (by kernel_rfl) allP_nil ?_
  refine rf [(2, .ptr 0 0), (3, .ptr 1 0)] [(0, .row 25 (Enc.cells xa)), (1, .row 25 (Enc.cells b))] 2 (by kernel_rfl) ?_
  refine wk_id ?_
  refine seq_cut (A := Bool) (fun a => ([(4, bS a)], [], 0)) (fun a => (taskmillref_SameHeap_j1 a) = some r) (fun K3257 hK3257 => ?_) ?_
  · refine reg_f ?_
    refine rs 4 [] [] (by kernel_rfl) allP_nil ?_
    obtain ⟨r3258, hr3258, h⟩ := bind_sx h
    refine run_call 22 [.sl xa.Roots.length (fl xa.Roots), .sl b.Roots.length (fl b.Roots)] (some 9) (by kernel_rfl) ?_
    refine call_0 (taskmillref_Ints_spec xa.Roots b.Roots r3258 hr3258) (by simp only [push_cast, leL_flD, renL_flD, seval]) (by simp only [push_cast, leL_flD, renL_flD, seval]) ?_
    refine back_f ?_
    refine rs 1 [] [] (by kernel_rfl) allP_nil ?_
    refine run_br h 10 (.inl (by kernel_rfl)) (fun g3259 h => ?_) (fun g3259 h => ?_)
    · refine rs 4 [] [] (by kernel_rfl) allP_nil ?_
      obtain ⟨r3260, hr3260, h⟩ := bind_sx h
      refine run_call 29 [.sl xa.Objects.length (fl xa.Objects), .sl b.Objects.length (fl b.Objects)] (some 15) (by kernel_rfl) ?_
      refine call_0 (taskmillref_Lists_spec xa.Objects b.Objects r3260 hr3260) (by simp only [push_cast, leL_flD, renL_flD, seval]) (by simp only [push_cast, leL_flD, renL_flD, seval]) ?_
      refine back_f ?_
      refine rs 2 [] [] (by kernel_rfl) allP_nil ?_
      refine rf [(4, bS r3260)] [(0, .row 25 (Enc.cells xa)), (1, .row 25 (Enc.cells b))] 2 (by kernel_rfl) ?_
      exact hK3257 (r3260) _ _ _ h (leSt_m [] [] (by (try simp only [g3259]) <;> simp only [push_cast, leL_flD, renL_flD, seval]) (by (try simp only [g3259]) <;> simp only [push_cast, leL_flD, renL_flD, seval]) rfl rfl rfl)
    · refine rs 7 [] [] (by kernel_rfl) allP_nil ?_
      refine rf [(4, bS false)] [(0, .row 25 (Enc.cells xa)), (1, .row 25 (Enc.cells b))] 2 (by kernel_rfl) ?_
      exact hK3257 (false) _ _ _ h (leSt_m [] [] (by (try simp only [g3259]) <;> simp only [push_cast, leL_flD, renL_flD, seval]) (by (try simp only [g3259]) <;> simp only [push_cast, leL_flD, renL_flD, seval]) rfl rfl rfl)
  · rintro t4q1 h
    try dsimp only at h ⊢
    unfold taskmillref_SameHeap_j1 at h
    obtain rfl := Option.some.inj h
    refine ret_at (bS t4q1) (by kernel_rfl) ?_
    exact ret_e [] [] (by simp only [push_cast, leL_flD, renL_flD, seval]) (by simp only [push_cast, leL_flD, renL_flD, seval]) rfl rfl rfl

set_option maxRecDepth 100000 in
set_option maxHeartbeats 200000000 in
theorem taskmillref_Not_spec (xin : (List Bool)) (r : (List Int)) (h : taskmillref_Not xin = some r) : SpecW Try.prog 17 [.sl xin.length (fl xin)] [] 0 (fun x h n => x = .own 0 0 r.length ∧ h = [(0, .row 3 (fl r))] ∧ n = 1) := by
  unfold taskmillref_Not at h
  refine spec_of (draw_ok _) Try.func17 rfl (by decide) rfl (by kernel_rfl) ?_
  refine seq_np ?_
  refine reg_f ?_
  refine rs 1 [] [] (by kernel_rfl) allP_nil ?_
  refine rf [(0, .sl xin.length (fl xin))] [] 0 (by kernel_rfl) ?_
  refine wk_id ?_
  refine seq_np ?_
  refine reg_f ?_
  refine rs 1 [] [] (by kernel_rfl) allP_nil ?_
  refine rf [(0, .sl xin.length (fl xin)), (3, .v (.slice none 0 0))] [] 0 (by kernel_rfl) ?_
  refine wk_id ?_
  refine seq_np ?_
  refine seq_np ?_
  refine reg_f ?_
  refine rs 1 [] [] (by kernel_rfl) allP_nil ?_
  refine rf [(0, .sl xin.length (fl xin)), (3, .v (.slice none 0 0)), (4, iS 0)] [] 0 (by kernel_rfl) ?_
  refine wk_id ?_
  refine block_np ?_
  refine loop_sx (S := Int × (List Int)) (fun a => ([(0, .sl xin.length (fl xin)), (3, .own 0 0 a.2.length), (4, iS a.1)], [(0, .row 3 (fl a.2))], 1)) h (leSt_m [] [] (by simp only [push_cast, leL_flD, renL_flD, seval]) (by simp only [push_cast, leL_flD, renL_flD, seval]) rfl rfl rfl) ?_
  rintro ⟨i7, c0q19⟩ o2 R2 h hr2 hn2 hx2 ht2
  try dsimp only at h hn2 ⊢
  unfold taskmillref_Not_l1 at h
  try dsimp only at h
  refine seq_np ?_
  refine seq_np ?_
  refine reg_f ?_
  refine rs 4 [] [] (by kernel_rfl) allP_nil ?_
  refine rf [(0, .sl xin.length (fl xin)), (3, .own 0 0 c0q19.length), (4, iS i7), (8, bS (decide (i7 < ((xin.length : Nat) : Int))))] [(0, .row 3 (fl c0q19))] 1 (by kernel_rfl) ?_
  refine wk_id ?_
  refine cond_sx h (by kernel_rfl) (fun g5788 h => ?_) (fun g5788 h => ?_)
  · refine wk_id ?_
    refine seq_np ?_
    refine block_cut (A := (List Int)) (fun a => ([(0, .sl xin.length (fl xin)), (3, .own 0 0 a.length), (4, iS i7)], [(0, .row 3 (fl a))], 1)) (fun a => (taskmillref_Not_j1 xin i7 a) = some o2) (fun K5778 hK5778 => ?_) ?_
    · refine chk_sx h (fun g5782 h => ?_)
      refine seq_np ?_
      refine reg_f ?_
      have k5781 : 0 ≤ i7 ∧ i7 < ((xin.length : Nat) : Int) := by first | simpa only [Bool.and_eq_true, decide_eq_true_eq, bne_iff_ne, ne_eq] using g5782 | (simp at g5782 ⊢; omega)
      refine rs 5 [none, none, some ⟨.iptr (fl xin) ((i7).toNat * 1), [], 1, []⟩, some ⟨bS (ix xin i7), [], 1, []⟩] _ (by kernel_rfl) (allP_cons (ob_ld xin i7 1 0 ((i7).toNat * 1) k5781 rfl (by decide) (by first | rfl | omega) (dflS Try.prog 4) (bS (ix xin i7)) rfl 1 []) (allP_cons (ob_ix_l xin 1 1 i7 k5781) allP_nil)) ?_
      refine rf [(0, .sl xin.length (fl xin)), (3, .own 0 0 c0q19.length), (4, iS i7), (15, bS (!(ix xin i7)))] [(0, .row 3 (fl c0q19))] 1 (by kernel_rfl) ?_
      refine wk_id ?_
      refine cond_sx h (by kernel_rfl) (fun g5787 h => ?_) (fun g5787 h => ?_)
      · refine chk_sx h (fun g5786 h => ?_)
        refine reg_f ?_
        have k5785 : (c0q19 ++ ([i7] : List Int)).length * 8 ≤ 140737488355328 := by first | simpa only [Bool.and_eq_true, decide_eq_true_eq, bne_iff_ne, ne_eq] using g5786 | (simp at g5786 ⊢; omega)
        refine rs 5 [none, none, none, some ⟨.own 2 0 (c0q19 ++ ([i7] : List Int)).length, [(2, .row 3 (fl (c0q19 ++ ([i7] : List Int)))), (0, .dead)], 3, [0, 1]⟩] _ (by kernel_rfl) (allP_cons (ob_app (P := Try.prog) c0q19 ([i7] : List Int) 1 8 rfl (appCells (fl ([i7] : List Int)) 0 (([i7] : List Int).length * 1)) ([i7] : List Int).length (app_own ([i7] : List Int) 1 rfl) rfl (0 + ([i7] : List Int).length * 1 ≤ (fl ([i7] : List Int)).length) (app_own_le ([i7] : List Int) 1 rfl) 3 (by kernel_rfl) (by decide) k5785 0 2 [1]) allP_nil) ?_
        refine rf [(0, .sl xin.length (fl xin)), (3, .own 2 0 (c0q19 ++ ([i7] : List Int)).length), (4, iS i7)] [(0, .dead), (1, .row 3 (fl ([i7] : List Int))), (2, .row 3 (fl (c0q19 ++ ([i7] : List Int))))] 3 (by kernel_rfl) ?_
        exact hK5778 ((c0q19 ++ ([i7] : List Int))) _ _ _ h (leSt_m [(0, 2)] [] (by simp only [push_cast, leL_flD, renL_flD, seval]) (by simp only [push_cast, leL_flD, renL_flD, seval]) rfl rfl rfl)
      · exact hK5778 (c0q19) _ _ _ h (leSt_m [(0, 0)] [] (by simp only [push_cast, leL_flD, renL_flD, seval]) (by simp only [push_cast, leL_flD, renL_flD, seval]) rfl rfl rfl)
    · rintro c0q21 h
      try dsimp only at h ⊢
      unfold taskmillref_Not_j1 at h
      refine wk_id ?_
      refine reg_f ?_
      refine rs 3 [] [] (by kernel_rfl) allP_nil ?_
      refine rf [(0, .sl xin.length (fl xin)), (3, .own 0 0 c0q21.length), (4, iS (IntKind.i64.wrap (i7 + 1)))] [(0, .row 3 (fl c0q21))] 1 (by kernel_rfl) ?_
      exact hn2 ((IntKind.i64.wrap (i7 + 1)), c0q21) _ _ _ (Option.some.inj h).symm (leSt_m [(0, 0)] [] (by simp only [push_cast, leL_flD, renL_flD, seval]) (by simp only [push_cast, leL_flD, renL_flD, seval]) rfl rfl rfl)
  · change R2 (.exit 0) _ _ _
    refine ex_cast hx2 (id := 0) ?_
    obtain ⟨r0, h, e0⟩ := map_sx h
    have e1 := hr2 r0 e0.symm
    subst r0
    refine wk_id ?_
    refine wk_id ?_
    refine seq_np ?_
    refine reg_f ?_
    refine rs 2 [] [] (by kernel_rfl) allP_nil ?_
    refine rf [(2, .own 0 0 c0q19.length)] [(0, .row 3 (fl c0q19))] 1 (by kernel_rfl) ?_
    refine wk_id ?_
    obtain rfl := Option.some.inj h
    refine ret_at (.own 0 0 c0q19.length) (by kernel_rfl) ?_
    exact ret_e [(0, 0)] [] (by simp only [push_cast, leL_flD, renL_flD, seval]) (by simp only [push_cast, leL_flD, renL_flD, seval]) rfl rfl rfl

set_option maxRecDepth 100000 in
set_option maxHeartbeats 200000000 in
theorem taskmillref_Has_spec (l : (List Int)) (n : Int) (r : Bool) (h : taskmillref_Has l n = some r) : SpecW Try.prog 41 [.sl l.length (fl l), iS n] [] 0 (fun x h n => x = bS r ∧ h = [] ∧ n = 0) := by
  unfold taskmillref_Has at h
  refine spec_of (draw_ok _) Try.func41 rfl (by decide) rfl (by kernel_rfl) ?_
  refine seq_np ?_
  refine reg_f ?_
  refine rs 1 [] [] (by kernel_rfl) allP_nil ?_
  refine rf [(0, .sl l.length (fl l)), (1, iS n)] [] 0 (by kernel_rfl) ?_
  refine wk_id ?_
  refine seq_np ?_
  refine seq_np ?_
  refine reg_f ?_
  refine rs 1 [] [] (by kernel_rfl) allP_nil ?_
  refine rf [(0, .sl l.length (fl l)), (1, iS n), (5, iS 0)] [] 0 (by kernel_rfl) ?_
  refine wk_id ?_
  refine block_np ?_
  refine loop_sx (S := Int) (fun a => ([(0, .sl l.length (fl l)), (1, iS n), (5, iS a)], [], 0)) h (leSt_m [] [] (by simp only [push_cast, leL_flD, renL_flD, seval]) (by simp only [push_cast, leL_flD, renL_flD, seval]) rfl rfl rfl) ?_
  rintro i7 o2 R2 h hr2 hn2 hx2 ht2
  try dsimp only at h hn2 ⊢
  unfold taskmillref_Has_l1 at h
  try dsimp only at h
  refine seq_np ?_
  refine seq_np ?_
  refine reg_f ?_
  refine rs 4 [] [] (by kernel_rfl) allP_nil ?_
  refine rf [(0, .sl l.length (fl l)), (1, iS n), (5, iS i7), (9, bS (decide (i7 < ((l.length : Nat) : Int))))] [] 0 (by kernel_rfl) ?_
  refine wk_id ?_
  refine cond_sx h (by kernel_rfl) (fun g5957 h => ?_) (fun g5957 h => ?_)
  · refine wk_id ?_
    refine seq_np ?_
    refine block_np ?_
    refine chk_sx h (fun g5955 h => ?_)
    refine seq_np ?_
    refine reg_f ?_
    have k5954 : 0 ≤ i7 ∧ i7 < ((l.length : Nat) : Int) := by first | simpa only [Bool.and_eq_true, decide_eq_true_eq, bne_iff_ne, ne_eq] using g5955 | (simp at g5955 ⊢; omega)
    refine rs 6 [none, none, some ⟨.iptr (fl l) ((i7).toNat * 1), [], 0, []⟩, some ⟨iS (ix l i7), [], 0, []⟩] _ (by kernel_rfl) (allP_cons (ob_ld l i7 1 0 ((i7).toNat * 1) k5954 rfl (by decide) (by first | rfl | omega) (dflS Try.prog 3) (iS (ix l i7)) rfl 0 []) (allP_cons (ob_ix_l l 1 0 i7 k5954) allP_nil)) ?_
    refine rf [(0, .sl l.length (fl l)), (1, iS n), (5, iS i7), (17, bS ((ix l i7) == n))] [] 0 (by kernel_rfl) ?_
    refine wk_id ?_
    refine cond_sx h (by kernel_rfl) (fun g5956 h => ?_) (fun g5956 h => ?_)
    · refine seq_np ?_
      refine reg_f ?_
      refine rs 1 [] [] (by kernel_rfl) allP_nil ?_
      refine rf [(4, bS true)] [] 0 (by kernel_rfl) ?_
      refine wk_id ?_
      refine rt_cast ht2 ?_
      obtain ⟨r0, h, e0⟩ := map_sx h
      have e1 := hr2 r0 e0.symm
      subst r0
      obtain rfl := Option.some.inj h
      refine ret_at (bS true) (by kernel_rfl) ?_
      exact ret_e [] [] (by simp only [push_cast, leL_flD, renL_flD, seval]) (by simp only [push_cast, leL_flD, renL_flD, seval]) rfl rfl rfl
    · refine wk_id ?_
      refine wk_id ?_
      refine reg_f ?_
      refine rs 3 [] [] (by kernel_rfl) allP_nil ?_
      refine rf [(0, .sl l.length (fl l)), (1, iS n), (5, iS (IntKind.i64.wrap (i7 + 1)))] [] 0 (by kernel_rfl) ?_
      exact hn2 ((IntKind.i64.wrap (i7 + 1))) _ _ _ (Option.some.inj h).symm (leSt_m [] [] (by simp only [push_cast, leL_flD, renL_flD, seval]) (by simp only [push_cast, leL_flD, renL_flD, seval]) rfl rfl rfl)
  · change R2 (.exit 0) _ _ _
    refine ex_cast hx2 (id := 0) ?_
    obtain ⟨r0, h, e0⟩ := map_sx h
    have e1 := hr2 r0 e0.symm
    subst r0
    refine wk_id ?_
    refine wk_id ?_
    refine seq_np ?_
    refine reg_f ?_
    refine rs 1 [] [] (by kernel_rfl) allP_nil ?_
    refine rf [(4, bS false)] [] 0 (by kernel_rfl) ?_
    refine wk_id ?_
    obtain rfl := Option.some.inj h
    refine ret_at (bS false) (by kernel_rfl) ?_
    exact ret_e [] [] (by simp only [push_cast, leL_flD, renL_flD, seval]) (by simp only [push_cast, leL_flD, renL_flD, seval]) rfl rfl rfl

set_option maxRecDepth 100000 in
set_option maxHeartbeats 200000000 in
theorem taskmillref_Marking_shade_1_spec (xo : Int) (c1 : (List (List Int))) (c3 : (List Int)) (c4 : (List Bool)) (c5 : (List Int)) (r : (List Int) × (List (List Int)) × (List Int) × (List Bool)) (h : taskmillref_Marking_shade_1 xo c1 c3 c4 c5 = some r) : SpecW Try.prog 39 [.ptr 0 0, iS xo] [(0, .row 59 [.own 1 0 c1.length, .own 3 0 c3.length, .own 4 0 c4.length, .own 5 0 c5.length]), (1, .row 23 (flD dLListInt [2] c1)), ((.s 2 0), .fam (famD dLListInt 0 c1)), (3, .row 3 (fl c3)), (4, .row 4 (fl c4)), (5, .row 3 (fl c5))] 6 (fun x h n => x = .tup [] ∧ h = [(0, .row 59 [.own 1 0 r.2.1.length, .own 3 0 r.2.2.1.length, .own 4 0 r.2.2.2.length, .own 6 0 r.1.length]), (1, .row 23 (flD dLListInt [2] r.2.1)), ((.s 2 0), .fam (famD dLListInt 0 r.2.1)), (3, .row 3 (fl r.2.2.1)), (4, .row 4 (fl r.2.2.2)), (5, .dead), (6, .row 3 (fl r.1))] ∧ n = 7) := by
  unfold taskmillref_Marking_shade_1 at h
  refine spec_of (draw_ok _) Try.func39 rfl (by decide) rfl (by kernel_rfl) ?_
  refine seq_cut (A := Bool) (fun a => ([(0, .ptr 0 0), (1, iS xo), (24, bS a)], [(0, .row 59 [.own 1 0 c1.length, .own 3 0 c3.length, .own 4 0 c4.length, .own 5 0 c5.length]), (1, .row 23 (flD dLListInt [2] c1)), ((.s 2 0), .fam (famD dLListInt 0 c1)), (3, .row 3 (fl c3)), (4, .row 4 (fl c4)), (5, .row 3 (fl c5))], 6)) (fun a => (taskmillref_Marking_shade_1_j1 xo c1 c3 c4 c5 a) = some r) (fun K5980 hK5980 => ?_) ?_
  · refine reg_f ?_
    refine rs 3 [] [] (by kernel_rfl) allP_nil ?_
    refine run_br h 6 (.inl (by kernel_rfl)) (fun g5981 h => ?_) (fun g5981 h => ?_)
    · refine chk_sx h (fun g5983 h => ?_)
      have k5982 : 0 ≤ xo ∧ xo < ((c4.length : Nat) : Int) := by first | simpa only [Bool.and_eq_true, decide_eq_true_eq, bne_iff_ne, ne_eq] using g5983 | (simp at g5983 ⊢; omega)
      refine rs 10 [none, none, none, none, none, some ⟨.ptr 4 (0 + (xo).toNat * 1), [], 6, [4]⟩, some ⟨bS (ix c4 xo), [], 6, [4]⟩] _ (by kernel_rfl) (allP_cons (ob_ld c4 xo 1 0 (0 + (xo).toNat * 1) k5982 rfl (by decide) (by first | rfl | omega) (dflS Try.prog 4) (bS (ix c4 xo)) rfl 6 [4]) (allP_cons (ob_ix_o 4 c4.length 0 1 6 xo k5982) allP_nil)) ?_
      refine run_br h 16 (.inl (by kernel_rfl)) (fun g5984 h => ?_) (fun g5984 h => ?_)
      · refine rs 5 [] [] (by kernel_rfl) allP_nil ?_
        obtain ⟨r5985, hr5985, h⟩ := bind_sx h
        refine call_x (taskmillref_Has_spec c5 xo r5985 hr5985) (args := [.own 5 0 c5.length, iS xo]) (dst := (some 22)) (by kernel_rfl) [(0, .row 59 [.own 1 0 c1.length, .own 3 0 c3.length, .own 4 0 c4.length, .own 5 0 c5.length]), (1, .row 23 (flD dLListInt [2] c1)), ((.s 2 0), .fam (famD dLListInt 0 c1)), (3, .row 3 (fl c3)), (4, .row 4 (fl c4)), (5, .row 3 (fl c5))] 6 (by kernel_rfl) [] [5] (bS r5985) [] (by simp only [push_cast, leL_flD, renL_flD, seval]) (by simp only [push_cast, leL_flD, renL_flD, seval]) (by kernel_rfl) (.inr ⟨by simp only [push_cast, leL_flD, renL_flD, seval], by simp only [push_cast, leL_flD, renL_flD, seval]⟩) (by simp only [push_cast, leL_flD, renL_flD, seval]) (by simp only [push_cast, leL_flD, renL_flD, seval]) ?_
        refine rs 2 [] [] (by kernel_rfl) allP_nil ?_
        refine rf [(0, .ptr 0 0), (1, iS xo), (24, bS (!r5985))] [(0, .row 59 [.own 1 0 c1.length, .own 3 0 c3.length, .own 4 0 c4.length, .own 5 0 c5.length]), (1, .row 23 (flD dLListInt [2] c1)), ((.s 2 0), .fam (famD dLListInt 0 c1)), (3, .row 3 (fl c3)), (4, .row 4 (fl c4)), (5, .row 3 (fl c5))] 6 (by kernel_rfl) ?_
        exact hK5980 ((!r5985)) _ _ _ h (leSt_m [(0, 0), (1, 1), ((.s 2 0), (.s 2 0)), (3, 3), (4, 4), (5, 5)] [] (by first | ((try simp only [g5981, g5984]) <;> simp only [push_cast, leL_flD, renL_flD, seval]; done) | ((try simp only [g5981]); (try simp only [g5984]); simp only [push_cast, leL_flD, renL_flD, seval]; done) | (exfalso; clear h; simp_all; done)) (by first | ((try simp only [g5981, g5984]) <;> simp only [push_cast, leL_flD, renL_flD, seval]; done) | ((try simp only [g5981]); (try simp only [g5984]); simp only [push_cast, leL_flD, renL_flD, seval]; done) | (exfalso; clear h; simp_all; done)) rfl rfl rfl)
      · refine rs 8 [] [] (by kernel_rfl) allP_nil ?_
        refine rf [(0, .ptr 0 0), (1, iS xo), (24, bS false)] [(0, .row 59 [.own 1 0 c1.length, .own 3 0 c3.length, .own 4 0 c4.length, .own 5 0 c5.length]), (1, .row 23 (flD dLListInt [2] c1)), ((.s 2 0), .fam (famD dLListInt 0 c1)), (3, .row 3 (fl c3)), (4, .row 4 (fl c4)), (5, .row 3 (fl c5))] 6 (by kernel_rfl) ?_
        exact hK5980 (false) _ _ _ h (leSt_m [(0, 0), (1, 1), ((.s 2 0), (.s 2 0)), (3, 3), (4, 4), (5, 5)] [] (by first | ((try simp only [g5981, g5984]) <;> simp only [push_cast, leL_flD, renL_flD, seval]; done) | ((try simp only [g5981]); (try simp only [g5984]); simp only [push_cast, leL_flD, renL_flD, seval]; done) | (exfalso; clear h; simp_all; done)) (by first | ((try simp only [g5981, g5984]) <;> simp only [push_cast, leL_flD, renL_flD, seval]; done) | ((try simp only [g5981]); (try simp only [g5984]); simp only [push_cast, leL_flD, renL_flD, seval]; done) | (exfalso; clear h; simp_all; done)) rfl rfl rfl)
    · refine rs 18 [] [] (by kernel_rfl) allP_nil ?_
      refine rf [(0, .ptr 0 0), (1, iS xo), (24, bS false)] [(0, .row 59 [.own 1 0 c1.length, .own 3 0 c3.length, .own 4 0 c4.length, .own 5 0 c5.length]), (1, .row 23 (flD dLListInt [2] c1)), ((.s 2 0), .fam (famD dLListInt 0 c1)), (3, .row 3 (fl c3)), (4, .row 4 (fl c4)), (5, .row 3 (fl c5))] 6 (by kernel_rfl) ?_
      exact hK5980 (false) _ _ _ h (leSt_m [(0, 0), (1, 1), ((.s 2 0), (.s 2 0)), (3, 3), (4, 4), (5, 5)] [] (by (try simp only [g5981]) <;> simp only [push_cast, leL_flD, renL_flD, seval]) (by (try simp only [g5981]) <;> simp only [push_cast, leL_flD, renL_flD, seval]) rfl rfl rfl)
  · rintro t24q1 h
    try dsimp only at h ⊢
    unfold taskmillref_Marking_shade_1_j1 at h
    refine cond_sx h (by kernel_rfl) (fun g5990 h => ?_) (fun g5990 h => ?_)
    · refine chk_sx h (fun g5989 h => ?_)
      refine reg_f ?_
      have k5988 : (c5 ++ ([xo] : List Int)).length * 8 ≤ 140737488355328 := by first | simpa only [Bool.and_eq_true, decide_eq_true_eq, bne_iff_ne, ne_eq] using g5989 | (simp at g5989 ⊢; omega)
      refine rs 11 [none, none, none, none, none, none, none, some ⟨.own 7 0 (c5 ++ ([xo] : List Int)).length, [(7, .row 3 (fl (c5 ++ ([xo] : List Int)))), (5, .dead)], 8, [5, 6]⟩] _ (by kernel_rfl) (allP_cons (ob_app (P := Try.prog) c5 ([xo] : List Int) 1 8 rfl (appCells (fl ([xo] : List Int)) 0 (([xo] : List Int).length * 1)) ([xo] : List Int).length (app_own ([xo] : List Int) 1 rfl) rfl (0 + ([xo] : List Int).length * 1 ≤ (fl ([xo] : List Int)).length) (app_own_le ([xo] : List Int) 1 rfl) 3 (by kernel_rfl) (by decide) k5988 5 7 [6]) allP_nil) ?_
      refine rf [] [(0, .row 59 [.own 1 0 c1.length, .own 3 0 c3.length, .own 4 0 c4.length, .own 7 0 (c5 ++ ([xo] : List Int)).length]), (1, .row 23 (flD dLListInt [2] c1)), ((.s 2 0), .fam (famD dLListInt 0 c1)), (3, .row 3 (fl c3)), (4, .row 4 (fl c4)), (5, .dead), (6, .row 3 (fl ([xo] : List Int))), (7, .row 3 (fl (c5 ++ ([xo] : List Int))))] 8 (by kernel_rfl) ?_
      obtain rfl := Option.some.inj h
      refine ret_an (.tup []) (by kernel_rfl) ?_
      exact ret_e [(0, 0), (1, 1), ((.s 2 0), (.s 2 0)), (3, 3), (4, 4), (6, 7)] [] (by simp only [push_cast, leL_flD, renL_flD, seval]) (by simp only [push_cast, leL_flD, renL_flD, seval]) rfl rfl rfl
    · obtain rfl := Option.some.inj h
      refine ret_an (.tup []) (by kernel_rfl) ?_
      exact ret_e [(0, 0), (1, 1), ((.s 2 0), (.s 2 0)), (3, 3), (4, 4), (6, 5)] [] (by simp only [push_cast, leL_flD, renL_flD, seval]) (by simp only [push_cast, leL_flD, renL_flD, seval]) rfl rfl rfl

set_option maxRecDepth 100000 in
set_option maxHeartbeats 200000000 in
theorem taskmillref_Marking_roots_1_spec (c5 : (List Int)) (c1 : (List (List Int))) (c3 : (List Int)) (c4 : (List Bool)) (r : (List Int) × (List (List Int)) × (List Int) × (List Bool)) (h : taskmillref_Marking_roots_1 c5 c1 c3 c4 = some r) : SpecW Try.prog 31 [.ptr 0 0] [(0, .row 59 [.own 1 0 c1.length, .own 3 0 c3.length, .own 4 0 c4.length, .own 5 0 c5.length]), (1, .row 23 (flD dLListInt [2] c1)), ((.s 2 0), .fam (famD dLListInt 0 c1)), (3, .row 3 (fl c3)), (4, .row 4 (fl c4)), (5, .row 3 (fl c5))] 6 (fun x h n => x = .tup [] ∧ h = [(0, .row 59 [.own 1 0 r.2.1.length, .own 3 0 r.2.2.1.length, .own 4 0 r.2.2.2.length, .own 6 0 r.1.length]), (1, .row 23 (flD dLListInt [2] r.2.1)), ((.s 2 0), .fam (famD dLListInt 0 r.2.1)), (3, .row 3 (fl r.2.2.1)), (4, .row 4 (fl r.2.2.2)), (5, .dead), (6, .row 3 (fl r.1))] ∧ n = 7) := by
  unfold taskmillref_Marking_roots_1 at h
  refine spec_of (draw_ok _) Try.func31 rfl (by decide) rfl (by kernel_rfl) ?_
  refine seq_np ?_
  refine reg_f ?_
  refine rs 1 [] [] (by kernel_rfl) allP_nil ?_
  refine rf [(0, .ptr 0 0), (2, iS 0)] [(0, .row 59 [.own 1 0 c1.length, .own 3 0 c3.length, .own 4 0 c4.length, .own 5 0 c5.length]), (1, .row 23 (flD dLListInt [2] c1)), ((.s 2 0), .fam (famD dLListInt 0 c1)), (3, .row 3 (fl c3)), (4, .row 4 (fl c4)), (5, .row 3 (fl c5))] 6 (by kernel_rfl) ?_
  refine wk_id ?_
  refine block_np ?_
  refine loop_sx (S := Int × (List (List Int)) × (List Int) × (List Bool) × (List Int)) (fun a => ([(0, .ptr 0 0), (2, iS a.1)], [(0, .row 59 [.own 1 0 a.2.1.length, .own 3 0 a.2.2.1.length, .own 4 0 a.2.2.2.1.length, .own 6 0 a.2.2.2.2.length]), (1, .row 23 (flD dLListInt [2] a.2.1)), ((.s 2 0), .fam (famD dLListInt 0 a.2.1)), (3, .row 3 (fl a.2.2.1)), (4, .row 4 (fl a.2.2.2.1)), (5, .dead), (6, .row 3 (fl a.2.2.2.2))], 7)) h (leSt_m [(0, 0), (1, 1), ((.s 2 0), (.s 2 0)), (3, 3), (4, 4), (6, 5)] [] (by simp only [push_cast, leL_flD, renL_flD, seval]) (by simp only [push_cast, leL_flD, renL_flD, seval]) rfl rfl rfl) ?_
  rintro ⟨i3, c1q5, c3q5, c4q5, c6q4⟩ o2 R2 h hr2 hn2 hx2 ht2
  try dsimp only at h hn2 ⊢
  unfold taskmillref_Marking_roots_1_l1 at h
  try dsimp only at h
  refine seq_np ?_
  refine seq_np ?_
  refine reg_f ?_
  refine rs 8 [] [] (by kernel_rfl) allP_nil ?_
  refine rf [(0, .ptr 0 0), (2, iS i3), (10, bS (decide (i3 < ((c3q5.length : Nat) : Int))))] [(0, .row 59 [.own 1 0 c1q5.length, .own 3 0 c3q5.length, .own 4 0 c4q5.length, .own 6 0 c6q4.length]), (1, .row 23 (flD dLListInt [2] c1q5)), ((.s 2 0), .fam (famD dLListInt 0 c1q5)), (3, .row 3 (fl c3q5)), (4, .row 4 (fl c4q5)), (5, .dead), (6, .row 3 (fl c6q4))] 7 (by kernel_rfl) ?_
  refine wk_id ?_
  refine cond_sx h (by kernel_rfl) (fun g6050 h => ?_) (fun g6050 h => ?_)
  · refine wk_id ?_
    refine seq_np ?_
    refine block_np ?_
    refine chk_sx h (fun g6045 h => ?_)
    refine reg_f ?_
    have k6044 : 0 ≤ i3 ∧ i3 < ((c3q5.length : Nat) : Int) := by first | simpa only [Bool.and_eq_true, decide_eq_true_eq, bne_iff_ne, ne_eq] using g6045 | (simp at g6045 ⊢; omega)
    refine rs 9 [none, none, none, none, none, none, none, some ⟨.ptr 3 (0 + (i3).toNat * 1), [], 7, [3]⟩, some ⟨iS (ix c3q5 i3), [], 7, [3]⟩] _ (by kernel_rfl) (allP_cons (ob_ld c3q5 i3 1 0 (0 + (i3).toNat * 1) k6044 rfl (by decide) (by first | rfl | omega) (dflS Try.prog 3) (iS (ix c3q5 i3)) rfl 7 [3]) (allP_cons (ob_ix_o 3 c3q5.length 0 1 7 i3 k6044) allP_nil)) ?_
    obtain ⟨r6046, hr6046, h⟩ := bind_sx h
    refine call_x (taskmillref_Marking_shade_1_spec (ix c3q5 i3) c1q5 c3q5 c4q5 c6q4 r6046 hr6046) (args := [.ptr 0 0, iS (ix c3q5 i3)]) (dst := (some 22)) (by kernel_rfl) [(0, .row 59 [.own 1 0 c1q5.length, .own 3 0 c3q5.length, .own 4 0 c4q5.length, .own 6 0 c6q4.length]), (1, .row 23 (flD dLListInt [2] c1q5)), ((.s 2 0), .fam (famD dLListInt 0 c1q5)), (3, .row 3 (fl c3q5)), (4, .row 4 (fl c4q5)), (5, .dead), (6, .row 3 (fl c6q4))] 7 (by kernel_rfl) [(0, 0), (1, 1), ((.s 2 0), (.s 2 0)), (3, 3), (4, 4), (5, 6)] [] (.tup []) [(0, .row 59 [.own 1 0 r6046.2.1.length, .own 3 0 r6046.2.2.1.length, .own 4 0 r6046.2.2.2.length, .own 13 0 r6046.1.length]), (1, .row 23 (flD dLListInt [2] r6046.2.1)), ((.s 2 0), .fam (famD dLListInt 0 r6046.2.1)), (3, .row 3 (fl r6046.2.2.1)), (4, .row 4 (fl r6046.2.2.2)), (6, .dead), (13, .row 3 (fl r6046.1)), (0, .dead), (1, .dead), ((.s 2 0), .dead), (3, .dead), (4, .dead), (6, .dead)] (by simp only [push_cast, leL_flD, renL_flD, seval]) (by simp only [push_cast, leL_flD, renL_flD, seval]) (by kernel_rfl) (.inl rfl) (by first | (simp only [push_cast, leL_flD, renL_flD, seval]; done) | (simp only [push_cast, leL_flD, renL_flD, seval]; kernel_rfl) | kernel_rfl) (by first | (simp only [push_cast, leL_flD, renL_flD, seval]; done) | (simp only [push_cast, leL_flD, renL_flD, seval]; kernel_rfl) | kernel_rfl) ?_ (hfam := (And.intro trivial (And.intro trivial (And.intro (fun _ => Or.inl rfl) (And.intro trivial (And.intro trivial (And.intro trivial trivial)))))))
    refine rf [(0, .ptr 0 0), (2, iS i3)] [(0, .row 59 [.own 1 0 r6046.2.1.length, .own 3 0 r6046.2.2.1.length, .own 4 0 r6046.2.2.2.length, .own 13 0 r6046.1.length]), (1, .row 23 (flD dLListInt [2] r6046.2.1)), ((.s 2 0), .fam (famD dLListInt 0 r6046.2.1)), (3, .row 3 (fl r6046.2.2.1)), (4, .row 4 (fl r6046.2.2.2)), (5, .dead), (6, .dead), (13, .row 3 (fl r6046.1))] 14 (by kernel_rfl) ?_
    refine wk_id ?_
    refine wk_id ?_
    refine reg_f ?_
    refine rs 3 [] [] (by kernel_rfl) allP_nil ?_
    refine rf [(0, .ptr 0 0), (2, iS (IntKind.i64.wrap (i3 + 1)))] [(0, .row 59 [.own 1 0 r6046.2.1.length, .own 3 0 r6046.2.2.1.length, .own 4 0 r6046.2.2.2.length, .own 13 0 r6046.1.length]), (1, .row 23 (flD dLListInt [2] r6046.2.1)), ((.s 2 0), .fam (famD dLListInt 0 r6046.2.1)), (3, .row 3 (fl r6046.2.2.1)), (4, .row 4 (fl r6046.2.2.2)), (5, .dead), (6, .dead), (13, .row 3 (fl r6046.1))] 14 (by kernel_rfl) ?_
    exact hn2 ((IntKind.i64.wrap (i3 + 1)), r6046.2.1, r6046.2.2.1, r6046.2.2.2, r6046.1) _ _ _ (Option.some.inj h).symm (leSt_m [(0, 0), (1, 1), ((.s 2 0), (.s 2 0)), (3, 3), (4, 4), (6, 13)] [] (by simp only [push_cast, leL_flD, renL_flD, seval]) (by simp only [push_cast, leL_flD, renL_flD, seval]) rfl rfl rfl)
  · change R2 (.exit 0) _ _ _
    refine ex_cast hx2 (id := 0) ?_
    obtain ⟨r0, h, e0⟩ := map_sx h
    have e1 := hr2 r0 e0.symm
    subst r0
    refine wk_id ?_
    obtain rfl := Option.some.inj h
    refine ret_an (.tup []) (by kernel_rfl) ?_
    exact ret_e [(0, 0), (1, 1), ((.s 2 0), (.s 2 0)), (3, 3), (4, 4), (6, 6)] [] (by simp only [push_cast, leL_flD, renL_flD, seval]) (by simp only [push_cast, leL_flD, renL_flD, seval]) rfl rfl rfl

set_option maxRecDepth 100000 in
set_option maxHeartbeats 200000000 in
theorem taskmillref_Marking_there_spec (m : Marking) (xa : Int) (b : Int) (r : Bool) (h : taskmillref_Marking_there m xa b = some r) : SpecW Try.prog 40 [.iptr (Enc.cells m) 0, iS xa, iS b] [] 0 (fun x h n => x = bS r ∧ h = [] ∧ n = 0) := by
  unfold taskmillref_Marking_there at h
  refine spec_of (draw_ok _) Try.func40 rfl (by decide) rfl (by kernel_rfl) ?_
  refine seq_np ?_
  refine reg_f ?_
  refine rs 1 [] [] (by kernel_rfl) allP_nil ?_
  refine rf [(0, .iptr (Enc.cells m) 0), (1, iS xa), (2, iS b)] [] 0 (by kernel_rfl) ?_
  refine wk_id ?_
  refine chk_sx h (fun g6084 h => ?_)
  refine chk_sx h (fun g6088 h => ?_)
  refine chk_sx h (fun g6090 h => ?_)
  refine seq_cut (A := Unit) (fun _ => ([(6, bS ((decide ((0 : Int) ≤ xa)) && ((decide (xa < ((m.H_Roots.length : Nat) : Int))) && ((decide ((0 : Int) ≤ (ix m.H_Roots xa))) && ((decide ((0 : Int) ≤ b)) && (decide (b < (((ix m.H_Objects (ix m.H_Roots xa)).length : Nat) : Int))))))))], [], 48)) (fun _ => True) (fun K6080 hK6080 => ?_) (fun _ _ => ?_)
  · refine reg_t ?_
    refine rs 3 [] [] (by kernel_rfl) allP_nil ?_
    refine run_split 9 (decide ((0 : Int) ≤ xa)) (.inl (by kernel_rfl)) (fun g6081 => ?_) (fun g6081 => ?_)
    · refine rs 10 [] [] (by kernel_rfl) allP_nil ?_
      refine run_split 19 (decide (xa < ((m.H_Roots.length : Nat) : Int))) (.inl (by kernel_rfl)) (fun g6082 => ?_) (fun g6082 => ?_)
      · have k6083 : 0 ≤ xa ∧ xa < ((m.H_Roots.length : Nat) : Int) := by have e := or_use g6084 (by first | ((try simp only [g6081, g6082]) <;> rfl) | ((try simp only [g6081]); (try simp only [g6082]); rfl) | (exfalso; clear h; simp_all; done)); first | simpa only [Bool.and_eq_true, decide_eq_true_eq, bne_iff_ne, ne_eq] using e | (simp at e ⊢; omega)
        refine rs 11 [none, none, none, none, none, none, some ⟨.iptr (fl m.H_Roots) ((xa).toNat * 1), [], 19, []⟩, some ⟨iS (ix m.H_Roots xa), [], 20, []⟩] _ (by kernel_rfl) (allP_cons (ob_ld m.H_Roots xa 1 0 ((xa).toNat * 1) k6083 rfl (by decide) (by first | rfl | omega) (dflS Try.prog 3) (iS (ix m.H_Roots xa)) rfl 20 []) (allP_cons (ob_ix_l m.H_Roots 1 19 xa k6083) allP_nil)) ?_
        refine run_split 30 (decide ((0 : Int) ≤ (ix m.H_Roots xa))) (.inl (by kernel_rfl)) (fun g6085 => ?_) (fun g6085 => ?_)
        · refine rn 24 [(0, .iptr (Enc.cells m) 0), (1, iS xa), (2, iS b), (30, bS true)] [] 24 (by kernel_rfl) ?_
          refine rs 4 [] [] (by kernel_rfl) allP_nil ?_
          refine run_split 34 (decide ((0 : Int) ≤ b)) (.inl (by kernel_rfl)) (fun g6086 => ?_) (fun g6086 => ?_)
          · have k6087 : 0 ≤ xa ∧ xa < ((m.H_Roots.length : Nat) : Int) := by have e := or_use g6088 (by first | ((try simp only [g6081, g6082, g6085, g6086]) <;> rfl) | ((try simp only [g6081]); (try simp only [g6082]); (try simp only [g6085]); (try simp only [g6086]); rfl) | (exfalso; clear h; simp_all; done)); first | simpa only [Bool.and_eq_true, decide_eq_true_eq, bne_iff_ne, ne_eq] using e | (simp at e ⊢; omega)
            have k6089 : 0 ≤ (ix m.H_Roots xa) ∧ (ix m.H_Roots xa) < ((m.H_Objects.length : Nat) : Int) := by have e := or_use g6090 (by first | ((try simp only [g6081, g6082, g6085, g6086]) <;> rfl) | ((try simp only [g6081]); (try simp only [g6082]); (try simp only [g6085]); (try simp only [g6086]); rfl) | (exfalso; clear h; simp_all; done)); first | simpa only [Bool.and_eq_true, decide_eq_true_eq, bne_iff_ne, ne_eq] using e | (simp at e ⊢; omega)
            refine rs 20 [none, none, none, none, none, none, none, none, none, none, none, none, some ⟨.iptr (fl m.H_Roots) ((xa).toNat * 1), [], 40, []⟩, some ⟨iS (ix m.H_Roots xa), [], 41, []⟩, some ⟨.iptr (fl m.H_Objects) (((ix m.H_Roots xa)).toNat * 1), [], 42, []⟩, some ⟨.sl (ix m.H_Objects (ix m.H_Roots xa)).length (fl (ix m.H_Objects (ix m.H_Roots xa))), [], 43, []⟩] _ (by kernel_rfl) (allP_cons (ob_ld m.H_Objects (ix m.H_Roots xa) 1 0 (((ix m.H_Roots xa)).toNat * 1) k6089 rfl (by decide) (by first | rfl | omega) (dflS Try.prog 23) (.sl (ix m.H_Objects (ix m.H_Roots xa)).length (fl (ix m.H_Objects (ix m.H_Roots xa)))) rfl 43 []) (allP_cons (ob_ix_l m.H_Objects 1 42 (ix m.H_Roots xa) k6089) (allP_cons (ob_ld m.H_Roots xa 1 0 ((xa).toNat * 1) k6087 rfl (by decide) (by first | rfl | omega) (dflS Try.prog 3) (iS (ix m.H_Roots xa)) rfl 41 []) (allP_cons (ob_ix_l m.H_Roots 1 40 xa k6087) allP_nil)))) ?_
            refine rt [(6, bS (decide (b < (((ix m.H_Objects (ix m.H_Roots xa)).length : Nat) : Int))))] [] 48 follows (by kernel_rfl) ?_
            exact hK6080 () _ _ _ trivial (leSt_m [] [] (by first | ((try simp only [g6081, g6082, g6085, g6086]) <;> simp only [push_cast, leL_flD, renL_flD, seval]; done) | ((try simp only [g6081]); (try simp only [g6082]); (try simp only [g6085]); (try simp only [g6086]); simp only [push_cast, leL_flD, renL_flD, seval]; done) | (exfalso; clear h; simp_all; done)) (by first | ((try simp only [g6081, g6082, g6085, g6086]) <;> simp only [push_cast, leL_flD, renL_flD, seval]; done) | ((try simp only [g6081]); (try simp only [g6082]); (try simp only [g6085]); (try simp only [g6086]); simp only [push_cast, leL_flD, renL_flD, seval]; done) | (exfalso; clear h; simp_all; done)) rfl rfl rfl)
          · refine rs 20 [] [] (by kernel_rfl) allP_nil ?_
            refine rt [(6, bS false)] [] 48 follows (by kernel_rfl) ?_
            exact hK6080 () _ _ _ trivial (leSt_m [] [] (by first | ((try simp only [g6081, g6082, g6085, g6086]) <;> simp only [push_cast, leL_flD, renL_flD, seval]; done) | ((try simp only [g6081]); (try simp only [g6082]); (try simp only [g6085]); (try simp only [g6086]); simp only [push_cast, leL_flD, renL_flD, seval]; done) | (exfalso; clear h; simp_all; done)) (by first | ((try simp only [g6081, g6082, g6085, g6086]) <;> simp only [push_cast, leL_flD, renL_flD, seval]; done) | ((try simp only [g6081]); (try simp only [g6082]); (try simp only [g6085]); (try simp only [g6086]); simp only [push_cast, leL_flD, renL_flD, seval]; done) | (exfalso; clear h; simp_all; done)) rfl rfl rfl)
        · refine rn 24 [(0, .iptr (Enc.cells m) 0), (1, iS xa), (2, iS b), (30, bS false)] [] 24 (by kernel_rfl) ?_
          refine rs 24 [] [] (by kernel_rfl) allP_nil ?_
          refine rt [(6, bS false)] [] 48 follows (by kernel_rfl) ?_
          exact hK6080 () _ _ _ trivial (leSt_m [] [] (by first | ((try simp only [g6081, g6082, g6085]) <;> simp only [push_cast, leL_flD, renL_flD, seval]; done) | ((try simp only [g6081]); (try simp only [g6082]); (try simp only [g6085]); simp only [push_cast, leL_flD, renL_flD, seval]; done) | (exfalso; clear h; simp_all; done)) (by first | ((try simp only [g6081, g6082, g6085]) <;> simp only [push_cast, leL_flD, renL_flD, seval]; done) | ((try simp only [g6081]); (try simp only [g6082]); (try simp only [g6085]); simp only [push_cast, leL_flD, renL_flD, seval]; done) | (exfalso; clear h; simp_all; done)) rfl rfl rfl)
      · refine rs 35 [] [] (by kernel_rfl) allP_nil ?_
        refine rt [(6, bS false)] [] 48 follows (by kernel_rfl) ?_
        exact hK6080 () _ _ _ trivial (leSt_m [] [] (by first | ((try simp only [g6081, g6082]) <;> simp only [push_cast, leL_flD, renL_flD, seval]; done) | ((try simp only [g6081]); (try simp only [g6082]); simp only [push_cast, leL_flD, renL_flD, seval]; done) | (exfalso; clear h; simp_all; done)) (by first | ((try simp only [g6081, g6082]) <;> simp only [push_cast, leL_flD, renL_flD, seval]; done) | ((try simp only [g6081]); (try simp only [g6082]); simp only [push_cast, leL_flD, renL_flD, seval]; done) | (exfalso; clear h; simp_all; done)) rfl rfl rfl)
    · refine rs 45 [] [] (by kernel_rfl) allP_nil ?_
      refine rt [(6, bS false)] [] 48 follows (by kernel_rfl) ?_
      exact hK6080 () _ _ _ trivial (leSt_m [] [] (by (try simp only [g6081]) <;> simp only [push_cast, leL_flD, renL_flD, seval]) (by (try simp only [g6081]) <;> simp only [push_cast, leL_flD, renL_flD, seval]) rfl rfl rfl)
  · dsimp only
    obtain rfl := Option.some.inj h
    refine ret_at (bS ((decide ((0 : Int) ≤ xa)) && ((decide (xa < ((m.H_Roots.length : Nat) : Int))) && ((decide ((0 : Int) ≤ (ix m.H_Roots xa))) && ((decide ((0 : Int) ≤ b)) && (decide (b < (((ix m.H_Objects (ix m.H_Roots xa)).length : Nat) : Int)))))))) (by kernel_rfl) ?_
    exact ret_e [] [] (by simp only [push_cast, leL_flD, renL_flD, seval]) (by simp only [push_cast, leL_flD, renL_flD, seval]) rfl rfl rfl

set_option maxRecDepth 100000 in
set_option maxHeartbeats 200000000 in
theorem taskmillref_Marking_step_1_spec (c1 : (List (List Int))) (c3 : (List Int)) (c4 : (List Bool)) (c5 : (List Int)) (r : (List Int) × (List (List Int)) × (List Int) × (List Bool)) (h : taskmillref_Marking_step_1 c1 c3 c4 c5 = some r) : SpecW Try.prog 33 [.ptr 0 0] [(0, .row 59 [.own 1 0 c1.length, .own 3 0 c3.length, .own 4 0 c4.length, .own 5 0 c5.length]), (1, .row 23 (flD dLListInt [2] c1)), ((.s 2 0), .fam (famD dLListInt 0 c1)), (3, .row 3 (fl c3)), (4, .row 4 (fl c4)), (5, .row 3 (fl c5))] 6 (fun x h n => x = .tup [] ∧ h = [(0, .row 59 [.own 1 0 r.2.1.length, .own 3 0 r.2.2.1.length, .own 4 0 r.2.2.2.length, .own 6 0 r.1.length]), (1, .row 23 (flD dLListInt [2] r.2.1)), ((.s 2 0), .fam (famD dLListInt 0 r.2.1)), (3, .row 3 (fl r.2.2.1)), (4, .row 4 (fl r.2.2.2)), (5, .dead), (6, .row 3 (fl r.1))] ∧ n = 7) := by
  unfold taskmillref_Marking_step_1 at h
  refine spec_of (draw_ok _) Try.func33 rfl (by decide) rfl (by kernel_rfl) ?_
  refine seq_np ?_
  refine seq_np ?_
  refine reg_f ?_
  refine rs 6 [] [] (by kernel_rfl) allP_nil ?_
  refine rf [(0, .ptr 0 0), (9, bS (((c5.length : Nat) : Int) == 0))] [(0, .row 59 [.own 1 0 c1.length, .own 3 0 c3.length, .own 4 0 c4.length, .own 5 0 c5.length]), (1, .row 23 (flD dLListInt [2] c1)), ((.s 2 0), .fam (famD dLListInt 0 c1)), (3, .row 3 (fl c3)), (4, .row 4 (fl c4)), (5, .row 3 (fl c5))] 6 (by kernel_rfl) ?_
  refine wk_id ?_
  refine cond_sx h (by kernel_rfl) (fun g6310 h => ?_) (fun g6310 h => ?_)
  · obtain rfl := Option.some.inj h
    refine ret_at (.tup []) (by kernel_rfl) ?_
    exact ret_e [(0, 0), (1, 1), ((.s 2 0), (.s 2 0)), (3, 3), (4, 4), (6, 5)] [] (by simp only [push_cast, leL_flD, renL_flD, seval]) (by simp only [push_cast, leL_flD, renL_flD, seval]) rfl rfl rfl
  · refine wk_id ?_
    refine chk_sx h (fun g6238 h => ?_)
    refine seq_np ?_
    refine reg_f ?_
    have k6237 : 0 ≤ (0 : Int) ∧ (0 : Int) < ((c5.length : Nat) : Int) := by first | simpa only [Bool.and_eq_true, decide_eq_true_eq, bne_iff_ne, ne_eq] using g6238 | (simp at g6238 ⊢; omega)
    refine rs 7 [none, none, none, none, some ⟨.ptr 5 (0 + ((0 : Int)).toNat * 1), [], 6, [5]⟩, some ⟨iS (ix c5 (0 : Int)), [], 6, [5]⟩] _ (by kernel_rfl) (allP_cons (ob_ld c5 (0 : Int) 1 0 (0 + ((0 : Int)).toNat * 1) k6237 rfl (by decide) (by first | rfl | omega) (dflS Try.prog 3) (iS (ix c5 (0 : Int))) rfl 6 [5]) (allP_cons (ob_ix_o 5 c5.length 0 1 6 0 k6237) allP_nil)) ?_
    refine rf [(0, .ptr 0 0), (2, iS (ix c5 (0 : Int)))] [(0, .row 59 [.own 1 0 c1.length, .own 3 0 c3.length, .own 4 0 c4.length, .own 5 0 c5.length]), (1, .row 23 (flD dLListInt [2] c1)), ((.s 2 0), .fam (famD dLListInt 0 c1)), (3, .row 3 (fl c3)), (4, .row 4 (fl c4)), (5, .row 3 (fl c5))] 6 (by kernel_rfl) ?_
    refine wk_id ?_
    refine chk_sx h (fun g6242 h => ?_)
    refine seq_np ?_
    refine reg_f ?_
    have k6241 : 0 ≤ (1 : Int) ∧ (1 : Int) ≤ ((c5.length : Nat) : Int) ∧ ((c5.length : Nat) : Int) ≤ ((c5.length : Nat) : Int) := by first | simpa only [Bool.and_eq_true, decide_eq_true_eq, bne_iff_ne, ne_eq] using g6242 | (simp at g6242 ⊢; omega)
    refine rs 5 [] [] (by kernel_rfl) allP_nil ?_
    refine run_cutO c5 (some 21) 5 1 3 (1 : Int) ((c5.length : Nat) : Int) (by kernel_rfl) rfl k6241 ?_
    refine rs 3 [] [] (by kernel_rfl) allP_nil ?_
    refine rf [(0, .ptr 0 0), (2, iS (ix c5 (0 : Int)))] [(0, .row 59 [.own 1 0 c1.length, .own 3 0 c3.length, .own 4 0 c4.length, .own 6 0 (cut c5 (1 : Int) ((c5.length : Nat) : Int)).length]), (1, .row 23 (flD dLListInt [2] c1)), ((.s 2 0), .fam (famD dLListInt 0 c1)), (3, .row 3 (fl c3)), (4, .row 4 (fl c4)), (5, .dead), (6, .row 3 (fl (cut c5 (1 : Int) ((c5.length : Nat) : Int))))] 7 (by kernel_rfl) ?_
    refine wk_id ?_
    refine chk_sx h (fun g6246 h => ?_)
    refine seq_np ?_
    refine reg_f ?_
    have k6245 : 0 ≤ (ix c5 (0 : Int)) ∧ (ix c5 (0 : Int)) < ((c4.length : Nat) : Int) := by first | simpa only [Bool.and_eq_true, decide_eq_true_eq, bne_iff_ne, ne_eq] using g6246 | (simp at g6246 ⊢; omega)
    refine rs 7 [none, none, none, none, none, some ⟨.ptr 4 (0 + ((ix c5 (0 : Int))).toNat * 1), [], 7, [4]⟩, some ⟨.any, [(4, .row 4 (fl (c4.set (ix c5 (0 : Int)).toNat true)))], 7, [4]⟩] _ (by kernel_rfl) (allP_cons (ob_st (P := Try.prog) c4 (ix c5 (0 : Int)) 1 0 (0 + ((ix c5 (0 : Int))).toNat * 1) k6245 rfl [bS true] true (Nat.le_of_ble_eq_true rfl) (by first | rfl | omega) rfl 4 7 4 4 (by kernel_rfl) rfl) (allP_cons (ob_ix_o 4 c4.length 0 1 7 (ix c5 (0 : Int)) k6245) allP_nil)) ?_
    refine run_eqH 0 (.row 59 [.own 1 0 c1.length, .own 3 0 c3.length, .own 4 0 c4.length, .own 6 0 (cut c5 (1 : Int) ((c5.length : Nat) : Int)).length]) (.row 59 [.own 1 0 c1.length, .own 3 0 c3.length, .own 4 0 (c4.set (ix c5 (0 : Int)).toNat true).length, .own 6 0 (cut c5 (1 : Int) ((c5.length : Nat) : Int)).length]) (congrArg (fun nq => (.row 59 [.own 1 0 c1.length, .own 3 0 c3.length, .own 4 0 nq, .own 6 0 (cut c5 (1 : Int) ((c5.length : Nat) : Int)).length] : Chunk)) (show c4.length = (c4.set (ix c5 (0 : Int)).toNat true).length from (List.length_set ..).symm)) (by kernel_rfl) ?_
    refine rf [(0, .ptr 0 0), (2, iS (ix c5 (0 : Int)))] [(0, .row 59 [.own 1 0 c1.length, .own 3 0 c3.length, .own 4 0 (c4.set (ix c5 (0 : Int)).toNat true).length, .own 6 0 (cut c5 (1 : Int) ((c5.length : Nat) : Int)).length]), (1, .row 23 (flD dLListInt [2] c1)), ((.s 2 0), .fam (famD dLListInt 0 c1)), (3, .row 3 (fl c3)), (4, .row 4 (fl (c4.set (ix c5 (0 : Int)).toNat true))), (5, .dead), (6, .row 3 (fl (cut c5 (1 : Int) ((c5.length : Nat) : Int))))] 7 (by kernel_rfl) ?_
    refine wk_id ?_
    refine seq_np ?_
    refine reg_f ?_
    refine rs 1 [] [] (by kernel_rfl) allP_nil ?_
    refine rf [(0, .ptr 0 0), (2, iS (ix c5 (0 : Int))), (3, iS 0)] [(0, .row 59 [.own 1 0 c1.length, .own 3 0 c3.length, .own 4 0 (c4.set (ix c5 (0 : Int)).toNat true).length, .own 6 0 (cut c5 (1 : Int) ((c5.length : Nat) : Int)).length]), (1, .row 23 (flD dLListInt [2] c1)), ((.s 2 0), .fam (famD dLListInt 0 c1)), (3, .row 3 (fl c3)), (4, .row 4 (fl (c4.set (ix c5 (0 : Int)).toNat true))), (5, .dead), (6, .row 3 (fl (cut c5 (1 : Int) ((c5.length : Nat) : Int))))] 7 (by kernel_rfl) ?_
    refine wk_id ?_
    refine block_np ?_
    refine loop_sx (S := Int × (List (List Int)) × (List Int) × (List Bool) × (List Int)) (fun a => ([(0, .ptr 0 0), (2, iS (ix c5 (0 : Int))), (3, iS a.1)], [(0, .row 59 [.own 1 0 a.2.1.length, .own 3 0 a.2.2.1.length, .own 4 0 a.2.2.2.1.length, .own 6 0 a.2.2.2.2.length]), (1, .row 23 (flD dLListInt [2] a.2.1)), ((.s 2 0), .fam (famD dLListInt 0 a.2.1)), (3, .row 3 (fl a.2.2.1)), (4, .row 4 (fl a.2.2.2.1)), (5, .dead), (6, .row 3 (fl a.2.2.2.2))], 7)) h (leSt_m [(0, 0), (1, 1), ((.s 2 0), (.s 2 0)), (3, 3), (4, 4), (6, 6)] [] (by simp only [push_cast, leL_flD, renL_flD, seval]) (by simp only [push_cast, leL_flD, renL_flD, seval]) rfl rfl rfl) ?_
    rintro ⟨k3, c1q5, c3q5, c4q5, c6q4⟩ o2 R2 h hr2 hn2 hx2 ht2
    try dsimp only at h hn2 ⊢
    unfold taskmillref_Marking_step_1_l1 at h
    try dsimp only at h
    refine seq_np ?_
    refine chk_sx h (fun g6276 h => ?_)
    refine seq_np ?_
    refine reg_f ?_
    have k6275 : 0 ≤ (ix c5 (0 : Int)) ∧ (ix c5 (0 : Int)) < ((c1q5.length : Nat) : Int) := by first | simpa only [Bool.and_eq_true, decide_eq_true_eq, bne_iff_ne, ne_eq] using g6276 | (simp at g6276 ⊢; omega)
    refine rs 11 [none, none, none, none, none, none, none, some ⟨.ptr 1 (0 + ((ix c5 (0 : Int))).toNat * 1), [], 7, [1]⟩, some ⟨.own (.s 2 (ix c5 (0 : Int))) 0 (ixD c1q5 (ix c5 (0 : Int))).length, [], 7, [1]⟩] _ (by kernel_rfl) (allP_cons (ob_ldD dLListInt [2] c1q5 (ix c5 (0 : Int)) 1 0 (0 + ((ix c5 (0 : Int))).toNat * 1) k6275 rfl (by decide) (by first | rfl | omega) (dflS Try.prog 23) (.own (.s 2 (ix c5 (0 : Int))) 0 (ixD c1q5 (ix c5 (0 : Int))).length) rfl 7 [1]) (allP_cons (ob_ix_o 1 c1q5.length 0 1 7 (ix c5 (0 : Int)) k6275) allP_nil)) ?_
    refine rf [(0, .ptr 0 0), (2, iS (ix c5 (0 : Int))), (3, iS k3), (40, bS (decide (k3 < (((ixD c1q5 (ix c5 (0 : Int))).length : Nat) : Int))))] [(0, .row 59 [.own 1 0 c1q5.length, .own 3 0 c3q5.length, .own 4 0 c4q5.length, .own 6 0 c6q4.length]), (1, .row 23 (flD dLListInt [2] c1q5)), ((.s 2 0), .fam (famD dLListInt 0 c1q5)), (3, .row 3 (fl c3q5)), (4, .row 4 (fl c4q5)), (5, .dead), (6, .row 3 (fl c6q4))] 7 (by kernel_rfl) ?_
    refine wk_id ?_
    refine cond_sx h (by kernel_rfl) (fun g6309 h => ?_) (fun g6309 h => ?_)
    · refine wk_id ?_
      refine seq_np ?_
      refine block_np ?_
      refine chk_sx h (fun g6302 h => ?_)
      refine chk_sx h (fun g6304 h => ?_)
      refine reg_f ?_
      have k6301 : 0 ≤ (ix c5 (0 : Int)) ∧ (ix c5 (0 : Int)) < ((c1q5.length : Nat) : Int) := by first | simpa only [Bool.and_eq_true, decide_eq_true_eq, bne_iff_ne, ne_eq] using g6302 | (simp at g6302 ⊢; omega)
      have k6303 : 0 ≤ k3 ∧ k3 < (((ixD c1q5 (ix c5 (0 : Int))).length : Nat) : Int) := by first | simpa only [Bool.and_eq_true, decide_eq_true_eq, bne_iff_ne, ne_eq] using g6304 | (simp at g6304 ⊢; omega)
      refine rs 12 [none, none, none, none, none, none, none, some ⟨.ptr 1 (0 + ((ix c5 (0 : Int))).toNat * 1), [], 7, [1]⟩, some ⟨.own (.s 2 (ix c5 (0 : Int))) 0 (ixD c1q5 (ix c5 (0 : Int))).length, [], 7, [1]⟩, none, some ⟨.ptr (.s 2 (ix c5 (0 : Int))) (0 + (k3).toNat * 1), [], 7, [(.s 2 0)]⟩, some ⟨iS (ix (ixD c1q5 (ix c5 (0 : Int))) k3), [], 7, [(.s 2 0)]⟩] _ (by kernel_rfl) (allP_cons (ob_ld (ixD c1q5 (ix c5 (0 : Int))) k3 1 0 (0 + (k3).toNat * 1) k6303 rfl (by decide) (by first | rfl | omega) (dflS Try.prog 3) (iS (ix (ixD c1q5 (ix c5 (0 : Int))) k3)) rfl 7 [(.s 2 0)]) (allP_cons (ob_ix_o (.s 2 (ix c5 (0 : Int))) (ixD c1q5 (ix c5 (0 : Int))).length 0 1 7 k3 k6303) (allP_cons (ob_ldD dLListInt [2] c1q5 (ix c5 (0 : Int)) 1 0 (0 + ((ix c5 (0 : Int))).toNat * 1) k6301 rfl (by decide) (by first | rfl | omega) (dflS Try.prog 23) (.own (.s 2 (ix c5 (0 : Int))) 0 (ixD c1q5 (ix c5 (0 : Int))).length) rfl 7 [1]) (allP_cons (ob_ix_o 1 c1q5.length 0 1 7 (ix c5 (0 : Int)) k6301) allP_nil)))) ?_
      obtain ⟨r6305, hr6305, h⟩ := bind_sx h
      refine call_x (taskmillref_Marking_shade_1_spec (ix (ixD c1q5 (ix c5 (0 : Int))) k3) c1q5 c3q5 c4q5 c6q4 r6305 hr6305) (args := [.ptr 0 0, iS (ix (ixD c1q5 (ix c5 (0 : Int))) k3)]) (dst := (some 55)) (by kernel_rfl) [(0, .row 59 [.own 1 0 c1q5.length, .own 3 0 c3q5.length, .own 4 0 c4q5.length, .own 6 0 c6q4.length]), (1, .row 23 (flD dLListInt [2] c1q5)), ((.s 2 0), .fam (famD dLListInt 0 c1q5)), (3, .row 3 (fl c3q5)), (4, .row 4 (fl c4q5)), (5, .dead), (6, .row 3 (fl c6q4))] 7 (by kernel_rfl) [(0, 0), (1, 1), ((.s 2 0), (.s 2 0)), (3, 3), (4, 4), (5, 6)] [] (.tup []) [(0, .row 59 [.own 1 0 r6305.2.1.length, .own 3 0 r6305.2.2.1.length, .own 4 0 r6305.2.2.2.length, .own 13 0 r6305.1.length]), (1, .row 23 (flD dLListInt [2] r6305.2.1)), ((.s 2 0), .fam (famD dLListInt 0 r6305.2.1)), (3, .row 3 (fl r6305.2.2.1)), (4, .row 4 (fl r6305.2.2.2)), (6, .dead), (13, .row 3 (fl r6305.1)), (0, .dead), (1, .dead), ((.s 2 0), .dead), (3, .dead), (4, .dead), (6, .dead)] (by simp only [push_cast, leL_flD, renL_flD, seval]) (by simp only [push_cast, leL_flD, renL_flD, seval]) (by kernel_rfl) (.inl rfl) (by first | (simp only [push_cast, leL_flD, renL_flD, seval]; done) | (simp only [push_cast, leL_flD, renL_flD, seval]; kernel_rfl) | kernel_rfl) (by first | (simp only [push_cast, leL_flD, renL_flD, seval]; done) | (simp only [push_cast, leL_flD, renL_flD, seval]; kernel_rfl) | kernel_rfl) ?_ (hfam := (And.intro trivial (And.intro trivial (And.intro (fun _ => Or.inl rfl) (And.intro trivial (And.intro trivial (And.intro trivial trivial)))))))
      refine rf [(0, .ptr 0 0), (2, iS (ix c5 (0 : Int))), (3, iS k3)] [(0, .row 59 [.own 1 0 r6305.2.1.length, .own 3 0 r6305.2.2.1.length, .own 4 0 r6305.2.2.2.length, .own 13 0 r6305.1.length]), (1, .row 23 (flD dLListInt [2] r6305.2.1)), ((.s 2 0), .fam (famD dLListInt 0 r6305.2.1)), (3, .row 3 (fl r6305.2.2.1)), (4, .row 4 (fl r6305.2.2.2)), (5, .dead), (6, .dead), (13, .row 3 (fl r6305.1))] 14 (by kernel_rfl) ?_
      refine wk_id ?_
      refine wk_id ?_
      refine reg_f ?_
      refine rs 3 [] [] (by kernel_rfl) allP_nil ?_
      refine rf [(0, .ptr 0 0), (2, iS (ix c5 (0 : Int))), (3, iS (IntKind.i64.wrap (k3 + 1)))] [(0, .row 59 [.own 1 0 r6305.2.1.length, .own 3 0 r6305.2.2.1.length, .own 4 0 r6305.2.2.2.length, .own 13 0 r6305.1.length]), (1, .row 23 (flD dLListInt [2] r6305.2.1)), ((.s 2 0), .fam (famD dLListInt 0 r6305.2.1)), (3, .row 3 (fl r6305.2.2.1)), (4, .row 4 (fl r6305.2.2.2)), (5, .dead), (6, .dead), (13, .row 3 (fl r6305.1))] 14 (by kernel_rfl) ?_
      exact hn2 ((IntKind.i64.wrap (k3 + 1)), r6305.2.1, r6305.2.2.1, r6305.2.2.2, r6305.1) _ _ _ (Option.some.inj h).symm (leSt_m [(0, 0), (1, 1), ((.s 2 0), (.s 2 0)), (3, 3), (4, 4), (6, 13)] [] (by simp only [push_cast, leL_flD, renL_flD, seval]) (by simp only [push_cast, leL_flD, renL_flD, seval]) rfl rfl rfl)
    · change R2 (.exit 0) _ _ _
      refine ex_cast hx2 (id := 0) ?_
      obtain ⟨r0, h, e0⟩ := map_sx h
      have e1 := hr2 r0 e0.symm
      subst r0
      refine wk_id ?_
      obtain rfl := Option.some.inj h
      refine ret_an (.tup []) (by kernel_rfl) ?_
      exact ret_e [(0, 0), (1, 1), ((.s 2 0), (.s 2 0)), (3, 3), (4, 4), (6, 6)] [] (by simp only [push_cast, leL_flD, renL_flD, seval]) (by simp only [push_cast, leL_flD, renL_flD, seval]) rfl rfl rfl

set_option maxRecDepth 100000 in
set_option maxHeartbeats 200000000 in
theorem taskmillref_Marking_act_1_spec (x : GAct) (barrier : Int) (c1 : (List (List Int))) (c3 : (List Int)) (c4 : (List Bool)) (c5 : (List Int)) (r : Int × (List (List Int)) × (List Bool) × (List Int) × (List Int)) (h : taskmillref_Marking_act_1 x barrier c1 c3 c4 c5 = some r) : SpecW Try.prog 32 [.ptr 0 0, .agg (Enc.cells x), iS barrier] [(0, .row 59 [.own 1 0 c1.length, .own 3 0 c3.length, .own 4 0 c4.length, .own 5 0 c5.length]), (1, .row 23 (flD dLListInt [2] c1)), ((.s 2 0), .fam (famD dLListInt 0 c1)), (3, .row 3 (fl c3)), (4, .row 4 (fl c4)), (5, .row 3 (fl c5))] 6 (fun x h n => x = iS r.1 ∧ h = [(0, .row 59 [.own 6 0 r.2.1.length, .own 3 0 r.2.2.2.2.length, .own 7 0 r.2.2.1.length, .own 8 0 r.2.2.2.1.length]), (1, .dead), ((.s 2 0), .dead), (3, .row 3 (fl r.2.2.2.2)), (4, .dead), (5, .dead), (6, .row 23 (flD dLListInt [9] r.2.1)), (7, .row 4 (fl r.2.2.1)), (8, .row 3 (fl r.2.2.2.1)), ((.s 9 0), .fam (famD dLListInt 0 r.2.1))] ∧ n = 10) := by
  unfold taskmillref_Marking_act_1 at h
  refine spec_of (draw_ok _) Try.func32 rfl (by decide) rfl (by kernel_rfl) ?_
  refine seq_np ?_
  refine reg_f ?_
  refine rs 2 [] [] (by kernel_rfl) allP_nil ?_
  refine rf [(0, .ptr 0 0), (2, iS barrier), (4, .ptr 6 0)] [(0, .row 59 [.own 1 0 c1.length, .own 3 0 c3.length, .own 4 0 c4.length, .own 5 0 c5.length]), (1, .row 23 (flD dLListInt [2] c1)), ((.s 2 0), .fam (famD dLListInt 0 c1)), (3, .row 3 (fl c3)), (4, .row 4 (fl c4)), (5, .row 3 (fl c5)), (6, .row 47 (Enc.cells x))] 7 (by kernel_rfl) ?_
  refine wk_id ?_
  refine seq_np ?_
  refine reg_f ?_
  refine rs 7 [] [] (by kernel_rfl) allP_nil ?_
  refine rf [(0, .ptr 0 0), (2, iS barrier), (4, .ptr 6 0), (7, iS ((c3.length : Nat) : Int))] [(0, .row 59 [.own 1 0 c1.length, .own 3 0 c3.length, .own 4 0 c4.length, .own 5 0 c5.length]), (1, .row 23 (flD dLListInt [2] c1)), ((.s 2 0), .fam (famD dLListInt 0 c1)), (3, .row 3 (fl c3)), (4, .row 4 (fl c4)), (5, .row 3 (fl c5)), (6, .row 47 (Enc.cells x))] 7 (by kernel_rfl) ?_
  refine wk_id ?_
  refine seq_cut (A := Unit) (fun _ => ([(0, .ptr 0 0), (2, iS barrier), (4, .ptr 6 0), (7, iS ((c3.length : Nat) : Int)), (8, bS ((decide ((0 : Int) ≤ x.A)) && (decide (x.A < ((c3.length : Nat) : Int)))))], [(0, .row 59 [.own 1 0 c1.length, .own 3 0 c3.length, .own 4 0 c4.length, .own 5 0 c5.length]), (1, .row 23 (flD dLListInt [2] c1)), ((.s 2 0), .fam (famD dLListInt 0 c1)), (3, .row 3 (fl c3)), (4, .row 4 (fl c4)), (5, .row 3 (fl c5)), (6, .row 47 (Enc.cells x))], 7)) (fun _ => True) (fun K6323 hK6323 => ?_) (fun _ _ => ?_)
  · refine reg_f ?_
    refine rs 4 [] [] (by kernel_rfl) allP_nil ?_
    refine run_split 24 (decide ((0 : Int) ≤ x.A)) (.inl (by kernel_rfl)) (fun g6324 => ?_) (fun g6324 => ?_)
    · refine rs 6 [] [] (by kernel_rfl) allP_nil ?_
      refine rf [(0, .ptr 0 0), (2, iS barrier), (4, .ptr 6 0), (7, iS ((c3.length : Nat) : Int)), (8, bS (decide (x.A < ((c3.length : Nat) : Int))))] [(0, .row 59 [.own 1 0 c1.length, .own 3 0 c3.length, .own 4 0 c4.length, .own 5 0 c5.length]), (1, .row 23 (flD dLListInt [2] c1)), ((.s 2 0), .fam (famD dLListInt 0 c1)), (3, .row 3 (fl c3)), (4, .row 4 (fl c4)), (5, .row 3 (fl c5)), (6, .row 47 (Enc.cells x))] 7 (by kernel_rfl) ?_
      exact hK6323 () _ _ _ trivial (leSt_m [(0, 0), (1, 1), ((.s 2 0), (.s 2 0)), (3, 3), (4, 4), (5, 5), (6, 6)] [] (by (try simp only [g6324]) <;> simp only [push_cast, leL_flD, renL_flD, seval]) (by (try simp only [g6324]) <;> simp only [push_cast, leL_flD, renL_flD, seval]) rfl rfl rfl)
    · refine rs 6 [] [] (by kernel_rfl) allP_nil ?_
      refine rf [(0, .ptr 0 0), (2, iS barrier), (4, .ptr 6 0), (7, iS ((c3.length : Nat) : Int)), (8, bS false)] [(0, .row 59 [.own 1 0 c1.length, .own 3 0 c3.length, .own 4 0 c4.length, .own 5 0 c5.length]), (1, .row 23 (flD dLListInt [2] c1)), ((.s 2 0), .fam (famD dLListInt 0 c1)), (3, .row 3 (fl c3)), (4, .row 4 (fl c4)), (5, .row 3 (fl c5)), (6, .row 47 (Enc.cells x))] 7 (by kernel_rfl) ?_
      exact hK6323 () _ _ _ trivial (leSt_m [(0, 0), (1, 1), ((.s 2 0), (.s 2 0)), (3, 3), (4, 4), (5, 5), (6, 6)] [] (by (try simp only [g6324]) <;> simp only [push_cast, leL_flD, renL_flD, seval]) (by (try simp only [g6324]) <;> simp only [push_cast, leL_flD, renL_flD, seval]) rfl rfl rfl)
  · dsimp only
    refine seq_cut (A := Unit) (fun _ => ([(0, .ptr 0 0), (2, iS barrier), (4, .ptr 6 0), (8, bS ((decide ((0 : Int) ≤ x.A)) && (decide (x.A < ((c3.length : Nat) : Int))))), (9, bS ((decide (((-1) : Int) ≤ x.C)) && (decide (x.C < ((c3.length : Nat) : Int)))))], [(0, .row 59 [.own 1 0 c1.length, .own 3 0 c3.length, .own 4 0 c4.length, .own 5 0 c5.length]), (1, .row 23 (flD dLListInt [2] c1)), ((.s 2 0), .fam (famD dLListInt 0 c1)), (3, .row 3 (fl c3)), (4, .row 4 (fl c4)), (5, .row 3 (fl c5)), (6, .row 47 (Enc.cells x))], 7)) (fun _ => True) (fun K6326 hK6326 => ?_) (fun _ _ => ?_)
    · refine reg_f ?_
      refine rs 4 [] [] (by kernel_rfl) allP_nil ?_
      refine run_split 33 (decide (((-1) : Int) ≤ x.C)) (.inl (by kernel_rfl)) (fun g6327 => ?_) (fun g6327 => ?_)
      · refine rs 6 [] [] (by kernel_rfl) allP_nil ?_
        refine rf [(0, .ptr 0 0), (2, iS barrier), (4, .ptr 6 0), (8, bS ((decide ((0 : Int) ≤ x.A)) && (decide (x.A < ((c3.length : Nat) : Int))))), (9, bS (decide (x.C < ((c3.length : Nat) : Int))))] [(0, .row 59 [.own 1 0 c1.length, .own 3 0 c3.length, .own 4 0 c4.length, .own 5 0 c5.length]), (1, .row 23 (flD dLListInt [2] c1)), ((.s 2 0), .fam (famD dLListInt 0 c1)), (3, .row 3 (fl c3)), (4, .row 4 (fl c4)), (5, .row 3 (fl c5)), (6, .row 47 (Enc.cells x))] 7 (by kernel_rfl) ?_
        exact hK6326 () _ _ _ trivial (leSt_m [(0, 0), (1, 1), ((.s 2 0), (.s 2 0)), (3, 3), (4, 4), (5, 5), (6, 6)] [] (by (try simp only [g6327]) <;> simp only [push_cast, leL_flD, renL_flD, seval]) (by (try simp only [g6327]) <;> simp only [push_cast, leL_flD, renL_flD, seval]) rfl rfl rfl)
      · refine rs 6 [] [] (by kernel_rfl) allP_nil ?_
        refine rf [(0, .ptr 0 0), (2, iS barrier), (4, .ptr 6 0), (8, bS ((decide ((0 : Int) ≤ x.A)) && (decide (x.A < ((c3.length : Nat) : Int))))), (9, bS false)] [(0, .row 59 [.own 1 0 c1.length, .own 3 0 c3.length, .own 4 0 c4.length, .own 5 0 c5.length]), (1, .row 23 (flD dLListInt [2] c1)), ((.s 2 0), .fam (famD dLListInt 0 c1)), (3, .row 3 (fl c3)), (4, .row 4 (fl c4)), (5, .row 3 (fl c5)), (6, .row 47 (Enc.cells x))] 7 (by kernel_rfl) ?_
        exact hK6326 () _ _ _ trivial (leSt_m [(0, 0), (1, 1), ((.s 2 0), (.s 2 0)), (3, 3), (4, 4), (5, 5), (6, 6)] [] (by (try simp only [g6327]) <;> simp only [push_cast, leL_flD, renL_flD, seval]) (by (try simp only [g6327]) <;> simp only [push_cast, leL_flD, renL_flD, seval]) rfl rfl rfl)
    · dsimp only
      refine seq_np ?_
      refine seq_np ?_
      refine reg_f ?_
      refine rs 2 [] [] (by kernel_rfl) allP_nil ?_
      refine rf [(0, .ptr 0 0), (2, iS barrier), (4, .ptr 6 0), (8, bS ((decide ((0 : Int) ≤ x.A)) && (decide (x.A < ((c3.length : Nat) : Int))))), (9, bS ((decide (((-1) : Int) ≤ x.C)) && (decide (x.C < ((c3.length : Nat) : Int))))), (40, iS x.Op)] [(0, .row 59 [.own 1 0 c1.length, .own 3 0 c3.length, .own 4 0 c4.length, .own 5 0 c5.length]), (1, .row 23 (flD dLListInt [2] c1)), ((.s 2 0), .fam (famD dLListInt 0 c1)), (3, .row 3 (fl c3)), (4, .row 4 (fl c4)), (5, .row 3 (fl c5)), (6, .row 47 (Enc.cells x))] 7 (by kernel_rfl) ?_
      refine wk_id ?_
      refine block_cut (A := (List (List Int)) × (List Bool) × (List Int) × (List Int)) (fun a => ([], [(0, .row 59 [.own 6 0 a.1.length, .own 3 0 a.2.2.2.length, .own 7 0 a.2.1.length, .own 8 0 a.2.2.1.length]), (1, .dead), ((.s 2 0), .dead), (3, .row 3 (fl a.2.2.2)), (4, .dead), (5, .dead), (6, .row 23 (flD dLListInt [9] a.1)), (7, .row 4 (fl a.2.1)), (8, .row 3 (fl a.2.2.1)), ((.s 9 0), .fam (famD dLListInt 0 a.1))], 10)) (fun a => (taskmillref_Marking_act_1_j1 a.1 a.2.1 a.2.2.1 a.2.2.2) = some r) (fun K6507 hK6507 => ?_) ?_
      · refine seq_np ?_
        refine reg_f ?_
        refine rs 2 [] [] (by kernel_rfl) allP_nil ?_
        refine rf [(0, .ptr 0 0), (2, iS barrier), (4, .ptr 6 0), (8, bS ((decide ((0 : Int) ≤ x.A)) && (decide (x.A < ((c3.length : Nat) : Int))))), (9, bS ((decide (((-1) : Int) ≤ x.C)) && (decide (x.C < ((c3.length : Nat) : Int))))), (40, iS x.Op), (41, bS (x.Op == 1))] [(0, .row 59 [.own 1 0 c1.length, .own 3 0 c3.length, .own 4 0 c4.length, .own 5 0 c5.length]), (1, .row 23 (flD dLListInt [2] c1)), ((.s 2 0), .fam (famD dLListInt 0 c1)), (3, .row 3 (fl c3)), (4, .row 4 (fl c4)), (5, .row 3 (fl c5)), (6, .row 47 (Enc.cells x))] 7 (by kernel_rfl) ?_
        refine wk_id ?_
        refine cond_sx h (by kernel_rfl) (fun g6714 h => ?_) (fun g6714 h => ?_)
        · refine seq_np ?_
          refine seq_cut (A := Bool) (fun a => ([(0, .ptr 0 0), (2, iS barrier), (4, .ptr 6 0), (53, bS a)], [(0, .row 59 [.own 1 0 c1.length, .own 3 0 c3.length, .own 4 0 c4.length, .own 5 0 c5.length]), (1, .row 23 (flD dLListInt [2] c1)), ((.s 2 0), .fam (famD dLListInt 0 c1)), (3, .row 3 (fl c3)), (4, .row 4 (fl c4)), (5, .row 3 (fl c5)), (6, .row 47 (Enc.cells x))], 7)) (fun a => (taskmillref_Marking_act_1_j4 x barrier c1 c3 c4 c5 a) = some r) (fun K6516 hK6516 => ?_) ?_
          · refine reg_f ?_
            refine rs 5 [] [] (by kernel_rfl) allP_nil ?_
            obtain ⟨r6517, hr6517, h⟩ := bind_sx h
            refine call_x (taskmillref_Marking_there_spec (Marking.mk c1 c3 c4 c5) x.A x.B r6517 hr6517) (args := [.ptr 0 0, iS x.A, iS x.B]) (dst := (some 48)) (by kernel_rfl) [(0, .row 59 [.own 1 0 c1.length, .own 3 0 c3.length, .own 4 0 c4.length, .own 5 0 c5.length]), (1, .row 23 (flD dLListInt [2] c1)), ((.s 2 0), .fam (famD dLListInt 0 c1)), (3, .row 3 (fl c3)), (4, .row 4 (fl c4)), (5, .row 3 (fl c5)), (6, .row 47 (Enc.cells x))] 7 (by kernel_rfl) [] [1, (.s 2 0), 3, 4, 5, 0] (bS r6517) [] (by simp only [↓leS_frzD dLListInt [2] c1, ↓leS_frzD dLListInt [2] c1, leS_frz, leL_flD, renL_flD, push_cast, seval]) (by simp only [↓leS_frzD dLListInt [2] c1, ↓leS_frzD dLListInt [2] c1, leS_frz, leL_flD, renL_flD, push_cast, seval]) (by kernel_rfl) (.inr ⟨by simp only [push_cast, leL_flD, renL_flD, seval], by simp only [push_cast, leL_flD, renL_flD, seval]⟩) (by simp only [push_cast, leL_flD, renL_flD, seval]) (by simp only [push_cast, leL_flD, renL_flD, seval]) ?_
            refine rs 2 [] [] (by kernel_rfl) allP_nil ?_
            refine run_br h 50 (.inl (by kernel_rfl)) (fun g6518 h => ?_) (fun g6518 h => ?_)
            · refine rs 3 [] [] (by kernel_rfl) allP_nil ?_
              refine rf [(0, .ptr 0 0), (2, iS barrier), (4, .ptr 6 0), (53, bS true)] [(0, .row 59 [.own 1 0 c1.length, .own 3 0 c3.length, .own 4 0 c4.length, .own 5 0 c5.length]), (1, .row 23 (flD dLListInt [2] c1)), ((.s 2 0), .fam (famD dLListInt 0 c1)), (3, .row 3 (fl c3)), (4, .row 4 (fl c4)), (5, .row 3 (fl c5)), (6, .row 47 (Enc.cells x))] 7 (by kernel_rfl) ?_
              exact hK6516 (true) _ _ _ h (leSt_m [(0, 0), (1, 1), ((.s 2 0), (.s 2 0)), (3, 3), (4, 4), (5, 5), (6, 6)] [] (by (try simp only [g6518]) <;> simp only [push_cast, leL_flD, renL_flD, seval]) (by (try simp only [g6518]) <;> simp only [push_cast, leL_flD, renL_flD, seval]) rfl rfl rfl)
            · refine rs 3 [] [] (by kernel_rfl) allP_nil ?_
              refine rf [(0, .ptr 0 0), (2, iS barrier), (4, .ptr 6 0), (53, bS (!((decide (((-1) : Int) ≤ x.C)) && (decide (x.C < ((c3.length : Nat) : Int))))))] [(0, .row 59 [.own 1 0 c1.length, .own 3 0 c3.length, .own 4 0 c4.length, .own 5 0 c5.length]), (1, .row 23 (flD dLListInt [2] c1)), ((.s 2 0), .fam (famD dLListInt 0 c1)), (3, .row 3 (fl c3)), (4, .row 4 (fl c4)), (5, .row 3 (fl c5)), (6, .row 47 (Enc.cells x))] 7 (by kernel_rfl) ?_
              exact hK6516 ((!((decide (((-1) : Int) ≤ x.C)) && (decide (x.C < ((c3.length : Nat) : Int)))))) _ _ _ h (leSt_m [(0, 0), (1, 1), ((.s 2 0), (.s 2 0)), (3, 3), (4, 4), (5, 5), (6, 6)] [] (by (try simp only [g6518]) <;> simp only [push_cast, leL_flD, renL_flD, seval]) (by (try simp only [g6518]) <;> simp only [push_cast, leL_flD, renL_flD, seval]) rfl rfl rfl)
          · rintro t53q4 h
            try dsimp only at h ⊢
            unfold taskmillref_Marking_act_1_j4 at h
            refine cond_sx h (by kernel_rfl) (fun g6578 h => ?_) (fun g6578 h => ?_)
            · refine seq_np ?_
              refine reg_f ?_
              refine rs 1 [] [] (by kernel_rfl) allP_nil ?_
              refine rf [(6, iS 3)] [(0, .row 59 [.own 1 0 c1.length, .own 3 0 c3.length, .own 4 0 c4.length, .own 5 0 c5.length]), (1, .row 23 (flD dLListInt [2] c1)), ((.s 2 0), .fam (famD dLListInt 0 c1)), (3, .row 3 (fl c3)), (4, .row 4 (fl c4)), (5, .row 3 (fl c5)), (6, .row 47 (Enc.cells x))] 7 (by kernel_rfl) ?_
              refine wk_id ?_
              obtain rfl := Option.some.inj h
              refine ret_at (iS 3) (by kernel_rfl) ?_
              exact ret_e [(0, 0), (3, 3), (6, 1), (7, 4), (8, 5), ((.s 9 0), (.s 2 0))] [] (by simp only [push_cast, leL_flD, renL_flD, seval]) (by simp only [push_cast, leL_flD, renL_flD, seval]) rfl rfl rfl
            · refine wk_id ?_
              refine chk_sx h (fun g6522 h => ?_)
              refine seq_np ?_
              refine reg_t ?_
              have k6521 : 0 ≤ x.A ∧ x.A < ((c3.length : Nat) : Int) := by first | simpa only [Bool.and_eq_true, decide_eq_true_eq, bne_iff_ne, ne_eq] using g6522 | (simp at g6522 ⊢; omega)
              refine rs 10 [none, none, none, none, none, none, none, some ⟨.ptr 3 (0 + (x.A).toNat * 1), [], 14, [3]⟩, some ⟨iS (ix c3 x.A), [], 15, [3]⟩] _ (by kernel_rfl) (allP_cons (ob_ld c3 x.A 1 0 (0 + (x.A).toNat * 1) k6521 rfl (by decide) (by first | rfl | omega) (dflS Try.prog 3) (iS (ix c3 x.A)) rfl 15 [3]) (allP_cons (ob_ix_o 3 c3.length 0 1 14 x.A k6521) allP_nil)) ?_
              refine rt [(0, .ptr 0 0), (2, iS barrier), (4, .ptr 6 0), (10, iS (ix c3 x.A))] [(0, .row 59 [.own 1 0 c1.length, .own 3 0 c3.length, .own 4 0 c4.length, .own 5 0 c5.length]), (1, .row 23 (flD dLListInt [2] c1)), ((.s 2 0), .fam (famD dLListInt 0 c1)), (3, .row 3 (fl c3)), (4, .row 4 (fl c4)), (5, .row 3 (fl c5)), (6, .row 47 (Enc.cells x))] 17 follows (by kernel_rfl) ?_
              refine wk_id ?_
              refine seq_np ?_
              refine reg_f ?_
              refine rs 1 [] [] (by kernel_rfl) allP_nil ?_
              refine rf [(0, .ptr 0 0), (2, iS barrier), (4, .ptr 6 0), (10, iS (ix c3 x.A)), (11, iS (-1))] [(0, .row 59 [.own 1 0 c1.length, .own 3 0 c3.length, .own 4 0 c4.length, .own 5 0 c5.length]), (1, .row 23 (flD dLListInt [2] c1)), ((.s 2 0), .fam (famD dLListInt 0 c1)), (3, .row 3 (fl c3)), (4, .row 4 (fl c4)), (5, .row 3 (fl c5)), (6, .row 47 (Enc.cells x))] 17 (by kernel_rfl) ?_
              refine wk_id ?_
              refine seq_cut (A := Int) (fun a => ([(0, .ptr 0 0), (2, iS barrier), (4, .ptr 6 0), (10, iS (ix c3 x.A)), (11, iS a)], [(0, .row 59 [.own 1 0 c1.length, .own 3 0 c3.length, .own 4 0 c4.length, .own 5 0 c5.length]), (1, .row 23 (flD dLListInt [2] c1)), ((.s 2 0), .fam (famD dLListInt 0 c1)), (3, .row 3 (fl c3)), (4, .row 4 (fl c4)), (5, .row 3 (fl c5)), (6, .row 47 (Enc.cells x))], 7)) (fun a => (taskmillref_Marking_act_1_j3 x barrier c1 c3 c4 c5 a) = some r) (fun K6527 hK6527 => ?_) ?_
              · refine seq_np ?_
                refine reg_f ?_
                refine rs 3 [] [] (by kernel_rfl) allP_nil ?_
                refine rf [(0, .ptr 0 0), (2, iS barrier), (4, .ptr 6 0), (10, iS (ix c3 x.A)), (11, iS (-1)), (65, bS (decide ((0 : Int) ≤ x.C)))] [(0, .row 59 [.own 1 0 c1.length, .own 3 0 c3.length, .own 4 0 c4.length, .own 5 0 c5.length]), (1, .row 23 (flD dLListInt [2] c1)), ((.s 2 0), .fam (famD dLListInt 0 c1)), (3, .row 3 (fl c3)), (4, .row 4 (fl c4)), (5, .row 3 (fl c5)), (6, .row 47 (Enc.cells x))] 17 (by kernel_rfl) ?_
                refine wk_id ?_
                refine cond_sx h (by kernel_rfl) (fun g6532 h => ?_) (fun g6532 h => ?_)
                · refine chk_sx h (fun g6531 h => ?_)
                  refine reg_t ?_
                  have k6530 : 0 ≤ x.C ∧ x.C < ((c3.length : Nat) : Int) := by first | simpa only [Bool.and_eq_true, decide_eq_true_eq, bne_iff_ne, ne_eq] using g6531 | (simp at g6531 ⊢; omega)
                  refine rs 10 [none, none, none, none, none, none, none, some ⟨.ptr 3 (0 + (x.C).toNat * 1), [], 24, [3]⟩, some ⟨iS (ix c3 x.C), [], 25, [3]⟩] _ (by kernel_rfl) (allP_cons (ob_ld c3 x.C 1 0 (0 + (x.C).toNat * 1) k6530 rfl (by decide) (by first | rfl | omega) (dflS Try.prog 3) (iS (ix c3 x.C)) rfl 25 [3]) (allP_cons (ob_ix_o 3 c3.length 0 1 24 x.C k6530) allP_nil)) ?_
                  refine rt [(0, .ptr 0 0), (2, iS barrier), (4, .ptr 6 0), (10, iS (ix c3 x.A)), (11, iS (ix c3 x.C))] [(0, .row 59 [.own 1 0 c1.length, .own 3 0 c3.length, .own 4 0 c4.length, .own 5 0 c5.length]), (1, .row 23 (flD dLListInt [2] c1)), ((.s 2 0), .fam (famD dLListInt 0 c1)), (3, .row 3 (fl c3)), (4, .row 4 (fl c4)), (5, .row 3 (fl c5)), (6, .row 47 (Enc.cells x))] 27 follows (by kernel_rfl) ?_
                  exact hK6527 ((ix c3 x.C)) _ _ _ h (leSt_m [(0, 0), (1, 1), ((.s 2 0), (.s 2 0)), (3, 3), (4, 4), (5, 5), (6, 6)] [] (by simp only [push_cast, leL_flD, renL_flD, seval]) (by simp only [push_cast, leL_flD, renL_flD, seval]) rfl rfl rfl)
                · exact hK6527 ((-1)) _ _ _ h (leSt_m [(0, 0), (1, 1), ((.s 2 0), (.s 2 0)), (3, 3), (4, 4), (5, 5), (6, 6)] [] (by simp only [push_cast, leL_flD, renL_flD, seval]) (by simp only [push_cast, leL_flD, renL_flD, seval]) rfl rfl rfl)
              · rintro v6 h
                try dsimp only at h ⊢
                unfold taskmillref_Marking_act_1_j3 at h
                refine seq_cut (A := (List (List Int)) × (List Int) × (List Bool) × (List Int)) (fun a => ([(0, .ptr 0 0), (2, iS barrier), (4, .ptr 6 0), (10, iS (ix c3 x.A)), (11, iS v6)], [(0, .row 59 [.own 1 0 a.1.length, .own 3 0 a.2.1.length, .own 4 0 a.2.2.1.length, .own 7 0 a.2.2.2.length]), (1, .row 23 (flD dLListInt [2] a.1)), ((.s 2 0), .fam (famD dLListInt 0 a.1)), (3, .row 3 (fl a.2.1)), (4, .row 4 (fl a.2.2.1)), (5, .dead), (6, .row 47 (Enc.cells x)), (7, .row 3 (fl a.2.2.2))], 8)) (fun a => (taskmillref_Marking_act_1_j2 x barrier c3 v6 a.1 a.2.1 a.2.2.1 a.2.2.2) = some r) (fun K6543 hK6543 => ?_) ?_
                · refine seq_np ?_
                  refine reg_f ?_
                  refine rs 2 [] [] (by kernel_rfl) allP_nil ?_
                  refine rf [(0, .ptr 0 0), (2, iS barrier), (4, .ptr 6 0), (10, iS (ix c3 x.A)), (11, iS v6), (76, bS (decide ((2 : Int) ≤ barrier)))] [(0, .row 59 [.own 1 0 c1.length, .own 3 0 c3.length, .own 4 0 c4.length, .own 5 0 c5.length]), (1, .row 23 (flD dLListInt [2] c1)), ((.s 2 0), .fam (famD dLListInt 0 c1)), (3, .row 3 (fl c3)), (4, .row 4 (fl c4)), (5, .row 3 (fl c5)), (6, .row 47 (Enc.cells x))] 7 (by kernel_rfl) ?_
                  refine wk_id ?_
                  refine cond_sx h (by kernel_rfl) (fun g6560 h => ?_) (fun g6560 h => ?_)
                  · refine chk_sx h (fun g6553 h => ?_)
                    refine chk_sx h (fun g6555 h => ?_)
                    refine reg_t ?_
                    have k6552 : 0 ≤ (ix c3 x.A) ∧ (ix c3 x.A) < ((c1.length : Nat) : Int) := by first | simpa only [Bool.and_eq_true, decide_eq_true_eq, bne_iff_ne, ne_eq] using g6553 | (simp at g6553 ⊢; omega)
                    have k6554 : 0 ≤ x.B ∧ x.B < (((ixD c1 (ix c3 x.A)).length : Nat) : Int) := by first | simpa only [Bool.and_eq_true, decide_eq_true_eq, bne_iff_ne, ne_eq] using g6555 | (simp at g6555 ⊢; omega)
                    refine rs 13 [none, none, none, none, none, none, none, some ⟨.ptr 1 (0 + ((ix c3 x.A)).toNat * 1), [], 14, [1]⟩, some ⟨.own (.s 2 (ix c3 x.A)) 0 (ixD c1 (ix c3 x.A)).length, [], 15, [1]⟩, none, none, some ⟨.ptr (.s 2 (ix c3 x.A)) (0 + (x.B).toNat * 1), [], 18, [(.s 2 0)]⟩, some ⟨iS (ix (ixD c1 (ix c3 x.A)) x.B), [], 19, [(.s 2 0)]⟩] _ (by kernel_rfl) (allP_cons (ob_ld (ixD c1 (ix c3 x.A)) x.B 1 0 (0 + (x.B).toNat * 1) k6554 rfl (by decide) (by first | rfl | omega) (dflS Try.prog 3) (iS (ix (ixD c1 (ix c3 x.A)) x.B)) rfl 19 [(.s 2 0)]) (allP_cons (ob_ix_o (.s 2 (ix c3 x.A)) (ixD c1 (ix c3 x.A)).length 0 1 18 x.B k6554) (allP_cons (ob_ldD dLListInt [2] c1 (ix c3 x.A) 1 0 (0 + ((ix c3 x.A)).toNat * 1) k6552 rfl (by decide) (by first | rfl | omega) (dflS Try.prog 23) (.own (.s 2 (ix c3 x.A)) 0 (ixD c1 (ix c3 x.A)).length) rfl 15 [1]) (allP_cons (ob_ix_o 1 c1.length 0 1 14 (ix c3 x.A) k6552) allP_nil)))) ?_
                    obtain ⟨r6556, hr6556, h⟩ := bind_sx h
                    refine call_x (taskmillref_Marking_shade_1_spec (ix (ixD c1 (ix c3 x.A)) x.B) c1 c3 c4 c5 r6556 hr6556) (args := [.ptr 0 0, iS (ix (ixD c1 (ix c3 x.A)) x.B)]) (dst := (some 90)) (by kernel_rfl) [(0, .row 59 [.own 1 0 c1.length, .own 3 0 c3.length, .own 4 0 c4.length, .own 5 0 c5.length]), (1, .row 23 (flD dLListInt [2] c1)), ((.s 2 0), .fam (famD dLListInt 0 c1)), (3, .row 3 (fl c3)), (4, .row 4 (fl c4)), (5, .row 3 (fl c5)), (6, .row 47 (Enc.cells x))] 20 (by kernel_rfl) [(0, 0), (1, 1), ((.s 2 0), (.s 2 0)), (3, 3), (4, 4), (5, 5)] [] (.tup []) [(0, .row 59 [.own 1 0 r6556.2.1.length, .own 3 0 r6556.2.2.1.length, .own 4 0 r6556.2.2.2.length, .own 26 0 r6556.1.length]), (1, .row 23 (flD dLListInt [2] r6556.2.1)), ((.s 2 0), .fam (famD dLListInt 0 r6556.2.1)), (3, .row 3 (fl r6556.2.2.1)), (4, .row 4 (fl r6556.2.2.2)), (5, .dead), (26, .row 3 (fl r6556.1)), (0, .dead), (1, .dead), ((.s 2 0), .dead), (3, .dead), (4, .dead), (5, .dead)] (by simp only [push_cast, leL_flD, renL_flD, seval]) (by simp only [push_cast, leL_flD, renL_flD, seval]) (by kernel_rfl) (.inl rfl) (by first | (simp only [push_cast, leL_flD, renL_flD, seval]; done) | (simp only [push_cast, leL_flD, renL_flD, seval]; kernel_rfl) | kernel_rfl) (by first | (simp only [push_cast, leL_flD, renL_flD, seval]; done) | (simp only [push_cast, leL_flD, renL_flD, seval]; kernel_rfl) | kernel_rfl) ?_ (hfam := (And.intro trivial (And.intro trivial (And.intro (fun _ => Or.inl rfl) (And.intro trivial (And.intro trivial (And.intro trivial trivial)))))))
                    refine rt [(0, .ptr 0 0), (2, iS barrier), (4, .ptr 6 0), (10, iS (ix c3 x.A)), (11, iS v6)] [(0, .row 59 [.own 1 0 r6556.2.1.length, .own 3 0 r6556.2.2.1.length, .own 4 0 r6556.2.2.2.length, .own 26 0 r6556.1.length]), (1, .row 23 (flD dLListInt [2] r6556.2.1)), ((.s 2 0), .fam (famD dLListInt 0 r6556.2.1)), (3, .row 3 (fl r6556.2.2.1)), (4, .row 4 (fl r6556.2.2.2)), (5, .dead), (6, .row 47 (Enc.cells x)), (26, .row 3 (fl r6556.1))] 28 follows (by kernel_rfl) ?_
                    exact hK6543 (r6556.2.1, r6556.2.2.1, r6556.2.2.2, r6556.1) _ _ _ h (leSt_m [(0, 0), (1, 1), ((.s 2 0), (.s 2 0)), (3, 3), (4, 4), (6, 6), (7, 26)] [] (by simp only [push_cast, leL_flD, renL_flD, seval]) (by simp only [push_cast, leL_flD, renL_flD, seval]) rfl rfl rfl)
                  · exact hK6543 (c1, c3, c4, c5) _ _ _ h (leSt_m [(0, 0), (1, 1), ((.s 2 0), (.s 2 0)), (3, 3), (4, 4), (6, 6), (7, 5)] [] (by simp only [push_cast, leL_flD, renL_flD, seval]) (by simp only [push_cast, leL_flD, renL_flD, seval]) rfl rfl rfl)
                · rintro ⟨c1q4, c3q8, c4q4, c7q13⟩ h
                  try dsimp only at h ⊢
                  unfold taskmillref_Marking_act_1_j2 at h
                  refine chk_sx h (fun g6566 h => ?_)
                  refine chk_sx h (fun g6568 h => ?_)
                  refine seq_np ?_
                  refine reg_t ?_
                  have k6565 : 0 ≤ (ix c3 x.A) ∧ (ix c3 x.A) < ((c1q4.length : Nat) : Int) := by first | simpa only [Bool.and_eq_true, decide_eq_true_eq, bne_iff_ne, ne_eq] using g6566 | (simp at g6566 ⊢; omega)
                  have k6567 : 0 ≤ x.B ∧ x.B < (((ixD c1q4 (ix c3 x.A)).length : Nat) : Int) := by first | simpa only [Bool.and_eq_true, decide_eq_true_eq, bne_iff_ne, ne_eq] using g6568 | (simp at g6568 ⊢; omega)
                  refine rs 13 [none, none, none, none, none, none, some ⟨.ptr 1 (0 + ((ix c3 x.A)).toNat * 1), [], 14, [1]⟩, some ⟨.own (.s 2 (ix c3 x.A)) 0 (ixD c1q4 (ix c3 x.A)).length, [], 15, [1]⟩, none, none, none, some ⟨.ptr (.s 2 (ix c3 x.A)) (0 + (x.B).toNat * 1), [], 19, [(.s 2 0)]⟩, some ⟨.any, [((.s 2 0), .fam (famD dLListInt 0 (c1q4.set (ix c3 x.A).toNat ((ixD c1q4 (ix c3 x.A)).set x.B.toNat v6))))], 20, [(.s 2 0)]⟩] _ (by kernel_rfl) (allP_cons (ob_stM (P := Try.prog) dLListInt 0 c1q4 (ix c3 x.A) k6565 ((ixD c1q4 (ix c3 x.A)).set x.B.toNat v6) (ixD c1q4 (ix c3 x.A)) x.B 1 0 (0 + (x.B).toNat * 1) k6567 rfl [iS v6] v6 (Nat.le_of_ble_eq_true rfl) (by first | rfl | omega) rfl 3 (by first | rfl | simp only [chD]; rfl) 2 20 3 (by kernel_rfl) rfl) (allP_cons (ob_ix_o (.s 2 (ix c3 x.A)) (ixD c1q4 (ix c3 x.A)).length 0 1 19 x.B k6567) (allP_cons (ob_ldD dLListInt [2] c1q4 (ix c3 x.A) 1 0 (0 + ((ix c3 x.A)).toNat * 1) k6565 rfl (by decide) (by first | rfl | omega) (dflS Try.prog 23) (.own (.s 2 (ix c3 x.A)) 0 (ixD c1q4 (ix c3 x.A)).length) rfl 15 [1]) (allP_cons (ob_ix_o 1 c1q4.length 0 1 14 (ix c3 x.A) k6565) allP_nil)))) ?_
                  refine run_eqH 1 (.row 23 (flD dLListInt [2] c1q4)) (.row 23 (flD dLListInt [2] (c1q4.set (ix c3 x.A).toNat ((ixD c1q4 (ix c3 x.A)).set x.B.toNat v6)))) (congrArg (Chunk.row 23) (flD_same k6565 ((ixD c1q4 (ix c3 x.A)).set x.B.toNat v6) (by first | rfl | simp only [dcs, dLListInt, List.length_set]))) (by kernel_rfl) ?_
                  refine run_eqH 0 (.row 59 [.own 1 0 c1q4.length, .own 3 0 c3q8.length, .own 4 0 c4q4.length, .own 7 0 c7q13.length]) (.row 59 [.own 1 0 (c1q4.set (ix c3 x.A).toNat ((ixD c1q4 (ix c3 x.A)).set x.B.toNat v6)).length, .own 3 0 c3q8.length, .own 4 0 c4q4.length, .own 7 0 c7q13.length]) (congrArg (fun nq => (.row 59 [.own 1 0 nq, .own 3 0 c3q8.length, .own 4 0 c4q4.length, .own 7 0 c7q13.length] : Chunk)) (show c1q4.length = (c1q4.set (ix c3 x.A).toNat ((ixD c1q4 (ix c3 x.A)).set x.B.toNat v6)).length from (List.length_set ..).symm)) (by kernel_rfl) ?_
                  refine rt [(0, .ptr 0 0), (2, iS barrier), (11, iS v6)] [(0, .row 59 [.own 1 0 (c1q4.set (ix c3 x.A).toNat ((ixD c1q4 (ix c3 x.A)).set x.B.toNat v6)).length, .own 3 0 c3q8.length, .own 4 0 c4q4.length, .own 7 0 c7q13.length]), (1, .row 23 (flD dLListInt [2] (c1q4.set (ix c3 x.A).toNat ((ixD c1q4 (ix c3 x.A)).set x.B.toNat v6)))), ((.s 2 0), .fam (famD dLListInt 0 (c1q4.set (ix c3 x.A).toNat ((ixD c1q4 (ix c3 x.A)).set x.B.toNat v6)))), (3, .row 3 (fl c3q8)), (4, .row 4 (fl c4q4)), (5, .dead), (6, .row 47 (Enc.cells x)), (7, .row 3 (fl c7q13))] 21 follows (by kernel_rfl) ?_
                  refine wk_id ?_
                  refine seq_np ?_
                  refine reg_f ?_
                  refine rs 3 [] [] (by kernel_rfl) allP_nil ?_
                  refine rf [(0, .ptr 0 0), (11, iS v6), (105, bS ((Int.tmod barrier 2) == 1))] [(0, .row 59 [.own 1 0 (c1q4.set (ix c3 x.A).toNat ((ixD c1q4 (ix c3 x.A)).set x.B.toNat v6)).length, .own 3 0 c3q8.length, .own 4 0 c4q4.length, .own 7 0 c7q13.length]), (1, .row 23 (flD dLListInt [2] (c1q4.set (ix c3 x.A).toNat ((ixD c1q4 (ix c3 x.A)).set x.B.toNat v6)))), ((.s 2 0), .fam (famD dLListInt 0 (c1q4.set (ix c3 x.A).toNat ((ixD c1q4 (ix c3 x.A)).set x.B.toNat v6)))), (3, .row 3 (fl c3q8)), (4, .row 4 (fl c4q4)), (5, .dead), (6, .row 47 (Enc.cells x)), (7, .row 3 (fl c7q13))] 21 (by kernel_rfl) ?_
                  refine wk_id ?_
                  refine cond_sx h (by kernel_rfl) (fun g6577 h => ?_) (fun g6577 h => ?_)
                  · refine reg_f ?_
                    refine rs 2 [] [] (by kernel_rfl) allP_nil ?_
                    obtain ⟨r6573, hr6573, h⟩ := bind_sx h
                    refine call_x (taskmillref_Marking_shade_1_spec v6 (c1q4.set (ix c3 x.A).toNat ((ixD c1q4 (ix c3 x.A)).set x.B.toNat v6)) c3q8 c4q4 c7q13 r6573 hr6573) (args := [.ptr 0 0, iS v6]) (dst := (some 108)) (by kernel_rfl) [(0, .row 59 [.own 1 0 (c1q4.set (ix c3 x.A).toNat ((ixD c1q4 (ix c3 x.A)).set x.B.toNat v6)).length, .own 3 0 c3q8.length, .own 4 0 c4q4.length, .own 7 0 c7q13.length]), (1, .row 23 (flD dLListInt [2] (c1q4.set (ix c3 x.A).toNat ((ixD c1q4 (ix c3 x.A)).set x.B.toNat v6)))), ((.s 2 0), .fam (famD dLListInt 0 (c1q4.set (ix c3 x.A).toNat ((ixD c1q4 (ix c3 x.A)).set x.B.toNat v6)))), (3, .row 3 (fl c3q8)), (4, .row 4 (fl c4q4)), (5, .dead), (6, .row 47 (Enc.cells x)), (7, .row 3 (fl c7q13))] 21 (by kernel_rfl) [(0, 0), (1, 1), ((.s 2 0), (.s 2 0)), (3, 3), (4, 4), (5, 7)] [] (.tup []) [(0, .row 59 [.own 1 0 r6573.2.1.length, .own 3 0 r6573.2.2.1.length, .own 4 0 r6573.2.2.2.length, .own 27 0 r6573.1.length]), (1, .row 23 (flD dLListInt [2] r6573.2.1)), ((.s 2 0), .fam (famD dLListInt 0 r6573.2.1)), (3, .row 3 (fl r6573.2.2.1)), (4, .row 4 (fl r6573.2.2.2)), (7, .dead), (27, .row 3 (fl r6573.1)), (0, .dead), (1, .dead), ((.s 2 0), .dead), (3, .dead), (4, .dead), (7, .dead)] (by simp only [push_cast, leL_flD, renL_flD, seval]) (by simp only [push_cast, leL_flD, renL_flD, seval]) (by kernel_rfl) (.inl rfl) (by first | (simp only [push_cast, leL_flD, renL_flD, seval]; done) | (simp only [push_cast, leL_flD, renL_flD, seval]; kernel_rfl) | kernel_rfl) (by first | (simp only [push_cast, leL_flD, renL_flD, seval]; done) | (simp only [push_cast, leL_flD, renL_flD, seval]; kernel_rfl) | kernel_rfl) ?_ (hfam := (And.intro trivial (And.intro trivial (And.intro (fun _ => Or.inl rfl) (And.intro trivial (And.intro trivial (And.intro trivial trivial)))))))
                    refine rf [] [(0, .row 59 [.own 1 0 r6573.2.1.length, .own 3 0 r6573.2.2.1.length, .own 4 0 r6573.2.2.2.length, .own 27 0 r6573.1.length]), (1, .row 23 (flD dLListInt [2] r6573.2.1)), ((.s 2 0), .fam (famD dLListInt 0 r6573.2.1)), (3, .row 3 (fl r6573.2.2.1)), (4, .row 4 (fl r6573.2.2.2)), (5, .dead), (6, .row 47 (Enc.cells x)), (7, .dead), (27, .row 3 (fl r6573.1))] 28 (by kernel_rfl) ?_
                    exact hK6507 (r6573.2.1, r6573.2.2.2, r6573.1, r6573.2.2.1) _ _ _ h (leSt_m [(0, 0), (3, 3), (6, 1), (7, 4), (8, 27), ((.s 9 0), (.s 2 0))] [] (by simp only [push_cast, leL_flD, renL_flD, seval]) (by simp only [push_cast, leL_flD, renL_flD, seval]) rfl rfl rfl)
                  · exact hK6507 ((c1q4.set (ix c3 x.A).toNat ((ixD c1q4 (ix c3 x.A)).set x.B.toNat v6)), c4q4, c7q13, c3q8) _ _ _ h (leSt_m [(0, 0), (3, 3), (6, 1), (7, 4), (8, 7), ((.s 9 0), (.s 2 0))] [] (by simp only [push_cast, leL_flD, renL_flD, seval]) (by simp only [push_cast, leL_flD, renL_flD, seval]) rfl rfl rfl)
        · refine seq_np ?_
          refine reg_f ?_
          refine rs 2 [] [] (by kernel_rfl) allP_nil ?_
          refine rf [(0, .ptr 0 0), (4, .ptr 6 0), (8, bS ((decide ((0 : Int) ≤ x.A)) && (decide (x.A < ((c3.length : Nat) : Int))))), (9, bS ((decide (((-1) : Int) ≤ x.C)) && (decide (x.C < ((c3.length : Nat) : Int))))), (40, iS x.Op), (109, bS (x.Op == 2))] [(0, .row 59 [.own 1 0 c1.length, .own 3 0 c3.length, .own 4 0 c4.length, .own 5 0 c5.length]), (1, .row 23 (flD dLListInt [2] c1)), ((.s 2 0), .fam (famD dLListInt 0 c1)), (3, .row 3 (fl c3)), (4, .row 4 (fl c4)), (5, .row 3 (fl c5)), (6, .row 47 (Enc.cells x))] 7 (by kernel_rfl) ?_
          refine wk_id ?_
          refine cond_sx h (by kernel_rfl) (fun g6713 h => ?_) (fun g6713 h => ?_)
          · refine seq_np ?_
            refine seq_cut (A := Bool) (fun a => ([(0, .ptr 0 0), (4, .ptr 6 0), (121, bS a)], [(0, .row 59 [.own 1 0 c1.length, .own 3 0 c3.length, .own 4 0 c4.length, .own 5 0 c5.length]), (1, .row 23 (flD dLListInt [2] c1)), ((.s 2 0), .fam (famD dLListInt 0 c1)), (3, .row 3 (fl c3)), (4, .row 4 (fl c4)), (5, .row 3 (fl c5)), (6, .row 47 (Enc.cells x))], 7)) (fun a => (taskmillref_Marking_act_1_j5 x c1 c3 c4 c5 a) = some r) (fun K6587 hK6587 => ?_) ?_
            · refine reg_f ?_
              refine rs 5 [] [] (by kernel_rfl) allP_nil ?_
              obtain ⟨r6588, hr6588, h⟩ := bind_sx h
              refine call_x (taskmillref_Marking_there_spec (Marking.mk c1 c3 c4 c5) x.C x.B r6588 hr6588) (args := [.ptr 0 0, iS x.C, iS x.B]) (dst := (some 116)) (by kernel_rfl) [(0, .row 59 [.own 1 0 c1.length, .own 3 0 c3.length, .own 4 0 c4.length, .own 5 0 c5.length]), (1, .row 23 (flD dLListInt [2] c1)), ((.s 2 0), .fam (famD dLListInt 0 c1)), (3, .row 3 (fl c3)), (4, .row 4 (fl c4)), (5, .row 3 (fl c5)), (6, .row 47 (Enc.cells x))] 7 (by kernel_rfl) [] [1, (.s 2 0), 3, 4, 5, 0] (bS r6588) [] (by simp only [↓leS_frzD dLListInt [2] c1, ↓leS_frzD dLListInt [2] c1, leS_frz, leL_flD, renL_flD, push_cast, seval]) (by simp only [↓leS_frzD dLListInt [2] c1, ↓leS_frzD dLListInt [2] c1, leS_frz, leL_flD, renL_flD, push_cast, seval]) (by kernel_rfl) (.inr ⟨by simp only [push_cast, leL_flD, renL_flD, seval], by simp only [push_cast, leL_flD, renL_flD, seval]⟩) (by simp only [push_cast, leL_flD, renL_flD, seval]) (by simp only [push_cast, leL_flD, renL_flD, seval]) ?_
              refine rs 2 [] [] (by kernel_rfl) allP_nil ?_
              refine run_br h 118 (.inl (by kernel_rfl)) (fun g6589 h => ?_) (fun g6589 h => ?_)
              · refine rs 3 [] [] (by kernel_rfl) allP_nil ?_
                refine rf [(0, .ptr 0 0), (4, .ptr 6 0), (121, bS true)] [(0, .row 59 [.own 1 0 c1.length, .own 3 0 c3.length, .own 4 0 c4.length, .own 5 0 c5.length]), (1, .row 23 (flD dLListInt [2] c1)), ((.s 2 0), .fam (famD dLListInt 0 c1)), (3, .row 3 (fl c3)), (4, .row 4 (fl c4)), (5, .row 3 (fl c5)), (6, .row 47 (Enc.cells x))] 7 (by kernel_rfl) ?_
                exact hK6587 (true) _ _ _ h (leSt_m [(0, 0), (1, 1), ((.s 2 0), (.s 2 0)), (3, 3), (4, 4), (5, 5), (6, 6)] [] (by (try simp only [g6589]) <;> simp only [push_cast, leL_flD, renL_flD, seval]) (by (try simp only [g6589]) <;> simp only [push_cast, leL_flD, renL_flD, seval]) rfl rfl rfl)
              · refine rs 3 [] [] (by kernel_rfl) allP_nil ?_
                refine rf [(0, .ptr 0 0), (4, .ptr 6 0), (121, bS (!((decide ((0 : Int) ≤ x.A)) && (decide (x.A < ((c3.length : Nat) : Int))))))] [(0, .row 59 [.own 1 0 c1.length, .own 3 0 c3.length, .own 4 0 c4.length, .own 5 0 c5.length]), (1, .row 23 (flD dLListInt [2] c1)), ((.s 2 0), .fam (famD dLListInt 0 c1)), (3, .row 3 (fl c3)), (4, .row 4 (fl c4)), (5, .row 3 (fl c5)), (6, .row 47 (Enc.cells x))] 7 (by kernel_rfl) ?_
                exact hK6587 ((!((decide ((0 : Int) ≤ x.A)) && (decide (x.A < ((c3.length : Nat) : Int)))))) _ _ _ h (leSt_m [(0, 0), (1, 1), ((.s 2 0), (.s 2 0)), (3, 3), (4, 4), (5, 5), (6, 6)] [] (by (try simp only [g6589]) <;> simp only [push_cast, leL_flD, renL_flD, seval]) (by (try simp only [g6589]) <;> simp only [push_cast, leL_flD, renL_flD, seval]) rfl rfl rfl)
            · rintro t121q4 h
              try dsimp only at h ⊢
              unfold taskmillref_Marking_act_1_j5 at h
              refine cond_sx h (by kernel_rfl) (fun g6606 h => ?_) (fun g6606 h => ?_)
              · refine seq_np ?_
                refine reg_f ?_
                refine rs 1 [] [] (by kernel_rfl) allP_nil ?_
                refine rf [(6, iS 3)] [(0, .row 59 [.own 1 0 c1.length, .own 3 0 c3.length, .own 4 0 c4.length, .own 5 0 c5.length]), (1, .row 23 (flD dLListInt [2] c1)), ((.s 2 0), .fam (famD dLListInt 0 c1)), (3, .row 3 (fl c3)), (4, .row 4 (fl c4)), (5, .row 3 (fl c5)), (6, .row 47 (Enc.cells x))] 7 (by kernel_rfl) ?_
                refine wk_id ?_
                obtain rfl := Option.some.inj h
                refine ret_at (iS 3) (by kernel_rfl) ?_
                exact ret_e [(0, 0), (3, 3), (6, 1), (7, 4), (8, 5), ((.s 9 0), (.s 2 0))] [] (by simp only [push_cast, leL_flD, renL_flD, seval]) (by simp only [push_cast, leL_flD, renL_flD, seval]) rfl rfl rfl
              · refine wk_id ?_
                refine chk_sx h (fun g6599 h => ?_)
                refine chk_sx h (fun g6601 h => ?_)
                refine chk_sx h (fun g6603 h => ?_)
                refine chk_sx h (fun g6605 h => ?_)
                refine reg_t ?_
                have k6598 : 0 ≤ x.C ∧ x.C < ((c3.length : Nat) : Int) := by first | simpa only [Bool.and_eq_true, decide_eq_true_eq, bne_iff_ne, ne_eq] using g6599 | (simp at g6599 ⊢; omega)
                have k6600 : 0 ≤ (ix c3 x.C) ∧ (ix c3 x.C) < ((c1.length : Nat) : Int) := by first | simpa only [Bool.and_eq_true, decide_eq_true_eq, bne_iff_ne, ne_eq] using g6601 | (simp at g6601 ⊢; omega)
                have k6602 : 0 ≤ x.B ∧ x.B < (((ixD c1 (ix c3 x.C)).length : Nat) : Int) := by first | simpa only [Bool.and_eq_true, decide_eq_true_eq, bne_iff_ne, ne_eq] using g6603 | (simp at g6603 ⊢; omega)
                have k6604 : 0 ≤ x.A ∧ x.A < ((c3.length : Nat) : Int) := by first | simpa only [Bool.and_eq_true, decide_eq_true_eq, bne_iff_ne, ne_eq] using g6605 | (simp at g6605 ⊢; omega)
                refine rs 29 [none, none, none, none, none, none, none, none, none, none, none, none, none, none, none, none, none, none, none, some ⟨.ptr 3 (0 + (x.C).toNat * 1), [], 26, [3]⟩, some ⟨iS (ix c3 x.C), [], 27, [3]⟩, some ⟨.ptr 1 (0 + ((ix c3 x.C)).toNat * 1), [], 28, [1]⟩, some ⟨.own (.s 2 (ix c3 x.C)) 0 (ixD c1 (ix c3 x.C)).length, [], 29, [1]⟩, none, none, some ⟨.ptr (.s 2 (ix c3 x.C)) (0 + (x.B).toNat * 1), [], 32, [(.s 2 0)]⟩, some ⟨iS (ix (ixD c1 (ix c3 x.C)) x.B), [], 33, [(.s 2 0)]⟩, some ⟨.ptr 3 (0 + (x.A).toNat * 1), [], 34, [3]⟩, some ⟨.any, [(3, .row 3 (fl (c3.set x.A.toNat (ix (ixD c1 (ix c3 x.C)) x.B))))], 35, [3]⟩] _ (by kernel_rfl) (allP_cons (ob_st (P := Try.prog) c3 x.A 1 0 (0 + (x.A).toNat * 1) k6604 rfl [iS (ix (ixD c1 (ix c3 x.C)) x.B)] (ix (ixD c1 (ix c3 x.C)) x.B) (Nat.le_of_ble_eq_true rfl) (by first | rfl | omega) rfl 3 35 3 3 (by kernel_rfl) rfl) (allP_cons (ob_ix_o 3 c3.length 0 1 34 x.A k6604) (allP_cons (ob_ld (ixD c1 (ix c3 x.C)) x.B 1 0 (0 + (x.B).toNat * 1) k6602 rfl (by decide) (by first | rfl | omega) (dflS Try.prog 3) (iS (ix (ixD c1 (ix c3 x.C)) x.B)) rfl 33 [(.s 2 0)]) (allP_cons (ob_ix_o (.s 2 (ix c3 x.C)) (ixD c1 (ix c3 x.C)).length 0 1 32 x.B k6602) (allP_cons (ob_ldD dLListInt [2] c1 (ix c3 x.C) 1 0 (0 + ((ix c3 x.C)).toNat * 1) k6600 rfl (by decide) (by first | rfl | omega) (dflS Try.prog 23) (.own (.s 2 (ix c3 x.C)) 0 (ixD c1 (ix c3 x.C)).length) rfl 29 [1]) (allP_cons (ob_ix_o 1 c1.length 0 1 28 (ix c3 x.C) k6600) (allP_cons (ob_ld c3 x.C 1 0 (0 + (x.C).toNat * 1) k6598 rfl (by decide) (by first | rfl | omega) (dflS Try.prog 3) (iS (ix c3 x.C)) rfl 27 [3]) (allP_cons (ob_ix_o 3 c3.length 0 1 26 x.C k6598) allP_nil)))))))) ?_
                refine run_eqH 0 (.row 59 [.own 1 0 c1.length, .own 3 0 c3.length, .own 4 0 c4.length, .own 5 0 c5.length]) (.row 59 [.own 1 0 c1.length, .own 3 0 (c3.set x.A.toNat (ix (ixD c1 (ix c3 x.C)) x.B)).length, .own 4 0 c4.length, .own 5 0 c5.length]) (congrArg (fun nq => (.row 59 [.own 1 0 c1.length, .own 3 0 nq, .own 4 0 c4.length, .own 5 0 c5.length] : Chunk)) (show c3.length = (c3.set x.A.toNat (ix (ixD c1 (ix c3 x.C)) x.B)).length from (List.length_set ..).symm)) (by kernel_rfl) ?_
                refine rt [] [(0, .row 59 [.own 1 0 c1.length, .own 3 0 (c3.set x.A.toNat (ix (ixD c1 (ix c3 x.C)) x.B)).length, .own 4 0 c4.length, .own 5 0 c5.length]), (1, .row 23 (flD dLListInt [2] c1)), ((.s 2 0), .fam (famD dLListInt 0 c1)), (3, .row 3 (fl (c3.set x.A.toNat (ix (ixD c1 (ix c3 x.C)) x.B)))), (4, .row 4 (fl c4)), (5, .row 3 (fl c5)), (6, .row 47 (Enc.cells x))] 36 follows (by kernel_rfl) ?_
                exact hK6507 (c1, c4, c5, (c3.set x.A.toNat (ix (ixD c1 (ix c3 x.C)) x.B))) _ _ _ h (leSt_m [(0, 0), (3, 3), (6, 1), (7, 4), (8, 5), ((.s 9 0), (.s 2 0))] [] (by simp only [push_cast, leL_flD, renL_flD, seval]) (by simp only [push_cast, leL_flD, renL_flD, seval]) rfl rfl rfl)
          · refine seq_np ?_
            refine reg_f ?_
            refine rs 2 [] [] (by kernel_rfl) allP_nil ?_
            refine rf [(0, .ptr 0 0), (4, .ptr 6 0), (8, bS ((decide ((0 : Int) ≤ x.A)) && (decide (x.A < ((c3.length : Nat) : Int))))), (9, bS ((decide (((-1) : Int) ≤ x.C)) && (decide (x.C < ((c3.length : Nat) : Int))))), (40, iS x.Op), (150, bS (x.Op == 3))] [(0, .row 59 [.own 1 0 c1.length, .own 3 0 c3.length, .own 4 0 c4.length, .own 5 0 c5.length]), (1, .row 23 (flD dLListInt [2] c1)), ((.s 2 0), .fam (famD dLListInt 0 c1)), (3, .row 3 (fl c3)), (4, .row 4 (fl c4)), (5, .row 3 (fl c5)), (6, .row 47 (Enc.cells x))] 7 (by kernel_rfl) ?_
            refine wk_id ?_
            refine cond_sx h (by kernel_rfl) (fun g6712 h => ?_) (fun g6712 h => ?_)
            · refine seq_np ?_
              refine seq_cut (A := Unit) (fun _ => ([(0, .ptr 0 0), (4, .ptr 6 0), (162, bS ((!((decide ((0 : Int) ≤ x.A)) && (decide (x.A < ((c3.length : Nat) : Int))))) || ((!((decide (((-1) : Int) ≤ x.C)) && (decide (x.C < ((c3.length : Nat) : Int))))) || (x.B != 0))))], [(0, .row 59 [.own 1 0 c1.length, .own 3 0 c3.length, .own 4 0 c4.length, .own 5 0 c5.length]), (1, .row 23 (flD dLListInt [2] c1)), ((.s 2 0), .fam (famD dLListInt 0 c1)), (3, .row 3 (fl c3)), (4, .row 4 (fl c4)), (5, .row 3 (fl c5)), (6, .row 47 (Enc.cells x))], 7)) (fun _ => True) (fun K6612 hK6612 => ?_) (fun _ _ => ?_)
              · refine reg_f ?_
                refine rs 3 [] [] (by kernel_rfl) allP_nil ?_
                refine run_split 154 (!((decide ((0 : Int) ≤ x.A)) && (decide (x.A < ((c3.length : Nat) : Int))))) (.inl (by kernel_rfl)) (fun g6613 => ?_) (fun g6613 => ?_)
                · refine rs 8 [] [] (by kernel_rfl) allP_nil ?_
                  refine rf [(0, .ptr 0 0), (4, .ptr 6 0), (162, bS true)] [(0, .row 59 [.own 1 0 c1.length, .own 3 0 c3.length, .own 4 0 c4.length, .own 5 0 c5.length]), (1, .row 23 (flD dLListInt [2] c1)), ((.s 2 0), .fam (famD dLListInt 0 c1)), (3, .row 3 (fl c3)), (4, .row 4 (fl c4)), (5, .row 3 (fl c5)), (6, .row 47 (Enc.cells x))] 7 (by kernel_rfl) ?_
                  exact hK6612 () _ _ _ trivial (leSt_m [(0, 0), (1, 1), ((.s 2 0), (.s 2 0)), (3, 3), (4, 4), (5, 5), (6, 6)] [] (by (try simp only [g6613]) <;> simp only [push_cast, leL_flD, renL_flD, seval]) (by (try simp only [g6613]) <;> simp only [push_cast, leL_flD, renL_flD, seval]) rfl rfl rfl)
                · refine rs 4 [] [] (by kernel_rfl) allP_nil ?_
                  refine run_split 158 (!((decide (((-1) : Int) ≤ x.C)) && (decide (x.C < ((c3.length : Nat) : Int))))) (.inl (by kernel_rfl)) (fun g6614 => ?_) (fun g6614 => ?_)
                  · refine rs 4 [] [] (by kernel_rfl) allP_nil ?_
                    refine rf [(0, .ptr 0 0), (4, .ptr 6 0), (162, bS true)] [(0, .row 59 [.own 1 0 c1.length, .own 3 0 c3.length, .own 4 0 c4.length, .own 5 0 c5.length]), (1, .row 23 (flD dLListInt [2] c1)), ((.s 2 0), .fam (famD dLListInt 0 c1)), (3, .row 3 (fl c3)), (4, .row 4 (fl c4)), (5, .row 3 (fl c5)), (6, .row 47 (Enc.cells x))] 7 (by kernel_rfl) ?_
                    exact hK6612 () _ _ _ trivial (leSt_m [(0, 0), (1, 1), ((.s 2 0), (.s 2 0)), (3, 3), (4, 4), (5, 5), (6, 6)] [] (by first | ((try simp only [g6613, g6614]) <;> simp only [push_cast, leL_flD, renL_flD, seval]; done) | ((try simp only [g6613]); (try simp only [g6614]); simp only [push_cast, leL_flD, renL_flD, seval]; done) | (exfalso; clear h; simp_all; done)) (by first | ((try simp only [g6613, g6614]) <;> simp only [push_cast, leL_flD, renL_flD, seval]; done) | ((try simp only [g6613]); (try simp only [g6614]); simp only [push_cast, leL_flD, renL_flD, seval]; done) | (exfalso; clear h; simp_all; done)) rfl rfl rfl)
                  · refine rs 4 [] [] (by kernel_rfl) allP_nil ?_
                    refine rf [(0, .ptr 0 0), (4, .ptr 6 0), (162, bS (x.B != 0))] [(0, .row 59 [.own 1 0 c1.length, .own 3 0 c3.length, .own 4 0 c4.length, .own 5 0 c5.length]), (1, .row 23 (flD dLListInt [2] c1)), ((.s 2 0), .fam (famD dLListInt 0 c1)), (3, .row 3 (fl c3)), (4, .row 4 (fl c4)), (5, .row 3 (fl c5)), (6, .row 47 (Enc.cells x))] 7 (by kernel_rfl) ?_
                    exact hK6612 () _ _ _ trivial (leSt_m [(0, 0), (1, 1), ((.s 2 0), (.s 2 0)), (3, 3), (4, 4), (5, 5), (6, 6)] [] (by first | ((try simp only [g6613, g6614]) <;> simp only [push_cast, leL_flD, renL_flD, seval]; done) | ((try simp only [g6613]); (try simp only [g6614]); simp only [push_cast, leL_flD, renL_flD, seval]; done) | (exfalso; clear h; simp_all; done)) (by first | ((try simp only [g6613, g6614]) <;> simp only [push_cast, leL_flD, renL_flD, seval]; done) | ((try simp only [g6613]); (try simp only [g6614]); simp only [push_cast, leL_flD, renL_flD, seval]; done) | (exfalso; clear h; simp_all; done)) rfl rfl rfl)
              · dsimp only
                refine cond_sx h (by kernel_rfl) (fun g6629 h => ?_) (fun g6629 h => ?_)
                · refine seq_np ?_
                  refine reg_f ?_
                  refine rs 1 [] [] (by kernel_rfl) allP_nil ?_
                  refine rf [(6, iS 3)] [(0, .row 59 [.own 1 0 c1.length, .own 3 0 c3.length, .own 4 0 c4.length, .own 5 0 c5.length]), (1, .row 23 (flD dLListInt [2] c1)), ((.s 2 0), .fam (famD dLListInt 0 c1)), (3, .row 3 (fl c3)), (4, .row 4 (fl c4)), (5, .row 3 (fl c5)), (6, .row 47 (Enc.cells x))] 7 (by kernel_rfl) ?_
                  refine wk_id ?_
                  obtain rfl := Option.some.inj h
                  refine ret_at (iS 3) (by kernel_rfl) ?_
                  exact ret_e [(0, 0), (3, 3), (6, 1), (7, 4), (8, 5), ((.s 9 0), (.s 2 0))] [] (by simp only [push_cast, leL_flD, renL_flD, seval]) (by simp only [push_cast, leL_flD, renL_flD, seval]) rfl rfl rfl
                · refine wk_id ?_
                  refine seq_np ?_
                  refine reg_f ?_
                  refine rs 1 [] [] (by kernel_rfl) allP_nil ?_
                  refine rf [(0, .ptr 0 0), (4, .ptr 6 0), (12, iS (-1))] [(0, .row 59 [.own 1 0 c1.length, .own 3 0 c3.length, .own 4 0 c4.length, .own 5 0 c5.length]), (1, .row 23 (flD dLListInt [2] c1)), ((.s 2 0), .fam (famD dLListInt 0 c1)), (3, .row 3 (fl c3)), (4, .row 4 (fl c4)), (5, .row 3 (fl c5)), (6, .row 47 (Enc.cells x))] 7 (by kernel_rfl) ?_
                  refine wk_id ?_
                  refine seq_cut (A := Int) (fun a => ([(0, .ptr 0 0), (4, .ptr 6 0), (12, iS a)], [(0, .row 59 [.own 1 0 c1.length, .own 3 0 c3.length, .own 4 0 c4.length, .own 5 0 c5.length]), (1, .row 23 (flD dLListInt [2] c1)), ((.s 2 0), .fam (famD dLListInt 0 c1)), (3, .row 3 (fl c3)), (4, .row 4 (fl c4)), (5, .row 3 (fl c5)), (6, .row 47 (Enc.cells x))], 7)) (fun a => (taskmillref_Marking_act_1_j6 x c1 c3 c4 c5 a) = some r) (fun K6619 hK6619 => ?_) ?_
                  · refine seq_np ?_
                    refine reg_f ?_
                    refine rs 3 [] [] (by kernel_rfl) allP_nil ?_
                    refine rf [(0, .ptr 0 0), (4, .ptr 6 0), (12, iS (-1)), (165, bS (decide ((0 : Int) ≤ x.C)))] [(0, .row 59 [.own 1 0 c1.length, .own 3 0 c3.length, .own 4 0 c4.length, .own 5 0 c5.length]), (1, .row 23 (flD dLListInt [2] c1)), ((.s 2 0), .fam (famD dLListInt 0 c1)), (3, .row 3 (fl c3)), (4, .row 4 (fl c4)), (5, .row 3 (fl c5)), (6, .row 47 (Enc.cells x))] 7 (by kernel_rfl) ?_
                    refine wk_id ?_
                    refine cond_sx h (by kernel_rfl) (fun g6624 h => ?_) (fun g6624 h => ?_)
                    · refine chk_sx h (fun g6623 h => ?_)
                      refine reg_t ?_
                      have k6622 : 0 ≤ x.C ∧ x.C < ((c3.length : Nat) : Int) := by first | simpa only [Bool.and_eq_true, decide_eq_true_eq, bne_iff_ne, ne_eq] using g6623 | (simp at g6623 ⊢; omega)
                      refine rs 10 [none, none, none, none, none, none, none, some ⟨.ptr 3 (0 + (x.C).toNat * 1), [], 14, [3]⟩, some ⟨iS (ix c3 x.C), [], 15, [3]⟩] _ (by kernel_rfl) (allP_cons (ob_ld c3 x.C 1 0 (0 + (x.C).toNat * 1) k6622 rfl (by decide) (by first | rfl | omega) (dflS Try.prog 3) (iS (ix c3 x.C)) rfl 15 [3]) (allP_cons (ob_ix_o 3 c3.length 0 1 14 x.C k6622) allP_nil)) ?_
                      refine rt [(0, .ptr 0 0), (4, .ptr 6 0), (12, iS (ix c3 x.C))] [(0, .row 59 [.own 1 0 c1.length, .own 3 0 c3.length, .own 4 0 c4.length, .own 5 0 c5.length]), (1, .row 23 (flD dLListInt [2] c1)), ((.s 2 0), .fam (famD dLListInt 0 c1)), (3, .row 3 (fl c3)), (4, .row 4 (fl c4)), (5, .row 3 (fl c5)), (6, .row 47 (Enc.cells x))] 17 follows (by kernel_rfl) ?_
                      exact hK6619 ((ix c3 x.C)) _ _ _ h (leSt_m [(0, 0), (1, 1), ((.s 2 0), (.s 2 0)), (3, 3), (4, 4), (5, 5), (6, 6)] [] (by simp only [push_cast, leL_flD, renL_flD, seval]) (by simp only [push_cast, leL_flD, renL_flD, seval]) rfl rfl rfl)
                    · exact hK6619 ((-1)) _ _ _ h (leSt_m [(0, 0), (1, 1), ((.s 2 0), (.s 2 0)), (3, 3), (4, 4), (5, 5), (6, 6)] [] (by simp only [push_cast, leL_flD, renL_flD, seval]) (by simp only [push_cast, leL_flD, renL_flD, seval]) rfl rfl rfl)
                  · rintro v7 h
                    try dsimp only at h ⊢
                    unfold taskmillref_Marking_act_1_j6 at h
                    refine chk_sx h (fun g6628 h => ?_)
                    refine reg_t ?_
                    have k6627 : 0 ≤ x.A ∧ x.A < ((c3.length : Nat) : Int) := by first | simpa only [Bool.and_eq_true, decide_eq_true_eq, bne_iff_ne, ne_eq] using g6628 | (simp at g6628 ⊢; omega)
                    refine rs 10 [none, none, none, none, none, none, none, none, some ⟨.ptr 3 (0 + (x.A).toNat * 1), [], 15, [3]⟩, some ⟨.any, [(3, .row 3 (fl (c3.set x.A.toNat v7)))], 16, [3]⟩] _ (by kernel_rfl) (allP_cons (ob_st (P := Try.prog) c3 x.A 1 0 (0 + (x.A).toNat * 1) k6627 rfl [iS v7] v7 (Nat.le_of_ble_eq_true rfl) (by first | rfl | omega) rfl 3 16 3 3 (by kernel_rfl) rfl) (allP_cons (ob_ix_o 3 c3.length 0 1 15 x.A k6627) allP_nil)) ?_
                    refine run_eqH 0 (.row 59 [.own 1 0 c1.length, .own 3 0 c3.length, .own 4 0 c4.length, .own 5 0 c5.length]) (.row 59 [.own 1 0 c1.length, .own 3 0 (c3.set x.A.toNat v7).length, .own 4 0 c4.length, .own 5 0 c5.length]) (congrArg (fun nq => (.row 59 [.own 1 0 c1.length, .own 3 0 nq, .own 4 0 c4.length, .own 5 0 c5.length] : Chunk)) (show c3.length = (c3.set x.A.toNat v7).length from (List.length_set ..).symm)) (by kernel_rfl) ?_
                    refine rt [] [(0, .row 59 [.own 1 0 c1.length, .own 3 0 (c3.set x.A.toNat v7).length, .own 4 0 c4.length, .own 5 0 c5.length]), (1, .row 23 (flD dLListInt [2] c1)), ((.s 2 0), .fam (famD dLListInt 0 c1)), (3, .row 3 (fl (c3.set x.A.toNat v7))), (4, .row 4 (fl c4)), (5, .row 3 (fl c5)), (6, .row 47 (Enc.cells x))] 17 follows (by kernel_rfl) ?_
                    exact hK6507 (c1, c4, c5, (c3.set x.A.toNat v7)) _ _ _ h (leSt_m [(0, 0), (3, 3), (6, 1), (7, 4), (8, 5), ((.s 9 0), (.s 2 0))] [] (by simp only [push_cast, leL_flD, renL_flD, seval]) (by simp only [push_cast, leL_flD, renL_flD, seval]) rfl rfl rfl)
            · refine seq_np ?_
              refine reg_f ?_
              refine rs 2 [] [] (by kernel_rfl) allP_nil ?_
              refine rf [(0, .ptr 0 0), (4, .ptr 6 0), (8, bS ((decide ((0 : Int) ≤ x.A)) && (decide (x.A < ((c3.length : Nat) : Int))))), (40, iS x.Op), (184, bS (x.Op == 4))] [(0, .row 59 [.own 1 0 c1.length, .own 3 0 c3.length, .own 4 0 c4.length, .own 5 0 c5.length]), (1, .row 23 (flD dLListInt [2] c1)), ((.s 2 0), .fam (famD dLListInt 0 c1)), (3, .row 3 (fl c3)), (4, .row 4 (fl c4)), (5, .row 3 (fl c5)), (6, .row 47 (Enc.cells x))] 7 (by kernel_rfl) ?_
              refine wk_id ?_
              refine cond_sx h (by kernel_rfl) (fun g6711 h => ?_) (fun g6711 h => ?_)
              · refine seq_np ?_
                refine seq_cut (A := Unit) (fun _ => ([(0, .ptr 0 0), (4, .ptr 6 0), (202, bS ((!((decide ((0 : Int) ≤ x.A)) && (decide (x.A < ((c3.length : Nat) : Int))))) || ((decide (x.B < 0)) || ((decide ((20 : Int) < x.B)) || (x.C != 0)))))], [(0, .row 59 [.own 1 0 c1.length, .own 3 0 c3.length, .own 4 0 c4.length, .own 5 0 c5.length]), (1, .row 23 (flD dLListInt [2] c1)), ((.s 2 0), .fam (famD dLListInt 0 c1)), (3, .row 3 (fl c3)), (4, .row 4 (fl c4)), (5, .row 3 (fl c5)), (6, .row 47 (Enc.cells x))], 7)) (fun _ => True) (fun K6637 hK6637 => ?_) (fun _ _ => ?_)
                · refine reg_f ?_
                  refine rs 3 [] [] (by kernel_rfl) allP_nil ?_
                  refine run_split 188 (!((decide ((0 : Int) ≤ x.A)) && (decide (x.A < ((c3.length : Nat) : Int))))) (.inl (by kernel_rfl)) (fun g6638 => ?_) (fun g6638 => ?_)
                  · refine rs 14 [] [] (by kernel_rfl) allP_nil ?_
                    refine rf [(0, .ptr 0 0), (4, .ptr 6 0), (202, bS true)] [(0, .row 59 [.own 1 0 c1.length, .own 3 0 c3.length, .own 4 0 c4.length, .own 5 0 c5.length]), (1, .row 23 (flD dLListInt [2] c1)), ((.s 2 0), .fam (famD dLListInt 0 c1)), (3, .row 3 (fl c3)), (4, .row 4 (fl c4)), (5, .row 3 (fl c5)), (6, .row 47 (Enc.cells x))] 7 (by kernel_rfl) ?_
                    exact hK6637 () _ _ _ trivial (leSt_m [(0, 0), (1, 1), ((.s 2 0), (.s 2 0)), (3, 3), (4, 4), (5, 5), (6, 6)] [] (by (try simp only [g6638]) <;> simp only [push_cast, leL_flD, renL_flD, seval]) (by (try simp only [g6638]) <;> simp only [push_cast, leL_flD, renL_flD, seval]) rfl rfl rfl)
                  · refine rs 5 [] [] (by kernel_rfl) allP_nil ?_
                    refine run_split 193 (decide (x.B < 0)) (.inl (by kernel_rfl)) (fun g6639 => ?_) (fun g6639 => ?_)
                    · refine rs 9 [] [] (by kernel_rfl) allP_nil ?_
                      refine rf [(0, .ptr 0 0), (4, .ptr 6 0), (202, bS true)] [(0, .row 59 [.own 1 0 c1.length, .own 3 0 c3.length, .own 4 0 c4.length, .own 5 0 c5.length]), (1, .row 23 (flD dLListInt [2] c1)), ((.s 2 0), .fam (famD dLListInt 0 c1)), (3, .row 3 (fl c3)), (4, .row 4 (fl c4)), (5, .row 3 (fl c5)), (6, .row 47 (Enc.cells x))] 7 (by kernel_rfl) ?_
                      exact hK6637 () _ _ _ trivial (leSt_m [(0, 0), (1, 1), ((.s 2 0), (.s 2 0)), (3, 3), (4, 4), (5, 5), (6, 6)] [] (by first | ((try simp only [g6638, g6639]) <;> simp only [push_cast, leL_flD, renL_flD, seval]; done) | ((try simp only [g6638]); (try simp only [g6639]); simp only [push_cast, leL_flD, renL_flD, seval]; done) | (exfalso; clear h; simp_all; done)) (by first | ((try simp only [g6638, g6639]) <;> simp only [push_cast, leL_flD, renL_flD, seval]; done) | ((try simp only [g6638]); (try simp only [g6639]); simp only [push_cast, leL_flD, renL_flD, seval]; done) | (exfalso; clear h; simp_all; done)) rfl rfl rfl)
                    · refine rs 5 [] [] (by kernel_rfl) allP_nil ?_
                      refine run_split 198 (decide ((20 : Int) < x.B)) (.inl (by kernel_rfl)) (fun g6640 => ?_) (fun g6640 => ?_)
                      · refine rn 13 [(0, .ptr 0 0), (4, .ptr 6 0), (198, bS true)] [(0, .row 59 [.own 1 0 c1.length, .own 3 0 c3.length, .own 4 0 c4.length, .own 5 0 c5.length]), (1, .row 23 (flD dLListInt [2] c1)), ((.s 2 0), .fam (famD dLListInt 0 c1)), (3, .row 3 (fl c3)), (4, .row 4 (fl c4)), (5, .row 3 (fl c5)), (6, .row 47 (Enc.cells x))] 7 (by kernel_rfl) ?_
                        refine rs 4 [] [] (by kernel_rfl) allP_nil ?_
                        refine rf [(0, .ptr 0 0), (4, .ptr 6 0), (202, bS true)] [(0, .row 59 [.own 1 0 c1.length, .own 3 0 c3.length, .own 4 0 c4.length, .own 5 0 c5.length]), (1, .row 23 (flD dLListInt [2] c1)), ((.s 2 0), .fam (famD dLListInt 0 c1)), (3, .row 3 (fl c3)), (4, .row 4 (fl c4)), (5, .row 3 (fl c5)), (6, .row 47 (Enc.cells x))] 7 (by kernel_rfl) ?_
                        exact hK6637 () _ _ _ trivial (leSt_m [(0, 0), (1, 1), ((.s 2 0), (.s 2 0)), (3, 3), (4, 4), (5, 5), (6, 6)] [] (by first | ((try simp only [g6638, g6639, g6640]) <;> simp only [push_cast, leL_flD, renL_flD, seval]; done) | ((try simp only [g6638]); (try simp only [g6639]); (try simp only [g6640]); simp only [push_cast, leL_flD, renL_flD, seval]; done) | (exfalso; clear h; simp_all; done)) (by first | ((try simp only [g6638, g6639, g6640]) <;> simp only [push_cast, leL_flD, renL_flD, seval]; done) | ((try simp only [g6638]); (try simp only [g6639]); (try simp only [g6640]); simp only [push_cast, leL_flD, renL_flD, seval]; done) | (exfalso; clear h; simp_all; done)) rfl rfl rfl)
                      · refine rn 13 [(0, .ptr 0 0), (4, .ptr 6 0), (198, bS false)] [(0, .row 59 [.own 1 0 c1.length, .own 3 0 c3.length, .own 4 0 c4.length, .own 5 0 c5.length]), (1, .row 23 (flD dLListInt [2] c1)), ((.s 2 0), .fam (famD dLListInt 0 c1)), (3, .row 3 (fl c3)), (4, .row 4 (fl c4)), (5, .row 3 (fl c5)), (6, .row 47 (Enc.cells x))] 7 (by kernel_rfl) ?_
                        refine rs 4 [] [] (by kernel_rfl) allP_nil ?_
                        refine rf [(0, .ptr 0 0), (4, .ptr 6 0), (202, bS (x.C != 0))] [(0, .row 59 [.own 1 0 c1.length, .own 3 0 c3.length, .own 4 0 c4.length, .own 5 0 c5.length]), (1, .row 23 (flD dLListInt [2] c1)), ((.s 2 0), .fam (famD dLListInt 0 c1)), (3, .row 3 (fl c3)), (4, .row 4 (fl c4)), (5, .row 3 (fl c5)), (6, .row 47 (Enc.cells x))] 7 (by kernel_rfl) ?_
                        exact hK6637 () _ _ _ trivial (leSt_m [(0, 0), (1, 1), ((.s 2 0), (.s 2 0)), (3, 3), (4, 4), (5, 5), (6, 6)] [] (by first | ((try simp only [g6638, g6639, g6640]) <;> simp only [push_cast, leL_flD, renL_flD, seval]; done) | ((try simp only [g6638]); (try simp only [g6639]); (try simp only [g6640]); simp only [push_cast, leL_flD, renL_flD, seval]; done) | (exfalso; clear h; simp_all; done)) (by first | ((try simp only [g6638, g6639, g6640]) <;> simp only [push_cast, leL_flD, renL_flD, seval]; done) | ((try simp only [g6638]); (try simp only [g6639]); (try simp only [g6640]); simp only [push_cast, leL_flD, renL_flD, seval]; done) | (exfalso; clear h; simp_all; done)) rfl rfl rfl)
                · dsimp only
                  refine cond_sx h (by kernel_rfl) (fun g6692 h => ?_) (fun g6692 h => ?_)
                  · refine seq_np ?_
                    refine reg_f ?_
                    refine rs 1 [] [] (by kernel_rfl) allP_nil ?_
                    refine rf [(6, iS 3)] [(0, .row 59 [.own 1 0 c1.length, .own 3 0 c3.length, .own 4 0 c4.length, .own 5 0 c5.length]), (1, .row 23 (flD dLListInt [2] c1)), ((.s 2 0), .fam (famD dLListInt 0 c1)), (3, .row 3 (fl c3)), (4, .row 4 (fl c4)), (5, .row 3 (fl c5)), (6, .row 47 (Enc.cells x))] 7 (by kernel_rfl) ?_
                    refine wk_id ?_
                    obtain rfl := Option.some.inj h
                    refine ret_at (iS 3) (by kernel_rfl) ?_
                    exact ret_e [(0, 0), (3, 3), (6, 1), (7, 4), (8, 5), ((.s 9 0), (.s 2 0))] [] (by simp only [push_cast, leL_flD, renL_flD, seval]) (by simp only [push_cast, leL_flD, renL_flD, seval]) rfl rfl rfl
                  · refine wk_id ?_
                    refine seq_np ?_
                    refine seq_np ?_
                    refine reg_f ?_
                    refine rs 7 [] [] (by kernel_rfl) allP_nil ?_
                    refine rf [(0, .ptr 0 0), (4, .ptr 6 0), (209, bS (((c1.length : Nat) : Int) == 500))] [(0, .row 59 [.own 1 0 c1.length, .own 3 0 c3.length, .own 4 0 c4.length, .own 5 0 c5.length]), (1, .row 23 (flD dLListInt [2] c1)), ((.s 2 0), .fam (famD dLListInt 0 c1)), (3, .row 3 (fl c3)), (4, .row 4 (fl c4)), (5, .row 3 (fl c5)), (6, .row 47 (Enc.cells x))] 7 (by kernel_rfl) ?_
                    refine wk_id ?_
                    refine cond_sx h (by kernel_rfl) (fun g6691 h => ?_) (fun g6691 h => ?_)
                    · refine seq_np ?_
                      refine reg_f ?_
                      refine rs 1 [] [] (by kernel_rfl) allP_nil ?_
                      refine rf [(6, iS 9)] [(0, .row 59 [.own 1 0 c1.length, .own 3 0 c3.length, .own 4 0 c4.length, .own 5 0 c5.length]), (1, .row 23 (flD dLListInt [2] c1)), ((.s 2 0), .fam (famD dLListInt 0 c1)), (3, .row 3 (fl c3)), (4, .row 4 (fl c4)), (5, .row 3 (fl c5)), (6, .row 47 (Enc.cells x))] 7 (by kernel_rfl) ?_
                      refine wk_id ?_
                      obtain rfl := Option.some.inj h
                      refine ret_at (iS 9) (by kernel_rfl) ?_
                      exact ret_e [(0, 0), (3, 3), (6, 1), (7, 4), (8, 5), ((.s 9 0), (.s 2 0))] [] (by simp only [push_cast, leL_flD, renL_flD, seval]) (by simp only [push_cast, leL_flD, renL_flD, seval]) rfl rfl rfl
                    · refine wk_id ?_
                      refine seq_np ?_
                      refine reg_f ?_
                      refine rs 1 [] [] (by kernel_rfl) allP_nil ?_
                      refine rf [(0, .ptr 0 0), (4, .ptr 6 0), (13, .v (.slice none 0 0))] [(0, .row 59 [.own 1 0 c1.length, .own 3 0 c3.length, .own 4 0 c4.length, .own 5 0 c5.length]), (1, .row 23 (flD dLListInt [2] c1)), ((.s 2 0), .fam (famD dLListInt 0 c1)), (3, .row 3 (fl c3)), (4, .row 4 (fl c4)), (5, .row 3 (fl c5)), (6, .row 47 (Enc.cells x))] 7 (by kernel_rfl) ?_
                      refine wk_id ?_
                      refine seq_np ?_
                      refine seq_np ?_
                      refine reg_f ?_
                      refine rs 1 [] [] (by kernel_rfl) allP_nil ?_
                      refine rf [(0, .ptr 0 0), (4, .ptr 6 0), (13, .v (.slice none 0 0)), (14, iS 0)] [(0, .row 59 [.own 1 0 c1.length, .own 3 0 c3.length, .own 4 0 c4.length, .own 5 0 c5.length]), (1, .row 23 (flD dLListInt [2] c1)), ((.s 2 0), .fam (famD dLListInt 0 c1)), (3, .row 3 (fl c3)), (4, .row 4 (fl c4)), (5, .row 3 (fl c5)), (6, .row 47 (Enc.cells x))] 7 (by kernel_rfl) ?_
                      refine wk_id ?_
                      refine block_np ?_
                      refine loop_sx (S := Int × (List Int)) (fun a => ([(0, .ptr 0 0), (4, .ptr 6 0), (13, .own 7 0 a.2.length), (14, iS a.1)], [(0, .row 59 [.own 1 0 c1.length, .own 3 0 c3.length, .own 4 0 c4.length, .own 5 0 c5.length]), (1, .row 23 (flD dLListInt [2] c1)), ((.s 2 0), .fam (famD dLListInt 0 c1)), (3, .row 3 (fl c3)), (4, .row 4 (fl c4)), (5, .row 3 (fl c5)), (6, .row 47 (Enc.cells x)), (7, .row 3 (fl a.2))], 8)) h (leSt_m [(0, 0), (1, 1), ((.s 2 0), (.s 2 0)), (3, 3), (4, 4), (5, 5), (6, 6)] [] (by simp only [push_cast, leL_flD, renL_flD, seval]) (by simp only [push_cast, leL_flD, renL_flD, seval]) rfl rfl rfl) ?_
                      rintro ⟨i11, c7q19⟩ o2 R2 h hr2 hn2 hx2 ht2
                      try dsimp only at h hn2 ⊢
                      unfold taskmillref_Marking_act_1_l1 at h
                      try dsimp only at h
                      refine seq_np ?_
                      refine seq_np ?_
                      refine reg_f ?_
                      refine rs 4 [] [] (by kernel_rfl) allP_nil ?_
                      refine rf [(0, .ptr 0 0), (4, .ptr 6 0), (13, .own 7 0 c7q19.length), (14, iS i11), (213, bS (decide (i11 < x.B)))] [(0, .row 59 [.own 1 0 c1.length, .own 3 0 c3.length, .own 4 0 c4.length, .own 5 0 c5.length]), (1, .row 23 (flD dLListInt [2] c1)), ((.s 2 0), .fam (famD dLListInt 0 c1)), (3, .row 3 (fl c3)), (4, .row 4 (fl c4)), (5, .row 3 (fl c5)), (6, .row 47 (Enc.cells x)), (7, .row 3 (fl c7q19))] 8 (by kernel_rfl) ?_
                      refine wk_id ?_
                      refine cond_sx h (by kernel_rfl) (fun g6690 h => ?_) (fun g6690 h => ?_)
                      · refine wk_id ?_
                        refine seq_np ?_
                        refine block_np ?_
                        refine chk_sx h (fun g6677 h => ?_)
                        refine reg_f ?_
                        have k6676 : (c7q19 ++ ([(-1)] : List Int)).length * 8 ≤ 140737488355328 := by first | simpa only [Bool.and_eq_true, decide_eq_true_eq, bne_iff_ne, ne_eq] using g6677 | (simp at g6677 ⊢; omega)
                        refine rs 4 [none, none, some ⟨.own 9 0 (c7q19 ++ ([(-1)] : List Int)).length, [(9, .row 3 (fl (c7q19 ++ ([(-1)] : List Int)))), (7, .dead)], 10, [7, 8]⟩] _ (by kernel_rfl) (allP_cons (ob_app (P := Try.prog) c7q19 ([(-1)] : List Int) 1 8 rfl (appCells (fl ([(-1)] : List Int)) 0 (([(-1)] : List Int).length * 1)) ([(-1)] : List Int).length (app_own ([(-1)] : List Int) 1 rfl) rfl (0 + ([(-1)] : List Int).length * 1 ≤ (fl ([(-1)] : List Int)).length) (app_own_le ([(-1)] : List Int) 1 rfl) 3 (by kernel_rfl) (by decide) k6676 7 9 [8]) allP_nil) ?_
                        refine rf [(0, .ptr 0 0), (4, .ptr 6 0), (13, .own 9 0 (c7q19 ++ ([(-1)] : List Int)).length), (14, iS i11)] [(0, .row 59 [.own 1 0 c1.length, .own 3 0 c3.length, .own 4 0 c4.length, .own 5 0 c5.length]), (1, .row 23 (flD dLListInt [2] c1)), ((.s 2 0), .fam (famD dLListInt 0 c1)), (3, .row 3 (fl c3)), (4, .row 4 (fl c4)), (5, .row 3 (fl c5)), (6, .row 47 (Enc.cells x)), (7, .dead), (8, .row 3 (fl ([(-1)] : List Int))), (9, .row 3 (fl (c7q19 ++ ([(-1)] : List Int))))] 10 (by kernel_rfl) ?_
                        refine wk_id ?_
                        refine wk_id ?_
                        refine reg_f ?_
                        refine rs 3 [] [] (by kernel_rfl) allP_nil ?_
                        refine rf [(0, .ptr 0 0), (4, .ptr 6 0), (13, .own 9 0 (c7q19 ++ ([(-1)] : List Int)).length), (14, iS (IntKind.i64.wrap (i11 + 1)))] [(0, .row 59 [.own 1 0 c1.length, .own 3 0 c3.length, .own 4 0 c4.length, .own 5 0 c5.length]), (1, .row 23 (flD dLListInt [2] c1)), ((.s 2 0), .fam (famD dLListInt 0 c1)), (3, .row 3 (fl c3)), (4, .row 4 (fl c4)), (5, .row 3 (fl c5)), (6, .row 47 (Enc.cells x)), (7, .dead), (8, .row 3 (fl ([(-1)] : List Int))), (9, .row 3 (fl (c7q19 ++ ([(-1)] : List Int))))] 10 (by kernel_rfl) ?_
                        exact hn2 ((IntKind.i64.wrap (i11 + 1)), (c7q19 ++ ([(-1)] : List Int))) _ _ _ (Option.some.inj h).symm (leSt_m [(0, 0), (1, 1), ((.s 2 0), (.s 2 0)), (3, 3), (4, 4), (5, 5), (6, 6), (7, 9)] [] (by simp only [push_cast, leL_flD, renL_flD, seval]) (by simp only [push_cast, leL_flD, renL_flD, seval]) rfl rfl rfl)
                      · change R2 (.exit 1) _ _ _
                        refine ex_cast hx2 (id := 1) ?_
                        obtain ⟨r0, h, e0⟩ := map_sx h
                        have e1 := hr2 r0 e0.symm
                        subst r0
                        refine wk_id ?_
                        refine wk_id ?_
                        refine chk_sx h (fun g6681 h => ?_)
                        refine seq_np ?_
                        refine reg_t ?_
                        have k6680 : 0 ≤ x.A ∧ x.A < ((c3.length : Nat) : Int) := by first | simpa only [Bool.and_eq_true, decide_eq_true_eq, bne_iff_ne, ne_eq] using g6681 | (simp at g6681 ⊢; omega)
                        refine rs 15 [none, none, none, none, none, none, none, none, none, none, none, none, none, some ⟨.ptr 3 (0 + (x.A).toNat * 1), [], 21, [3]⟩, some ⟨.any, [(3, .row 3 (fl (c3.set x.A.toNat ((c1.length : Nat) : Int))))], 22, [3]⟩] _ (by kernel_rfl) (allP_cons (ob_st (P := Try.prog) c3 x.A 1 0 (0 + (x.A).toNat * 1) k6680 rfl [iS ((c1.length : Nat) : Int)] ((c1.length : Nat) : Int) (Nat.le_of_ble_eq_true rfl) (by first | rfl | omega) rfl 3 22 3 3 (by kernel_rfl) rfl) (allP_cons (ob_ix_o 3 c3.length 0 1 21 x.A k6680) allP_nil)) ?_
                        refine run_eqH 0 (.row 59 [.own 1 0 c1.length, .own 3 0 c3.length, .own 4 0 c4.length, .own 5 0 c5.length]) (.row 59 [.own 1 0 c1.length, .own 3 0 (c3.set x.A.toNat ((c1.length : Nat) : Int)).length, .own 4 0 c4.length, .own 5 0 c5.length]) (congrArg (fun nq => (.row 59 [.own 1 0 c1.length, .own 3 0 nq, .own 4 0 c4.length, .own 5 0 c5.length] : Chunk)) (show c3.length = (c3.set x.A.toNat ((c1.length : Nat) : Int)).length from (List.length_set ..).symm)) (by kernel_rfl) ?_
                        refine rt [(0, .ptr 0 0), (13, .own 7 0 c7q19.length)] [(0, .row 59 [.own 1 0 c1.length, .own 3 0 (c3.set x.A.toNat ((c1.length : Nat) : Int)).length, .own 4 0 c4.length, .own 5 0 c5.length]), (1, .row 23 (flD dLListInt [2] c1)), ((.s 2 0), .fam (famD dLListInt 0 c1)), (3, .row 3 (fl (c3.set x.A.toNat ((c1.length : Nat) : Int)))), (4, .row 4 (fl c4)), (5, .row 3 (fl c5)), (6, .row 47 (Enc.cells x)), (7, .row 3 (fl c7q19))] 23 follows (by kernel_rfl) ?_
                        refine wk_id ?_
                        refine chk_sx h (fun g6685 h => ?_)
                        refine seq_np ?_
                        refine reg_f ?_
                        have k6684 : (c1 ++ [(c7q19 : (List Int))]).length * 24 ≤ 140737488355328 := by first | simpa only [Bool.and_eq_true, decide_eq_true_eq, bne_iff_ne, ne_eq] using g6685 | (simp at g6685 ⊢; omega)
                        refine rs 8 [] [] (by kernel_rfl) allP_nil ?_
                        refine run_opG (some 241) _ ⟨.own 24 0 (c1 ++ [(c7q19 : (List Int))]).length, [(24, .row 23 (flN dLListInt (nA [(some 2)] [(some (Nm.t 7))] ((c1.length : Nat) : Int)) 0 (c1 ++ [(c7q19 : (List Int))]))), (1, .dead)], 25, [1, 23]⟩ [((.s 25 0), .fam (famD dLListInt 0 (c1 ++ [(c7q19 : (List Int))]))), (24, .row 23 (flD dLListInt [25] (c1 ++ [(c7q19 : (List Int))]))), ((.s 2 0), .dead), (7, .dead)] 1 [24, (.s 2 0), 7] [(.s 2 0), 7] (by kernel_rfl) (ob_appN (P := Try.prog) dLListInt [2] [(some (Nm.t 7))] c1 (c7q19 : (List Int)) 1 24 rfl (appCells ([.own 7 0 c7q19.length] : List SV) 0 (1 * 1)) rfl rfl rfl (0 + 1 * 1 ≤ ([.own 7 0 c7q19.length] : List SV).length) (by first | exact (Nat.le_of_ble_eq_true rfl : 0 + 1 * 1 ≤ ([.own 7 0 c7q19.length] : List SV).length) | decide) 23 (by kernel_rfl) (by decide) k6684 1 24 [23]) (ghost_A 25 dLListInt (c1 ++ [(c7q19 : (List Int))]) 24 23 [(some 2)] [(some (Nm.t 7))] ((c1.length : Nat) : Int) (flD dLListInt [25] (c1 ++ [(c7q19 : (List Int))])) 0 (some 2) (some 7) (by kernel_rfl) (flN_done dLListInt [25] ((c1.length : Nat) : Int) (c1 ++ [(c7q19 : (List Int))]) rfl) (by kernel_rfl) ⟨_, (by kernel_rfl), off_app _ _⟩ (S_app (fun a => getH _ (.t 7) = chD dLListInt 0 a) rfl)) (by kernel_rfl) ?_
                        refine rs 4 [] [] (by kernel_rfl) allP_nil ?_
                        refine rf [(0, .ptr 0 0)] [(0, .row 59 [.own 24 0 (c1 ++ [(c7q19 : (List Int))]).length, .own 3 0 (c3.set x.A.toNat ((c1.length : Nat) : Int)).length, .own 4 0 c4.length, .own 5 0 c5.length]), (1, .dead), ((.s 2 0), .dead), (3, .row 3 (fl (c3.set x.A.toNat ((c1.length : Nat) : Int)))), (4, .row 4 (fl c4)), (5, .row 3 (fl c5)), (6, .row 47 (Enc.cells x)), (7, .dead), (23, .row 23 [.own 7 0 c7q19.length]), (24, .row 23 (flD dLListInt [25] (c1 ++ [(c7q19 : (List Int))]))), ((.s 25 0), .fam (famD dLListInt 0 (c1 ++ [(c7q19 : (List Int))])))] 26 (by kernel_rfl) ?_
                        refine wk_id ?_
                        refine chk_sx h (fun g6689 h => ?_)
                        refine reg_f ?_
                        have k6688 : (c4 ++ ([true] : List Bool)).length * 1 ≤ 140737488355328 := by first | simpa only [Bool.and_eq_true, decide_eq_true_eq, bne_iff_ne, ne_eq] using g6689 | (simp at g6689 ⊢; omega)
                        refine rs 10 [none, none, none, none, none, none, some ⟨.own 27 0 (c4 ++ ([true] : List Bool)).length, [(27, .row 4 (fl (c4 ++ ([true] : List Bool)))), (4, .dead)], 28, [4, 26]⟩] _ (by kernel_rfl) (allP_cons (ob_app (P := Try.prog) c4 ([true] : List Bool) 1 1 rfl (appCells (fl ([true] : List Bool)) 0 (([true] : List Bool).length * 1)) ([true] : List Bool).length (app_own ([true] : List Bool) 1 rfl) rfl (0 + ([true] : List Bool).length * 1 ≤ (fl ([true] : List Bool)).length) (app_own_le ([true] : List Bool) 1 rfl) 4 (by kernel_rfl) (by decide) k6688 4 27 [26]) allP_nil) ?_
                        refine rf [] [(0, .row 59 [.own 24 0 (c1 ++ [(c7q19 : (List Int))]).length, .own 3 0 (c3.set x.A.toNat ((c1.length : Nat) : Int)).length, .own 27 0 (c4 ++ ([true] : List Bool)).length, .own 5 0 c5.length]), (1, .dead), ((.s 2 0), .dead), (3, .row 3 (fl (c3.set x.A.toNat ((c1.length : Nat) : Int)))), (4, .dead), (5, .row 3 (fl c5)), (6, .row 47 (Enc.cells x)), (7, .dead), (23, .row 23 [.own 7 0 c7q19.length]), (24, .row 23 (flD dLListInt [25] (c1 ++ [(c7q19 : (List Int))]))), ((.s 25 0), .fam (famD dLListInt 0 (c1 ++ [(c7q19 : (List Int))]))), (26, .row 4 (fl ([true] : List Bool))), (27, .row 4 (fl (c4 ++ ([true] : List Bool))))] 28 (by kernel_rfl) ?_
                        exact hK6507 ((c1 ++ [(c7q19 : (List Int))]), (c4 ++ ([true] : List Bool)), c5, (c3.set x.A.toNat ((c1.length : Nat) : Int))) _ _ _ h (leSt_m [(0, 0), (3, 3), (6, 24), (7, 27), (8, 5), ((.s 9 0), (.s 25 0))] [] (by simp only [push_cast, leL_flD, renL_flD, seval]) (by simp only [push_cast, leL_flD, renL_flD, seval]) rfl rfl rfl)
              · refine seq_np ?_
                refine reg_f ?_
                refine rs 2 [] [] (by kernel_rfl) allP_nil ?_
                refine rf [(0, .ptr 0 0), (4, .ptr 6 0), (254, bS (x.Op == 5))] [(0, .row 59 [.own 1 0 c1.length, .own 3 0 c3.length, .own 4 0 c4.length, .own 5 0 c5.length]), (1, .row 23 (flD dLListInt [2] c1)), ((.s 2 0), .fam (famD dLListInt 0 c1)), (3, .row 3 (fl c3)), (4, .row 4 (fl c4)), (5, .row 3 (fl c5)), (6, .row 47 (Enc.cells x))] 7 (by kernel_rfl) ?_
                refine wk_id ?_
                refine cond_sx h (by kernel_rfl) (fun g6710 h => ?_) (fun g6710 h => ?_)
                · refine seq_np ?_
                  refine seq_cut (A := Unit) (fun _ => ([(0, .ptr 0 0), (268, bS ((x.A != 0) || ((x.B != 0) || (x.C != 0))))], [(0, .row 59 [.own 1 0 c1.length, .own 3 0 c3.length, .own 4 0 c4.length, .own 5 0 c5.length]), (1, .row 23 (flD dLListInt [2] c1)), ((.s 2 0), .fam (famD dLListInt 0 c1)), (3, .row 3 (fl c3)), (4, .row 4 (fl c4)), (5, .row 3 (fl c5)), (6, .row 47 (Enc.cells x))], 7)) (fun _ => True) (fun K6698 hK6698 => ?_) (fun _ _ => ?_)
                  · refine reg_f ?_
                    refine rs 4 [] [] (by kernel_rfl) allP_nil ?_
                    refine run_split 259 (x.A != 0) (.inl (by kernel_rfl)) (fun g6699 => ?_) (fun g6699 => ?_)
                    · refine rs 9 [] [] (by kernel_rfl) allP_nil ?_
                      refine rf [(0, .ptr 0 0), (268, bS true)] [(0, .row 59 [.own 1 0 c1.length, .own 3 0 c3.length, .own 4 0 c4.length, .own 5 0 c5.length]), (1, .row 23 (flD dLListInt [2] c1)), ((.s 2 0), .fam (famD dLListInt 0 c1)), (3, .row 3 (fl c3)), (4, .row 4 (fl c4)), (5, .row 3 (fl c5)), (6, .row 47 (Enc.cells x))] 7 (by kernel_rfl) ?_
                      exact hK6698 () _ _ _ trivial (leSt_m [(0, 0), (1, 1), ((.s 2 0), (.s 2 0)), (3, 3), (4, 4), (5, 5), (6, 6)] [] (by (try simp only [g6699]) <;> simp only [push_cast, leL_flD, renL_flD, seval]) (by (try simp only [g6699]) <;> simp only [push_cast, leL_flD, renL_flD, seval]) rfl rfl rfl)
                    · refine rs 5 [] [] (by kernel_rfl) allP_nil ?_
                      refine run_split 264 (x.B != 0) (.inl (by kernel_rfl)) (fun g6700 => ?_) (fun g6700 => ?_)
                      · refine rs 4 [] [] (by kernel_rfl) allP_nil ?_
                        refine rf [(0, .ptr 0 0), (268, bS true)] [(0, .row 59 [.own 1 0 c1.length, .own 3 0 c3.length, .own 4 0 c4.length, .own 5 0 c5.length]), (1, .row 23 (flD dLListInt [2] c1)), ((.s 2 0), .fam (famD dLListInt 0 c1)), (3, .row 3 (fl c3)), (4, .row 4 (fl c4)), (5, .row 3 (fl c5)), (6, .row 47 (Enc.cells x))] 7 (by kernel_rfl) ?_
                        exact hK6698 () _ _ _ trivial (leSt_m [(0, 0), (1, 1), ((.s 2 0), (.s 2 0)), (3, 3), (4, 4), (5, 5), (6, 6)] [] (by first | ((try simp only [g6699, g6700]) <;> simp only [push_cast, leL_flD, renL_flD, seval]; done) | ((try simp only [g6699]); (try simp only [g6700]); simp only [push_cast, leL_flD, renL_flD, seval]; done) | (exfalso; clear h; simp_all; done)) (by first | ((try simp only [g6699, g6700]) <;> simp only [push_cast, leL_flD, renL_flD, seval]; done) | ((try simp only [g6699]); (try simp only [g6700]); simp only [push_cast, leL_flD, renL_flD, seval]; done) | (exfalso; clear h; simp_all; done)) rfl rfl rfl)
                      · refine rs 4 [] [] (by kernel_rfl) allP_nil ?_
                        refine rf [(0, .ptr 0 0), (268, bS (x.C != 0))] [(0, .row 59 [.own 1 0 c1.length, .own 3 0 c3.length, .own 4 0 c4.length, .own 5 0 c5.length]), (1, .row 23 (flD dLListInt [2] c1)), ((.s 2 0), .fam (famD dLListInt 0 c1)), (3, .row 3 (fl c3)), (4, .row 4 (fl c4)), (5, .row 3 (fl c5)), (6, .row 47 (Enc.cells x))] 7 (by kernel_rfl) ?_
                        exact hK6698 () _ _ _ trivial (leSt_m [(0, 0), (1, 1), ((.s 2 0), (.s 2 0)), (3, 3), (4, 4), (5, 5), (6, 6)] [] (by first | ((try simp only [g6699, g6700]) <;> simp only [push_cast, leL_flD, renL_flD, seval]; done) | ((try simp only [g6699]); (try simp only [g6700]); simp only [push_cast, leL_flD, renL_flD, seval]; done) | (exfalso; clear h; simp_all; done)) (by first | ((try simp only [g6699, g6700]) <;> simp only [push_cast, leL_flD, renL_flD, seval]; done) | ((try simp only [g6699]); (try simp only [g6700]); simp only [push_cast, leL_flD, renL_flD, seval]; done) | (exfalso; clear h; simp_all; done)) rfl rfl rfl)
                  · dsimp only
                    refine cond_sx h (by kernel_rfl) (fun g6709 h => ?_) (fun g6709 h => ?_)
                    · refine seq_np ?_
                      refine reg_f ?_
                      refine rs 1 [] [] (by kernel_rfl) allP_nil ?_
                      refine rf [(6, iS 3)] [(0, .row 59 [.own 1 0 c1.length, .own 3 0 c3.length, .own 4 0 c4.length, .own 5 0 c5.length]), (1, .row 23 (flD dLListInt [2] c1)), ((.s 2 0), .fam (famD dLListInt 0 c1)), (3, .row 3 (fl c3)), (4, .row 4 (fl c4)), (5, .row 3 (fl c5)), (6, .row 47 (Enc.cells x))] 7 (by kernel_rfl) ?_
                      refine wk_id ?_
                      obtain rfl := Option.some.inj h
                      refine ret_at (iS 3) (by kernel_rfl) ?_
                      exact ret_e [(0, 0), (3, 3), (6, 1), (7, 4), (8, 5), ((.s 9 0), (.s 2 0))] [] (by simp only [push_cast, leL_flD, renL_flD, seval]) (by simp only [push_cast, leL_flD, renL_flD, seval]) rfl rfl rfl
                    · refine wk_id ?_
                      refine reg_f ?_
                      refine rs 1 [] [] (by kernel_rfl) allP_nil ?_
                      obtain ⟨r6705, hr6705, h⟩ := bind_sx h
                      refine call_x (taskmillref_Marking_step_1_spec c1 c3 c4 c5 r6705 hr6705) (args := [.ptr 0 0]) (dst := (some 270)) (by kernel_rfl) [(0, .row 59 [.own 1 0 c1.length, .own 3 0 c3.length, .own 4 0 c4.length, .own 5 0 c5.length]), (1, .row 23 (flD dLListInt [2] c1)), ((.s 2 0), .fam (famD dLListInt 0 c1)), (3, .row 3 (fl c3)), (4, .row 4 (fl c4)), (5, .row 3 (fl c5)), (6, .row 47 (Enc.cells x))] 7 (by kernel_rfl) [(0, 0), (1, 1), ((.s 2 0), (.s 2 0)), (3, 3), (4, 4), (5, 5)] [] (.tup []) [(0, .row 59 [.own 1 0 r6705.2.1.length, .own 3 0 r6705.2.2.1.length, .own 4 0 r6705.2.2.2.length, .own 13 0 r6705.1.length]), (1, .row 23 (flD dLListInt [2] r6705.2.1)), ((.s 2 0), .fam (famD dLListInt 0 r6705.2.1)), (3, .row 3 (fl r6705.2.2.1)), (4, .row 4 (fl r6705.2.2.2)), (5, .dead), (13, .row 3 (fl r6705.1)), (0, .dead), (1, .dead), ((.s 2 0), .dead), (3, .dead), (4, .dead), (5, .dead)] (by simp only [push_cast, leL_flD, renL_flD, seval]) (by simp only [push_cast, leL_flD, renL_flD, seval]) (by kernel_rfl) (.inl rfl) (by first | (simp only [push_cast, leL_flD, renL_flD, seval]; done) | (simp only [push_cast, leL_flD, renL_flD, seval]; kernel_rfl) | kernel_rfl) (by first | (simp only [push_cast, leL_flD, renL_flD, seval]; done) | (simp only [push_cast, leL_flD, renL_flD, seval]; kernel_rfl) | kernel_rfl) ?_ (hfam := (And.intro trivial (And.intro trivial (And.intro (fun _ => Or.inl rfl) (And.intro trivial (And.intro trivial (And.intro trivial trivial)))))))
                      refine rf [] [(0, .row 59 [.own 1 0 r6705.2.1.length, .own 3 0 r6705.2.2.1.length, .own 4 0 r6705.2.2.2.length, .own 13 0 r6705.1.length]), (1, .row 23 (flD dLListInt [2] r6705.2.1)), ((.s 2 0), .fam (famD dLListInt 0 r6705.2.1)), (3, .row 3 (fl r6705.2.2.1)), (4, .row 4 (fl r6705.2.2.2)), (5, .dead), (6, .row 47 (Enc.cells x)), (13, .row 3 (fl r6705.1))] 14 (by kernel_rfl) ?_
                      exact hK6507 (r6705.2.1, r6705.2.2.2, r6705.1, r6705.2.2.1) _ _ _ h (leSt_m [(0, 0), (3, 3), (6, 1), (7, 4), (8, 13), ((.s 9 0), (.s 2 0))] [] (by simp only [push_cast, leL_flD, renL_flD, seval]) (by simp only [push_cast, leL_flD, renL_flD, seval]) rfl rfl rfl)
                · refine seq_np ?_
                  refine reg_f ?_
                  refine rs 1 [] [] (by kernel_rfl) allP_nil ?_
                  refine rf [(6, iS 4)] [(0, .row 59 [.own 1 0 c1.length, .own 3 0 c3.length, .own 4 0 c4.length, .own 5 0 c5.length]), (1, .row 23 (flD dLListInt [2] c1)), ((.s 2 0), .fam (famD dLListInt 0 c1)), (3, .row 3 (fl c3)), (4, .row 4 (fl c4)), (5, .row 3 (fl c5)), (6, .row 47 (Enc.cells x))] 7 (by kernel_rfl) ?_
                  refine wk_id ?_
                  obtain rfl := Option.some.inj h
                  refine ret_at (iS 4) (by kernel_rfl) ?_
                  exact ret_e [(0, 0), (3, 3), (6, 1), (7, 4), (8, 5), ((.s 9 0), (.s 2 0))] [] (by simp only [push_cast, leL_flD, renL_flD, seval]) (by simp only [push_cast, leL_flD, renL_flD, seval]) rfl rfl rfl
      · rintro ⟨c6q3, c7q12, c8q3, c3q7⟩ h
        try dsimp only at h ⊢
        unfold taskmillref_Marking_act_1_j1 at h
        refine wk_id ?_
        refine seq_np ?_
        refine reg_f ?_
        refine rs 1 [] [] (by kernel_rfl) allP_nil ?_
        refine rf [(6, iS 0)] [(0, .row 59 [.own 6 0 c6q3.length, .own 3 0 c3q7.length, .own 7 0 c7q12.length, .own 8 0 c8q3.length]), (1, .dead), ((.s 2 0), .dead), (3, .row 3 (fl c3q7)), (4, .dead), (5, .dead), (6, .row 23 (flD dLListInt [9] c6q3)), (7, .row 4 (fl c7q12)), (8, .row 3 (fl c8q3)), ((.s 9 0), .fam (famD dLListInt 0 c6q3))] 10 (by kernel_rfl) ?_
        refine wk_id ?_
        obtain rfl := Option.some.inj h
        refine ret_at (iS 0) (by kernel_rfl) ?_
        exact ret_e [(0, 0), (3, 3), (6, 6), (7, 7), (8, 8), ((.s 9 0), (.s 9 0))] [] (by simp only [push_cast, leL_flD, renL_flD, seval]) (by simp only [push_cast, leL_flD, renL_flD, seval]) rfl rfl rfl

set_option maxRecDepth 100000 in
set_option maxHeartbeats 200000000 in
theorem taskmillref_Cycled_spec (xh : GHeap) (barrier : Int) (acts : (List GAct)) (r : Fault × (List (List Int)) × (List Int) × (List Int)) (h : taskmillref_Cycled xh barrier acts = some r) : SpecW Try.prog 21 [.agg (Enc.cells xh), iS barrier, .sl acts.length (fl acts)] [] 0 (fun x h n => x = .tup [.agg [.own 0 0 r.2.1.length, .own 1 0 r.2.2.1.length], .own 2 0 r.2.2.2.length, .agg (Enc.cells r.1)] ∧ h = [(0, .row 23 (flD dLListInt [3] r.2.1)), (1, .row 3 (fl r.2.2.1)), (2, .row 3 (fl r.2.2.2)), ((.s 3 0), .fam (famD dLListInt 0 r.2.1))] ∧ n = 4) := by
  unfold taskmillref_Cycled at h
  refine spec_of (draw_ok _) Try.func21 rfl (by decide) rfl (by kernel_rfl) ?_
  refine seq_np ?_
  refine reg_f ?_
  refine rs 4 [] [] (by kernel_rfl) allP_nil ?_
  refine rf [(1, iS barrier), (2, .sl acts.length (fl acts)), (3, .ptr 0 0), (6, .ptr 1 0), (8, .ptr 2 0)] [(0, .row 25 (Enc.cells xh)), (1, .row 25 [.v (.slice none 0 0), .v (.slice none 0 0)]), (2, .row 30 [iS 0, iS 0])] 3 (by kernel_rfl) ?_
  refine wk_id ?_
  refine chk_sx h (fun g6774 h => ?_)
  refine chk_sx h (fun g6776 h => ?_)
  refine seq_np ?_
  refine reg_t ?_
  have k6773 : xh.Roots.length * 8 ≤ 140737488355328 := by first | simpa only [Bool.and_eq_true, decide_eq_true_eq, bne_iff_ne, ne_eq] using g6774 | (simp at g6774 ⊢; omega)
  have k6775 : 0 ≤ ((xh.Objects.length : Nat) : Int) ∧ ((xh.Objects.length : Nat) : Int) ≤ 4611686018427387904 ∧ (1 : Int) * ((xh.Objects.length : Nat) : Int) ≤ 140737488355328 := by first | simpa only [Bool.and_eq_true, decide_eq_true_eq, bne_iff_ne, ne_eq] using g6776 | (simp at g6776 ⊢; omega)
  refine rs 11 [none, none, some ⟨.own 5 0 xh.Roots.length, [(5, .row 3 (fl xh.Roots))], 6, []⟩, none, none, none, none, some ⟨.own 11 0 (List.replicate (((xh.Objects.length : Nat) : Int)).toNat (default : Bool)).length, [(11, .row 4 (fl (List.replicate (((xh.Objects.length : Nat) : Int)).toNat (default : Bool))))], 12, []⟩] _ (by kernel_rfl) (allP_cons (ob_mk (P := Try.prog) (α := Bool) ((xh.Objects.length : Nat) : Int) 4 1 (by kernel_rfl) [bS false] rfl 1 rfl (by decide) k6775 11) (allP_cons (ob_app0 (P := Try.prog) xh.Roots 1 8 rfl (fl xh.Roots) xh.Roots.length rfl rfl ((fl xh.Roots).length = xh.Roots.length * 1) (app_sl xh.Roots 1 rfl) 3 (by kernel_rfl) (by decide) k6773 5 []) allP_nil)) ?_
  refine rt [(1, iS barrier), (2, .sl acts.length (fl acts)), (3, .ptr 0 0), (6, .ptr 1 0), (8, .ptr 2 0), (9, .ptr 14 0)] [(0, .row 25 (Enc.cells xh)), (1, .row 25 [.v (.slice none 0 0), .v (.slice none 0 0)]), (2, .row 30 [iS 0, iS 0]), (5, .row 3 (fl xh.Roots)), (11, .row 4 (fl (List.replicate (((xh.Objects.length : Nat) : Int)).toNat (default : Bool)))), (14, .row 59 [.v (.slice none 0 0), .own 5 0 xh.Roots.length, .own 11 0 (List.replicate (((xh.Objects.length : Nat) : Int)).toNat (default : Bool)).length, .v (.slice none 0 0)])] 17 follows (by kernel_rfl) ?_
  refine wk_id ?_
  refine seq_np ?_
  refine seq_np ?_
  refine reg_f ?_
  refine rs 1 [] [] (by kernel_rfl) allP_nil ?_
  refine rf [(1, iS barrier), (2, .sl acts.length (fl acts)), (3, .ptr 0 0), (6, .ptr 1 0), (8, .ptr 2 0), (9, .ptr 14 0), (10, iS 0)] [(0, .row 25 (Enc.cells xh)), (1, .row 25 [.v (.slice none 0 0), .v (.slice none 0 0)]), (2, .row 30 [iS 0, iS 0]), (5, .row 3 (fl xh.Roots)), (11, .row 4 (fl (List.replicate (((xh.Objects.length : Nat) : Int)).toNat (default : Bool)))), (14, .row 59 [.v (.slice none 0 0), .own 5 0 xh.Roots.length, .own 11 0 (List.replicate (((xh.Objects.length : Nat) : Int)).toNat (default : Bool)).length, .v (.slice none 0 0)])] 17 (by kernel_rfl) ?_
  refine wk_id ?_
  refine block_np ?_
  refine loop_sx (S := Int × (List (List Int))) (fun a => ([(1, iS barrier), (2, .sl acts.length (fl acts)), (3, .ptr 0 0), (6, .ptr 1 0), (8, .ptr 2 0), (9, .ptr 3 0), (10, iS a.1)], [(0, .row 25 (Enc.cells xh)), (1, .row 25 [.v (.slice none 0 0), .v (.slice none 0 0)]), (2, .row 30 [iS 0, iS 0]), (3, .row 59 [.own 4 0 a.2.length, .own 5 0 xh.Roots.length, .own 6 0 (List.replicate (((xh.Objects.length : Nat) : Int)).toNat (default : Bool)).length, .v (.slice none 0 0)]), (4, .row 23 (flD dLListInt [7] a.2)), (5, .row 3 (fl xh.Roots)), (6, .row 4 (fl (List.replicate (((xh.Objects.length : Nat) : Int)).toNat (default : Bool)))), ((.s 7 0), .fam (famD dLListInt 0 a.2))], 8)) h (leSt_m [(0, 0), (1, 1), (2, 2), (3, 14), (5, 5), (6, 11)] [] (by simp only [push_cast, leL_flD, renL_flD, seval]) (by simp only [push_cast, leL_flD, renL_flD, seval]) rfl rfl rfl) ?_
  rintro ⟨i9, c4q15⟩ o5 R5 h hr5 hn5 hx5 ht5
  try dsimp only at h hn5 ⊢
  unfold taskmillref_Cycled_l4 at h
  try dsimp only at h
  refine seq_np ?_
  refine seq_np ?_
  refine reg_f ?_
  refine rs 5 [] [] (by kernel_rfl) allP_nil ?_
  refine rf [(1, iS barrier), (2, .sl acts.length (fl acts)), (3, .ptr 0 0), (6, .ptr 1 0), (8, .ptr 2 0), (9, .ptr 3 0), (10, iS i9), (27, bS (decide (i9 < ((xh.Objects.length : Nat) : Int))))] [(0, .row 25 (Enc.cells xh)), (1, .row 25 [.v (.slice none 0 0), .v (.slice none 0 0)]), (2, .row 30 [iS 0, iS 0]), (3, .row 59 [.own 4 0 c4q15.length, .own 5 0 xh.Roots.length, .own 6 0 (List.replicate (((xh.Objects.length : Nat) : Int)).toNat (default : Bool)).length, .v (.slice none 0 0)]), (4, .row 23 (flD dLListInt [7] c4q15)), (5, .row 3 (fl xh.Roots)), (6, .row 4 (fl (List.replicate (((xh.Objects.length : Nat) : Int)).toNat (default : Bool)))), ((.s 7 0), .fam (famD dLListInt 0 c4q15))] 8 (by kernel_rfl) ?_
  refine wk_id ?_
  refine cond_sx h (by kernel_rfl) (fun g7051 h => ?_) (fun g7051 h => ?_)
  · refine wk_id ?_
    refine seq_np ?_
    refine block_np ?_
    refine chk_sx h (fun g6856 h => ?_)
    refine chk_sx h (fun g6858 h => ?_)
    refine chk_sx h (fun g6860 h => ?_)
    refine reg_t ?_
    have k6855 : 0 ≤ i9 ∧ i9 < ((xh.Objects.length : Nat) : Int) := by first | simpa only [Bool.and_eq_true, decide_eq_true_eq, bne_iff_ne, ne_eq] using g6856 | (simp at g6856 ⊢; omega)
    have k6857 : (ix xh.Objects i9).length * 8 ≤ 140737488355328 := by first | simpa only [Bool.and_eq_true, decide_eq_true_eq, bne_iff_ne, ne_eq] using g6858 | (simp at g6858 ⊢; omega)
    have k6859 : (c4q15 ++ [((ix xh.Objects i9) : (List Int))]).length * 24 ≤ 140737488355328 := by first | simpa only [Bool.and_eq_true, decide_eq_true_eq, bne_iff_ne, ne_eq] using g6860 | (simp at g6860 ⊢; omega)
    refine rs 13 [none, none, none, none, none, none, none, none, none, some ⟨.iptr (fl xh.Objects) ((i9).toNat * 1), [], 17, []⟩, some ⟨.sl (ix xh.Objects i9).length (fl (ix xh.Objects i9)), [], 18, []⟩, some ⟨.own 19 0 (ix xh.Objects i9).length, [(19, .row 3 (fl (ix xh.Objects i9)))], 20, []⟩] _ (by kernel_rfl) (allP_cons (ob_app0 (P := Try.prog) (ix xh.Objects i9) 1 8 rfl (fl (ix xh.Objects i9)) (ix xh.Objects i9).length rfl rfl ((fl (ix xh.Objects i9)).length = (ix xh.Objects i9).length * 1) (app_sl (ix xh.Objects i9) 1 rfl) 3 (by kernel_rfl) (by decide) k6857 19 []) (allP_cons (ob_ld xh.Objects i9 1 0 ((i9).toNat * 1) k6855 rfl (by decide) (by first | rfl | omega) (dflS Try.prog 23) (.sl (ix xh.Objects i9).length (fl (ix xh.Objects i9))) rfl 18 []) (allP_cons (ob_ix_l xh.Objects 1 17 i9 k6855) allP_nil))) ?_
    refine run_opG (some 43) _ ⟨.own 23 0 (c4q15 ++ [((ix xh.Objects i9) : (List Int))]).length, [(23, .row 23 (flN dLListInt (nA [(some 7)] [(some (Nm.t 19))] ((c4q15.length : Nat) : Int)) 0 (c4q15 ++ [((ix xh.Objects i9) : (List Int))]))), (4, .dead)], 24, [4, 21]⟩ [((.s 24 0), .fam (famD dLListInt 0 (c4q15 ++ [((ix xh.Objects i9) : (List Int))]))), (23, .row 23 (flD dLListInt [24] (c4q15 ++ [((ix xh.Objects i9) : (List Int))]))), ((.s 7 0), .dead), (19, .dead)] 1 [23, (.s 7 0), 19] [(.s 7 0), 19] (by kernel_rfl) (ob_appN (P := Try.prog) dLListInt [7] [(some (Nm.t 19))] c4q15 ((ix xh.Objects i9) : (List Int)) 1 24 rfl (appCells ([.own 19 0 (ix xh.Objects i9).length] : List SV) 0 (1 * 1)) rfl rfl rfl (0 + 1 * 1 ≤ ([.own 19 0 (ix xh.Objects i9).length] : List SV).length) (by first | exact (Nat.le_of_ble_eq_true rfl : 0 + 1 * 1 ≤ ([.own 19 0 (ix xh.Objects i9).length] : List SV).length) | decide) 23 (by kernel_rfl) (by decide) k6859 4 23 [21]) (ghost_A 24 dLListInt (c4q15 ++ [((ix xh.Objects i9) : (List Int))]) 23 23 [(some 7)] [(some (Nm.t 19))] ((c4q15.length : Nat) : Int) (flD dLListInt [24] (c4q15 ++ [((ix xh.Objects i9) : (List Int))])) 0 (some 7) (some 19) (by kernel_rfl) (flN_done dLListInt [24] ((c4q15.length : Nat) : Int) (c4q15 ++ [((ix xh.Objects i9) : (List Int))]) rfl) (by kernel_rfl) ⟨_, (by kernel_rfl), off_app _ _⟩ (S_app (fun a => getH _ (.t 19) = chD dLListInt 0 a) rfl)) (by kernel_rfl) ?_
    refine rs 4 [] [] (by kernel_rfl) allP_nil ?_
    refine rt [(1, iS barrier), (2, .sl acts.length (fl acts)), (3, .ptr 0 0), (6, .ptr 1 0), (8, .ptr 2 0), (9, .ptr 3 0), (10, iS i9)] [(0, .row 25 (Enc.cells xh)), (1, .row 25 [.v (.slice none 0 0), .v (.slice none 0 0)]), (2, .row 30 [iS 0, iS 0]), (3, .row 59 [.own 23 0 (c4q15 ++ [((ix xh.Objects i9) : (List Int))]).length, .own 5 0 xh.Roots.length, .own 6 0 (List.replicate (((xh.Objects.length : Nat) : Int)).toNat (default : Bool)).length, .v (.slice none 0 0)]), (4, .dead), (5, .row 3 (fl xh.Roots)), (6, .row 4 (fl (List.replicate (((xh.Objects.length : Nat) : Int)).toNat (default : Bool)))), ((.s 7 0), .dead), (19, .dead), (21, .row 23 [.own 19 0 (ix xh.Objects i9).length]), (23, .row 23 (flD dLListInt [24] (c4q15 ++ [((ix xh.Objects i9) : (List Int))]))), ((.s 24 0), .fam (famD dLListInt 0 (c4q15 ++ [((ix xh.Objects i9) : (List Int))])))] 30 follows (by kernel_rfl) ?_
    refine wk_id ?_
    refine wk_id ?_
    refine reg_f ?_
    refine rs 3 [] [] (by kernel_rfl) allP_nil ?_
    refine rf [(1, iS barrier), (2, .sl acts.length (fl acts)), (3, .ptr 0 0), (6, .ptr 1 0), (8, .ptr 2 0), (9, .ptr 3 0), (10, iS (IntKind.i64.wrap (i9 + 1)))] [(0, .row 25 (Enc.cells xh)), (1, .row 25 [.v (.slice none 0 0), .v (.slice none 0 0)]), (2, .row 30 [iS 0, iS 0]), (3, .row 59 [.own 23 0 (c4q15 ++ [((ix xh.Objects i9) : (List Int))]).length, .own 5 0 xh.Roots.length, .own 6 0 (List.replicate (((xh.Objects.length : Nat) : Int)).toNat (default : Bool)).length, .v (.slice none 0 0)]), (4, .dead), (5, .row 3 (fl xh.Roots)), (6, .row 4 (fl (List.replicate (((xh.Objects.length : Nat) : Int)).toNat (default : Bool)))), ((.s 7 0), .dead), (19, .dead), (21, .row 23 [.own 19 0 (ix xh.Objects i9).length]), (23, .row 23 (flD dLListInt [24] (c4q15 ++ [((ix xh.Objects i9) : (List Int))]))), ((.s 24 0), .fam (famD dLListInt 0 (c4q15 ++ [((ix xh.Objects i9) : (List Int))])))] 30 (by kernel_rfl) ?_
    exact hn5 ((IntKind.i64.wrap (i9 + 1)), (c4q15 ++ [((ix xh.Objects i9) : (List Int))])) _ _ _ (Option.some.inj h).symm (leSt_m [(0, 0), (1, 1), (2, 2), (3, 3), (4, 23), (5, 5), (6, 6), ((.s 7 0), (.s 24 0))] [] (by simp only [push_cast, leL_flD, renL_flD, seval]) (by simp only [push_cast, leL_flD, renL_flD, seval]) rfl rfl rfl)
  · change R5 (.exit 0) _ _ _
    refine ex_cast hx5 (id := 0) ?_
    obtain ⟨r0, h, e0⟩ := map_sx h
    have e1 := hr5 r0 e0.symm
    subst r0
    refine wk_id ?_
    refine wk_id ?_
    refine seq_np ?_
    refine reg_f ?_
    refine rs 1 [] [] (by kernel_rfl) allP_nil ?_
    obtain ⟨r6865, hr6865, h⟩ := bind_sx h
    refine call_x (taskmillref_Marking_roots_1_spec [] c4q15 xh.Roots (List.replicate (((xh.Objects.length : Nat) : Int)).toNat (default : Bool)) r6865 hr6865) (args := [.ptr 3 0]) (dst := (some 48)) (by kernel_rfl) [(0, .row 25 (Enc.cells xh)), (1, .row 25 [.v (.slice none 0 0), .v (.slice none 0 0)]), (2, .row 30 [iS 0, iS 0]), (3, .row 59 [.own 4 0 c4q15.length, .own 5 0 xh.Roots.length, .own 6 0 (List.replicate (((xh.Objects.length : Nat) : Int)).toNat (default : Bool)).length, .v (.slice none 0 0)]), (4, .row 23 (flD dLListInt [7] c4q15)), (5, .row 3 (fl xh.Roots)), (6, .row 4 (fl (List.replicate (((xh.Objects.length : Nat) : Int)).toNat (default : Bool)))), ((.s 7 0), .fam (famD dLListInt 0 c4q15))] 8 (by kernel_rfl) [(0, 3), (1, 4), ((.s 2 0), (.s 7 0)), (3, 5), (4, 6)] [] (.tup []) [(3, .row 59 [.own 4 0 r6865.2.1.length, .own 5 0 r6865.2.2.1.length, .own 6 0 r6865.2.2.2.length, .own 14 0 r6865.1.length]), (4, .row 23 (flD dLListInt [7] r6865.2.1)), ((.s 7 0), .fam (famD dLListInt 0 r6865.2.1)), (5, .row 3 (fl r6865.2.2.1)), (6, .row 4 (fl r6865.2.2.2)), (13, .dead), (14, .row 3 (fl r6865.1)), (3, .dead), (4, .dead), ((.s 7 0), .dead), (5, .dead), (6, .dead)] (by simp only [push_cast, leL_flD, renL_flD, seval]) (by simp only [push_cast, leL_flD, renL_flD, seval]) (by kernel_rfl) (.inl rfl) (by first | (simp only [push_cast, leL_flD, renL_flD, seval]; done) | (simp only [push_cast, leL_flD, renL_flD, seval]; kernel_rfl) | kernel_rfl) (by first | (simp only [push_cast, leL_flD, renL_flD, seval]; done) | (simp only [push_cast, leL_flD, renL_flD, seval]; kernel_rfl) | kernel_rfl) ?_ (hfam := (And.intro trivial (And.intro trivial (And.intro (fun _ => Or.inl rfl) (And.intro trivial (And.intro trivial trivial))))))
    refine rf [(1, iS barrier), (2, .sl acts.length (fl acts)), (6, .ptr 1 0), (8, .ptr 2 0), (9, .ptr 3 0)] [(0, .row 25 (Enc.cells xh)), (1, .row 25 [.v (.slice none 0 0), .v (.slice none 0 0)]), (2, .row 30 [iS 0, iS 0]), (3, .row 59 [.own 4 0 r6865.2.1.length, .own 5 0 r6865.2.2.1.length, .own 6 0 r6865.2.2.2.length, .own 14 0 r6865.1.length]), (4, .row 23 (flD dLListInt [7] r6865.2.1)), (5, .row 3 (fl r6865.2.2.1)), (6, .row 4 (fl r6865.2.2.2)), ((.s 7 0), .fam (famD dLListInt 0 r6865.2.1)), (13, .dead), (14, .row 3 (fl r6865.1))] 15 (by kernel_rfl) ?_
    refine wk_id ?_
    refine seq_np ?_
    refine seq_np ?_
    refine reg_f ?_
    refine rs 1 [] [] (by kernel_rfl) allP_nil ?_
    refine rf [(1, iS barrier), (2, .sl acts.length (fl acts)), (6, .ptr 1 0), (8, .ptr 2 0), (9, .ptr 3 0), (11, iS 0)] [(0, .row 25 (Enc.cells xh)), (1, .row 25 [.v (.slice none 0 0), .v (.slice none 0 0)]), (2, .row 30 [iS 0, iS 0]), (3, .row 59 [.own 4 0 r6865.2.1.length, .own 5 0 r6865.2.2.1.length, .own 6 0 r6865.2.2.2.length, .own 14 0 r6865.1.length]), (4, .row 23 (flD dLListInt [7] r6865.2.1)), (5, .row 3 (fl r6865.2.2.1)), (6, .row 4 (fl r6865.2.2.2)), ((.s 7 0), .fam (famD dLListInt 0 r6865.2.1)), (13, .dead), (14, .row 3 (fl r6865.1))] 15 (by kernel_rfl) ?_
    refine wk_id ?_
    refine block_np ?_
    refine loop_sx (S := Int × (List (List Int)) × (List Int) × (List Bool) × (List Int)) (fun a => ([(1, iS barrier), (2, .sl acts.length (fl acts)), (6, .ptr 0 0), (8, .ptr 1 0), (9, .ptr 2 0), (11, iS a.1)], [(0, .row 25 [.v (.slice none 0 0), .v (.slice none 0 0)]), (1, .row 30 [iS 0, iS 0]), (2, .row 59 [.own 3 0 a.2.1.length, .own 4 0 a.2.2.1.length, .own 5 0 a.2.2.2.1.length, .own 6 0 a.2.2.2.2.length]), (3, .row 23 (flD dLListInt [7] a.2.1)), (4, .row 3 (fl a.2.2.1)), (5, .row 4 (fl a.2.2.2.1)), (6, .row 3 (fl a.2.2.2.2)), ((.s 7 0), .fam (famD dLListInt 0 a.2.1))], 8)) h (leSt_m [(0, 1), (1, 2), (2, 3), (3, 4), (4, 5), (5, 6), (6, 14), ((.s 7 0), (.s 7 0))] [] (by simp only [push_cast, leL_flD, renL_flD, seval]) (by simp only [push_cast, leL_flD, renL_flD, seval]) rfl rfl rfl) ?_
    rintro ⟨i15, c3q16, c4q24, c5q16, c6q16⟩ o6 R6 h hr6 hn6 hx6 ht6
    try dsimp only at h hn6 ⊢
    unfold taskmillref_Cycled_l3 at h
    try dsimp only at h
    refine seq_np ?_
    refine seq_np ?_
    refine reg_f ?_
    refine rs 4 [] [] (by kernel_rfl) allP_nil ?_
    refine rf [(1, iS barrier), (2, .sl acts.length (fl acts)), (6, .ptr 0 0), (8, .ptr 1 0), (9, .ptr 2 0), (11, iS i15), (52, bS (decide (i15 < ((acts.length : Nat) : Int))))] [(0, .row 25 [.v (.slice none 0 0), .v (.slice none 0 0)]), (1, .row 30 [iS 0, iS 0]), (2, .row 59 [.own 3 0 c3q16.length, .own 4 0 c4q24.length, .own 5 0 c5q16.length, .own 6 0 c6q16.length]), (3, .row 23 (flD dLListInt [7] c3q16)), (4, .row 3 (fl c4q24)), (5, .row 4 (fl c5q16)), (6, .row 3 (fl c6q16)), ((.s 7 0), .fam (famD dLListInt 0 c3q16))] 8 (by kernel_rfl) ?_
    refine wk_id ?_
    refine cond_sx h (by kernel_rfl) (fun g7050 h => ?_) (fun g7050 h => ?_)
    · refine wk_id ?_
      refine seq_np ?_
      refine block_np ?_
      refine chk_sx h (fun g6946 h => ?_)
      refine seq_np ?_
      refine reg_f ?_
      have k6945 : 0 ≤ i15 ∧ i15 < ((acts.length : Nat) : Int) := by first | simpa only [Bool.and_eq_true, decide_eq_true_eq, bne_iff_ne, ne_eq] using g6946 | (simp at g6946 ⊢; omega)
      refine rs 6 [none, none, none, some ⟨.iptr (fl acts) ((i15).toNat * 4), [], 8, []⟩, some ⟨.agg (Enc.cells (ix acts i15)), [], 8, []⟩] _ (by kernel_rfl) (allP_cons (ob_ldw acts i15 4 ((i15).toNat * 4) k6945 rfl (by first | rfl | omega) [iS (ix acts i15).Op, iS (ix acts i15).A, iS (ix acts i15).B, iS (ix acts i15).C] rfl 8 []) (allP_cons (ob_ix_l acts 4 8 i15 k6945) allP_nil)) ?_
      obtain ⟨r6947, hr6947, h⟩ := bind_sx h
      refine call_x (taskmillref_Marking_act_1_spec (ix acts i15) barrier c3q16 c4q24 c5q16 c6q16 r6947 hr6947) (args := [.ptr 2 0, .agg (Enc.cells (ix acts i15)), iS barrier]) (dst := (some 61)) (by kernel_rfl) [(0, .row 25 [.v (.slice none 0 0), .v (.slice none 0 0)]), (1, .row 30 [iS 0, iS 0]), (2, .row 59 [.own 3 0 c3q16.length, .own 4 0 c4q24.length, .own 5 0 c5q16.length, .own 6 0 c6q16.length]), (3, .row 23 (flD dLListInt [7] c3q16)), (4, .row 3 (fl c4q24)), (5, .row 4 (fl c5q16)), (6, .row 3 (fl c6q16)), ((.s 7 0), .fam (famD dLListInt 0 c3q16))] 8 (by kernel_rfl) [(0, 2), (1, 3), ((.s 2 0), (.s 7 0)), (3, 4), (4, 5), (5, 6)] [] (iS r6947.1) [(2, .row 59 [.own 14 0 r6947.2.1.length, .own 4 0 r6947.2.2.2.2.length, .own 15 0 r6947.2.2.1.length, .own 16 0 r6947.2.2.2.1.length]), (3, .dead), ((.s 7 0), .dead), (4, .row 3 (fl r6947.2.2.2.2)), (5, .dead), (6, .dead), (14, .row 23 (flD dLListInt [17] r6947.2.1)), (15, .row 4 (fl r6947.2.2.1)), (16, .row 3 (fl r6947.2.2.2.1)), ((.s 17 0), .fam (famD dLListInt 0 r6947.2.1)), (2, .dead), (3, .dead), ((.s 7 0), .dead), (4, .dead), (5, .dead), (6, .dead)] (by simp only [push_cast, leL_flD, renL_flD, seval]) (by simp only [push_cast, leL_flD, renL_flD, seval]) (by kernel_rfl) (.inl rfl) (by first | (simp only [push_cast, leL_flD, renL_flD, seval]; done) | (simp only [push_cast, leL_flD, renL_flD, seval]; kernel_rfl) | kernel_rfl) (by first | (simp only [push_cast, leL_flD, renL_flD, seval]; done) | (simp only [push_cast, leL_flD, renL_flD, seval]; kernel_rfl) | kernel_rfl) ?_ (hfam := (And.intro trivial (And.intro trivial (And.intro (fun _ => Or.inl rfl) (And.intro trivial (And.intro trivial (And.intro trivial trivial)))))))
      refine rs 1 [] [] (by kernel_rfl) allP_nil ?_
      refine rf [(1, iS barrier), (2, .sl acts.length (fl acts)), (6, .ptr 0 0), (8, .ptr 1 0), (9, .ptr 2 0), (11, iS i15), (12, iS r6947.1)] [(0, .row 25 [.v (.slice none 0 0), .v (.slice none 0 0)]), (1, .row 30 [iS 0, iS 0]), (2, .row 59 [.own 14 0 r6947.2.1.length, .own 4 0 r6947.2.2.2.2.length, .own 15 0 r6947.2.2.1.length, .own 16 0 r6947.2.2.2.1.length]), (3, .dead), (4, .row 3 (fl r6947.2.2.2.2)), (5, .dead), (6, .dead), ((.s 7 0), .dead), (14, .row 23 (flD dLListInt [17] r6947.2.1)), (15, .row 4 (fl r6947.2.2.1)), (16, .row 3 (fl r6947.2.2.2.1)), ((.s 17 0), .fam (famD dLListInt 0 r6947.2.1))] 18 (by kernel_rfl) ?_
      refine wk_id ?_
      refine seq_np ?_
      refine reg_f ?_
      refine rs 2 [] [] (by kernel_rfl) allP_nil ?_
      refine rf [(1, iS barrier), (2, .sl acts.length (fl acts)), (6, .ptr 0 0), (8, .ptr 1 0), (9, .ptr 2 0), (11, iS i15), (12, iS r6947.1), (63, bS (r6947.1 != 0))] [(0, .row 25 [.v (.slice none 0 0), .v (.slice none 0 0)]), (1, .row 30 [iS 0, iS 0]), (2, .row 59 [.own 14 0 r6947.2.1.length, .own 4 0 r6947.2.2.2.2.length, .own 15 0 r6947.2.2.1.length, .own 16 0 r6947.2.2.2.1.length]), (3, .dead), (4, .row 3 (fl r6947.2.2.2.2)), (5, .dead), (6, .dead), ((.s 7 0), .dead), (14, .row 23 (flD dLListInt [17] r6947.2.1)), (15, .row 4 (fl r6947.2.2.1)), (16, .row 3 (fl r6947.2.2.2.1)), ((.s 17 0), .fam (famD dLListInt 0 r6947.2.1))] 18 (by kernel_rfl) ?_
      refine wk_id ?_
      refine cond_sx h (by kernel_rfl) (fun g6951 h => ?_) (fun g6951 h => ?_)
      · refine seq_np ?_
        refine reg_f ?_
        refine rs 3 [] [] (by kernel_rfl) allP_nil ?_
        obtain ⟨r6950, hr6950, h⟩ := bind_sx h
        refine run_call 20 [iS r6947.1, iS i15] (some 67) (by kernel_rfl) ?_
        refine call_0 (taskmillref_F_spec r6947.1 i15 r6950 hr6950) (by simp only [push_cast, leL_flD, renL_flD, seval]) (by simp only [push_cast, leL_flD, renL_flD, seval]) ?_
        refine back_f ?_
        refine rs 3 [] [] (by kernel_rfl) allP_nil ?_
        refine rf [(6, .ptr 0 0), (7, .v (.slice none 0 0)), (8, .ptr 1 0)] [(0, .row 25 [.v (.slice none 0 0), .v (.slice none 0 0)]), (1, .row 30 (Enc.cells r6950)), (2, .row 59 [.own 14 0 r6947.2.1.length, .own 4 0 r6947.2.2.2.2.length, .own 15 0 r6947.2.2.1.length, .own 16 0 r6947.2.2.2.1.length]), (3, .dead), (4, .row 3 (fl r6947.2.2.2.2)), (5, .dead), (6, .dead), ((.s 7 0), .dead), (14, .row 23 (flD dLListInt [17] r6947.2.1)), (15, .row 4 (fl r6947.2.2.1)), (16, .row 3 (fl r6947.2.2.2.1)), ((.s 17 0), .fam (famD dLListInt 0 r6947.2.1))] 18 (by kernel_rfl) ?_
        refine wk_id ?_
        refine rt_cast ht6 ?_
        obtain ⟨r0, h, e0⟩ := map_sx h
        have e1 := hr6 r0 e0.symm
        subst r0
        obtain rfl := Option.some.inj h
        refine ret_at (.tup [.agg [.v (.slice none 0 0), .v (.slice none 0 0)], .v (.slice none 0 0), .agg (Enc.cells r6950)]) (by kernel_rfl) ?_
        exact ret_e [] [] (by simp only [push_cast, leL_flD, renL_flD, seval]) (by simp only [push_cast, leL_flD, renL_flD, seval]) rfl rfl rfl
      · refine wk_id ?_
        refine wk_id ?_
        refine reg_f ?_
        refine rs 3 [] [] (by kernel_rfl) allP_nil ?_
        refine rf [(1, iS barrier), (2, .sl acts.length (fl acts)), (6, .ptr 0 0), (8, .ptr 1 0), (9, .ptr 2 0), (11, iS (IntKind.i64.wrap (i15 + 1)))] [(0, .row 25 [.v (.slice none 0 0), .v (.slice none 0 0)]), (1, .row 30 [iS 0, iS 0]), (2, .row 59 [.own 14 0 r6947.2.1.length, .own 4 0 r6947.2.2.2.2.length, .own 15 0 r6947.2.2.1.length, .own 16 0 r6947.2.2.2.1.length]), (3, .dead), (4, .row 3 (fl r6947.2.2.2.2)), (5, .dead), (6, .dead), ((.s 7 0), .dead), (14, .row 23 (flD dLListInt [17] r6947.2.1)), (15, .row 4 (fl r6947.2.2.1)), (16, .row 3 (fl r6947.2.2.2.1)), ((.s 17 0), .fam (famD dLListInt 0 r6947.2.1))] 18 (by kernel_rfl) ?_
        exact hn6 ((IntKind.i64.wrap (i15 + 1)), r6947.2.1, r6947.2.2.2.2, r6947.2.2.1, r6947.2.2.2.1) _ _ _ (Option.some.inj h).symm (leSt_m [(0, 0), (1, 1), (2, 2), (3, 14), (4, 4), (5, 15), (6, 16), ((.s 7 0), (.s 17 0))] [] (by simp only [push_cast, leL_flD, renL_flD, seval]) (by simp only [push_cast, leL_flD, renL_flD, seval]) rfl rfl rfl)
    · change R6 (.exit 2) _ _ _
      refine ex_cast hx6 (id := 2) ?_
      obtain ⟨r0, h, e0⟩ := map_sx h
      have e1 := hr6 r0 e0.symm
      subst r0
      refine wk_id ?_
      refine wk_id ?_
      refine seq_np ?_
      refine block_np ?_
      refine loop_sx (S := (List (List Int)) × (List Int) × (List Bool) × (List Int)) (fun a => ([(1, iS barrier), (6, .ptr 0 0), (8, .ptr 1 0), (9, .ptr 2 0)], [(0, .row 25 [.v (.slice none 0 0), .v (.slice none 0 0)]), (1, .row 30 [iS 0, iS 0]), (2, .row 59 [.own 3 0 a.1.length, .own 4 0 a.2.1.length, .own 5 0 a.2.2.1.length, .own 6 0 a.2.2.2.length]), (3, .row 23 (flD dLListInt [7] a.1)), (4, .row 3 (fl a.2.1)), (5, .row 4 (fl a.2.2.1)), (6, .row 3 (fl a.2.2.2)), ((.s 7 0), .fam (famD dLListInt 0 a.1))], 8)) h (leSt_m [(0, 0), (1, 1), (2, 2), (3, 3), (4, 4), (5, 5), (6, 6), ((.s 7 0), (.s 7 0))] [] (by simp only [push_cast, leL_flD, renL_flD, seval]) (by simp only [push_cast, leL_flD, renL_flD, seval]) rfl rfl rfl) ?_
      rintro ⟨c3q22, c4q30, c5q22, c6q22⟩ o7 R7 h hr7 hn7 hx7 ht7
      try dsimp only at h hn7 ⊢
      unfold taskmillref_Cycled_l2 at h
      try dsimp only at h
      refine seq_np ?_
      refine seq_np ?_
      refine reg_f ?_
      refine rs 6 [] [] (by kernel_rfl) allP_nil ?_
      refine rf [(1, iS barrier), (6, .ptr 0 0), (8, .ptr 1 0), (9, .ptr 2 0), (73, bS (decide ((0 : Int) < ((c6q22.length : Nat) : Int))))] [(0, .row 25 [.v (.slice none 0 0), .v (.slice none 0 0)]), (1, .row 30 [iS 0, iS 0]), (2, .row 59 [.own 3 0 c3q22.length, .own 4 0 c4q30.length, .own 5 0 c5q22.length, .own 6 0 c6q22.length]), (3, .row 23 (flD dLListInt [7] c3q22)), (4, .row 3 (fl c4q30)), (5, .row 4 (fl c5q22)), (6, .row 3 (fl c6q22)), ((.s 7 0), .fam (famD dLListInt 0 c3q22))] 8 (by kernel_rfl) ?_
      refine wk_id ?_
      refine cond_sx h (by kernel_rfl) (fun g7049 h => ?_) (fun g7049 h => ?_)
      · refine wk_id ?_
        refine block_np ?_
        refine reg_f ?_
        refine rs 1 [] [] (by kernel_rfl) allP_nil ?_
        obtain ⟨r7000, hr7000, h⟩ := bind_sx h
        refine call_x (taskmillref_Marking_step_1_spec c3q22 c4q30 c5q22 c6q22 r7000 hr7000) (args := [.ptr 2 0]) (dst := (some 75)) (by kernel_rfl) [(0, .row 25 [.v (.slice none 0 0), .v (.slice none 0 0)]), (1, .row 30 [iS 0, iS 0]), (2, .row 59 [.own 3 0 c3q22.length, .own 4 0 c4q30.length, .own 5 0 c5q22.length, .own 6 0 c6q22.length]), (3, .row 23 (flD dLListInt [7] c3q22)), (4, .row 3 (fl c4q30)), (5, .row 4 (fl c5q22)), (6, .row 3 (fl c6q22)), ((.s 7 0), .fam (famD dLListInt 0 c3q22))] 8 (by kernel_rfl) [(0, 2), (1, 3), ((.s 2 0), (.s 7 0)), (3, 4), (4, 5), (5, 6)] [] (.tup []) [(2, .row 59 [.own 3 0 r7000.2.1.length, .own 4 0 r7000.2.2.1.length, .own 5 0 r7000.2.2.2.length, .own 14 0 r7000.1.length]), (3, .row 23 (flD dLListInt [7] r7000.2.1)), ((.s 7 0), .fam (famD dLListInt 0 r7000.2.1)), (4, .row 3 (fl r7000.2.2.1)), (5, .row 4 (fl r7000.2.2.2)), (6, .dead), (14, .row 3 (fl r7000.1)), (2, .dead), (3, .dead), ((.s 7 0), .dead), (4, .dead), (5, .dead), (6, .dead)] (by simp only [push_cast, leL_flD, renL_flD, seval]) (by simp only [push_cast, leL_flD, renL_flD, seval]) (by kernel_rfl) (.inl rfl) (by first | (simp only [push_cast, leL_flD, renL_flD, seval]; done) | (simp only [push_cast, leL_flD, renL_flD, seval]; kernel_rfl) | kernel_rfl) (by first | (simp only [push_cast, leL_flD, renL_flD, seval]; done) | (simp only [push_cast, leL_flD, renL_flD, seval]; kernel_rfl) | kernel_rfl) ?_ (hfam := (And.intro trivial (And.intro trivial (And.intro (fun _ => Or.inl rfl) (And.intro trivial (And.intro trivial (And.intro trivial trivial)))))))
        refine rf [(1, iS barrier), (6, .ptr 0 0), (8, .ptr 1 0), (9, .ptr 2 0)] [(0, .row 25 [.v (.slice none 0 0), .v (.slice none 0 0)]), (1, .row 30 [iS 0, iS 0]), (2, .row 59 [.own 3 0 r7000.2.1.length, .own 4 0 r7000.2.2.1.length, .own 5 0 r7000.2.2.2.length, .own 14 0 r7000.1.length]), (3, .row 23 (flD dLListInt [7] r7000.2.1)), (4, .row 3 (fl r7000.2.2.1)), (5, .row 4 (fl r7000.2.2.2)), (6, .dead), ((.s 7 0), .fam (famD dLListInt 0 r7000.2.1)), (14, .row 3 (fl r7000.1))] 15 (by kernel_rfl) ?_
        refine wk_id ?_
        exact hn7 (r7000.2.1, r7000.2.2.1, r7000.2.2.2, r7000.1) _ _ _ (Option.some.inj h).symm (leSt_m [(0, 0), (1, 1), (2, 2), (3, 3), (4, 4), (5, 5), (6, 14), ((.s 7 0), (.s 7 0))] [] (by simp only [push_cast, leL_flD, renL_flD, seval]) (by simp only [push_cast, leL_flD, renL_flD, seval]) rfl rfl rfl)
      · change R7 (.exit 4) _ _ _
        refine ex_cast hx7 (id := 4) ?_
        obtain ⟨r0, h, e0⟩ := map_sx h
        have e1 := hr7 r0 e0.symm
        subst r0
        refine wk_id ?_
        refine wk_id ?_
        refine seq_cut (A := (List (List Int)) × (List Int) × (List Bool) × (List Int)) (fun a => ([(6, .ptr 0 0), (8, .ptr 1 0), (9, .ptr 2 0)], [(0, .row 25 [.v (.slice none 0 0), .v (.slice none 0 0)]), (1, .row 30 [iS 0, iS 0]), (2, .row 59 [.own 3 0 a.1.length, .own 4 0 a.2.1.length, .own 5 0 a.2.2.1.length, .own 6 0 a.2.2.2.length]), (3, .row 23 (flD dLListInt [7] a.1)), (4, .row 3 (fl a.2.1)), (5, .row 4 (fl a.2.2.1)), (6, .row 3 (fl a.2.2.2)), ((.s 7 0), .fam (famD dLListInt 0 a.1))], 8)) (fun a => (taskmillref_Cycled_j1 a.1 a.2.1 a.2.2.1 a.2.2.2) = some r) (fun K7021 hK7021 => ?_) ?_
        · refine seq_np ?_
          refine reg_f ?_
          refine rs 2 [] [] (by kernel_rfl) allP_nil ?_
          refine rf [(6, .ptr 0 0), (8, .ptr 1 0), (9, .ptr 2 0), (77, bS (barrier == 1))] [(0, .row 25 [.v (.slice none 0 0), .v (.slice none 0 0)]), (1, .row 30 [iS 0, iS 0]), (2, .row 59 [.own 3 0 c3q22.length, .own 4 0 c4q30.length, .own 5 0 c5q22.length, .own 6 0 c6q22.length]), (3, .row 23 (flD dLListInt [7] c3q22)), (4, .row 3 (fl c4q30)), (5, .row 4 (fl c5q22)), (6, .row 3 (fl c6q22)), ((.s 7 0), .fam (famD dLListInt 0 c3q22))] 8 (by kernel_rfl) ?_
          refine wk_id ?_
          refine cond_sx h (by kernel_rfl) (fun g7046 h => ?_) (fun g7046 h => ?_)
          · refine seq_np ?_
            refine reg_f ?_
            refine rs 1 [] [] (by kernel_rfl) allP_nil ?_
            obtain ⟨r7026, hr7026, h⟩ := bind_sx h
            refine call_x (taskmillref_Marking_roots_1_spec c6q22 c3q22 c4q30 c5q22 r7026 hr7026) (args := [.ptr 2 0]) (dst := (some 79)) (by kernel_rfl) [(0, .row 25 [.v (.slice none 0 0), .v (.slice none 0 0)]), (1, .row 30 [iS 0, iS 0]), (2, .row 59 [.own 3 0 c3q22.length, .own 4 0 c4q30.length, .own 5 0 c5q22.length, .own 6 0 c6q22.length]), (3, .row 23 (flD dLListInt [7] c3q22)), (4, .row 3 (fl c4q30)), (5, .row 4 (fl c5q22)), (6, .row 3 (fl c6q22)), ((.s 7 0), .fam (famD dLListInt 0 c3q22))] 8 (by kernel_rfl) [(0, 2), (1, 3), ((.s 2 0), (.s 7 0)), (3, 4), (4, 5), (5, 6)] [] (.tup []) [(2, .row 59 [.own 3 0 r7026.2.1.length, .own 4 0 r7026.2.2.1.length, .own 5 0 r7026.2.2.2.length, .own 14 0 r7026.1.length]), (3, .row 23 (flD dLListInt [7] r7026.2.1)), ((.s 7 0), .fam (famD dLListInt 0 r7026.2.1)), (4, .row 3 (fl r7026.2.2.1)), (5, .row 4 (fl r7026.2.2.2)), (6, .dead), (14, .row 3 (fl r7026.1)), (2, .dead), (3, .dead), ((.s 7 0), .dead), (4, .dead), (5, .dead), (6, .dead)] (by simp only [push_cast, leL_flD, renL_flD, seval]) (by simp only [push_cast, leL_flD, renL_flD, seval]) (by kernel_rfl) (.inl rfl) (by first | (simp only [push_cast, leL_flD, renL_flD, seval]; done) | (simp only [push_cast, leL_flD, renL_flD, seval]; kernel_rfl) | kernel_rfl) (by first | (simp only [push_cast, leL_flD, renL_flD, seval]; done) | (simp only [push_cast, leL_flD, renL_flD, seval]; kernel_rfl) | kernel_rfl) ?_ (hfam := (And.intro trivial (And.intro trivial (And.intro (fun _ => Or.inl rfl) (And.intro trivial (And.intro trivial (And.intro trivial trivial)))))))
            refine rf [(6, .ptr 0 0), (8, .ptr 1 0), (9, .ptr 2 0)] [(0, .row 25 [.v (.slice none 0 0), .v (.slice none 0 0)]), (1, .row 30 [iS 0, iS 0]), (2, .row 59 [.own 3 0 r7026.2.1.length, .own 4 0 r7026.2.2.1.length, .own 5 0 r7026.2.2.2.length, .own 14 0 r7026.1.length]), (3, .row 23 (flD dLListInt [7] r7026.2.1)), (4, .row 3 (fl r7026.2.2.1)), (5, .row 4 (fl r7026.2.2.2)), (6, .dead), ((.s 7 0), .fam (famD dLListInt 0 r7026.2.1)), (14, .row 3 (fl r7026.1))] 15 (by kernel_rfl) ?_
            refine wk_id ?_
            refine block_np ?_
            refine loop_sx (S := (List (List Int)) × (List Int) × (List Bool) × (List Int)) (fun a => ([(6, .ptr 0 0), (8, .ptr 1 0), (9, .ptr 2 0)], [(0, .row 25 [.v (.slice none 0 0), .v (.slice none 0 0)]), (1, .row 30 [iS 0, iS 0]), (2, .row 59 [.own 3 0 a.1.length, .own 4 0 a.2.1.length, .own 5 0 a.2.2.1.length, .own 6 0 a.2.2.2.length]), (3, .row 23 (flD dLListInt [7] a.1)), (4, .row 3 (fl a.2.1)), (5, .row 4 (fl a.2.2.1)), (6, .row 3 (fl a.2.2.2)), ((.s 7 0), .fam (famD dLListInt 0 a.1))], 8)) h (leSt_m [(0, 0), (1, 1), (2, 2), (3, 3), (4, 4), (5, 5), (6, 14), ((.s 7 0), (.s 7 0))] [] (by simp only [push_cast, leL_flD, renL_flD, seval]) (by simp only [push_cast, leL_flD, renL_flD, seval]) rfl rfl rfl) ?_
            rintro ⟨c3q27, c4q35, c5q27, c6q27⟩ o8 R8 h hr8 hn8 hx8 ht8
            try dsimp only at h hn8 ⊢
            unfold taskmillref_Cycled_l1 at h
            try dsimp only at h
            refine seq_np ?_
            refine seq_np ?_
            refine reg_f ?_
            refine rs 6 [] [] (by kernel_rfl) allP_nil ?_
            refine rf [(6, .ptr 0 0), (8, .ptr 1 0), (9, .ptr 2 0), (85, bS (decide ((0 : Int) < ((c6q27.length : Nat) : Int))))] [(0, .row 25 [.v (.slice none 0 0), .v (.slice none 0 0)]), (1, .row 30 [iS 0, iS 0]), (2, .row 59 [.own 3 0 c3q27.length, .own 4 0 c4q35.length, .own 5 0 c5q27.length, .own 6 0 c6q27.length]), (3, .row 23 (flD dLListInt [7] c3q27)), (4, .row 3 (fl c4q35)), (5, .row 4 (fl c5q27)), (6, .row 3 (fl c6q27)), ((.s 7 0), .fam (famD dLListInt 0 c3q27))] 8 (by kernel_rfl) ?_
            refine wk_id ?_
            refine cond_sx h (by kernel_rfl) (fun g7045 h => ?_) (fun g7045 h => ?_)
            · refine wk_id ?_
              refine block_np ?_
              refine reg_f ?_
              refine rs 1 [] [] (by kernel_rfl) allP_nil ?_
              obtain ⟨r7041, hr7041, h⟩ := bind_sx h
              refine call_x (taskmillref_Marking_step_1_spec c3q27 c4q35 c5q27 c6q27 r7041 hr7041) (args := [.ptr 2 0]) (dst := (some 87)) (by kernel_rfl) [(0, .row 25 [.v (.slice none 0 0), .v (.slice none 0 0)]), (1, .row 30 [iS 0, iS 0]), (2, .row 59 [.own 3 0 c3q27.length, .own 4 0 c4q35.length, .own 5 0 c5q27.length, .own 6 0 c6q27.length]), (3, .row 23 (flD dLListInt [7] c3q27)), (4, .row 3 (fl c4q35)), (5, .row 4 (fl c5q27)), (6, .row 3 (fl c6q27)), ((.s 7 0), .fam (famD dLListInt 0 c3q27))] 8 (by kernel_rfl) [(0, 2), (1, 3), ((.s 2 0), (.s 7 0)), (3, 4), (4, 5), (5, 6)] [] (.tup []) [(2, .row 59 [.own 3 0 r7041.2.1.length, .own 4 0 r7041.2.2.1.length, .own 5 0 r7041.2.2.2.length, .own 14 0 r7041.1.length]), (3, .row 23 (flD dLListInt [7] r7041.2.1)), ((.s 7 0), .fam (famD dLListInt 0 r7041.2.1)), (4, .row 3 (fl r7041.2.2.1)), (5, .row 4 (fl r7041.2.2.2)), (6, .dead), (14, .row 3 (fl r7041.1)), (2, .dead), (3, .dead), ((.s 7 0), .dead), (4, .dead), (5, .dead), (6, .dead)] (by simp only [push_cast, leL_flD, renL_flD, seval]) (by simp only [push_cast, leL_flD, renL_flD, seval]) (by kernel_rfl) (.inl rfl) (by first | (simp only [push_cast, leL_flD, renL_flD, seval]; done) | (simp only [push_cast, leL_flD, renL_flD, seval]; kernel_rfl) | kernel_rfl) (by first | (simp only [push_cast, leL_flD, renL_flD, seval]; done) | (simp only [push_cast, leL_flD, renL_flD, seval]; kernel_rfl) | kernel_rfl) ?_ (hfam := (And.intro trivial (And.intro trivial (And.intro (fun _ => Or.inl rfl) (And.intro trivial (And.intro trivial (And.intro trivial trivial)))))))
              refine rf [(6, .ptr 0 0), (8, .ptr 1 0), (9, .ptr 2 0)] [(0, .row 25 [.v (.slice none 0 0), .v (.slice none 0 0)]), (1, .row 30 [iS 0, iS 0]), (2, .row 59 [.own 3 0 r7041.2.1.length, .own 4 0 r7041.2.2.1.length, .own 5 0 r7041.2.2.2.length, .own 14 0 r7041.1.length]), (3, .row 23 (flD dLListInt [7] r7041.2.1)), (4, .row 3 (fl r7041.2.2.1)), (5, .row 4 (fl r7041.2.2.2)), (6, .dead), ((.s 7 0), .fam (famD dLListInt 0 r7041.2.1)), (14, .row 3 (fl r7041.1))] 15 (by kernel_rfl) ?_
              refine wk_id ?_
              exact hn8 (r7041.2.1, r7041.2.2.1, r7041.2.2.2, r7041.1) _ _ _ (Option.some.inj h).symm (leSt_m [(0, 0), (1, 1), (2, 2), (3, 3), (4, 4), (5, 5), (6, 14), ((.s 7 0), (.s 7 0))] [] (by simp only [push_cast, leL_flD, renL_flD, seval]) (by simp only [push_cast, leL_flD, renL_flD, seval]) rfl rfl rfl)
            · change R8 (.exit 6) _ _ _
              refine ex_cast hx8 (id := 6) ?_
              obtain ⟨r0, h, e0⟩ := map_sx h
              have e1 := hr8 r0 e0.symm
              subst r0
              refine wk_id ?_
              exact hK7021 (c3q27, c4q35, c5q27, c6q27) _ _ _ h (leSt_m [(0, 0), (1, 1), (2, 2), (3, 3), (4, 4), (5, 5), (6, 6), ((.s 7 0), (.s 7 0))] [] (by simp only [push_cast, leL_flD, renL_flD, seval]) (by simp only [push_cast, leL_flD, renL_flD, seval]) rfl rfl rfl)
          · exact hK7021 (c3q22, c4q30, c5q22, c6q22) _ _ _ h (leSt_m [(0, 0), (1, 1), (2, 2), (3, 3), (4, 4), (5, 5), (6, 6), ((.s 7 0), (.s 7 0))] [] (by simp only [push_cast, leL_flD, renL_flD, seval]) (by simp only [push_cast, leL_flD, renL_flD, seval]) rfl rfl rfl)
        · rintro ⟨c3q25, c4q33, c5q25, c6q25⟩ h
          try dsimp only at h ⊢
          unfold taskmillref_Cycled_j1 at h
          refine seq_np ?_
          refine reg_t ?_
          refine rs 8 [] [] (by kernel_rfl) allP_nil ?_
          obtain ⟨r7048, hr7048, h⟩ := bind_sx h
          refine call_x (taskmillref_Not_spec c5q25 r7048 hr7048) (args := [.own 5 0 c5q25.length]) (dst := (some 96)) (by kernel_rfl) [(0, .row 25 [.v (.slice none 0 0), .v (.slice none 0 0)]), (1, .row 30 [iS 0, iS 0]), (2, .row 59 [.own 3 0 c3q25.length, .own 4 0 c4q33.length, .own 5 0 c5q25.length, .own 6 0 c6q25.length]), (3, .row 23 (flD dLListInt [7] c3q25)), (4, .row 3 (fl c4q33)), (5, .row 4 (fl c5q25)), (6, .row 3 (fl c6q25)), ((.s 7 0), .fam (famD dLListInt 0 c3q25))] 16 (by kernel_rfl) [] [5] (.own 16 0 r7048.length) [(16, .row 3 (fl r7048))] (by simp only [push_cast, leL_flD, renL_flD, seval]) (by simp only [push_cast, leL_flD, renL_flD, seval]) (by kernel_rfl) (.inr ⟨by simp only [push_cast, leL_flD, renL_flD, seval], by simp only [push_cast, leL_flD, renL_flD, seval]⟩) (by simp only [push_cast, leL_flD, renL_flD, seval]) (by simp only [push_cast, leL_flD, renL_flD, seval]) ?_
          refine rs 4 [] [] (by kernel_rfl) allP_nil ?_
          refine rt [(6, .ptr 0 0), (7, .own 16 0 r7048.length), (8, .ptr 1 0)] [(0, .row 25 [.own 3 0 c3q25.length, .own 4 0 c4q33.length]), (1, .row 30 [iS 0, iS 0]), (2, .row 59 [.own 3 0 c3q25.length, .own 4 0 c4q33.length, .own 5 0 c5q25.length, .own 6 0 c6q25.length]), (3, .row 23 (flD dLListInt [7] c3q25)), (4, .row 3 (fl c4q33)), (5, .row 4 (fl c5q25)), (6, .row 3 (fl c6q25)), ((.s 7 0), .fam (famD dLListInt 0 c3q25)), (16, .row 3 (fl r7048))] 22 follows (by kernel_rfl) ?_
          refine wk_id ?_
          obtain rfl := Option.some.inj h
          refine ret_at (.tup [.agg [.own 3 0 c3q25.length, .own 4 0 c4q33.length], .own 16 0 r7048.length, .agg [iS 0, iS 0]]) (by kernel_rfl) ?_
          exact ret_e [(0, 3), (1, 4), (2, 16), ((.s 3 0), (.s 7 0))] [] (by simp only [push_cast, leL_flD, renL_flD, seval]) (by simp only [push_cast, leL_flD, renL_flD, seval]) rfl rfl rfl

end Go.Proofs.Ytlfcicekappbfaa
