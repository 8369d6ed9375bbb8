/-
  What laws of the chapter poll compute, and lemmas on it.
  No conditions.
-/
import Derived.Test.YtbglmhcpfjmadaapollW2
set_option linter.unusedSimpArgs false
set_option linter.unusedVariables false
namespace Go.Proofs.Ytbglmhcpfjmadaa
open Go Go.Sx
attribute [local irreducible] Wk RunAt
set_option maxRecDepth 100000 in
set_option maxHeartbeats 10000000 in
theorem taskmilllaw_PollLosesNone_spec (moves : (List Int)) (r : Bool) (h : taskmilllaw_PollLosesNone moves = some r) : SpecW Try.prog 5 [.sl moves.length (fl moves)] [] 0 (fun x h n => x = bS r ∧ h = [] ∧ n = 0) := by
  unfold taskmilllaw_PollLosesNone at h
  refine spec_of (draw_ok _) Try.func5 rfl (by decide) rfl (by kernel_rfl) ?_
  refine seq_np ?_
  refine reg_f ?_
  refine rs 1 [] [] (by kernel_rfl) allP_nil ?_
  refine rf [(0, .sl moves.length (fl moves))] [] 0 (by kernel_rfl) ?_
  refine wk_id ?_
  refine seq_np ?_
  refine seq_np ?_
  refine reg_f ?_
  obtain ⟨r3931, hr3931, h⟩ := bind_sx h
  refine run_call 9 [] (some 32) (by kernel_rfl) ?_
  refine call_0 (taskmilllaw_pollBegun_spec r3931 hr3931) (by simp only [push_cast, seval]) (by simp only [push_cast, seval]) ?_
  refine back_f ?_
  refine rs 1 [] [] (by kernel_rfl) allP_nil ?_
  refine rf [(0, .sl moves.length (fl moves)), (33, bS (!r3931))] [] 0 (by kernel_rfl) ?_
  refine wk_id ?_
  refine cond_sx h (by kernel_rfl) (fun g5957 h => ?_) (fun g5957 h => ?_)
  · refine seq_np ?_
    refine reg_f ?_
    refine rs 1 [] [] (by kernel_rfl) allP_nil ?_
    refine rf [(2, bS false)] [] 0 (by kernel_rfl) ?_
    refine wk_id ?_
    obtain rfl := Option.some.inj h
    refine ret_at (bS false) (by kernel_rfl) ?_
    exact ret_e [] [] (by simp only [push_cast, seval]) (by simp only [push_cast, seval]) rfl rfl rfl
  · refine wk_id ?_
    refine seq_np ?_
    refine seq_np ?_
    refine reg_f ?_
    refine rs 3 [] [] (by kernel_rfl) allP_nil ?_
    refine rf [(0, .sl moves.length (fl moves)), (36, bS (decide ((300 : Int) < ((moves.length : Nat) : Int))))] [] 0 (by kernel_rfl) ?_
    refine wk_id ?_
    refine cond_sx h (by kernel_rfl) (fun g5956 h => ?_) (fun g5956 h => ?_)
    · refine seq_np ?_
      refine reg_f ?_
      refine rs 1 [] [] (by kernel_rfl) allP_nil ?_
      refine rf [(2, bS true)] [] 0 (by kernel_rfl) ?_
      refine wk_id ?_
      obtain rfl := Option.some.inj h
      refine ret_at (bS true) (by kernel_rfl) ?_
      exact ret_e [] [] (by simp only [push_cast, seval]) (by simp only [push_cast, seval]) rfl rfl rfl
    · refine wk_id ?_
      refine seq_np ?_
      refine reg_f ?_
      refine rs 3 [] [] (by kernel_rfl) allP_nil ?_
      refine rf [(0, .sl moves.length (fl moves)), (3, .ptr 0 0)] [(0, .row 25 [bS false, bS false, bS false, iS 0, iS 0, iS 0, iS 0])] 1 (by kernel_rfl) ?_
      refine wk_id ?_
      refine seq_np ?_
      refine reg_f ?_
      refine rs 1 [] [] (by kernel_rfl) allP_nil ?_
      refine rf [(0, .sl moves.length (fl moves)), (3, .ptr 0 0), (4, iS 0)] [(0, .row 25 [bS false, bS false, bS false, iS 0, iS 0, iS 0, iS 0])] 1 (by kernel_rfl) ?_
      refine wk_id ?_
      refine seq_np ?_
      refine reg_f ?_
      refine rs 3 [] [] (by kernel_rfl) allP_nil ?_
      refine rf [(0, .sl moves.length (fl moves)), (3, .ptr 0 0), (4, iS 0), (5, .ptr 1 0)] [(0, .row 25 [bS false, bS false, bS false, iS 0, iS 0, iS 0, iS 0]), (1, .row 23 [iS 0, iS 0])] 2 (by kernel_rfl) ?_
      refine wk_id ?_
      refine seq_np ?_
      refine reg_f ?_
      refine rs 3 [] [] (by kernel_rfl) allP_nil ?_
      refine rf [(0, .sl moves.length (fl moves)), (3, .ptr 0 0), (4, iS 0), (5, .ptr 1 0), (6, .ptr 2 0)] [(0, .row 25 [bS false, bS false, bS false, iS 0, iS 0, iS 0, iS 0]), (1, .row 23 [iS 0, iS 0]), (2, .row 23 [iS 0, iS 0])] 3 (by kernel_rfl) ?_
      refine wk_id ?_
      refine seq_np ?_
      refine seq_np ?_
      refine reg_f ?_
      refine rs 1 [] [] (by kernel_rfl) allP_nil ?_
      refine rf [(0, .sl moves.length (fl moves)), (3, .ptr 0 0), (4, iS 0), (5, .ptr 1 0), (6, .ptr 2 0), (7, iS 0)] [(0, .row 25 [bS false, bS false, bS false, iS 0, iS 0, iS 0, iS 0]), (1, .row 23 [iS 0, iS 0]), (2, .row 23 [iS 0, iS 0])] 3 (by kernel_rfl) ?_
      refine wk_id ?_
      refine block_np ?_
      refine loop_sx (S := Int × Int × Desc × S23 × S23) (fun a => ([(0, .sl moves.length (fl moves)), (3, .ptr 0 0), (4, iS a.1), (5, .ptr 1 0), (6, .ptr 2 0), (7, iS a.2.1)], [(0, .row 25 (Enc.cells a.2.2.1)), (1, .row 23 (Enc.cells a.2.2.2.1)), (2, .row 23 (Enc.cells a.2.2.2.2))], 3)) h (leSt_m [(0, 0), (1, 1), (2, 2)] [] (by simp only [push_cast, seval]) (by simp only [push_cast, seval]) rfl rfl rfl) ?_
      rintro ⟨now25, i7, c0q25, c1q28, c2q53⟩ o4 R4 h hr4 hn4 hx4 ht4
      try dsimp only at h hn4 ⊢
      unfold taskmilllaw_PollLosesNone_l3 at h
      try dsimp only at h
      refine seq_np ?_
      refine seq_np ?_
      refine reg_f ?_
      refine rs 4 [] [] (by kernel_rfl) allP_nil ?_
      refine rf [(0, .sl moves.length (fl moves)), (3, .ptr 0 0), (4, iS now25), (5, .ptr 1 0), (6, .ptr 2 0), (7, iS i7), (43, bS (decide (i7 < ((moves.length : Nat) : Int))))] [(0, .row 25 (Enc.cells c0q25)), (1, .row 23 (Enc.cells c1q28)), (2, .row 23 (Enc.cells c2q53))] 3 (by kernel_rfl) ?_
      refine wk_id ?_
      refine cond_sx h (by kernel_rfl) (fun g5955 h => ?_) (fun g5955 h => ?_)
      · refine wk_id ?_
        refine seq_np ?_
        refine block_cut (A := Int × Desc × S23 × S23) (fun a => ([(0, .sl moves.length (fl moves)), (3, .ptr 0 0), (4, iS a.1), (5, .ptr 1 0), (6, .ptr 2 0), (7, iS i7)], [(0, .row 25 (Enc.cells a.2.1)), (1, .row 23 (Enc.cells a.2.2.1)), (2, .row 23 (Enc.cells a.2.2.2))], 3)) (fun a => (taskmilllaw_PollLosesNone_j1 moves i7 a.1 a.2.1 a.2.2.1 a.2.2.2) = some o4) (fun K5396 hK5396 => ?_) ?_
        · refine seq_np ?_
          refine reg_f ?_
          refine rs 3 [] [] (by kernel_rfl) allP_nil ?_
          refine rf [(0, .sl moves.length (fl moves)), (3, .ptr 0 0), (4, iS now25), (5, .ptr 1 0), (6, .ptr 2 0), (7, iS i7), (8, iS (Int.tmod i7 2))] [(0, .row 25 (Enc.cells c0q25)), (1, .row 23 (Enc.cells c1q28)), (2, .row 23 (Enc.cells c2q53))] 3 (by kernel_rfl) ?_
          refine wk_id ?_
          refine seq_np ?_
          refine chk_sx h (fun g5469 h => ?_)
          refine seq_np ?_
          refine reg_f ?_
          have k5468 : 0 ≤ i7 ∧ i7 < ((moves.length : Nat) : Int) := by first | simpa only [Bool.and_eq_true, decide_eq_true_eq, bne_iff_ne, ne_eq] using g5469 | (simp at g5469 ⊢; omega)
          refine rs 4 [none, none, some ⟨.iptr (fl moves) ((i7).toNat * 1), [], 3, []⟩, some ⟨iS (ix moves i7), [], 3, []⟩] _ (by kernel_rfl) (allP_cons (ob_ld moves i7 1 0 ((i7).toNat * 1) k5468 rfl (by decide) (by first | rfl | omega) (dflS Try.prog 3) (iS (ix moves i7)) rfl 3 []) (allP_cons (ob_ix_l moves 1 3 i7 k5468) allP_nil)) ?_
          refine rf [(0, .sl moves.length (fl moves)), (3, .ptr 0 0), (4, iS now25), (5, .ptr 1 0), (6, .ptr 2 0), (7, iS i7), (8, iS (Int.tmod i7 2)), (51, iS (ix moves i7))] [(0, .row 25 (Enc.cells c0q25)), (1, .row 23 (Enc.cells c1q28)), (2, .row 23 (Enc.cells c2q53))] 3 (by kernel_rfl) ?_
          refine wk_id ?_
          refine block_cut (A := Int × Desc × S23 × S23) (fun a => ([(0, .sl moves.length (fl moves)), (3, .ptr 0 0), (4, iS a.1), (5, .ptr 1 0), (6, .ptr 2 0), (7, iS i7)], [(0, .row 25 (Enc.cells a.2.1)), (1, .row 23 (Enc.cells a.2.2.1)), (2, .row 23 (Enc.cells a.2.2.2))], 3)) (fun a => (taskmilllaw_PollLosesNone_j6 moves i7 a.1 a.2.1 a.2.2.1 a.2.2.2) = some o4) (fun K5536 hK5536 => ?_) ?_
          · refine seq_np ?_
            refine reg_f ?_
            refine rs 2 [] [] (by kernel_rfl) allP_nil ?_
            refine rf [(0, .sl moves.length (fl moves)), (3, .ptr 0 0), (4, iS now25), (5, .ptr 1 0), (6, .ptr 2 0), (7, iS i7), (8, iS (Int.tmod i7 2)), (51, iS (ix moves i7)), (52, bS ((ix moves i7) == 0))] [(0, .row 25 (Enc.cells c0q25)), (1, .row 23 (Enc.cells c1q28)), (2, .row 23 (Enc.cells c2q53))] 3 (by kernel_rfl) ?_
            refine wk_id ?_
            refine cond_sx h (by kernel_rfl) (fun g5668 h => ?_) (fun g5668 h => ?_)
            · refine seq_np ?_
              refine reg_f ?_
              refine rs 5 [] [] (by kernel_rfl) allP_nil ?_
              obtain ⟨r5538, hr5538, h⟩ := bind_sx h
              refine run_call 7 [.agg (Enc.cells c0q25), iS (Int.tmod i7 2), iS (IntKind.i64.wrap (i7 + 1)), iS now25] (some 60) (by kernel_rfl) ?_
              refine call_0 (poll_Wait_spec c0q25 (Int.tmod i7 2) (IntKind.i64.wrap (i7 + 1)) now25 r5538 hr5538) (by simp only [push_cast, seval]) (by simp only [push_cast, seval]) ?_
              refine back_f ?_
              refine rs 9 [] [] (by kernel_rfl) allP_nil ?_
              refine rf [(0, .sl moves.length (fl moves)), (3, .ptr 0 0), (4, iS now25), (5, .ptr 1 0), (6, .ptr 2 0), (7, iS i7), (8, iS (Int.tmod i7 2)), (9, .ptr 3 0), (10, iS r5538.2.1), (11, .ptr 4 0)] [(0, .row 25 (Enc.cells c0q25)), (1, .row 23 (Enc.cells c1q28)), (2, .row 23 (Enc.cells c2q53)), (3, .row 25 (Enc.cells r5538.1)), (4, .row 27 (Enc.cells r5538.2.2))] 5 (by kernel_rfl) ?_
              refine wk_id ?_
              refine seq_np ?_
              refine seq_np ?_
              refine reg_f ?_
              refine rs 3 [] [] (by kernel_rfl) allP_nil ?_
              refine rf [(0, .sl moves.length (fl moves)), (3, .ptr 0 0), (4, iS now25), (5, .ptr 1 0), (6, .ptr 2 0), (7, iS i7), (8, iS (Int.tmod i7 2)), (9, .ptr 3 0), (10, iS r5538.2.1), (66, bS (r5538.2.2.Code != 0))] [(0, .row 25 (Enc.cells c0q25)), (1, .row 23 (Enc.cells c1q28)), (2, .row 23 (Enc.cells c2q53)), (3, .row 25 (Enc.cells r5538.1)), (4, .row 27 (Enc.cells r5538.2.2))] 5 (by kernel_rfl) ?_
              refine wk_id ?_
              refine cond_sx h (by kernel_rfl) (fun g5588 h => ?_) (fun g5588 h => ?_)
              · refine seq_cut (A := Unit) (fun a => ([(0, .sl moves.length (fl moves)), (3, .ptr 0 0), (4, iS now25), (5, .ptr 1 0), (6, .ptr 2 0), (7, iS i7)], [(0, .row 25 (Enc.cells c0q25)), (1, .row 23 (Enc.cells c1q28)), (2, .row 23 (Enc.cells c2q53))], 3)) (fun a => (taskmilllaw_PollLosesNone_j7 moves now25 i7 c0q25 c1q28 c2q53) = some o4) (fun K5559 hK5559 => ?_) ?_
                · refine split_s h (fun g5560 h => ?_) (fun g5561 h => ?_)
                  · refine seq_np ?_
                    refine reg_f ?_
                    refine rs 2 [] [] (by kernel_rfl) allP_nil ?_
                    refine run_at 67 .i64 (Int.tmod i7 2) 0 g5560 (by kernel_rfl) ?_
                    refine rs 3 [] [] (by kernel_rfl) allP_nil ?_
                    refine rf [(0, .sl moves.length (fl moves)), (3, .ptr 0 0), (4, iS now25), (5, .ptr 1 0), (6, .ptr 2 0), (7, iS i7), (71, bS (c0q25.Task_e0 == 0))] [(0, .row 25 (Enc.cells c0q25)), (1, .row 23 (Enc.cells c1q28)), (2, .row 23 (Enc.cells c2q53)), (3, .row 25 (Enc.cells r5538.1)), (4, .row 27 (Enc.cells r5538.2.2))] 5 (by kernel_rfl) ?_
                    refine wk_id ?_
                    refine cond_sx h (by kernel_rfl) (fun g5562 h => ?_) (fun g5562 h => ?_)
                    · refine seq_np ?_
                      refine reg_f ?_
                      refine rs 1 [] [] (by kernel_rfl) allP_nil ?_
                      refine rf [(2, bS false)] [(0, .row 25 (Enc.cells c0q25)), (1, .row 23 (Enc.cells c1q28)), (2, .row 23 (Enc.cells c2q53)), (3, .row 25 (Enc.cells r5538.1)), (4, .row 27 (Enc.cells r5538.2.2))] 5 (by kernel_rfl) ?_
                      refine wk_id ?_
                      refine rt_cast ht4 ?_
                      obtain ⟨r0, h, e0⟩ := map_sx h
                      have e1 := hr4 r0 e0.symm
                      subst r0
                      obtain rfl := Option.some.inj h
                      refine ret_at (bS false) (by kernel_rfl) ?_
                      exact ret_e [] [] (by simp only [push_cast, seval]) (by simp only [push_cast, seval]) rfl rfl rfl
                    · exact hK5559 () _ _ _ h (leSt_m [(0, 0), (1, 1), (2, 2)] [] (by simp only [push_cast, seval]) (by simp only [push_cast, seval]) rfl rfl rfl)
                  refine split_s h (fun g5563 h => ?_) (fun g5564 h => ?_)
                  · refine seq_np ?_
                    refine reg_f ?_
                    refine rs 2 [] [] (by kernel_rfl) allP_nil ?_
                    refine run_at 67 .i64 (Int.tmod i7 2) 1 g5563 (by kernel_rfl) ?_
                    refine rs 3 [] [] (by kernel_rfl) allP_nil ?_
                    refine rf [(0, .sl moves.length (fl moves)), (3, .ptr 0 0), (4, iS now25), (5, .ptr 1 0), (6, .ptr 2 0), (7, iS i7), (71, bS (c0q25.Task_e1 == 0))] [(0, .row 25 (Enc.cells c0q25)), (1, .row 23 (Enc.cells c1q28)), (2, .row 23 (Enc.cells c2q53)), (3, .row 25 (Enc.cells r5538.1)), (4, .row 27 (Enc.cells r5538.2.2))] 5 (by kernel_rfl) ?_
                    refine wk_id ?_
                    refine cond_sx h (by kernel_rfl) (fun g5565 h => ?_) (fun g5565 h => ?_)
                    · refine seq_np ?_
                      refine reg_f ?_
                      refine rs 1 [] [] (by kernel_rfl) allP_nil ?_
                      refine rf [(2, bS false)] [(0, .row 25 (Enc.cells c0q25)), (1, .row 23 (Enc.cells c1q28)), (2, .row 23 (Enc.cells c2q53)), (3, .row 25 (Enc.cells r5538.1)), (4, .row 27 (Enc.cells r5538.2.2))] 5 (by kernel_rfl) ?_
                      refine wk_id ?_
                      refine rt_cast ht4 ?_
                      obtain ⟨r0, h, e0⟩ := map_sx h
                      have e1 := hr4 r0 e0.symm
                      subst r0
                      obtain rfl := Option.some.inj h
                      refine ret_at (bS false) (by kernel_rfl) ?_
                      exact ret_e [] [] (by simp only [push_cast, seval]) (by simp only [push_cast, seval]) rfl rfl rfl
                    · exact hK5559 () _ _ _ h (leSt_m [(0, 0), (1, 1), (2, 2)] [] (by simp only [push_cast, seval]) (by simp only [push_cast, seval]) rfl rfl rfl)
                  refine chk_sx h (fun g5569 h => ?_)
                  refine seq_np ?_
                  refine reg_f ?_
                  have k5568 : 0 ≤ (Int.tmod i7 2) ∧ (Int.tmod i7 2) < 2 := by first | simpa only [Bool.and_eq_true, decide_eq_true_eq, bne_iff_ne, ne_eq] using g5569 | (simp at g5569 ⊢; omega)
                  exfalso
                  omega
                · rintro _ h
                  try dsimp only at h ⊢
                  unfold taskmilllaw_PollLosesNone_j7 at h
                  exact hK5396 (now25, c0q25, c1q28, c2q53) _ _ _ h (leSt_m [(0, 0), (1, 1), (2, 2)] [] (by simp only [push_cast, seval]) (by simp only [push_cast, seval]) rfl rfl rfl)
              · refine wk_id ?_
                refine seq_cut (A := S23 × Desc) (fun a => ([(0, .sl moves.length (fl moves)), (3, .ptr 0 0), (4, iS now25), (5, .ptr 1 0), (6, .ptr 2 0), (7, iS i7), (9, .ptr 3 0)], [(0, .row 25 (Enc.cells c0q25)), (1, .row 23 (Enc.cells c1q28)), (2, .row 23 (Enc.cells a.1)), (3, .row 25 (Enc.cells a.2))], 4)) (fun a => (taskmilllaw_PollLosesNone_j8 moves now25 i7 c0q25 c1q28 a.1 a.2) = some o4) (fun K5578 hK5578 => ?_) ?_
                · refine seq_np ?_
                  refine reg_f ?_
                  refine rs 2 [] [] (by kernel_rfl) allP_nil ?_
                  refine rf [(0, .sl moves.length (fl moves)), (3, .ptr 0 0), (4, iS now25), (5, .ptr 1 0), (6, .ptr 2 0), (7, iS i7), (8, iS (Int.tmod i7 2)), (9, .ptr 3 0), (73, bS (r5538.2.1 == 1))] [(0, .row 25 (Enc.cells c0q25)), (1, .row 23 (Enc.cells c1q28)), (2, .row 23 (Enc.cells c2q53)), (3, .row 25 (Enc.cells r5538.1)), (4, .row 27 (Enc.cells r5538.2.2))] 5 (by kernel_rfl) ?_
                  refine wk_id ?_
                  refine cond_sx h (by kernel_rfl) (fun g5587 h => ?_) (fun g5587 h => ?_)
                  · refine split_s h (fun g5579 h => ?_) (fun g5580 h => ?_)
                    · refine reg_f ?_
                      refine rs 1 [] [] (by kernel_rfl) allP_nil ?_
                      refine run_at 74 .i64 (Int.tmod i7 2) 0 g5579 (by kernel_rfl) ?_
                      refine rs 5 [] [] (by kernel_rfl) allP_nil ?_
                      refine rf [(0, .sl moves.length (fl moves)), (3, .ptr 0 0), (4, iS now25), (5, .ptr 1 0), (6, .ptr 2 0), (7, iS i7), (9, .ptr 3 0)] [(0, .row 25 (Enc.cells c0q25)), (1, .row 23 (Enc.cells c1q28)), (2, .row 23 [iS (IntKind.i64.wrap (c2q53.e0 + 1)), iS c2q53.e1]), (3, .row 25 (Enc.cells r5538.1)), (4, .row 27 (Enc.cells r5538.2.2))] 5 (by kernel_rfl) ?_
                      exact hK5578 ((S23.mk (IntKind.i64.wrap (c2q53.e0 + 1)) c2q53.e1), r5538.1) _ _ _ h (leSt_m [(0, 0), (1, 1), (2, 2), (3, 3)] [] (by simp only [push_cast, seval]) (by simp only [push_cast, seval]) rfl rfl rfl)
                    refine split_s h (fun g5581 h => ?_) (fun g5582 h => ?_)
                    · refine reg_f ?_
                      refine rs 1 [] [] (by kernel_rfl) allP_nil ?_
                      refine run_at 74 .i64 (Int.tmod i7 2) 1 g5581 (by kernel_rfl) ?_
                      refine rs 5 [] [] (by kernel_rfl) allP_nil ?_
                      refine rf [(0, .sl moves.length (fl moves)), (3, .ptr 0 0), (4, iS now25), (5, .ptr 1 0), (6, .ptr 2 0), (7, iS i7), (9, .ptr 3 0)] [(0, .row 25 (Enc.cells c0q25)), (1, .row 23 (Enc.cells c1q28)), (2, .row 23 [iS c2q53.e0, iS (IntKind.i64.wrap (c2q53.e1 + 1))]), (3, .row 25 (Enc.cells r5538.1)), (4, .row 27 (Enc.cells r5538.2.2))] 5 (by kernel_rfl) ?_
                      exact hK5578 ((S23.mk c2q53.e0 (IntKind.i64.wrap (c2q53.e1 + 1))), r5538.1) _ _ _ h (leSt_m [(0, 0), (1, 1), (2, 2), (3, 3)] [] (by simp only [push_cast, seval]) (by simp only [push_cast, seval]) rfl rfl rfl)
                    refine chk_sx h (fun g5586 h => ?_)
                    refine reg_f ?_
                    have k5585 : 0 ≤ (Int.tmod i7 2) ∧ (Int.tmod i7 2) < 2 := by first | simpa only [Bool.and_eq_true, decide_eq_true_eq, bne_iff_ne, ne_eq] using g5586 | (simp at g5586 ⊢; omega)
                    exfalso
                    omega
                  · exact hK5578 (c2q53, r5538.1) _ _ _ h (leSt_m [(0, 0), (1, 1), (2, 2), (3, 3)] [] (by simp only [push_cast, seval]) (by simp only [push_cast, seval]) rfl rfl rfl)
                · rintro ⟨c2q72, c3q48⟩ h
                  try dsimp only at h ⊢
                  unfold taskmilllaw_PollLosesNone_j8 at h
                  refine reg_f ?_
                  refine rs 2 [] [] (by kernel_rfl) allP_nil ?_
                  refine rf [(0, .sl moves.length (fl moves)), (3, .ptr 0 0), (4, iS now25), (5, .ptr 1 0), (6, .ptr 2 0), (7, iS i7)] [(0, .row 25 (Enc.cells c3q48)), (1, .row 23 (Enc.cells c1q28)), (2, .row 23 (Enc.cells c2q72)), (3, .row 25 (Enc.cells c3q48))] 4 (by kernel_rfl) ?_
                  exact hK5536 (now25, c3q48, c1q28, c2q72) _ _ _ h (leSt_m [(0, 0), (1, 1), (2, 2)] [] (by simp only [push_cast, seval]) (by simp only [push_cast, seval]) rfl rfl rfl)
            · refine seq_np ?_
              refine reg_f ?_
              refine rs 2 [] [] (by kernel_rfl) allP_nil ?_
              refine rf [(0, .sl moves.length (fl moves)), (3, .ptr 0 0), (4, iS now25), (5, .ptr 1 0), (6, .ptr 2 0), (7, iS i7), (8, iS (Int.tmod i7 2)), (51, iS (ix moves i7)), (80, bS ((ix moves i7) == 1))] [(0, .row 25 (Enc.cells c0q25)), (1, .row 23 (Enc.cells c1q28)), (2, .row 23 (Enc.cells c2q53))] 3 (by kernel_rfl) ?_
              refine wk_id ?_
              refine cond_sx h (by kernel_rfl) (fun g5667 h => ?_) (fun g5667 h => ?_)
              · refine split_s h (fun g5589 h => ?_) (fun g5590 h => ?_)
                · refine seq_np ?_
                  refine reg_f ?_
                  refine rs 2 [] [] (by kernel_rfl) allP_nil ?_
                  refine run_at 82 .i64 (Int.tmod i7 2) 0 g5589 (by kernel_rfl) ?_
                  refine rs 3 [] [] (by kernel_rfl) allP_nil ?_
                  refine rf [(0, .sl moves.length (fl moves)), (3, .ptr 0 0), (4, iS now25), (5, .ptr 1 0), (6, .ptr 2 0), (7, iS i7), (8, iS (Int.tmod i7 2)), (12, bS c0q25.Ready_e0)] [(0, .row 25 (Enc.cells c0q25)), (1, .row 23 (Enc.cells c1q28)), (2, .row 23 (Enc.cells c2q53))] 3 (by kernel_rfl) ?_
                  refine wk_id ?_
                  refine seq_np ?_
                  refine reg_f ?_
                  refine rs 2 [] [] (by kernel_rfl) allP_nil ?_
                  obtain ⟨r5592, hr5592, h⟩ := bind_sx h
                  refine run_call 8 [.agg (Enc.cells c0q25), iS (Int.tmod i7 2)] (some 89) (by kernel_rfl) ?_
                  refine call_0 (poll_Fire_spec c0q25 (Int.tmod i7 2) r5592 hr5592) (by simp only [push_cast, seval]) (by simp only [push_cast, seval]) ?_
                  refine back_f ?_
                  refine rs 9 [] [] (by kernel_rfl) allP_nil ?_
                  refine rf [(0, .sl moves.length (fl moves)), (3, .ptr 0 0), (4, iS now25), (5, .ptr 1 0), (6, .ptr 2 0), (7, iS i7), (8, iS (Int.tmod i7 2)), (12, bS c0q25.Ready_e0), (13, .ptr 3 0), (14, iS r5592.2.1), (15, .ptr 4 0)] [(0, .row 25 (Enc.cells c0q25)), (1, .row 23 (Enc.cells c1q28)), (2, .row 23 (Enc.cells c2q53)), (3, .row 25 (Enc.cells r5592.1)), (4, .row 27 (Enc.cells r5592.2.2))] 5 (by kernel_rfl) ?_
                  refine wk_id ?_
                  refine seq_np ?_
                  refine seq_np ?_
                  refine reg_f ?_
                  refine rs 3 [] [] (by kernel_rfl) allP_nil ?_
                  refine rf [(0, .sl moves.length (fl moves)), (3, .ptr 0 0), (4, iS now25), (5, .ptr 1 0), (6, .ptr 2 0), (7, iS i7), (8, iS (Int.tmod i7 2)), (12, bS c0q25.Ready_e0), (13, .ptr 3 0), (14, iS r5592.2.1), (95, bS (r5592.2.2.Code != 0))] [(0, .row 25 (Enc.cells c0q25)), (1, .row 23 (Enc.cells c1q28)), (2, .row 23 (Enc.cells c2q53)), (3, .row 25 (Enc.cells r5592.1)), (4, .row 27 (Enc.cells r5592.2.2))] 5 (by kernel_rfl) ?_
                  refine wk_id ?_
                  refine cond_sx h (by kernel_rfl) (fun g5620 h => ?_) (fun g5620 h => ?_)
                  · refine seq_np ?_
                    refine reg_f ?_
                    refine rs 1 [] [] (by kernel_rfl) allP_nil ?_
                    refine rf [(2, bS false)] [(0, .row 25 (Enc.cells c0q25)), (1, .row 23 (Enc.cells c1q28)), (2, .row 23 (Enc.cells c2q53)), (3, .row 25 (Enc.cells r5592.1)), (4, .row 27 (Enc.cells r5592.2.2))] 5 (by kernel_rfl) ?_
                    refine wk_id ?_
                    refine rt_cast ht4 ?_
                    obtain ⟨r0, h, e0⟩ := map_sx h
                    have e1 := hr4 r0 e0.symm
                    subst r0
                    obtain rfl := Option.some.inj h
                    refine ret_at (bS false) (by kernel_rfl) ?_
                    exact ret_e [] [] (by simp only [push_cast, seval]) (by simp only [push_cast, seval]) rfl rfl rfl
                  · refine wk_id ?_
                    refine seq_cut (A := Int × Int × Desc) (fun a => ([(0, .sl moves.length (fl moves)), (3, .ptr 0 0), (4, iS now25), (5, .ptr 1 0), (6, .ptr 2 0), (7, iS i7), (8, iS (Int.tmod i7 2)), (13, .ptr 3 0), (14, iS a.1)], [(0, .row 25 (Enc.cells c0q25)), (1, .row 23 [iS a.2.1, iS c1q28.e1]), (2, .row 23 (Enc.cells c2q53)), (3, .row 25 (Enc.cells a.2.2))], 4)) (fun a => (taskmilllaw_PollLosesNone_j12 moves now25 i7 c0q25 c1q28 c2q53 a.1 a.2.1 a.2.2) = some o4) (fun K5597 hK5597 => ?_) ?_
                    · refine seq_cut (A := Unit) (fun _ => ([(0, .sl moves.length (fl moves)), (3, .ptr 0 0), (4, iS now25), (5, .ptr 1 0), (6, .ptr 2 0), (7, iS i7), (8, iS (Int.tmod i7 2)), (13, .ptr 3 0), (14, iS r5592.2.1), (102, bS ((!c0q25.Ready_e0) && (!c0q25.Closed)))], [(0, .row 25 (Enc.cells c0q25)), (1, .row 23 (Enc.cells c1q28)), (2, .row 23 (Enc.cells c2q53)), (3, .row 25 (Enc.cells r5592.1)), (4, .row 27 (Enc.cells r5592.2.2))], 5)) (fun _ => True) (fun K5599 hK5599 => ?_) (fun _ _ => ?_)
                      · refine reg_f ?_
                        refine rs 3 [] [] (by kernel_rfl) allP_nil ?_
                        refine run_split 98 (!c0q25.Ready_e0) (.inl (by kernel_rfl)) (fun g5600 => ?_) (fun g5600 => ?_)
                        · refine rs 4 [] [] (by kernel_rfl) allP_nil ?_
                          refine rf [(0, .sl moves.length (fl moves)), (3, .ptr 0 0), (4, iS now25), (5, .ptr 1 0), (6, .ptr 2 0), (7, iS i7), (8, iS (Int.tmod i7 2)), (13, .ptr 3 0), (14, iS r5592.2.1), (102, bS (!c0q25.Closed))] [(0, .row 25 (Enc.cells c0q25)), (1, .row 23 (Enc.cells c1q28)), (2, .row 23 (Enc.cells c2q53)), (3, .row 25 (Enc.cells r5592.1)), (4, .row 27 (Enc.cells r5592.2.2))] 5 (by kernel_rfl) ?_
                          exact hK5599 () _ _ _ trivial (leSt_m [(0, 0), (1, 1), (2, 2), (3, 3), (4, 4)] [] (by (try simp only [g5600]) <;> simp only [push_cast, seval]) (by (try simp only [g5600]) <;> simp only [push_cast, seval]) rfl rfl rfl)
                        · refine rs 4 [] [] (by kernel_rfl) allP_nil ?_
                          refine rf [(0, .sl moves.length (fl moves)), (3, .ptr 0 0), (4, iS now25), (5, .ptr 1 0), (6, .ptr 2 0), (7, iS i7), (8, iS (Int.tmod i7 2)), (13, .ptr 3 0), (14, iS r5592.2.1), (102, bS false)] [(0, .row 25 (Enc.cells c0q25)), (1, .row 23 (Enc.cells c1q28)), (2, .row 23 (Enc.cells c2q53)), (3, .row 25 (Enc.cells r5592.1)), (4, .row 27 (Enc.cells r5592.2.2))] 5 (by kernel_rfl) ?_
                          exact hK5599 () _ _ _ trivial (leSt_m [(0, 0), (1, 1), (2, 2), (3, 3), (4, 4)] [] (by (try simp only [g5600]) <;> simp only [push_cast, seval]) (by (try simp only [g5600]) <;> simp only [push_cast, seval]) rfl rfl rfl)
                      · dsimp only
                        refine cond_sx h (by kernel_rfl) (fun g5601 h => ?_) (fun g5601 h => ?_)
                        · refine reg_f ?_
                          refine rs 1 [] [] (by kernel_rfl) allP_nil ?_
                          refine run_at 103 .i64 (Int.tmod i7 2) 0 g5589 (by kernel_rfl) ?_
                          refine rs 5 [] [] (by kernel_rfl) allP_nil ?_
                          refine rf [(0, .sl moves.length (fl moves)), (3, .ptr 0 0), (4, iS now25), (5, .ptr 1 0), (6, .ptr 2 0), (7, iS i7), (8, iS (Int.tmod i7 2)), (13, .ptr 3 0), (14, iS r5592.2.1)] [(0, .row 25 (Enc.cells c0q25)), (1, .row 23 [iS (IntKind.i64.wrap (c1q28.e0 + 1)), iS c1q28.e1]), (2, .row 23 (Enc.cells c2q53)), (3, .row 25 (Enc.cells r5592.1)), (4, .row 27 (Enc.cells r5592.2.2))] 5 (by kernel_rfl) ?_
                          exact hK5597 (r5592.2.1, (IntKind.i64.wrap (c1q28.e0 + 1)), r5592.1) _ _ _ h (leSt_m [(0, 0), (1, 1), (2, 2), (3, 3)] [] (by simp only [push_cast, seval]) (by simp only [push_cast, seval]) rfl rfl rfl)
                        · exact hK5597 (r5592.2.1, c1q28.e0, r5592.1) _ _ _ h (leSt_m [(0, 0), (1, 1), (2, 2), (3, 3)] [] (by simp only [push_cast, seval]) (by simp only [push_cast, seval]) rfl rfl rfl)
                    · rintro ⟨t22, c1_e0q11, c3q49⟩ h
                      try dsimp only at h ⊢
                      unfold taskmilllaw_PollLosesNone_j12 at h
                      refine seq_cut (A := S23) (fun a => ([(0, .sl moves.length (fl moves)), (3, .ptr 0 0), (4, iS now25), (5, .ptr 1 0), (6, .ptr 2 0), (7, iS i7), (13, .ptr 3 0)], [(0, .row 25 (Enc.cells c0q25)), (1, .row 23 [iS c1_e0q11, iS c1q28.e1]), (2, .row 23 (Enc.cells a)), (3, .row 25 (Enc.cells c3q49))], 4)) (fun a => (taskmilllaw_PollLosesNone_j11 moves now25 i7 c0q25 c1q28 c1_e0q11 c3q49 a) = some o4) (fun K5610 hK5610 => ?_) ?_
                      · refine seq_np ?_
                        refine reg_f ?_
                        refine rs 2 [] [] (by kernel_rfl) allP_nil ?_
                        refine rf [(0, .sl moves.length (fl moves)), (3, .ptr 0 0), (4, iS now25), (5, .ptr 1 0), (6, .ptr 2 0), (7, iS i7), (8, iS (Int.tmod i7 2)), (13, .ptr 3 0), (109, bS (decide ((0 : Int) < t22)))] [(0, .row 25 (Enc.cells c0q25)), (1, .row 23 [iS c1_e0q11, iS c1q28.e1]), (2, .row 23 (Enc.cells c2q53)), (3, .row 25 (Enc.cells c3q49))] 4 (by kernel_rfl) ?_
                        refine wk_id ?_
                        refine cond_sx h (by kernel_rfl) (fun g5619 h => ?_) (fun g5619 h => ?_)
                        · refine split_s h (fun g5611 h => ?_) (fun g5612 h => ?_)
                          · refine reg_f ?_
                            refine rs 1 [] [] (by kernel_rfl) allP_nil ?_
                            refine run_at 110 .i64 (Int.tmod i7 2) 0 g5611 (by kernel_rfl) ?_
                            refine rs 5 [] [] (by kernel_rfl) allP_nil ?_
                            refine rf [(0, .sl moves.length (fl moves)), (3, .ptr 0 0), (4, iS now25), (5, .ptr 1 0), (6, .ptr 2 0), (7, iS i7), (13, .ptr 3 0)] [(0, .row 25 (Enc.cells c0q25)), (1, .row 23 [iS c1_e0q11, iS c1q28.e1]), (2, .row 23 [iS (IntKind.i64.wrap (c2q53.e0 + 1)), iS c2q53.e1]), (3, .row 25 (Enc.cells c3q49))] 4 (by kernel_rfl) ?_
                            exact hK5610 ((S23.mk (IntKind.i64.wrap (c2q53.e0 + 1)) c2q53.e1)) _ _ _ h (leSt_m [(0, 0), (1, 1), (2, 2), (3, 3)] [] (by simp only [push_cast, seval]) (by simp only [push_cast, seval]) rfl rfl rfl)
                          refine split_s h (fun g5613 h => ?_) (fun g5614 h => ?_)
                          · refine reg_f ?_
                            refine rs 1 [] [] (by kernel_rfl) allP_nil ?_
                            refine run_at 110 .i64 (Int.tmod i7 2) 1 g5613 (by kernel_rfl) ?_
                            refine rs 5 [] [] (by kernel_rfl) allP_nil ?_
                            refine rf [(0, .sl moves.length (fl moves)), (3, .ptr 0 0), (4, iS now25), (5, .ptr 1 0), (6, .ptr 2 0), (7, iS i7), (13, .ptr 3 0)] [(0, .row 25 (Enc.cells c0q25)), (1, .row 23 [iS c1_e0q11, iS c1q28.e1]), (2, .row 23 [iS c2q53.e0, iS (IntKind.i64.wrap (c2q53.e1 + 1))]), (3, .row 25 (Enc.cells c3q49))] 4 (by kernel_rfl) ?_
                            exact hK5610 ((S23.mk c2q53.e0 (IntKind.i64.wrap (c2q53.e1 + 1)))) _ _ _ h (leSt_m [(0, 0), (1, 1), (2, 2), (3, 3)] [] (by simp only [push_cast, seval]) (by simp only [push_cast, seval]) rfl rfl rfl)
                          refine chk_sx h (fun g5618 h => ?_)
                          refine reg_f ?_
                          have k5617 : 0 ≤ (Int.tmod i7 2) ∧ (Int.tmod i7 2) < 2 := by first | simpa only [Bool.and_eq_true, decide_eq_true_eq, bne_iff_ne, ne_eq] using g5618 | (simp at g5618 ⊢; omega)
                          exfalso
                          omega
                        · exact hK5610 (c2q53) _ _ _ h (leSt_m [(0, 0), (1, 1), (2, 2), (3, 3)] [] (by simp only [push_cast, seval]) (by simp only [push_cast, seval]) rfl rfl rfl)
                      · rintro c2q73 h
                        try dsimp only at h ⊢
                        unfold taskmilllaw_PollLosesNone_j11 at h
                        refine reg_f ?_
                        refine rs 2 [] [] (by kernel_rfl) allP_nil ?_
                        refine rf [(0, .sl moves.length (fl moves)), (3, .ptr 0 0), (4, iS now25), (5, .ptr 1 0), (6, .ptr 2 0), (7, iS i7)] [(0, .row 25 (Enc.cells c3q49)), (1, .row 23 [iS c1_e0q11, iS c1q28.e1]), (2, .row 23 (Enc.cells c2q73)), (3, .row 25 (Enc.cells c3q49))] 4 (by kernel_rfl) ?_
                        exact hK5536 (now25, c3q49, (S23.mk c1_e0q11 c1q28.e1), c2q73) _ _ _ h (leSt_m [(0, 0), (1, 1), (2, 2)] [] (by simp only [push_cast, seval]) (by simp only [push_cast, seval]) rfl rfl rfl)
                refine split_s h (fun g5621 h => ?_) (fun g5622 h => ?_)
                · refine seq_np ?_
                  refine reg_f ?_
                  refine rs 2 [] [] (by kernel_rfl) allP_nil ?_
                  refine run_at 82 .i64 (Int.tmod i7 2) 1 g5621 (by kernel_rfl) ?_
                  refine rs 3 [] [] (by kernel_rfl) allP_nil ?_
                  refine rf [(0, .sl moves.length (fl moves)), (3, .ptr 0 0), (4, iS now25), (5, .ptr 1 0), (6, .ptr 2 0), (7, iS i7), (8, iS (Int.tmod i7 2)), (12, bS c0q25.Ready_e1)] [(0, .row 25 (Enc.cells c0q25)), (1, .row 23 (Enc.cells c1q28)), (2, .row 23 (Enc.cells c2q53))] 3 (by kernel_rfl) ?_
                  refine wk_id ?_
                  refine seq_np ?_
                  refine reg_f ?_
                  refine rs 2 [] [] (by kernel_rfl) allP_nil ?_
                  obtain ⟨r5624, hr5624, h⟩ := bind_sx h
                  refine run_call 8 [.agg (Enc.cells c0q25), iS (Int.tmod i7 2)] (some 89) (by kernel_rfl) ?_
                  refine call_0 (poll_Fire_spec c0q25 (Int.tmod i7 2) r5624 hr5624) (by simp only [push_cast, seval]) (by simp only [push_cast, seval]) ?_
                  refine back_f ?_
                  refine rs 9 [] [] (by kernel_rfl) allP_nil ?_
                  refine rf [(0, .sl moves.length (fl moves)), (3, .ptr 0 0), (4, iS now25), (5, .ptr 1 0), (6, .ptr 2 0), (7, iS i7), (8, iS (Int.tmod i7 2)), (12, bS c0q25.Ready_e1), (13, .ptr 3 0), (14, iS r5624.2.1), (15, .ptr 4 0)] [(0, .row 25 (Enc.cells c0q25)), (1, .row 23 (Enc.cells c1q28)), (2, .row 23 (Enc.cells c2q53)), (3, .row 25 (Enc.cells r5624.1)), (4, .row 27 (Enc.cells r5624.2.2))] 5 (by kernel_rfl) ?_
                  refine wk_id ?_
                  refine seq_np ?_
                  refine seq_np ?_
                  refine reg_f ?_
                  refine rs 3 [] [] (by kernel_rfl) allP_nil ?_
                  refine rf [(0, .sl moves.length (fl moves)), (3, .ptr 0 0), (4, iS now25), (5, .ptr 1 0), (6, .ptr 2 0), (7, iS i7), (8, iS (Int.tmod i7 2)), (12, bS c0q25.Ready_e1), (13, .ptr 3 0), (14, iS r5624.2.1), (95, bS (r5624.2.2.Code != 0))] [(0, .row 25 (Enc.cells c0q25)), (1, .row 23 (Enc.cells c1q28)), (2, .row 23 (Enc.cells c2q53)), (3, .row 25 (Enc.cells r5624.1)), (4, .row 27 (Enc.cells r5624.2.2))] 5 (by kernel_rfl) ?_
                  refine wk_id ?_
                  refine cond_sx h (by kernel_rfl) (fun g5652 h => ?_) (fun g5652 h => ?_)
                  · refine seq_np ?_
                    refine reg_f ?_
                    refine rs 1 [] [] (by kernel_rfl) allP_nil ?_
                    refine rf [(2, bS false)] [(0, .row 25 (Enc.cells c0q25)), (1, .row 23 (Enc.cells c1q28)), (2, .row 23 (Enc.cells c2q53)), (3, .row 25 (Enc.cells r5624.1)), (4, .row 27 (Enc.cells r5624.2.2))] 5 (by kernel_rfl) ?_
                    refine wk_id ?_
                    refine rt_cast ht4 ?_
                    obtain ⟨r0, h, e0⟩ := map_sx h
                    have e1 := hr4 r0 e0.symm
                    subst r0
                    obtain rfl := Option.some.inj h
                    refine ret_at (bS false) (by kernel_rfl) ?_
                    exact ret_e [] [] (by simp only [push_cast, seval]) (by simp only [push_cast, seval]) rfl rfl rfl
                  · refine wk_id ?_
                    refine seq_cut (A := Int × Int × Desc) (fun a => ([(0, .sl moves.length (fl moves)), (3, .ptr 0 0), (4, iS now25), (5, .ptr 1 0), (6, .ptr 2 0), (7, iS i7), (8, iS (Int.tmod i7 2)), (13, .ptr 3 0), (14, iS a.1)], [(0, .row 25 (Enc.cells c0q25)), (1, .row 23 [iS c1q28.e0, iS a.2.1]), (2, .row 23 (Enc.cells c2q53)), (3, .row 25 (Enc.cells a.2.2))], 4)) (fun a => (taskmilllaw_PollLosesNone_j10 moves now25 i7 c0q25 c1q28 c2q53 a.1 a.2.1 a.2.2) = some o4) (fun K5629 hK5629 => ?_) ?_
                    · refine seq_cut (A := Unit) (fun _ => ([(0, .sl moves.length (fl moves)), (3, .ptr 0 0), (4, iS now25), (5, .ptr 1 0), (6, .ptr 2 0), (7, iS i7), (8, iS (Int.tmod i7 2)), (13, .ptr 3 0), (14, iS r5624.2.1), (102, bS ((!c0q25.Ready_e1) && (!c0q25.Closed)))], [(0, .row 25 (Enc.cells c0q25)), (1, .row 23 (Enc.cells c1q28)), (2, .row 23 (Enc.cells c2q53)), (3, .row 25 (Enc.cells r5624.1)), (4, .row 27 (Enc.cells r5624.2.2))], 5)) (fun _ => True) (fun K5631 hK5631 => ?_) (fun _ _ => ?_)
                      · refine reg_f ?_
                        refine rs 3 [] [] (by kernel_rfl) allP_nil ?_
                        refine run_split 98 (!c0q25.Ready_e1) (.inl (by kernel_rfl)) (fun g5632 => ?_) (fun g5632 => ?_)
                        · refine rs 4 [] [] (by kernel_rfl) allP_nil ?_
                          refine rf [(0, .sl moves.length (fl moves)), (3, .ptr 0 0), (4, iS now25), (5, .ptr 1 0), (6, .ptr 2 0), (7, iS i7), (8, iS (Int.tmod i7 2)), (13, .ptr 3 0), (14, iS r5624.2.1), (102, bS (!c0q25.Closed))] [(0, .row 25 (Enc.cells c0q25)), (1, .row 23 (Enc.cells c1q28)), (2, .row 23 (Enc.cells c2q53)), (3, .row 25 (Enc.cells r5624.1)), (4, .row 27 (Enc.cells r5624.2.2))] 5 (by kernel_rfl) ?_
                          exact hK5631 () _ _ _ trivial (leSt_m [(0, 0), (1, 1), (2, 2), (3, 3), (4, 4)] [] (by (try simp only [g5632]) <;> simp only [push_cast, seval]) (by (try simp only [g5632]) <;> simp only [push_cast, seval]) rfl rfl rfl)
                        · refine rs 4 [] [] (by kernel_rfl) allP_nil ?_
                          refine rf [(0, .sl moves.length (fl moves)), (3, .ptr 0 0), (4, iS now25), (5, .ptr 1 0), (6, .ptr 2 0), (7, iS i7), (8, iS (Int.tmod i7 2)), (13, .ptr 3 0), (14, iS r5624.2.1), (102, bS false)] [(0, .row 25 (Enc.cells c0q25)), (1, .row 23 (Enc.cells c1q28)), (2, .row 23 (Enc.cells c2q53)), (3, .row 25 (Enc.cells r5624.1)), (4, .row 27 (Enc.cells r5624.2.2))] 5 (by kernel_rfl) ?_
                          exact hK5631 () _ _ _ trivial (leSt_m [(0, 0), (1, 1), (2, 2), (3, 3), (4, 4)] [] (by (try simp only [g5632]) <;> simp only [push_cast, seval]) (by (try simp only [g5632]) <;> simp only [push_cast, seval]) rfl rfl rfl)
                      · dsimp only
                        refine cond_sx h (by kernel_rfl) (fun g5633 h => ?_) (fun g5633 h => ?_)
                        · refine reg_f ?_
                          refine rs 1 [] [] (by kernel_rfl) allP_nil ?_
                          refine run_at 103 .i64 (Int.tmod i7 2) 1 g5621 (by kernel_rfl) ?_
                          refine rs 5 [] [] (by kernel_rfl) allP_nil ?_
                          refine rf [(0, .sl moves.length (fl moves)), (3, .ptr 0 0), (4, iS now25), (5, .ptr 1 0), (6, .ptr 2 0), (7, iS i7), (8, iS (Int.tmod i7 2)), (13, .ptr 3 0), (14, iS r5624.2.1)] [(0, .row 25 (Enc.cells c0q25)), (1, .row 23 [iS c1q28.e0, iS (IntKind.i64.wrap (c1q28.e1 + 1))]), (2, .row 23 (Enc.cells c2q53)), (3, .row 25 (Enc.cells r5624.1)), (4, .row 27 (Enc.cells r5624.2.2))] 5 (by kernel_rfl) ?_
                          exact hK5629 (r5624.2.1, (IntKind.i64.wrap (c1q28.e1 + 1)), r5624.1) _ _ _ h (leSt_m [(0, 0), (1, 1), (2, 2), (3, 3)] [] (by simp only [push_cast, seval]) (by simp only [push_cast, seval]) rfl rfl rfl)
                        · exact hK5629 (r5624.2.1, c1q28.e1, r5624.1) _ _ _ h (leSt_m [(0, 0), (1, 1), (2, 2), (3, 3)] [] (by simp only [push_cast, seval]) (by simp only [push_cast, seval]) rfl rfl rfl)
                    · rintro ⟨t23, c1_e1q11, c3q50⟩ h
                      try dsimp only at h ⊢
                      unfold taskmilllaw_PollLosesNone_j10 at h
                      refine seq_cut (A := S23) (fun a => ([(0, .sl moves.length (fl moves)), (3, .ptr 0 0), (4, iS now25), (5, .ptr 1 0), (6, .ptr 2 0), (7, iS i7), (13, .ptr 3 0)], [(0, .row 25 (Enc.cells c0q25)), (1, .row 23 [iS c1q28.e0, iS c1_e1q11]), (2, .row 23 (Enc.cells a)), (3, .row 25 (Enc.cells c3q50))], 4)) (fun a => (taskmilllaw_PollLosesNone_j9 moves now25 i7 c0q25 c1q28 c1_e1q11 c3q50 a) = some o4) (fun K5642 hK5642 => ?_) ?_
                      · refine seq_np ?_
                        refine reg_f ?_
                        refine rs 2 [] [] (by kernel_rfl) allP_nil ?_
                        refine rf [(0, .sl moves.length (fl moves)), (3, .ptr 0 0), (4, iS now25), (5, .ptr 1 0), (6, .ptr 2 0), (7, iS i7), (8, iS (Int.tmod i7 2)), (13, .ptr 3 0), (109, bS (decide ((0 : Int) < t23)))] [(0, .row 25 (Enc.cells c0q25)), (1, .row 23 [iS c1q28.e0, iS c1_e1q11]), (2, .row 23 (Enc.cells c2q53)), (3, .row 25 (Enc.cells c3q50))] 4 (by kernel_rfl) ?_
                        refine wk_id ?_
                        refine cond_sx h (by kernel_rfl) (fun g5651 h => ?_) (fun g5651 h => ?_)
                        · refine split_s h (fun g5643 h => ?_) (fun g5644 h => ?_)
                          · refine reg_f ?_
                            refine rs 1 [] [] (by kernel_rfl) allP_nil ?_
                            refine run_at 110 .i64 (Int.tmod i7 2) 0 g5643 (by kernel_rfl) ?_
                            refine rs 5 [] [] (by kernel_rfl) allP_nil ?_
                            refine rf [(0, .sl moves.length (fl moves)), (3, .ptr 0 0), (4, iS now25), (5, .ptr 1 0), (6, .ptr 2 0), (7, iS i7), (13, .ptr 3 0)] [(0, .row 25 (Enc.cells c0q25)), (1, .row 23 [iS c1q28.e0, iS c1_e1q11]), (2, .row 23 [iS (IntKind.i64.wrap (c2q53.e0 + 1)), iS c2q53.e1]), (3, .row 25 (Enc.cells c3q50))] 4 (by kernel_rfl) ?_
                            exact hK5642 ((S23.mk (IntKind.i64.wrap (c2q53.e0 + 1)) c2q53.e1)) _ _ _ h (leSt_m [(0, 0), (1, 1), (2, 2), (3, 3)] [] (by simp only [push_cast, seval]) (by simp only [push_cast, seval]) rfl rfl rfl)
                          refine split_s h (fun g5645 h => ?_) (fun g5646 h => ?_)
                          · refine reg_f ?_
                            refine rs 1 [] [] (by kernel_rfl) allP_nil ?_
                            refine run_at 110 .i64 (Int.tmod i7 2) 1 g5645 (by kernel_rfl) ?_
                            refine rs 5 [] [] (by kernel_rfl) allP_nil ?_
                            refine rf [(0, .sl moves.length (fl moves)), (3, .ptr 0 0), (4, iS now25), (5, .ptr 1 0), (6, .ptr 2 0), (7, iS i7), (13, .ptr 3 0)] [(0, .row 25 (Enc.cells c0q25)), (1, .row 23 [iS c1q28.e0, iS c1_e1q11]), (2, .row 23 [iS c2q53.e0, iS (IntKind.i64.wrap (c2q53.e1 + 1))]), (3, .row 25 (Enc.cells c3q50))] 4 (by kernel_rfl) ?_
                            exact hK5642 ((S23.mk c2q53.e0 (IntKind.i64.wrap (c2q53.e1 + 1)))) _ _ _ h (leSt_m [(0, 0), (1, 1), (2, 2), (3, 3)] [] (by simp only [push_cast, seval]) (by simp only [push_cast, seval]) rfl rfl rfl)
                          refine chk_sx h (fun g5650 h => ?_)
                          refine reg_f ?_
                          have k5649 : 0 ≤ (Int.tmod i7 2) ∧ (Int.tmod i7 2) < 2 := by first | simpa only [Bool.and_eq_true, decide_eq_true_eq, bne_iff_ne, ne_eq] using g5650 | (simp at g5650 ⊢; omega)
                          exfalso
                          omega
                        · exact hK5642 (c2q53) _ _ _ h (leSt_m [(0, 0), (1, 1), (2, 2), (3, 3)] [] (by simp only [push_cast, seval]) (by simp only [push_cast, seval]) rfl rfl rfl)
                      · rintro c2q74 h
                        try dsimp only at h ⊢
                        unfold taskmilllaw_PollLosesNone_j9 at h
                        refine reg_f ?_
                        refine rs 2 [] [] (by kernel_rfl) allP_nil ?_
                        refine rf [(0, .sl moves.length (fl moves)), (3, .ptr 0 0), (4, iS now25), (5, .ptr 1 0), (6, .ptr 2 0), (7, iS i7)] [(0, .row 25 (Enc.cells c3q50)), (1, .row 23 [iS c1q28.e0, iS c1_e1q11]), (2, .row 23 (Enc.cells c2q74)), (3, .row 25 (Enc.cells c3q50))] 4 (by kernel_rfl) ?_
                        exact hK5536 (now25, c3q50, (S23.mk c1q28.e0 c1_e1q11), c2q74) _ _ _ h (leSt_m [(0, 0), (1, 1), (2, 2)] [] (by simp only [push_cast, seval]) (by simp only [push_cast, seval]) rfl rfl rfl)
                refine chk_sx h (fun g5656 h => ?_)
                refine seq_np ?_
                refine reg_f ?_
                have k5655 : 0 ≤ (Int.tmod i7 2) ∧ (Int.tmod i7 2) < 2 := by first | simpa only [Bool.and_eq_true, decide_eq_true_eq, bne_iff_ne, ne_eq] using g5656 | (simp at g5656 ⊢; omega)
                exfalso
                omega
              · refine seq_np ?_
                refine reg_f ?_
                refine rs 2 [] [] (by kernel_rfl) allP_nil ?_
                refine rf [(0, .sl moves.length (fl moves)), (3, .ptr 0 0), (4, iS now25), (5, .ptr 1 0), (6, .ptr 2 0), (7, iS i7), (8, iS (Int.tmod i7 2)), (51, iS (ix moves i7)), (116, bS ((ix moves i7) == 2))] [(0, .row 25 (Enc.cells c0q25)), (1, .row 23 (Enc.cells c1q28)), (2, .row 23 (Enc.cells c2q53))] 3 (by kernel_rfl) ?_
                refine wk_id ?_
                refine cond_sx h (by kernel_rfl) (fun g5666 h => ?_) (fun g5666 h => ?_)
                · refine seq_np ?_
                  refine reg_f ?_
                  refine rs 3 [] [] (by kernel_rfl) allP_nil ?_
                  refine rf [(0, .sl moves.length (fl moves)), (3, .ptr 0 0), (4, iS (IntKind.i64.wrap (now25 + 1))), (5, .ptr 1 0), (6, .ptr 2 0), (7, iS i7)] [(0, .row 25 (Enc.cells c0q25)), (1, .row 23 (Enc.cells c1q28)), (2, .row 23 (Enc.cells c2q53))] 3 (by kernel_rfl) ?_
                  refine wk_id ?_
                  refine seq_np ?_
                  refine reg_f ?_
                  refine rs 2 [] [] (by kernel_rfl) allP_nil ?_
                  obtain ⟨r5658, hr5658, h⟩ := bind_sx h
                  refine call_x (poll_Tick_spec c0q25 (IntKind.i64.wrap (now25 + 1)) r5658 hr5658) (args := [.agg (Enc.cells c0q25), iS (IntKind.i64.wrap (now25 + 1))]) (dst := (some 123)) (by kernel_rfl) [(0, .row 25 (Enc.cells c0q25)), (1, .row 23 (Enc.cells c1q28)), (2, .row 23 (Enc.cells c2q53))] 3 (by kernel_rfl) [] [] (.tup [.agg (Enc.cells r5658.1), .own 3 0 r5658.2.2.length, .agg (Enc.cells r5658.2.1)]) [(3, .row 3 (fl r5658.2.2))] (by simp only [push_cast, seval]) (by simp only [push_cast, seval]) (by kernel_rfl) (.inl rfl) (by simp only [push_cast, seval]) (by simp only [push_cast, seval]) ?_
                  refine rs 9 [] [] (by kernel_rfl) allP_nil ?_
                  refine rf [(0, .sl moves.length (fl moves)), (3, .ptr 0 0), (4, iS (IntKind.i64.wrap (now25 + 1))), (5, .ptr 1 0), (6, .ptr 2 0), (7, iS i7), (16, .ptr 4 0), (18, .ptr 5 0)] [(0, .row 25 (Enc.cells c0q25)), (1, .row 23 (Enc.cells c1q28)), (2, .row 23 (Enc.cells c2q53)), (3, .row 3 (fl r5658.2.2)), (4, .row 25 (Enc.cells r5658.1)), (5, .row 27 (Enc.cells r5658.2.1))] 6 (by kernel_rfl) ?_
                  refine wk_id ?_
                  refine seq_np ?_
                  refine seq_np ?_
                  refine reg_f ?_
                  refine rs 3 [] [] (by kernel_rfl) allP_nil ?_
                  refine rf [(0, .sl moves.length (fl moves)), (3, .ptr 0 0), (4, iS (IntKind.i64.wrap (now25 + 1))), (5, .ptr 1 0), (6, .ptr 2 0), (7, iS i7), (16, .ptr 4 0), (129, bS (r5658.2.1.Code != 0))] [(0, .row 25 (Enc.cells c0q25)), (1, .row 23 (Enc.cells c1q28)), (2, .row 23 (Enc.cells c2q53)), (3, .row 3 (fl r5658.2.2)), (4, .row 25 (Enc.cells r5658.1)), (5, .row 27 (Enc.cells r5658.2.1))] 6 (by kernel_rfl) ?_
                  refine wk_id ?_
                  refine cond_sx h (by kernel_rfl) (fun g5660 h => ?_) (fun g5660 h => ?_)
                  · refine seq_np ?_
                    refine reg_f ?_
                    refine rs 1 [] [] (by kernel_rfl) allP_nil ?_
                    refine rf [(2, bS false)] [(0, .row 25 (Enc.cells c0q25)), (1, .row 23 (Enc.cells c1q28)), (2, .row 23 (Enc.cells c2q53)), (3, .row 3 (fl r5658.2.2)), (4, .row 25 (Enc.cells r5658.1)), (5, .row 27 (Enc.cells r5658.2.1))] 6 (by kernel_rfl) ?_
                    refine wk_id ?_
                    refine rt_cast ht4 ?_
                    obtain ⟨r0, h, e0⟩ := map_sx h
                    have e1 := hr4 r0 e0.symm
                    subst r0
                    obtain rfl := Option.some.inj h
                    refine ret_at (bS false) (by kernel_rfl) ?_
                    exact ret_e [] [] (by simp only [push_cast, seval]) (by simp only [push_cast, seval]) rfl rfl rfl
                  · refine wk_id ?_
                    refine reg_f ?_
                    refine rs 2 [] [] (by kernel_rfl) allP_nil ?_
                    refine rf [(0, .sl moves.length (fl moves)), (3, .ptr 0 0), (4, iS (IntKind.i64.wrap (now25 + 1))), (5, .ptr 1 0), (6, .ptr 2 0), (7, iS i7)] [(0, .row 25 (Enc.cells r5658.1)), (1, .row 23 (Enc.cells c1q28)), (2, .row 23 (Enc.cells c2q53)), (3, .row 3 (fl r5658.2.2)), (4, .row 25 (Enc.cells r5658.1)), (5, .row 27 (Enc.cells r5658.2.1))] 6 (by kernel_rfl) ?_
                    exact hK5536 ((IntKind.i64.wrap (now25 + 1)), r5658.1, c1q28, c2q53) _ _ _ h (leSt_m [(0, 0), (1, 1), (2, 2)] [] (by simp only [push_cast, seval]) (by simp only [push_cast, seval]) rfl rfl rfl)
                · refine seq_np ?_
                  refine reg_f ?_
                  refine rs 2 [] [] (by kernel_rfl) allP_nil ?_
                  refine rf [(0, .sl moves.length (fl moves)), (3, .ptr 0 0), (4, iS now25), (5, .ptr 1 0), (6, .ptr 2 0), (7, iS i7), (8, iS (Int.tmod i7 2)), (131, bS ((ix moves i7) == 3))] [(0, .row 25 (Enc.cells c0q25)), (1, .row 23 (Enc.cells c1q28)), (2, .row 23 (Enc.cells c2q53))] 3 (by kernel_rfl) ?_
                  refine wk_id ?_
                  refine cond_sx h (by kernel_rfl) (fun g5665 h => ?_) (fun g5665 h => ?_)
                  · refine seq_np ?_
                    refine reg_f ?_
                    refine rs 5 [] [] (by kernel_rfl) allP_nil ?_
                    obtain ⟨r5662, hr5662, h⟩ := bind_sx h
                    refine run_call 14 [.agg (Enc.cells c0q25), iS (Int.tmod i7 2), iS (IntKind.i64.wrap (now25 + 2)), iS now25] (some 139) (by kernel_rfl) ?_
                    refine call_0 (poll_Until_spec c0q25 (Int.tmod i7 2) (IntKind.i64.wrap (now25 + 2)) now25 r5662 hr5662) (by simp only [push_cast, seval]) (by simp only [push_cast, seval]) ?_
                    refine back_f ?_
                    refine rs 9 [] [] (by kernel_rfl) allP_nil ?_
                    refine rf [(0, .sl moves.length (fl moves)), (3, .ptr 0 0), (4, iS now25), (5, .ptr 1 0), (6, .ptr 2 0), (7, iS i7), (19, .ptr 3 0), (21, .ptr 4 0)] [(0, .row 25 (Enc.cells c0q25)), (1, .row 23 (Enc.cells c1q28)), (2, .row 23 (Enc.cells c2q53)), (3, .row 25 (Enc.cells r5662.1)), (4, .row 27 (Enc.cells r5662.2.2))] 5 (by kernel_rfl) ?_
                    refine wk_id ?_
                    refine seq_np ?_
                    refine seq_np ?_
                    refine reg_f ?_
                    refine rs 3 [] [] (by kernel_rfl) allP_nil ?_
                    refine rf [(0, .sl moves.length (fl moves)), (3, .ptr 0 0), (4, iS now25), (5, .ptr 1 0), (6, .ptr 2 0), (7, iS i7), (19, .ptr 3 0), (145, bS (r5662.2.2.Code != 0))] [(0, .row 25 (Enc.cells c0q25)), (1, .row 23 (Enc.cells c1q28)), (2, .row 23 (Enc.cells c2q53)), (3, .row 25 (Enc.cells r5662.1)), (4, .row 27 (Enc.cells r5662.2.2))] 5 (by kernel_rfl) ?_
                    refine wk_id ?_
                    refine cond_sx h (by kernel_rfl) (fun g5664 h => ?_) (fun g5664 h => ?_)
                    · refine seq_np ?_
                      refine reg_f ?_
                      refine rs 3 [] [] (by kernel_rfl) allP_nil ?_
                      refine rf [(2, bS c0q25.Closed)] [(0, .row 25 (Enc.cells c0q25)), (1, .row 23 (Enc.cells c1q28)), (2, .row 23 (Enc.cells c2q53)), (3, .row 25 (Enc.cells r5662.1)), (4, .row 27 (Enc.cells r5662.2.2))] 5 (by kernel_rfl) ?_
                      refine wk_id ?_
                      refine rt_cast ht4 ?_
                      obtain ⟨r0, h, e0⟩ := map_sx h
                      have e1 := hr4 r0 e0.symm
                      subst r0
                      obtain rfl := Option.some.inj h
                      refine ret_at (bS c0q25.Closed) (by kernel_rfl) ?_
                      exact ret_e [] [] (by simp only [push_cast, seval]) (by simp only [push_cast, seval]) rfl rfl rfl
                    · refine wk_id ?_
                      refine reg_f ?_
                      refine rs 2 [] [] (by kernel_rfl) allP_nil ?_
                      refine rf [(0, .sl moves.length (fl moves)), (3, .ptr 0 0), (4, iS now25), (5, .ptr 1 0), (6, .ptr 2 0), (7, iS i7)] [(0, .row 25 (Enc.cells r5662.1)), (1, .row 23 (Enc.cells c1q28)), (2, .row 23 (Enc.cells c2q53)), (3, .row 25 (Enc.cells r5662.1)), (4, .row 27 (Enc.cells r5662.2.2))] 5 (by kernel_rfl) ?_
                      exact hK5536 (now25, r5662.1, c1q28, c2q53) _ _ _ h (leSt_m [(0, 0), (1, 1), (2, 2)] [] (by simp only [push_cast, seval]) (by simp only [push_cast, seval]) rfl rfl rfl)
                  · exact hK5536 (now25, c0q25, c1q28, c2q53) _ _ _ h (leSt_m [(0, 0), (1, 1), (2, 2)] [] (by simp only [push_cast, seval]) (by simp only [push_cast, seval]) rfl rfl rfl)
          · rintro ⟨now31, c0q31, c1q34, c2q71⟩ h
            try dsimp only at h ⊢
            unfold taskmilllaw_PollLosesNone_j6 at h
            refine wk_id ?_
            refine seq_np ?_
            refine reg_f ?_
            refine rs 1 [] [] (by kernel_rfl) allP_nil ?_
            refine rf [(0, .sl moves.length (fl moves)), (3, .ptr 0 0), (4, iS now31), (5, .ptr 1 0), (6, .ptr 2 0), (7, iS i7), (22, iS 0)] [(0, .row 25 (Enc.cells c0q31)), (1, .row 23 (Enc.cells c1q34)), (2, .row 23 (Enc.cells c2q71))] 3 (by kernel_rfl) ?_
            refine wk_id ?_
            refine block_np ?_
            refine loop_sx (S := Int) (fun a => ([(0, .sl moves.length (fl moves)), (3, .ptr 0 0), (4, iS now31), (5, .ptr 1 0), (6, .ptr 2 0), (7, iS i7), (22, iS a)], [(0, .row 25 (Enc.cells c0q31)), (1, .row 23 (Enc.cells c1q34)), (2, .row 23 (Enc.cells c2q71))], 3)) h (leSt_m [(0, 0), (1, 1), (2, 2)] [] (by simp only [push_cast, seval]) (by simp only [push_cast, seval]) rfl rfl rfl) ?_
            rintro k29 o5 R5 h hr5 hn5 hx5 ht5
            try dsimp only at h hn5 ⊢
            unfold taskmilllaw_PollLosesNone_l1 at h
            try dsimp only at h
            refine seq_np ?_
            refine seq_np ?_
            refine reg_f ?_
            refine rs 2 [] [] (by kernel_rfl) allP_nil ?_
            refine rf [(0, .sl moves.length (fl moves)), (3, .ptr 0 0), (4, iS now31), (5, .ptr 1 0), (6, .ptr 2 0), (7, iS i7), (22, iS k29), (150, bS (decide (k29 < 2)))] [(0, .row 25 (Enc.cells c0q31)), (1, .row 23 (Enc.cells c1q34)), (2, .row 23 (Enc.cells c2q71))] 3 (by kernel_rfl) ?_
            refine wk_id ?_
            refine cond_sx h (by kernel_rfl) (fun g5839 h => ?_) (fun g5839 h => ?_)
            · refine wk_id ?_
              refine seq_np ?_
              refine block_cut (A := Unit) (fun a => ([(0, .sl moves.length (fl moves)), (3, .ptr 0 0), (4, iS now31), (5, .ptr 1 0), (6, .ptr 2 0), (7, iS i7), (22, iS k29)], [(0, .row 25 (Enc.cells c0q31)), (1, .row 23 (Enc.cells c1q34)), (2, .row 23 (Enc.cells c2q71))], 3)) (fun a => (taskmilllaw_PollLosesNone_j2 moves i7 now31 c0q31 c1q34 c2q71 k29) = some o5) (fun K5784 hK5784 => ?_) ?_
              · refine seq_np ?_
                refine reg_f ?_
                refine rs 1 [] [] (by kernel_rfl) allP_nil ?_
                refine rf [(0, .sl moves.length (fl moves)), (3, .ptr 0 0), (4, iS now31), (5, .ptr 1 0), (6, .ptr 2 0), (7, iS i7), (22, iS k29), (23, iS 0)] [(0, .row 25 (Enc.cells c0q31)), (1, .row 23 (Enc.cells c1q34)), (2, .row 23 (Enc.cells c2q71))] 3 (by kernel_rfl) ?_
                refine wk_id ?_
                refine seq_cut (A := Int) (fun a => ([(0, .sl moves.length (fl moves)), (3, .ptr 0 0), (4, iS now31), (5, .ptr 1 0), (6, .ptr 2 0), (7, iS i7), (22, iS k29), (23, iS a)], [(0, .row 25 (Enc.cells c0q31)), (1, .row 23 (Enc.cells c1q34)), (2, .row 23 (Enc.cells c2q71))], 3)) (fun a => (taskmilllaw_PollLosesNone_j5 moves i7 now31 c0q31 c1q34 c2q71 k29 a) = some o5) (fun K5794 hK5794 => ?_) ?_
                · refine split_s h (fun g5795 h => ?_) (fun g5796 h => ?_)
                  · refine seq_np ?_
                    refine reg_f ?_
                    refine rs 2 [] [] (by kernel_rfl) allP_nil ?_
                    refine run_at 153 .i64 k29 0 g5795 (by kernel_rfl) ?_
                    refine rs 2 [] [] (by kernel_rfl) allP_nil ?_
                    refine rf [(0, .sl moves.length (fl moves)), (3, .ptr 0 0), (4, iS now31), (5, .ptr 1 0), (6, .ptr 2 0), (7, iS i7), (22, iS k29), (23, iS 0), (156, bS c0q31.Ready_e0)] [(0, .row 25 (Enc.cells c0q31)), (1, .row 23 (Enc.cells c1q34)), (2, .row 23 (Enc.cells c2q71))] 3 (by kernel_rfl) ?_
                    refine wk_id ?_
                    refine cond_sx h (by kernel_rfl) (fun g5797 h => ?_) (fun g5797 h => ?_)
                    · refine reg_f ?_
                      refine rs 1 [] [] (by kernel_rfl) allP_nil ?_
                      refine rf [(0, .sl moves.length (fl moves)), (3, .ptr 0 0), (4, iS now31), (5, .ptr 1 0), (6, .ptr 2 0), (7, iS i7), (22, iS k29), (23, iS 1)] [(0, .row 25 (Enc.cells c0q31)), (1, .row 23 (Enc.cells c1q34)), (2, .row 23 (Enc.cells c2q71))] 3 (by kernel_rfl) ?_
                      exact hK5794 (1) _ _ _ h (leSt_m [(0, 0), (1, 1), (2, 2)] [] (by simp only [push_cast, seval]) (by simp only [push_cast, seval]) rfl rfl rfl)
                    · exact hK5794 (0) _ _ _ h (leSt_m [(0, 0), (1, 1), (2, 2)] [] (by simp only [push_cast, seval]) (by simp only [push_cast, seval]) rfl rfl rfl)
                  refine split_s h (fun g5798 h => ?_) (fun g5799 h => ?_)
                  · refine seq_np ?_
                    refine reg_f ?_
                    refine rs 2 [] [] (by kernel_rfl) allP_nil ?_
                    refine run_at 153 .i64 k29 1 g5798 (by kernel_rfl) ?_
                    refine rs 2 [] [] (by kernel_rfl) allP_nil ?_
                    refine rf [(0, .sl moves.length (fl moves)), (3, .ptr 0 0), (4, iS now31), (5, .ptr 1 0), (6, .ptr 2 0), (7, iS i7), (22, iS k29), (23, iS 0), (156, bS c0q31.Ready_e1)] [(0, .row 25 (Enc.cells c0q31)), (1, .row 23 (Enc.cells c1q34)), (2, .row 23 (Enc.cells c2q71))] 3 (by kernel_rfl) ?_
                    refine wk_id ?_
                    refine cond_sx h (by kernel_rfl) (fun g5800 h => ?_) (fun g5800 h => ?_)
                    · refine reg_f ?_
                      refine rs 1 [] [] (by kernel_rfl) allP_nil ?_
                      refine rf [(0, .sl moves.length (fl moves)), (3, .ptr 0 0), (4, iS now31), (5, .ptr 1 0), (6, .ptr 2 0), (7, iS i7), (22, iS k29), (23, iS 1)] [(0, .row 25 (Enc.cells c0q31)), (1, .row 23 (Enc.cells c1q34)), (2, .row 23 (Enc.cells c2q71))] 3 (by kernel_rfl) ?_
                      exact hK5794 (1) _ _ _ h (leSt_m [(0, 0), (1, 1), (2, 2)] [] (by simp only [push_cast, seval]) (by simp only [push_cast, seval]) rfl rfl rfl)
                    · exact hK5794 (0) _ _ _ h (leSt_m [(0, 0), (1, 1), (2, 2)] [] (by simp only [push_cast, seval]) (by simp only [push_cast, seval]) rfl rfl rfl)
                  refine chk_sx h (fun g5804 h => ?_)
                  refine seq_np ?_
                  refine reg_f ?_
                  have k5803 : 0 ≤ k29 ∧ k29 < 2 := by first | simpa only [Bool.and_eq_true, decide_eq_true_eq, bne_iff_ne, ne_eq] using g5804 | (simp at g5804 ⊢; omega)
                  exfalso
                  omega
                · rintro left43 h
                  try dsimp only at h ⊢
                  unfold taskmilllaw_PollLosesNone_j5 at h
                  refine split_s h (fun g5805 h => ?_) (fun g5806 h => ?_)
                  · refine seq_cut (A := Bool) (fun a => ([(0, .sl moves.length (fl moves)), (3, .ptr 0 0), (4, iS now31), (5, .ptr 1 0), (6, .ptr 2 0), (7, iS i7), (22, iS k29), (188, bS a)], [(0, .row 25 (Enc.cells c0q31)), (1, .row 23 (Enc.cells c1q34)), (2, .row 23 (Enc.cells c2q71))], 3)) (fun a => (taskmilllaw_PollLosesNone_j4 moves i7 now31 c0q31 c1q34 c2q71 k29 a) = some o5) (fun K5813 hK5813 => ?_) ?_
                    · refine reg_t ?_
                      refine rs 1 [] [] (by kernel_rfl) allP_nil ?_
                      refine run_at 157 .i64 k29 0 g5805 (by kernel_rfl) ?_
                      refine rs 3 [] [] (by kernel_rfl) allP_nil ?_
                      refine run_at 160 .i64 k29 0 g5805 (by kernel_rfl) ?_
                      refine rs 6 [] [] (by kernel_rfl) allP_nil ?_
                      refine run_br h 166 (.inl (by kernel_rfl)) (fun g5814 h => ?_) (fun g5814 h => ?_)
                      · refine rs 22 [] [] (by kernel_rfl) allP_nil ?_
                        refine rt [(0, .sl moves.length (fl moves)), (3, .ptr 0 0), (4, iS now31), (5, .ptr 1 0), (6, .ptr 2 0), (7, iS i7), (22, iS k29), (188, bS true)] [(0, .row 25 (Enc.cells c0q31)), (1, .row 23 (Enc.cells c1q34)), (2, .row 23 (Enc.cells c2q71))] 35 follows (by kernel_rfl) ?_
                        exact hK5813 (true) _ _ _ h (leSt_m [(0, 0), (1, 1), (2, 2)] [] (by (try simp only [g5814]) <;> simp only [push_cast, seval]) (by (try simp only [g5814]) <;> simp only [push_cast, seval]) rfl rfl rfl)
                      · refine rs 2 [] [] (by kernel_rfl) allP_nil ?_
                        refine run_at_g 167 .i64 k29 0 g5805 (by kernel_rfl) ?_
                        refine rs 4 [] [] (by kernel_rfl) allP_nil ?_
                        refine run_br h 172 (.inr (by kernel_rfl)) (fun g5815 h => ?_) (fun g5815 h => ?_)
                        · refine rs 2 [] [] (by kernel_rfl) allP_nil ?_
                          refine run_at_g 173 .i64 k29 0 g5805 (by kernel_rfl) ?_
                          refine rs 3 [] [] (by kernel_rfl) allP_nil ?_
                          refine run_br h 177 (.inr (by kernel_rfl)) (fun g5816 h => ?_) (fun g5816 h => ?_)
                          · refine rn 21 [(0, .sl moves.length (fl moves)), (3, .ptr 0 0), (4, iS now31), (5, .ptr 1 0), (6, .ptr 2 0), (7, iS i7), (22, iS k29), (166, bS false), (172, .gd true (bS true)), (177, .gd true (bS true))] [(0, .row 25 (Enc.cells c0q31)), (1, .row 23 (Enc.cells c1q34)), (2, .row 23 (Enc.cells c2q71))] 24 (by kernel_rfl) ?_
                            refine rs 11 [] [] (by kernel_rfl) allP_nil ?_
                            refine rt [(0, .sl moves.length (fl moves)), (3, .ptr 0 0), (4, iS now31), (5, .ptr 1 0), (6, .ptr 2 0), (7, iS i7), (22, iS k29), (188, bS true)] [(0, .row 25 (Enc.cells c0q31)), (1, .row 23 (Enc.cells c1q34)), (2, .row 23 (Enc.cells c2q71))] 35 follows (by kernel_rfl) ?_
                            exact hK5813 (true) _ _ _ h (leSt_m [(0, 0), (1, 1), (2, 2)] [] (by first | ((try simp only [g5814, g5815, g5816]) <;> simp only [push_cast, seval]; done) | ((try simp only [g5814]); (try simp only [g5815]); (try simp only [g5816]); simp only [push_cast, seval]; done) | (exfalso; clear h; simp_all; done)) (by first | ((try simp only [g5814, g5815, g5816]) <;> simp only [push_cast, seval]; done) | ((try simp only [g5814]); (try simp only [g5815]); (try simp only [g5816]); simp only [push_cast, seval]; done) | (exfalso; clear h; simp_all; done)) rfl rfl rfl)
                          · refine rn 21 [(0, .sl moves.length (fl moves)), (3, .ptr 0 0), (4, iS now31), (5, .ptr 1 0), (6, .ptr 2 0), (7, iS i7), (22, iS k29), (166, bS false), (172, .gd true (bS true)), (177, .gd true (bS false))] [(0, .row 25 (Enc.cells c0q31)), (1, .row 23 (Enc.cells c1q34)), (2, .row 23 (Enc.cells c2q71))] 24 (by kernel_rfl) ?_
                            refine rs 4 [] [] (by kernel_rfl) allP_nil ?_
                            refine run_br h 181 (.inr (by kernel_rfl)) (fun g5817 h => ?_) (fun g5817 h => ?_)
                            · refine rs 7 [] [] (by kernel_rfl) allP_nil ?_
                              refine rt [(0, .sl moves.length (fl moves)), (3, .ptr 0 0), (4, iS now31), (5, .ptr 1 0), (6, .ptr 2 0), (7, iS i7), (22, iS k29), (188, bS true)] [(0, .row 25 (Enc.cells c0q31)), (1, .row 23 (Enc.cells c1q34)), (2, .row 23 (Enc.cells c2q71))] 35 follows (by kernel_rfl) ?_
                              exact hK5813 (true) _ _ _ h (leSt_m [(0, 0), (1, 1), (2, 2)] [] (by first | ((try simp only [g5814, g5815, g5816, g5817]) <;> simp only [push_cast, seval]; done) | ((try simp only [g5814]); (try simp only [g5815]); (try simp only [g5816]); (try simp only [g5817]); simp only [push_cast, seval]; done) | (exfalso; clear h; simp_all; done)) (by first | ((try simp only [g5814, g5815, g5816, g5817]) <;> simp only [push_cast, seval]; done) | ((try simp only [g5814]); (try simp only [g5815]); (try simp only [g5816]); (try simp only [g5817]); simp only [push_cast, seval]; done) | (exfalso; clear h; simp_all; done)) rfl rfl rfl)
                            · refine rs 3 [] [] (by kernel_rfl) allP_nil ?_
                              obtain ⟨r5818, hr5818, h⟩ := bind_sx h
                              refine run_call 13 [.agg (Enc.cells c0q31), iS k29, iS now31] (some 185) (by kernel_rfl) ?_
                              refine callE_0 (taskmilllaw_isLate_spec c0q31 k29 now31 r5818 hr5818) (by simp only [push_cast, seval]) (by simp only [push_cast, seval]) ?_
                              refine back_t ?_
                              refine rs 3 [] [] (by kernel_rfl) allP_nil ?_
                              refine rt [(0, .sl moves.length (fl moves)), (3, .ptr 0 0), (4, iS now31), (5, .ptr 1 0), (6, .ptr 2 0), (7, iS i7), (22, iS k29), (188, bS r5818)] [(0, .row 25 (Enc.cells c0q31)), (1, .row 23 (Enc.cells c1q34)), (2, .row 23 (Enc.cells c2q71))] 35 follows (by kernel_rfl) ?_
                              exact hK5813 (r5818) _ _ _ h (leSt_m [(0, 0), (1, 1), (2, 2)] [] (by first | ((try simp only [g5814, g5815, g5816, g5817]) <;> simp only [push_cast, seval]; done) | ((try simp only [g5814]); (try simp only [g5815]); (try simp only [g5816]); (try simp only [g5817]); simp only [push_cast, seval]; done) | (exfalso; clear h; simp_all; done)) (by first | ((try simp only [g5814, g5815, g5816, g5817]) <;> simp only [push_cast, seval]; done) | ((try simp only [g5814]); (try simp only [g5815]); (try simp only [g5816]); (try simp only [g5817]); simp only [push_cast, seval]; done) | (exfalso; clear h; simp_all; done)) rfl rfl rfl)
                        · refine rs 16 [] [] (by kernel_rfl) allP_nil ?_
                          refine rt [(0, .sl moves.length (fl moves)), (3, .ptr 0 0), (4, iS now31), (5, .ptr 1 0), (6, .ptr 2 0), (7, iS i7), (22, iS k29), (188, bS false)] [(0, .row 25 (Enc.cells c0q31)), (1, .row 23 (Enc.cells c1q34)), (2, .row 23 (Enc.cells c2q71))] 35 follows (by kernel_rfl) ?_
                          exact hK5813 (false) _ _ _ h (leSt_m [(0, 0), (1, 1), (2, 2)] [] (by first | ((try simp only [g5814, g5815]) <;> simp only [push_cast, seval]; done) | ((try simp only [g5814]); (try simp only [g5815]); simp only [push_cast, seval]; done) | (exfalso; clear h; simp_all; done)) (by first | ((try simp only [g5814, g5815]) <;> simp only [push_cast, seval]; done) | ((try simp only [g5814]); (try simp only [g5815]); simp only [push_cast, seval]; done) | (exfalso; clear h; simp_all; done)) rfl rfl rfl)
                    · rintro t188q72 h
                      try dsimp only at h ⊢
                      unfold taskmilllaw_PollLosesNone_j4 at h
                      refine cond_sx h (by kernel_rfl) (fun g5819 h => ?_) (fun g5819 h => ?_)
                      · refine seq_np ?_
                        refine reg_f ?_
                        refine rs 1 [] [] (by kernel_rfl) allP_nil ?_
                        refine rf [(2, bS false)] [(0, .row 25 (Enc.cells c0q31)), (1, .row 23 (Enc.cells c1q34)), (2, .row 23 (Enc.cells c2q71))] 3 (by kernel_rfl) ?_
                        refine wk_id ?_
                        refine rt_cast ht5 ?_
                        obtain ⟨r0, h, e0⟩ := map_sx h
                        have e1 := hr5 r0 e0.symm
                        subst r0
                        refine rt_cast ht4 ?_
                        obtain ⟨r0, h, e0⟩ := map_sx h
                        have e1 := hr4 r0 e0.symm
                        subst r0
                        obtain rfl := Option.some.inj h
                        refine ret_at (bS false) (by kernel_rfl) ?_
                        exact ret_e [] [] (by simp only [push_cast, seval]) (by simp only [push_cast, seval]) rfl rfl rfl
                      · exact hK5784 () _ _ _ h (leSt_m [(0, 0), (1, 1), (2, 2)] [] (by simp only [push_cast, seval]) (by simp only [push_cast, seval]) rfl rfl rfl)
                  refine split_s h (fun g5820 h => ?_) (fun g5821 h => ?_)
                  · refine seq_cut (A := Bool) (fun a => ([(0, .sl moves.length (fl moves)), (3, .ptr 0 0), (4, iS now31), (5, .ptr 1 0), (6, .ptr 2 0), (7, iS i7), (22, iS k29), (188, bS a)], [(0, .row 25 (Enc.cells c0q31)), (1, .row 23 (Enc.cells c1q34)), (2, .row 23 (Enc.cells c2q71))], 3)) (fun a => (taskmilllaw_PollLosesNone_j3 moves i7 now31 c0q31 c1q34 c2q71 k29 a) = some o5) (fun K5828 hK5828 => ?_) ?_
                    · refine reg_t ?_
                      refine rs 1 [] [] (by kernel_rfl) allP_nil ?_
                      refine run_at 157 .i64 k29 1 g5820 (by kernel_rfl) ?_
                      refine rs 3 [] [] (by kernel_rfl) allP_nil ?_
                      refine run_at 160 .i64 k29 1 g5820 (by kernel_rfl) ?_
                      refine rs 6 [] [] (by kernel_rfl) allP_nil ?_
                      refine run_br h 166 (.inl (by kernel_rfl)) (fun g5829 h => ?_) (fun g5829 h => ?_)
                      · refine rs 22 [] [] (by kernel_rfl) allP_nil ?_
                        refine rt [(0, .sl moves.length (fl moves)), (3, .ptr 0 0), (4, iS now31), (5, .ptr 1 0), (6, .ptr 2 0), (7, iS i7), (22, iS k29), (188, bS true)] [(0, .row 25 (Enc.cells c0q31)), (1, .row 23 (Enc.cells c1q34)), (2, .row 23 (Enc.cells c2q71))] 35 follows (by kernel_rfl) ?_
                        exact hK5828 (true) _ _ _ h (leSt_m [(0, 0), (1, 1), (2, 2)] [] (by (try simp only [g5829]) <;> simp only [push_cast, seval]) (by (try simp only [g5829]) <;> simp only [push_cast, seval]) rfl rfl rfl)
                      · refine rs 2 [] [] (by kernel_rfl) allP_nil ?_
                        refine run_at_g 167 .i64 k29 1 g5820 (by kernel_rfl) ?_
                        refine rs 4 [] [] (by kernel_rfl) allP_nil ?_
                        refine run_br h 172 (.inr (by kernel_rfl)) (fun g5830 h => ?_) (fun g5830 h => ?_)
                        · refine rs 2 [] [] (by kernel_rfl) allP_nil ?_
                          refine run_at_g 173 .i64 k29 1 g5820 (by kernel_rfl) ?_
                          refine rs 3 [] [] (by kernel_rfl) allP_nil ?_
                          refine run_br h 177 (.inr (by kernel_rfl)) (fun g5831 h => ?_) (fun g5831 h => ?_)
                          · refine rn 21 [(0, .sl moves.length (fl moves)), (3, .ptr 0 0), (4, iS now31), (5, .ptr 1 0), (6, .ptr 2 0), (7, iS i7), (22, iS k29), (166, bS false), (172, .gd true (bS true)), (177, .gd true (bS true))] [(0, .row 25 (Enc.cells c0q31)), (1, .row 23 (Enc.cells c1q34)), (2, .row 23 (Enc.cells c2q71))] 24 (by kernel_rfl) ?_
                            refine rs 11 [] [] (by kernel_rfl) allP_nil ?_
                            refine rt [(0, .sl moves.length (fl moves)), (3, .ptr 0 0), (4, iS now31), (5, .ptr 1 0), (6, .ptr 2 0), (7, iS i7), (22, iS k29), (188, bS true)] [(0, .row 25 (Enc.cells c0q31)), (1, .row 23 (Enc.cells c1q34)), (2, .row 23 (Enc.cells c2q71))] 35 follows (by kernel_rfl) ?_
                            exact hK5828 (true) _ _ _ h (leSt_m [(0, 0), (1, 1), (2, 2)] [] (by first | ((try simp only [g5829, g5830, g5831]) <;> simp only [push_cast, seval]; done) | ((try simp only [g5829]); (try simp only [g5830]); (try simp only [g5831]); simp only [push_cast, seval]; done) | (exfalso; clear h; simp_all; done)) (by first | ((try simp only [g5829, g5830, g5831]) <;> simp only [push_cast, seval]; done) | ((try simp only [g5829]); (try simp only [g5830]); (try simp only [g5831]); simp only [push_cast, seval]; done) | (exfalso; clear h; simp_all; done)) rfl rfl rfl)
                          · refine rn 21 [(0, .sl moves.length (fl moves)), (3, .ptr 0 0), (4, iS now31), (5, .ptr 1 0), (6, .ptr 2 0), (7, iS i7), (22, iS k29), (166, bS false), (172, .gd true (bS true)), (177, .gd true (bS false))] [(0, .row 25 (Enc.cells c0q31)), (1, .row 23 (Enc.cells c1q34)), (2, .row 23 (Enc.cells c2q71))] 24 (by kernel_rfl) ?_
                            refine rs 4 [] [] (by kernel_rfl) allP_nil ?_
                            refine run_br h 181 (.inr (by kernel_rfl)) (fun g5832 h => ?_) (fun g5832 h => ?_)
                            · refine rs 7 [] [] (by kernel_rfl) allP_nil ?_
                              refine rt [(0, .sl moves.length (fl moves)), (3, .ptr 0 0), (4, iS now31), (5, .ptr 1 0), (6, .ptr 2 0), (7, iS i7), (22, iS k29), (188, bS true)] [(0, .row 25 (Enc.cells c0q31)), (1, .row 23 (Enc.cells c1q34)), (2, .row 23 (Enc.cells c2q71))] 35 follows (by kernel_rfl) ?_
                              exact hK5828 (true) _ _ _ h (leSt_m [(0, 0), (1, 1), (2, 2)] [] (by first | ((try simp only [g5829, g5830, g5831, g5832]) <;> simp only [push_cast, seval]; done) | ((try simp only [g5829]); (try simp only [g5830]); (try simp only [g5831]); (try simp only [g5832]); simp only [push_cast, seval]; done) | (exfalso; clear h; simp_all; done)) (by first | ((try simp only [g5829, g5830, g5831, g5832]) <;> simp only [push_cast, seval]; done) | ((try simp only [g5829]); (try simp only [g5830]); (try simp only [g5831]); (try simp only [g5832]); simp only [push_cast, seval]; done) | (exfalso; clear h; simp_all; done)) rfl rfl rfl)
                            · refine rs 3 [] [] (by kernel_rfl) allP_nil ?_
                              obtain ⟨r5833, hr5833, h⟩ := bind_sx h
                              refine run_call 13 [.agg (Enc.cells c0q31), iS k29, iS now31] (some 185) (by kernel_rfl) ?_
                              refine callE_0 (taskmilllaw_isLate_spec c0q31 k29 now31 r5833 hr5833) (by simp only [push_cast, seval]) (by simp only [push_cast, seval]) ?_
                              refine back_t ?_
                              refine rs 3 [] [] (by kernel_rfl) allP_nil ?_
                              refine rt [(0, .sl moves.length (fl moves)), (3, .ptr 0 0), (4, iS now31), (5, .ptr 1 0), (6, .ptr 2 0), (7, iS i7), (22, iS k29), (188, bS r5833)] [(0, .row 25 (Enc.cells c0q31)), (1, .row 23 (Enc.cells c1q34)), (2, .row 23 (Enc.cells c2q71))] 35 follows (by kernel_rfl) ?_
                              exact hK5828 (r5833) _ _ _ h (leSt_m [(0, 0), (1, 1), (2, 2)] [] (by first | ((try simp only [g5829, g5830, g5831, g5832]) <;> simp only [push_cast, seval]; done) | ((try simp only [g5829]); (try simp only [g5830]); (try simp only [g5831]); (try simp only [g5832]); simp only [push_cast, seval]; done) | (exfalso; clear h; simp_all; done)) (by first | ((try simp only [g5829, g5830, g5831, g5832]) <;> simp only [push_cast, seval]; done) | ((try simp only [g5829]); (try simp only [g5830]); (try simp only [g5831]); (try simp only [g5832]); simp only [push_cast, seval]; done) | (exfalso; clear h; simp_all; done)) rfl rfl rfl)
                        · refine rs 16 [] [] (by kernel_rfl) allP_nil ?_
                          refine rt [(0, .sl moves.length (fl moves)), (3, .ptr 0 0), (4, iS now31), (5, .ptr 1 0), (6, .ptr 2 0), (7, iS i7), (22, iS k29), (188, bS false)] [(0, .row 25 (Enc.cells c0q31)), (1, .row 23 (Enc.cells c1q34)), (2, .row 23 (Enc.cells c2q71))] 35 follows (by kernel_rfl) ?_
                          exact hK5828 (false) _ _ _ h (leSt_m [(0, 0), (1, 1), (2, 2)] [] (by first | ((try simp only [g5829, g5830]) <;> simp only [push_cast, seval]; done) | ((try simp only [g5829]); (try simp only [g5830]); simp only [push_cast, seval]; done) | (exfalso; clear h; simp_all; done)) (by first | ((try simp only [g5829, g5830]) <;> simp only [push_cast, seval]; done) | ((try simp only [g5829]); (try simp only [g5830]); simp only [push_cast, seval]; done) | (exfalso; clear h; simp_all; done)) rfl rfl rfl)
                    · rintro t188q73 h
                      try dsimp only at h ⊢
                      unfold taskmilllaw_PollLosesNone_j3 at h
                      refine cond_sx h (by kernel_rfl) (fun g5834 h => ?_) (fun g5834 h => ?_)
                      · refine seq_np ?_
                        refine reg_f ?_
                        refine rs 1 [] [] (by kernel_rfl) allP_nil ?_
                        refine rf [(2, bS false)] [(0, .row 25 (Enc.cells c0q31)), (1, .row 23 (Enc.cells c1q34)), (2, .row 23 (Enc.cells c2q71))] 3 (by kernel_rfl) ?_
                        refine wk_id ?_
                        refine rt_cast ht5 ?_
                        obtain ⟨r0, h, e0⟩ := map_sx h
                        have e1 := hr5 r0 e0.symm
                        subst r0
                        refine rt_cast ht4 ?_
                        obtain ⟨r0, h, e0⟩ := map_sx h
                        have e1 := hr4 r0 e0.symm
                        subst r0
                        obtain rfl := Option.some.inj h
                        refine ret_at (bS false) (by kernel_rfl) ?_
                        exact ret_e [] [] (by simp only [push_cast, seval]) (by simp only [push_cast, seval]) rfl rfl rfl
                      · exact hK5784 () _ _ _ h (leSt_m [(0, 0), (1, 1), (2, 2)] [] (by simp only [push_cast, seval]) (by simp only [push_cast, seval]) rfl rfl rfl)
                  refine chk_sx h (fun g5838 h => ?_)
                  refine seq_np ?_
                  refine reg_t ?_
                  have k5837 : 0 ≤ k29 ∧ k29 < 2 := by first | simpa only [Bool.and_eq_true, decide_eq_true_eq, bne_iff_ne, ne_eq] using g5838 | (simp at g5838 ⊢; omega)
                  exfalso
                  omega
              · rintro _ h
                try dsimp only at h ⊢
                unfold taskmilllaw_PollLosesNone_j2 at h
                refine wk_id ?_
                refine reg_f ?_
                refine rs 3 [] [] (by kernel_rfl) allP_nil ?_
                refine rf [(0, .sl moves.length (fl moves)), (3, .ptr 0 0), (4, iS now31), (5, .ptr 1 0), (6, .ptr 2 0), (7, iS i7), (22, iS (IntKind.i64.wrap (k29 + 1)))] [(0, .row 25 (Enc.cells c0q31)), (1, .row 23 (Enc.cells c1q34)), (2, .row 23 (Enc.cells c2q71))] 3 (by kernel_rfl) ?_
                exact hn5 ((IntKind.i64.wrap (k29 + 1))) _ _ _ (Option.some.inj h).symm (leSt_m [(0, 0), (1, 1), (2, 2)] [] (by simp only [push_cast, seval]) (by simp only [push_cast, seval]) rfl rfl rfl)
            · change R5 (.exit 3) _ _ _
              refine ex_cast hx5 (id := 3) ?_
              obtain ⟨r0, h, e0⟩ := map_sx h
              have e1 := hr5 r0 e0.symm
              subst r0
              refine wk_id ?_
              exact hK5396 (now31, c0q31, c1q34, c2q71) _ _ _ h (leSt_m [(0, 0), (1, 1), (2, 2)] [] (by simp only [push_cast, seval]) (by simp only [push_cast, seval]) rfl rfl rfl)
        · rintro ⟨now29, c0q29, c1q32, c2q63⟩ h
          try dsimp only at h ⊢
          unfold taskmilllaw_PollLosesNone_j1 at h
          refine wk_id ?_
          refine reg_f ?_
          refine rs 3 [] [] (by kernel_rfl) allP_nil ?_
          refine rf [(0, .sl moves.length (fl moves)), (3, .ptr 0 0), (4, iS now29), (5, .ptr 1 0), (6, .ptr 2 0), (7, iS (IntKind.i64.wrap (i7 + 1)))] [(0, .row 25 (Enc.cells c0q29)), (1, .row 23 (Enc.cells c1q32)), (2, .row 23 (Enc.cells c2q63))] 3 (by kernel_rfl) ?_
          exact hn4 (now29, (IntKind.i64.wrap (i7 + 1)), c0q29, c1q32, c2q63) _ _ _ (Option.some.inj h).symm (leSt_m [(0, 0), (1, 1), (2, 2)] [] (by simp only [push_cast, seval]) (by simp only [push_cast, seval]) rfl rfl rfl)
      · change R4 (.exit 0) _ _ _
        refine ex_cast hx4 (id := 0) ?_
        obtain ⟨r0, h, e0⟩ := map_sx h
        have e1 := hr4 r0 e0.symm
        subst r0
        refine wk_id ?_
        refine wk_id ?_
        refine seq_np ?_
        refine reg_f ?_
        refine rs 1 [] [] (by kernel_rfl) allP_nil ?_
        obtain ⟨r5841, hr5841, h⟩ := bind_sx h
        refine call_x (poll_Close_spec c0q25 r5841 hr5841) (args := [.agg (Enc.cells c0q25)]) (dst := (some 191)) (by kernel_rfl) [(0, .row 25 (Enc.cells c0q25)), (1, .row 23 (Enc.cells c1q28)), (2, .row 23 (Enc.cells c2q53))] 3 (by kernel_rfl) [] [] (.tup [.agg (Enc.cells r5841.1), .own 3 0 r5841.2.2.2.length, bS r5841.2.1, .agg (Enc.cells r5841.2.2.1)]) [(3, .row 3 (fl r5841.2.2.2))] (by simp only [push_cast, seval]) (by simp only [push_cast, seval]) (by kernel_rfl) (.inl rfl) (by simp only [push_cast, seval]) (by simp only [push_cast, seval]) ?_
        refine rs 11 [] [] (by kernel_rfl) allP_nil ?_
        refine rf [(3, .ptr 0 0), (4, iS now25), (24, .ptr 4 0), (25, .own 3 0 r5841.2.2.2.length), (26, bS r5841.2.1), (27, .ptr 5 0)] [(0, .row 25 (Enc.cells c0q25)), (1, .row 23 (Enc.cells c1q28)), (2, .row 23 (Enc.cells c2q53)), (3, .row 3 (fl r5841.2.2.2)), (4, .row 25 (Enc.cells r5841.1)), (5, .row 27 (Enc.cells r5841.2.2.1))] 6 (by kernel_rfl) ?_
        refine wk_id ?_
        refine seq_np ?_
        refine reg_f ?_
        refine rs 1 [] [] (by kernel_rfl) allP_nil ?_
        refine rf [(3, .ptr 0 0), (4, iS now25), (24, .ptr 4 0), (25, .own 3 0 r5841.2.2.2.length), (26, bS r5841.2.1), (27, .ptr 5 0), (28, iS 0)] [(0, .row 25 (Enc.cells c0q25)), (1, .row 23 (Enc.cells c1q28)), (2, .row 23 (Enc.cells c2q53)), (3, .row 3 (fl r5841.2.2.2)), (4, .row 25 (Enc.cells r5841.1)), (5, .row 27 (Enc.cells r5841.2.2.1))] 6 (by kernel_rfl) ?_
        refine wk_id ?_
        refine seq_np ?_
        refine seq_np ?_
        refine reg_f ?_
        refine rs 1 [] [] (by kernel_rfl) allP_nil ?_
        refine rf [(3, .ptr 0 0), (4, iS now25), (24, .ptr 4 0), (25, .own 3 0 r5841.2.2.2.length), (26, bS r5841.2.1), (27, .ptr 5 0), (28, iS 0), (29, iS 0)] [(0, .row 25 (Enc.cells c0q25)), (1, .row 23 (Enc.cells c1q28)), (2, .row 23 (Enc.cells c2q53)), (3, .row 3 (fl r5841.2.2.2)), (4, .row 25 (Enc.cells r5841.1)), (5, .row 27 (Enc.cells r5841.2.2.1))] 6 (by kernel_rfl) ?_
        refine wk_id ?_
        refine block_np ?_
        refine loop_sx (S := Bool × Int × Int × Desc × (List Int) × Fault) (fun a => ([(3, .ptr 0 0), (4, iS now25), (24, .ptr 1 0), (25, .own 2 0 a.2.2.2.2.1.length), (26, bS a.1), (27, .ptr 3 0), (28, iS a.2.1), (29, iS a.2.2.1)], [(0, .row 25 (Enc.cells c0q25)), (1, .row 25 (Enc.cells a.2.2.2.1)), (2, .row 3 (fl a.2.2.2.2.1)), (3, .row 27 (Enc.cells a.2.2.2.2.2))], 4)) h (leSt_m [(0, 0), (1, 4), (2, 3), (3, 5)] [] (by simp only [push_cast, seval]) (by simp only [push_cast, seval]) rfl rfl rfl) ?_
        rintro ⟨p11, n18, k35, c1q43, c2q83, c3q59⟩ o6 R6 h hr6 hn6 hx6 ht6
        try dsimp only at h hn6 ⊢
        unfold taskmilllaw_PollLosesNone_l2 at h
        try dsimp only at h
        refine seq_np ?_
        refine seq_np ?_
        refine reg_f ?_
        refine rs 2 [] [] (by kernel_rfl) allP_nil ?_
        refine rf [(3, .ptr 0 0), (4, iS now25), (24, .ptr 1 0), (25, .own 2 0 c2q83.length), (26, bS p11), (27, .ptr 3 0), (28, iS n18), (29, iS k35), (197, bS (decide (k35 < 2)))] [(0, .row 25 (Enc.cells c0q25)), (1, .row 25 (Enc.cells c1q43)), (2, .row 3 (fl c2q83)), (3, .row 27 (Enc.cells c3q59))] 4 (by kernel_rfl) ?_
        refine wk_id ?_
        refine cond_sx h (by kernel_rfl) (fun g5954 h => ?_) (fun g5954 h => ?_)
        · refine wk_id ?_
          refine seq_np ?_
          refine block_cut (A := Int) (fun a => ([(3, .ptr 0 0), (4, iS now25), (24, .ptr 1 0), (25, .own 2 0 c2q83.length), (26, bS p11), (27, .ptr 3 0), (28, iS a), (29, iS k35)], [(0, .row 25 (Enc.cells c0q25)), (1, .row 25 (Enc.cells c1q43)), (2, .row 3 (fl c2q83)), (3, .row 27 (Enc.cells c3q59))], 4)) (fun a => (taskmilllaw_PollLosesNone_j13 now25 c0q25 p11 k35 c1q43 c2q83 c3q59 a) = some o6) (fun K5929 hK5929 => ?_) ?_
          · refine split_s h (fun g5930 h => ?_) (fun g5931 h => ?_)
            · refine seq_np ?_
              refine reg_f ?_
              refine rs 2 [] [] (by kernel_rfl) allP_nil ?_
              refine run_at 200 .i64 k35 0 g5930 (by kernel_rfl) ?_
              refine rs 3 [] [] (by kernel_rfl) allP_nil ?_
              refine rf [(3, .ptr 0 0), (4, iS now25), (24, .ptr 1 0), (25, .own 2 0 c2q83.length), (26, bS p11), (27, .ptr 3 0), (28, iS n18), (29, iS k35), (204, bS (decide ((0 : Int) < c0q25.Task_e0)))] [(0, .row 25 (Enc.cells c0q25)), (1, .row 25 (Enc.cells c1q43)), (2, .row 3 (fl c2q83)), (3, .row 27 (Enc.cells c3q59))] 4 (by kernel_rfl) ?_
              refine wk_id ?_
              refine cond_sx h (by kernel_rfl) (fun g5932 h => ?_) (fun g5932 h => ?_)
              · refine reg_f ?_
                refine rs 3 [] [] (by kernel_rfl) allP_nil ?_
                refine rf [(3, .ptr 0 0), (4, iS now25), (24, .ptr 1 0), (25, .own 2 0 c2q83.length), (26, bS p11), (27, .ptr 3 0), (28, iS (IntKind.i64.wrap (n18 + 1))), (29, iS k35)] [(0, .row 25 (Enc.cells c0q25)), (1, .row 25 (Enc.cells c1q43)), (2, .row 3 (fl c2q83)), (3, .row 27 (Enc.cells c3q59))] 4 (by kernel_rfl) ?_
                exact hK5929 ((IntKind.i64.wrap (n18 + 1))) _ _ _ h (leSt_m [(0, 0), (1, 1), (2, 2), (3, 3)] [] (by simp only [push_cast, seval]) (by simp only [push_cast, seval]) rfl rfl rfl)
              · exact hK5929 (n18) _ _ _ h (leSt_m [(0, 0), (1, 1), (2, 2), (3, 3)] [] (by simp only [push_cast, seval]) (by simp only [push_cast, seval]) rfl rfl rfl)
            refine split_s h (fun g5933 h => ?_) (fun g5934 h => ?_)
            · refine seq_np ?_
              refine reg_f ?_
              refine rs 2 [] [] (by kernel_rfl) allP_nil ?_
              refine run_at 200 .i64 k35 1 g5933 (by kernel_rfl) ?_
              refine rs 3 [] [] (by kernel_rfl) allP_nil ?_
              refine rf [(3, .ptr 0 0), (4, iS now25), (24, .ptr 1 0), (25, .own 2 0 c2q83.length), (26, bS p11), (27, .ptr 3 0), (28, iS n18), (29, iS k35), (204, bS (decide ((0 : Int) < c0q25.Task_e1)))] [(0, .row 25 (Enc.cells c0q25)), (1, .row 25 (Enc.cells c1q43)), (2, .row 3 (fl c2q83)), (3, .row 27 (Enc.cells c3q59))] 4 (by kernel_rfl) ?_
              refine wk_id ?_
              refine cond_sx h (by kernel_rfl) (fun g5935 h => ?_) (fun g5935 h => ?_)
              · refine reg_f ?_
                refine rs 3 [] [] (by kernel_rfl) allP_nil ?_
                refine rf [(3, .ptr 0 0), (4, iS now25), (24, .ptr 1 0), (25, .own 2 0 c2q83.length), (26, bS p11), (27, .ptr 3 0), (28, iS (IntKind.i64.wrap (n18 + 1))), (29, iS k35)] [(0, .row 25 (Enc.cells c0q25)), (1, .row 25 (Enc.cells c1q43)), (2, .row 3 (fl c2q83)), (3, .row 27 (Enc.cells c3q59))] 4 (by kernel_rfl) ?_
                exact hK5929 ((IntKind.i64.wrap (n18 + 1))) _ _ _ h (leSt_m [(0, 0), (1, 1), (2, 2), (3, 3)] [] (by simp only [push_cast, seval]) (by simp only [push_cast, seval]) rfl rfl rfl)
              · exact hK5929 (n18) _ _ _ h (leSt_m [(0, 0), (1, 1), (2, 2), (3, 3)] [] (by simp only [push_cast, seval]) (by simp only [push_cast, seval]) rfl rfl rfl)
            refine chk_sx h (fun g5939 h => ?_)
            refine seq_np ?_
            refine reg_f ?_
            have k5938 : 0 ≤ k35 ∧ k35 < 2 := by first | simpa only [Bool.and_eq_true, decide_eq_true_eq, bne_iff_ne, ne_eq] using g5939 | (simp at g5939 ⊢; omega)
            exfalso
            omega
          · rintro n20 h
            try dsimp only at h ⊢
            unfold taskmilllaw_PollLosesNone_j13 at h
            refine wk_id ?_
            refine reg_f ?_
            refine rs 3 [] [] (by kernel_rfl) allP_nil ?_
            refine rf [(3, .ptr 0 0), (4, iS now25), (24, .ptr 1 0), (25, .own 2 0 c2q83.length), (26, bS p11), (27, .ptr 3 0), (28, iS n20), (29, iS (IntKind.i64.wrap (k35 + 1)))] [(0, .row 25 (Enc.cells c0q25)), (1, .row 25 (Enc.cells c1q43)), (2, .row 3 (fl c2q83)), (3, .row 27 (Enc.cells c3q59))] 4 (by kernel_rfl) ?_
            exact hn6 (p11, n20, (IntKind.i64.wrap (k35 + 1)), c1q43, c2q83, c3q59) _ _ _ (Option.some.inj h).symm (leSt_m [(0, 0), (1, 1), (2, 2), (3, 3)] [] (by simp only [push_cast, seval]) (by simp only [push_cast, seval]) rfl rfl rfl)
        · change R6 (.exit 5) _ _ _
          refine ex_cast hx6 (id := 5) ?_
          obtain ⟨r0, h, e0⟩ := map_sx h
          have e1 := hr6 r0 e0.symm
          subst r0
          refine wk_id ?_
          refine wk_id ?_
          refine seq_np ?_
          refine seq_cut (A := Unit) (fun _ => ([(4, iS now25), (24, .ptr 1 0), (27, .ptr 3 0), (218, bS ((c3q59.Code != 0) || (p11 || (((c2q83.length : Nat) : Int) != n18))))], [(0, .row 25 (Enc.cells c0q25)), (1, .row 25 (Enc.cells c1q43)), (2, .row 3 (fl c2q83)), (3, .row 27 (Enc.cells c3q59))], 4)) (fun _ => True) (fun K5945 hK5945 => ?_) (fun _ _ => ?_)
          · refine reg_f ?_
            refine rs 4 [] [] (by kernel_rfl) allP_nil ?_
            refine run_split 210 (c3q59.Code != 0) (.inl (by kernel_rfl)) (fun g5946 => ?_) (fun g5946 => ?_)
            · refine rs 8 [] [] (by kernel_rfl) allP_nil ?_
              refine rf [(4, iS now25), (24, .ptr 1 0), (27, .ptr 3 0), (218, bS true)] [(0, .row 25 (Enc.cells c0q25)), (1, .row 25 (Enc.cells c1q43)), (2, .row 3 (fl c2q83)), (3, .row 27 (Enc.cells c3q59))] 4 (by kernel_rfl) ?_
              exact hK5945 () _ _ _ trivial (leSt_m [(0, 0), (1, 1), (2, 2), (3, 3)] [] (by (try simp only [g5946]) <;> simp only [push_cast, seval]) (by (try simp only [g5946]) <;> simp only [push_cast, seval]) rfl rfl rfl)
            · refine rs 3 [] [] (by kernel_rfl) allP_nil ?_
              refine run_split 213 p11 (.inl (by kernel_rfl)) (fun g5947 => ?_) (fun g5947 => ?_)
              · refine rs 5 [] [] (by kernel_rfl) allP_nil ?_
                refine rf [(4, iS now25), (24, .ptr 1 0), (27, .ptr 3 0), (218, bS true)] [(0, .row 25 (Enc.cells c0q25)), (1, .row 25 (Enc.cells c1q43)), (2, .row 3 (fl c2q83)), (3, .row 27 (Enc.cells c3q59))] 4 (by kernel_rfl) ?_
                exact hK5945 () _ _ _ trivial (leSt_m [(0, 0), (1, 1), (2, 2), (3, 3)] [] (by first | ((try simp only [g5946, g5947]) <;> simp only [push_cast, seval]; done) | ((try simp only [g5946]); (try simp only [g5947]); simp only [push_cast, seval]; done) | (exfalso; clear h; simp_all; done)) (by first | ((try simp only [g5946, g5947]) <;> simp only [push_cast, seval]; done) | ((try simp only [g5946]); (try simp only [g5947]); simp only [push_cast, seval]; done) | (exfalso; clear h; simp_all; done)) rfl rfl rfl)
              · refine rs 5 [] [] (by kernel_rfl) allP_nil ?_
                refine rf [(4, iS now25), (24, .ptr 1 0), (27, .ptr 3 0), (218, bS (((c2q83.length : Nat) : Int) != n18))] [(0, .row 25 (Enc.cells c0q25)), (1, .row 25 (Enc.cells c1q43)), (2, .row 3 (fl c2q83)), (3, .row 27 (Enc.cells c3q59))] 4 (by kernel_rfl) ?_
                exact hK5945 () _ _ _ trivial (leSt_m [(0, 0), (1, 1), (2, 2), (3, 3)] [] (by first | ((try simp only [g5946, g5947]) <;> simp only [push_cast, seval]; done) | ((try simp only [g5946]); (try simp only [g5947]); simp only [push_cast, seval]; done) | (exfalso; clear h; simp_all; done)) (by first | ((try simp only [g5946, g5947]) <;> simp only [push_cast, seval]; done) | ((try simp only [g5946]); (try simp only [g5947]); simp only [push_cast, seval]; done) | (exfalso; clear h; simp_all; done)) rfl rfl rfl)
          · dsimp only
            refine cond_sx h (by kernel_rfl) (fun g5953 h => ?_) (fun g5953 h => ?_)
            · refine seq_np ?_
              refine reg_f ?_
              refine rs 1 [] [] (by kernel_rfl) allP_nil ?_
              refine rf [(2, bS false)] [(0, .row 25 (Enc.cells c0q25)), (1, .row 25 (Enc.cells c1q43)), (2, .row 3 (fl c2q83)), (3, .row 27 (Enc.cells c3q59))] 4 (by kernel_rfl) ?_
              refine wk_id ?_
              obtain rfl := Option.some.inj h
              refine ret_at (bS false) (by kernel_rfl) ?_
              exact ret_e [] [] (by simp only [push_cast, seval]) (by simp only [push_cast, seval]) rfl rfl rfl
            · refine wk_id ?_
              refine seq_np ?_
              refine reg_f ?_
              refine rs 2 [] [] (by kernel_rfl) allP_nil ?_
              obtain ⟨r5949, hr5949, h⟩ := bind_sx h
              refine run_call 7 [.agg (Enc.cells c1q43), iS 0, iS 1, iS now25] (some 222) (by kernel_rfl) ?_
              refine call_0 (poll_Wait_spec c1q43 0 1 now25 r5949 hr5949) (by simp only [push_cast, seval]) (by simp only [push_cast, seval]) ?_
              refine back_f ?_
              refine rs 8 [] [] (by kernel_rfl) allP_nil ?_
              refine rf [(27, .ptr 3 0), (31, iS r5949.2.1)] [(0, .row 25 (Enc.cells c0q25)), (1, .row 25 (Enc.cells c1q43)), (2, .row 3 (fl c2q83)), (3, .row 27 (Enc.cells r5949.2.2)), (4, .row 25 (Enc.cells r5949.1))] 5 (by kernel_rfl) ?_
              refine wk_id ?_
              refine seq_cut (A := Unit) (fun _ => ([(2, bS ((r5949.2.2.Code == 0) && (r5949.2.1 == 3)))], [(0, .row 25 (Enc.cells c0q25)), (1, .row 25 (Enc.cells c1q43)), (2, .row 3 (fl c2q83)), (3, .row 27 (Enc.cells r5949.2.2)), (4, .row 25 (Enc.cells r5949.1))], 5)) (fun _ => True) (fun K5951 hK5951 => ?_) (fun _ _ => ?_)
              · refine reg_f ?_
                refine rs 4 [] [] (by kernel_rfl) allP_nil ?_
                refine run_split 229 (r5949.2.2.Code == 0) (.inl (by kernel_rfl)) (fun g5952 => ?_) (fun g5952 => ?_)
                · refine rs 4 [] [] (by kernel_rfl) allP_nil ?_
                  refine rf [(2, bS (r5949.2.1 == 3))] [(0, .row 25 (Enc.cells c0q25)), (1, .row 25 (Enc.cells c1q43)), (2, .row 3 (fl c2q83)), (3, .row 27 (Enc.cells r5949.2.2)), (4, .row 25 (Enc.cells r5949.1))] 5 (by kernel_rfl) ?_
                  exact hK5951 () _ _ _ trivial (leSt_m [(0, 0), (1, 1), (2, 2), (3, 3), (4, 4)] [] (by (try simp only [g5952]) <;> simp only [push_cast, seval]) (by (try simp only [g5952]) <;> simp only [push_cast, seval]) rfl rfl rfl)
                · refine rs 4 [] [] (by kernel_rfl) allP_nil ?_
                  refine rf [(2, bS false)] [(0, .row 25 (Enc.cells c0q25)), (1, .row 25 (Enc.cells c1q43)), (2, .row 3 (fl c2q83)), (3, .row 27 (Enc.cells r5949.2.2)), (4, .row 25 (Enc.cells r5949.1))] 5 (by kernel_rfl) ?_
                  exact hK5951 () _ _ _ trivial (leSt_m [(0, 0), (1, 1), (2, 2), (3, 3), (4, 4)] [] (by (try simp only [g5952]) <;> simp only [push_cast, seval]) (by (try simp only [g5952]) <;> simp only [push_cast, seval]) rfl rfl rfl)
              · dsimp only
                obtain rfl := Option.some.inj h
                refine ret_at (bS ((r5949.2.2.Code == 0) && (r5949.2.1 == 3))) (by kernel_rfl) ?_
                exact ret_e [] [] (by simp only [push_cast, seval]) (by simp only [push_cast, seval]) rfl rfl rfl

end Go.Proofs.Ytbglmhcpfjmadaa
