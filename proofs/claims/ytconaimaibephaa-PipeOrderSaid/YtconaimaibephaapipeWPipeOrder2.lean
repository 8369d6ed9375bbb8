/-
  What laws of the chapter pipe compute, and lemmas on it.
  No conditions.
-/
import Derived.Test.YtconaimaibephaapipeWPipeOrder1
set_option linter.unusedSimpArgs false
set_option linter.unusedVariables false
namespace Go.Proofs.Ytconaimaibephaa
open Go Go.Sx
attribute [local irreducible] Wk RunAt
set_option maxRecDepth 100000 in
set_option maxHeartbeats 200000000 in
theorem taskmilllaw_played_spec (capacity : Int) (moves : (List Int)) (r : Int × Bool × Bool × (List Int) × (List Int) × (List Int) × (List GPost) × (List GPost)) (h : taskmilllaw_played capacity moves = some r) : SpecW Try.prog 23 [iS capacity, .sl moves.length (fl moves)] [] 0 (fun x h n => x = .tup [.own 0 0 r.2.2.2.1.length, .own 1 0 r.2.2.2.2.1.length, .agg [iS r.1, .own 2 0 r.2.2.2.2.2.1.length, bS r.2.1, .own 3 0 r.2.2.2.2.2.2.1.length, .own 4 0 r.2.2.2.2.2.2.2.length], bS r.2.2.1] ∧ h = [(0, .row 3 (fl r.2.2.2.1)), (1, .row 3 (fl r.2.2.2.2.1)), (2, .row 3 (fl r.2.2.2.2.2.1)), (3, .row 39 (fl r.2.2.2.2.2.2.1)), (4, .row 39 (fl r.2.2.2.2.2.2.2))] ∧ n = 5) := by
  unfold taskmilllaw_played at h
  refine spec_of (draw_ok _) Try.func23 rfl (by decide) rfl (by kernel_rfl) ?_
  refine seq_np ?_
  refine reg_f ?_
  refine rs 4 [] [] (by kernel_rfl) allP_nil ?_
  refine rf [(0, iS capacity), (1, .sl moves.length (fl moves)), (4, .v (.slice none 0 0)), (5, .v (.slice none 0 0)), (6, .ptr 0 0)] [(0, .row 25 [iS 0, .v (.slice none 0 0), bS false, .v (.slice none 0 0), .v (.slice none 0 0)])] 1 (by kernel_rfl) ?_
  refine wk_id ?_
  refine seq_np ?_
  refine reg_f ?_
  refine rs 3 [] [] (by kernel_rfl) allP_nil ?_
  refine rf [(1, .sl moves.length (fl moves)), (4, .v (.slice none 0 0)), (5, .v (.slice none 0 0)), (6, .ptr 0 0)] [(0, .row 25 [iS capacity, .v (.slice none 0 0), bS false, .v (.slice none 0 0), .v (.slice none 0 0)])] 1 (by kernel_rfl) ?_
  refine wk_id ?_
  refine seq_np ?_
  refine seq_np ?_
  refine reg_f ?_
  refine rs 1 [] [] (by kernel_rfl) allP_nil ?_
  refine rf [(1, .sl moves.length (fl moves)), (4, .v (.slice none 0 0)), (5, .v (.slice none 0 0)), (6, .ptr 0 0), (8, iS 0)] [(0, .row 25 [iS capacity, .v (.slice none 0 0), bS false, .v (.slice none 0 0), .v (.slice none 0 0)])] 1 (by kernel_rfl) ?_
  refine wk_id ?_
  refine block_np ?_
  refine loop_sx (S := Int × (List Int) × (List Int) × Int × Bool × (List Int) × (List GPost) × (List GPost)) (fun a => ([(1, .sl moves.length (fl moves)), (4, .own 0 0 a.2.1.length), (5, .own 1 0 a.2.2.1.length), (6, .ptr 2 0), (8, iS a.1)], [(0, .row 3 (fl a.2.1)), (1, .row 3 (fl a.2.2.1)), (2, .row 25 [iS a.2.2.2.1, .own 3 0 a.2.2.2.2.2.1.length, bS a.2.2.2.2.1, .own 4 0 a.2.2.2.2.2.2.1.length, .own 5 0 a.2.2.2.2.2.2.2.length]), (3, .row 3 (fl a.2.2.2.2.2.1)), (4, .row 39 (fl a.2.2.2.2.2.2.1)), (5, .row 39 (fl a.2.2.2.2.2.2.2))], 6)) h (leSt_m [(2, 0)] [] (by simp only [push_cast, seval]) (by simp only [push_cast, seval]) rfl rfl rfl) ?_
  rintro ⟨i7, c0q85, c1q85, c2_Cap18, c2_Closed18, c3q19, c4q19, c5q29⟩ o3 R3 h hr3 hn3 hx3 ht3
  try dsimp only at h hn3 ⊢
  unfold taskmilllaw_played_l2 at h
  try dsimp only at h
  refine seq_np ?_
  refine seq_np ?_
  refine reg_f ?_
  refine rs 4 [] [] (by kernel_rfl) allP_nil ?_
  refine rf [(1, .sl moves.length (fl moves)), (4, .own 0 0 c0q85.length), (5, .own 1 0 c1q85.length), (6, .ptr 2 0), (8, iS i7), (20, bS (decide (i7 < ((moves.length : Nat) : Int))))] [(0, .row 3 (fl c0q85)), (1, .row 3 (fl c1q85)), (2, .row 25 [iS c2_Cap18, .own 3 0 c3q19.length, bS c2_Closed18, .own 4 0 c4q19.length, .own 5 0 c5q29.length]), (3, .row 3 (fl c3q19)), (4, .row 39 (fl c4q19)), (5, .row 39 (fl c5q29))] 6 (by kernel_rfl) ?_
  refine wk_id ?_
  refine cond_sx h (by kernel_rfl) (fun g3578 h => ?_) (fun g3578 h => ?_)
  · refine wk_id ?_
    refine seq_np ?_
    refine block_cut (A := (List Int) × (List Int) × Int × Bool × (List Int) × (List GPost) × (List GPost)) (fun a => ([(1, .sl moves.length (fl moves)), (4, .own 0 0 a.1.length), (5, .own 1 0 a.2.1.length), (6, .ptr 2 0), (8, iS i7)], [(0, .row 3 (fl a.1)), (1, .row 3 (fl a.2.1)), (2, .row 25 [iS a.2.2.1, .own 3 0 a.2.2.2.2.1.length, bS a.2.2.2.1, .own 4 0 a.2.2.2.2.2.1.length, .own 5 0 a.2.2.2.2.2.2.length]), (3, .row 3 (fl a.2.2.2.2.1)), (4, .row 39 (fl a.2.2.2.2.2.1)), (5, .row 39 (fl a.2.2.2.2.2.2))], 6)) (fun a => (taskmilllaw_played_j1 moves i7 a.1 a.2.1 a.2.2.1 a.2.2.2.1 a.2.2.2.2.1 a.2.2.2.2.2.1 a.2.2.2.2.2.2) = some o3) (fun K3278 hK3278 => ?_) ?_
    · refine seq_np ?_
      refine reg_f ?_
      refine rs 3 [] [] (by kernel_rfl) allP_nil ?_
      refine rf [(1, .sl moves.length (fl moves)), (4, .own 0 0 c0q85.length), (5, .own 1 0 c1q85.length), (6, .ptr 2 0), (8, iS i7), (9, iS (IntKind.i64.wrap (i7 + 1)))] [(0, .row 3 (fl c0q85)), (1, .row 3 (fl c1q85)), (2, .row 25 [iS c2_Cap18, .own 3 0 c3q19.length, bS c2_Closed18, .own 4 0 c4q19.length, .own 5 0 c5q29.length]), (3, .row 3 (fl c3q19)), (4, .row 39 (fl c4q19)), (5, .row 39 (fl c5q29))] 6 (by kernel_rfl) ?_
      refine wk_id ?_
      refine seq_np ?_
      refine reg_f ?_
      refine rs 3 [] [] (by kernel_rfl) allP_nil ?_
      refine rf [(1, .sl moves.length (fl moves)), (4, .own 0 0 c0q85.length), (5, .own 1 0 c1q85.length), (6, .ptr 2 0), (8, iS i7), (9, iS (IntKind.i64.wrap (i7 + 1))), (10, .ptr 6 0)] [(0, .row 3 (fl c0q85)), (1, .row 3 (fl c1q85)), (2, .row 25 [iS c2_Cap18, .own 3 0 c3q19.length, bS c2_Closed18, .own 4 0 c4q19.length, .own 5 0 c5q29.length]), (3, .row 3 (fl c3q19)), (4, .row 39 (fl c4q19)), (5, .row 39 (fl c5q29)), (6, .row 25 [iS c2_Cap18, .own 3 0 c3q19.length, bS c2_Closed18, .own 4 0 c4q19.length, .own 5 0 c5q29.length])] 7 (by kernel_rfl) ?_
      refine wk_id ?_
      refine seq_np ?_
      refine reg_f ?_
      refine rs 3 [] [] (by kernel_rfl) allP_nil ?_
      refine rf [(1, .sl moves.length (fl moves)), (4, .own 0 0 c0q85.length), (5, .own 1 0 c1q85.length), (6, .ptr 2 0), (8, iS i7), (9, iS (IntKind.i64.wrap (i7 + 1))), (10, .ptr 6 0), (11, .ptr 7 0)] [(0, .row 3 (fl c0q85)), (1, .row 3 (fl c1q85)), (2, .row 25 [iS c2_Cap18, .own 3 0 c3q19.length, bS c2_Closed18, .own 4 0 c4q19.length, .own 5 0 c5q29.length]), (3, .row 3 (fl c3q19)), (4, .row 39 (fl c4q19)), (5, .row 39 (fl c5q29)), (6, .row 25 [iS c2_Cap18, .own 3 0 c3q19.length, bS c2_Closed18, .own 4 0 c4q19.length, .own 5 0 c5q29.length]), (7, .row 34 [bS false, bS false, bS false, iS 0, iS 0, .v (.slice none 0 0)])] 8 (by kernel_rfl) ?_
      refine wk_id ?_
      refine seq_np ?_
      refine reg_f ?_
      refine rs 3 [] [] (by kernel_rfl) allP_nil ?_
      refine rf [(1, .sl moves.length (fl moves)), (4, .own 0 0 c0q85.length), (5, .own 1 0 c1q85.length), (6, .ptr 2 0), (8, iS i7), (9, iS (IntKind.i64.wrap (i7 + 1))), (10, .ptr 6 0), (11, .ptr 7 0), (12, .ptr 8 0)] [(0, .row 3 (fl c0q85)), (1, .row 3 (fl c1q85)), (2, .row 25 [iS c2_Cap18, .own 3 0 c3q19.length, bS c2_Closed18, .own 4 0 c4q19.length, .own 5 0 c5q29.length]), (3, .row 3 (fl c3q19)), (4, .row 39 (fl c4q19)), (5, .row 39 (fl c5q29)), (6, .row 25 [iS c2_Cap18, .own 3 0 c3q19.length, bS c2_Closed18, .own 4 0 c4q19.length, .own 5 0 c5q29.length]), (7, .row 34 [bS false, bS false, bS false, iS 0, iS 0, .v (.slice none 0 0)]), (8, .row 30 [iS 0, iS 0])] 9 (by kernel_rfl) ?_
      refine wk_id ?_
      refine seq_np ?_
      refine chk_sx h (fun g3310 h => ?_)
      refine seq_np ?_
      refine reg_f ?_
      have k3309 : 0 ≤ i7 ∧ i7 < ((moves.length : Nat) : Int) := by first | simpa only [Bool.and_eq_true, decide_eq_true_eq, bne_iff_ne, ne_eq] using g3310 | (simp at g3310 ⊢; omega)
      refine rs 4 [none, none, some ⟨.iptr (fl moves) ((i7).toNat * 1), [], 9, []⟩, some ⟨iS (ix moves i7), [], 9, []⟩] _ (by kernel_rfl) (allP_cons (ob_ld moves i7 1 0 ((i7).toNat * 1) k3309 rfl (by decide) (by first | rfl | omega) (dflS Try.prog 3) (iS (ix moves i7)) rfl 9 []) (allP_cons (ob_ix_l moves 1 9 i7 k3309) allP_nil)) ?_
      refine rf [(1, .sl moves.length (fl moves)), (4, .own 0 0 c0q85.length), (5, .own 1 0 c1q85.length), (6, .ptr 2 0), (8, iS i7), (9, iS (IntKind.i64.wrap (i7 + 1))), (10, .ptr 6 0), (11, .ptr 7 0), (12, .ptr 8 0), (31, iS (ix moves i7))] [(0, .row 3 (fl c0q85)), (1, .row 3 (fl c1q85)), (2, .row 25 [iS c2_Cap18, .own 3 0 c3q19.length, bS c2_Closed18, .own 4 0 c4q19.length, .own 5 0 c5q29.length]), (3, .row 3 (fl c3q19)), (4, .row 39 (fl c4q19)), (5, .row 39 (fl c5q29)), (6, .row 25 [iS c2_Cap18, .own 3 0 c3q19.length, bS c2_Closed18, .own 4 0 c4q19.length, .own 5 0 c5q29.length]), (7, .row 34 [bS false, bS false, bS false, iS 0, iS 0, .v (.slice none 0 0)]), (8, .row 30 [iS 0, iS 0])] 9 (by kernel_rfl) ?_
      refine wk_id ?_
      refine block_cut (A := (List Int) × (List Int) × Int × Bool × Bool × Bool × Bool × Int × Int × Fault × (List Int) × (List GPost) × (List GPost) × (List GWake)) (fun a => ([(1, .sl moves.length (fl moves)), (4, .own 0 0 a.1.length), (5, .own 1 0 a.2.1.length), (6, .ptr 2 0), (8, iS i7), (10, .ptr 3 0), (11, .ptr 4 0), (12, .ptr 5 0)], [(0, .row 3 (fl a.1)), (1, .row 3 (fl a.2.1)), (2, .row 25 [iS c2_Cap18, .own 6 0 c3q19.length, bS c2_Closed18, .own 7 0 c4q19.length, .own 8 0 c5q29.length]), (3, .row 25 [iS a.2.2.1, .own 9 0 a.2.2.2.2.2.2.2.2.2.2.1.length, bS a.2.2.2.1, .own 10 0 a.2.2.2.2.2.2.2.2.2.2.2.1.length, .own 11 0 a.2.2.2.2.2.2.2.2.2.2.2.2.1.length]), (4, .row 34 [bS a.2.2.2.2.1, bS a.2.2.2.2.2.1, bS a.2.2.2.2.2.2.1, iS a.2.2.2.2.2.2.2.1, iS a.2.2.2.2.2.2.2.2.1, .own 12 0 a.2.2.2.2.2.2.2.2.2.2.2.2.2.length]), (5, .row 30 (Enc.cells a.2.2.2.2.2.2.2.2.2.1)), (6, .row 3 (fl c3q19)), (7, .row 39 (fl c4q19)), (8, .row 39 (fl c5q29)), (9, .row 3 (fl a.2.2.2.2.2.2.2.2.2.2.1)), (10, .row 39 (fl a.2.2.2.2.2.2.2.2.2.2.2.1)), (11, .row 39 (fl a.2.2.2.2.2.2.2.2.2.2.2.2.1)), (12, .row 64 (fl a.2.2.2.2.2.2.2.2.2.2.2.2.2))], 13)) (fun a => (taskmilllaw_played_j4 moves i7 c2_Cap18 c2_Closed18 c3q19 c4q19 c5q29 a.1 a.2.1 a.2.2.1 a.2.2.2.1 a.2.2.2.2.1 a.2.2.2.2.2.1 a.2.2.2.2.2.2.1 a.2.2.2.2.2.2.2.1 a.2.2.2.2.2.2.2.2.1 a.2.2.2.2.2.2.2.2.2.1 a.2.2.2.2.2.2.2.2.2.2.1 a.2.2.2.2.2.2.2.2.2.2.2.1 a.2.2.2.2.2.2.2.2.2.2.2.2.1 a.2.2.2.2.2.2.2.2.2.2.2.2.2) = some o3) (fun K3336 hK3336 => ?_) ?_
      · refine seq_cut (A := Bool) (fun a => ([(1, .sl moves.length (fl moves)), (4, .own 0 0 c0q85.length), (5, .own 1 0 c1q85.length), (6, .ptr 2 0), (8, iS i7), (9, iS (IntKind.i64.wrap (i7 + 1))), (10, .ptr 3 0), (11, .ptr 4 0), (12, .ptr 5 0), (31, iS (ix moves i7)), (32, bS a)], [(0, .row 3 (fl c0q85)), (1, .row 3 (fl c1q85)), (2, .row 25 [iS c2_Cap18, .own 6 0 c3q19.length, bS c2_Closed18, .own 7 0 c4q19.length, .own 8 0 c5q29.length]), (3, .row 25 [iS c2_Cap18, .own 6 0 c3q19.length, bS c2_Closed18, .own 7 0 c4q19.length, .own 8 0 c5q29.length]), (4, .row 34 [bS false, bS false, bS false, iS 0, iS 0, .v (.slice none 0 0)]), (5, .row 30 [iS 0, iS 0]), (6, .row 3 (fl c3q19)), (7, .row 39 (fl c4q19)), (8, .row 39 (fl c5q29))], 9)) (fun a => (taskmilllaw_played_j6 moves i7 c0q85 c1q85 c2_Cap18 c2_Closed18 c3q19 c4q19 c5q29 a) = some o3) (fun K3339 hK3339 => ?_) ?_
        · refine seq_np ?_
          refine reg_f ?_
          refine rs 2 [] [] (by kernel_rfl) allP_nil ?_
          refine rf [(1, .sl moves.length (fl moves)), (4, .own 0 0 c0q85.length), (5, .own 1 0 c1q85.length), (6, .ptr 2 0), (8, iS i7), (9, iS (IntKind.i64.wrap (i7 + 1))), (10, .ptr 6 0), (11, .ptr 7 0), (12, .ptr 8 0), (31, iS (ix moves i7)), (32, bS ((ix moves i7) == 0))] [(0, .row 3 (fl c0q85)), (1, .row 3 (fl c1q85)), (2, .row 25 [iS c2_Cap18, .own 3 0 c3q19.length, bS c2_Closed18, .own 4 0 c4q19.length, .own 5 0 c5q29.length]), (3, .row 3 (fl c3q19)), (4, .row 39 (fl c4q19)), (5, .row 39 (fl c5q29)), (6, .row 25 [iS c2_Cap18, .own 3 0 c3q19.length, bS c2_Closed18, .own 4 0 c4q19.length, .own 5 0 c5q29.length]), (7, .row 34 [bS false, bS false, bS false, iS 0, iS 0, .v (.slice none 0 0)]), (8, .row 30 [iS 0, iS 0])] 9 (by kernel_rfl) ?_
          refine wk_id ?_
          refine cond_sx h (by kernel_rfl) (fun g3340 h => ?_) (fun g3340 h => ?_)
          · exact hK3339 (((ix moves i7) == 0)) _ _ _ h (leSt_m [(0, 0), (1, 1), (2, 2), (3, 6), (4, 7), (5, 8), (6, 3), (7, 4), (8, 5)] [] (by simp only [push_cast, seval]) (by simp only [push_cast, seval]) rfl rfl rfl)
          · refine reg_f ?_
            refine rs 2 [] [] (by kernel_rfl) allP_nil ?_
            refine rf [(1, .sl moves.length (fl moves)), (4, .own 0 0 c0q85.length), (5, .own 1 0 c1q85.length), (6, .ptr 2 0), (8, iS i7), (9, iS (IntKind.i64.wrap (i7 + 1))), (10, .ptr 6 0), (11, .ptr 7 0), (12, .ptr 8 0), (31, iS (ix moves i7)), (32, bS ((ix moves i7) == 1))] [(0, .row 3 (fl c0q85)), (1, .row 3 (fl c1q85)), (2, .row 25 [iS c2_Cap18, .own 3 0 c3q19.length, bS c2_Closed18, .own 4 0 c4q19.length, .own 5 0 c5q29.length]), (3, .row 3 (fl c3q19)), (4, .row 39 (fl c4q19)), (5, .row 39 (fl c5q29)), (6, .row 25 [iS c2_Cap18, .own 3 0 c3q19.length, bS c2_Closed18, .own 4 0 c4q19.length, .own 5 0 c5q29.length]), (7, .row 34 [bS false, bS false, bS false, iS 0, iS 0, .v (.slice none 0 0)]), (8, .row 30 [iS 0, iS 0])] 9 (by kernel_rfl) ?_
            exact hK3339 (((ix moves i7) == 1)) _ _ _ h (leSt_m [(0, 0), (1, 1), (2, 2), (3, 6), (4, 7), (5, 8), (6, 3), (7, 4), (8, 5)] [] (by simp only [push_cast, seval]) (by simp only [push_cast, seval]) rfl rfl rfl)
        · rintro t32q15 h
          try dsimp only at h ⊢
          unfold taskmilllaw_played_j6 at h
          refine cond_sx h (by kernel_rfl) (fun g3377 h => ?_) (fun g3377 h => ?_)
          · refine chk_sx h (fun g3345 h => ?_)
            refine seq_np ?_
            refine reg_t ?_
            have k3344 : 0 ≤ i7 ∧ i7 < ((moves.length : Nat) : Int) := by first | simpa only [Bool.and_eq_true, decide_eq_true_eq, bne_iff_ne, ne_eq] using g3345 | (simp at g3345 ⊢; omega)
            refine rs 8 [none, none, none, none, none, some ⟨.iptr (fl moves) ((i7).toNat * 1), [], 14, []⟩, some ⟨iS (ix moves i7), [], 15, []⟩] _ (by kernel_rfl) (allP_cons (ob_ld moves i7 1 0 ((i7).toNat * 1) k3344 rfl (by decide) (by first | rfl | omega) (dflS Try.prog 3) (iS (ix moves i7)) rfl 15 []) (allP_cons (ob_ix_l moves 1 14 i7 k3344) allP_nil)) ?_
            obtain ⟨r3346, hr3346, h⟩ := bind_sx h
            refine call_x (pipe_Send_spec (Pipe.mk c2_Cap18 c3q19 c2_Closed18 c4q19 c5q29) (IntKind.i64.wrap (i7 + 1)) i7 ((ix moves i7) == 1) r3346 hr3346) (args := [.agg [iS c2_Cap18, .own 6 0 c3q19.length, bS c2_Closed18, .own 7 0 c4q19.length, .own 8 0 c5q29.length], iS (IntKind.i64.wrap (i7 + 1)), iS i7, bS ((ix moves i7) == 1)]) (dst := (some 44)) (by kernel_rfl) [(0, .row 3 (fl c0q85)), (1, .row 3 (fl c1q85)), (2, .row 25 [iS c2_Cap18, .own 6 0 c3q19.length, bS c2_Closed18, .own 7 0 c4q19.length, .own 8 0 c5q29.length]), (3, .row 25 [iS c2_Cap18, .own 6 0 c3q19.length, bS c2_Closed18, .own 7 0 c4q19.length, .own 8 0 c5q29.length]), (4, .row 34 [bS false, bS false, bS false, iS 0, iS 0, .v (.slice none 0 0)]), (5, .row 30 [iS 0, iS 0]), (6, .row 3 (fl c3q19)), (7, .row 39 (fl c4q19)), (8, .row 39 (fl c5q29))] 17 (by kernel_rfl) [] [6, 7, 8] (.tup [.agg [iS r3346.1, .own 17 0 r3346.2.2.2.2.2.2.2.2.1.length, bS r3346.2.1, .own 18 0 r3346.2.2.2.2.2.2.2.2.2.1.length, .own 19 0 r3346.2.2.2.2.2.2.2.2.2.2.1.length], .agg [bS r3346.2.2.1, bS r3346.2.2.2.1, bS r3346.2.2.2.2.1, iS r3346.2.2.2.2.2.1, iS r3346.2.2.2.2.2.2.1, .own 20 0 r3346.2.2.2.2.2.2.2.2.2.2.2.length], .agg (Enc.cells r3346.2.2.2.2.2.2.2.1)]) [(17, .row 3 (fl r3346.2.2.2.2.2.2.2.2.1)), (18, .row 39 (fl r3346.2.2.2.2.2.2.2.2.2.1)), (19, .row 39 (fl r3346.2.2.2.2.2.2.2.2.2.2.1)), (20, .row 64 (fl r3346.2.2.2.2.2.2.2.2.2.2.2))] (by simp only [push_cast, seval]) (by simp only [push_cast, seval]) (by kernel_rfl) (.inr ⟨by simp only [push_cast, seval], by simp only [push_cast, seval]⟩) (by simp only [push_cast, seval]) (by simp only [push_cast, seval]) ?_
            refine rs 7 [] [] (by kernel_rfl) allP_nil ?_
            refine rt [(1, .sl moves.length (fl moves)), (4, .own 0 0 c0q85.length), (5, .own 1 0 c1q85.length), (6, .ptr 2 0), (8, iS i7), (10, .ptr 3 0), (11, .ptr 4 0), (12, .ptr 5 0)] [(0, .row 3 (fl c0q85)), (1, .row 3 (fl c1q85)), (2, .row 25 [iS c2_Cap18, .own 6 0 c3q19.length, bS c2_Closed18, .own 7 0 c4q19.length, .own 8 0 c5q29.length]), (3, .row 25 [iS r3346.1, .own 17 0 r3346.2.2.2.2.2.2.2.2.1.length, bS r3346.2.1, .own 18 0 r3346.2.2.2.2.2.2.2.2.2.1.length, .own 19 0 r3346.2.2.2.2.2.2.2.2.2.2.1.length]), (4, .row 34 [bS r3346.2.2.1, bS r3346.2.2.2.1, bS r3346.2.2.2.2.1, iS r3346.2.2.2.2.2.1, iS r3346.2.2.2.2.2.2.1, .own 20 0 r3346.2.2.2.2.2.2.2.2.2.2.2.length]), (5, .row 30 (Enc.cells r3346.2.2.2.2.2.2.2.1)), (6, .row 3 (fl c3q19)), (7, .row 39 (fl c4q19)), (8, .row 39 (fl c5q29)), (17, .row 3 (fl r3346.2.2.2.2.2.2.2.2.1)), (18, .row 39 (fl r3346.2.2.2.2.2.2.2.2.2.1)), (19, .row 39 (fl r3346.2.2.2.2.2.2.2.2.2.2.1)), (20, .row 64 (fl r3346.2.2.2.2.2.2.2.2.2.2.2))] 29 follows (by kernel_rfl) ?_
            refine wk_id ?_
            refine seq_cut (A := Unit) (fun _ => ([(1, .sl moves.length (fl moves)), (4, .own 0 0 c0q85.length), (5, .own 1 0 c1q85.length), (6, .ptr 2 0), (8, iS i7), (10, .ptr 3 0), (11, .ptr 4 0), (12, .ptr 5 0), (54, bS (r3346.2.2.1 && (!r3346.2.2.2.1)))], [(0, .row 3 (fl c0q85)), (1, .row 3 (fl c1q85)), (2, .row 25 [iS c2_Cap18, .own 6 0 c3q19.length, bS c2_Closed18, .own 7 0 c4q19.length, .own 8 0 c5q29.length]), (3, .row 25 [iS r3346.1, .own 17 0 r3346.2.2.2.2.2.2.2.2.1.length, bS r3346.2.1, .own 18 0 r3346.2.2.2.2.2.2.2.2.2.1.length, .own 19 0 r3346.2.2.2.2.2.2.2.2.2.2.1.length]), (4, .row 34 [bS r3346.2.2.1, bS r3346.2.2.2.1, bS r3346.2.2.2.2.1, iS r3346.2.2.2.2.2.1, iS r3346.2.2.2.2.2.2.1, .own 20 0 r3346.2.2.2.2.2.2.2.2.2.2.2.length]), (5, .row 30 (Enc.cells r3346.2.2.2.2.2.2.2.1)), (6, .row 3 (fl c3q19)), (7, .row 39 (fl c4q19)), (8, .row 39 (fl c5q29)), (17, .row 3 (fl r3346.2.2.2.2.2.2.2.2.1)), (18, .row 39 (fl r3346.2.2.2.2.2.2.2.2.2.1)), (19, .row 39 (fl r3346.2.2.2.2.2.2.2.2.2.2.1)), (20, .row 64 (fl r3346.2.2.2.2.2.2.2.2.2.2.2))], 29)) (fun _ => True) (fun K3348 hK3348 => ?_) (fun _ _ => ?_)
            · refine reg_f ?_
              refine rs 3 [] [] (by kernel_rfl) allP_nil ?_
              refine run_split 50 r3346.2.2.1 (.inl (by kernel_rfl)) (fun g3349 => ?_) (fun g3349 => ?_)
              · refine rs 4 [] [] (by kernel_rfl) allP_nil ?_
                refine rf [(1, .sl moves.length (fl moves)), (4, .own 0 0 c0q85.length), (5, .own 1 0 c1q85.length), (6, .ptr 2 0), (8, iS i7), (10, .ptr 3 0), (11, .ptr 4 0), (12, .ptr 5 0), (54, bS (!r3346.2.2.2.1))] [(0, .row 3 (fl c0q85)), (1, .row 3 (fl c1q85)), (2, .row 25 [iS c2_Cap18, .own 6 0 c3q19.length, bS c2_Closed18, .own 7 0 c4q19.length, .own 8 0 c5q29.length]), (3, .row 25 [iS r3346.1, .own 17 0 r3346.2.2.2.2.2.2.2.2.1.length, bS r3346.2.1, .own 18 0 r3346.2.2.2.2.2.2.2.2.2.1.length, .own 19 0 r3346.2.2.2.2.2.2.2.2.2.2.1.length]), (4, .row 34 [bS r3346.2.2.1, bS r3346.2.2.2.1, bS r3346.2.2.2.2.1, iS r3346.2.2.2.2.2.1, iS r3346.2.2.2.2.2.2.1, .own 20 0 r3346.2.2.2.2.2.2.2.2.2.2.2.length]), (5, .row 30 (Enc.cells r3346.2.2.2.2.2.2.2.1)), (6, .row 3 (fl c3q19)), (7, .row 39 (fl c4q19)), (8, .row 39 (fl c5q29)), (17, .row 3 (fl r3346.2.2.2.2.2.2.2.2.1)), (18, .row 39 (fl r3346.2.2.2.2.2.2.2.2.2.1)), (19, .row 39 (fl r3346.2.2.2.2.2.2.2.2.2.2.1)), (20, .row 64 (fl r3346.2.2.2.2.2.2.2.2.2.2.2))] 29 (by kernel_rfl) ?_
                exact hK3348 () _ _ _ trivial (leSt_m [(0, 0), (1, 1), (2, 2), (3, 3), (4, 4), (5, 5), (6, 6), (7, 7), (8, 8), (17, 17), (18, 18), (19, 19), (20, 20)] [] (by (try simp only [g3349]) <;> simp only [push_cast, seval]) (by (try simp only [g3349]) <;> simp only [push_cast, seval]) rfl rfl rfl)
              · refine rs 4 [] [] (by kernel_rfl) allP_nil ?_
                refine rf [(1, .sl moves.length (fl moves)), (4, .own 0 0 c0q85.length), (5, .own 1 0 c1q85.length), (6, .ptr 2 0), (8, iS i7), (10, .ptr 3 0), (11, .ptr 4 0), (12, .ptr 5 0), (54, bS false)] [(0, .row 3 (fl c0q85)), (1, .row 3 (fl c1q85)), (2, .row 25 [iS c2_Cap18, .own 6 0 c3q19.length, bS c2_Closed18, .own 7 0 c4q19.length, .own 8 0 c5q29.length]), (3, .row 25 [iS r3346.1, .own 17 0 r3346.2.2.2.2.2.2.2.2.1.length, bS r3346.2.1, .own 18 0 r3346.2.2.2.2.2.2.2.2.2.1.length, .own 19 0 r3346.2.2.2.2.2.2.2.2.2.2.1.length]), (4, .row 34 [bS r3346.2.2.1, bS r3346.2.2.2.1, bS r3346.2.2.2.2.1, iS r3346.2.2.2.2.2.1, iS r3346.2.2.2.2.2.2.1, .own 20 0 r3346.2.2.2.2.2.2.2.2.2.2.2.length]), (5, .row 30 (Enc.cells r3346.2.2.2.2.2.2.2.1)), (6, .row 3 (fl c3q19)), (7, .row 39 (fl c4q19)), (8, .row 39 (fl c5q29)), (17, .row 3 (fl r3346.2.2.2.2.2.2.2.2.1)), (18, .row 39 (fl r3346.2.2.2.2.2.2.2.2.2.1)), (19, .row 39 (fl r3346.2.2.2.2.2.2.2.2.2.2.1)), (20, .row 64 (fl r3346.2.2.2.2.2.2.2.2.2.2.2))] 29 (by kernel_rfl) ?_
                exact hK3348 () _ _ _ trivial (leSt_m [(0, 0), (1, 1), (2, 2), (3, 3), (4, 4), (5, 5), (6, 6), (7, 7), (8, 8), (17, 17), (18, 18), (19, 19), (20, 20)] [] (by (try simp only [g3349]) <;> simp only [push_cast, seval]) (by (try simp only [g3349]) <;> simp only [push_cast, seval]) rfl rfl rfl)
            · dsimp only
              refine cond_sx h (by kernel_rfl) (fun g3354 h => ?_) (fun g3354 h => ?_)
              · refine chk_sx h (fun g3353 h => ?_)
                refine reg_f ?_
                have k3352 : (c0q85 ++ ([i7] : List Int)).length * 8 ≤ 140737488355328 := by first | simpa only [Bool.and_eq_true, decide_eq_true_eq, bne_iff_ne, ne_eq] using g3353 | (simp at g3353 ⊢; omega)
                refine rs 5 [none, none, none, some ⟨.own 30 0 (c0q85 ++ ([i7] : List Int)).length, [(30, .row 3 (fl (c0q85 ++ ([i7] : List Int)))), (0, .dead)], 31, [0, 29]⟩] _ (by kernel_rfl) (allP_cons (ob_app (P := Try.prog) c0q85 ([i7] : List Int) 1 8 rfl (appCells (fl ([i7] : List Int)) 0 (([i7] : List Int).length * 1)) ([i7] : List Int).length (app_own ([i7] : List Int) 1 rfl) rfl (0 + ([i7] : List Int).length * 1 ≤ (fl ([i7] : List Int)).length) (app_own_le ([i7] : List Int) 1 rfl) 3 (by kernel_rfl) (by decide) k3352 0 30 [29]) allP_nil) ?_
                refine rf [(1, .sl moves.length (fl moves)), (4, .own 30 0 (c0q85 ++ ([i7] : List Int)).length), (5, .own 1 0 c1q85.length), (6, .ptr 2 0), (8, iS i7), (10, .ptr 3 0), (11, .ptr 4 0), (12, .ptr 5 0)] [(0, .dead), (1, .row 3 (fl c1q85)), (2, .row 25 [iS c2_Cap18, .own 6 0 c3q19.length, bS c2_Closed18, .own 7 0 c4q19.length, .own 8 0 c5q29.length]), (3, .row 25 [iS r3346.1, .own 17 0 r3346.2.2.2.2.2.2.2.2.1.length, bS r3346.2.1, .own 18 0 r3346.2.2.2.2.2.2.2.2.2.1.length, .own 19 0 r3346.2.2.2.2.2.2.2.2.2.2.1.length]), (4, .row 34 [bS r3346.2.2.1, bS r3346.2.2.2.1, bS r3346.2.2.2.2.1, iS r3346.2.2.2.2.2.1, iS r3346.2.2.2.2.2.2.1, .own 20 0 r3346.2.2.2.2.2.2.2.2.2.2.2.length]), (5, .row 30 (Enc.cells r3346.2.2.2.2.2.2.2.1)), (6, .row 3 (fl c3q19)), (7, .row 39 (fl c4q19)), (8, .row 39 (fl c5q29)), (17, .row 3 (fl r3346.2.2.2.2.2.2.2.2.1)), (18, .row 39 (fl r3346.2.2.2.2.2.2.2.2.2.1)), (19, .row 39 (fl r3346.2.2.2.2.2.2.2.2.2.2.1)), (20, .row 64 (fl r3346.2.2.2.2.2.2.2.2.2.2.2)), (29, .row 3 (fl ([i7] : List Int))), (30, .row 3 (fl (c0q85 ++ ([i7] : List Int))))] 31 (by kernel_rfl) ?_
                exact hK3336 ((c0q85 ++ ([i7] : List Int)), c1q85, r3346.1, r3346.2.1, r3346.2.2.1, r3346.2.2.2.1, r3346.2.2.2.2.1, r3346.2.2.2.2.2.1, r3346.2.2.2.2.2.2.1, r3346.2.2.2.2.2.2.2.1, r3346.2.2.2.2.2.2.2.2.1, r3346.2.2.2.2.2.2.2.2.2.1, r3346.2.2.2.2.2.2.2.2.2.2.1, r3346.2.2.2.2.2.2.2.2.2.2.2) _ _ _ h (leSt_m [(0, 30), (1, 1), (2, 2), (3, 3), (4, 4), (5, 5), (6, 6), (7, 7), (8, 8), (9, 17), (10, 18), (11, 19), (12, 20)] [] (by simp only [push_cast, seval]) (by simp only [push_cast, seval]) rfl rfl rfl)
              · exact hK3336 (c0q85, c1q85, r3346.1, r3346.2.1, r3346.2.2.1, r3346.2.2.2.1, r3346.2.2.2.2.1, r3346.2.2.2.2.2.1, r3346.2.2.2.2.2.2.1, r3346.2.2.2.2.2.2.2.1, r3346.2.2.2.2.2.2.2.2.1, r3346.2.2.2.2.2.2.2.2.2.1, r3346.2.2.2.2.2.2.2.2.2.2.1, r3346.2.2.2.2.2.2.2.2.2.2.2) _ _ _ h (leSt_m [(0, 0), (1, 1), (2, 2), (3, 3), (4, 4), (5, 5), (6, 6), (7, 7), (8, 8), (9, 17), (10, 18), (11, 19), (12, 20)] [] (by simp only [push_cast, seval]) (by simp only [push_cast, seval]) rfl rfl rfl)
          · refine seq_cut (A := Bool) (fun a => ([(1, .sl moves.length (fl moves)), (4, .own 0 0 c0q85.length), (5, .own 1 0 c1q85.length), (6, .ptr 2 0), (8, iS i7), (9, iS (IntKind.i64.wrap (i7 + 1))), (10, .ptr 3 0), (11, .ptr 4 0), (12, .ptr 5 0), (31, iS (ix moves i7)), (59, bS a)], [(0, .row 3 (fl c0q85)), (1, .row 3 (fl c1q85)), (2, .row 25 [iS c2_Cap18, .own 6 0 c3q19.length, bS c2_Closed18, .own 7 0 c4q19.length, .own 8 0 c5q29.length]), (3, .row 25 [iS c2_Cap18, .own 6 0 c3q19.length, bS c2_Closed18, .own 7 0 c4q19.length, .own 8 0 c5q29.length]), (4, .row 34 [bS false, bS false, bS false, iS 0, iS 0, .v (.slice none 0 0)]), (5, .row 30 [iS 0, iS 0]), (6, .row 3 (fl c3q19)), (7, .row 39 (fl c4q19)), (8, .row 39 (fl c5q29))], 9)) (fun a => (taskmilllaw_played_j5 moves i7 c0q85 c1q85 c2_Cap18 c2_Closed18 c3q19 c4q19 c5q29 a) = some o3) (fun K3357 hK3357 => ?_) ?_
            · refine seq_np ?_
              refine reg_f ?_
              refine rs 2 [] [] (by kernel_rfl) allP_nil ?_
              refine rf [(1, .sl moves.length (fl moves)), (4, .own 0 0 c0q85.length), (5, .own 1 0 c1q85.length), (6, .ptr 2 0), (8, iS i7), (9, iS (IntKind.i64.wrap (i7 + 1))), (10, .ptr 3 0), (11, .ptr 4 0), (12, .ptr 5 0), (31, iS (ix moves i7)), (59, bS ((ix moves i7) == 2))] [(0, .row 3 (fl c0q85)), (1, .row 3 (fl c1q85)), (2, .row 25 [iS c2_Cap18, .own 6 0 c3q19.length, bS c2_Closed18, .own 7 0 c4q19.length, .own 8 0 c5q29.length]), (3, .row 25 [iS c2_Cap18, .own 6 0 c3q19.length, bS c2_Closed18, .own 7 0 c4q19.length, .own 8 0 c5q29.length]), (4, .row 34 [bS false, bS false, bS false, iS 0, iS 0, .v (.slice none 0 0)]), (5, .row 30 [iS 0, iS 0]), (6, .row 3 (fl c3q19)), (7, .row 39 (fl c4q19)), (8, .row 39 (fl c5q29))] 9 (by kernel_rfl) ?_
              refine wk_id ?_
              refine cond_sx h (by kernel_rfl) (fun g3358 h => ?_) (fun g3358 h => ?_)
              · exact hK3357 (((ix moves i7) == 2)) _ _ _ h (leSt_m [(0, 0), (1, 1), (2, 2), (3, 3), (4, 4), (5, 5), (6, 6), (7, 7), (8, 8)] [] (by simp only [push_cast, seval]) (by simp only [push_cast, seval]) rfl rfl rfl)
              · refine reg_f ?_
                refine rs 2 [] [] (by kernel_rfl) allP_nil ?_
                refine rf [(1, .sl moves.length (fl moves)), (4, .own 0 0 c0q85.length), (5, .own 1 0 c1q85.length), (6, .ptr 2 0), (8, iS i7), (9, iS (IntKind.i64.wrap (i7 + 1))), (10, .ptr 3 0), (11, .ptr 4 0), (12, .ptr 5 0), (31, iS (ix moves i7)), (59, bS ((ix moves i7) == 3))] [(0, .row 3 (fl c0q85)), (1, .row 3 (fl c1q85)), (2, .row 25 [iS c2_Cap18, .own 6 0 c3q19.length, bS c2_Closed18, .own 7 0 c4q19.length, .own 8 0 c5q29.length]), (3, .row 25 [iS c2_Cap18, .own 6 0 c3q19.length, bS c2_Closed18, .own 7 0 c4q19.length, .own 8 0 c5q29.length]), (4, .row 34 [bS false, bS false, bS false, iS 0, iS 0, .v (.slice none 0 0)]), (5, .row 30 [iS 0, iS 0]), (6, .row 3 (fl c3q19)), (7, .row 39 (fl c4q19)), (8, .row 39 (fl c5q29))] 9 (by kernel_rfl) ?_
                exact hK3357 (((ix moves i7) == 3)) _ _ _ h (leSt_m [(0, 0), (1, 1), (2, 2), (3, 3), (4, 4), (5, 5), (6, 6), (7, 7), (8, 8)] [] (by simp only [push_cast, seval]) (by simp only [push_cast, seval]) rfl rfl rfl)
            · rintro t59q15 h
              try dsimp only at h ⊢
              unfold taskmilllaw_played_j5 at h
              refine cond_sx h (by kernel_rfl) (fun g3376 h => ?_) (fun g3376 h => ?_)
              · refine chk_sx h (fun g3363 h => ?_)
                refine seq_np ?_
                refine reg_t ?_
                have k3362 : 0 ≤ i7 ∧ i7 < ((moves.length : Nat) : Int) := by first | simpa only [Bool.and_eq_true, decide_eq_true_eq, bne_iff_ne, ne_eq] using g3363 | (simp at g3363 ⊢; omega)
                refine rs 7 [none, none, none, none, some ⟨.iptr (fl moves) ((i7).toNat * 1), [], 13, []⟩, some ⟨iS (ix moves i7), [], 14, []⟩] _ (by kernel_rfl) (allP_cons (ob_ld moves i7 1 0 ((i7).toNat * 1) k3362 rfl (by decide) (by first | rfl | omega) (dflS Try.prog 3) (iS (ix moves i7)) rfl 14 []) (allP_cons (ob_ix_l moves 1 13 i7 k3362) allP_nil)) ?_
                obtain ⟨r3364, hr3364, h⟩ := bind_sx h
                refine call_x (pipe_Get_spec (Pipe.mk c2_Cap18 c3q19 c2_Closed18 c4q19 c5q29) (IntKind.i64.wrap (i7 + 1)) ((ix moves i7) == 3) r3364 hr3364) (args := [.agg [iS c2_Cap18, .own 6 0 c3q19.length, bS c2_Closed18, .own 7 0 c4q19.length, .own 8 0 c5q29.length], iS (IntKind.i64.wrap (i7 + 1)), bS ((ix moves i7) == 3)]) (dst := (some 70)) (by kernel_rfl) [(0, .row 3 (fl c0q85)), (1, .row 3 (fl c1q85)), (2, .row 25 [iS c2_Cap18, .own 6 0 c3q19.length, bS c2_Closed18, .own 7 0 c4q19.length, .own 8 0 c5q29.length]), (3, .row 25 [iS c2_Cap18, .own 6 0 c3q19.length, bS c2_Closed18, .own 7 0 c4q19.length, .own 8 0 c5q29.length]), (4, .row 34 [bS false, bS false, bS false, iS 0, iS 0, .v (.slice none 0 0)]), (5, .row 30 [iS 0, iS 0]), (6, .row 3 (fl c3q19)), (7, .row 39 (fl c4q19)), (8, .row 39 (fl c5q29))] 16 (by kernel_rfl) [] [6, 7, 8] (.tup [.agg [iS r3364.1, .own 16 0 r3364.2.2.2.2.2.2.2.2.1.length, bS r3364.2.1, .own 17 0 r3364.2.2.2.2.2.2.2.2.2.1.length, .own 18 0 r3364.2.2.2.2.2.2.2.2.2.2.1.length], .agg [bS r3364.2.2.1, bS r3364.2.2.2.1, bS r3364.2.2.2.2.1, iS r3364.2.2.2.2.2.1, iS r3364.2.2.2.2.2.2.1, .own 19 0 r3364.2.2.2.2.2.2.2.2.2.2.2.length], .agg (Enc.cells r3364.2.2.2.2.2.2.2.1)]) [(16, .row 3 (fl r3364.2.2.2.2.2.2.2.2.1)), (17, .row 39 (fl r3364.2.2.2.2.2.2.2.2.2.1)), (18, .row 39 (fl r3364.2.2.2.2.2.2.2.2.2.2.1)), (19, .row 64 (fl r3364.2.2.2.2.2.2.2.2.2.2.2))] (by simp only [push_cast, seval]) (by simp only [push_cast, seval]) (by kernel_rfl) (.inr ⟨by simp only [push_cast, seval], by simp only [push_cast, seval]⟩) (by simp only [push_cast, seval]) (by simp only [push_cast, seval]) ?_
                refine rs 7 [] [] (by kernel_rfl) allP_nil ?_
                refine rt [(1, .sl moves.length (fl moves)), (4, .own 0 0 c0q85.length), (5, .own 1 0 c1q85.length), (6, .ptr 2 0), (8, iS i7), (10, .ptr 3 0), (11, .ptr 4 0), (12, .ptr 5 0)] [(0, .row 3 (fl c0q85)), (1, .row 3 (fl c1q85)), (2, .row 25 [iS c2_Cap18, .own 6 0 c3q19.length, bS c2_Closed18, .own 7 0 c4q19.length, .own 8 0 c5q29.length]), (3, .row 25 [iS r3364.1, .own 16 0 r3364.2.2.2.2.2.2.2.2.1.length, bS r3364.2.1, .own 17 0 r3364.2.2.2.2.2.2.2.2.2.1.length, .own 18 0 r3364.2.2.2.2.2.2.2.2.2.2.1.length]), (4, .row 34 [bS r3364.2.2.1, bS r3364.2.2.2.1, bS r3364.2.2.2.2.1, iS r3364.2.2.2.2.2.1, iS r3364.2.2.2.2.2.2.1, .own 19 0 r3364.2.2.2.2.2.2.2.2.2.2.2.length]), (5, .row 30 (Enc.cells r3364.2.2.2.2.2.2.2.1)), (6, .row 3 (fl c3q19)), (7, .row 39 (fl c4q19)), (8, .row 39 (fl c5q29)), (16, .row 3 (fl r3364.2.2.2.2.2.2.2.2.1)), (17, .row 39 (fl r3364.2.2.2.2.2.2.2.2.2.1)), (18, .row 39 (fl r3364.2.2.2.2.2.2.2.2.2.2.1)), (19, .row 64 (fl r3364.2.2.2.2.2.2.2.2.2.2.2))] 28 follows (by kernel_rfl) ?_
                refine wk_id ?_
                refine seq_cut (A := Unit) (fun _ => ([(1, .sl moves.length (fl moves)), (4, .own 0 0 c0q85.length), (5, .own 1 0 c1q85.length), (6, .ptr 2 0), (8, iS i7), (10, .ptr 3 0), (11, .ptr 4 0), (12, .ptr 5 0), (79, bS (r3364.2.2.1 && r3364.2.2.2.2.1))], [(0, .row 3 (fl c0q85)), (1, .row 3 (fl c1q85)), (2, .row 25 [iS c2_Cap18, .own 6 0 c3q19.length, bS c2_Closed18, .own 7 0 c4q19.length, .own 8 0 c5q29.length]), (3, .row 25 [iS r3364.1, .own 16 0 r3364.2.2.2.2.2.2.2.2.1.length, bS r3364.2.1, .own 17 0 r3364.2.2.2.2.2.2.2.2.2.1.length, .own 18 0 r3364.2.2.2.2.2.2.2.2.2.2.1.length]), (4, .row 34 [bS r3364.2.2.1, bS r3364.2.2.2.1, bS r3364.2.2.2.2.1, iS r3364.2.2.2.2.2.1, iS r3364.2.2.2.2.2.2.1, .own 19 0 r3364.2.2.2.2.2.2.2.2.2.2.2.length]), (5, .row 30 (Enc.cells r3364.2.2.2.2.2.2.2.1)), (6, .row 3 (fl c3q19)), (7, .row 39 (fl c4q19)), (8, .row 39 (fl c5q29)), (16, .row 3 (fl r3364.2.2.2.2.2.2.2.2.1)), (17, .row 39 (fl r3364.2.2.2.2.2.2.2.2.2.1)), (18, .row 39 (fl r3364.2.2.2.2.2.2.2.2.2.2.1)), (19, .row 64 (fl r3364.2.2.2.2.2.2.2.2.2.2.2))], 28)) (fun _ => True) (fun K3366 hK3366 => ?_) (fun _ _ => ?_)
                · refine reg_f ?_
                  refine rs 3 [] [] (by kernel_rfl) allP_nil ?_
                  refine run_split 76 r3364.2.2.1 (.inl (by kernel_rfl)) (fun g3367 => ?_) (fun g3367 => ?_)
                  · refine rs 3 [] [] (by kernel_rfl) allP_nil ?_
                    refine rf [(1, .sl moves.length (fl moves)), (4, .own 0 0 c0q85.length), (5, .own 1 0 c1q85.length), (6, .ptr 2 0), (8, iS i7), (10, .ptr 3 0), (11, .ptr 4 0), (12, .ptr 5 0), (79, bS r3364.2.2.2.2.1)] [(0, .row 3 (fl c0q85)), (1, .row 3 (fl c1q85)), (2, .row 25 [iS c2_Cap18, .own 6 0 c3q19.length, bS c2_Closed18, .own 7 0 c4q19.length, .own 8 0 c5q29.length]), (3, .row 25 [iS r3364.1, .own 16 0 r3364.2.2.2.2.2.2.2.2.1.length, bS r3364.2.1, .own 17 0 r3364.2.2.2.2.2.2.2.2.2.1.length, .own 18 0 r3364.2.2.2.2.2.2.2.2.2.2.1.length]), (4, .row 34 [bS r3364.2.2.1, bS r3364.2.2.2.1, bS r3364.2.2.2.2.1, iS r3364.2.2.2.2.2.1, iS r3364.2.2.2.2.2.2.1, .own 19 0 r3364.2.2.2.2.2.2.2.2.2.2.2.length]), (5, .row 30 (Enc.cells r3364.2.2.2.2.2.2.2.1)), (6, .row 3 (fl c3q19)), (7, .row 39 (fl c4q19)), (8, .row 39 (fl c5q29)), (16, .row 3 (fl r3364.2.2.2.2.2.2.2.2.1)), (17, .row 39 (fl r3364.2.2.2.2.2.2.2.2.2.1)), (18, .row 39 (fl r3364.2.2.2.2.2.2.2.2.2.2.1)), (19, .row 64 (fl r3364.2.2.2.2.2.2.2.2.2.2.2))] 28 (by kernel_rfl) ?_
                    exact hK3366 () _ _ _ trivial (leSt_m [(0, 0), (1, 1), (2, 2), (3, 3), (4, 4), (5, 5), (6, 6), (7, 7), (8, 8), (16, 16), (17, 17), (18, 18), (19, 19)] [] (by (try simp only [g3367]) <;> simp only [push_cast, seval]) (by (try simp only [g3367]) <;> simp only [push_cast, seval]) rfl rfl rfl)
                  · refine rs 3 [] [] (by kernel_rfl) allP_nil ?_
                    refine rf [(1, .sl moves.length (fl moves)), (4, .own 0 0 c0q85.length), (5, .own 1 0 c1q85.length), (6, .ptr 2 0), (8, iS i7), (10, .ptr 3 0), (11, .ptr 4 0), (12, .ptr 5 0), (79, bS false)] [(0, .row 3 (fl c0q85)), (1, .row 3 (fl c1q85)), (2, .row 25 [iS c2_Cap18, .own 6 0 c3q19.length, bS c2_Closed18, .own 7 0 c4q19.length, .own 8 0 c5q29.length]), (3, .row 25 [iS r3364.1, .own 16 0 r3364.2.2.2.2.2.2.2.2.1.length, bS r3364.2.1, .own 17 0 r3364.2.2.2.2.2.2.2.2.2.1.length, .own 18 0 r3364.2.2.2.2.2.2.2.2.2.2.1.length]), (4, .row 34 [bS r3364.2.2.1, bS r3364.2.2.2.1, bS r3364.2.2.2.2.1, iS r3364.2.2.2.2.2.1, iS r3364.2.2.2.2.2.2.1, .own 19 0 r3364.2.2.2.2.2.2.2.2.2.2.2.length]), (5, .row 30 (Enc.cells r3364.2.2.2.2.2.2.2.1)), (6, .row 3 (fl c3q19)), (7, .row 39 (fl c4q19)), (8, .row 39 (fl c5q29)), (16, .row 3 (fl r3364.2.2.2.2.2.2.2.2.1)), (17, .row 39 (fl r3364.2.2.2.2.2.2.2.2.2.1)), (18, .row 39 (fl r3364.2.2.2.2.2.2.2.2.2.2.1)), (19, .row 64 (fl r3364.2.2.2.2.2.2.2.2.2.2.2))] 28 (by kernel_rfl) ?_
                    exact hK3366 () _ _ _ trivial (leSt_m [(0, 0), (1, 1), (2, 2), (3, 3), (4, 4), (5, 5), (6, 6), (7, 7), (8, 8), (16, 16), (17, 17), (18, 18), (19, 19)] [] (by (try simp only [g3367]) <;> simp only [push_cast, seval]) (by (try simp only [g3367]) <;> simp only [push_cast, seval]) rfl rfl rfl)
                · dsimp only
                  refine cond_sx h (by kernel_rfl) (fun g3372 h => ?_) (fun g3372 h => ?_)
                  · refine chk_sx h (fun g3371 h => ?_)
                    refine reg_f ?_
                    have k3370 : (c1q85 ++ ([r3364.2.2.2.2.2.1] : List Int)).length * 8 ≤ 140737488355328 := by first | simpa only [Bool.and_eq_true, decide_eq_true_eq, bne_iff_ne, ne_eq] using g3371 | (simp at g3371 ⊢; omega)
                    refine rs 6 [none, none, none, none, some ⟨.own 29 0 (c1q85 ++ ([r3364.2.2.2.2.2.1] : List Int)).length, [(29, .row 3 (fl (c1q85 ++ ([r3364.2.2.2.2.2.1] : List Int)))), (1, .dead)], 30, [1, 28]⟩] _ (by kernel_rfl) (allP_cons (ob_app (P := Try.prog) c1q85 ([r3364.2.2.2.2.2.1] : List Int) 1 8 rfl (appCells (fl ([r3364.2.2.2.2.2.1] : List Int)) 0 (([r3364.2.2.2.2.2.1] : List Int).length * 1)) ([r3364.2.2.2.2.2.1] : List Int).length (app_own ([r3364.2.2.2.2.2.1] : List Int) 1 rfl) rfl (0 + ([r3364.2.2.2.2.2.1] : List Int).length * 1 ≤ (fl ([r3364.2.2.2.2.2.1] : List Int)).length) (app_own_le ([r3364.2.2.2.2.2.1] : List Int) 1 rfl) 3 (by kernel_rfl) (by decide) k3370 1 29 [28]) allP_nil) ?_
                    refine rf [(1, .sl moves.length (fl moves)), (4, .own 0 0 c0q85.length), (5, .own 29 0 (c1q85 ++ ([r3364.2.2.2.2.2.1] : List Int)).length), (6, .ptr 2 0), (8, iS i7), (10, .ptr 3 0), (11, .ptr 4 0), (12, .ptr 5 0)] [(0, .row 3 (fl c0q85)), (1, .dead), (2, .row 25 [iS c2_Cap18, .own 6 0 c3q19.length, bS c2_Closed18, .own 7 0 c4q19.length, .own 8 0 c5q29.length]), (3, .row 25 [iS r3364.1, .own 16 0 r3364.2.2.2.2.2.2.2.2.1.length, bS r3364.2.1, .own 17 0 r3364.2.2.2.2.2.2.2.2.2.1.length, .own 18 0 r3364.2.2.2.2.2.2.2.2.2.2.1.length]), (4, .row 34 [bS r3364.2.2.1, bS r3364.2.2.2.1, bS r3364.2.2.2.2.1, iS r3364.2.2.2.2.2.1, iS r3364.2.2.2.2.2.2.1, .own 19 0 r3364.2.2.2.2.2.2.2.2.2.2.2.length]), (5, .row 30 (Enc.cells r3364.2.2.2.2.2.2.2.1)), (6, .row 3 (fl c3q19)), (7, .row 39 (fl c4q19)), (8, .row 39 (fl c5q29)), (16, .row 3 (fl r3364.2.2.2.2.2.2.2.2.1)), (17, .row 39 (fl r3364.2.2.2.2.2.2.2.2.2.1)), (18, .row 39 (fl r3364.2.2.2.2.2.2.2.2.2.2.1)), (19, .row 64 (fl r3364.2.2.2.2.2.2.2.2.2.2.2)), (28, .row 3 (fl ([r3364.2.2.2.2.2.1] : List Int))), (29, .row 3 (fl (c1q85 ++ ([r3364.2.2.2.2.2.1] : List Int))))] 30 (by kernel_rfl) ?_
                    exact hK3336 (c0q85, (c1q85 ++ ([r3364.2.2.2.2.2.1] : List Int)), r3364.1, r3364.2.1, r3364.2.2.1, r3364.2.2.2.1, r3364.2.2.2.2.1, r3364.2.2.2.2.2.1, r3364.2.2.2.2.2.2.1, r3364.2.2.2.2.2.2.2.1, r3364.2.2.2.2.2.2.2.2.1, r3364.2.2.2.2.2.2.2.2.2.1, r3364.2.2.2.2.2.2.2.2.2.2.1, r3364.2.2.2.2.2.2.2.2.2.2.2) _ _ _ h (leSt_m [(0, 0), (1, 29), (2, 2), (3, 3), (4, 4), (5, 5), (6, 6), (7, 7), (8, 8), (9, 16), (10, 17), (11, 18), (12, 19)] [] (by simp only [push_cast, seval]) (by simp only [push_cast, seval]) rfl rfl rfl)
                  · exact hK3336 (c0q85, c1q85, r3364.1, r3364.2.1, r3364.2.2.1, r3364.2.2.2.1, r3364.2.2.2.2.1, r3364.2.2.2.2.2.1, r3364.2.2.2.2.2.2.1, r3364.2.2.2.2.2.2.2.1, r3364.2.2.2.2.2.2.2.2.1, r3364.2.2.2.2.2.2.2.2.2.1, r3364.2.2.2.2.2.2.2.2.2.2.1, r3364.2.2.2.2.2.2.2.2.2.2.2) _ _ _ h (leSt_m [(0, 0), (1, 1), (2, 2), (3, 3), (4, 4), (5, 5), (6, 6), (7, 7), (8, 8), (9, 16), (10, 17), (11, 18), (12, 19)] [] (by simp only [push_cast, seval]) (by simp only [push_cast, seval]) rfl rfl rfl)
              · refine seq_np ?_
                refine reg_f ?_
                refine rs 2 [] [] (by kernel_rfl) allP_nil ?_
                refine rf [(1, .sl moves.length (fl moves)), (4, .own 0 0 c0q85.length), (5, .own 1 0 c1q85.length), (6, .ptr 2 0), (8, iS i7), (10, .ptr 3 0), (11, .ptr 4 0), (12, .ptr 5 0), (85, bS ((ix moves i7) == 4))] [(0, .row 3 (fl c0q85)), (1, .row 3 (fl c1q85)), (2, .row 25 [iS c2_Cap18, .own 6 0 c3q19.length, bS c2_Closed18, .own 7 0 c4q19.length, .own 8 0 c5q29.length]), (3, .row 25 [iS c2_Cap18, .own 6 0 c3q19.length, bS c2_Closed18, .own 7 0 c4q19.length, .own 8 0 c5q29.length]), (4, .row 34 [bS false, bS false, bS false, iS 0, iS 0, .v (.slice none 0 0)]), (5, .row 30 [iS 0, iS 0]), (6, .row 3 (fl c3q19)), (7, .row 39 (fl c4q19)), (8, .row 39 (fl c5q29))] 9 (by kernel_rfl) ?_
                refine wk_id ?_
                refine cond_sx h (by kernel_rfl) (fun g3375 h => ?_) (fun g3375 h => ?_)
                · refine reg_f ?_
                  refine rs 1 [] [] (by kernel_rfl) allP_nil ?_
                  obtain ⟨r3374, hr3374, h⟩ := bind_sx h
                  refine call_x (pipe_Shut_spec (Pipe.mk c2_Cap18 c3q19 c2_Closed18 c4q19 c5q29) r3374 hr3374) (args := [.agg [iS c2_Cap18, .own 6 0 c3q19.length, bS c2_Closed18, .own 7 0 c4q19.length, .own 8 0 c5q29.length]]) (dst := (some 89)) (by kernel_rfl) [(0, .row 3 (fl c0q85)), (1, .row 3 (fl c1q85)), (2, .row 25 [iS c2_Cap18, .own 6 0 c3q19.length, bS c2_Closed18, .own 7 0 c4q19.length, .own 8 0 c5q29.length]), (3, .row 25 [iS c2_Cap18, .own 6 0 c3q19.length, bS c2_Closed18, .own 7 0 c4q19.length, .own 8 0 c5q29.length]), (4, .row 34 [bS false, bS false, bS false, iS 0, iS 0, .v (.slice none 0 0)]), (5, .row 30 [iS 0, iS 0]), (6, .row 3 (fl c3q19)), (7, .row 39 (fl c4q19)), (8, .row 39 (fl c5q29))] 9 (by kernel_rfl) [] [6, 7, 8] (.tup [.agg [iS r3374.1, .own 9 0 r3374.2.2.2.2.2.2.2.2.1.length, bS r3374.2.1, .own 10 0 r3374.2.2.2.2.2.2.2.2.2.1.length, .own 11 0 r3374.2.2.2.2.2.2.2.2.2.2.1.length], .agg [bS r3374.2.2.1, bS r3374.2.2.2.1, bS r3374.2.2.2.2.1, iS r3374.2.2.2.2.2.1, iS r3374.2.2.2.2.2.2.1, .own 12 0 r3374.2.2.2.2.2.2.2.2.2.2.2.length], .agg (Enc.cells r3374.2.2.2.2.2.2.2.1)]) [(9, .row 3 (fl r3374.2.2.2.2.2.2.2.2.1)), (10, .row 39 (fl r3374.2.2.2.2.2.2.2.2.2.1)), (11, .row 39 (fl r3374.2.2.2.2.2.2.2.2.2.2.1)), (12, .row 64 (fl r3374.2.2.2.2.2.2.2.2.2.2.2))] (by simp only [push_cast, seval]) (by simp only [push_cast, seval]) (by kernel_rfl) (.inr ⟨by simp only [push_cast, seval], by simp only [push_cast, seval]⟩) (by simp only [push_cast, seval]) (by simp only [push_cast, seval]) ?_
                  refine rs 7 [] [] (by kernel_rfl) allP_nil ?_
                  refine rf [(1, .sl moves.length (fl moves)), (4, .own 0 0 c0q85.length), (5, .own 1 0 c1q85.length), (6, .ptr 2 0), (8, iS i7), (10, .ptr 3 0), (11, .ptr 4 0), (12, .ptr 5 0)] [(0, .row 3 (fl c0q85)), (1, .row 3 (fl c1q85)), (2, .row 25 [iS c2_Cap18, .own 6 0 c3q19.length, bS c2_Closed18, .own 7 0 c4q19.length, .own 8 0 c5q29.length]), (3, .row 25 [iS r3374.1, .own 9 0 r3374.2.2.2.2.2.2.2.2.1.length, bS r3374.2.1, .own 10 0 r3374.2.2.2.2.2.2.2.2.2.1.length, .own 11 0 r3374.2.2.2.2.2.2.2.2.2.2.1.length]), (4, .row 34 [bS r3374.2.2.1, bS r3374.2.2.2.1, bS r3374.2.2.2.2.1, iS r3374.2.2.2.2.2.1, iS r3374.2.2.2.2.2.2.1, .own 12 0 r3374.2.2.2.2.2.2.2.2.2.2.2.length]), (5, .row 30 (Enc.cells r3374.2.2.2.2.2.2.2.1)), (6, .row 3 (fl c3q19)), (7, .row 39 (fl c4q19)), (8, .row 39 (fl c5q29)), (9, .row 3 (fl r3374.2.2.2.2.2.2.2.2.1)), (10, .row 39 (fl r3374.2.2.2.2.2.2.2.2.2.1)), (11, .row 39 (fl r3374.2.2.2.2.2.2.2.2.2.2.1)), (12, .row 64 (fl r3374.2.2.2.2.2.2.2.2.2.2.2))] 13 (by kernel_rfl) ?_
                  exact hK3336 (c0q85, c1q85, r3374.1, r3374.2.1, r3374.2.2.1, r3374.2.2.2.1, r3374.2.2.2.2.1, r3374.2.2.2.2.2.1, r3374.2.2.2.2.2.2.1, r3374.2.2.2.2.2.2.2.1, r3374.2.2.2.2.2.2.2.2.1, r3374.2.2.2.2.2.2.2.2.2.1, r3374.2.2.2.2.2.2.2.2.2.2.1, r3374.2.2.2.2.2.2.2.2.2.2.2) _ _ _ h (leSt_m [(0, 0), (1, 1), (2, 2), (3, 3), (4, 4), (5, 5), (6, 6), (7, 7), (8, 8), (9, 9), (10, 10), (11, 11), (12, 12)] [] (by simp only [push_cast, seval]) (by simp only [push_cast, seval]) rfl rfl rfl)
                · exact hK3278 (c0q85, c1q85, c2_Cap18, c2_Closed18, c3q19, c4q19, c5q29) _ _ _ h (leSt_m [(0, 0), (1, 1), (2, 2), (3, 6), (4, 7), (5, 8)] [] (by simp only [push_cast, seval]) (by simp only [push_cast, seval]) rfl rfl rfl)
      · rintro ⟨c0q101, c1q101, c3_Cap14, c3_Closed14, c4_Done14, c4_Panic14, c4_Ok14, c4_Value14, c4_Case14, c5q35, c9q14, c10q10, c11q10, c12q10⟩ h
        try dsimp only at h ⊢
        unfold taskmilllaw_played_j4 at h
        refine wk_id ?_
        refine seq_np ?_
        refine seq_cut (A := Bool) (fun a => ([(1, .sl moves.length (fl moves)), (4, .own 0 0 c0q101.length), (5, .own 1 0 c1q101.length), (6, .ptr 2 0), (8, iS i7), (10, .ptr 3 0), (11, .ptr 4 0), (101, bS a)], [(0, .row 3 (fl c0q101)), (1, .row 3 (fl c1q101)), (2, .row 25 [iS c2_Cap18, .own 5 0 c3q19.length, bS c2_Closed18, .own 6 0 c4q19.length, .own 7 0 c5q29.length]), (3, .row 25 [iS c3_Cap14, .own 8 0 c9q14.length, bS c3_Closed14, .own 9 0 c10q10.length, .own 10 0 c11q10.length]), (4, .row 34 [bS c4_Done14, bS c4_Panic14, bS c4_Ok14, iS c4_Value14, iS c4_Case14, .own 11 0 c12q10.length]), (5, .row 3 (fl c3q19)), (6, .row 39 (fl c4q19)), (7, .row 39 (fl c5q29)), (8, .row 3 (fl c9q14)), (9, .row 39 (fl c10q10)), (10, .row 39 (fl c11q10)), (11, .row 64 (fl c12q10))], 12)) (fun a => (taskmilllaw_played_j3 moves i7 c2_Cap18 c2_Closed18 c3q19 c4q19 c5q29 c0q101 c1q101 c3_Cap14 c3_Closed14 c4_Done14 c4_Panic14 c4_Ok14 c4_Value14 c4_Case14 c9q14 c10q10 c11q10 c12q10 a) = some o3) (fun K3386 hK3386 => ?_) ?_
        · refine reg_f ?_
          refine rs 4 [] [] (by kernel_rfl) allP_nil ?_
          refine run_br h 96 (.inl (by kernel_rfl)) (fun g3387 h => ?_) (fun g3387 h => ?_)
          · refine rs 5 [] [] (by kernel_rfl) allP_nil ?_
            refine rf [(1, .sl moves.length (fl moves)), (4, .own 0 0 c0q101.length), (5, .own 1 0 c1q101.length), (6, .ptr 2 0), (8, iS i7), (10, .ptr 3 0), (11, .ptr 4 0), (101, bS true)] [(0, .row 3 (fl c0q101)), (1, .row 3 (fl c1q101)), (2, .row 25 [iS c2_Cap18, .own 6 0 c3q19.length, bS c2_Closed18, .own 7 0 c4q19.length, .own 8 0 c5q29.length]), (3, .row 25 [iS c3_Cap14, .own 9 0 c9q14.length, bS c3_Closed14, .own 10 0 c10q10.length, .own 11 0 c11q10.length]), (4, .row 34 [bS c4_Done14, bS c4_Panic14, bS c4_Ok14, iS c4_Value14, iS c4_Case14, .own 12 0 c12q10.length]), (5, .row 30 (Enc.cells c5q35)), (6, .row 3 (fl c3q19)), (7, .row 39 (fl c4q19)), (8, .row 39 (fl c5q29)), (9, .row 3 (fl c9q14)), (10, .row 39 (fl c10q10)), (11, .row 39 (fl c11q10)), (12, .row 64 (fl c12q10))] 13 (by kernel_rfl) ?_
            exact hK3386 (true) _ _ _ h (leSt_m [(0, 0), (1, 1), (2, 2), (3, 3), (4, 4), (5, 6), (6, 7), (7, 8), (8, 9), (9, 10), (10, 11), (11, 12)] [] (by (try simp only [g3387]) <;> simp only [push_cast, seval]) (by (try simp only [g3387]) <;> simp only [push_cast, seval]) rfl rfl rfl)
          · refine rs 1 [] [] (by kernel_rfl) allP_nil ?_
            obtain ⟨r3388, hr3388, h⟩ := bind_sx h
            refine call_x (pipe_Check_spec (Pipe.mk c3_Cap14 c9q14 c3_Closed14 c10q10 c11q10) r3388 hr3388) (args := [.agg [iS c3_Cap14, .own 9 0 c9q14.length, bS c3_Closed14, .own 10 0 c10q10.length, .own 11 0 c11q10.length]]) (dst := (some 98)) (by kernel_rfl) [(0, .row 3 (fl c0q101)), (1, .row 3 (fl c1q101)), (2, .row 25 [iS c2_Cap18, .own 6 0 c3q19.length, bS c2_Closed18, .own 7 0 c4q19.length, .own 8 0 c5q29.length]), (3, .row 25 [iS c3_Cap14, .own 9 0 c9q14.length, bS c3_Closed14, .own 10 0 c10q10.length, .own 11 0 c11q10.length]), (4, .row 34 [bS c4_Done14, bS c4_Panic14, bS c4_Ok14, iS c4_Value14, iS c4_Case14, .own 12 0 c12q10.length]), (5, .row 30 (Enc.cells c5q35)), (6, .row 3 (fl c3q19)), (7, .row 39 (fl c4q19)), (8, .row 39 (fl c5q29)), (9, .row 3 (fl c9q14)), (10, .row 39 (fl c10q10)), (11, .row 39 (fl c11q10)), (12, .row 64 (fl c12q10))] 13 (by kernel_rfl) [] [9, 10, 11] (.agg (Enc.cells r3388)) [] (by simp only [push_cast, seval]) (by simp only [push_cast, seval]) (by kernel_rfl) (.inr ⟨by simp only [push_cast, seval], by simp only [push_cast, seval]⟩) (by simp only [push_cast, seval]) (by simp only [push_cast, seval]) ?_
            refine rs 3 [] [] (by kernel_rfl) allP_nil ?_
            refine rf [(1, .sl moves.length (fl moves)), (4, .own 0 0 c0q101.length), (5, .own 1 0 c1q101.length), (6, .ptr 2 0), (8, iS i7), (10, .ptr 3 0), (11, .ptr 4 0), (101, bS (r3388.Code != 0))] [(0, .row 3 (fl c0q101)), (1, .row 3 (fl c1q101)), (2, .row 25 [iS c2_Cap18, .own 6 0 c3q19.length, bS c2_Closed18, .own 7 0 c4q19.length, .own 8 0 c5q29.length]), (3, .row 25 [iS c3_Cap14, .own 9 0 c9q14.length, bS c3_Closed14, .own 10 0 c10q10.length, .own 11 0 c11q10.length]), (4, .row 34 [bS c4_Done14, bS c4_Panic14, bS c4_Ok14, iS c4_Value14, iS c4_Case14, .own 12 0 c12q10.length]), (5, .row 30 (Enc.cells c5q35)), (6, .row 3 (fl c3q19)), (7, .row 39 (fl c4q19)), (8, .row 39 (fl c5q29)), (9, .row 3 (fl c9q14)), (10, .row 39 (fl c10q10)), (11, .row 39 (fl c11q10)), (12, .row 64 (fl c12q10))] 13 (by kernel_rfl) ?_
            exact hK3386 ((r3388.Code != 0)) _ _ _ h (leSt_m [(0, 0), (1, 1), (2, 2), (3, 3), (4, 4), (5, 6), (6, 7), (7, 8), (8, 9), (9, 10), (10, 11), (11, 12)] [] (by (try simp only [g3387]) <;> simp only [push_cast, seval]) (by (try simp only [g3387]) <;> simp only [push_cast, seval]) rfl rfl rfl)
        · rintro t101q14 h
          try dsimp only at h ⊢
          unfold taskmilllaw_played_j3 at h
          refine cond_sx h (by kernel_rfl) (fun g3577 h => ?_) (fun g3577 h => ?_)
          · refine seq_np ?_
            refine reg_t ?_
            refine rs 5 [] [] (by kernel_rfl) allP_nil ?_
            refine rt [(4, .v (.slice none 0 0)), (5, .v (.slice none 0 0)), (6, .ptr 2 0), (7, bS false)] [(0, .row 3 (fl c0q101)), (1, .row 3 (fl c1q101)), (2, .row 25 [iS c2_Cap18, .own 5 0 c3q19.length, bS c2_Closed18, .own 6 0 c4q19.length, .own 7 0 c5q29.length]), (3, .row 25 [iS c3_Cap14, .own 8 0 c9q14.length, bS c3_Closed14, .own 9 0 c10q10.length, .own 10 0 c11q10.length]), (4, .row 34 [bS c4_Done14, bS c4_Panic14, bS c4_Ok14, iS c4_Value14, iS c4_Case14, .own 11 0 c12q10.length]), (5, .row 3 (fl c3q19)), (6, .row 39 (fl c4q19)), (7, .row 39 (fl c5q29)), (8, .row 3 (fl c9q14)), (9, .row 39 (fl c10q10)), (10, .row 39 (fl c11q10)), (11, .row 64 (fl c12q10))] 17 follows (by kernel_rfl) ?_
            refine wk_id ?_
            refine rt_cast ht3 ?_
            obtain ⟨r0, h, e0⟩ := map_sx h
            have e1 := hr3 r0 e0.symm
            subst r0
            obtain rfl := Option.some.inj h
            refine ret_at (.tup [.v (.slice none 0 0), .v (.slice none 0 0), .agg [iS c2_Cap18, .own 5 0 c3q19.length, bS c2_Closed18, .own 6 0 c4q19.length, .own 7 0 c5q29.length], bS false]) (by kernel_rfl) ?_
            exact ret_e [(2, 5), (3, 6), (4, 7)] [] (by simp only [push_cast, seval]) (by simp only [push_cast, seval]) rfl rfl rfl
          · refine wk_id ?_
            refine seq_np ?_
            refine seq_np ?_
            refine reg_f ?_
            refine rs 1 [] [] (by kernel_rfl) allP_nil ?_
            refine rf [(1, .sl moves.length (fl moves)), (4, .own 0 0 c0q101.length), (5, .own 1 0 c1q101.length), (6, .ptr 2 0), (8, iS i7), (10, .ptr 3 0), (11, .ptr 4 0), (13, iS 0)] [(0, .row 3 (fl c0q101)), (1, .row 3 (fl c1q101)), (2, .row 25 [iS c2_Cap18, .own 5 0 c3q19.length, bS c2_Closed18, .own 6 0 c4q19.length, .own 7 0 c5q29.length]), (3, .row 25 [iS c3_Cap14, .own 8 0 c9q14.length, bS c3_Closed14, .own 9 0 c10q10.length, .own 10 0 c11q10.length]), (4, .row 34 [bS c4_Done14, bS c4_Panic14, bS c4_Ok14, iS c4_Value14, iS c4_Case14, .own 11 0 c12q10.length]), (5, .row 3 (fl c3q19)), (6, .row 39 (fl c4q19)), (7, .row 39 (fl c5q29)), (8, .row 3 (fl c9q14)), (9, .row 39 (fl c10q10)), (10, .row 39 (fl c11q10)), (11, .row 64 (fl c12q10))] 12 (by kernel_rfl) ?_
            refine wk_id ?_
            refine block_np ?_
            refine loop_sx (S := Int × (List Int) × (List Int)) (fun a => ([(1, .sl moves.length (fl moves)), (4, .own 0 0 a.2.1.length), (5, .own 1 0 a.2.2.length), (6, .ptr 2 0), (8, iS i7), (10, .ptr 3 0), (11, .ptr 4 0), (13, iS a.1)], [(0, .row 3 (fl a.2.1)), (1, .row 3 (fl a.2.2)), (2, .row 25 [iS c2_Cap18, .own 5 0 c3q19.length, bS c2_Closed18, .own 6 0 c4q19.length, .own 7 0 c5q29.length]), (3, .row 25 [iS c3_Cap14, .own 8 0 c9q14.length, bS c3_Closed14, .own 9 0 c10q10.length, .own 10 0 c11q10.length]), (4, .row 34 [bS c4_Done14, bS c4_Panic14, bS c4_Ok14, iS c4_Value14, iS c4_Case14, .own 11 0 c12q10.length]), (5, .row 3 (fl c3q19)), (6, .row 39 (fl c4q19)), (7, .row 39 (fl c5q29)), (8, .row 3 (fl c9q14)), (9, .row 39 (fl c10q10)), (10, .row 39 (fl c11q10)), (11, .row 64 (fl c12q10))], 12)) h (leSt_m [(0, 0), (1, 1), (2, 2), (3, 3), (4, 4), (5, 5), (6, 6), (7, 7), (8, 8), (9, 9), (10, 10), (11, 11)] [] (by simp only [push_cast, seval]) (by simp only [push_cast, seval]) rfl rfl rfl) ?_
            rintro ⟨k31, c0q115, c1q115⟩ o4 R4 h hr4 hn4 hx4 ht4
            try dsimp only at h hn4 ⊢
            unfold taskmilllaw_played_l1 at h
            try dsimp only at h
            refine seq_np ?_
            refine seq_np ?_
            refine reg_f ?_
            refine rs 5 [] [] (by kernel_rfl) allP_nil ?_
            refine rf [(1, .sl moves.length (fl moves)), (4, .own 0 0 c0q115.length), (5, .own 1 0 c1q115.length), (6, .ptr 2 0), (8, iS i7), (10, .ptr 3 0), (11, .ptr 4 0), (13, iS k31), (107, bS (decide (k31 < ((c12q10.length : Nat) : Int))))] [(0, .row 3 (fl c0q115)), (1, .row 3 (fl c1q115)), (2, .row 25 [iS c2_Cap18, .own 5 0 c3q19.length, bS c2_Closed18, .own 6 0 c4q19.length, .own 7 0 c5q29.length]), (3, .row 25 [iS c3_Cap14, .own 8 0 c9q14.length, bS c3_Closed14, .own 9 0 c10q10.length, .own 10 0 c11q10.length]), (4, .row 34 [bS c4_Done14, bS c4_Panic14, bS c4_Ok14, iS c4_Value14, iS c4_Case14, .own 11 0 c12q10.length]), (5, .row 3 (fl c3q19)), (6, .row 39 (fl c4q19)), (7, .row 39 (fl c5q29)), (8, .row 3 (fl c9q14)), (9, .row 39 (fl c10q10)), (10, .row 39 (fl c11q10)), (11, .row 64 (fl c12q10))] 12 (by kernel_rfl) ?_
            refine wk_id ?_
            refine cond_sx h (by kernel_rfl) (fun g3576 h => ?_) (fun g3576 h => ?_)
            · refine wk_id ?_
              refine seq_np ?_
              refine block_cut (A := (List Int) × (List Int)) (fun a => ([(1, .sl moves.length (fl moves)), (4, .own 0 0 a.1.length), (5, .own 1 0 a.2.length), (6, .ptr 2 0), (8, iS i7), (10, .ptr 3 0), (11, .ptr 4 0), (13, iS k31)], [(0, .row 3 (fl a.1)), (1, .row 3 (fl a.2)), (2, .row 25 [iS c2_Cap18, .own 5 0 c3q19.length, bS c2_Closed18, .own 6 0 c4q19.length, .own 7 0 c5q29.length]), (3, .row 25 [iS c3_Cap14, .own 8 0 c9q14.length, bS c3_Closed14, .own 9 0 c10q10.length, .own 10 0 c11q10.length]), (4, .row 34 [bS c4_Done14, bS c4_Panic14, bS c4_Ok14, iS c4_Value14, iS c4_Case14, .own 11 0 c12q10.length]), (5, .row 3 (fl c3q19)), (6, .row 39 (fl c4q19)), (7, .row 39 (fl c5q29)), (8, .row 3 (fl c9q14)), (9, .row 39 (fl c10q10)), (10, .row 39 (fl c11q10)), (11, .row 64 (fl c12q10))], 12)) (fun a => (taskmilllaw_played_j2 moves i7 c2_Cap18 c2_Closed18 c3q19 c4q19 c5q29 c3_Cap14 c3_Closed14 c4_Done14 c4_Panic14 c4_Ok14 c4_Value14 c4_Case14 c9q14 c10q10 c11q10 c12q10 k31 a.1 a.2) = some o4) (fun K3550 hK3550 => ?_) ?_
              · refine chk_sx h (fun g3554 h => ?_)
                refine seq_np ?_
                refine reg_f ?_
                have k3553 : 0 ≤ k31 ∧ k31 < ((c12q10.length : Nat) : Int) := by first | simpa only [Bool.and_eq_true, decide_eq_true_eq, bne_iff_ne, ne_eq] using g3554 | (simp at g3554 ⊢; omega)
                refine rs 7 [none, none, none, some ⟨.ptr 11 (0 + (k31).toNat * 5), [], 12, [11]⟩, some ⟨.agg (Enc.cells (ix c12q10 k31)), [], 12, [11]⟩] _ (by kernel_rfl) (allP_cons (ob_ldw c12q10 k31 5 (0 + (k31).toNat * 5) k3553 rfl (by first | rfl | omega) [iS (ix c12q10 k31).Task, iS (ix c12q10 k31).Case, iS (ix c12q10 k31).Value, bS (ix c12q10 k31).Ok, bS (ix c12q10 k31).Panic] rfl 12 [11]) (allP_cons (ob_ix_o 11 c12q10.length 0 5 12 k31 k3553) allP_nil)) ?_
                refine rf [(1, .sl moves.length (fl moves)), (4, .own 0 0 c0q115.length), (5, .own 1 0 c1q115.length), (6, .ptr 2 0), (8, iS i7), (10, .ptr 3 0), (11, .ptr 4 0), (13, iS k31), (14, .ptr 12 0)] [(0, .row 3 (fl c0q115)), (1, .row 3 (fl c1q115)), (2, .row 25 [iS c2_Cap18, .own 5 0 c3q19.length, bS c2_Closed18, .own 6 0 c4q19.length, .own 7 0 c5q29.length]), (3, .row 25 [iS c3_Cap14, .own 8 0 c9q14.length, bS c3_Closed14, .own 9 0 c10q10.length, .own 10 0 c11q10.length]), (4, .row 34 [bS c4_Done14, bS c4_Panic14, bS c4_Ok14, iS c4_Value14, iS c4_Case14, .own 11 0 c12q10.length]), (5, .row 3 (fl c3q19)), (6, .row 39 (fl c4q19)), (7, .row 39 (fl c5q29)), (8, .row 3 (fl c9q14)), (9, .row 39 (fl c10q10)), (10, .row 39 (fl c11q10)), (11, .row 64 (fl c12q10)), (12, .row 64 (Enc.cells (ix c12q10 k31)))] 13 (by kernel_rfl) ?_
                refine wk_id ?_
                refine seq_np ?_
                refine reg_f ?_
                refine rs 2 [] [] (by kernel_rfl) allP_nil ?_
                refine rf [(1, .sl moves.length (fl moves)), (4, .own 0 0 c0q115.length), (5, .own 1 0 c1q115.length), (6, .ptr 2 0), (8, iS i7), (10, .ptr 3 0), (11, .ptr 4 0), (13, iS k31), (14, .ptr 12 0), (116, bS (ix c12q10 k31).Ok)] [(0, .row 3 (fl c0q115)), (1, .row 3 (fl c1q115)), (2, .row 25 [iS c2_Cap18, .own 5 0 c3q19.length, bS c2_Closed18, .own 6 0 c4q19.length, .own 7 0 c5q29.length]), (3, .row 25 [iS c3_Cap14, .own 8 0 c9q14.length, bS c3_Closed14, .own 9 0 c10q10.length, .own 10 0 c11q10.length]), (4, .row 34 [bS c4_Done14, bS c4_Panic14, bS c4_Ok14, iS c4_Value14, iS c4_Case14, .own 11 0 c12q10.length]), (5, .row 3 (fl c3q19)), (6, .row 39 (fl c4q19)), (7, .row 39 (fl c5q29)), (8, .row 3 (fl c9q14)), (9, .row 39 (fl c10q10)), (10, .row 39 (fl c11q10)), (11, .row 64 (fl c12q10)), (12, .row 64 (Enc.cells (ix c12q10 k31)))] 13 (by kernel_rfl) ?_
                refine wk_id ?_
                refine cond_sx h (by kernel_rfl) (fun g3575 h => ?_) (fun g3575 h => ?_)
                · refine chk_sx h (fun g3558 h => ?_)
                  refine reg_f ?_
                  have k3557 : (c1q115 ++ ([(ix c12q10 k31).Value] : List Int)).length * 8 ≤ 140737488355328 := by first | simpa only [Bool.and_eq_true, decide_eq_true_eq, bne_iff_ne, ne_eq] using g3558 | (simp at g3558 ⊢; omega)
                  refine rs 6 [none, none, none, none, some ⟨.own 14 0 (c1q115 ++ ([(ix c12q10 k31).Value] : List Int)).length, [(14, .row 3 (fl (c1q115 ++ ([(ix c12q10 k31).Value] : List Int)))), (1, .dead)], 15, [1, 13]⟩] _ (by kernel_rfl) (allP_cons (ob_app (P := Try.prog) c1q115 ([(ix c12q10 k31).Value] : List Int) 1 8 rfl (appCells (fl ([(ix c12q10 k31).Value] : List Int)) 0 (([(ix c12q10 k31).Value] : List Int).length * 1)) ([(ix c12q10 k31).Value] : List Int).length (app_own ([(ix c12q10 k31).Value] : List Int) 1 rfl) rfl (0 + ([(ix c12q10 k31).Value] : List Int).length * 1 ≤ (fl ([(ix c12q10 k31).Value] : List Int)).length) (app_own_le ([(ix c12q10 k31).Value] : List Int) 1 rfl) 3 (by kernel_rfl) (by decide) k3557 1 14 [13]) allP_nil) ?_
                  refine rf [(1, .sl moves.length (fl moves)), (4, .own 0 0 c0q115.length), (5, .own 14 0 (c1q115 ++ ([(ix c12q10 k31).Value] : List Int)).length), (6, .ptr 2 0), (8, iS i7), (10, .ptr 3 0), (11, .ptr 4 0), (13, iS k31)] [(0, .row 3 (fl c0q115)), (1, .dead), (2, .row 25 [iS c2_Cap18, .own 5 0 c3q19.length, bS c2_Closed18, .own 6 0 c4q19.length, .own 7 0 c5q29.length]), (3, .row 25 [iS c3_Cap14, .own 8 0 c9q14.length, bS c3_Closed14, .own 9 0 c10q10.length, .own 10 0 c11q10.length]), (4, .row 34 [bS c4_Done14, bS c4_Panic14, bS c4_Ok14, iS c4_Value14, iS c4_Case14, .own 11 0 c12q10.length]), (5, .row 3 (fl c3q19)), (6, .row 39 (fl c4q19)), (7, .row 39 (fl c5q29)), (8, .row 3 (fl c9q14)), (9, .row 39 (fl c10q10)), (10, .row 39 (fl c11q10)), (11, .row 64 (fl c12q10)), (12, .row 64 (Enc.cells (ix c12q10 k31))), (13, .row 3 (fl ([(ix c12q10 k31).Value] : List Int))), (14, .row 3 (fl (c1q115 ++ ([(ix c12q10 k31).Value] : List Int))))] 15 (by kernel_rfl) ?_
                  exact hK3550 (c0q115, (c1q115 ++ ([(ix c12q10 k31).Value] : List Int))) _ _ _ h (leSt_m [(0, 0), (1, 14), (2, 2), (3, 3), (4, 4), (5, 5), (6, 6), (7, 7), (8, 8), (9, 9), (10, 10), (11, 11)] [] (by simp only [push_cast, seval]) (by simp only [push_cast, seval]) rfl rfl rfl)
                · refine chk_sx h (fun g3566 h => ?_)
                  refine chk_sx h (fun g3569 h => ?_)
                  refine seq_cut (A := Unit) (fun _ => ([(1, .sl moves.length (fl moves)), (4, .own 0 0 c0q115.length), (5, .own 1 0 c1q115.length), (6, .ptr 2 0), (8, iS i7), (10, .ptr 3 0), (11, .ptr 4 0), (13, iS k31), (14, .ptr 12 0), (133, bS (((ix moves i7) == 2) || ((ix moves i7) == 3)))], [(0, .row 3 (fl c0q115)), (1, .row 3 (fl c1q115)), (2, .row 25 [iS c2_Cap18, .own 5 0 c3q19.length, bS c2_Closed18, .own 6 0 c4q19.length, .own 7 0 c5q29.length]), (3, .row 25 [iS c3_Cap14, .own 8 0 c9q14.length, bS c3_Closed14, .own 9 0 c10q10.length, .own 10 0 c11q10.length]), (4, .row 34 [bS c4_Done14, bS c4_Panic14, bS c4_Ok14, iS c4_Value14, iS c4_Case14, .own 11 0 c12q10.length]), (5, .row 3 (fl c3q19)), (6, .row 39 (fl c4q19)), (7, .row 39 (fl c5q29)), (8, .row 3 (fl c9q14)), (9, .row 39 (fl c10q10)), (10, .row 39 (fl c11q10)), (11, .row 64 (fl c12q10)), (12, .row 64 (Enc.cells (ix c12q10 k31)))], 13)) (fun _ => True) (fun K3564 hK3564 => ?_) (fun _ _ => ?_)
                  · refine reg_f ?_
                    have k3565 : 0 ≤ i7 ∧ i7 < ((moves.length : Nat) : Int) := by first | simpa only [Bool.and_eq_true, decide_eq_true_eq, bne_iff_ne, ne_eq] using g3566 | (simp at g3566 ⊢; omega)
                    refine rs 6 [none, none, some ⟨.iptr (fl moves) ((i7).toNat * 1), [], 13, []⟩, some ⟨iS (ix moves i7), [], 13, []⟩] _ (by kernel_rfl) (allP_cons (ob_ld moves i7 1 0 ((i7).toNat * 1) k3565 rfl (by decide) (by first | rfl | omega) (dflS Try.prog 3) (iS (ix moves i7)) rfl 13 []) (allP_cons (ob_ix_l moves 1 13 i7 k3565) allP_nil)) ?_
                    refine run_split 127 ((ix moves i7) == 2) (.inl (by kernel_rfl)) (fun g3567 => ?_) (fun g3567 => ?_)
                    · refine rs 6 [] [] (by kernel_rfl) allP_nil ?_
                      refine rf [(1, .sl moves.length (fl moves)), (4, .own 0 0 c0q115.length), (5, .own 1 0 c1q115.length), (6, .ptr 2 0), (8, iS i7), (10, .ptr 3 0), (11, .ptr 4 0), (13, iS k31), (14, .ptr 12 0), (133, bS true)] [(0, .row 3 (fl c0q115)), (1, .row 3 (fl c1q115)), (2, .row 25 [iS c2_Cap18, .own 5 0 c3q19.length, bS c2_Closed18, .own 6 0 c4q19.length, .own 7 0 c5q29.length]), (3, .row 25 [iS c3_Cap14, .own 8 0 c9q14.length, bS c3_Closed14, .own 9 0 c10q10.length, .own 10 0 c11q10.length]), (4, .row 34 [bS c4_Done14, bS c4_Panic14, bS c4_Ok14, iS c4_Value14, iS c4_Case14, .own 11 0 c12q10.length]), (5, .row 3 (fl c3q19)), (6, .row 39 (fl c4q19)), (7, .row 39 (fl c5q29)), (8, .row 3 (fl c9q14)), (9, .row 39 (fl c10q10)), (10, .row 39 (fl c11q10)), (11, .row 64 (fl c12q10)), (12, .row 64 (Enc.cells (ix c12q10 k31)))] 13 (by kernel_rfl) ?_
                      exact hK3564 () _ _ _ trivial (leSt_m [(0, 0), (1, 1), (2, 2), (3, 3), (4, 4), (5, 5), (6, 6), (7, 7), (8, 8), (9, 9), (10, 10), (11, 11), (12, 12)] [] (by (try simp only [g3567]) <;> simp only [push_cast, seval]) (by (try simp only [g3567]) <;> simp only [push_cast, seval]) rfl rfl rfl)
                    · have k3568 : 0 ≤ i7 ∧ i7 < ((moves.length : Nat) : Int) := by have e := or_use g3569 (by first | ((try simp only [g3567]) <;> rfl) | ((try simp only [g3567]); rfl) | (exfalso; clear h; simp_all; done)); first | simpa only [Bool.and_eq_true, decide_eq_true_eq, bne_iff_ne, ne_eq] using e | (simp at e ⊢; omega)
                      refine rs 6 [none, none, some ⟨.iptr (fl moves) ((i7).toNat * 1), [], 13, []⟩, some ⟨iS (ix moves i7), [], 13, []⟩] _ (by kernel_rfl) (allP_cons (ob_ld moves i7 1 0 ((i7).toNat * 1) k3568 rfl (by decide) (by first | rfl | omega) (dflS Try.prog 3) (iS (ix moves i7)) rfl 13 []) (allP_cons (ob_ix_l moves 1 13 i7 k3568) allP_nil)) ?_
                      refine rf [(1, .sl moves.length (fl moves)), (4, .own 0 0 c0q115.length), (5, .own 1 0 c1q115.length), (6, .ptr 2 0), (8, iS i7), (10, .ptr 3 0), (11, .ptr 4 0), (13, iS k31), (14, .ptr 12 0), (133, bS ((ix moves i7) == 3))] [(0, .row 3 (fl c0q115)), (1, .row 3 (fl c1q115)), (2, .row 25 [iS c2_Cap18, .own 5 0 c3q19.length, bS c2_Closed18, .own 6 0 c4q19.length, .own 7 0 c5q29.length]), (3, .row 25 [iS c3_Cap14, .own 8 0 c9q14.length, bS c3_Closed14, .own 9 0 c10q10.length, .own 10 0 c11q10.length]), (4, .row 34 [bS c4_Done14, bS c4_Panic14, bS c4_Ok14, iS c4_Value14, iS c4_Case14, .own 11 0 c12q10.length]), (5, .row 3 (fl c3q19)), (6, .row 39 (fl c4q19)), (7, .row 39 (fl c5q29)), (8, .row 3 (fl c9q14)), (9, .row 39 (fl c10q10)), (10, .row 39 (fl c11q10)), (11, .row 64 (fl c12q10)), (12, .row 64 (Enc.cells (ix c12q10 k31)))] 13 (by kernel_rfl) ?_
                      exact hK3564 () _ _ _ trivial (leSt_m [(0, 0), (1, 1), (2, 2), (3, 3), (4, 4), (5, 5), (6, 6), (7, 7), (8, 8), (9, 9), (10, 10), (11, 11), (12, 12)] [] (by (try simp only [g3567]) <;> simp only [push_cast, seval]) (by (try simp only [g3567]) <;> simp only [push_cast, seval]) rfl rfl rfl)
                  · dsimp only
                    refine cond_sx h (by kernel_rfl) (fun g3574 h => ?_) (fun g3574 h => ?_)
                    · refine chk_sx h (fun g3573 h => ?_)
                      refine reg_f ?_
                      have k3572 : (c0q115 ++ ([(IntKind.i64.wrap ((ix c12q10 k31).Task - 1))] : List Int)).length * 8 ≤ 140737488355328 := by first | simpa only [Bool.and_eq_true, decide_eq_true_eq, bne_iff_ne, ne_eq] using g3573 | (simp at g3573 ⊢; omega)
                      refine rs 7 [none, none, none, none, none, some ⟨.own 14 0 (c0q115 ++ ([(IntKind.i64.wrap ((ix c12q10 k31).Task - 1))] : List Int)).length, [(14, .row 3 (fl (c0q115 ++ ([(IntKind.i64.wrap ((ix c12q10 k31).Task - 1))] : List Int)))), (0, .dead)], 15, [0, 13]⟩] _ (by kernel_rfl) (allP_cons (ob_app (P := Try.prog) c0q115 ([(IntKind.i64.wrap ((ix c12q10 k31).Task - 1))] : List Int) 1 8 rfl (appCells (fl ([(IntKind.i64.wrap ((ix c12q10 k31).Task - 1))] : List Int)) 0 (([(IntKind.i64.wrap ((ix c12q10 k31).Task - 1))] : List Int).length * 1)) ([(IntKind.i64.wrap ((ix c12q10 k31).Task - 1))] : List Int).length (app_own ([(IntKind.i64.wrap ((ix c12q10 k31).Task - 1))] : List Int) 1 rfl) rfl (0 + ([(IntKind.i64.wrap ((ix c12q10 k31).Task - 1))] : List Int).length * 1 ≤ (fl ([(IntKind.i64.wrap ((ix c12q10 k31).Task - 1))] : List Int)).length) (app_own_le ([(IntKind.i64.wrap ((ix c12q10 k31).Task - 1))] : List Int) 1 rfl) 3 (by kernel_rfl) (by decide) k3572 0 14 [13]) allP_nil) ?_
                      refine rf [(1, .sl moves.length (fl moves)), (4, .own 14 0 (c0q115 ++ ([(IntKind.i64.wrap ((ix c12q10 k31).Task - 1))] : List Int)).length), (5, .own 1 0 c1q115.length), (6, .ptr 2 0), (8, iS i7), (10, .ptr 3 0), (11, .ptr 4 0), (13, iS k31)] [(0, .dead), (1, .row 3 (fl c1q115)), (2, .row 25 [iS c2_Cap18, .own 5 0 c3q19.length, bS c2_Closed18, .own 6 0 c4q19.length, .own 7 0 c5q29.length]), (3, .row 25 [iS c3_Cap14, .own 8 0 c9q14.length, bS c3_Closed14, .own 9 0 c10q10.length, .own 10 0 c11q10.length]), (4, .row 34 [bS c4_Done14, bS c4_Panic14, bS c4_Ok14, iS c4_Value14, iS c4_Case14, .own 11 0 c12q10.length]), (5, .row 3 (fl c3q19)), (6, .row 39 (fl c4q19)), (7, .row 39 (fl c5q29)), (8, .row 3 (fl c9q14)), (9, .row 39 (fl c10q10)), (10, .row 39 (fl c11q10)), (11, .row 64 (fl c12q10)), (12, .row 64 (Enc.cells (ix c12q10 k31))), (13, .row 3 (fl ([(IntKind.i64.wrap ((ix c12q10 k31).Task - 1))] : List Int))), (14, .row 3 (fl (c0q115 ++ ([(IntKind.i64.wrap ((ix c12q10 k31).Task - 1))] : List Int))))] 15 (by kernel_rfl) ?_
                      exact hK3550 ((c0q115 ++ ([(IntKind.i64.wrap ((ix c12q10 k31).Task - 1))] : List Int)), c1q115) _ _ _ h (leSt_m [(0, 14), (1, 1), (2, 2), (3, 3), (4, 4), (5, 5), (6, 6), (7, 7), (8, 8), (9, 9), (10, 10), (11, 11)] [] (by simp only [push_cast, seval]) (by simp only [push_cast, seval]) rfl rfl rfl)
                    · exact hK3550 (c0q115, c1q115) _ _ _ h (leSt_m [(0, 0), (1, 1), (2, 2), (3, 3), (4, 4), (5, 5), (6, 6), (7, 7), (8, 8), (9, 9), (10, 10), (11, 11)] [] (by simp only [push_cast, seval]) (by simp only [push_cast, seval]) rfl rfl rfl)
              · rintro ⟨c0q117, c1q117⟩ h
                try dsimp only at h ⊢
                unfold taskmilllaw_played_j2 at h
                refine wk_id ?_
                refine reg_f ?_
                refine rs 3 [] [] (by kernel_rfl) allP_nil ?_
                refine rf [(1, .sl moves.length (fl moves)), (4, .own 0 0 c0q117.length), (5, .own 1 0 c1q117.length), (6, .ptr 2 0), (8, iS i7), (10, .ptr 3 0), (11, .ptr 4 0), (13, iS (IntKind.i64.wrap (k31 + 1)))] [(0, .row 3 (fl c0q117)), (1, .row 3 (fl c1q117)), (2, .row 25 [iS c2_Cap18, .own 5 0 c3q19.length, bS c2_Closed18, .own 6 0 c4q19.length, .own 7 0 c5q29.length]), (3, .row 25 [iS c3_Cap14, .own 8 0 c9q14.length, bS c3_Closed14, .own 9 0 c10q10.length, .own 10 0 c11q10.length]), (4, .row 34 [bS c4_Done14, bS c4_Panic14, bS c4_Ok14, iS c4_Value14, iS c4_Case14, .own 11 0 c12q10.length]), (5, .row 3 (fl c3q19)), (6, .row 39 (fl c4q19)), (7, .row 39 (fl c5q29)), (8, .row 3 (fl c9q14)), (9, .row 39 (fl c10q10)), (10, .row 39 (fl c11q10)), (11, .row 64 (fl c12q10))] 12 (by kernel_rfl) ?_
                exact hn4 ((IntKind.i64.wrap (k31 + 1)), c0q117, c1q117) _ _ _ (Option.some.inj h).symm (leSt_m [(0, 0), (1, 1), (2, 2), (3, 3), (4, 4), (5, 5), (6, 6), (7, 7), (8, 8), (9, 9), (10, 10), (11, 11)] [] (by simp only [push_cast, seval]) (by simp only [push_cast, seval]) rfl rfl rfl)
            · change R4 (.exit 3) _ _ _
              refine ex_cast hx4 (id := 3) ?_
              obtain ⟨r0, h, e0⟩ := map_sx h
              have e1 := hr4 r0 e0.symm
              subst r0
              refine wk_id ?_
              refine wk_id ?_
              refine reg_f ?_
              refine rs 2 [] [] (by kernel_rfl) allP_nil ?_
              refine rf [(1, .sl moves.length (fl moves)), (4, .own 0 0 c0q115.length), (5, .own 1 0 c1q115.length), (6, .ptr 2 0), (8, iS i7)] [(0, .row 3 (fl c0q115)), (1, .row 3 (fl c1q115)), (2, .row 25 [iS c3_Cap14, .own 8 0 c9q14.length, bS c3_Closed14, .own 9 0 c10q10.length, .own 10 0 c11q10.length]), (3, .row 25 [iS c3_Cap14, .own 8 0 c9q14.length, bS c3_Closed14, .own 9 0 c10q10.length, .own 10 0 c11q10.length]), (4, .row 34 [bS c4_Done14, bS c4_Panic14, bS c4_Ok14, iS c4_Value14, iS c4_Case14, .own 11 0 c12q10.length]), (5, .row 3 (fl c3q19)), (6, .row 39 (fl c4q19)), (7, .row 39 (fl c5q29)), (8, .row 3 (fl c9q14)), (9, .row 39 (fl c10q10)), (10, .row 39 (fl c11q10)), (11, .row 64 (fl c12q10))] 12 (by kernel_rfl) ?_
              exact hK3278 (c0q115, c1q115, c3_Cap14, c3_Closed14, c9q14, c10q10, c11q10) _ _ _ h (leSt_m [(0, 0), (1, 1), (2, 2), (3, 8), (4, 9), (5, 10)] [] (by simp only [push_cast, seval]) (by simp only [push_cast, seval]) rfl rfl rfl)
    · rintro ⟨c0q99, c1q99, c2_Cap20, c2_Closed20, c3q21, c4q21, c5q33⟩ h
      try dsimp only at h ⊢
      unfold taskmilllaw_played_j1 at h
      refine wk_id ?_
      refine reg_f ?_
      refine rs 3 [] [] (by kernel_rfl) allP_nil ?_
      refine rf [(1, .sl moves.length (fl moves)), (4, .own 0 0 c0q99.length), (5, .own 1 0 c1q99.length), (6, .ptr 2 0), (8, iS (IntKind.i64.wrap (i7 + 1)))] [(0, .row 3 (fl c0q99)), (1, .row 3 (fl c1q99)), (2, .row 25 [iS c2_Cap20, .own 3 0 c3q21.length, bS c2_Closed20, .own 4 0 c4q21.length, .own 5 0 c5q33.length]), (3, .row 3 (fl c3q21)), (4, .row 39 (fl c4q21)), (5, .row 39 (fl c5q33))] 6 (by kernel_rfl) ?_
      exact hn3 ((IntKind.i64.wrap (i7 + 1)), c0q99, c1q99, c2_Cap20, c2_Closed20, c3q21, c4q21, c5q33) _ _ _ (Option.some.inj h).symm (leSt_m [(0, 0), (1, 1), (2, 2), (3, 3), (4, 4), (5, 5)] [] (by simp only [push_cast, seval]) (by simp only [push_cast, seval]) rfl rfl rfl)
  · change R3 (.exit 0) _ _ _
    refine ex_cast hx3 (id := 0) ?_
    obtain ⟨r0, h, e0⟩ := map_sx h
    have e1 := hr3 r0 e0.symm
    subst r0
    refine wk_id ?_
    refine wk_id ?_
    refine seq_np ?_
    refine reg_t ?_
    refine rs 7 [] [] (by kernel_rfl) allP_nil ?_
    refine rt [(4, .own 0 0 c0q85.length), (5, .own 1 0 c1q85.length), (6, .ptr 2 0), (7, bS true)] [(0, .row 3 (fl c0q85)), (1, .row 3 (fl c1q85)), (2, .row 25 [iS c2_Cap18, .own 3 0 c3q19.length, bS c2_Closed18, .own 4 0 c4q19.length, .own 5 0 c5q29.length]), (3, .row 3 (fl c3q19)), (4, .row 39 (fl c4q19)), (5, .row 39 (fl c5q29))] 13 follows (by kernel_rfl) ?_
    refine wk_id ?_
    obtain rfl := Option.some.inj h
    refine ret_at (.tup [.own 0 0 c0q85.length, .own 1 0 c1q85.length, .agg [iS c2_Cap18, .own 3 0 c3q19.length, bS c2_Closed18, .own 4 0 c4q19.length, .own 5 0 c5q29.length], bS true]) (by kernel_rfl) ?_
    exact ret_e [(0, 0), (1, 1), (2, 3), (3, 4), (4, 5)] [] (by simp only [push_cast, seval]) (by simp only [push_cast, seval]) rfl rfl rfl

set_option maxRecDepth 100000 in
set_option maxHeartbeats 200000000 in
theorem taskmillref_Has_spec (l : (List Int)) (n : Int) (r : Bool) (h : taskmillref_Has l n = some r) : SpecW Try.prog 25 [.sl l.length (fl l), iS n] [] 0 (fun x h n => x = bS r ∧ h = [] ∧ n = 0) := by
  unfold taskmillref_Has at h
  refine spec_of (draw_ok _) Try.func25 rfl (by decide) rfl (by kernel_rfl) ?_
  refine seq_np ?_
  refine reg_f ?_
  refine rs 1 [] [] (by kernel_rfl) allP_nil ?_
  refine rf [(0, .sl l.length (fl l)), (1, iS n)] [] 0 (by kernel_rfl) ?_
  refine wk_id ?_
  refine seq_np ?_
  refine seq_np ?_
  refine reg_f ?_
  refine rs 1 [] [] (by kernel_rfl) allP_nil ?_
  refine rf [(0, .sl l.length (fl l)), (1, iS n), (5, iS 0)] [] 0 (by kernel_rfl) ?_
  refine wk_id ?_
  refine block_np ?_
  refine loop_sx (S := Int) (fun a => ([(0, .sl l.length (fl l)), (1, iS n), (5, iS a)], [], 0)) h (leSt_m [] [] (by simp only [push_cast, seval]) (by simp only [push_cast, seval]) rfl rfl rfl) ?_
  rintro i7 o2 R2 h hr2 hn2 hx2 ht2
  try dsimp only at h hn2 ⊢
  unfold taskmillref_Has_l1 at h
  try dsimp only at h
  refine seq_np ?_
  refine seq_np ?_
  refine reg_f ?_
  refine rs 4 [] [] (by kernel_rfl) allP_nil ?_
  refine rf [(0, .sl l.length (fl l)), (1, iS n), (5, iS i7), (9, bS (decide (i7 < ((l.length : Nat) : Int))))] [] 0 (by kernel_rfl) ?_
  refine wk_id ?_
  refine cond_sx h (by kernel_rfl) (fun g3648 h => ?_) (fun g3648 h => ?_)
  · refine wk_id ?_
    refine seq_np ?_
    refine block_np ?_
    refine chk_sx h (fun g3646 h => ?_)
    refine seq_np ?_
    refine reg_f ?_
    have k3645 : 0 ≤ i7 ∧ i7 < ((l.length : Nat) : Int) := by first | simpa only [Bool.and_eq_true, decide_eq_true_eq, bne_iff_ne, ne_eq] using g3646 | (simp at g3646 ⊢; omega)
    refine rs 6 [none, none, some ⟨.iptr (fl l) ((i7).toNat * 1), [], 0, []⟩, some ⟨iS (ix l i7), [], 0, []⟩] _ (by kernel_rfl) (allP_cons (ob_ld l i7 1 0 ((i7).toNat * 1) k3645 rfl (by decide) (by first | rfl | omega) (dflS Try.prog 3) (iS (ix l i7)) rfl 0 []) (allP_cons (ob_ix_l l 1 0 i7 k3645) allP_nil)) ?_
    refine rf [(0, .sl l.length (fl l)), (1, iS n), (5, iS i7), (17, bS ((ix l i7) == n))] [] 0 (by kernel_rfl) ?_
    refine wk_id ?_
    refine cond_sx h (by kernel_rfl) (fun g3647 h => ?_) (fun g3647 h => ?_)
    · refine seq_np ?_
      refine reg_f ?_
      refine rs 1 [] [] (by kernel_rfl) allP_nil ?_
      refine rf [(4, bS true)] [] 0 (by kernel_rfl) ?_
      refine wk_id ?_
      refine rt_cast ht2 ?_
      obtain ⟨r0, h, e0⟩ := map_sx h
      have e1 := hr2 r0 e0.symm
      subst r0
      obtain rfl := Option.some.inj h
      refine ret_at (bS true) (by kernel_rfl) ?_
      exact ret_e [] [] (by simp only [push_cast, seval]) (by simp only [push_cast, seval]) rfl rfl rfl
    · refine wk_id ?_
      refine wk_id ?_
      refine reg_f ?_
      refine rs 3 [] [] (by kernel_rfl) allP_nil ?_
      refine rf [(0, .sl l.length (fl l)), (1, iS n), (5, iS (IntKind.i64.wrap (i7 + 1)))] [] 0 (by kernel_rfl) ?_
      exact hn2 ((IntKind.i64.wrap (i7 + 1))) _ _ _ (Option.some.inj h).symm (leSt_m [] [] (by simp only [push_cast, seval]) (by simp only [push_cast, seval]) rfl rfl rfl)
  · change R2 (.exit 0) _ _ _
    refine ex_cast hx2 (id := 0) ?_
    obtain ⟨r0, h, e0⟩ := map_sx h
    have e1 := hr2 r0 e0.symm
    subst r0
    refine wk_id ?_
    refine wk_id ?_
    refine seq_np ?_
    refine reg_f ?_
    refine rs 1 [] [] (by kernel_rfl) allP_nil ?_
    refine rf [(4, bS false)] [] 0 (by kernel_rfl) ?_
    refine wk_id ?_
    obtain rfl := Option.some.inj h
    refine ret_at (bS false) (by kernel_rfl) ?_
    exact ret_e [] [] (by simp only [push_cast, seval]) (by simp only [push_cast, seval]) rfl rfl rfl

set_option maxRecDepth 100000 in
set_option maxHeartbeats 200000000 in
theorem taskmilllaw_PipeOrder_spec (capacity : Int) (moves : (List Int)) (r : Bool) (h : taskmilllaw_PipeOrder capacity moves = some r) : SpecW Try.prog 5 [iS capacity, .sl moves.length (fl moves)] [] 0 (fun x h n => x = bS r ∧ h = [] ∧ n = 0) := by
  unfold taskmilllaw_PipeOrder at h
  refine spec_of (draw_ok _) Try.func5 rfl (by decide) rfl (by kernel_rfl) ?_
  refine seq_np ?_
  refine reg_f ?_
  refine rs 1 [] [] (by kernel_rfl) allP_nil ?_
  refine rf [(0, iS capacity), (1, .sl moves.length (fl moves))] [] 0 (by kernel_rfl) ?_
  refine wk_id ?_
  refine seq_np ?_
  refine seq_np ?_
  refine reg_f ?_
  obtain ⟨r3677, hr3677, h⟩ := bind_sx h
  refine run_call 10 [] (some 11) (by kernel_rfl) ?_
  refine call_0 (taskmilllaw_pipeBegun_spec r3677 hr3677) (by simp only [push_cast, seval]) (by simp only [push_cast, seval]) ?_
  refine back_f ?_
  refine rs 1 [] [] (by kernel_rfl) allP_nil ?_
  refine rf [(0, iS capacity), (1, .sl moves.length (fl moves)), (12, bS (!r3677))] [] 0 (by kernel_rfl) ?_
  refine wk_id ?_
  refine cond_sx h (by kernel_rfl) (fun g3819 h => ?_) (fun g3819 h => ?_)
  · refine seq_np ?_
    refine reg_f ?_
    refine rs 1 [] [] (by kernel_rfl) allP_nil ?_
    refine rf [(4, bS false)] [] 0 (by kernel_rfl) ?_
    refine wk_id ?_
    obtain rfl := Option.some.inj h
    refine ret_at (bS false) (by kernel_rfl) ?_
    exact ret_e [] [] (by simp only [push_cast, seval]) (by simp only [push_cast, seval]) rfl rfl rfl
  · refine wk_id ?_
    refine seq_np ?_
    refine seq_cut (A := Unit) (fun _ => ([(0, iS capacity), (1, .sl moves.length (fl moves)), (23, bS ((decide (capacity < 0)) || ((decide ((50 : Int) < capacity)) || (decide ((300 : Int) < ((moves.length : Nat) : Int))))))], [], 0)) (fun _ => True) (fun K3683 hK3683 => ?_) (fun _ _ => ?_)
    · refine reg_f ?_
      refine rs 3 [] [] (by kernel_rfl) allP_nil ?_
      refine run_split 15 (decide (capacity < 0)) (.inl (by kernel_rfl)) (fun g3684 => ?_) (fun g3684 => ?_)
      · refine rs 8 [] [] (by kernel_rfl) allP_nil ?_
        refine rf [(0, iS capacity), (1, .sl moves.length (fl moves)), (23, bS true)] [] 0 (by kernel_rfl) ?_
        exact hK3683 () _ _ _ trivial (leSt_m [] [] (by (try simp only [g3684]) <;> simp only [push_cast, seval]) (by (try simp only [g3684]) <;> simp only [push_cast, seval]) rfl rfl rfl)
      · refine rs 4 [] [] (by kernel_rfl) allP_nil ?_
        refine run_split 19 (decide ((50 : Int) < capacity)) (.inl (by kernel_rfl)) (fun g3685 => ?_) (fun g3685 => ?_)
        · refine rs 4 [] [] (by kernel_rfl) allP_nil ?_
          refine rf [(0, iS capacity), (1, .sl moves.length (fl moves)), (23, bS true)] [] 0 (by kernel_rfl) ?_
          exact hK3683 () _ _ _ trivial (leSt_m [] [] (by first | ((try simp only [g3684, g3685]) <;> simp only [push_cast, seval]; done) | ((try simp only [g3684]); (try simp only [g3685]); simp only [push_cast, seval]; done) | (exfalso; clear h; simp_all; done)) (by first | ((try simp only [g3684, g3685]) <;> simp only [push_cast, seval]; done) | ((try simp only [g3684]); (try simp only [g3685]); simp only [push_cast, seval]; done) | (exfalso; clear h; simp_all; done)) rfl rfl rfl)
        · refine rs 4 [] [] (by kernel_rfl) allP_nil ?_
          refine rf [(0, iS capacity), (1, .sl moves.length (fl moves)), (23, bS (decide ((300 : Int) < ((moves.length : Nat) : Int))))] [] 0 (by kernel_rfl) ?_
          exact hK3683 () _ _ _ trivial (leSt_m [] [] (by first | ((try simp only [g3684, g3685]) <;> simp only [push_cast, seval]; done) | ((try simp only [g3684]); (try simp only [g3685]); simp only [push_cast, seval]; done) | (exfalso; clear h; simp_all; done)) (by first | ((try simp only [g3684, g3685]) <;> simp only [push_cast, seval]; done) | ((try simp only [g3684]); (try simp only [g3685]); simp only [push_cast, seval]; done) | (exfalso; clear h; simp_all; done)) rfl rfl rfl)
    · dsimp only
      refine cond_sx h (by kernel_rfl) (fun g3818 h => ?_) (fun g3818 h => ?_)
      · refine seq_np ?_
        refine reg_f ?_
        refine rs 1 [] [] (by kernel_rfl) allP_nil ?_
        refine rf [(4, bS true)] [] 0 (by kernel_rfl) ?_
        refine wk_id ?_
        obtain rfl := Option.some.inj h
        refine ret_at (bS true) (by kernel_rfl) ?_
        exact ret_e [] [] (by simp only [push_cast, seval]) (by simp only [push_cast, seval]) rfl rfl rfl
      · refine wk_id ?_
        refine seq_np ?_
        refine reg_f ?_
        refine rs 2 [] [] (by kernel_rfl) allP_nil ?_
        obtain ⟨r3687, hr3687, h⟩ := bind_sx h
        refine call_x (taskmilllaw_played_spec capacity moves r3687 hr3687) (args := [iS capacity, .sl moves.length (fl moves)]) (dst := (some 27)) (by kernel_rfl) [] 0 (by kernel_rfl) [] [] (.tup [.own 0 0 r3687.2.2.2.1.length, .own 1 0 r3687.2.2.2.2.1.length, .agg [iS r3687.1, .own 2 0 r3687.2.2.2.2.2.1.length, bS r3687.2.1, .own 3 0 r3687.2.2.2.2.2.2.1.length, .own 4 0 r3687.2.2.2.2.2.2.2.length], bS r3687.2.2.1]) [(0, .row 3 (fl r3687.2.2.2.1)), (1, .row 3 (fl r3687.2.2.2.2.1)), (2, .row 3 (fl r3687.2.2.2.2.2.1)), (3, .row 39 (fl r3687.2.2.2.2.2.2.1)), (4, .row 39 (fl r3687.2.2.2.2.2.2.2))] (by simp only [push_cast, seval]) (by simp only [push_cast, seval]) (by kernel_rfl) (.inl rfl) (by simp only [push_cast, seval]) (by simp only [push_cast, seval]) ?_
        refine rs 10 [] [] (by kernel_rfl) allP_nil ?_
        refine rf [(5, .own 0 0 r3687.2.2.2.1.length), (6, .own 1 0 r3687.2.2.2.2.1.length), (7, .ptr 5 0), (8, bS r3687.2.2.1)] [(0, .row 3 (fl r3687.2.2.2.1)), (1, .row 3 (fl r3687.2.2.2.2.1)), (2, .row 3 (fl r3687.2.2.2.2.2.1)), (3, .row 39 (fl r3687.2.2.2.2.2.2.1)), (4, .row 39 (fl r3687.2.2.2.2.2.2.2)), (5, .row 25 [iS r3687.1, .own 2 0 r3687.2.2.2.2.2.1.length, bS r3687.2.1, .own 3 0 r3687.2.2.2.2.2.2.1.length, .own 4 0 r3687.2.2.2.2.2.2.2.length])] 6 (by kernel_rfl) ?_
        refine wk_id ?_
        refine seq_np ?_
        refine seq_np ?_
        refine reg_f ?_
        refine rs 2 [] [] (by kernel_rfl) allP_nil ?_
        refine rf [(5, .own 0 0 r3687.2.2.2.1.length), (6, .own 1 0 r3687.2.2.2.2.1.length), (7, .ptr 5 0), (33, bS (!r3687.2.2.1))] [(0, .row 3 (fl r3687.2.2.2.1)), (1, .row 3 (fl r3687.2.2.2.2.1)), (2, .row 3 (fl r3687.2.2.2.2.2.1)), (3, .row 39 (fl r3687.2.2.2.2.2.2.1)), (4, .row 39 (fl r3687.2.2.2.2.2.2.2)), (5, .row 25 [iS r3687.1, .own 2 0 r3687.2.2.2.2.2.1.length, bS r3687.2.1, .own 3 0 r3687.2.2.2.2.2.2.1.length, .own 4 0 r3687.2.2.2.2.2.2.2.length])] 6 (by kernel_rfl) ?_
        refine wk_id ?_
        refine cond_sx h (by kernel_rfl) (fun g3817 h => ?_) (fun g3817 h => ?_)
        · refine seq_np ?_
          refine reg_f ?_
          refine rs 1 [] [] (by kernel_rfl) allP_nil ?_
          refine rf [(4, bS false)] [(0, .row 3 (fl r3687.2.2.2.1)), (1, .row 3 (fl r3687.2.2.2.2.1)), (2, .row 3 (fl r3687.2.2.2.2.2.1)), (3, .row 39 (fl r3687.2.2.2.2.2.2.1)), (4, .row 39 (fl r3687.2.2.2.2.2.2.2)), (5, .row 25 [iS r3687.1, .own 2 0 r3687.2.2.2.2.2.1.length, bS r3687.2.1, .own 3 0 r3687.2.2.2.2.2.2.1.length, .own 4 0 r3687.2.2.2.2.2.2.2.length])] 6 (by kernel_rfl) ?_
          refine wk_id ?_
          obtain rfl := Option.some.inj h
          refine ret_at (bS false) (by kernel_rfl) ?_
          exact ret_e [] [] (by simp only [push_cast, seval]) (by simp only [push_cast, seval]) rfl rfl rfl
        · refine wk_id ?_
          refine seq_np ?_
          refine seq_np ?_
          refine reg_f ?_
          refine rs 9 [] [] (by kernel_rfl) allP_nil ?_
          refine rf [(5, .own 0 0 r3687.2.2.2.1.length), (6, .own 1 0 r3687.2.2.2.2.1.length), (7, .ptr 5 0), (42, bS (((r3687.2.2.2.1.length : Nat) : Int) != (IntKind.i64.wrap (((r3687.2.2.2.2.1.length : Nat) : Int) + ((r3687.2.2.2.2.2.1.length : Nat) : Int)))))] [(0, .row 3 (fl r3687.2.2.2.1)), (1, .row 3 (fl r3687.2.2.2.2.1)), (2, .row 3 (fl r3687.2.2.2.2.2.1)), (3, .row 39 (fl r3687.2.2.2.2.2.2.1)), (4, .row 39 (fl r3687.2.2.2.2.2.2.2)), (5, .row 25 [iS r3687.1, .own 2 0 r3687.2.2.2.2.2.1.length, bS r3687.2.1, .own 3 0 r3687.2.2.2.2.2.2.1.length, .own 4 0 r3687.2.2.2.2.2.2.2.length])] 6 (by kernel_rfl) ?_
          refine wk_id ?_
          refine cond_sx h (by kernel_rfl) (fun g3816 h => ?_) (fun g3816 h => ?_)
          · refine seq_np ?_
            refine reg_f ?_
            refine rs 1 [] [] (by kernel_rfl) allP_nil ?_
            refine rf [(4, bS false)] [(0, .row 3 (fl r3687.2.2.2.1)), (1, .row 3 (fl r3687.2.2.2.2.1)), (2, .row 3 (fl r3687.2.2.2.2.2.1)), (3, .row 39 (fl r3687.2.2.2.2.2.2.1)), (4, .row 39 (fl r3687.2.2.2.2.2.2.2)), (5, .row 25 [iS r3687.1, .own 2 0 r3687.2.2.2.2.2.1.length, bS r3687.2.1, .own 3 0 r3687.2.2.2.2.2.2.1.length, .own 4 0 r3687.2.2.2.2.2.2.2.length])] 6 (by kernel_rfl) ?_
            refine wk_id ?_
            obtain rfl := Option.some.inj h
            refine ret_at (bS false) (by kernel_rfl) ?_
            exact ret_e [] [] (by simp only [push_cast, seval]) (by simp only [push_cast, seval]) rfl rfl rfl
          · refine wk_id ?_
            refine seq_np ?_
            refine reg_t ?_
            refine rs 1 [] [] (by kernel_rfl) allP_nil ?_
            obtain ⟨r3693, hr3693, h⟩ := bind_sx h
            refine call_x (taskmilllaw_own_spec r3687.2.2.2.2.1 r3693 hr3693) (args := [.own 1 0 r3687.2.2.2.2.1.length]) (dst := (some 44)) (by kernel_rfl) [(0, .row 3 (fl r3687.2.2.2.1)), (1, .row 3 (fl r3687.2.2.2.2.1)), (2, .row 3 (fl r3687.2.2.2.2.2.1)), (3, .row 39 (fl r3687.2.2.2.2.2.2.1)), (4, .row 39 (fl r3687.2.2.2.2.2.2.2)), (5, .row 25 [iS r3687.1, .own 2 0 r3687.2.2.2.2.2.1.length, bS r3687.2.1, .own 3 0 r3687.2.2.2.2.2.2.1.length, .own 4 0 r3687.2.2.2.2.2.2.2.length])] 7 (by kernel_rfl) [] [1] (.own 7 0 r3693.length) [(7, .row 3 (fl r3693))] (by simp only [push_cast, seval]) (by simp only [push_cast, seval]) (by kernel_rfl) (.inr ⟨by simp only [push_cast, seval], by simp only [push_cast, seval]⟩) (by simp only [push_cast, seval]) (by simp only [push_cast, seval]) ?_
            refine chk_sx h (fun g3695 h => ?_)
            have k3694 : (r3693 ++ r3687.2.2.2.2.2.1).length * 8 ≤ 140737488355328 := by first | simpa only [Bool.and_eq_true, decide_eq_true_eq, bne_iff_ne, ne_eq] using g3695 | (simp at g3695 ⊢; omega)
            refine rs 4 [none, none, some ⟨.own 11 0 (r3693 ++ r3687.2.2.2.2.2.1).length, [(11, .row 3 (fl (r3693 ++ r3687.2.2.2.2.2.1))), (7, .dead)], 12, [7, 2]⟩] _ (by kernel_rfl) (allP_cons (ob_app (P := Try.prog) r3693 r3687.2.2.2.2.2.1 1 8 rfl (appCells (fl r3687.2.2.2.2.2.1) 0 (r3687.2.2.2.2.2.1.length * 1)) r3687.2.2.2.2.2.1.length (app_own r3687.2.2.2.2.2.1 1 rfl) rfl (0 + r3687.2.2.2.2.2.1.length * 1 ≤ (fl r3687.2.2.2.2.2.1).length) (app_own_le r3687.2.2.2.2.2.1 1 rfl) 3 (by kernel_rfl) (by decide) k3694 7 11 [2]) allP_nil) ?_
            refine rt [(5, .own 0 0 r3687.2.2.2.1.length), (9, .own 11 0 (r3693 ++ r3687.2.2.2.2.2.1).length)] [(0, .row 3 (fl r3687.2.2.2.1)), (1, .row 3 (fl r3687.2.2.2.2.1)), (2, .row 3 (fl r3687.2.2.2.2.2.1)), (3, .row 39 (fl r3687.2.2.2.2.2.2.1)), (4, .row 39 (fl r3687.2.2.2.2.2.2.2)), (5, .row 25 [iS r3687.1, .own 2 0 r3687.2.2.2.2.2.1.length, bS r3687.2.1, .own 3 0 r3687.2.2.2.2.2.2.1.length, .own 4 0 r3687.2.2.2.2.2.2.2.length]), (7, .dead), (11, .row 3 (fl (r3693 ++ r3687.2.2.2.2.2.1)))] 14 follows (by kernel_rfl) ?_
            refine wk_id ?_
            refine seq_np ?_
            refine seq_np ?_
            refine reg_f ?_
            refine rs 1 [] [] (by kernel_rfl) allP_nil ?_
            refine rf [(5, .own 0 0 r3687.2.2.2.1.length), (9, .own 11 0 (r3693 ++ r3687.2.2.2.2.2.1).length), (10, iS 0)] [(0, .row 3 (fl r3687.2.2.2.1)), (1, .row 3 (fl r3687.2.2.2.2.1)), (2, .row 3 (fl r3687.2.2.2.2.2.1)), (3, .row 39 (fl r3687.2.2.2.2.2.2.1)), (4, .row 39 (fl r3687.2.2.2.2.2.2.2)), (5, .row 25 [iS r3687.1, .own 2 0 r3687.2.2.2.2.2.1.length, bS r3687.2.1, .own 3 0 r3687.2.2.2.2.2.2.1.length, .own 4 0 r3687.2.2.2.2.2.2.2.length]), (7, .dead), (11, .row 3 (fl (r3693 ++ r3687.2.2.2.2.2.1)))] 14 (by kernel_rfl) ?_
            refine wk_id ?_
            refine block_np ?_
            refine loop_sx (S := Int × (List Int) × (List Int)) (fun a => ([(5, .own 0 0 a.2.1.length), (9, .own 1 0 a.2.2.length), (10, iS a.1)], [(0, .row 3 (fl a.2.1)), (1, .row 3 (fl a.2.2))], 2)) h (leSt_m [(0, 0), (1, 11)] [] (by simp only [push_cast, seval]) (by simp only [push_cast, seval]) rfl rfl rfl) ?_
            rintro ⟨i7, c0q11, c1q11⟩ o2 R2 h hr2 hn2 hx2 ht2
            try dsimp only at h hn2 ⊢
            unfold taskmilllaw_PipeOrder_l1 at h
            try dsimp only at h
            refine seq_np ?_
            refine seq_np ?_
            refine reg_f ?_
            refine rs 4 [] [] (by kernel_rfl) allP_nil ?_
            refine rf [(5, .own 0 0 c0q11.length), (9, .own 1 0 c1q11.length), (10, iS i7), (51, bS (decide (i7 < ((c1q11.length : Nat) : Int))))] [(0, .row 3 (fl c0q11)), (1, .row 3 (fl c1q11))] 2 (by kernel_rfl) ?_
            refine wk_id ?_
            refine cond_sx h (by kernel_rfl) (fun g3815 h => ?_) (fun g3815 h => ?_)
            · refine wk_id ?_
              refine seq_np ?_
              refine block_np ?_
              refine seq_np ?_
              refine chk_sx h (fun g3804 h => ?_)
              refine chk_sx h (fun g3806 h => ?_)
              refine seq_cut (A := Unit) (fun _ => ([(5, .own 0 0 c0q11.length), (9, .own 1 0 c1q11.length), (10, iS i7), (67, bS ((decide ((0 : Int) < i7)) && (decide ((ix c1q11 i7) ≤ (ix c1q11 (IntKind.i64.wrap (i7 - 1)))))))], [(0, .row 3 (fl c0q11)), (1, .row 3 (fl c1q11))], 16)) (fun _ => True) (fun K3801 hK3801 => ?_) (fun _ _ => ?_)
              · refine reg_t ?_
                refine rs 3 [] [] (by kernel_rfl) allP_nil ?_
                refine run_split 56 (decide ((0 : Int) < i7)) (.inl (by kernel_rfl)) (fun g3802 => ?_) (fun g3802 => ?_)
                · have k3803 : 0 ≤ (IntKind.i64.wrap (i7 - 1)) ∧ (IntKind.i64.wrap (i7 - 1)) < ((c1q11.length : Nat) : Int) := by have e := or_use g3804 (by first | ((try simp only [g3802]) <;> rfl) | ((try simp only [g3802]); rfl) | (exfalso; clear h; simp_all; done)); first | simpa only [Bool.and_eq_true, decide_eq_true_eq, bne_iff_ne, ne_eq] using e | (simp at e ⊢; omega)
                  have k3805 : 0 ≤ i7 ∧ i7 < ((c1q11.length : Nat) : Int) := by have e := or_use g3806 (by first | ((try simp only [g3802]) <;> rfl) | ((try simp only [g3802]); rfl) | (exfalso; clear h; simp_all; done)); first | simpa only [Bool.and_eq_true, decide_eq_true_eq, bne_iff_ne, ne_eq] using e | (simp at e ⊢; omega)
                  refine rs 11 [none, none, none, some ⟨.ptr 1 (0 + ((IntKind.i64.wrap (i7 - 1))).toNat * 1), [], 8, [1]⟩, some ⟨iS (ix c1q11 (IntKind.i64.wrap (i7 - 1))), [], 9, [1]⟩, none, none, some ⟨.ptr 1 (0 + (i7).toNat * 1), [], 12, [1]⟩, some ⟨iS (ix c1q11 i7), [], 13, [1]⟩] _ (by kernel_rfl) (allP_cons (ob_ld c1q11 i7 1 0 (0 + (i7).toNat * 1) k3805 rfl (by decide) (by first | rfl | omega) (dflS Try.prog 3) (iS (ix c1q11 i7)) rfl 13 [1]) (allP_cons (ob_ix_o 1 c1q11.length 0 1 12 i7 k3805) (allP_cons (ob_ld c1q11 (IntKind.i64.wrap (i7 - 1)) 1 0 (0 + ((IntKind.i64.wrap (i7 - 1))).toNat * 1) k3803 rfl (by decide) (by first | rfl | omega) (dflS Try.prog 3) (iS (ix c1q11 (IntKind.i64.wrap (i7 - 1)))) rfl 9 [1]) (allP_cons (ob_ix_o 1 c1q11.length 0 1 8 (IntKind.i64.wrap (i7 - 1)) k3803) allP_nil)))) ?_
                  refine rt [(5, .own 0 0 c0q11.length), (9, .own 1 0 c1q11.length), (10, iS i7), (67, bS (decide ((ix c1q11 i7) ≤ (ix c1q11 (IntKind.i64.wrap (i7 - 1))))))] [(0, .row 3 (fl c0q11)), (1, .row 3 (fl c1q11))] 16 follows (by kernel_rfl) ?_
                  exact hK3801 () _ _ _ trivial (leSt_m [(0, 0), (1, 1)] [] (by (try simp only [g3802]) <;> simp only [push_cast, seval]) (by (try simp only [g3802]) <;> simp only [push_cast, seval]) rfl rfl rfl)
                · refine rs 11 [] [] (by kernel_rfl) allP_nil ?_
                  refine rt [(5, .own 0 0 c0q11.length), (9, .own 1 0 c1q11.length), (10, iS i7), (67, bS false)] [(0, .row 3 (fl c0q11)), (1, .row 3 (fl c1q11))] 16 follows (by kernel_rfl) ?_
                  exact hK3801 () _ _ _ trivial (leSt_m [(0, 0), (1, 1)] [] (by (try simp only [g3802]) <;> simp only [push_cast, seval]) (by (try simp only [g3802]) <;> simp only [push_cast, seval]) rfl rfl rfl)
              · dsimp only
                refine cond_sx h (by kernel_rfl) (fun g3814 h => ?_) (fun g3814 h => ?_)
                · refine seq_np ?_
                  refine reg_f ?_
                  refine rs 1 [] [] (by kernel_rfl) allP_nil ?_
                  refine rf [(4, bS false)] [(0, .row 3 (fl c0q11)), (1, .row 3 (fl c1q11))] 16 (by kernel_rfl) ?_
                  refine wk_id ?_
                  refine rt_cast ht2 ?_
                  obtain ⟨r0, h, e0⟩ := map_sx h
                  have e1 := hr2 r0 e0.symm
                  subst r0
                  obtain rfl := Option.some.inj h
                  refine ret_at (bS false) (by kernel_rfl) ?_
                  exact ret_e [] [] (by simp only [push_cast, seval]) (by simp only [push_cast, seval]) rfl rfl rfl
                · refine wk_id ?_
                  refine chk_sx h (fun g3811 h => ?_)
                  refine seq_np ?_
                  refine reg_f ?_
                  have k3810 : 0 ≤ i7 ∧ i7 < ((c1q11.length : Nat) : Int) := by first | simpa only [Bool.and_eq_true, decide_eq_true_eq, bne_iff_ne, ne_eq] using g3811 | (simp at g3811 ⊢; omega)
                  refine rs 5 [none, none, none, some ⟨.ptr 1 (0 + (i7).toNat * 1), [], 16, [1]⟩, some ⟨iS (ix c1q11 i7), [], 16, [1]⟩] _ (by kernel_rfl) (allP_cons (ob_ld c1q11 i7 1 0 (0 + (i7).toNat * 1) k3810 rfl (by decide) (by first | rfl | omega) (dflS Try.prog 3) (iS (ix c1q11 i7)) rfl 16 [1]) (allP_cons (ob_ix_o 1 c1q11.length 0 1 16 i7 k3810) allP_nil)) ?_
                  obtain ⟨r3812, hr3812, h⟩ := bind_sx h
                  refine call_x (taskmillref_Has_spec c0q11 (ix c1q11 i7) r3812 hr3812) (args := [.own 0 0 c0q11.length, iS (ix c1q11 i7)]) (dst := (some 73)) (by kernel_rfl) [(0, .row 3 (fl c0q11)), (1, .row 3 (fl c1q11))] 16 (by kernel_rfl) [] [0] (bS r3812) [] (by simp only [push_cast, seval]) (by simp only [push_cast, seval]) (by kernel_rfl) (.inr ⟨by simp only [push_cast, seval], by simp only [push_cast, seval]⟩) (by simp only [push_cast, seval]) (by simp only [push_cast, seval]) ?_
                  refine rs 1 [] [] (by kernel_rfl) allP_nil ?_
                  refine rf [(5, .own 0 0 c0q11.length), (9, .own 1 0 c1q11.length), (10, iS i7), (74, bS (!r3812))] [(0, .row 3 (fl c0q11)), (1, .row 3 (fl c1q11))] 16 (by kernel_rfl) ?_
                  refine wk_id ?_
                  refine cond_sx h (by kernel_rfl) (fun g3813 h => ?_) (fun g3813 h => ?_)
                  · refine seq_np ?_
                    refine reg_f ?_
                    refine rs 1 [] [] (by kernel_rfl) allP_nil ?_
                    refine rf [(4, bS false)] [(0, .row 3 (fl c0q11)), (1, .row 3 (fl c1q11))] 16 (by kernel_rfl) ?_
                    refine wk_id ?_
                    refine rt_cast ht2 ?_
                    obtain ⟨r0, h, e0⟩ := map_sx h
                    have e1 := hr2 r0 e0.symm
                    subst r0
                    obtain rfl := Option.some.inj h
                    refine ret_at (bS false) (by kernel_rfl) ?_
                    exact ret_e [] [] (by simp only [push_cast, seval]) (by simp only [push_cast, seval]) rfl rfl rfl
                  · refine wk_id ?_
                    refine wk_id ?_
                    refine reg_f ?_
                    refine rs 3 [] [] (by kernel_rfl) allP_nil ?_
                    refine rf [(5, .own 0 0 c0q11.length), (9, .own 1 0 c1q11.length), (10, iS (IntKind.i64.wrap (i7 + 1)))] [(0, .row 3 (fl c0q11)), (1, .row 3 (fl c1q11))] 16 (by kernel_rfl) ?_
                    exact hn2 ((IntKind.i64.wrap (i7 + 1)), c0q11, c1q11) _ _ _ (Option.some.inj h).symm (leSt_m [(0, 0), (1, 1)] [] (by simp only [push_cast, seval]) (by simp only [push_cast, seval]) rfl rfl rfl)
            · change R2 (.exit 0) _ _ _
              refine ex_cast hx2 (id := 0) ?_
              obtain ⟨r0, h, e0⟩ := map_sx h
              have e1 := hr2 r0 e0.symm
              subst r0
              refine wk_id ?_
              refine wk_id ?_
              refine seq_np ?_
              refine reg_f ?_
              refine rs 1 [] [] (by kernel_rfl) allP_nil ?_
              refine rf [(4, bS true)] [(0, .row 3 (fl c0q11)), (1, .row 3 (fl c1q11))] 2 (by kernel_rfl) ?_
              refine wk_id ?_
              obtain rfl := Option.some.inj h
              refine ret_at (bS true) (by kernel_rfl) ?_
              exact ret_e [] [] (by simp only [push_cast, seval]) (by simp only [push_cast, seval]) rfl rfl rfl

end Go.Proofs.Ytconaimaibephaa
