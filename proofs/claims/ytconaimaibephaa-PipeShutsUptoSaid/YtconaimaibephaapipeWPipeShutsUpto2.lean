/-
  What laws of the chapter pipe compute, and lemmas on it.
  No conditions.
-/
import Derived.Test.YtconaimaibephaapipeWPipeShutsUpto1
set_option linter.unusedSimpArgs false
set_option linter.unusedVariables false
namespace Go.Proofs.Ytconaimaibephaa
open Go Go.Sx
attribute [local irreducible] Wk RunAt
set_option maxRecDepth 100000 in
set_option maxHeartbeats 200000000 in
theorem pipe_Down_spec (c0_Cap : Int) (c0_Closed : Bool) (c1 : (List Int)) (c2 : (List GPost)) (c3 : (List GPost)) (r : Bool × Bool × Bool × Int × Int × (List GWake) × Int × Bool × (List GPost) × (List GPost) × (List Int)) (h : pipe_Down c0_Cap c0_Closed c1 c2 c3 = some r) : SpecW Try.prog 42 [.ptr 0 0] [(0, .row 25 [iS c0_Cap, .own 1 0 c1.length, bS c0_Closed, .own 2 0 c2.length, .own 3 0 c3.length]), (1, .row 3 (fl c1)), (2, .row 39 (fl c2)), (3, .row 39 (fl c3))] 4 (fun x h n => x = .agg [bS r.1, bS r.2.1, bS r.2.2.1, iS r.2.2.2.1, iS r.2.2.2.2.1, .own 4 0 r.2.2.2.2.2.1.length] ∧ h = [(0, .row 25 [iS r.2.2.2.2.2.2.1, .own 1 0 r.2.2.2.2.2.2.2.2.2.2.length, bS r.2.2.2.2.2.2.2.1, .own 5 0 r.2.2.2.2.2.2.2.2.1.length, .own 6 0 r.2.2.2.2.2.2.2.2.2.1.length]), (1, .row 3 (fl r.2.2.2.2.2.2.2.2.2.2)), (2, .dead), (3, .dead), (4, .row 64 (fl r.2.2.2.2.2.1)), (5, .row 39 (fl r.2.2.2.2.2.2.2.2.1)), (6, .row 39 (fl r.2.2.2.2.2.2.2.2.2.1))] ∧ n = 7) := by
  unfold pipe_Down at h
  refine spec_of (draw_ok _) Try.func42 rfl (by decide) rfl (by kernel_rfl) ?_
  refine seq_np ?_
  refine reg_f ?_
  refine rs 1 [] [] (by kernel_rfl) allP_nil ?_
  refine rf [(0, .ptr 0 0), (2, .ptr 4 0)] [(0, .row 25 [iS c0_Cap, .own 1 0 c1.length, bS c0_Closed, .own 2 0 c2.length, .own 3 0 c3.length]), (1, .row 3 (fl c1)), (2, .row 39 (fl c2)), (3, .row 39 (fl c3)), (4, .row 34 [bS false, bS false, bS false, iS 0, iS 0, .v (.slice none 0 0)])] 5 (by kernel_rfl) ?_
  refine wk_id ?_
  refine seq_np ?_
  refine seq_np ?_
  refine reg_f ?_
  refine rs 4 [] [] (by kernel_rfl) allP_nil ?_
  refine rf [(0, .ptr 0 0), (2, .ptr 4 0), (11, bS c0_Closed)] [(0, .row 25 [iS c0_Cap, .own 1 0 c1.length, bS c0_Closed, .own 2 0 c2.length, .own 3 0 c3.length]), (1, .row 3 (fl c1)), (2, .row 39 (fl c2)), (3, .row 39 (fl c3)), (4, .row 34 [bS false, bS false, bS false, iS 0, iS 0, .v (.slice none 0 0)])] 5 (by kernel_rfl) ?_
  refine wk_id ?_
  refine cond_sx h (by kernel_rfl) (fun g2180 h => ?_) (fun g2180 h => ?_)
  · refine seq_np ?_
    refine reg_f ?_
    refine rs 2 [] [] (by kernel_rfl) allP_nil ?_
    refine rf [(2, .ptr 4 0)] [(0, .row 25 [iS c0_Cap, .own 1 0 c1.length, bS c0_Closed, .own 2 0 c2.length, .own 3 0 c3.length]), (1, .row 3 (fl c1)), (2, .row 39 (fl c2)), (3, .row 39 (fl c3)), (4, .row 34 [bS true, bS true, bS false, iS 0, iS 0, .v (.slice none 0 0)])] 5 (by kernel_rfl) ?_
    refine wk_id ?_
    obtain rfl := Option.some.inj h
    refine ret_at (.agg [bS true, bS true, bS false, iS 0, iS 0, .v (.slice none 0 0)]) (by kernel_rfl) ?_
    exact ret_e [(0, 0), (1, 1), (5, 2), (6, 3)] [] (by simp only [push_cast, seval]) (by simp only [push_cast, seval]) rfl rfl rfl
  · refine wk_id ?_
    refine seq_np ?_
    refine reg_f ?_
    refine rs 3 [] [] (by kernel_rfl) allP_nil ?_
    refine rf [(0, .ptr 0 0), (2, .ptr 4 0), (3, .ptr 5 0)] [(0, .row 25 [iS c0_Cap, .own 1 0 c1.length, bS c0_Closed, .own 2 0 c2.length, .own 3 0 c3.length]), (1, .row 3 (fl c1)), (2, .row 39 (fl c2)), (3, .row 39 (fl c3)), (4, .row 34 [bS false, bS false, bS false, iS 0, iS 0, .v (.slice none 0 0)]), (5, .row 34 [bS true, bS false, bS false, iS 0, iS 0, .v (.slice none 0 0)])] 6 (by kernel_rfl) ?_
    refine wk_id ?_
    refine seq_np ?_
    refine seq_np ?_
    refine reg_f ?_
    refine rs 6 [] [] (by kernel_rfl) allP_nil ?_
    refine rf [(0, .ptr 0 0), (2, .ptr 4 0), (3, .ptr 5 0), (17, .own 3 0 c3.length), (18, iS ((c3.length : Nat) : Int)), (19, iS 0)] [(0, .row 25 [iS c0_Cap, .own 1 0 c1.length, bS c0_Closed, .own 2 0 c2.length, .own 3 0 c3.length]), (1, .row 3 (fl c1)), (2, .row 39 (fl c2)), (3, .row 39 (fl c3)), (4, .row 34 [bS false, bS false, bS false, iS 0, iS 0, .v (.slice none 0 0)]), (5, .row 34 [bS true, bS false, bS false, iS 0, iS 0, .v (.slice none 0 0)])] 6 (by kernel_rfl) ?_
    refine wk_id ?_
    refine block_np ?_
    refine loop_sx (S := Int × (List GWake)) (fun a => ([(0, .ptr 0 0), (2, .ptr 4 0), (3, .ptr 5 0), (17, .own 3 0 c3.length), (18, iS ((c3.length : Nat) : Int)), (19, iS a.1)], [(0, .row 25 [iS c0_Cap, .own 1 0 c1.length, bS c0_Closed, .own 2 0 c2.length, .own 3 0 c3.length]), (1, .row 3 (fl c1)), (2, .row 39 (fl c2)), (3, .row 39 (fl c3)), (4, .row 34 [bS false, bS false, bS false, iS 0, iS 0, .v (.slice none 0 0)]), (5, .row 34 [bS true, bS false, bS false, iS 0, iS 0, .own 6 0 a.2.length]), (6, .row 64 (fl a.2))], 7)) h (leSt_m [(0, 0), (1, 1), (2, 2), (3, 3), (4, 4), (5, 5)] [] (by simp only [push_cast, seval]) (by simp only [push_cast, seval]) rfl rfl rfl) ?_
    rintro ⟨t19q7, c6q10⟩ o3 R3 h hr3 hn3 hx3 ht3
    try dsimp only at h hn3 ⊢
    unfold pipe_Down_l2 at h
    try dsimp only at h
    refine seq_np ?_
    refine reg_f ?_
    refine rs 1 [] [] (by kernel_rfl) allP_nil ?_
    refine rf [(0, .ptr 0 0), (2, .ptr 4 0), (3, .ptr 5 0), (17, .own 3 0 c3.length), (18, iS ((c3.length : Nat) : Int)), (19, iS t19q7), (20, bS (decide (t19q7 < ((c3.length : Nat) : Int))))] [(0, .row 25 [iS c0_Cap, .own 1 0 c1.length, bS c0_Closed, .own 2 0 c2.length, .own 3 0 c3.length]), (1, .row 3 (fl c1)), (2, .row 39 (fl c2)), (3, .row 39 (fl c3)), (4, .row 34 [bS false, bS false, bS false, iS 0, iS 0, .v (.slice none 0 0)]), (5, .row 34 [bS true, bS false, bS false, iS 0, iS 0, .own 6 0 c6q10.length]), (6, .row 64 (fl c6q10))] 7 (by kernel_rfl) ?_
    refine wk_id ?_
    refine seq_np ?_
    refine cond_sx h (by kernel_rfl) (fun g2179 h => ?_) (fun g2179 h => ?_)
    · refine wk_id ?_
      refine seq_np ?_
      refine block_np ?_
      refine chk_sx h (fun g2113 h => ?_)
      refine seq_np ?_
      refine reg_f ?_
      have k2112 : 0 ≤ t19q7 ∧ t19q7 < ((c3.length : Nat) : Int) := by first | simpa only [Bool.and_eq_true, decide_eq_true_eq, bne_iff_ne, ne_eq] using g2113 | (simp at g2113 ⊢; omega)
      refine rs 4 [some ⟨.ptr 3 (0 + (t19q7).toNat * 3), [], 7, [3]⟩, some ⟨.agg (Enc.cells (ix c3 t19q7)), [], 7, [3]⟩] _ (by kernel_rfl) (allP_cons (ob_ldw c3 t19q7 3 (0 + (t19q7).toNat * 3) k2112 rfl (by first | rfl | omega) [iS (ix c3 t19q7).Task, iS (ix c3 t19q7).Case, iS (ix c3 t19q7).Value] rfl 7 [3]) (allP_cons (ob_ix_o 3 c3.length 0 3 7 t19q7 k2112) allP_nil)) ?_
      refine rf [(0, .ptr 0 0), (2, .ptr 4 0), (3, .ptr 5 0), (5, .ptr 7 0), (17, .own 3 0 c3.length), (18, iS ((c3.length : Nat) : Int)), (19, iS t19q7)] [(0, .row 25 [iS c0_Cap, .own 1 0 c1.length, bS c0_Closed, .own 2 0 c2.length, .own 3 0 c3.length]), (1, .row 3 (fl c1)), (2, .row 39 (fl c2)), (3, .row 39 (fl c3)), (4, .row 34 [bS false, bS false, bS false, iS 0, iS 0, .v (.slice none 0 0)]), (5, .row 34 [bS true, bS false, bS false, iS 0, iS 0, .own 6 0 c6q10.length]), (6, .row 64 (fl c6q10)), (7, .row 39 (Enc.cells (ix c3 t19q7)))] 8 (by kernel_rfl) ?_
      refine wk_id ?_
      refine chk_sx h (fun g2117 h => ?_)
      refine reg_f ?_
      have k2116 : (c6q10 ++ ([(GWake.mk (ix c3 t19q7).Task (ix c3 t19q7).Case 0 false false)] : List GWake)).length * 32 ≤ 140737488355328 := by first | simpa only [Bool.and_eq_true, decide_eq_true_eq, bne_iff_ne, ne_eq] using g2117 | (simp at g2117 ⊢; omega)
      refine rs 11 [none, none, none, none, none, none, none, none, some ⟨.own 9 0 (c6q10 ++ ([(GWake.mk (ix c3 t19q7).Task (ix c3 t19q7).Case 0 false false)] : List GWake)).length, [(9, .row 64 (fl (c6q10 ++ ([(GWake.mk (ix c3 t19q7).Task (ix c3 t19q7).Case 0 false false)] : List GWake)))), (6, .dead)], 10, [6, 8]⟩] _ (by kernel_rfl) (allP_cons (ob_app (P := Try.prog) c6q10 ([(GWake.mk (ix c3 t19q7).Task (ix c3 t19q7).Case 0 false false)] : List GWake) 5 32 rfl (appCells (fl ([(GWake.mk (ix c3 t19q7).Task (ix c3 t19q7).Case 0 false false)] : List GWake)) 0 (([(GWake.mk (ix c3 t19q7).Task (ix c3 t19q7).Case 0 false false)] : List GWake).length * 5)) ([(GWake.mk (ix c3 t19q7).Task (ix c3 t19q7).Case 0 false false)] : List GWake).length (app_own ([(GWake.mk (ix c3 t19q7).Task (ix c3 t19q7).Case 0 false false)] : List GWake) 5 rfl) rfl (0 + ([(GWake.mk (ix c3 t19q7).Task (ix c3 t19q7).Case 0 false false)] : List GWake).length * 5 ≤ (fl ([(GWake.mk (ix c3 t19q7).Task (ix c3 t19q7).Case 0 false false)] : List GWake)).length) (app_own_le ([(GWake.mk (ix c3 t19q7).Task (ix c3 t19q7).Case 0 false false)] : List GWake) 5 rfl) 64 (by kernel_rfl) (by decide) k2116 6 9 [8]) allP_nil) ?_
      refine rf [(0, .ptr 0 0), (2, .ptr 4 0), (3, .ptr 5 0), (17, .own 3 0 c3.length), (18, iS ((c3.length : Nat) : Int)), (19, iS t19q7)] [(0, .row 25 [iS c0_Cap, .own 1 0 c1.length, bS c0_Closed, .own 2 0 c2.length, .own 3 0 c3.length]), (1, .row 3 (fl c1)), (2, .row 39 (fl c2)), (3, .row 39 (fl c3)), (4, .row 34 [bS false, bS false, bS false, iS 0, iS 0, .v (.slice none 0 0)]), (5, .row 34 [bS true, bS false, bS false, iS 0, iS 0, .own 9 0 (c6q10 ++ ([(GWake.mk (ix c3 t19q7).Task (ix c3 t19q7).Case 0 false false)] : List GWake)).length]), (6, .dead), (7, .row 39 (Enc.cells (ix c3 t19q7))), (8, .row 64 (fl ([(GWake.mk (ix c3 t19q7).Task (ix c3 t19q7).Case 0 false false)] : List GWake))), (9, .row 64 (fl (c6q10 ++ ([(GWake.mk (ix c3 t19q7).Task (ix c3 t19q7).Case 0 false false)] : List GWake))))] 10 (by kernel_rfl) ?_
      refine wk_id ?_
      refine wk_id ?_
      refine reg_f ?_
      refine rs 2 [] [] (by kernel_rfl) allP_nil ?_
      refine rf [(0, .ptr 0 0), (2, .ptr 4 0), (3, .ptr 5 0), (17, .own 3 0 c3.length), (18, iS ((c3.length : Nat) : Int)), (19, iS (IntKind.i64.wrap (t19q7 + 1)))] [(0, .row 25 [iS c0_Cap, .own 1 0 c1.length, bS c0_Closed, .own 2 0 c2.length, .own 3 0 c3.length]), (1, .row 3 (fl c1)), (2, .row 39 (fl c2)), (3, .row 39 (fl c3)), (4, .row 34 [bS false, bS false, bS false, iS 0, iS 0, .v (.slice none 0 0)]), (5, .row 34 [bS true, bS false, bS false, iS 0, iS 0, .own 9 0 (c6q10 ++ ([(GWake.mk (ix c3 t19q7).Task (ix c3 t19q7).Case 0 false false)] : List GWake)).length]), (6, .dead), (7, .row 39 (Enc.cells (ix c3 t19q7))), (8, .row 64 (fl ([(GWake.mk (ix c3 t19q7).Task (ix c3 t19q7).Case 0 false false)] : List GWake))), (9, .row 64 (fl (c6q10 ++ ([(GWake.mk (ix c3 t19q7).Task (ix c3 t19q7).Case 0 false false)] : List GWake))))] 10 (by kernel_rfl) ?_
      exact hn3 ((IntKind.i64.wrap (t19q7 + 1)), (c6q10 ++ ([(GWake.mk (ix c3 t19q7).Task (ix c3 t19q7).Case 0 false false)] : List GWake))) _ _ _ (Option.some.inj h).symm (leSt_m [(0, 0), (1, 1), (2, 2), (3, 3), (4, 4), (5, 5), (6, 9)] [] (by simp only [push_cast, seval]) (by simp only [push_cast, seval]) rfl rfl rfl)
    · change R3 (.exit 0) _ _ _
      refine ex_cast hx3 (id := 0) ?_
      obtain ⟨r0, h, e0⟩ := map_sx h
      have e1 := hr3 r0 e0.symm
      subst r0
      refine wk_id ?_
      refine wk_id ?_
      refine seq_np ?_
      refine seq_np ?_
      refine reg_f ?_
      refine rs 6 [] [] (by kernel_rfl) allP_nil ?_
      refine rf [(0, .ptr 0 0), (2, .ptr 4 0), (3, .ptr 5 0), (37, .own 2 0 c2.length), (38, iS ((c2.length : Nat) : Int)), (39, iS 0)] [(0, .row 25 [iS c0_Cap, .own 1 0 c1.length, bS c0_Closed, .own 2 0 c2.length, .own 3 0 c3.length]), (1, .row 3 (fl c1)), (2, .row 39 (fl c2)), (3, .row 39 (fl c3)), (4, .row 34 [bS false, bS false, bS false, iS 0, iS 0, .v (.slice none 0 0)]), (5, .row 34 [bS true, bS false, bS false, iS 0, iS 0, .own 6 0 c6q10.length]), (6, .row 64 (fl c6q10))] 7 (by kernel_rfl) ?_
      refine wk_id ?_
      refine block_np ?_
      refine loop_sx (S := Int × (List GWake)) (fun a => ([(0, .ptr 0 0), (2, .ptr 4 0), (3, .ptr 5 0), (37, .own 2 0 c2.length), (38, iS ((c2.length : Nat) : Int)), (39, iS a.1)], [(0, .row 25 [iS c0_Cap, .own 1 0 c1.length, bS c0_Closed, .own 2 0 c2.length, .own 3 0 c3.length]), (1, .row 3 (fl c1)), (2, .row 39 (fl c2)), (3, .row 39 (fl c3)), (4, .row 34 [bS false, bS false, bS false, iS 0, iS 0, .v (.slice none 0 0)]), (5, .row 34 [bS true, bS false, bS false, iS 0, iS 0, .own 6 0 a.2.length]), (6, .row 64 (fl a.2))], 7)) h (leSt_m [(0, 0), (1, 1), (2, 2), (3, 3), (4, 4), (5, 5), (6, 6)] [] (by simp only [push_cast, seval]) (by simp only [push_cast, seval]) rfl rfl rfl) ?_
      rintro ⟨t39q7, c6q16⟩ o4 R4 h hr4 hn4 hx4 ht4
      try dsimp only at h hn4 ⊢
      unfold pipe_Down_l1 at h
      try dsimp only at h
      refine seq_np ?_
      refine reg_f ?_
      refine rs 1 [] [] (by kernel_rfl) allP_nil ?_
      refine rf [(0, .ptr 0 0), (2, .ptr 4 0), (3, .ptr 5 0), (37, .own 2 0 c2.length), (38, iS ((c2.length : Nat) : Int)), (39, iS t39q7), (40, bS (decide (t39q7 < ((c2.length : Nat) : Int))))] [(0, .row 25 [iS c0_Cap, .own 1 0 c1.length, bS c0_Closed, .own 2 0 c2.length, .own 3 0 c3.length]), (1, .row 3 (fl c1)), (2, .row 39 (fl c2)), (3, .row 39 (fl c3)), (4, .row 34 [bS false, bS false, bS false, iS 0, iS 0, .v (.slice none 0 0)]), (5, .row 34 [bS true, bS false, bS false, iS 0, iS 0, .own 6 0 c6q16.length]), (6, .row 64 (fl c6q16))] 7 (by kernel_rfl) ?_
      refine wk_id ?_
      refine seq_np ?_
      refine cond_sx h (by kernel_rfl) (fun g2178 h => ?_) (fun g2178 h => ?_)
      · refine wk_id ?_
        refine seq_np ?_
        refine block_np ?_
        refine chk_sx h (fun g2173 h => ?_)
        refine seq_np ?_
        refine reg_f ?_
        have k2172 : 0 ≤ t39q7 ∧ t39q7 < ((c2.length : Nat) : Int) := by first | simpa only [Bool.and_eq_true, decide_eq_true_eq, bne_iff_ne, ne_eq] using g2173 | (simp at g2173 ⊢; omega)
        refine rs 4 [some ⟨.ptr 2 (0 + (t39q7).toNat * 3), [], 7, [2]⟩, some ⟨.agg (Enc.cells (ix c2 t39q7)), [], 7, [2]⟩] _ (by kernel_rfl) (allP_cons (ob_ldw c2 t39q7 3 (0 + (t39q7).toNat * 3) k2172 rfl (by first | rfl | omega) [iS (ix c2 t39q7).Task, iS (ix c2 t39q7).Case, iS (ix c2 t39q7).Value] rfl 7 [2]) (allP_cons (ob_ix_o 2 c2.length 0 3 7 t39q7 k2172) allP_nil)) ?_
        refine rf [(0, .ptr 0 0), (2, .ptr 4 0), (3, .ptr 5 0), (7, .ptr 7 0), (37, .own 2 0 c2.length), (38, iS ((c2.length : Nat) : Int)), (39, iS t39q7)] [(0, .row 25 [iS c0_Cap, .own 1 0 c1.length, bS c0_Closed, .own 2 0 c2.length, .own 3 0 c3.length]), (1, .row 3 (fl c1)), (2, .row 39 (fl c2)), (3, .row 39 (fl c3)), (4, .row 34 [bS false, bS false, bS false, iS 0, iS 0, .v (.slice none 0 0)]), (5, .row 34 [bS true, bS false, bS false, iS 0, iS 0, .own 6 0 c6q16.length]), (6, .row 64 (fl c6q16)), (7, .row 39 (Enc.cells (ix c2 t39q7)))] 8 (by kernel_rfl) ?_
        refine wk_id ?_
        refine chk_sx h (fun g2177 h => ?_)
        refine reg_f ?_
        have k2176 : (c6q16 ++ ([(GWake.mk (ix c2 t39q7).Task (ix c2 t39q7).Case 0 false true)] : List GWake)).length * 32 ≤ 140737488355328 := by first | simpa only [Bool.and_eq_true, decide_eq_true_eq, bne_iff_ne, ne_eq] using g2177 | (simp at g2177 ⊢; omega)
        refine rs 11 [none, none, none, none, none, none, none, none, some ⟨.own 9 0 (c6q16 ++ ([(GWake.mk (ix c2 t39q7).Task (ix c2 t39q7).Case 0 false true)] : List GWake)).length, [(9, .row 64 (fl (c6q16 ++ ([(GWake.mk (ix c2 t39q7).Task (ix c2 t39q7).Case 0 false true)] : List GWake)))), (6, .dead)], 10, [6, 8]⟩] _ (by kernel_rfl) (allP_cons (ob_app (P := Try.prog) c6q16 ([(GWake.mk (ix c2 t39q7).Task (ix c2 t39q7).Case 0 false true)] : List GWake) 5 32 rfl (appCells (fl ([(GWake.mk (ix c2 t39q7).Task (ix c2 t39q7).Case 0 false true)] : List GWake)) 0 (([(GWake.mk (ix c2 t39q7).Task (ix c2 t39q7).Case 0 false true)] : List GWake).length * 5)) ([(GWake.mk (ix c2 t39q7).Task (ix c2 t39q7).Case 0 false true)] : List GWake).length (app_own ([(GWake.mk (ix c2 t39q7).Task (ix c2 t39q7).Case 0 false true)] : List GWake) 5 rfl) rfl (0 + ([(GWake.mk (ix c2 t39q7).Task (ix c2 t39q7).Case 0 false true)] : List GWake).length * 5 ≤ (fl ([(GWake.mk (ix c2 t39q7).Task (ix c2 t39q7).Case 0 false true)] : List GWake)).length) (app_own_le ([(GWake.mk (ix c2 t39q7).Task (ix c2 t39q7).Case 0 false true)] : List GWake) 5 rfl) 64 (by kernel_rfl) (by decide) k2176 6 9 [8]) allP_nil) ?_
        refine rf [(0, .ptr 0 0), (2, .ptr 4 0), (3, .ptr 5 0), (37, .own 2 0 c2.length), (38, iS ((c2.length : Nat) : Int)), (39, iS t39q7)] [(0, .row 25 [iS c0_Cap, .own 1 0 c1.length, bS c0_Closed, .own 2 0 c2.length, .own 3 0 c3.length]), (1, .row 3 (fl c1)), (2, .row 39 (fl c2)), (3, .row 39 (fl c3)), (4, .row 34 [bS false, bS false, bS false, iS 0, iS 0, .v (.slice none 0 0)]), (5, .row 34 [bS true, bS false, bS false, iS 0, iS 0, .own 9 0 (c6q16 ++ ([(GWake.mk (ix c2 t39q7).Task (ix c2 t39q7).Case 0 false true)] : List GWake)).length]), (6, .dead), (7, .row 39 (Enc.cells (ix c2 t39q7))), (8, .row 64 (fl ([(GWake.mk (ix c2 t39q7).Task (ix c2 t39q7).Case 0 false true)] : List GWake))), (9, .row 64 (fl (c6q16 ++ ([(GWake.mk (ix c2 t39q7).Task (ix c2 t39q7).Case 0 false true)] : List GWake))))] 10 (by kernel_rfl) ?_
        refine wk_id ?_
        refine wk_id ?_
        refine reg_f ?_
        refine rs 2 [] [] (by kernel_rfl) allP_nil ?_
        refine rf [(0, .ptr 0 0), (2, .ptr 4 0), (3, .ptr 5 0), (37, .own 2 0 c2.length), (38, iS ((c2.length : Nat) : Int)), (39, iS (IntKind.i64.wrap (t39q7 + 1)))] [(0, .row 25 [iS c0_Cap, .own 1 0 c1.length, bS c0_Closed, .own 2 0 c2.length, .own 3 0 c3.length]), (1, .row 3 (fl c1)), (2, .row 39 (fl c2)), (3, .row 39 (fl c3)), (4, .row 34 [bS false, bS false, bS false, iS 0, iS 0, .v (.slice none 0 0)]), (5, .row 34 [bS true, bS false, bS false, iS 0, iS 0, .own 9 0 (c6q16 ++ ([(GWake.mk (ix c2 t39q7).Task (ix c2 t39q7).Case 0 false true)] : List GWake)).length]), (6, .dead), (7, .row 39 (Enc.cells (ix c2 t39q7))), (8, .row 64 (fl ([(GWake.mk (ix c2 t39q7).Task (ix c2 t39q7).Case 0 false true)] : List GWake))), (9, .row 64 (fl (c6q16 ++ ([(GWake.mk (ix c2 t39q7).Task (ix c2 t39q7).Case 0 false true)] : List GWake))))] 10 (by kernel_rfl) ?_
        exact hn4 ((IntKind.i64.wrap (t39q7 + 1)), (c6q16 ++ ([(GWake.mk (ix c2 t39q7).Task (ix c2 t39q7).Case 0 false true)] : List GWake))) _ _ _ (Option.some.inj h).symm (leSt_m [(0, 0), (1, 1), (2, 2), (3, 3), (4, 4), (5, 5), (6, 9)] [] (by simp only [push_cast, seval]) (by simp only [push_cast, seval]) rfl rfl rfl)
      · change R4 (.exit 2) _ _ _
        refine ex_cast hx4 (id := 2) ?_
        obtain ⟨r0, h, e0⟩ := map_sx h
        have e1 := hr4 r0 e0.symm
        subst r0
        refine wk_id ?_
        refine wk_id ?_
        refine seq_np ?_
        refine reg_f ?_
        refine rs 12 [] [] (by kernel_rfl) allP_nil ?_
        refine rf [(2, .ptr 4 0), (3, .ptr 5 0)] [(0, .row 25 [iS c0_Cap, .own 1 0 c1.length, bS true, .v (.slice none 0 0), .v (.slice none 0 0)]), (1, .row 3 (fl c1)), (2, .row 39 (fl c2)), (3, .row 39 (fl c3)), (4, .row 34 [bS false, bS false, bS false, iS 0, iS 0, .v (.slice none 0 0)]), (5, .row 34 [bS true, bS false, bS false, iS 0, iS 0, .own 6 0 c6q16.length]), (6, .row 64 (fl c6q16))] 7 (by kernel_rfl) ?_
        refine wk_id ?_
        refine seq_np ?_
        refine reg_f ?_
        refine rs 2 [] [] (by kernel_rfl) allP_nil ?_
        refine rf [(2, .ptr 4 0)] [(0, .row 25 [iS c0_Cap, .own 1 0 c1.length, bS true, .v (.slice none 0 0), .v (.slice none 0 0)]), (1, .row 3 (fl c1)), (2, .row 39 (fl c2)), (3, .row 39 (fl c3)), (4, .row 34 [bS true, bS false, bS false, iS 0, iS 0, .own 6 0 c6q16.length]), (5, .row 34 [bS true, bS false, bS false, iS 0, iS 0, .own 6 0 c6q16.length]), (6, .row 64 (fl c6q16))] 7 (by kernel_rfl) ?_
        refine wk_id ?_
        obtain rfl := Option.some.inj h
        refine ret_at (.agg [bS true, bS false, bS false, iS 0, iS 0, .own 6 0 c6q16.length]) (by kernel_rfl) ?_
        exact ret_e [(0, 0), (1, 1), (4, 6)] [] (by simp only [push_cast, seval]) (by simp only [push_cast, seval]) rfl rfl rfl

set_option maxRecDepth 100000 in
set_option maxHeartbeats 200000000 in
theorem pipe_Shut_spec (p : Pipe) (r : Int × Bool × Bool × Bool × Bool × Int × Int × Fault × (List Int) × (List GPost) × (List GPost) × (List GWake)) (h : pipe_Shut p = some r) : SpecW Try.prog 26 [.agg (Enc.cells p)] [] 0 (fun x h n => x = .tup [.agg [iS r.1, .own 0 0 r.2.2.2.2.2.2.2.2.1.length, bS r.2.1, .own 1 0 r.2.2.2.2.2.2.2.2.2.1.length, .own 2 0 r.2.2.2.2.2.2.2.2.2.2.1.length], .agg [bS r.2.2.1, bS r.2.2.2.1, bS r.2.2.2.2.1, iS r.2.2.2.2.2.1, iS r.2.2.2.2.2.2.1, .own 3 0 r.2.2.2.2.2.2.2.2.2.2.2.length], .agg (Enc.cells r.2.2.2.2.2.2.2.1)] ∧ h = [(0, .row 3 (fl r.2.2.2.2.2.2.2.2.1)), (1, .row 39 (fl r.2.2.2.2.2.2.2.2.2.1)), (2, .row 39 (fl r.2.2.2.2.2.2.2.2.2.2.1)), (3, .row 64 (fl r.2.2.2.2.2.2.2.2.2.2.2))] ∧ n = 4) := by
  unfold pipe_Shut at h
  refine spec_of (draw_ok _) Try.func26 rfl (by decide) rfl (by kernel_rfl) ?_
  refine seq_np ?_
  refine reg_f ?_
  refine rs 4 [] [] (by kernel_rfl) allP_nil ?_
  refine rf [(1, .ptr 0 0), (2, .ptr 1 0), (3, .ptr 2 0), (4, .ptr 3 0)] [(0, .row 25 (Enc.cells p)), (1, .row 25 [iS 0, .v (.slice none 0 0), bS false, .v (.slice none 0 0), .v (.slice none 0 0)]), (2, .row 34 [bS false, bS false, bS false, iS 0, iS 0, .v (.slice none 0 0)]), (3, .row 30 [iS 0, iS 0])] 4 (by kernel_rfl) ?_
  refine wk_id ?_
  refine seq_np ?_
  refine seq_np ?_
  refine reg_f ?_
  refine rs 1 [] [] (by kernel_rfl) allP_nil ?_
  obtain ⟨r2186, hr2186, h⟩ := bind_sx h
  refine run_call 13 [.agg (Enc.cells p)] (some 9) (by kernel_rfl) ?_
  refine call_0 (pipe_Check_spec p r2186 hr2186) (by simp only [push_cast, seval]) (by simp only [push_cast, seval]) ?_
  refine back_f ?_
  refine rs 2 [] [] (by kernel_rfl) allP_nil ?_
  refine rf [(1, .ptr 0 0), (2, .ptr 1 0), (3, .ptr 2 0), (4, .ptr 3 0), (5, .ptr 4 0)] [(0, .row 25 (Enc.cells p)), (1, .row 25 [iS 0, .v (.slice none 0 0), bS false, .v (.slice none 0 0), .v (.slice none 0 0)]), (2, .row 34 [bS false, bS false, bS false, iS 0, iS 0, .v (.slice none 0 0)]), (3, .row 30 [iS 0, iS 0]), (4, .row 30 (Enc.cells r2186))] 5 (by kernel_rfl) ?_
  refine wk_id ?_
  refine seq_np ?_
  refine reg_f ?_
  refine rs 3 [] [] (by kernel_rfl) allP_nil ?_
  refine rf [(1, .ptr 0 0), (2, .ptr 1 0), (3, .ptr 2 0), (4, .ptr 3 0), (5, .ptr 4 0), (12, bS (r2186.Code != 0))] [(0, .row 25 (Enc.cells p)), (1, .row 25 [iS 0, .v (.slice none 0 0), bS false, .v (.slice none 0 0), .v (.slice none 0 0)]), (2, .row 34 [bS false, bS false, bS false, iS 0, iS 0, .v (.slice none 0 0)]), (3, .row 30 [iS 0, iS 0]), (4, .row 30 (Enc.cells r2186))] 5 (by kernel_rfl) ?_
  refine wk_id ?_
  refine cond_sx h (by kernel_rfl) (fun g2193 h => ?_) (fun g2193 h => ?_)
  · refine seq_np ?_
    refine reg_t ?_
    refine rs 6 [] [] (by kernel_rfl) allP_nil ?_
    refine rt [(2, .ptr 1 0), (3, .ptr 2 0), (4, .ptr 3 0)] [(0, .row 25 (Enc.cells p)), (1, .row 25 [iS 0, .v (.slice none 0 0), bS false, .v (.slice none 0 0), .v (.slice none 0 0)]), (2, .row 34 [bS false, bS false, bS false, iS 0, iS 0, .v (.slice none 0 0)]), (3, .row 30 (Enc.cells r2186)), (4, .row 30 (Enc.cells r2186))] 11 follows (by kernel_rfl) ?_
    refine wk_id ?_
    obtain rfl := Option.some.inj h
    refine ret_at (.tup [.agg [iS 0, .v (.slice none 0 0), bS false, .v (.slice none 0 0), .v (.slice none 0 0)], .agg [bS false, bS false, bS false, iS 0, iS 0, .v (.slice none 0 0)], .agg (Enc.cells r2186)]) (by kernel_rfl) ?_
    exact ret_e [] [] (by simp only [push_cast, seval]) (by simp only [push_cast, seval]) rfl rfl rfl
  · refine wk_id ?_
    refine seq_np ?_
    refine reg_f ?_
    refine rs 1 [] [] (by kernel_rfl) allP_nil ?_
    obtain ⟨r2188, hr2188, h⟩ := bind_sx h
    refine call_x (pipe_Copy_spec p r2188 hr2188) (args := [.agg (Enc.cells p)]) (dst := (some 17)) (by kernel_rfl) [(0, .row 25 (Enc.cells p)), (1, .row 25 [iS 0, .v (.slice none 0 0), bS false, .v (.slice none 0 0), .v (.slice none 0 0)]), (2, .row 34 [bS false, bS false, bS false, iS 0, iS 0, .v (.slice none 0 0)]), (3, .row 30 [iS 0, iS 0]), (4, .row 30 (Enc.cells r2186))] 5 (by kernel_rfl) [] [] (.agg [iS r2188.1, .own 5 0 r2188.2.2.1.length, bS r2188.2.1, .own 6 0 r2188.2.2.2.1.length, .own 7 0 r2188.2.2.2.2.length]) [(5, .row 3 (fl r2188.2.2.1)), (6, .row 39 (fl r2188.2.2.2.1)), (7, .row 39 (fl r2188.2.2.2.2))] (by simp only [push_cast, seval]) (by simp only [push_cast, seval]) (by kernel_rfl) (.inl rfl) (by simp only [push_cast, seval]) (by simp only [push_cast, seval]) ?_
    refine rs 2 [] [] (by kernel_rfl) allP_nil ?_
    refine rf [(2, .ptr 1 0), (3, .ptr 2 0), (4, .ptr 3 0), (6, .ptr 8 0)] [(0, .row 25 (Enc.cells p)), (1, .row 25 [iS 0, .v (.slice none 0 0), bS false, .v (.slice none 0 0), .v (.slice none 0 0)]), (2, .row 34 [bS false, bS false, bS false, iS 0, iS 0, .v (.slice none 0 0)]), (3, .row 30 [iS 0, iS 0]), (4, .row 30 (Enc.cells r2186)), (5, .row 3 (fl r2188.2.2.1)), (6, .row 39 (fl r2188.2.2.2.1)), (7, .row 39 (fl r2188.2.2.2.2)), (8, .row 25 [iS r2188.1, .own 5 0 r2188.2.2.1.length, bS r2188.2.1, .own 6 0 r2188.2.2.2.1.length, .own 7 0 r2188.2.2.2.2.length])] 9 (by kernel_rfl) ?_
    refine wk_id ?_
    refine seq_np ?_
    refine reg_f ?_
    obtain ⟨r2191, hr2191, h⟩ := bind_sx h
    refine call_x (pipe_Down_spec r2188.1 r2188.2.1 r2188.2.2.1 r2188.2.2.2.1 r2188.2.2.2.2 r2191 hr2191) (args := [.ptr 8 0]) (dst := (some 18)) (by kernel_rfl) [(0, .row 25 (Enc.cells p)), (1, .row 25 [iS 0, .v (.slice none 0 0), bS false, .v (.slice none 0 0), .v (.slice none 0 0)]), (2, .row 34 [bS false, bS false, bS false, iS 0, iS 0, .v (.slice none 0 0)]), (3, .row 30 [iS 0, iS 0]), (4, .row 30 (Enc.cells r2186)), (5, .row 3 (fl r2188.2.2.1)), (6, .row 39 (fl r2188.2.2.2.1)), (7, .row 39 (fl r2188.2.2.2.2)), (8, .row 25 [iS r2188.1, .own 5 0 r2188.2.2.1.length, bS r2188.2.1, .own 6 0 r2188.2.2.2.1.length, .own 7 0 r2188.2.2.2.2.length])] 9 (by kernel_rfl) [(0, 8), (1, 5), (2, 6), (3, 7)] [] (.agg [bS r2191.1, bS r2191.2.1, bS r2191.2.2.1, iS r2191.2.2.2.1, iS r2191.2.2.2.2.1, .own 13 0 r2191.2.2.2.2.2.1.length]) [(8, .row 25 [iS r2191.2.2.2.2.2.2.1, .own 5 0 r2191.2.2.2.2.2.2.2.2.2.2.length, bS r2191.2.2.2.2.2.2.2.1, .own 14 0 r2191.2.2.2.2.2.2.2.2.1.length, .own 15 0 r2191.2.2.2.2.2.2.2.2.2.1.length]), (5, .row 3 (fl r2191.2.2.2.2.2.2.2.2.2.2)), (6, .dead), (7, .dead), (13, .row 64 (fl r2191.2.2.2.2.2.1)), (14, .row 39 (fl r2191.2.2.2.2.2.2.2.2.1)), (15, .row 39 (fl r2191.2.2.2.2.2.2.2.2.2.1)), (8, .dead), (5, .dead), (6, .dead), (7, .dead)] (by simp only [push_cast, seval]) (by simp only [push_cast, seval]) (by kernel_rfl) (.inl rfl) (by simp only [push_cast, seval]) (by simp only [push_cast, seval]) ?_
    refine rs 2 [] [] (by kernel_rfl) allP_nil ?_
    refine rf [(2, .ptr 1 0), (3, .ptr 2 0), (4, .ptr 3 0), (6, .ptr 8 0), (7, .ptr 16 0)] [(0, .row 25 (Enc.cells p)), (1, .row 25 [iS 0, .v (.slice none 0 0), bS false, .v (.slice none 0 0), .v (.slice none 0 0)]), (2, .row 34 [bS false, bS false, bS false, iS 0, iS 0, .v (.slice none 0 0)]), (3, .row 30 [iS 0, iS 0]), (4, .row 30 (Enc.cells r2186)), (5, .row 3 (fl r2191.2.2.2.2.2.2.2.2.2.2)), (6, .dead), (7, .dead), (8, .row 25 [iS r2191.2.2.2.2.2.2.1, .own 5 0 r2191.2.2.2.2.2.2.2.2.2.2.length, bS r2191.2.2.2.2.2.2.2.1, .own 14 0 r2191.2.2.2.2.2.2.2.2.1.length, .own 15 0 r2191.2.2.2.2.2.2.2.2.2.1.length]), (13, .row 64 (fl r2191.2.2.2.2.2.1)), (14, .row 39 (fl r2191.2.2.2.2.2.2.2.2.1)), (15, .row 39 (fl r2191.2.2.2.2.2.2.2.2.2.1)), (16, .row 34 [bS r2191.1, bS r2191.2.1, bS r2191.2.2.1, iS r2191.2.2.2.1, iS r2191.2.2.2.2.1, .own 13 0 r2191.2.2.2.2.2.1.length])] 17 (by kernel_rfl) ?_
    refine wk_id ?_
    refine seq_np ?_
    refine reg_t ?_
    refine rs 6 [] [] (by kernel_rfl) allP_nil ?_
    refine rt [(2, .ptr 1 0), (3, .ptr 2 0), (4, .ptr 3 0)] [(0, .row 25 (Enc.cells p)), (1, .row 25 [iS r2191.2.2.2.2.2.2.1, .own 5 0 r2191.2.2.2.2.2.2.2.2.2.2.length, bS r2191.2.2.2.2.2.2.2.1, .own 14 0 r2191.2.2.2.2.2.2.2.2.1.length, .own 15 0 r2191.2.2.2.2.2.2.2.2.2.1.length]), (2, .row 34 [bS r2191.1, bS r2191.2.1, bS r2191.2.2.1, iS r2191.2.2.2.1, iS r2191.2.2.2.2.1, .own 13 0 r2191.2.2.2.2.2.1.length]), (3, .row 30 [iS 0, iS 0]), (4, .row 30 (Enc.cells r2186)), (5, .row 3 (fl r2191.2.2.2.2.2.2.2.2.2.2)), (6, .dead), (7, .dead), (8, .row 25 [iS r2191.2.2.2.2.2.2.1, .own 5 0 r2191.2.2.2.2.2.2.2.2.2.2.length, bS r2191.2.2.2.2.2.2.2.1, .own 14 0 r2191.2.2.2.2.2.2.2.2.1.length, .own 15 0 r2191.2.2.2.2.2.2.2.2.2.1.length]), (13, .row 64 (fl r2191.2.2.2.2.2.1)), (14, .row 39 (fl r2191.2.2.2.2.2.2.2.2.1)), (15, .row 39 (fl r2191.2.2.2.2.2.2.2.2.2.1)), (16, .row 34 [bS r2191.1, bS r2191.2.1, bS r2191.2.2.1, iS r2191.2.2.2.1, iS r2191.2.2.2.2.1, .own 13 0 r2191.2.2.2.2.2.1.length])] 23 follows (by kernel_rfl) ?_
    refine wk_id ?_
    obtain rfl := Option.some.inj h
    refine ret_at (.tup [.agg [iS r2191.2.2.2.2.2.2.1, .own 5 0 r2191.2.2.2.2.2.2.2.2.2.2.length, bS r2191.2.2.2.2.2.2.2.1, .own 14 0 r2191.2.2.2.2.2.2.2.2.1.length, .own 15 0 r2191.2.2.2.2.2.2.2.2.2.1.length], .agg [bS r2191.1, bS r2191.2.1, bS r2191.2.2.1, iS r2191.2.2.2.1, iS r2191.2.2.2.2.1, .own 13 0 r2191.2.2.2.2.2.1.length], .agg [iS 0, iS 0]]) (by kernel_rfl) ?_
    exact ret_e [(0, 5), (1, 14), (2, 15), (3, 13)] [] (by simp only [push_cast, seval]) (by simp only [push_cast, seval]) rfl rfl rfl

set_option maxRecDepth 100000 in
set_option maxHeartbeats 200000000 in
theorem pipe_Without_1_spec (x : GPost) (c0 : Int) (r : Bool × Int) (h : pipe_Without_1 x c0 = some r) : SpecW Try.prog 49 [.agg (Enc.cells x), .ptr 0 0] [(0, .row 3 [iS c0])] 1 (fun x h n => x = bS r.1 ∧ h = [(0, .row 3 [iS r.2])] ∧ n = 1) := by
  unfold pipe_Without_1 at h
  refine spec_of (draw_ok _) Try.func49 rfl (by decide) rfl (by kernel_rfl) ?_
  refine seq_np ?_
  refine reg_f ?_
  refine rs 2 [] [] (by kernel_rfl) allP_nil ?_
  refine rf [(1, .ptr 0 0), (2, .ptr 1 0)] [(0, .row 3 [iS c0]), (1, .row 39 (Enc.cells x))] 2 (by kernel_rfl) ?_
  refine wk_id ?_
  refine seq_np ?_
  refine reg_f ?_
  refine rs 5 [] [] (by kernel_rfl) allP_nil ?_
  refine rf [(3, bS (x.Task == c0))] [(0, .row 3 [iS c0]), (1, .row 39 (Enc.cells x))] 2 (by kernel_rfl) ?_
  refine wk_id ?_
  obtain rfl := Option.some.inj h
  refine ret_at (bS (x.Task == c0)) (by kernel_rfl) ?_
  exact ret_e [(0, 0)] [] (by simp only [push_cast, seval]) (by simp only [push_cast, seval]) rfl rfl rfl

set_option maxRecDepth 100000 in
set_option maxHeartbeats 200000000 in
theorem slices_IndexFunc_Post_1_spec (s : (List GPost)) (c0 : Int) (r : Int × Int) (h : slices_IndexFunc_Post_1 s c0 = some r) : SpecW Try.prog 51 [.sl s.length (fl s), .clo 49 [.ptr 0 0]] [(0, .row 3 [iS c0])] 1 (fun x h n => x = iS r.1 ∧ h = [(0, .row 3 [iS r.2])] ∧ n = 1) := by
  unfold slices_IndexFunc_Post_1 at h
  refine spec_of (draw_ok _) Try.func51 rfl (by decide) rfl (by kernel_rfl) ?_
  refine seq_np ?_
  refine reg_f ?_
  refine rs 1 [] [] (by kernel_rfl) allP_nil ?_
  refine rf [(0, .sl s.length (fl s)), (1, .clo 49 [.ptr 0 0])] [(0, .row 3 [iS c0])] 1 (by kernel_rfl) ?_
  refine wk_id ?_
  refine seq_np ?_
  refine seq_np ?_
  refine reg_f ?_
  refine rs 3 [] [] (by kernel_rfl) allP_nil ?_
  refine rf [(0, .sl s.length (fl s)), (1, .clo 49 [.ptr 0 0]), (7, iS ((s.length : Nat) : Int)), (8, iS 0)] [(0, .row 3 [iS c0])] 1 (by kernel_rfl) ?_
  refine wk_id ?_
  refine block_np ?_
  refine loop_sx (S := Int × Int) (fun a => ([(0, .sl s.length (fl s)), (1, .clo 49 [.ptr 0 0]), (7, iS ((s.length : Nat) : Int)), (8, iS a.1)], [(0, .row 3 [iS a.2])], 1)) h (leSt_m [(0, 0)] [] (by simp only [push_cast, seval]) (by simp only [push_cast, seval]) rfl rfl rfl) ?_
  rintro ⟨t8q7, c0q9⟩ o2 R2 h hr2 hn2 hx2 ht2
  try dsimp only at h hn2 ⊢
  unfold slices_IndexFunc_Post_1_l1 at h
  try dsimp only at h
  refine seq_np ?_
  refine reg_f ?_
  refine rs 1 [] [] (by kernel_rfl) allP_nil ?_
  refine rf [(0, .sl s.length (fl s)), (1, .clo 49 [.ptr 0 0]), (7, iS ((s.length : Nat) : Int)), (8, iS t8q7), (9, bS (decide (t8q7 < ((s.length : Nat) : Int))))] [(0, .row 3 [iS c0q9])] 1 (by kernel_rfl) ?_
  refine wk_id ?_
  refine seq_np ?_
  refine cond_sx h (by kernel_rfl) (fun g4295 h => ?_) (fun g4295 h => ?_)
  · refine wk_id ?_
    refine seq_np ?_
    refine block_np ?_
    refine seq_np ?_
    refine reg_f ?_
    refine rs 2 [] [] (by kernel_rfl) allP_nil ?_
    refine rf [(0, .sl s.length (fl s)), (1, .clo 49 [.ptr 0 0]), (5, iS t8q7), (7, iS ((s.length : Nat) : Int)), (8, iS t8q7)] [(0, .row 3 [iS c0q9])] 1 (by kernel_rfl) ?_
    refine wk_id ?_
    refine chk_sx h (fun g4292 h => ?_)
    refine seq_np ?_
    refine reg_f ?_
    have k4291 : 0 ≤ t8q7 ∧ t8q7 < ((s.length : Nat) : Int) := by first | simpa only [Bool.and_eq_true, decide_eq_true_eq, bne_iff_ne, ne_eq] using g4292 | (simp at g4292 ⊢; omega)
    refine rs 5 [none, none, none, some ⟨.iptr (fl s) ((t8q7).toNat * 3), [], 1, []⟩, some ⟨.agg (Enc.cells (ix s t8q7)), [], 1, []⟩] _ (by kernel_rfl) (allP_cons (ob_ldw s t8q7 3 ((t8q7).toNat * 3) k4291 rfl (by first | rfl | omega) [iS (ix s t8q7).Task, iS (ix s t8q7).Case, iS (ix s t8q7).Value] rfl 1 []) (allP_cons (ob_ix_l s 3 1 t8q7 k4291) allP_nil)) ?_
    obtain ⟨r4293, hr4293, h⟩ := bind_sx h
    refine call_x (pipe_Without_1_spec (ix s t8q7) c0q9 r4293 hr4293) (args := [.agg (Enc.cells (ix s t8q7)), .ptr 0 0]) (dst := (some 16)) (by kernel_rfl) [(0, .row 3 [iS c0q9])] 1 (by kernel_rfl) [(0, 0)] [] (bS r4293.1) [(0, .row 3 [iS r4293.2]), (0, .dead)] (by simp only [push_cast, seval]) (by simp only [push_cast, seval]) (by kernel_rfl) (.inl rfl) (by simp only [push_cast, seval]) (by simp only [push_cast, seval]) ?_
    refine rf [(0, .sl s.length (fl s)), (1, .clo 49 [.ptr 0 0]), (5, iS t8q7), (7, iS ((s.length : Nat) : Int)), (8, iS t8q7), (16, bS r4293.1)] [(0, .row 3 [iS r4293.2])] 2 (by kernel_rfl) ?_
    refine wk_id ?_
    refine cond_sx h (by kernel_rfl) (fun g4294 h => ?_) (fun g4294 h => ?_)
    · refine seq_np ?_
      refine reg_f ?_
      refine rs 2 [] [] (by kernel_rfl) allP_nil ?_
      refine rf [(4, iS t8q7)] [(0, .row 3 [iS r4293.2])] 2 (by kernel_rfl) ?_
      refine wk_id ?_
      refine rt_cast ht2 ?_
      obtain ⟨r0, h, e0⟩ := map_sx h
      have e1 := hr2 r0 e0.symm
      subst r0
      obtain rfl := Option.some.inj h
      refine ret_at (iS t8q7) (by kernel_rfl) ?_
      exact ret_e [(0, 0)] [] (by simp only [push_cast, seval]) (by simp only [push_cast, seval]) rfl rfl rfl
    · refine wk_id ?_
      refine wk_id ?_
      refine reg_f ?_
      refine rs 2 [] [] (by kernel_rfl) allP_nil ?_
      refine rf [(0, .sl s.length (fl s)), (1, .clo 49 [.ptr 0 0]), (7, iS ((s.length : Nat) : Int)), (8, iS (IntKind.i64.wrap (t8q7 + 1)))] [(0, .row 3 [iS r4293.2])] 2 (by kernel_rfl) ?_
      exact hn2 ((IntKind.i64.wrap (t8q7 + 1)), r4293.2) _ _ _ (Option.some.inj h).symm (leSt_m [(0, 0)] [] (by simp only [push_cast, seval]) (by simp only [push_cast, seval]) rfl rfl rfl)
  · change R2 (.exit 0) _ _ _
    refine ex_cast hx2 (id := 0) ?_
    obtain ⟨r0, h, e0⟩ := map_sx h
    have e1 := hr2 r0 e0.symm
    subst r0
    refine wk_id ?_
    refine wk_id ?_
    refine seq_np ?_
    refine reg_f ?_
    refine rs 1 [] [] (by kernel_rfl) allP_nil ?_
    refine rf [(4, iS (-1))] [(0, .row 3 [iS c0q9])] 1 (by kernel_rfl) ?_
    refine wk_id ?_
    obtain rfl := Option.some.inj h
    refine ret_at (iS (-1)) (by kernel_rfl) ?_
    exact ret_e [(0, 0)] [] (by simp only [push_cast, seval]) (by simp only [push_cast, seval]) rfl rfl rfl

set_option maxRecDepth 100000 in
set_option maxHeartbeats 200000000 in
theorem slices_DeleteFunc_Post_1_spec (c0 : (List GPost)) (c1 : Int) (r : (List GPost) × Int) (h : slices_DeleteFunc_Post_1 c0 c1 = some r) : SpecW Try.prog 50 [.own 0 0 c0.length, .clo 49 [.ptr 1 0]] [(0, .row 39 (fl c0)), (1, .row 3 [iS c1])] 2 (fun x h n => x = .own 2 0 r.1.length ∧ h = [(0, .dead), (1, .row 3 [iS r.2]), (2, .row 39 (fl r.1))] ∧ n = 3) := by
  unfold slices_DeleteFunc_Post_1 at h
  refine spec_of (draw_ok _) Try.func50 rfl (by decide) rfl (by kernel_rfl) ?_
  refine seq_np ?_
  refine reg_f ?_
  refine rs 1 [] [] (by kernel_rfl) allP_nil ?_
  refine rf [(0, .own 0 0 c0.length), (1, .clo 49 [.ptr 1 0])] [(0, .row 39 (fl c0)), (1, .row 3 [iS c1])] 2 (by kernel_rfl) ?_
  refine wk_id ?_
  refine seq_np ?_
  refine reg_f ?_
  refine rs 2 [] [] (by kernel_rfl) allP_nil ?_
  obtain ⟨r4342, hr4342, h⟩ := bind_sx h
  refine call_x (slices_IndexFunc_Post_1_spec c0 c1 r4342 hr4342) (args := [.own 0 0 c0.length, .clo 49 [.ptr 1 0]]) (dst := (some 10)) (by kernel_rfl) [(0, .row 39 (fl c0)), (1, .row 3 [iS c1])] 2 (by kernel_rfl) [(0, 1)] [0] (iS r4342.1) [(1, .row 3 [iS r4342.2]), (1, .dead)] (by simp only [push_cast, seval]) (by simp only [push_cast, seval]) (by kernel_rfl) (.inr ⟨by simp only [push_cast, seval], by simp only [push_cast, seval]⟩) (by simp only [push_cast, seval]) (by simp only [push_cast, seval]) ?_
  refine rs 1 [] [] (by kernel_rfl) allP_nil ?_
  refine rf [(0, .own 0 0 c0.length), (1, .clo 49 [.ptr 1 0]), (5, iS r4342.1)] [(0, .row 39 (fl c0)), (1, .row 3 [iS r4342.2])] 3 (by kernel_rfl) ?_
  refine wk_id ?_
  refine seq_np ?_
  refine seq_np ?_
  refine reg_f ?_
  refine rs 2 [] [] (by kernel_rfl) allP_nil ?_
  refine rf [(0, .own 0 0 c0.length), (1, .clo 49 [.ptr 1 0]), (5, iS r4342.1), (12, bS (r4342.1 == (-1)))] [(0, .row 39 (fl c0)), (1, .row 3 [iS r4342.2])] 3 (by kernel_rfl) ?_
  refine wk_id ?_
  refine cond_sx h (by kernel_rfl) (fun g4462 h => ?_) (fun g4462 h => ?_)
  · refine seq_np ?_
    refine reg_f ?_
    refine rs 2 [] [] (by kernel_rfl) allP_nil ?_
    refine rf [(4, .own 0 0 c0.length)] [(0, .row 39 (fl c0)), (1, .row 3 [iS r4342.2])] 3 (by kernel_rfl) ?_
    refine wk_id ?_
    obtain rfl := Option.some.inj h
    refine ret_at (.own 0 0 c0.length) (by kernel_rfl) ?_
    exact ret_e [(1, 1), (2, 0)] [] (by simp only [push_cast, seval]) (by simp only [push_cast, seval]) rfl rfl rfl
  · refine wk_id ?_
    refine seq_np ?_
    refine seq_np ?_
    refine reg_f ?_
    refine rs 3 [] [] (by kernel_rfl) allP_nil ?_
    refine rf [(0, .own 0 0 c0.length), (1, .clo 49 [.ptr 1 0]), (5, iS r4342.1), (6, iS (IntKind.i64.wrap (r4342.1 + 1)))] [(0, .row 39 (fl c0)), (1, .row 3 [iS r4342.2])] 3 (by kernel_rfl) ?_
    refine wk_id ?_
    refine block_np ?_
    refine loop_sx (S := Int × Int × (List GPost) × Int) (fun a => ([(0, .own 0 0 a.2.2.1.length), (1, .clo 49 [.ptr 1 0]), (5, iS a.1), (6, iS a.2.1)], [(0, .row 39 (fl a.2.2.1)), (1, .row 3 [iS a.2.2.2])], 2)) h (leSt_m [(0, 0), (1, 1)] [] (by simp only [push_cast, seval]) (by simp only [push_cast, seval]) rfl rfl rfl) ?_
    rintro ⟨i22, j11, c0q19, c1q24⟩ o2 R2 h hr2 hn2 hx2 ht2
    try dsimp only at h hn2 ⊢
    unfold slices_DeleteFunc_Post_1_l1 at h
    try dsimp only at h
    refine seq_np ?_
    refine seq_np ?_
    refine reg_f ?_
    refine rs 4 [] [] (by kernel_rfl) allP_nil ?_
    refine rf [(0, .own 0 0 c0q19.length), (1, .clo 49 [.ptr 1 0]), (5, iS i22), (6, iS j11), (19, bS (decide (j11 < ((c0q19.length : Nat) : Int))))] [(0, .row 39 (fl c0q19)), (1, .row 3 [iS c1q24])] 2 (by kernel_rfl) ?_
    refine wk_id ?_
    refine cond_sx h (by kernel_rfl) (fun g4461 h => ?_) (fun g4461 h => ?_)
    · refine wk_id ?_
      refine seq_np ?_
      refine block_cut (A := Int × (List GPost) × Int) (fun a => ([(0, .own 0 0 a.2.1.length), (1, .clo 49 [.ptr 1 0]), (5, iS a.1), (6, iS j11)], [(0, .row 39 (fl a.2.1)), (1, .row 3 [iS a.2.2])], 2)) (fun a => (slices_DeleteFunc_Post_1_j1 j11 a.1 a.2.1 a.2.2) = some o2) (fun K4435 hK4435 => ?_) ?_
      · refine chk_sx h (fun g4439 h => ?_)
        refine seq_np ?_
        refine reg_f ?_
        have k4438 : 0 ≤ j11 ∧ j11 < ((c0q19.length : Nat) : Int) := by first | simpa only [Bool.and_eq_true, decide_eq_true_eq, bne_iff_ne, ne_eq] using g4439 | (simp at g4439 ⊢; omega)
        refine rs 6 [none, none, some ⟨.ptr 0 (0 + (j11).toNat * 3), [], 2, [0]⟩, some ⟨.agg (Enc.cells (ix c0q19 j11)), [], 2, [0]⟩] _ (by kernel_rfl) (allP_cons (ob_ldw c0q19 j11 3 (0 + (j11).toNat * 3) k4438 rfl (by first | rfl | omega) [iS (ix c0q19 j11).Task, iS (ix c0q19 j11).Case, iS (ix c0q19 j11).Value] rfl 2 [0]) (allP_cons (ob_ix_o 0 c0q19.length 0 3 2 j11 k4438) allP_nil)) ?_
        refine rf [(0, .own 0 0 c0q19.length), (1, .clo 49 [.ptr 1 0]), (5, iS i22), (6, iS j11), (7, .ptr 2 0)] [(0, .row 39 (fl c0q19)), (1, .row 3 [iS c1q24]), (2, .row 39 (Enc.cells (ix c0q19 j11)))] 3 (by kernel_rfl) ?_
        refine wk_id ?_
        refine seq_np ?_
        refine reg_f ?_
        refine rs 2 [] [] (by kernel_rfl) allP_nil ?_
        obtain ⟨r4441, hr4441, h⟩ := bind_sx h
        refine call_x (pipe_Without_1_spec (ix c0q19 j11) c1q24 r4441 hr4441) (args := [.agg (Enc.cells (ix c0q19 j11)), .ptr 1 0]) (dst := (some 28)) (by kernel_rfl) [(0, .row 39 (fl c0q19)), (1, .row 3 [iS c1q24]), (2, .row 39 (Enc.cells (ix c0q19 j11)))] 3 (by kernel_rfl) [(0, 1)] [] (bS r4441.1) [(1, .row 3 [iS r4441.2]), (1, .dead)] (by simp only [push_cast, seval]) (by simp only [push_cast, seval]) (by kernel_rfl) (.inl rfl) (by simp only [push_cast, seval]) (by simp only [push_cast, seval]) ?_
        refine rs 1 [] [] (by kernel_rfl) allP_nil ?_
        refine rf [(0, .own 0 0 c0q19.length), (1, .clo 49 [.ptr 1 0]), (5, iS i22), (6, iS j11), (7, .ptr 2 0), (29, bS (!r4441.1))] [(0, .row 39 (fl c0q19)), (1, .row 3 [iS r4441.2]), (2, .row 39 (Enc.cells (ix c0q19 j11)))] 4 (by kernel_rfl) ?_
        refine wk_id ?_
        refine cond_sx h (by kernel_rfl) (fun g4446 h => ?_) (fun g4446 h => ?_)
        · refine chk_sx h (fun g4445 h => ?_)
          refine seq_np ?_
          refine reg_f ?_
          have k4444 : 0 ≤ i22 ∧ i22 < ((c0q19.length : Nat) : Int) := by first | simpa only [Bool.and_eq_true, decide_eq_true_eq, bne_iff_ne, ne_eq] using g4445 | (simp at g4445 ⊢; omega)
          refine rs 5 [none, none, none, some ⟨.ptr 0 (0 + (i22).toNat * 3), [], 4, [0]⟩, some ⟨.any, [(0, .row 39 (fl (c0q19.set i22.toNat ((ix c0q19 j11) : GPost))))], 4, [0]⟩] _ (by kernel_rfl) (allP_cons (ob_st (P := Try.prog) c0q19 i22 3 0 (0 + (i22).toNat * 3) k4444 rfl [iS (ix c0q19 j11).Task, iS (ix c0q19 j11).Case, iS (ix c0q19 j11).Value] ((ix c0q19 j11) : GPost) (Nat.le_of_ble_eq_true rfl) (by first | rfl | omega) rfl 0 4 39 39 (by kernel_rfl) rfl) (allP_cons (ob_ix_o 0 c0q19.length 0 3 4 i22 k4444) allP_nil)) ?_
          refine run_eqF 0 (.own 0 0 c0q19.length) (.own 0 0 (c0q19.set i22.toNat ((ix c0q19 j11) : GPost)).length) (congrArg (fun nq => (.own 0 0 nq : SV)) (show c0q19.length = (c0q19.set i22.toNat ((ix c0q19 j11) : GPost)).length from (List.length_set ..).symm)) (by kernel_rfl) ?_
          refine rf [(0, .own 0 0 (c0q19.set i22.toNat ((ix c0q19 j11) : GPost)).length), (1, .clo 49 [.ptr 1 0]), (5, iS i22), (6, iS j11)] [(0, .row 39 (fl (c0q19.set i22.toNat ((ix c0q19 j11) : GPost)))), (1, .row 3 [iS r4441.2]), (2, .row 39 (Enc.cells (ix c0q19 j11)))] 4 (by kernel_rfl) ?_
          refine wk_id ?_
          refine reg_f ?_
          refine rs 3 [] [] (by kernel_rfl) allP_nil ?_
          refine rf [(0, .own 0 0 (c0q19.set i22.toNat ((ix c0q19 j11) : GPost)).length), (1, .clo 49 [.ptr 1 0]), (5, iS (IntKind.i64.wrap (i22 + 1))), (6, iS j11)] [(0, .row 39 (fl (c0q19.set i22.toNat ((ix c0q19 j11) : GPost)))), (1, .row 3 [iS r4441.2]), (2, .row 39 (Enc.cells (ix c0q19 j11)))] 4 (by kernel_rfl) ?_
          exact hK4435 ((IntKind.i64.wrap (i22 + 1)), (c0q19.set i22.toNat ((ix c0q19 j11) : GPost)), r4441.2) _ _ _ h (leSt_m [(0, 0), (1, 1)] [] (by simp only [push_cast, seval]) (by simp only [push_cast, seval]) rfl rfl rfl)
        · exact hK4435 (i22, c0q19, r4441.2) _ _ _ h (leSt_m [(0, 0), (1, 1)] [] (by simp only [push_cast, seval]) (by simp only [push_cast, seval]) rfl rfl rfl)
      · rintro ⟨i24, c0q21, c1q26⟩ h
        try dsimp only at h ⊢
        unfold slices_DeleteFunc_Post_1_j1 at h
        refine wk_id ?_
        refine reg_f ?_
        refine rs 3 [] [] (by kernel_rfl) allP_nil ?_
        refine rf [(0, .own 0 0 c0q21.length), (1, .clo 49 [.ptr 1 0]), (5, iS i24), (6, iS (IntKind.i64.wrap (j11 + 1)))] [(0, .row 39 (fl c0q21)), (1, .row 3 [iS c1q26])] 2 (by kernel_rfl) ?_
        exact hn2 (i24, (IntKind.i64.wrap (j11 + 1)), c0q21, c1q26) _ _ _ (Option.some.inj h).symm (leSt_m [(0, 0), (1, 1)] [] (by simp only [push_cast, seval]) (by simp only [push_cast, seval]) rfl rfl rfl)
    · change R2 (.exit 0) _ _ _
      refine ex_cast hx2 (id := 0) ?_
      obtain ⟨r0, h, e0⟩ := map_sx h
      have e1 := hr2 r0 e0.symm
      subst r0
      refine wk_id ?_
      refine wk_id ?_
      refine chk_sx h (fun g4453 h => ?_)
      refine seq_np ?_
      refine reg_f ?_
      have k4452 : 0 ≤ i22 ∧ i22 ≤ ((c0q19.length : Nat) : Int) ∧ ((c0q19.length : Nat) : Int) ≤ ((c0q19.length : Nat) : Int) := by first | simpa only [Bool.and_eq_true, decide_eq_true_eq, bne_iff_ne, ne_eq] using g4453 | (simp at g4453 ⊢; omega)
      have f4454 : (cut c0q19 i22 ((c0q19.length : Nat) : Int)).length = (((c0q19.length : Nat) : Int)).toNat - (i22).toNat ∧ 0 ≤ i22 ∧ i22 ≤ ((c0q19.length : Nat) : Int) ∧ ((c0q19.length : Nat) : Int) ≤ ((c0q19.length : Nat) : Int) := ⟨cut_len _ _ _ k4452, k4452⟩
      refine rs 3 [none, none, some ⟨.own 0 ((i22).toNat * 3) (cut c0q19 i22 ((c0q19.length : Nat) : Int)).length, [], 2, [0]⟩] _ (by kernel_rfl) (allP_cons (ob_cutP (P := Try.prog) c0q19 i22 ((c0q19.length : Nat) : Int) 3 2 0 39 (by kernel_rfl) k4452) allP_nil) ?_
      have k4455 : (wipe c0q19 i22 ((c0q19.length : Nat) : Int)).length = c0q19.length := wipe_len (by omega)
      refine run_clr c0q19 none 0 ((i22).toNat * 3) (cut c0q19 i22 ((c0q19.length : Nat) : Int)).length 3 39 [.v (.int .i64 0), .v (.int .i64 0), .v (.int .i64 0)] i22 ((c0q19.length : Nat) : Int) (by kernel_rfl) rfl rfl (by decide) (by first | rfl | simp) f4454 ?_
      have f4456 : (cut c0q19 i22 ((c0q19.length : Nat) : Int)).length = (((c0q19.length : Nat) : Int)).toNat - (i22).toNat ∧ 0 ≤ i22 ∧ i22 ≤ ((c0q19.length : Nat) : Int) ∧ ((c0q19.length : Nat) : Int) ≤ (((wipe c0q19 i22 ((c0q19.length : Nat) : Int)).length : Nat) : Int) := ⟨f4454.1, f4454.2.1, f4454.2.2.1, by rw [k4455]; exact f4454.2.2.2⟩
      refine run_eqF 0 (.own 0 0 c0q19.length) (.own 0 0 (wipe c0q19 i22 ((c0q19.length : Nat) : Int)).length) (congrArg (fun nq => (.own 0 0 nq : SV)) (show c0q19.length = (wipe c0q19 i22 ((c0q19.length : Nat) : Int)).length from k4455.symm)) (by kernel_rfl) ?_
      refine rf [(0, .own 0 0 (wipe c0q19 i22 ((c0q19.length : Nat) : Int)).length), (5, iS i22)] [(0, .row 39 (fl (wipe c0q19 i22 ((c0q19.length : Nat) : Int)))), (1, .row 3 [iS c1q24])] 2 (by kernel_rfl) ?_
      refine wk_id ?_
      refine chk_sx h (fun g4460 h => ?_)
      refine seq_np ?_
      refine reg_f ?_
      have k4459 : 0 ≤ (0 : Int) ∧ (0 : Int) ≤ i22 ∧ i22 ≤ (((wipe c0q19 i22 ((c0q19.length : Nat) : Int)).length : Nat) : Int) := by first | simpa only [Bool.and_eq_true, decide_eq_true_eq, bne_iff_ne, ne_eq] using g4460 | (simp at g4460 ⊢; omega)
      refine rs 2 [] [] (by kernel_rfl) allP_nil ?_
      refine run_cutO (wipe c0q19 i22 ((c0q19.length : Nat) : Int)) (some 41) 0 3 39 (0 : Int) i22 (by kernel_rfl) rfl k4459 ?_
      refine rs 1 [] [] (by kernel_rfl) allP_nil ?_
      refine rf [(4, .own 2 0 (cut (wipe c0q19 i22 ((c0q19.length : Nat) : Int)) (0 : Int) i22).length)] [(0, .dead), (1, .row 3 [iS c1q24]), (2, .row 39 (fl (cut (wipe c0q19 i22 ((c0q19.length : Nat) : Int)) (0 : Int) i22)))] 3 (by kernel_rfl) ?_
      refine wk_id ?_
      obtain rfl := Option.some.inj h
      refine ret_at (.own 2 0 (cut (wipe c0q19 i22 ((c0q19.length : Nat) : Int)) (0 : Int) i22).length) (by kernel_rfl) ?_
      exact ret_e [(1, 1), (2, 2)] [] (by simp only [push_cast, seval]) (by simp only [push_cast, seval]) rfl rfl rfl

set_option maxRecDepth 100000 in
set_option maxHeartbeats 200000000 in
theorem pipe_Without_spec (task : Int) (c0_Cap : Int) (c0_Closed : Bool) (c1 : (List Int)) (c2 : (List GPost)) (c3 : (List GPost)) (r : Int × Bool × (List GPost) × (List GPost) × (List Int)) (h : pipe_Without task c0_Cap c0_Closed c1 c2 c3 = some r) : SpecW Try.prog 44 [.ptr 0 0, iS task] [(0, .row 25 [iS c0_Cap, .own 1 0 c1.length, bS c0_Closed, .own 2 0 c2.length, .own 3 0 c3.length]), (1, .row 3 (fl c1)), (2, .row 39 (fl c2)), (3, .row 39 (fl c3))] 4 (fun x h n => x = .tup [] ∧ h = [(0, .row 25 [iS r.1, .own 1 0 r.2.2.2.2.length, bS r.2.1, .own 4 0 r.2.2.1.length, .own 5 0 r.2.2.2.1.length]), (1, .row 3 (fl r.2.2.2.2)), (2, .dead), (3, .dead), (4, .row 39 (fl r.2.2.1)), (5, .row 39 (fl r.2.2.2.1))] ∧ n = 6) := by
  unfold pipe_Without at h
  refine spec_of (draw_ok _) Try.func44 rfl (by decide) rfl (by kernel_rfl) ?_
  refine seq_np ?_
  refine reg_f ?_
  refine rs 1 [] [] (by kernel_rfl) allP_nil ?_
  refine rf [(0, .ptr 0 0), (3, .ptr 4 0)] [(0, .row 25 [iS c0_Cap, .own 1 0 c1.length, bS c0_Closed, .own 2 0 c2.length, .own 3 0 c3.length]), (1, .row 3 (fl c1)), (2, .row 39 (fl c2)), (3, .row 39 (fl c3)), (4, .row 3 [iS task])] 5 (by kernel_rfl) ?_
  refine wk_id ?_
  refine seq_np ?_
  refine reg_f ?_
  refine rs 2 [] [] (by kernel_rfl) allP_nil ?_
  refine rf [(0, .ptr 0 0), (4, .clo 49 [.ptr 4 0])] [(0, .row 25 [iS c0_Cap, .own 1 0 c1.length, bS c0_Closed, .own 2 0 c2.length, .own 3 0 c3.length]), (1, .row 3 (fl c1)), (2, .row 39 (fl c2)), (3, .row 39 (fl c3)), (4, .row 3 [iS task])] 5 (by kernel_rfl) ?_
  refine wk_id ?_
  refine reg_t ?_
  refine rs 7 [] [] (by kernel_rfl) allP_nil ?_
  obtain ⟨r4467, hr4467, h⟩ := bind_sx h
  refine call_x (slices_DeleteFunc_Post_1_spec c2 task r4467 hr4467) (args := [.own 2 0 c2.length, .clo 49 [.ptr 4 0]]) (dst := (some 13)) (by kernel_rfl) [(0, .row 25 [iS c0_Cap, .own 1 0 c1.length, bS c0_Closed, .own 2 0 c2.length, .own 3 0 c3.length]), (1, .row 3 (fl c1)), (2, .row 39 (fl c2)), (3, .row 39 (fl c3)), (4, .row 3 [iS task])] 12 (by kernel_rfl) [(0, 2), (1, 4)] [] (.own 14 0 r4467.1.length) [(2, .dead), (4, .row 3 [iS r4467.2]), (14, .row 39 (fl r4467.1)), (2, .dead), (4, .dead)] (by simp only [push_cast, seval]) (by simp only [push_cast, seval]) (by kernel_rfl) (.inl rfl) (by simp only [push_cast, seval]) (by simp only [push_cast, seval]) ?_
  refine rs 5 [] [] (by kernel_rfl) allP_nil ?_
  obtain ⟨r4468, hr4468, h⟩ := bind_sx h
  refine call_x (slices_DeleteFunc_Post_1_spec c3 r4467.2 r4468 hr4468) (args := [.own 3 0 c3.length, .clo 49 [.ptr 4 0]]) (dst := (some 19)) (by kernel_rfl) [(0, .row 25 [iS c0_Cap, .own 1 0 c1.length, bS c0_Closed, .own 2 0 c2.length, .own 3 0 c3.length]), (1, .row 3 (fl c1)), (2, .dead), (3, .row 39 (fl c3)), (4, .row 3 [iS r4467.2]), (14, .row 39 (fl r4467.1))] 21 (by kernel_rfl) [(0, 3), (1, 4)] [] (.own 23 0 r4468.1.length) [(3, .dead), (4, .row 3 [iS r4468.2]), (23, .row 39 (fl r4468.1)), (3, .dead), (4, .dead)] (by simp only [push_cast, seval]) (by simp only [push_cast, seval]) (by kernel_rfl) (.inl rfl) (by simp only [push_cast, seval]) (by simp only [push_cast, seval]) ?_
  refine rs 6 [] [] (by kernel_rfl) allP_nil ?_
  refine rt [] [(0, .row 25 [iS c0_Cap, .own 1 0 c1.length, bS c0_Closed, .own 14 0 r4467.1.length, .own 23 0 r4468.1.length]), (1, .row 3 (fl c1)), (2, .dead), (3, .dead), (4, .row 3 [iS r4468.2]), (14, .row 39 (fl r4467.1)), (23, .row 39 (fl r4468.1))] 31 follows (by kernel_rfl) ?_
  obtain rfl := Option.some.inj h
  refine ret_an (.tup []) (by kernel_rfl) ?_
  exact ret_e [(0, 0), (1, 1), (4, 14), (5, 23)] [] (by simp only [push_cast, seval]) (by simp only [push_cast, seval]) rfl rfl rfl

set_option maxRecDepth 100000 in
set_option maxHeartbeats 200000000 in
theorem pipe_Leave_spec (p : Pipe) (task : Int) (r : Int × Bool × Fault × (List Int) × (List GPost) × (List GPost)) (h : pipe_Leave p task = some r) : SpecW Try.prog 28 [.agg (Enc.cells p), iS task] [] 0 (fun x h n => x = .tup [.agg [iS r.1, .own 0 0 r.2.2.2.1.length, bS r.2.1, .own 1 0 r.2.2.2.2.1.length, .own 2 0 r.2.2.2.2.2.length], .agg (Enc.cells r.2.2.1)] ∧ h = [(0, .row 3 (fl r.2.2.2.1)), (1, .row 39 (fl r.2.2.2.2.1)), (2, .row 39 (fl r.2.2.2.2.2))] ∧ n = 3) := by
  unfold pipe_Leave at h
  refine spec_of (draw_ok _) Try.func28 rfl (by decide) rfl (by kernel_rfl) ?_
  refine seq_np ?_
  refine reg_f ?_
  refine rs 3 [] [] (by kernel_rfl) allP_nil ?_
  refine rf [(1, iS task), (2, .ptr 0 0), (4, .ptr 1 0), (5, .ptr 2 0)] [(0, .row 25 (Enc.cells p)), (1, .row 25 [iS 0, .v (.slice none 0 0), bS false, .v (.slice none 0 0), .v (.slice none 0 0)]), (2, .row 30 [iS 0, iS 0])] 3 (by kernel_rfl) ?_
  refine wk_id ?_
  refine seq_np ?_
  refine seq_np ?_
  refine reg_f ?_
  refine rs 1 [] [] (by kernel_rfl) allP_nil ?_
  obtain ⟨r4474, hr4474, h⟩ := bind_sx h
  refine run_call 13 [.agg (Enc.cells p)] (some 9) (by kernel_rfl) ?_
  refine call_0 (pipe_Check_spec p r4474 hr4474) (by simp only [push_cast, seval]) (by simp only [push_cast, seval]) ?_
  refine back_f ?_
  refine rs 2 [] [] (by kernel_rfl) allP_nil ?_
  refine rf [(1, iS task), (2, .ptr 0 0), (4, .ptr 1 0), (5, .ptr 2 0), (6, .ptr 3 0)] [(0, .row 25 (Enc.cells p)), (1, .row 25 [iS 0, .v (.slice none 0 0), bS false, .v (.slice none 0 0), .v (.slice none 0 0)]), (2, .row 30 [iS 0, iS 0]), (3, .row 30 (Enc.cells r4474))] 4 (by kernel_rfl) ?_
  refine wk_id ?_
  refine seq_np ?_
  refine reg_f ?_
  refine rs 3 [] [] (by kernel_rfl) allP_nil ?_
  refine rf [(1, iS task), (2, .ptr 0 0), (4, .ptr 1 0), (5, .ptr 2 0), (6, .ptr 3 0), (12, bS (r4474.Code != 0))] [(0, .row 25 (Enc.cells p)), (1, .row 25 [iS 0, .v (.slice none 0 0), bS false, .v (.slice none 0 0), .v (.slice none 0 0)]), (2, .row 30 [iS 0, iS 0]), (3, .row 30 (Enc.cells r4474))] 4 (by kernel_rfl) ?_
  refine wk_id ?_
  refine cond_sx h (by kernel_rfl) (fun g4489 h => ?_) (fun g4489 h => ?_)
  · refine seq_np ?_
    refine reg_t ?_
    refine rs 4 [] [] (by kernel_rfl) allP_nil ?_
    refine rt [(4, .ptr 1 0), (5, .ptr 2 0)] [(0, .row 25 (Enc.cells p)), (1, .row 25 [iS 0, .v (.slice none 0 0), bS false, .v (.slice none 0 0), .v (.slice none 0 0)]), (2, .row 30 (Enc.cells r4474)), (3, .row 30 (Enc.cells r4474))] 8 follows (by kernel_rfl) ?_
    refine wk_id ?_
    obtain rfl := Option.some.inj h
    refine ret_at (.tup [.agg [iS 0, .v (.slice none 0 0), bS false, .v (.slice none 0 0), .v (.slice none 0 0)], .agg (Enc.cells r4474)]) (by kernel_rfl) ?_
    exact ret_e [] [] (by simp only [push_cast, seval]) (by simp only [push_cast, seval]) rfl rfl rfl
  · refine wk_id ?_
    refine seq_np ?_
    refine seq_np ?_
    refine reg_f ?_
    refine rs 2 [] [] (by kernel_rfl) allP_nil ?_
    obtain ⟨r4479, hr4479, h⟩ := bind_sx h
    refine run_call 43 [.agg (Enc.cells p), iS task] (some 17) (by kernel_rfl) ?_
    refine call_0 (pipe_Waits_spec p task r4479 hr4479) (by simp only [push_cast, seval]) (by simp only [push_cast, seval]) ?_
    refine back_f ?_
    refine rs 1 [] [] (by kernel_rfl) allP_nil ?_
    refine rf [(1, iS task), (2, .ptr 0 0), (4, .ptr 1 0), (5, .ptr 2 0), (18, bS (!r4479))] [(0, .row 25 (Enc.cells p)), (1, .row 25 [iS 0, .v (.slice none 0 0), bS false, .v (.slice none 0 0), .v (.slice none 0 0)]), (2, .row 30 [iS 0, iS 0]), (3, .row 30 (Enc.cells r4474))] 4 (by kernel_rfl) ?_
    refine wk_id ?_
    refine cond_sx h (by kernel_rfl) (fun g4488 h => ?_) (fun g4488 h => ?_)
    · refine seq_np ?_
      refine reg_f ?_
      refine rs 1 [] [] (by kernel_rfl) allP_nil ?_
      obtain ⟨r4481, hr4481, h⟩ := bind_sx h
      refine run_call 34 [iS 6, iS 0] (some 20) (by kernel_rfl) ?_
      refine call_0 (pipe_fault_spec 6 0 r4481 hr4481) (by simp only [push_cast, seval]) (by simp only [push_cast, seval]) ?_
      refine back_f ?_
      refine rs 2 [] [] (by kernel_rfl) allP_nil ?_
      refine rf [(4, .ptr 1 0), (5, .ptr 2 0)] [(0, .row 25 (Enc.cells p)), (1, .row 25 [iS 0, .v (.slice none 0 0), bS false, .v (.slice none 0 0), .v (.slice none 0 0)]), (2, .row 30 (Enc.cells r4481)), (3, .row 30 (Enc.cells r4474))] 4 (by kernel_rfl) ?_
      refine wk_id ?_
      obtain rfl := Option.some.inj h
      refine ret_at (.tup [.agg [iS 0, .v (.slice none 0 0), bS false, .v (.slice none 0 0), .v (.slice none 0 0)], .agg (Enc.cells r4481)]) (by kernel_rfl) ?_
      exact ret_e [] [] (by simp only [push_cast, seval]) (by simp only [push_cast, seval]) rfl rfl rfl
    · refine wk_id ?_
      refine seq_np ?_
      refine reg_f ?_
      refine rs 1 [] [] (by kernel_rfl) allP_nil ?_
      obtain ⟨r4483, hr4483, h⟩ := bind_sx h
      refine call_x (pipe_Copy_spec p r4483 hr4483) (args := [.agg (Enc.cells p)]) (dst := (some 22)) (by kernel_rfl) [(0, .row 25 (Enc.cells p)), (1, .row 25 [iS 0, .v (.slice none 0 0), bS false, .v (.slice none 0 0), .v (.slice none 0 0)]), (2, .row 30 [iS 0, iS 0]), (3, .row 30 (Enc.cells r4474))] 4 (by kernel_rfl) [] [] (.agg [iS r4483.1, .own 4 0 r4483.2.2.1.length, bS r4483.2.1, .own 5 0 r4483.2.2.2.1.length, .own 6 0 r4483.2.2.2.2.length]) [(4, .row 3 (fl r4483.2.2.1)), (5, .row 39 (fl r4483.2.2.2.1)), (6, .row 39 (fl r4483.2.2.2.2))] (by simp only [push_cast, seval]) (by simp only [push_cast, seval]) (by kernel_rfl) (.inl rfl) (by simp only [push_cast, seval]) (by simp only [push_cast, seval]) ?_
      refine rs 2 [] [] (by kernel_rfl) allP_nil ?_
      refine rf [(1, iS task), (4, .ptr 1 0), (5, .ptr 2 0), (7, .ptr 7 0)] [(0, .row 25 (Enc.cells p)), (1, .row 25 [iS 0, .v (.slice none 0 0), bS false, .v (.slice none 0 0), .v (.slice none 0 0)]), (2, .row 30 [iS 0, iS 0]), (3, .row 30 (Enc.cells r4474)), (4, .row 3 (fl r4483.2.2.1)), (5, .row 39 (fl r4483.2.2.2.1)), (6, .row 39 (fl r4483.2.2.2.2)), (7, .row 25 [iS r4483.1, .own 4 0 r4483.2.2.1.length, bS r4483.2.1, .own 5 0 r4483.2.2.2.1.length, .own 6 0 r4483.2.2.2.2.length])] 8 (by kernel_rfl) ?_
      refine wk_id ?_
      refine seq_np ?_
      refine reg_f ?_
      refine rs 1 [] [] (by kernel_rfl) allP_nil ?_
      obtain ⟨r4486, hr4486, h⟩ := bind_sx h
      refine call_x (pipe_Without_spec task r4483.1 r4483.2.1 r4483.2.2.1 r4483.2.2.2.1 r4483.2.2.2.2 r4486 hr4486) (args := [.ptr 7 0, iS task]) (dst := (some 24)) (by kernel_rfl) [(0, .row 25 (Enc.cells p)), (1, .row 25 [iS 0, .v (.slice none 0 0), bS false, .v (.slice none 0 0), .v (.slice none 0 0)]), (2, .row 30 [iS 0, iS 0]), (3, .row 30 (Enc.cells r4474)), (4, .row 3 (fl r4483.2.2.1)), (5, .row 39 (fl r4483.2.2.2.1)), (6, .row 39 (fl r4483.2.2.2.2)), (7, .row 25 [iS r4483.1, .own 4 0 r4483.2.2.1.length, bS r4483.2.1, .own 5 0 r4483.2.2.2.1.length, .own 6 0 r4483.2.2.2.2.length])] 8 (by kernel_rfl) [(0, 7), (1, 4), (2, 5), (3, 6)] [] (.tup []) [(7, .row 25 [iS r4486.1, .own 4 0 r4486.2.2.2.2.length, bS r4486.2.1, .own 12 0 r4486.2.2.1.length, .own 13 0 r4486.2.2.2.1.length]), (4, .row 3 (fl r4486.2.2.2.2)), (5, .dead), (6, .dead), (12, .row 39 (fl r4486.2.2.1)), (13, .row 39 (fl r4486.2.2.2.1)), (7, .dead), (4, .dead), (5, .dead), (6, .dead)] (by simp only [push_cast, seval]) (by simp only [push_cast, seval]) (by kernel_rfl) (.inl rfl) (by simp only [push_cast, seval]) (by simp only [push_cast, seval]) ?_
      refine rf [(4, .ptr 1 0), (5, .ptr 2 0), (7, .ptr 7 0)] [(0, .row 25 (Enc.cells p)), (1, .row 25 [iS 0, .v (.slice none 0 0), bS false, .v (.slice none 0 0), .v (.slice none 0 0)]), (2, .row 30 [iS 0, iS 0]), (3, .row 30 (Enc.cells r4474)), (4, .row 3 (fl r4486.2.2.2.2)), (5, .dead), (6, .dead), (7, .row 25 [iS r4486.1, .own 4 0 r4486.2.2.2.2.length, bS r4486.2.1, .own 12 0 r4486.2.2.1.length, .own 13 0 r4486.2.2.2.1.length]), (12, .row 39 (fl r4486.2.2.1)), (13, .row 39 (fl r4486.2.2.2.1))] 14 (by kernel_rfl) ?_
      refine wk_id ?_
      refine seq_np ?_
      refine reg_f ?_
      refine rs 4 [] [] (by kernel_rfl) allP_nil ?_
      refine rf [(4, .ptr 1 0), (5, .ptr 2 0)] [(0, .row 25 (Enc.cells p)), (1, .row 25 [iS r4486.1, .own 4 0 r4486.2.2.2.2.length, bS r4486.2.1, .own 12 0 r4486.2.2.1.length, .own 13 0 r4486.2.2.2.1.length]), (2, .row 30 [iS 0, iS 0]), (3, .row 30 (Enc.cells r4474)), (4, .row 3 (fl r4486.2.2.2.2)), (5, .dead), (6, .dead), (7, .row 25 [iS r4486.1, .own 4 0 r4486.2.2.2.2.length, bS r4486.2.1, .own 12 0 r4486.2.2.1.length, .own 13 0 r4486.2.2.2.1.length]), (12, .row 39 (fl r4486.2.2.1)), (13, .row 39 (fl r4486.2.2.2.1))] 14 (by kernel_rfl) ?_
      refine wk_id ?_
      obtain rfl := Option.some.inj h
      refine ret_at (.tup [.agg [iS r4486.1, .own 4 0 r4486.2.2.2.2.length, bS r4486.2.1, .own 12 0 r4486.2.2.1.length, .own 13 0 r4486.2.2.2.1.length], .agg [iS 0, iS 0]]) (by kernel_rfl) ?_
      exact ret_e [(0, 4), (1, 12), (2, 13)] [] (by simp only [push_cast, seval]) (by simp only [push_cast, seval]) rfl rfl rfl

set_option maxRecDepth 100000 in
set_option maxHeartbeats 200000000 in
theorem taskmillref_Closing_spec (p : Pipe) (r : Pipe × Bool × Bool × Bool × Int × Int × (List GWake)) (h : taskmillref_Closing p = some r) : SpecW Try.prog 29 [.agg (Enc.cells p)] [] 0 (fun x h n => x = .tup [.agg (Enc.cells r.1), .agg [bS r.2.1, bS r.2.2.1, bS r.2.2.2.1, iS r.2.2.2.2.1, iS r.2.2.2.2.2.1, .own 0 0 r.2.2.2.2.2.2.length]] ∧ h = [(0, .row 64 (fl r.2.2.2.2.2.2))] ∧ n = 1) := by
  unfold taskmillref_Closing at h
  refine spec_of (draw_ok _) Try.func29 rfl (by decide) rfl (by kernel_rfl) ?_
  refine seq_np ?_
  refine reg_f ?_
  refine rs 3 [] [] (by kernel_rfl) allP_nil ?_
  refine rf [(1, .ptr 0 0), (2, .ptr 1 0), (3, .ptr 2 0)] [(0, .row 25 (Enc.cells p)), (1, .row 25 [iS 0, .v (.slice none 0 0), bS false, .v (.slice none 0 0), .v (.slice none 0 0)]), (2, .row 34 [bS false, bS false, bS false, iS 0, iS 0, .v (.slice none 0 0)])] 3 (by kernel_rfl) ?_
  refine wk_id ?_
  refine seq_np ?_
  refine reg_f ?_
  refine rs 3 [] [] (by kernel_rfl) allP_nil ?_
  refine rf [(1, .ptr 0 0), (2, .ptr 1 0), (3, .ptr 2 0), (4, .ptr 3 0)] [(0, .row 25 (Enc.cells p)), (1, .row 25 [iS 0, .v (.slice none 0 0), bS false, .v (.slice none 0 0), .v (.slice none 0 0)]), (2, .row 34 [bS false, bS false, bS false, iS 0, iS 0, .v (.slice none 0 0)]), (3, .row 34 [bS true, bS false, bS false, iS 0, iS 0, .v (.slice none 0 0)])] 4 (by kernel_rfl) ?_
  refine wk_id ?_
  refine seq_np ?_
  refine seq_np ?_
  refine reg_f ?_
  refine rs 2 [] [] (by kernel_rfl) allP_nil ?_
  refine rf [(1, .ptr 0 0), (2, .ptr 1 0), (3, .ptr 2 0), (4, .ptr 3 0), (9, bS p.Closed)] [(0, .row 25 (Enc.cells p)), (1, .row 25 [iS 0, .v (.slice none 0 0), bS false, .v (.slice none 0 0), .v (.slice none 0 0)]), (2, .row 34 [bS false, bS false, bS false, iS 0, iS 0, .v (.slice none 0 0)]), (3, .row 34 [bS true, bS false, bS false, iS 0, iS 0, .v (.slice none 0 0)])] 4 (by kernel_rfl) ?_
  refine wk_id ?_
  refine cond_sx h (by kernel_rfl) (fun g4943 h => ?_) (fun g4943 h => ?_)
  · refine seq_np ?_
    refine reg_f ?_
    refine rs 2 [] [] (by kernel_rfl) allP_nil ?_
    refine rf [(1, .ptr 0 0), (2, .ptr 1 0), (3, .ptr 2 0), (4, .ptr 3 0)] [(0, .row 25 (Enc.cells p)), (1, .row 25 [iS 0, .v (.slice none 0 0), bS false, .v (.slice none 0 0), .v (.slice none 0 0)]), (2, .row 34 [bS false, bS false, bS false, iS 0, iS 0, .v (.slice none 0 0)]), (3, .row 34 [bS true, bS true, bS false, iS 0, iS 0, .v (.slice none 0 0)])] 4 (by kernel_rfl) ?_
    refine wk_id ?_
    refine seq_np ?_
    refine reg_t ?_
    refine rs 4 [] [] (by kernel_rfl) allP_nil ?_
    refine rt [(2, .ptr 1 0), (3, .ptr 2 0)] [(0, .row 25 (Enc.cells p)), (1, .row 25 (Enc.cells p)), (2, .row 34 [bS true, bS true, bS false, iS 0, iS 0, .v (.slice none 0 0)]), (3, .row 34 [bS true, bS true, bS false, iS 0, iS 0, .v (.slice none 0 0)])] 8 follows (by kernel_rfl) ?_
    refine wk_id ?_
    obtain rfl := Option.some.inj h
    refine ret_at (.tup [.agg (Enc.cells p), .agg [bS true, bS true, bS false, iS 0, iS 0, .v (.slice none 0 0)]]) (by kernel_rfl) ?_
    exact ret_e [] [] (by simp only [push_cast, seval]) (by simp only [push_cast, seval]) rfl rfl rfl
  · refine wk_id ?_
    refine seq_np ?_
    refine seq_np ?_
    refine reg_f ?_
    refine rs 1 [] [] (by kernel_rfl) allP_nil ?_
    refine rf [(1, .ptr 0 0), (2, .ptr 1 0), (3, .ptr 2 0), (4, .ptr 3 0), (5, iS 0)] [(0, .row 25 (Enc.cells p)), (1, .row 25 [iS 0, .v (.slice none 0 0), bS false, .v (.slice none 0 0), .v (.slice none 0 0)]), (2, .row 34 [bS false, bS false, bS false, iS 0, iS 0, .v (.slice none 0 0)]), (3, .row 34 [bS true, bS false, bS false, iS 0, iS 0, .v (.slice none 0 0)])] 4 (by kernel_rfl) ?_
    refine wk_id ?_
    refine block_np ?_
    refine loop_sx (S := Int × (List GWake)) (fun a => ([(1, .ptr 0 0), (2, .ptr 1 0), (3, .ptr 2 0), (4, .ptr 3 0), (5, iS a.1)], [(0, .row 25 (Enc.cells p)), (1, .row 25 [iS 0, .v (.slice none 0 0), bS false, .v (.slice none 0 0), .v (.slice none 0 0)]), (2, .row 34 [bS false, bS false, bS false, iS 0, iS 0, .v (.slice none 0 0)]), (3, .row 34 [bS true, bS false, bS false, iS 0, iS 0, .own 4 0 a.2.length]), (4, .row 64 (fl a.2))], 5)) h (leSt_m [(0, 0), (1, 1), (2, 2), (3, 3)] [] (by simp only [push_cast, seval]) (by simp only [push_cast, seval]) rfl rfl rfl) ?_
    rintro ⟨i9, c4q9⟩ o3 R3 h hr3 hn3 hx3 ht3
    try dsimp only at h hn3 ⊢
    unfold taskmillref_Closing_l2 at h
    try dsimp only at h
    refine seq_np ?_
    refine seq_np ?_
    refine reg_f ?_
    refine rs 5 [] [] (by kernel_rfl) allP_nil ?_
    refine rf [(1, .ptr 0 0), (2, .ptr 1 0), (3, .ptr 2 0), (4, .ptr 3 0), (5, iS i9), (17, bS (decide (i9 < ((p.Getters.length : Nat) : Int))))] [(0, .row 25 (Enc.cells p)), (1, .row 25 [iS 0, .v (.slice none 0 0), bS false, .v (.slice none 0 0), .v (.slice none 0 0)]), (2, .row 34 [bS false, bS false, bS false, iS 0, iS 0, .v (.slice none 0 0)]), (3, .row 34 [bS true, bS false, bS false, iS 0, iS 0, .own 4 0 c4q9.length]), (4, .row 64 (fl c4q9))] 5 (by kernel_rfl) ?_
    refine wk_id ?_
    refine cond_sx h (by kernel_rfl) (fun g4942 h => ?_) (fun g4942 h => ?_)
    · refine wk_id ?_
      refine seq_np ?_
      refine block_np ?_
      refine chk_sx h (fun g4852 h => ?_)
      refine chk_sx h (fun g4854 h => ?_)
      refine chk_sx h (fun g4856 h => ?_)
      refine reg_t ?_
      have k4851 : 0 ≤ i9 ∧ i9 < ((p.Getters.length : Nat) : Int) := by first | simpa only [Bool.and_eq_true, decide_eq_true_eq, bne_iff_ne, ne_eq] using g4852 | (simp at g4852 ⊢; omega)
      have k4853 : 0 ≤ i9 ∧ i9 < ((p.Getters.length : Nat) : Int) := by first | simpa only [Bool.and_eq_true, decide_eq_true_eq, bne_iff_ne, ne_eq] using g4854 | (simp at g4854 ⊢; omega)
      have k4855 : (c4q9 ++ ([(GWake.mk (ix p.Getters i9).Task (ix p.Getters i9).Case 0 false false)] : List GWake)).length * 32 ≤ 140737488355328 := by first | simpa only [Bool.and_eq_true, decide_eq_true_eq, bne_iff_ne, ne_eq] using g4856 | (simp at g4856 ⊢; omega)
      refine rs 19 [none, none, none, none, none, some ⟨.iptr (fl p.Getters) ((i9).toNat * 3), [], 10, []⟩, none, some ⟨iS (ix p.Getters i9).Task, [], 12, []⟩, none, none, none, some ⟨.iptr (fl p.Getters) ((i9).toNat * 3), [], 16, []⟩, none, some ⟨iS (ix p.Getters i9).Case, [], 18, []⟩, none, none, some ⟨.own 22 0 (c4q9 ++ ([(GWake.mk (ix p.Getters i9).Task (ix p.Getters i9).Case 0 false false)] : List GWake)).length, [(22, .row 64 (fl (c4q9 ++ ([(GWake.mk (ix p.Getters i9).Task (ix p.Getters i9).Case 0 false false)] : List GWake)))), (4, .dead)], 23, [4, 20]⟩] _ (by kernel_rfl) (allP_cons (ob_app (P := Try.prog) c4q9 ([(GWake.mk (ix p.Getters i9).Task (ix p.Getters i9).Case 0 false false)] : List GWake) 5 32 rfl (appCells (fl ([(GWake.mk (ix p.Getters i9).Task (ix p.Getters i9).Case 0 false false)] : List GWake)) 0 (([(GWake.mk (ix p.Getters i9).Task (ix p.Getters i9).Case 0 false false)] : List GWake).length * 5)) ([(GWake.mk (ix p.Getters i9).Task (ix p.Getters i9).Case 0 false false)] : List GWake).length (app_own ([(GWake.mk (ix p.Getters i9).Task (ix p.Getters i9).Case 0 false false)] : List GWake) 5 rfl) rfl (0 + ([(GWake.mk (ix p.Getters i9).Task (ix p.Getters i9).Case 0 false false)] : List GWake).length * 5 ≤ (fl ([(GWake.mk (ix p.Getters i9).Task (ix p.Getters i9).Case 0 false false)] : List GWake)).length) (app_own_le ([(GWake.mk (ix p.Getters i9).Task (ix p.Getters i9).Case 0 false false)] : List GWake) 5 rfl) 64 (by kernel_rfl) (by decide) k4855 4 22 [20]) (allP_cons (ob_ld p.Getters i9 3 1 (((i9).toNat * 3) + 1) k4853 rfl (by decide) (by first | rfl | omega) (dflS Try.prog 3) (iS (ix p.Getters i9).Case) rfl 18 []) (allP_cons (ob_ix_l p.Getters 3 16 i9 k4853) (allP_cons (ob_ld p.Getters i9 3 0 (((i9).toNat * 3) + 0) k4851 rfl (by decide) (by first | rfl | omega) (dflS Try.prog 3) (iS (ix p.Getters i9).Task) rfl 12 []) (allP_cons (ob_ix_l p.Getters 3 10 i9 k4851) allP_nil))))) ?_
      refine rt [(1, .ptr 0 0), (2, .ptr 1 0), (3, .ptr 2 0), (4, .ptr 3 0), (5, iS i9)] [(0, .row 25 (Enc.cells p)), (1, .row 25 [iS 0, .v (.slice none 0 0), bS false, .v (.slice none 0 0), .v (.slice none 0 0)]), (2, .row 34 [bS false, bS false, bS false, iS 0, iS 0, .v (.slice none 0 0)]), (3, .row 34 [bS true, bS false, bS false, iS 0, iS 0, .own 22 0 (c4q9 ++ ([(GWake.mk (ix p.Getters i9).Task (ix p.Getters i9).Case 0 false false)] : List GWake)).length]), (4, .dead), (20, .row 64 (fl ([(GWake.mk (ix p.Getters i9).Task (ix p.Getters i9).Case 0 false false)] : List GWake))), (22, .row 64 (fl (c4q9 ++ ([(GWake.mk (ix p.Getters i9).Task (ix p.Getters i9).Case 0 false false)] : List GWake))))] 26 follows (by kernel_rfl) ?_
      refine wk_id ?_
      refine wk_id ?_
      refine reg_f ?_
      refine rs 3 [] [] (by kernel_rfl) allP_nil ?_
      refine rf [(1, .ptr 0 0), (2, .ptr 1 0), (3, .ptr 2 0), (4, .ptr 3 0), (5, iS (IntKind.i64.wrap (i9 + 1)))] [(0, .row 25 (Enc.cells p)), (1, .row 25 [iS 0, .v (.slice none 0 0), bS false, .v (.slice none 0 0), .v (.slice none 0 0)]), (2, .row 34 [bS false, bS false, bS false, iS 0, iS 0, .v (.slice none 0 0)]), (3, .row 34 [bS true, bS false, bS false, iS 0, iS 0, .own 22 0 (c4q9 ++ ([(GWake.mk (ix p.Getters i9).Task (ix p.Getters i9).Case 0 false false)] : List GWake)).length]), (4, .dead), (20, .row 64 (fl ([(GWake.mk (ix p.Getters i9).Task (ix p.Getters i9).Case 0 false false)] : List GWake))), (22, .row 64 (fl (c4q9 ++ ([(GWake.mk (ix p.Getters i9).Task (ix p.Getters i9).Case 0 false false)] : List GWake))))] 26 (by kernel_rfl) ?_
      exact hn3 ((IntKind.i64.wrap (i9 + 1)), (c4q9 ++ ([(GWake.mk (ix p.Getters i9).Task (ix p.Getters i9).Case 0 false false)] : List GWake))) _ _ _ (Option.some.inj h).symm (leSt_m [(0, 0), (1, 1), (2, 2), (3, 3), (4, 22)] [] (by simp only [push_cast, seval]) (by simp only [push_cast, seval]) rfl rfl rfl)
    · change R3 (.exit 0) _ _ _
      refine ex_cast hx3 (id := 0) ?_
      obtain ⟨r0, h, e0⟩ := map_sx h
      have e1 := hr3 r0 e0.symm
      subst r0
      refine wk_id ?_
      refine wk_id ?_
      refine seq_np ?_
      refine seq_np ?_
      refine reg_f ?_
      refine rs 1 [] [] (by kernel_rfl) allP_nil ?_
      refine rf [(1, .ptr 0 0), (2, .ptr 1 0), (3, .ptr 2 0), (4, .ptr 3 0), (6, iS 0)] [(0, .row 25 (Enc.cells p)), (1, .row 25 [iS 0, .v (.slice none 0 0), bS false, .v (.slice none 0 0), .v (.slice none 0 0)]), (2, .row 34 [bS false, bS false, bS false, iS 0, iS 0, .v (.slice none 0 0)]), (3, .row 34 [bS true, bS false, bS false, iS 0, iS 0, .own 4 0 c4q9.length]), (4, .row 64 (fl c4q9))] 5 (by kernel_rfl) ?_
      refine wk_id ?_
      refine block_np ?_
      refine loop_sx (S := Int × (List GWake)) (fun a => ([(1, .ptr 0 0), (2, .ptr 1 0), (3, .ptr 2 0), (4, .ptr 3 0), (6, iS a.1)], [(0, .row 25 (Enc.cells p)), (1, .row 25 [iS 0, .v (.slice none 0 0), bS false, .v (.slice none 0 0), .v (.slice none 0 0)]), (2, .row 34 [bS false, bS false, bS false, iS 0, iS 0, .v (.slice none 0 0)]), (3, .row 34 [bS true, bS false, bS false, iS 0, iS 0, .own 4 0 a.2.length]), (4, .row 64 (fl a.2))], 5)) h (leSt_m [(0, 0), (1, 1), (2, 2), (3, 3), (4, 4)] [] (by simp only [push_cast, seval]) (by simp only [push_cast, seval]) rfl rfl rfl) ?_
      rintro ⟨i15, c4q15⟩ o4 R4 h hr4 hn4 hx4 ht4
      try dsimp only at h hn4 ⊢
      unfold taskmillref_Closing_l1 at h
      try dsimp only at h
      refine seq_np ?_
      refine seq_np ?_
      refine reg_f ?_
      refine rs 5 [] [] (by kernel_rfl) allP_nil ?_
      refine rf [(1, .ptr 0 0), (2, .ptr 1 0), (3, .ptr 2 0), (4, .ptr 3 0), (6, iS i15), (42, bS (decide (i15 < ((p.Senders.length : Nat) : Int))))] [(0, .row 25 (Enc.cells p)), (1, .row 25 [iS 0, .v (.slice none 0 0), bS false, .v (.slice none 0 0), .v (.slice none 0 0)]), (2, .row 34 [bS false, bS false, bS false, iS 0, iS 0, .v (.slice none 0 0)]), (3, .row 34 [bS true, bS false, bS false, iS 0, iS 0, .own 4 0 c4q15.length]), (4, .row 64 (fl c4q15))] 5 (by kernel_rfl) ?_
      refine wk_id ?_
      refine cond_sx h (by kernel_rfl) (fun g4941 h => ?_) (fun g4941 h => ?_)
      · refine wk_id ?_
        refine seq_np ?_
        refine block_np ?_
        refine chk_sx h (fun g4936 h => ?_)
        refine chk_sx h (fun g4938 h => ?_)
        refine chk_sx h (fun g4940 h => ?_)
        refine reg_t ?_
        have k4935 : 0 ≤ i15 ∧ i15 < ((p.Senders.length : Nat) : Int) := by first | simpa only [Bool.and_eq_true, decide_eq_true_eq, bne_iff_ne, ne_eq] using g4936 | (simp at g4936 ⊢; omega)
        have k4937 : 0 ≤ i15 ∧ i15 < ((p.Senders.length : Nat) : Int) := by first | simpa only [Bool.and_eq_true, decide_eq_true_eq, bne_iff_ne, ne_eq] using g4938 | (simp at g4938 ⊢; omega)
        have k4939 : (c4q15 ++ ([(GWake.mk (ix p.Senders i15).Task (ix p.Senders i15).Case 0 false true)] : List GWake)).length * 32 ≤ 140737488355328 := by first | simpa only [Bool.and_eq_true, decide_eq_true_eq, bne_iff_ne, ne_eq] using g4940 | (simp at g4940 ⊢; omega)
        refine rs 19 [none, none, none, none, none, some ⟨.iptr (fl p.Senders) ((i15).toNat * 3), [], 10, []⟩, none, some ⟨iS (ix p.Senders i15).Task, [], 12, []⟩, none, none, none, some ⟨.iptr (fl p.Senders) ((i15).toNat * 3), [], 16, []⟩, none, some ⟨iS (ix p.Senders i15).Case, [], 18, []⟩, none, none, some ⟨.own 22 0 (c4q15 ++ ([(GWake.mk (ix p.Senders i15).Task (ix p.Senders i15).Case 0 false true)] : List GWake)).length, [(22, .row 64 (fl (c4q15 ++ ([(GWake.mk (ix p.Senders i15).Task (ix p.Senders i15).Case 0 false true)] : List GWake)))), (4, .dead)], 23, [4, 20]⟩] _ (by kernel_rfl) (allP_cons (ob_app (P := Try.prog) c4q15 ([(GWake.mk (ix p.Senders i15).Task (ix p.Senders i15).Case 0 false true)] : List GWake) 5 32 rfl (appCells (fl ([(GWake.mk (ix p.Senders i15).Task (ix p.Senders i15).Case 0 false true)] : List GWake)) 0 (([(GWake.mk (ix p.Senders i15).Task (ix p.Senders i15).Case 0 false true)] : List GWake).length * 5)) ([(GWake.mk (ix p.Senders i15).Task (ix p.Senders i15).Case 0 false true)] : List GWake).length (app_own ([(GWake.mk (ix p.Senders i15).Task (ix p.Senders i15).Case 0 false true)] : List GWake) 5 rfl) rfl (0 + ([(GWake.mk (ix p.Senders i15).Task (ix p.Senders i15).Case 0 false true)] : List GWake).length * 5 ≤ (fl ([(GWake.mk (ix p.Senders i15).Task (ix p.Senders i15).Case 0 false true)] : List GWake)).length) (app_own_le ([(GWake.mk (ix p.Senders i15).Task (ix p.Senders i15).Case 0 false true)] : List GWake) 5 rfl) 64 (by kernel_rfl) (by decide) k4939 4 22 [20]) (allP_cons (ob_ld p.Senders i15 3 1 (((i15).toNat * 3) + 1) k4937 rfl (by decide) (by first | rfl | omega) (dflS Try.prog 3) (iS (ix p.Senders i15).Case) rfl 18 []) (allP_cons (ob_ix_l p.Senders 3 16 i15 k4937) (allP_cons (ob_ld p.Senders i15 3 0 (((i15).toNat * 3) + 0) k4935 rfl (by decide) (by first | rfl | omega) (dflS Try.prog 3) (iS (ix p.Senders i15).Task) rfl 12 []) (allP_cons (ob_ix_l p.Senders 3 10 i15 k4935) allP_nil))))) ?_
        refine rt [(1, .ptr 0 0), (2, .ptr 1 0), (3, .ptr 2 0), (4, .ptr 3 0), (6, iS i15)] [(0, .row 25 (Enc.cells p)), (1, .row 25 [iS 0, .v (.slice none 0 0), bS false, .v (.slice none 0 0), .v (.slice none 0 0)]), (2, .row 34 [bS false, bS false, bS false, iS 0, iS 0, .v (.slice none 0 0)]), (3, .row 34 [bS true, bS false, bS false, iS 0, iS 0, .own 22 0 (c4q15 ++ ([(GWake.mk (ix p.Senders i15).Task (ix p.Senders i15).Case 0 false true)] : List GWake)).length]), (4, .dead), (20, .row 64 (fl ([(GWake.mk (ix p.Senders i15).Task (ix p.Senders i15).Case 0 false true)] : List GWake))), (22, .row 64 (fl (c4q15 ++ ([(GWake.mk (ix p.Senders i15).Task (ix p.Senders i15).Case 0 false true)] : List GWake))))] 26 follows (by kernel_rfl) ?_
        refine wk_id ?_
        refine wk_id ?_
        refine reg_f ?_
        refine rs 3 [] [] (by kernel_rfl) allP_nil ?_
        refine rf [(1, .ptr 0 0), (2, .ptr 1 0), (3, .ptr 2 0), (4, .ptr 3 0), (6, iS (IntKind.i64.wrap (i15 + 1)))] [(0, .row 25 (Enc.cells p)), (1, .row 25 [iS 0, .v (.slice none 0 0), bS false, .v (.slice none 0 0), .v (.slice none 0 0)]), (2, .row 34 [bS false, bS false, bS false, iS 0, iS 0, .v (.slice none 0 0)]), (3, .row 34 [bS true, bS false, bS false, iS 0, iS 0, .own 22 0 (c4q15 ++ ([(GWake.mk (ix p.Senders i15).Task (ix p.Senders i15).Case 0 false true)] : List GWake)).length]), (4, .dead), (20, .row 64 (fl ([(GWake.mk (ix p.Senders i15).Task (ix p.Senders i15).Case 0 false true)] : List GWake))), (22, .row 64 (fl (c4q15 ++ ([(GWake.mk (ix p.Senders i15).Task (ix p.Senders i15).Case 0 false true)] : List GWake))))] 26 (by kernel_rfl) ?_
        exact hn4 ((IntKind.i64.wrap (i15 + 1)), (c4q15 ++ ([(GWake.mk (ix p.Senders i15).Task (ix p.Senders i15).Case 0 false true)] : List GWake))) _ _ _ (Option.some.inj h).symm (leSt_m [(0, 0), (1, 1), (2, 2), (3, 3), (4, 22)] [] (by simp only [push_cast, seval]) (by simp only [push_cast, seval]) rfl rfl rfl)
      · change R4 (.exit 2) _ _ _
        refine ex_cast hx4 (id := 2) ?_
        obtain ⟨r0, h, e0⟩ := map_sx h
        have e1 := hr4 r0 e0.symm
        subst r0
        refine wk_id ?_
        refine wk_id ?_
        refine seq_np ?_
        refine reg_t ?_
        refine rs 8 [] [] (by kernel_rfl) allP_nil ?_
        refine rt [(2, .ptr 1 0), (3, .ptr 2 0)] [(0, .row 25 (Enc.cells p)), (1, .row 25 [iS p.Cap, .sl p.Items.length (fl p.Items), bS true, .v (.slice none 0 0), .v (.slice none 0 0)]), (2, .row 34 [bS true, bS false, bS false, iS 0, iS 0, .own 4 0 c4q15.length]), (3, .row 34 [bS true, bS false, bS false, iS 0, iS 0, .own 4 0 c4q15.length]), (4, .row 64 (fl c4q15))] 13 follows (by kernel_rfl) ?_
        refine wk_id ?_
        obtain rfl := Option.some.inj h
        refine ret_at (.tup [.agg [iS p.Cap, .sl p.Items.length (fl p.Items), bS true, .v (.slice none 0 0), .v (.slice none 0 0)], .agg [bS true, bS false, bS false, iS 0, iS 0, .own 4 0 c4q15.length]]) (by kernel_rfl) ?_
        exact ret_e [(0, 4)] [] (by simp only [push_cast, seval]) (by simp only [push_cast, seval]) rfl rfl rfl

set_option maxRecDepth 100000 in
set_option maxHeartbeats 200000000 in
theorem taskmillref_Gone_spec (l : (List GPost)) (task : Int) (r : (List GPost)) (h : taskmillref_Gone l task = some r) : SpecW Try.prog 32 [.sl l.length (fl l), iS task] [] 0 (fun x h n => x = .own 0 0 r.length ∧ h = [(0, .row 39 (fl r))] ∧ n = 1) := by
  unfold taskmillref_Gone at h
  refine spec_of (draw_ok _) Try.func32 rfl (by decide) rfl (by kernel_rfl) ?_
  refine seq_np ?_
  refine reg_f ?_
  refine rs 1 [] [] (by kernel_rfl) allP_nil ?_
  refine rf [(0, .sl l.length (fl l)), (1, iS task)] [] 0 (by kernel_rfl) ?_
  refine wk_id ?_
  refine seq_np ?_
  refine reg_f ?_
  refine rs 1 [] [] (by kernel_rfl) allP_nil ?_
  refine rf [(0, .sl l.length (fl l)), (1, iS task), (5, .v (.slice none 0 0))] [] 0 (by kernel_rfl) ?_
  refine wk_id ?_
  refine seq_np ?_
  refine seq_np ?_
  refine reg_f ?_
  refine rs 1 [] [] (by kernel_rfl) allP_nil ?_
  refine rf [(0, .sl l.length (fl l)), (1, iS task), (5, .v (.slice none 0 0)), (6, iS 0)] [] 0 (by kernel_rfl) ?_
  refine wk_id ?_
  refine block_np ?_
  refine loop_sx (S := Int × (List GPost)) (fun a => ([(0, .sl l.length (fl l)), (1, iS task), (5, .own 0 0 a.2.length), (6, iS a.1)], [(0, .row 39 (fl a.2))], 1)) h (leSt_m [] [] (by simp only [push_cast, seval]) (by simp only [push_cast, seval]) rfl rfl rfl) ?_
  rintro ⟨i7, c0q19⟩ o2 R2 h hr2 hn2 hx2 ht2
  try dsimp only at h hn2 ⊢
  unfold taskmillref_Gone_l1 at h
  try dsimp only at h
  refine seq_np ?_
  refine seq_np ?_
  refine reg_f ?_
  refine rs 4 [] [] (by kernel_rfl) allP_nil ?_
  refine rf [(0, .sl l.length (fl l)), (1, iS task), (5, .own 0 0 c0q19.length), (6, iS i7), (10, bS (decide (i7 < ((l.length : Nat) : Int))))] [(0, .row 39 (fl c0q19))] 1 (by kernel_rfl) ?_
  refine wk_id ?_
  refine cond_sx h (by kernel_rfl) (fun g5101 h => ?_) (fun g5101 h => ?_)
  · refine wk_id ?_
    refine seq_np ?_
    refine block_cut (A := (List GPost)) (fun a => ([(0, .sl l.length (fl l)), (1, iS task), (5, .own 0 0 a.length), (6, iS i7)], [(0, .row 39 (fl a))], 1)) (fun a => (taskmillref_Gone_j1 l task i7 a) = some o2) (fun K5087 hK5087 => ?_) ?_
    · refine chk_sx h (fun g5091 h => ?_)
      refine seq_np ?_
      refine reg_f ?_
      have k5090 : 0 ≤ i7 ∧ i7 < ((l.length : Nat) : Int) := by first | simpa only [Bool.and_eq_true, decide_eq_true_eq, bne_iff_ne, ne_eq] using g5091 | (simp at g5091 ⊢; omega)
      refine rs 7 [none, none, some ⟨.iptr (fl l) ((i7).toNat * 3), [], 1, []⟩, none, some ⟨iS (ix l i7).Task, [], 1, []⟩] _ (by kernel_rfl) (allP_cons (ob_ld l i7 3 0 (((i7).toNat * 3) + 0) k5090 rfl (by decide) (by first | rfl | omega) (dflS Try.prog 3) (iS (ix l i7).Task) rfl 1 []) (allP_cons (ob_ix_l l 3 1 i7 k5090) allP_nil)) ?_
      refine rf [(0, .sl l.length (fl l)), (1, iS task), (5, .own 0 0 c0q19.length), (6, iS i7), (19, bS ((ix l i7).Task != task))] [(0, .row 39 (fl c0q19))] 1 (by kernel_rfl) ?_
      refine wk_id ?_
      refine cond_sx h (by kernel_rfl) (fun g5100 h => ?_) (fun g5100 h => ?_)
      · refine chk_sx h (fun g5097 h => ?_)
        refine chk_sx h (fun g5099 h => ?_)
        refine reg_f ?_
        have k5096 : 0 ≤ i7 ∧ i7 < ((l.length : Nat) : Int) := by first | simpa only [Bool.and_eq_true, decide_eq_true_eq, bne_iff_ne, ne_eq] using g5097 | (simp at g5097 ⊢; omega)
        have k5098 : (c0q19 ++ ([(ix l i7)] : List GPost)).length * 24 ≤ 140737488355328 := by first | simpa only [Bool.and_eq_true, decide_eq_true_eq, bne_iff_ne, ne_eq] using g5099 | (simp at g5099 ⊢; omega)
        refine rs 8 [none, none, none, some ⟨.iptr (fl l) ((i7).toNat * 3), [], 1, []⟩, some ⟨.agg (Enc.cells (ix l i7)), [], 1, []⟩, none, some ⟨.own 2 0 (c0q19 ++ ([(ix l i7)] : List GPost)).length, [(2, .row 39 (fl (c0q19 ++ ([(ix l i7)] : List GPost)))), (0, .dead)], 3, [0, 1]⟩] _ (by kernel_rfl) (allP_cons (ob_app (P := Try.prog) c0q19 ([(ix l i7)] : List GPost) 3 24 rfl (appCells (fl ([(ix l i7)] : List GPost)) 0 (([(ix l i7)] : List GPost).length * 3)) ([(ix l i7)] : List GPost).length (app_own ([(ix l i7)] : List GPost) 3 rfl) rfl (0 + ([(ix l i7)] : List GPost).length * 3 ≤ (fl ([(ix l i7)] : List GPost)).length) (app_own_le ([(ix l i7)] : List GPost) 3 rfl) 39 (by kernel_rfl) (by decide) k5098 0 2 [1]) (allP_cons (ob_ldw l i7 3 ((i7).toNat * 3) k5096 rfl (by first | rfl | omega) [iS (ix l i7).Task, iS (ix l i7).Case, iS (ix l i7).Value] rfl 1 []) (allP_cons (ob_ix_l l 3 1 i7 k5096) allP_nil))) ?_
        refine rf [(0, .sl l.length (fl l)), (1, iS task), (5, .own 2 0 (c0q19 ++ ([(ix l i7)] : List GPost)).length), (6, iS i7)] [(0, .dead), (1, .row 39 (fl ([(ix l i7)] : List GPost))), (2, .row 39 (fl (c0q19 ++ ([(ix l i7)] : List GPost))))] 3 (by kernel_rfl) ?_
        exact hK5087 ((c0q19 ++ ([(ix l i7)] : List GPost))) _ _ _ h (leSt_m [(0, 2)] [] (by simp only [push_cast, seval]) (by simp only [push_cast, seval]) rfl rfl rfl)
      · exact hK5087 (c0q19) _ _ _ h (leSt_m [(0, 0)] [] (by simp only [push_cast, seval]) (by simp only [push_cast, seval]) rfl rfl rfl)
    · rintro c0q21 h
      try dsimp only at h ⊢
      unfold taskmillref_Gone_j1 at h
      refine wk_id ?_
      refine reg_f ?_
      refine rs 3 [] [] (by kernel_rfl) allP_nil ?_
      refine rf [(0, .sl l.length (fl l)), (1, iS task), (5, .own 0 0 c0q21.length), (6, iS (IntKind.i64.wrap (i7 + 1)))] [(0, .row 39 (fl c0q21))] 1 (by kernel_rfl) ?_
      exact hn2 ((IntKind.i64.wrap (i7 + 1)), c0q21) _ _ _ (Option.some.inj h).symm (leSt_m [(0, 0)] [] (by simp only [push_cast, seval]) (by simp only [push_cast, seval]) rfl rfl rfl)
  · change R2 (.exit 0) _ _ _
    refine ex_cast hx2 (id := 0) ?_
    obtain ⟨r0, h, e0⟩ := map_sx h
    have e1 := hr2 r0 e0.symm
    subst r0
    refine wk_id ?_
    refine wk_id ?_
    refine seq_np ?_
    refine reg_f ?_
    refine rs 2 [] [] (by kernel_rfl) allP_nil ?_
    refine rf [(4, .own 0 0 c0q19.length)] [(0, .row 39 (fl c0q19))] 1 (by kernel_rfl) ?_
    refine wk_id ?_
    obtain rfl := Option.some.inj h
    refine ret_at (.own 0 0 c0q19.length) (by kernel_rfl) ?_
    exact ret_e [(0, 0)] [] (by simp only [push_cast, seval]) (by simp only [push_cast, seval]) rfl rfl rfl

set_option maxRecDepth 100000 in
set_option maxHeartbeats 200000000 in
theorem taskmilllaw_PipeShuts_spec (p : Pipe) (task : Int) (r : Bool) (h : taskmilllaw_PipeShuts p task = some r) : SpecW Try.prog 9 [.agg (Enc.cells p), iS task] [] 0 (fun x h n => x = bS r ∧ h = [] ∧ n = 0) := by
  unfold taskmilllaw_PipeShuts at h
  refine spec_of (draw_ok _) Try.func9 rfl (by decide) rfl (by kernel_rfl) ?_
  refine seq_np ?_
  refine reg_f ?_
  refine rs 2 [] [] (by kernel_rfl) allP_nil ?_
  refine rf [(1, iS task), (2, .ptr 0 0)] [(0, .row 25 (Enc.cells p))] 1 (by kernel_rfl) ?_
  refine wk_id ?_
  refine seq_np ?_
  refine seq_np ?_
  refine reg_f ?_
  obtain ⟨r5108, hr5108, h⟩ := bind_sx h
  refine run_call 10 [] (some 13) (by kernel_rfl) ?_
  refine call_0 (taskmilllaw_pipeBegun_spec r5108 hr5108) (by simp only [push_cast, seval]) (by simp only [push_cast, seval]) ?_
  refine back_f ?_
  refine rs 1 [] [] (by kernel_rfl) allP_nil ?_
  refine rf [(1, iS task), (2, .ptr 0 0), (14, bS (!r5108))] [(0, .row 25 (Enc.cells p))] 1 (by kernel_rfl) ?_
  refine wk_id ?_
  refine cond_sx h (by kernel_rfl) (fun g5154 h => ?_) (fun g5154 h => ?_)
  · refine seq_np ?_
    refine reg_f ?_
    refine rs 1 [] [] (by kernel_rfl) allP_nil ?_
    refine rf [(4, bS false)] [(0, .row 25 (Enc.cells p))] 1 (by kernel_rfl) ?_
    refine wk_id ?_
    obtain rfl := Option.some.inj h
    refine ret_at (bS false) (by kernel_rfl) ?_
    exact ret_e [] [] (by simp only [push_cast, seval]) (by simp only [push_cast, seval]) rfl rfl rfl
  · refine wk_id ?_
    refine seq_np ?_
    refine seq_np ?_
    refine reg_f ?_
    refine rs 1 [] [] (by kernel_rfl) allP_nil ?_
    obtain ⟨r5112, hr5112, h⟩ := bind_sx h
    refine run_call 11 [.agg (Enc.cells p)] (some 16) (by kernel_rfl) ?_
    refine call_0 (taskmilllaw_vastPipe_spec p r5112 hr5112) (by simp only [push_cast, seval]) (by simp only [push_cast, seval]) ?_
    refine back_f ?_
    refine rf [(1, iS task), (2, .ptr 0 0), (16, bS r5112)] [(0, .row 25 (Enc.cells p))] 1 (by kernel_rfl) ?_
    refine wk_id ?_
    refine cond_sx h (by kernel_rfl) (fun g5153 h => ?_) (fun g5153 h => ?_)
    · refine seq_np ?_
      refine reg_f ?_
      refine rs 1 [] [] (by kernel_rfl) allP_nil ?_
      refine rf [(4, bS true)] [(0, .row 25 (Enc.cells p))] 1 (by kernel_rfl) ?_
      refine wk_id ?_
      obtain rfl := Option.some.inj h
      refine ret_at (bS true) (by kernel_rfl) ?_
      exact ret_e [] [] (by simp only [push_cast, seval]) (by simp only [push_cast, seval]) rfl rfl rfl
    · refine wk_id ?_
      refine seq_np ?_
      refine reg_f ?_
      refine rs 1 [] [] (by kernel_rfl) allP_nil ?_
      obtain ⟨r5115, hr5115, h⟩ := bind_sx h
      refine call_x (taskmilllaw_ownPipe_spec p r5115 hr5115) (args := [.agg (Enc.cells p)]) (dst := (some 19)) (by kernel_rfl) [(0, .row 25 (Enc.cells p))] 1 (by kernel_rfl) [] [] (.agg [iS r5115.1, .own 1 0 r5115.2.2.1.length, bS r5115.2.1, .own 2 0 r5115.2.2.2.1.length, .own 3 0 r5115.2.2.2.2.length]) [(1, .row 3 (fl r5115.2.2.1)), (2, .row 39 (fl r5115.2.2.2.1)), (3, .row 39 (fl r5115.2.2.2.2))] (by simp only [push_cast, seval]) (by simp only [push_cast, seval]) (by kernel_rfl) (.inl rfl) (by simp only [push_cast, seval]) (by simp only [push_cast, seval]) ?_
      obtain ⟨r5116, hr5116, h⟩ := bind_sx h
      refine call_x (pipe_Shut_spec (Pipe.mk r5115.1 r5115.2.2.1 r5115.2.1 r5115.2.2.2.1 r5115.2.2.2.2) r5116 hr5116) (args := [.agg [iS r5115.1, .own 1 0 r5115.2.2.1.length, bS r5115.2.1, .own 2 0 r5115.2.2.2.1.length, .own 3 0 r5115.2.2.2.2.length]]) (dst := (some 20)) (by kernel_rfl) [(0, .row 25 (Enc.cells p)), (1, .row 3 (fl r5115.2.2.1)), (2, .row 39 (fl r5115.2.2.2.1)), (3, .row 39 (fl r5115.2.2.2.2))] 4 (by kernel_rfl) [] [1, 2, 3] (.tup [.agg [iS r5116.1, .own 4 0 r5116.2.2.2.2.2.2.2.2.1.length, bS r5116.2.1, .own 5 0 r5116.2.2.2.2.2.2.2.2.2.1.length, .own 6 0 r5116.2.2.2.2.2.2.2.2.2.2.1.length], .agg [bS r5116.2.2.1, bS r5116.2.2.2.1, bS r5116.2.2.2.2.1, iS r5116.2.2.2.2.2.1, iS r5116.2.2.2.2.2.2.1, .own 7 0 r5116.2.2.2.2.2.2.2.2.2.2.2.length], .agg (Enc.cells r5116.2.2.2.2.2.2.2.1)]) [(4, .row 3 (fl r5116.2.2.2.2.2.2.2.2.1)), (5, .row 39 (fl r5116.2.2.2.2.2.2.2.2.2.1)), (6, .row 39 (fl r5116.2.2.2.2.2.2.2.2.2.2.1)), (7, .row 64 (fl r5116.2.2.2.2.2.2.2.2.2.2.2))] (by simp only [push_cast, seval]) (by simp only [push_cast, seval]) (by kernel_rfl) (.inr ⟨by simp only [push_cast, seval], by simp only [push_cast, seval]⟩) (by simp only [push_cast, seval]) (by simp only [push_cast, seval]) ?_
      refine rs 10 [] [] (by kernel_rfl) allP_nil ?_
      refine rf [(1, iS task), (2, .ptr 0 0), (5, .ptr 8 0), (6, .ptr 9 0), (7, .ptr 10 0)] [(0, .row 25 (Enc.cells p)), (1, .row 3 (fl r5115.2.2.1)), (2, .row 39 (fl r5115.2.2.2.1)), (3, .row 39 (fl r5115.2.2.2.2)), (4, .row 3 (fl r5116.2.2.2.2.2.2.2.2.1)), (5, .row 39 (fl r5116.2.2.2.2.2.2.2.2.2.1)), (6, .row 39 (fl r5116.2.2.2.2.2.2.2.2.2.2.1)), (7, .row 64 (fl r5116.2.2.2.2.2.2.2.2.2.2.2)), (8, .row 25 [iS r5116.1, .own 4 0 r5116.2.2.2.2.2.2.2.2.1.length, bS r5116.2.1, .own 5 0 r5116.2.2.2.2.2.2.2.2.2.1.length, .own 6 0 r5116.2.2.2.2.2.2.2.2.2.2.1.length]), (9, .row 34 [bS r5116.2.2.1, bS r5116.2.2.2.1, bS r5116.2.2.2.2.1, iS r5116.2.2.2.2.2.1, iS r5116.2.2.2.2.2.2.1, .own 7 0 r5116.2.2.2.2.2.2.2.2.2.2.2.length]), (10, .row 30 (Enc.cells r5116.2.2.2.2.2.2.2.1))] 11 (by kernel_rfl) ?_
      refine wk_id ?_
      refine seq_np ?_
      refine reg_f ?_
      refine rs 1 [] [] (by kernel_rfl) allP_nil ?_
      obtain ⟨r5119, hr5119, h⟩ := bind_sx h
      refine call_x (taskmilllaw_ownPipe_spec p r5119 hr5119) (args := [.agg (Enc.cells p)]) (dst := (some 26)) (by kernel_rfl) [(0, .row 25 (Enc.cells p)), (1, .row 3 (fl r5115.2.2.1)), (2, .row 39 (fl r5115.2.2.2.1)), (3, .row 39 (fl r5115.2.2.2.2)), (4, .row 3 (fl r5116.2.2.2.2.2.2.2.2.1)), (5, .row 39 (fl r5116.2.2.2.2.2.2.2.2.2.1)), (6, .row 39 (fl r5116.2.2.2.2.2.2.2.2.2.2.1)), (7, .row 64 (fl r5116.2.2.2.2.2.2.2.2.2.2.2)), (8, .row 25 [iS r5116.1, .own 4 0 r5116.2.2.2.2.2.2.2.2.1.length, bS r5116.2.1, .own 5 0 r5116.2.2.2.2.2.2.2.2.2.1.length, .own 6 0 r5116.2.2.2.2.2.2.2.2.2.2.1.length]), (9, .row 34 [bS r5116.2.2.1, bS r5116.2.2.2.1, bS r5116.2.2.2.2.1, iS r5116.2.2.2.2.2.1, iS r5116.2.2.2.2.2.2.1, .own 7 0 r5116.2.2.2.2.2.2.2.2.2.2.2.length]), (10, .row 30 (Enc.cells r5116.2.2.2.2.2.2.2.1))] 11 (by kernel_rfl) [] [] (.agg [iS r5119.1, .own 11 0 r5119.2.2.1.length, bS r5119.2.1, .own 12 0 r5119.2.2.2.1.length, .own 13 0 r5119.2.2.2.2.length]) [(11, .row 3 (fl r5119.2.2.1)), (12, .row 39 (fl r5119.2.2.2.1)), (13, .row 39 (fl r5119.2.2.2.2))] (by simp only [push_cast, seval]) (by simp only [push_cast, seval]) (by kernel_rfl) (.inl rfl) (by simp only [push_cast, seval]) (by simp only [push_cast, seval]) ?_
      refine rs 1 [] [] (by kernel_rfl) allP_nil ?_
      obtain ⟨r5120, hr5120, h⟩ := bind_sx h
      refine call_x (pipe_Leave_spec (Pipe.mk r5119.1 r5119.2.2.1 r5119.2.1 r5119.2.2.2.1 r5119.2.2.2.2) task r5120 hr5120) (args := [.agg [iS r5119.1, .own 11 0 r5119.2.2.1.length, bS r5119.2.1, .own 12 0 r5119.2.2.2.1.length, .own 13 0 r5119.2.2.2.2.length], iS task]) (dst := (some 28)) (by kernel_rfl) [(0, .row 25 (Enc.cells p)), (1, .row 3 (fl r5115.2.2.1)), (2, .row 39 (fl r5115.2.2.2.1)), (3, .row 39 (fl r5115.2.2.2.2)), (4, .row 3 (fl r5116.2.2.2.2.2.2.2.2.1)), (5, .row 39 (fl r5116.2.2.2.2.2.2.2.2.2.1)), (6, .row 39 (fl r5116.2.2.2.2.2.2.2.2.2.2.1)), (7, .row 64 (fl r5116.2.2.2.2.2.2.2.2.2.2.2)), (8, .row 25 [iS r5116.1, .own 4 0 r5116.2.2.2.2.2.2.2.2.1.length, bS r5116.2.1, .own 5 0 r5116.2.2.2.2.2.2.2.2.2.1.length, .own 6 0 r5116.2.2.2.2.2.2.2.2.2.2.1.length]), (9, .row 34 [bS r5116.2.2.1, bS r5116.2.2.2.1, bS r5116.2.2.2.2.1, iS r5116.2.2.2.2.2.1, iS r5116.2.2.2.2.2.2.1, .own 7 0 r5116.2.2.2.2.2.2.2.2.2.2.2.length]), (10, .row 30 (Enc.cells r5116.2.2.2.2.2.2.2.1)), (11, .row 3 (fl r5119.2.2.1)), (12, .row 39 (fl r5119.2.2.2.1)), (13, .row 39 (fl r5119.2.2.2.2))] 14 (by kernel_rfl) [] [11, 12, 13] (.tup [.agg [iS r5120.1, .own 14 0 r5120.2.2.2.1.length, bS r5120.2.1, .own 15 0 r5120.2.2.2.2.1.length, .own 16 0 r5120.2.2.2.2.2.length], .agg (Enc.cells r5120.2.2.1)]) [(14, .row 3 (fl r5120.2.2.2.1)), (15, .row 39 (fl r5120.2.2.2.2.1)), (16, .row 39 (fl r5120.2.2.2.2.2))] (by simp only [push_cast, seval]) (by simp only [push_cast, seval]) (by kernel_rfl) (.inr ⟨by simp only [push_cast, seval], by simp only [push_cast, seval]⟩) (by simp only [push_cast, seval]) (by simp only [push_cast, seval]) ?_
      refine rs 7 [] [] (by kernel_rfl) allP_nil ?_
      refine rf [(1, iS task), (2, .ptr 0 0), (5, .ptr 8 0), (6, .ptr 9 0), (7, .ptr 10 0), (8, .ptr 17 0), (9, .ptr 18 0)] [(0, .row 25 (Enc.cells p)), (1, .row 3 (fl r5115.2.2.1)), (2, .row 39 (fl r5115.2.2.2.1)), (3, .row 39 (fl r5115.2.2.2.2)), (4, .row 3 (fl r5116.2.2.2.2.2.2.2.2.1)), (5, .row 39 (fl r5116.2.2.2.2.2.2.2.2.2.1)), (6, .row 39 (fl r5116.2.2.2.2.2.2.2.2.2.2.1)), (7, .row 64 (fl r5116.2.2.2.2.2.2.2.2.2.2.2)), (8, .row 25 [iS r5116.1, .own 4 0 r5116.2.2.2.2.2.2.2.2.1.length, bS r5116.2.1, .own 5 0 r5116.2.2.2.2.2.2.2.2.2.1.length, .own 6 0 r5116.2.2.2.2.2.2.2.2.2.2.1.length]), (9, .row 34 [bS r5116.2.2.1, bS r5116.2.2.2.1, bS r5116.2.2.2.2.1, iS r5116.2.2.2.2.2.1, iS r5116.2.2.2.2.2.2.1, .own 7 0 r5116.2.2.2.2.2.2.2.2.2.2.2.length]), (10, .row 30 (Enc.cells r5116.2.2.2.2.2.2.2.1)), (11, .row 3 (fl r5119.2.2.1)), (12, .row 39 (fl r5119.2.2.2.1)), (13, .row 39 (fl r5119.2.2.2.2)), (14, .row 3 (fl r5120.2.2.2.1)), (15, .row 39 (fl r5120.2.2.2.2.1)), (16, .row 39 (fl r5120.2.2.2.2.2)), (17, .row 25 [iS r5120.1, .own 14 0 r5120.2.2.2.1.length, bS r5120.2.1, .own 15 0 r5120.2.2.2.2.1.length, .own 16 0 r5120.2.2.2.2.2.length]), (18, .row 30 (Enc.cells r5120.2.2.1))] 19 (by kernel_rfl) ?_
      refine wk_id ?_
      refine seq_np ?_
      refine reg_f ?_
      refine rs 1 [] [] (by kernel_rfl) allP_nil ?_
      obtain ⟨r5122, hr5122, h⟩ := bind_sx h
      refine run_call 15 [.agg (Enc.cells p)] (some 32) (by kernel_rfl) ?_
      refine call_0 (taskmillref_PipeFault_spec p r5122 hr5122) (by simp only [push_cast, seval]) (by simp only [push_cast, seval]) ?_
      refine back_f ?_
      refine rs 2 [] [] (by kernel_rfl) allP_nil ?_
      refine rf [(1, iS task), (2, .ptr 0 0), (5, .ptr 8 0), (6, .ptr 9 0), (7, .ptr 10 0), (8, .ptr 17 0), (9, .ptr 18 0), (10, .ptr 19 0)] [(0, .row 25 (Enc.cells p)), (1, .row 3 (fl r5115.2.2.1)), (2, .row 39 (fl r5115.2.2.2.1)), (3, .row 39 (fl r5115.2.2.2.2)), (4, .row 3 (fl r5116.2.2.2.2.2.2.2.2.1)), (5, .row 39 (fl r5116.2.2.2.2.2.2.2.2.2.1)), (6, .row 39 (fl r5116.2.2.2.2.2.2.2.2.2.2.1)), (7, .row 64 (fl r5116.2.2.2.2.2.2.2.2.2.2.2)), (8, .row 25 [iS r5116.1, .own 4 0 r5116.2.2.2.2.2.2.2.2.1.length, bS r5116.2.1, .own 5 0 r5116.2.2.2.2.2.2.2.2.2.1.length, .own 6 0 r5116.2.2.2.2.2.2.2.2.2.2.1.length]), (9, .row 34 [bS r5116.2.2.1, bS r5116.2.2.2.1, bS r5116.2.2.2.2.1, iS r5116.2.2.2.2.2.1, iS r5116.2.2.2.2.2.2.1, .own 7 0 r5116.2.2.2.2.2.2.2.2.2.2.2.length]), (10, .row 30 (Enc.cells r5116.2.2.2.2.2.2.2.1)), (11, .row 3 (fl r5119.2.2.1)), (12, .row 39 (fl r5119.2.2.2.1)), (13, .row 39 (fl r5119.2.2.2.2)), (14, .row 3 (fl r5120.2.2.2.1)), (15, .row 39 (fl r5120.2.2.2.2.1)), (16, .row 39 (fl r5120.2.2.2.2.2)), (17, .row 25 [iS r5120.1, .own 14 0 r5120.2.2.2.1.length, bS r5120.2.1, .own 15 0 r5120.2.2.2.2.1.length, .own 16 0 r5120.2.2.2.2.2.length]), (18, .row 30 (Enc.cells r5120.2.2.1)), (19, .row 30 (Enc.cells r5122))] 20 (by kernel_rfl) ?_
      refine wk_id ?_
      refine seq_np ?_
      refine reg_f ?_
      refine rs 1 [] [] (by kernel_rfl) allP_nil ?_
      obtain ⟨r5124, hr5124, h⟩ := bind_sx h
      refine call_x (taskmillref_Closing_spec p r5124 hr5124) (args := [.agg (Enc.cells p)]) (dst := (some 35)) (by kernel_rfl) [(0, .row 25 (Enc.cells p)), (1, .row 3 (fl r5115.2.2.1)), (2, .row 39 (fl r5115.2.2.2.1)), (3, .row 39 (fl r5115.2.2.2.2)), (4, .row 3 (fl r5116.2.2.2.2.2.2.2.2.1)), (5, .row 39 (fl r5116.2.2.2.2.2.2.2.2.2.1)), (6, .row 39 (fl r5116.2.2.2.2.2.2.2.2.2.2.1)), (7, .row 64 (fl r5116.2.2.2.2.2.2.2.2.2.2.2)), (8, .row 25 [iS r5116.1, .own 4 0 r5116.2.2.2.2.2.2.2.2.1.length, bS r5116.2.1, .own 5 0 r5116.2.2.2.2.2.2.2.2.2.1.length, .own 6 0 r5116.2.2.2.2.2.2.2.2.2.2.1.length]), (9, .row 34 [bS r5116.2.2.1, bS r5116.2.2.2.1, bS r5116.2.2.2.2.1, iS r5116.2.2.2.2.2.1, iS r5116.2.2.2.2.2.2.1, .own 7 0 r5116.2.2.2.2.2.2.2.2.2.2.2.length]), (10, .row 30 (Enc.cells r5116.2.2.2.2.2.2.2.1)), (11, .row 3 (fl r5119.2.2.1)), (12, .row 39 (fl r5119.2.2.2.1)), (13, .row 39 (fl r5119.2.2.2.2)), (14, .row 3 (fl r5120.2.2.2.1)), (15, .row 39 (fl r5120.2.2.2.2.1)), (16, .row 39 (fl r5120.2.2.2.2.2)), (17, .row 25 [iS r5120.1, .own 14 0 r5120.2.2.2.1.length, bS r5120.2.1, .own 15 0 r5120.2.2.2.2.1.length, .own 16 0 r5120.2.2.2.2.2.length]), (18, .row 30 (Enc.cells r5120.2.2.1)), (19, .row 30 (Enc.cells r5122))] 20 (by kernel_rfl) [] [] (.tup [.agg (Enc.cells r5124.1), .agg [bS r5124.2.1, bS r5124.2.2.1, bS r5124.2.2.2.1, iS r5124.2.2.2.2.1, iS r5124.2.2.2.2.2.1, .own 20 0 r5124.2.2.2.2.2.2.length]]) [(20, .row 64 (fl r5124.2.2.2.2.2.2))] (by simp only [push_cast, seval]) (by simp only [push_cast, seval]) (by kernel_rfl) (.inl rfl) (by simp only [push_cast, seval]) (by simp only [push_cast, seval]) ?_
      refine rs 7 [] [] (by kernel_rfl) allP_nil ?_
      refine rf [(1, iS task), (2, .ptr 0 0), (5, .ptr 8 0), (6, .ptr 9 0), (7, .ptr 10 0), (8, .ptr 17 0), (9, .ptr 18 0), (10, .ptr 19 0), (11, .ptr 21 0), (12, .ptr 22 0)] [(0, .row 25 (Enc.cells p)), (1, .row 3 (fl r5115.2.2.1)), (2, .row 39 (fl r5115.2.2.2.1)), (3, .row 39 (fl r5115.2.2.2.2)), (4, .row 3 (fl r5116.2.2.2.2.2.2.2.2.1)), (5, .row 39 (fl r5116.2.2.2.2.2.2.2.2.2.1)), (6, .row 39 (fl r5116.2.2.2.2.2.2.2.2.2.2.1)), (7, .row 64 (fl r5116.2.2.2.2.2.2.2.2.2.2.2)), (8, .row 25 [iS r5116.1, .own 4 0 r5116.2.2.2.2.2.2.2.2.1.length, bS r5116.2.1, .own 5 0 r5116.2.2.2.2.2.2.2.2.2.1.length, .own 6 0 r5116.2.2.2.2.2.2.2.2.2.2.1.length]), (9, .row 34 [bS r5116.2.2.1, bS r5116.2.2.2.1, bS r5116.2.2.2.2.1, iS r5116.2.2.2.2.2.1, iS r5116.2.2.2.2.2.2.1, .own 7 0 r5116.2.2.2.2.2.2.2.2.2.2.2.length]), (10, .row 30 (Enc.cells r5116.2.2.2.2.2.2.2.1)), (11, .row 3 (fl r5119.2.2.1)), (12, .row 39 (fl r5119.2.2.2.1)), (13, .row 39 (fl r5119.2.2.2.2)), (14, .row 3 (fl r5120.2.2.2.1)), (15, .row 39 (fl r5120.2.2.2.2.1)), (16, .row 39 (fl r5120.2.2.2.2.2)), (17, .row 25 [iS r5120.1, .own 14 0 r5120.2.2.2.1.length, bS r5120.2.1, .own 15 0 r5120.2.2.2.2.1.length, .own 16 0 r5120.2.2.2.2.2.length]), (18, .row 30 (Enc.cells r5120.2.2.1)), (19, .row 30 (Enc.cells r5122)), (20, .row 64 (fl r5124.2.2.2.2.2.2)), (21, .row 25 (Enc.cells r5124.1)), (22, .row 34 [bS r5124.2.1, bS r5124.2.2.1, bS r5124.2.2.2.1, iS r5124.2.2.2.2.1, iS r5124.2.2.2.2.2.1, .own 20 0 r5124.2.2.2.2.2.2.length])] 23 (by kernel_rfl) ?_
      refine wk_id ?_
      refine seq_np ?_
      refine seq_np ?_
      refine reg_f ?_
      refine rs 6 [] [] (by kernel_rfl) allP_nil ?_
      obtain ⟨r5128, hr5128, h⟩ := bind_sx h
      refine call_x (taskmilllaw_pipeAs_spec (Pipe.mk r5116.1 r5116.2.2.2.2.2.2.2.2.1 r5116.2.1 r5116.2.2.2.2.2.2.2.2.2.1 r5116.2.2.2.2.2.2.2.2.2.2.1) (Answer.mk r5116.2.2.1 r5116.2.2.2.1 r5116.2.2.2.2.1 r5116.2.2.2.2.2.1 r5116.2.2.2.2.2.2.1 r5116.2.2.2.2.2.2.2.2.2.2.2) r5116.2.2.2.2.2.2.2.1 r5122 r5124.1 (Answer.mk r5124.2.1 r5124.2.2.1 r5124.2.2.2.1 r5124.2.2.2.2.1 r5124.2.2.2.2.2.1 r5124.2.2.2.2.2.2) r5128 hr5128) (args := [.agg [iS r5116.1, .own 4 0 r5116.2.2.2.2.2.2.2.2.1.length, bS r5116.2.1, .own 5 0 r5116.2.2.2.2.2.2.2.2.2.1.length, .own 6 0 r5116.2.2.2.2.2.2.2.2.2.2.1.length], .agg [bS r5116.2.2.1, bS r5116.2.2.2.1, bS r5116.2.2.2.2.1, iS r5116.2.2.2.2.2.1, iS r5116.2.2.2.2.2.2.1, .own 7 0 r5116.2.2.2.2.2.2.2.2.2.2.2.length], .agg (Enc.cells r5116.2.2.2.2.2.2.2.1), .agg (Enc.cells r5122), .agg (Enc.cells r5124.1), .agg [bS r5124.2.1, bS r5124.2.2.1, bS r5124.2.2.2.1, iS r5124.2.2.2.2.1, iS r5124.2.2.2.2.2.1, .own 20 0 r5124.2.2.2.2.2.2.length]]) (dst := (some 44)) (by kernel_rfl) [(0, .row 25 (Enc.cells p)), (1, .row 3 (fl r5115.2.2.1)), (2, .row 39 (fl r5115.2.2.2.1)), (3, .row 39 (fl r5115.2.2.2.2)), (4, .row 3 (fl r5116.2.2.2.2.2.2.2.2.1)), (5, .row 39 (fl r5116.2.2.2.2.2.2.2.2.2.1)), (6, .row 39 (fl r5116.2.2.2.2.2.2.2.2.2.2.1)), (7, .row 64 (fl r5116.2.2.2.2.2.2.2.2.2.2.2)), (8, .row 25 [iS r5116.1, .own 4 0 r5116.2.2.2.2.2.2.2.2.1.length, bS r5116.2.1, .own 5 0 r5116.2.2.2.2.2.2.2.2.2.1.length, .own 6 0 r5116.2.2.2.2.2.2.2.2.2.2.1.length]), (9, .row 34 [bS r5116.2.2.1, bS r5116.2.2.2.1, bS r5116.2.2.2.2.1, iS r5116.2.2.2.2.2.1, iS r5116.2.2.2.2.2.2.1, .own 7 0 r5116.2.2.2.2.2.2.2.2.2.2.2.length]), (10, .row 30 (Enc.cells r5116.2.2.2.2.2.2.2.1)), (11, .row 3 (fl r5119.2.2.1)), (12, .row 39 (fl r5119.2.2.2.1)), (13, .row 39 (fl r5119.2.2.2.2)), (14, .row 3 (fl r5120.2.2.2.1)), (15, .row 39 (fl r5120.2.2.2.2.1)), (16, .row 39 (fl r5120.2.2.2.2.2)), (17, .row 25 [iS r5120.1, .own 14 0 r5120.2.2.2.1.length, bS r5120.2.1, .own 15 0 r5120.2.2.2.2.1.length, .own 16 0 r5120.2.2.2.2.2.length]), (18, .row 30 (Enc.cells r5120.2.2.1)), (19, .row 30 (Enc.cells r5122)), (20, .row 64 (fl r5124.2.2.2.2.2.2)), (21, .row 25 (Enc.cells r5124.1)), (22, .row 34 [bS r5124.2.1, bS r5124.2.2.1, bS r5124.2.2.2.1, iS r5124.2.2.2.2.1, iS r5124.2.2.2.2.2.1, .own 20 0 r5124.2.2.2.2.2.2.length])] 23 (by kernel_rfl) [] [4, 5, 6, 7, 20] (bS r5128) [] (by simp only [push_cast, seval]) (by simp only [push_cast, seval]) (by kernel_rfl) (.inr ⟨by simp only [push_cast, seval], by simp only [push_cast, seval]⟩) (by simp only [push_cast, seval]) (by simp only [push_cast, seval]) ?_
      refine rs 1 [] [] (by kernel_rfl) allP_nil ?_
      refine rf [(1, iS task), (2, .ptr 0 0), (8, .ptr 17 0), (9, .ptr 18 0), (10, .ptr 19 0), (45, bS (!r5128))] [(0, .row 25 (Enc.cells p)), (1, .row 3 (fl r5115.2.2.1)), (2, .row 39 (fl r5115.2.2.2.1)), (3, .row 39 (fl r5115.2.2.2.2)), (4, .row 3 (fl r5116.2.2.2.2.2.2.2.2.1)), (5, .row 39 (fl r5116.2.2.2.2.2.2.2.2.2.1)), (6, .row 39 (fl r5116.2.2.2.2.2.2.2.2.2.2.1)), (7, .row 64 (fl r5116.2.2.2.2.2.2.2.2.2.2.2)), (8, .row 25 [iS r5116.1, .own 4 0 r5116.2.2.2.2.2.2.2.2.1.length, bS r5116.2.1, .own 5 0 r5116.2.2.2.2.2.2.2.2.2.1.length, .own 6 0 r5116.2.2.2.2.2.2.2.2.2.2.1.length]), (9, .row 34 [bS r5116.2.2.1, bS r5116.2.2.2.1, bS r5116.2.2.2.2.1, iS r5116.2.2.2.2.2.1, iS r5116.2.2.2.2.2.2.1, .own 7 0 r5116.2.2.2.2.2.2.2.2.2.2.2.length]), (10, .row 30 (Enc.cells r5116.2.2.2.2.2.2.2.1)), (11, .row 3 (fl r5119.2.2.1)), (12, .row 39 (fl r5119.2.2.2.1)), (13, .row 39 (fl r5119.2.2.2.2)), (14, .row 3 (fl r5120.2.2.2.1)), (15, .row 39 (fl r5120.2.2.2.2.1)), (16, .row 39 (fl r5120.2.2.2.2.2)), (17, .row 25 [iS r5120.1, .own 14 0 r5120.2.2.2.1.length, bS r5120.2.1, .own 15 0 r5120.2.2.2.2.1.length, .own 16 0 r5120.2.2.2.2.2.length]), (18, .row 30 (Enc.cells r5120.2.2.1)), (19, .row 30 (Enc.cells r5122)), (20, .row 64 (fl r5124.2.2.2.2.2.2)), (21, .row 25 (Enc.cells r5124.1)), (22, .row 34 [bS r5124.2.1, bS r5124.2.2.1, bS r5124.2.2.2.1, iS r5124.2.2.2.2.1, iS r5124.2.2.2.2.2.1, .own 20 0 r5124.2.2.2.2.2.2.length])] 23 (by kernel_rfl) ?_
      refine wk_id ?_
      refine cond_sx h (by kernel_rfl) (fun g5152 h => ?_) (fun g5152 h => ?_)
      · refine seq_np ?_
        refine reg_f ?_
        refine rs 1 [] [] (by kernel_rfl) allP_nil ?_
        refine rf [(4, bS false)] [(0, .row 25 (Enc.cells p)), (1, .row 3 (fl r5115.2.2.1)), (2, .row 39 (fl r5115.2.2.2.1)), (3, .row 39 (fl r5115.2.2.2.2)), (4, .row 3 (fl r5116.2.2.2.2.2.2.2.2.1)), (5, .row 39 (fl r5116.2.2.2.2.2.2.2.2.2.1)), (6, .row 39 (fl r5116.2.2.2.2.2.2.2.2.2.2.1)), (7, .row 64 (fl r5116.2.2.2.2.2.2.2.2.2.2.2)), (8, .row 25 [iS r5116.1, .own 4 0 r5116.2.2.2.2.2.2.2.2.1.length, bS r5116.2.1, .own 5 0 r5116.2.2.2.2.2.2.2.2.2.1.length, .own 6 0 r5116.2.2.2.2.2.2.2.2.2.2.1.length]), (9, .row 34 [bS r5116.2.2.1, bS r5116.2.2.2.1, bS r5116.2.2.2.2.1, iS r5116.2.2.2.2.2.1, iS r5116.2.2.2.2.2.2.1, .own 7 0 r5116.2.2.2.2.2.2.2.2.2.2.2.length]), (10, .row 30 (Enc.cells r5116.2.2.2.2.2.2.2.1)), (11, .row 3 (fl r5119.2.2.1)), (12, .row 39 (fl r5119.2.2.2.1)), (13, .row 39 (fl r5119.2.2.2.2)), (14, .row 3 (fl r5120.2.2.2.1)), (15, .row 39 (fl r5120.2.2.2.2.1)), (16, .row 39 (fl r5120.2.2.2.2.2)), (17, .row 25 [iS r5120.1, .own 14 0 r5120.2.2.2.1.length, bS r5120.2.1, .own 15 0 r5120.2.2.2.2.1.length, .own 16 0 r5120.2.2.2.2.2.length]), (18, .row 30 (Enc.cells r5120.2.2.1)), (19, .row 30 (Enc.cells r5122)), (20, .row 64 (fl r5124.2.2.2.2.2.2)), (21, .row 25 (Enc.cells r5124.1)), (22, .row 34 [bS r5124.2.1, bS r5124.2.2.1, bS r5124.2.2.2.1, iS r5124.2.2.2.2.1, iS r5124.2.2.2.2.2.1, .own 20 0 r5124.2.2.2.2.2.2.length])] 23 (by kernel_rfl) ?_
        refine wk_id ?_
        obtain rfl := Option.some.inj h
        refine ret_at (bS false) (by kernel_rfl) ?_
        exact ret_e [] [] (by simp only [push_cast, seval]) (by simp only [push_cast, seval]) rfl rfl rfl
      · refine wk_id ?_
        refine seq_cut (A := Int × Bool × Fault × Fault × (List Int) × (List GPost) × (List GPost)) (fun a => ([(1, iS task), (2, .ptr 0 0), (8, .ptr 1 0), (9, .ptr 2 0), (10, .ptr 3 0)], [(0, .row 25 (Enc.cells p)), (1, .row 25 [iS a.1, .own 4 0 a.2.2.2.2.1.length, bS a.2.1, .own 5 0 a.2.2.2.2.2.1.length, .own 6 0 a.2.2.2.2.2.2.length]), (2, .row 30 (Enc.cells a.2.2.1)), (3, .row 30 (Enc.cells a.2.2.2.1)), (4, .row 3 (fl a.2.2.2.2.1)), (5, .row 39 (fl a.2.2.2.2.2.1)), (6, .row 39 (fl a.2.2.2.2.2.2))], 7)) (fun a => (taskmilllaw_PipeShuts_j1 p task a.1 a.2.1 a.2.2.1 a.2.2.2.1 a.2.2.2.2.1 a.2.2.2.2.2.1 a.2.2.2.2.2.2) = some r) (fun K5136 hK5136 => ?_) ?_
        · refine seq_cut (A := Bool × Int × Bool × Fault × Fault × (List Int) × (List GPost) × (List GPost)) (fun a => ([(1, iS task), (2, .ptr 0 0), (8, .ptr 1 0), (9, .ptr 2 0), (10, .ptr 3 0), (54, bS a.1)], [(0, .row 25 (Enc.cells p)), (1, .row 25 [iS a.2.1, .own 4 0 a.2.2.2.2.2.1.length, bS a.2.2.1, .own 5 0 a.2.2.2.2.2.2.1.length, .own 6 0 a.2.2.2.2.2.2.2.length]), (2, .row 30 (Enc.cells a.2.2.2.1)), (3, .row 30 (Enc.cells a.2.2.2.2.1)), (4, .row 3 (fl a.2.2.2.2.2.1)), (5, .row 39 (fl a.2.2.2.2.2.2.1)), (6, .row 39 (fl a.2.2.2.2.2.2.2))], 7)) (fun a => (taskmilllaw_PipeShuts_j2 p task a.1 a.2.1 a.2.2.1 a.2.2.2.1 a.2.2.2.2.1 a.2.2.2.2.2.1 a.2.2.2.2.2.2.1 a.2.2.2.2.2.2.2) = some r) (fun K5140 hK5140 => ?_) ?_
          · refine reg_f ?_
            refine rs 4 [] [] (by kernel_rfl) allP_nil ?_
            refine run_br h 49 (.inl (by kernel_rfl)) (fun g5141 h => ?_) (fun g5141 h => ?_)
            · refine rs 2 [] [] (by kernel_rfl) allP_nil ?_
              obtain ⟨r5142, hr5142, h⟩ := bind_sx h
              refine run_call 30 [.agg (Enc.cells p), iS task] (some 52) (by kernel_rfl) ?_
              refine call_0 (taskmillref_WaitsAt_spec p task r5142 hr5142) (by simp only [push_cast, seval]) (by simp only [push_cast, seval]) ?_
              refine back_f ?_
              refine rs 2 [] [] (by kernel_rfl) allP_nil ?_
              refine rf [(1, iS task), (2, .ptr 0 0), (8, .ptr 17 0), (9, .ptr 18 0), (10, .ptr 19 0), (54, bS (!r5142))] [(0, .row 25 (Enc.cells p)), (1, .row 3 (fl r5115.2.2.1)), (2, .row 39 (fl r5115.2.2.2.1)), (3, .row 39 (fl r5115.2.2.2.2)), (4, .row 3 (fl r5116.2.2.2.2.2.2.2.2.1)), (5, .row 39 (fl r5116.2.2.2.2.2.2.2.2.2.1)), (6, .row 39 (fl r5116.2.2.2.2.2.2.2.2.2.2.1)), (7, .row 64 (fl r5116.2.2.2.2.2.2.2.2.2.2.2)), (8, .row 25 [iS r5116.1, .own 4 0 r5116.2.2.2.2.2.2.2.2.1.length, bS r5116.2.1, .own 5 0 r5116.2.2.2.2.2.2.2.2.2.1.length, .own 6 0 r5116.2.2.2.2.2.2.2.2.2.2.1.length]), (9, .row 34 [bS r5116.2.2.1, bS r5116.2.2.2.1, bS r5116.2.2.2.2.1, iS r5116.2.2.2.2.2.1, iS r5116.2.2.2.2.2.2.1, .own 7 0 r5116.2.2.2.2.2.2.2.2.2.2.2.length]), (10, .row 30 (Enc.cells r5116.2.2.2.2.2.2.2.1)), (11, .row 3 (fl r5119.2.2.1)), (12, .row 39 (fl r5119.2.2.2.1)), (13, .row 39 (fl r5119.2.2.2.2)), (14, .row 3 (fl r5120.2.2.2.1)), (15, .row 39 (fl r5120.2.2.2.2.1)), (16, .row 39 (fl r5120.2.2.2.2.2)), (17, .row 25 [iS r5120.1, .own 14 0 r5120.2.2.2.1.length, bS r5120.2.1, .own 15 0 r5120.2.2.2.2.1.length, .own 16 0 r5120.2.2.2.2.2.length]), (18, .row 30 (Enc.cells r5120.2.2.1)), (19, .row 30 (Enc.cells r5122)), (20, .row 64 (fl r5124.2.2.2.2.2.2)), (21, .row 25 (Enc.cells r5124.1)), (22, .row 34 [bS r5124.2.1, bS r5124.2.2.1, bS r5124.2.2.2.1, iS r5124.2.2.2.2.1, iS r5124.2.2.2.2.2.1, .own 20 0 r5124.2.2.2.2.2.2.length])] 23 (by kernel_rfl) ?_
              exact hK5140 ((!r5142), r5120.1, r5120.2.1, r5120.2.2.1, r5122, r5120.2.2.2.1, r5120.2.2.2.2.1, r5120.2.2.2.2.2) _ _ _ h (leSt_m [(0, 0), (1, 17), (2, 18), (3, 19), (4, 14), (5, 15), (6, 16)] [] (by (try simp only [g5141]) <;> simp only [push_cast, seval]) (by (try simp only [g5141]) <;> simp only [push_cast, seval]) rfl rfl rfl)
            · refine rs 5 [] [] (by kernel_rfl) allP_nil ?_
              refine rf [(1, iS task), (2, .ptr 0 0), (8, .ptr 17 0), (9, .ptr 18 0), (10, .ptr 19 0), (54, bS false)] [(0, .row 25 (Enc.cells p)), (1, .row 3 (fl r5115.2.2.1)), (2, .row 39 (fl r5115.2.2.2.1)), (3, .row 39 (fl r5115.2.2.2.2)), (4, .row 3 (fl r5116.2.2.2.2.2.2.2.2.1)), (5, .row 39 (fl r5116.2.2.2.2.2.2.2.2.2.1)), (6, .row 39 (fl r5116.2.2.2.2.2.2.2.2.2.2.1)), (7, .row 64 (fl r5116.2.2.2.2.2.2.2.2.2.2.2)), (8, .row 25 [iS r5116.1, .own 4 0 r5116.2.2.2.2.2.2.2.2.1.length, bS r5116.2.1, .own 5 0 r5116.2.2.2.2.2.2.2.2.2.1.length, .own 6 0 r5116.2.2.2.2.2.2.2.2.2.2.1.length]), (9, .row 34 [bS r5116.2.2.1, bS r5116.2.2.2.1, bS r5116.2.2.2.2.1, iS r5116.2.2.2.2.2.1, iS r5116.2.2.2.2.2.2.1, .own 7 0 r5116.2.2.2.2.2.2.2.2.2.2.2.length]), (10, .row 30 (Enc.cells r5116.2.2.2.2.2.2.2.1)), (11, .row 3 (fl r5119.2.2.1)), (12, .row 39 (fl r5119.2.2.2.1)), (13, .row 39 (fl r5119.2.2.2.2)), (14, .row 3 (fl r5120.2.2.2.1)), (15, .row 39 (fl r5120.2.2.2.2.1)), (16, .row 39 (fl r5120.2.2.2.2.2)), (17, .row 25 [iS r5120.1, .own 14 0 r5120.2.2.2.1.length, bS r5120.2.1, .own 15 0 r5120.2.2.2.2.1.length, .own 16 0 r5120.2.2.2.2.2.length]), (18, .row 30 (Enc.cells r5120.2.2.1)), (19, .row 30 (Enc.cells r5122)), (20, .row 64 (fl r5124.2.2.2.2.2.2)), (21, .row 25 (Enc.cells r5124.1)), (22, .row 34 [bS r5124.2.1, bS r5124.2.2.1, bS r5124.2.2.2.1, iS r5124.2.2.2.2.1, iS r5124.2.2.2.2.2.1, .own 20 0 r5124.2.2.2.2.2.2.length])] 23 (by kernel_rfl) ?_
              exact hK5140 (false, r5120.1, r5120.2.1, r5120.2.2.1, r5122, r5120.2.2.2.1, r5120.2.2.2.2.1, r5120.2.2.2.2.2) _ _ _ h (leSt_m [(0, 0), (1, 17), (2, 18), (3, 19), (4, 14), (5, 15), (6, 16)] [] (by (try simp only [g5141]) <;> simp only [push_cast, seval]) (by (try simp only [g5141]) <;> simp only [push_cast, seval]) rfl rfl rfl)
          · rintro ⟨t54q2, c1_Cap4, c1_Closed4, c2q4, c3q4, c4q4, c5q4, c6q4⟩ h
            try dsimp only at h ⊢
            unfold taskmilllaw_PipeShuts_j2 at h
            refine cond_sx h (by kernel_rfl) (fun g5145 h => ?_) (fun g5145 h => ?_)
            · refine reg_f ?_
              obtain ⟨r5144, hr5144, h⟩ := bind_sx h
              refine run_call 31 [iS 6, iS 0] (some 55) (by kernel_rfl) ?_
              refine call_0 (taskmillref_F_spec 6 0 r5144 hr5144) (by simp only [push_cast, seval]) (by simp only [push_cast, seval]) ?_
              refine back_f ?_
              refine rs 1 [] [] (by kernel_rfl) allP_nil ?_
              refine rf [(1, iS task), (2, .ptr 0 0), (8, .ptr 1 0), (9, .ptr 2 0), (10, .ptr 3 0)] [(0, .row 25 (Enc.cells p)), (1, .row 25 [iS c1_Cap4, .own 4 0 c4q4.length, bS c1_Closed4, .own 5 0 c5q4.length, .own 6 0 c6q4.length]), (2, .row 30 (Enc.cells c2q4)), (3, .row 30 (Enc.cells r5144)), (4, .row 3 (fl c4q4)), (5, .row 39 (fl c5q4)), (6, .row 39 (fl c6q4))] 7 (by kernel_rfl) ?_
              exact hK5136 (c1_Cap4, c1_Closed4, c2q4, r5144, c4q4, c5q4, c6q4) _ _ _ h (leSt_m [(0, 0), (1, 1), (2, 2), (3, 3), (4, 4), (5, 5), (6, 6)] [] (by simp only [push_cast, seval]) (by simp only [push_cast, seval]) rfl rfl rfl)
            · exact hK5136 (c1_Cap4, c1_Closed4, c2q4, c3q4, c4q4, c5q4, c6q4) _ _ _ h (leSt_m [(0, 0), (1, 1), (2, 2), (3, 3), (4, 4), (5, 5), (6, 6)] [] (by simp only [push_cast, seval]) (by simp only [push_cast, seval]) rfl rfl rfl)
        · rintro ⟨c1_Cap3, c1_Closed3, c2q3, c3q3, c4q3, c5q3, c6q3⟩ h
          try dsimp only at h ⊢
          unfold taskmilllaw_PipeShuts_j1 at h
          refine seq_np ?_
          refine reg_t ?_
          refine rs 13 [] [] (by kernel_rfl) allP_nil ?_
          obtain ⟨r5149, hr5149, h⟩ := bind_sx h
          refine call_x (taskmillref_Gone_spec p.Senders task r5149 hr5149) (args := [.sl p.Senders.length (fl p.Senders), iS task]) (dst := (some 69)) (by kernel_rfl) [(0, .row 25 (Enc.cells p)), (1, .row 25 [iS c1_Cap3, .own 4 0 c4q3.length, bS c1_Closed3, .own 5 0 c5q3.length, .own 6 0 c6q3.length]), (2, .row 30 (Enc.cells c2q3)), (3, .row 30 (Enc.cells c3q3)), (4, .row 3 (fl c4q3)), (5, .row 39 (fl c5q3)), (6, .row 39 (fl c6q3))] 20 (by kernel_rfl) [] [] (.own 20 0 r5149.length) [(20, .row 39 (fl r5149))] (by simp only [push_cast, seval]) (by simp only [push_cast, seval]) (by kernel_rfl) (.inl rfl) (by simp only [push_cast, seval]) (by simp only [push_cast, seval]) ?_
          refine rs 3 [] [] (by kernel_rfl) allP_nil ?_
          obtain ⟨r5150, hr5150, h⟩ := bind_sx h
          refine call_x (taskmillref_Gone_spec p.Getters task r5150 hr5150) (args := [.sl p.Getters.length (fl p.Getters), iS task]) (dst := (some 73)) (by kernel_rfl) [(0, .row 25 (Enc.cells p)), (1, .row 25 [iS c1_Cap3, .own 4 0 c4q3.length, bS c1_Closed3, .own 5 0 c5q3.length, .own 6 0 c6q3.length]), (2, .row 30 (Enc.cells c2q3)), (3, .row 30 (Enc.cells c3q3)), (4, .row 3 (fl c4q3)), (5, .row 39 (fl c5q3)), (6, .row 39 (fl c6q3)), (20, .row 39 (fl r5149))] 25 (by kernel_rfl) [] [] (.own 25 0 r5150.length) [(25, .row 39 (fl r5150))] (by simp only [push_cast, seval]) (by simp only [push_cast, seval]) (by kernel_rfl) (.inl rfl) (by simp only [push_cast, seval]) (by simp only [push_cast, seval]) ?_
          refine rs 2 [] [] (by kernel_rfl) allP_nil ?_
          obtain ⟨r5151, hr5151, h⟩ := bind_sx h
          refine call_x (taskmilllaw_pipeAs_spec (Pipe.mk c1_Cap3 c4q3 c1_Closed3 c5q3 c6q3) (Answer.mk false false false 0 0 []) c2q3 c3q3 (Pipe.mk p.Cap p.Items p.Closed r5149 r5150) (Answer.mk false false false 0 0 []) r5151 hr5151) (args := [.agg [iS c1_Cap3, .own 4 0 c4q3.length, bS c1_Closed3, .own 5 0 c5q3.length, .own 6 0 c6q3.length], .agg [bS false, bS false, bS false, iS 0, iS 0, .v (.slice none 0 0)], .agg (Enc.cells c2q3), .agg (Enc.cells c3q3), .agg [iS p.Cap, .sl p.Items.length (fl p.Items), bS p.Closed, .own 20 0 r5149.length, .own 25 0 r5150.length], .agg [bS false, bS false, bS false, iS 0, iS 0, .v (.slice none 0 0)]]) (dst := (some 76)) (by kernel_rfl) [(0, .row 25 (Enc.cells p)), (1, .row 25 [iS c1_Cap3, .own 4 0 c4q3.length, bS c1_Closed3, .own 5 0 c5q3.length, .own 6 0 c6q3.length]), (2, .row 30 (Enc.cells c2q3)), (3, .row 30 (Enc.cells c3q3)), (4, .row 3 (fl c4q3)), (5, .row 39 (fl c5q3)), (6, .row 39 (fl c6q3)), (20, .row 39 (fl r5149)), (25, .row 39 (fl r5150))] 29 (by kernel_rfl) [] [4, 5, 6, 20, 25] (bS r5151) [] (by simp only [push_cast, seval]) (by simp only [push_cast, seval]) (by kernel_rfl) (.inr ⟨by simp only [push_cast, seval], by simp only [push_cast, seval]⟩) (by simp only [push_cast, seval]) (by simp only [push_cast, seval]) ?_
          refine rs 1 [] [] (by kernel_rfl) allP_nil ?_
          refine rt [(4, bS r5151)] [(0, .row 25 (Enc.cells p)), (1, .row 25 [iS c1_Cap3, .own 4 0 c4q3.length, bS c1_Closed3, .own 5 0 c5q3.length, .own 6 0 c6q3.length]), (2, .row 30 (Enc.cells c2q3)), (3, .row 30 (Enc.cells c3q3)), (4, .row 3 (fl c4q3)), (5, .row 39 (fl c5q3)), (6, .row 39 (fl c6q3)), (20, .row 39 (fl r5149)), (25, .row 39 (fl r5150))] 31 follows (by kernel_rfl) ?_
          refine wk_id ?_
          obtain rfl := Option.some.inj h
          refine ret_at (bS r5151) (by kernel_rfl) ?_
          exact ret_e [] [] (by simp only [push_cast, seval]) (by simp only [push_cast, seval]) rfl rfl rfl

end Go.Proofs.Ytconaimaibephaa
