/-
 What laws of the chapter pick compute, and lemmas on it.
 No conditions.
-/
import Derived.Test.YtcpmhpobhnakeaapickWPickShutsUpto2
set_option linter.unusedSimpArgs false
set_option linter.unusedVariables false
namespace Go.Proofs.Ytcpmhpobhnakeaa
open Go Go.Sx
attribute [local irreducible] Wk RunAt
set_option maxRecDepth 100000 in
set_option maxHeartbeats 200000000 in
theorem pipe_Down_spec (pp : Int) (c0 : (List Pipe)) (r : Bool × Bool × Bool × Int × Int × (List GWake) × (List Pipe)) (h : pipe_Down pp c0 = some r) : SpecW Try.prog 53 [.ptr 0 (0 + (pp).toNat * 5)] [(0, .row 57 (flD dPipe [1, 2, 3] c0)), ((.s 1 0), .fam (famD dPipe 0 c0)), ((.s 2 0), .fam (famD dPipe 1 c0)), ((.s 3 0), .fam (famD dPipe 2 c0))] 4 (fun x h n => x = .agg [bS r.1, bS r.2.1, bS r.2.2.1, iS r.2.2.2.1, iS r.2.2.2.2.1, .own 4 0 r.2.2.2.2.2.1.length] ∧ h = [(0, .row 57 (flD dPipe [1, 5, 6] r.2.2.2.2.2.2)), ((.s 1 0), .fam (famD dPipe 0 r.2.2.2.2.2.2)), ((.s 2 0), .dead), ((.s 3 0), .dead), (4, .row 64 (fl r.2.2.2.2.2.1)), ((.s 5 0), .fam (famD dPipe 1 r.2.2.2.2.2.2)), ((.s 6 0), .fam (famD dPipe 2 r.2.2.2.2.2.2))] ∧ n = 7) := by
 unfold pipe_Down at h
 refine spec_of (draw_ok _) Try.func53 rfl (by decide) rfl (by kernel_rfl) ?_
 refine chk_sx h (fun g6965 h => ?_)
 have k6964 : 0 ≤ pp ∧ pp < ((c0.length : Nat) : Int) := of_decide_eq_true g6965
 refine seq_np ?_
 refine reg_f ?_
 refine rs 1 [] [] (by kernel_rfl) allP_nil ?_
 refine rf [(0, .ptr 0 (0 + (pp).toNat * 5)), (2, .ptr 4 0)] [(0, .row 57 (flD dPipe [1, 2, 3] c0)), ((.s 1 0), .fam (famD dPipe 0 c0)), ((.s 2 0), .fam (famD dPipe 1 c0)), ((.s 3 0), .fam (famD dPipe 2 c0)), (4, .row 33 [bS false, bS false, bS false, iS 0, iS 0, .v (.slice none 0 0)])] 5 (by kernel_rfl) ?_
 refine wk_id ?_
 refine seq_np ?_
 refine seq_np ?_
 refine reg_f ?_
 refine rs 4 [none, none, none, some ⟨bS (ixD c0 pp).Closed, [], 5, [0]⟩] _ (by kernel_rfl) (allP_cons (ob_ldD dPipe [1, 2, 3] c0 pp 5 2 ((0 + (pp).toNat * 5) + 2) k6964 rfl (by decide) (by first | rfl | omega) (dflS Try.prog 4) (bS (ixD c0 pp).Closed) rfl 5 [0]) allP_nil) ?_
 refine rf [(0, .ptr 0 (0 + (pp).toNat * 5)), (2, .ptr 4 0), (11, bS (ixD c0 pp).Closed)] [(0, .row 57 (flD dPipe [1, 2, 3] c0)), ((.s 1 0), .fam (famD dPipe 0 c0)), ((.s 2 0), .fam (famD dPipe 1 c0)), ((.s 3 0), .fam (famD dPipe 2 c0)), (4, .row 33 [bS false, bS false, bS false, iS 0, iS 0, .v (.slice none 0 0)])] 5 (by kernel_rfl) ?_
 refine wk_id ?_
 refine cond_sx h (by kernel_rfl) (fun g7136 h => ?_) (fun g7136 h => ?_)
 ·refine seq_np ?_
  refine reg_f ?_
  refine rs 2 [] [] (by kernel_rfl) allP_nil ?_
  refine rf [(2, .ptr 4 0)] [(0, .row 57 (flD dPipe [1, 2, 3] c0)), ((.s 1 0), .fam (famD dPipe 0 c0)), ((.s 2 0), .fam (famD dPipe 1 c0)), ((.s 3 0), .fam (famD dPipe 2 c0)), (4, .row 33 [bS true, bS true, bS false, iS 0, iS 0, .v (.slice none 0 0)])] 5 (by kernel_rfl) ?_
  refine wk_id ?_
  obtain rfl := Option.some.inj h
  refine ret_at (.agg [bS true, bS true, bS false, iS 0, iS 0, .v (.slice none 0 0)]) (by kernel_rfl) ?_
  exact ret_e [(0, 0), ((.s 1 0), (.s 1 0)), ((.s 5 0), (.s 2 0)), ((.s 6 0), (.s 3 0))] [] (by simp only [push_cast, leL_flD, renL_flD, seval]) (by simp only [push_cast, leL_flD, renL_flD, seval]) rfl rfl rfl
 ·refine wk_id ?_
  refine seq_np ?_
  refine reg_f ?_
  refine rs 3 [] [] (by kernel_rfl) allP_nil ?_
  refine rf [(0, .ptr 0 (0 + (pp).toNat * 5)), (2, .ptr 4 0), (3, .ptr 5 0)] [(0, .row 57 (flD dPipe [1, 2, 3] c0)), ((.s 1 0), .fam (famD dPipe 0 c0)), ((.s 2 0), .fam (famD dPipe 1 c0)), ((.s 3 0), .fam (famD dPipe 2 c0)), (4, .row 33 [bS false, bS false, bS false, iS 0, iS 0, .v (.slice none 0 0)]), (5, .row 33 [bS true, bS false, bS false, iS 0, iS 0, .v (.slice none 0 0)])] 6 (by kernel_rfl) ?_
  refine wk_id ?_
  refine seq_np ?_
  refine seq_np ?_
  refine reg_f ?_
  refine rs 6 [none, none, none, some ⟨.own (.s 3 pp) 0 (ixD c0 pp).Getters.length, [], 6, [0]⟩] _ (by kernel_rfl) (allP_cons (ob_ldD dPipe [1, 2, 3] c0 pp 5 4 ((0 + (pp).toNat * 5) + 4) k6964 rfl (by decide) (by first | rfl | omega) (dflS Try.prog 55) (.own (.s 3 pp) 0 (ixD c0 pp).Getters.length) rfl 6 [0]) allP_nil) ?_
  refine rf [(0, .ptr 0 (0 + (pp).toNat * 5)), (2, .ptr 4 0), (3, .ptr 5 0), (17, .own (.s 3 pp) 0 (ixD c0 pp).Getters.length), (18, iS (((ixD c0 pp).Getters.length : Nat) : Int)), (19, iS 0)] [(0, .row 57 (flD dPipe [1, 2, 3] c0)), ((.s 1 0), .fam (famD dPipe 0 c0)), ((.s 2 0), .fam (famD dPipe 1 c0)), ((.s 3 0), .fam (famD dPipe 2 c0)), (4, .row 33 [bS false, bS false, bS false, iS 0, iS 0, .v (.slice none 0 0)]), (5, .row 33 [bS true, bS false, bS false, iS 0, iS 0, .v (.slice none 0 0)])] 6 (by kernel_rfl) ?_
  refine wk_id ?_
  refine block_np ?_
  refine loop_sx (S := Int × (List GWake)) (fun a => ([(0, .ptr 0 (0 + (pp).toNat * 5)), (2, .ptr 4 0), (3, .ptr 5 0), (17, .own (.s 3 pp) 0 (ixD c0 pp).Getters.length), (18, iS (((ixD c0 pp).Getters.length : Nat) : Int)), (19, iS a.1)], [(0, .row 57 (flD dPipe [1, 2, 3] c0)), ((.s 1 0), .fam (famD dPipe 0 c0)), ((.s 2 0), .fam (famD dPipe 1 c0)), ((.s 3 0), .fam (famD dPipe 2 c0)), (4, .row 33 [bS false, bS false, bS false, iS 0, iS 0, .v (.slice none 0 0)]), (5, .row 33 [bS true, bS false, bS false, iS 0, iS 0, .own 6 0 a.2.length]), (6, .row 64 (fl a.2))], 7)) h (leSt_m [(0, 0), ((.s 1 0), (.s 1 0)), ((.s 2 0), (.s 2 0)), ((.s 3 0), (.s 3 0)), (4, 4), (5, 5)] [] (by simp only [push_cast, leL_flD, renL_flD, seval]) (by simp only [push_cast, leL_flD, renL_flD, seval]) rfl rfl rfl) ?_
  rintro ⟨t19q7, c6q9⟩ o3 R3 h hr3 hn3 hx3 ht3
  try dsimp only at h hn3 ⊢
  unfold pipe_Down_l2 at h
  try dsimp only at h
  refine seq_np ?_
  refine reg_f ?_
  refine rs 1 [] [] (by kernel_rfl) allP_nil ?_
  refine rf [(0, .ptr 0 (0 + (pp).toNat * 5)), (2, .ptr 4 0), (3, .ptr 5 0), (17, .own (.s 3 pp) 0 (ixD c0 pp).Getters.length), (18, iS (((ixD c0 pp).Getters.length : Nat) : Int)), (19, iS t19q7), (20, bS (decide (t19q7 < (((ixD c0 pp).Getters.length : Nat) : Int))))] [(0, .row 57 (flD dPipe [1, 2, 3] c0)), ((.s 1 0), .fam (famD dPipe 0 c0)), ((.s 2 0), .fam (famD dPipe 1 c0)), ((.s 3 0), .fam (famD dPipe 2 c0)), (4, .row 33 [bS false, bS false, bS false, iS 0, iS 0, .v (.slice none 0 0)]), (5, .row 33 [bS true, bS false, bS false, iS 0, iS 0, .own 6 0 c6q9.length]), (6, .row 64 (fl c6q9))] 7 (by kernel_rfl) ?_
  refine wk_id ?_
  refine seq_np ?_
  refine cond_sx h (by kernel_rfl) (fun g7135 h => ?_) (fun g7135 h => ?_)
  ·refine wk_id ?_
   refine seq_np ?_
   refine block_np ?_
   refine chk_sx h (fun g7059 h => ?_)
   refine seq_np ?_
   refine reg_f ?_
   have k7058 : 0 ≤ t19q7 ∧ t19q7 < (((ixD c0 pp).Getters.length : Nat) : Int) := by first | simpa only [Bool.and_eq_true, decide_eq_true_eq, bne_iff_ne, ne_eq] using g7059 | (simp at g7059 ⊢; omega)
   refine rs 4 [some ⟨.ptr (.s 3 pp) (0 + (t19q7).toNat * 3), [], 7, [(.s 3 0)]⟩, some ⟨.agg (Enc.cells (ix (ixD c0 pp).Getters t19q7)), [], 7, [(.s 3 0)]⟩] _ (by kernel_rfl) (allP_cons (ob_ldw (ixD c0 pp).Getters t19q7 3 (0 + (t19q7).toNat * 3) k7058 rfl (by first | rfl | omega) [iS (ix (ixD c0 pp).Getters t19q7).Task, iS (ix (ixD c0 pp).Getters t19q7).Case, iS (ix (ixD c0 pp).Getters t19q7).Value] rfl 7 [(.s 3 0)]) (allP_cons (ob_ix_o (.s 3 pp) (ixD c0 pp).Getters.length 0 3 7 t19q7 k7058) allP_nil)) ?_
   refine rf [(0, .ptr 0 (0 + (pp).toNat * 5)), (2, .ptr 4 0), (3, .ptr 5 0), (5, .ptr 7 0), (17, .own (.s 3 pp) 0 (ixD c0 pp).Getters.length), (18, iS (((ixD c0 pp).Getters.length : Nat) : Int)), (19, iS t19q7)] [(0, .row 57 (flD dPipe [1, 2, 3] c0)), ((.s 1 0), .fam (famD dPipe 0 c0)), ((.s 2 0), .fam (famD dPipe 1 c0)), ((.s 3 0), .fam (famD dPipe 2 c0)), (4, .row 33 [bS false, bS false, bS false, iS 0, iS 0, .v (.slice none 0 0)]), (5, .row 33 [bS true, bS false, bS false, iS 0, iS 0, .own 6 0 c6q9.length]), (6, .row 64 (fl c6q9)), (7, .row 92 (Enc.cells (ix (ixD c0 pp).Getters t19q7)))] 8 (by kernel_rfl) ?_
   refine wk_id ?_
   refine chk_sx h (fun g7063 h => ?_)
   refine reg_f ?_
   have k7062 : (c6q9 ++ ([(GWake.mk (ix (ixD c0 pp).Getters t19q7).Task (ix (ixD c0 pp).Getters t19q7).Case 0 false false)] : List GWake)).length * 32 ≤ 140737488355328 := by first | simpa only [Bool.and_eq_true, decide_eq_true_eq, bne_iff_ne, ne_eq] using g7063 | (simp at g7063 ⊢; omega)
   refine rs 11 [none, none, none, none, none, none, none, none, some ⟨.own 9 0 (c6q9 ++ ([(GWake.mk (ix (ixD c0 pp).Getters t19q7).Task (ix (ixD c0 pp).Getters t19q7).Case 0 false false)] : List GWake)).length, [(9, .row 64 (fl (c6q9 ++ ([(GWake.mk (ix (ixD c0 pp).Getters t19q7).Task (ix (ixD c0 pp).Getters t19q7).Case 0 false false)] : List GWake)))), (6, .dead)], 10, [6, 8]⟩] _ (by kernel_rfl) (allP_cons (ob_app (P := Try.prog) c6q9 ([(GWake.mk (ix (ixD c0 pp).Getters t19q7).Task (ix (ixD c0 pp).Getters t19q7).Case 0 false false)] : List GWake) 5 32 rfl (appCells (fl ([(GWake.mk (ix (ixD c0 pp).Getters t19q7).Task (ix (ixD c0 pp).Getters t19q7).Case 0 false false)] : List GWake)) 0 (([(GWake.mk (ix (ixD c0 pp).Getters t19q7).Task (ix (ixD c0 pp).Getters t19q7).Case 0 false false)] : List GWake).length * 5)) ([(GWake.mk (ix (ixD c0 pp).Getters t19q7).Task (ix (ixD c0 pp).Getters t19q7).Case 0 false false)] : List GWake).length (app_own ([(GWake.mk (ix (ixD c0 pp).Getters t19q7).Task (ix (ixD c0 pp).Getters t19q7).Case 0 false false)] : List GWake) 5 rfl) rfl (0 + ([(GWake.mk (ix (ixD c0 pp).Getters t19q7).Task (ix (ixD c0 pp).Getters t19q7).Case 0 false false)] : List GWake).length * 5 ≤ (fl ([(GWake.mk (ix (ixD c0 pp).Getters t19q7).Task (ix (ixD c0 pp).Getters t19q7).Case 0 false false)] : List GWake)).length) (app_own_le ([(GWake.mk (ix (ixD c0 pp).Getters t19q7).Task (ix (ixD c0 pp).Getters t19q7).Case 0 false false)] : List GWake) 5 rfl) 64 (by kernel_rfl) (by decide) k7062 6 9 [8]) allP_nil) ?_
   refine rf [(0, .ptr 0 (0 + (pp).toNat * 5)), (2, .ptr 4 0), (3, .ptr 5 0), (17, .own (.s 3 pp) 0 (ixD c0 pp).Getters.length), (18, iS (((ixD c0 pp).Getters.length : Nat) : Int)), (19, iS t19q7)] [(0, .row 57 (flD dPipe [1, 2, 3] c0)), ((.s 1 0), .fam (famD dPipe 0 c0)), ((.s 2 0), .fam (famD dPipe 1 c0)), ((.s 3 0), .fam (famD dPipe 2 c0)), (4, .row 33 [bS false, bS false, bS false, iS 0, iS 0, .v (.slice none 0 0)]), (5, .row 33 [bS true, bS false, bS false, iS 0, iS 0, .own 9 0 (c6q9 ++ ([(GWake.mk (ix (ixD c0 pp).Getters t19q7).Task (ix (ixD c0 pp).Getters t19q7).Case 0 false false)] : List GWake)).length]), (6, .dead), (7, .row 92 (Enc.cells (ix (ixD c0 pp).Getters t19q7))), (8, .row 64 (fl ([(GWake.mk (ix (ixD c0 pp).Getters t19q7).Task (ix (ixD c0 pp).Getters t19q7).Case 0 false false)] : List GWake))), (9, .row 64 (fl (c6q9 ++ ([(GWake.mk (ix (ixD c0 pp).Getters t19q7).Task (ix (ixD c0 pp).Getters t19q7).Case 0 false false)] : List GWake))))] 10 (by kernel_rfl) ?_
   refine wk_id ?_
   refine wk_id ?_
   refine reg_f ?_
   refine rs 2 [] [] (by kernel_rfl) allP_nil ?_
   refine rf [(0, .ptr 0 (0 + (pp).toNat * 5)), (2, .ptr 4 0), (3, .ptr 5 0), (17, .own (.s 3 pp) 0 (ixD c0 pp).Getters.length), (18, iS (((ixD c0 pp).Getters.length : Nat) : Int)), (19, iS (IntKind.i64.wrap (t19q7 + 1)))] [(0, .row 57 (flD dPipe [1, 2, 3] c0)), ((.s 1 0), .fam (famD dPipe 0 c0)), ((.s 2 0), .fam (famD dPipe 1 c0)), ((.s 3 0), .fam (famD dPipe 2 c0)), (4, .row 33 [bS false, bS false, bS false, iS 0, iS 0, .v (.slice none 0 0)]), (5, .row 33 [bS true, bS false, bS false, iS 0, iS 0, .own 9 0 (c6q9 ++ ([(GWake.mk (ix (ixD c0 pp).Getters t19q7).Task (ix (ixD c0 pp).Getters t19q7).Case 0 false false)] : List GWake)).length]), (6, .dead), (7, .row 92 (Enc.cells (ix (ixD c0 pp).Getters t19q7))), (8, .row 64 (fl ([(GWake.mk (ix (ixD c0 pp).Getters t19q7).Task (ix (ixD c0 pp).Getters t19q7).Case 0 false false)] : List GWake))), (9, .row 64 (fl (c6q9 ++ ([(GWake.mk (ix (ixD c0 pp).Getters t19q7).Task (ix (ixD c0 pp).Getters t19q7).Case 0 false false)] : List GWake))))] 10 (by kernel_rfl) ?_
   exact hn3 ((IntKind.i64.wrap (t19q7 + 1)), (c6q9 ++ ([(GWake.mk (ix (ixD c0 pp).Getters t19q7).Task (ix (ixD c0 pp).Getters t19q7).Case 0 false false)] : List GWake))) _ _ _ (Option.some.inj h).symm (leSt_m [(0, 0), ((.s 1 0), (.s 1 0)), ((.s 2 0), (.s 2 0)), ((.s 3 0), (.s 3 0)), (4, 4), (5, 5), (6, 9)] [] (by simp only [push_cast, leL_flD, renL_flD, seval]) (by simp only [push_cast, leL_flD, renL_flD, seval]) rfl rfl rfl)
  ·change R3 (.exit 0) _ _ _
   refine ex_cast hx3 (id := 0) ?_
   obtain ⟨r0, h, e0⟩ := map_sx h
   have e1 := hr3 r0 e0.symm
   subst r0
   refine wk_id ?_
   refine wk_id ?_
   refine seq_np ?_
   refine chk_sx h (fun g7085 h => ?_)
   refine seq_np ?_
   refine reg_f ?_
   have k7084 : 0 ≤ pp ∧ pp < ((c0.length : Nat) : Int) := by first | simpa only [Bool.and_eq_true, decide_eq_true_eq, bne_iff_ne, ne_eq] using g7085 | (simp at g7085 ⊢; omega)
   refine rs 6 [none, none, none, some ⟨.own (.s 2 pp) 0 (ixD c0 pp).Senders.length, [], 7, [0]⟩] _ (by kernel_rfl) (allP_cons (ob_ldD dPipe [1, 2, 3] c0 pp 5 3 ((0 + (pp).toNat * 5) + 3) k7084 rfl (by decide) (by first | rfl | omega) (dflS Try.prog 55) (.own (.s 2 pp) 0 (ixD c0 pp).Senders.length) rfl 7 [0]) allP_nil) ?_
   refine rf [(0, .ptr 0 (0 + (pp).toNat * 5)), (2, .ptr 4 0), (3, .ptr 5 0), (37, .own (.s 2 pp) 0 (ixD c0 pp).Senders.length), (38, iS (((ixD c0 pp).Senders.length : Nat) : Int)), (39, iS 0)] [(0, .row 57 (flD dPipe [1, 2, 3] c0)), ((.s 1 0), .fam (famD dPipe 0 c0)), ((.s 2 0), .fam (famD dPipe 1 c0)), ((.s 3 0), .fam (famD dPipe 2 c0)), (4, .row 33 [bS false, bS false, bS false, iS 0, iS 0, .v (.slice none 0 0)]), (5, .row 33 [bS true, bS false, bS false, iS 0, iS 0, .own 6 0 c6q9.length]), (6, .row 64 (fl c6q9))] 7 (by kernel_rfl) ?_
   refine wk_id ?_
   refine block_np ?_
   refine loop_sx (S := Int × (List GWake)) (fun a => ([(0, .ptr 0 (0 + (pp).toNat * 5)), (2, .ptr 4 0), (3, .ptr 5 0), (37, .own (.s 2 pp) 0 (ixD c0 pp).Senders.length), (38, iS (((ixD c0 pp).Senders.length : Nat) : Int)), (39, iS a.1)], [(0, .row 57 (flD dPipe [1, 2, 3] c0)), ((.s 1 0), .fam (famD dPipe 0 c0)), ((.s 2 0), .fam (famD dPipe 1 c0)), ((.s 3 0), .fam (famD dPipe 2 c0)), (4, .row 33 [bS false, bS false, bS false, iS 0, iS 0, .v (.slice none 0 0)]), (5, .row 33 [bS true, bS false, bS false, iS 0, iS 0, .own 6 0 a.2.length]), (6, .row 64 (fl a.2))], 7)) h (leSt_m [(0, 0), ((.s 1 0), (.s 1 0)), ((.s 2 0), (.s 2 0)), ((.s 3 0), (.s 3 0)), (4, 4), (5, 5), (6, 6)] [] (by simp only [push_cast, leL_flD, renL_flD, seval]) (by simp only [push_cast, leL_flD, renL_flD, seval]) rfl rfl rfl) ?_
   rintro ⟨t39q7, c6q15⟩ o4 R4 h hr4 hn4 hx4 ht4
   try dsimp only at h hn4 ⊢
   unfold pipe_Down_l1 at h
   try dsimp only at h
   refine seq_np ?_
   refine reg_f ?_
   refine rs 1 [] [] (by kernel_rfl) allP_nil ?_
   refine rf [(0, .ptr 0 (0 + (pp).toNat * 5)), (2, .ptr 4 0), (3, .ptr 5 0), (37, .own (.s 2 pp) 0 (ixD c0 pp).Senders.length), (38, iS (((ixD c0 pp).Senders.length : Nat) : Int)), (39, iS t39q7), (40, bS (decide (t39q7 < (((ixD c0 pp).Senders.length : Nat) : Int))))] [(0, .row 57 (flD dPipe [1, 2, 3] c0)), ((.s 1 0), .fam (famD dPipe 0 c0)), ((.s 2 0), .fam (famD dPipe 1 c0)), ((.s 3 0), .fam (famD dPipe 2 c0)), (4, .row 33 [bS false, bS false, bS false, iS 0, iS 0, .v (.slice none 0 0)]), (5, .row 33 [bS true, bS false, bS false, iS 0, iS 0, .own 6 0 c6q15.length]), (6, .row 64 (fl c6q15))] 7 (by kernel_rfl) ?_
   refine wk_id ?_
   refine seq_np ?_
   refine cond_sx h (by kernel_rfl) (fun g7134 h => ?_) (fun g7134 h => ?_)
   ·refine wk_id ?_
    refine seq_np ?_
    refine block_np ?_
    refine chk_sx h (fun g7125 h => ?_)
    refine seq_np ?_
    refine reg_f ?_
    have k7124 : 0 ≤ t39q7 ∧ t39q7 < (((ixD c0 pp).Senders.length : Nat) : Int) := by first | simpa only [Bool.and_eq_true, decide_eq_true_eq, bne_iff_ne, ne_eq] using g7125 | (simp at g7125 ⊢; omega)
    refine rs 4 [some ⟨.ptr (.s 2 pp) (0 + (t39q7).toNat * 3), [], 7, [(.s 2 0)]⟩, some ⟨.agg (Enc.cells (ix (ixD c0 pp).Senders t39q7)), [], 7, [(.s 2 0)]⟩] _ (by kernel_rfl) (allP_cons (ob_ldw (ixD c0 pp).Senders t39q7 3 (0 + (t39q7).toNat * 3) k7124 rfl (by first | rfl | omega) [iS (ix (ixD c0 pp).Senders t39q7).Task, iS (ix (ixD c0 pp).Senders t39q7).Case, iS (ix (ixD c0 pp).Senders t39q7).Value] rfl 7 [(.s 2 0)]) (allP_cons (ob_ix_o (.s 2 pp) (ixD c0 pp).Senders.length 0 3 7 t39q7 k7124) allP_nil)) ?_
    refine rf [(0, .ptr 0 (0 + (pp).toNat * 5)), (2, .ptr 4 0), (3, .ptr 5 0), (7, .ptr 7 0), (37, .own (.s 2 pp) 0 (ixD c0 pp).Senders.length), (38, iS (((ixD c0 pp).Senders.length : Nat) : Int)), (39, iS t39q7)] [(0, .row 57 (flD dPipe [1, 2, 3] c0)), ((.s 1 0), .fam (famD dPipe 0 c0)), ((.s 2 0), .fam (famD dPipe 1 c0)), ((.s 3 0), .fam (famD dPipe 2 c0)), (4, .row 33 [bS false, bS false, bS false, iS 0, iS 0, .v (.slice none 0 0)]), (5, .row 33 [bS true, bS false, bS false, iS 0, iS 0, .own 6 0 c6q15.length]), (6, .row 64 (fl c6q15)), (7, .row 92 (Enc.cells (ix (ixD c0 pp).Senders t39q7)))] 8 (by kernel_rfl) ?_
    refine wk_id ?_
    refine chk_sx h (fun g7129 h => ?_)
    refine reg_f ?_
    have k7128 : (c6q15 ++ ([(GWake.mk (ix (ixD c0 pp).Senders t39q7).Task (ix (ixD c0 pp).Senders t39q7).Case 0 false true)] : List GWake)).length * 32 ≤ 140737488355328 := by first | simpa only [Bool.and_eq_true, decide_eq_true_eq, bne_iff_ne, ne_eq] using g7129 | (simp at g7129 ⊢; omega)
    refine rs 11 [none, none, none, none, none, none, none, none, some ⟨.own 9 0 (c6q15 ++ ([(GWake.mk (ix (ixD c0 pp).Senders t39q7).Task (ix (ixD c0 pp).Senders t39q7).Case 0 false true)] : List GWake)).length, [(9, .row 64 (fl (c6q15 ++ ([(GWake.mk (ix (ixD c0 pp).Senders t39q7).Task (ix (ixD c0 pp).Senders t39q7).Case 0 false true)] : List GWake)))), (6, .dead)], 10, [6, 8]⟩] _ (by kernel_rfl) (allP_cons (ob_app (P := Try.prog) c6q15 ([(GWake.mk (ix (ixD c0 pp).Senders t39q7).Task (ix (ixD c0 pp).Senders t39q7).Case 0 false true)] : List GWake) 5 32 rfl (appCells (fl ([(GWake.mk (ix (ixD c0 pp).Senders t39q7).Task (ix (ixD c0 pp).Senders t39q7).Case 0 false true)] : List GWake)) 0 (([(GWake.mk (ix (ixD c0 pp).Senders t39q7).Task (ix (ixD c0 pp).Senders t39q7).Case 0 false true)] : List GWake).length * 5)) ([(GWake.mk (ix (ixD c0 pp).Senders t39q7).Task (ix (ixD c0 pp).Senders t39q7).Case 0 false true)] : List GWake).length (app_own ([(GWake.mk (ix (ixD c0 pp).Senders t39q7).Task (ix (ixD c0 pp).Senders t39q7).Case 0 false true)] : List GWake) 5 rfl) rfl (0 + ([(GWake.mk (ix (ixD c0 pp).Senders t39q7).Task (ix (ixD c0 pp).Senders t39q7).Case 0 false true)] : List GWake).length * 5 ≤ (fl ([(GWake.mk (ix (ixD c0 pp).Senders t39q7).Task (ix (ixD c0 pp).Senders t39q7).Case 0 false true)] : List GWake)).length) (app_own_le ([(GWake.mk (ix (ixD c0 pp).Senders t39q7).Task (ix (ixD c0 pp).Senders t39q7).Case 0 false true)] : List GWake) 5 rfl) 64 (by kernel_rfl) (by decide) k7128 6 9 [8]) allP_nil) ?_
    refine rf [(0, .ptr 0 (0 + (pp).toNat * 5)), (2, .ptr 4 0), (3, .ptr 5 0), (37, .own (.s 2 pp) 0 (ixD c0 pp).Senders.length), (38, iS (((ixD c0 pp).Senders.length : Nat) : Int)), (39, iS t39q7)] [(0, .row 57 (flD dPipe [1, 2, 3] c0)), ((.s 1 0), .fam (famD dPipe 0 c0)), ((.s 2 0), .fam (famD dPipe 1 c0)), ((.s 3 0), .fam (famD dPipe 2 c0)), (4, .row 33 [bS false, bS false, bS false, iS 0, iS 0, .v (.slice none 0 0)]), (5, .row 33 [bS true, bS false, bS false, iS 0, iS 0, .own 9 0 (c6q15 ++ ([(GWake.mk (ix (ixD c0 pp).Senders t39q7).Task (ix (ixD c0 pp).Senders t39q7).Case 0 false true)] : List GWake)).length]), (6, .dead), (7, .row 92 (Enc.cells (ix (ixD c0 pp).Senders t39q7))), (8, .row 64 (fl ([(GWake.mk (ix (ixD c0 pp).Senders t39q7).Task (ix (ixD c0 pp).Senders t39q7).Case 0 false true)] : List GWake))), (9, .row 64 (fl (c6q15 ++ ([(GWake.mk (ix (ixD c0 pp).Senders t39q7).Task (ix (ixD c0 pp).Senders t39q7).Case 0 false true)] : List GWake))))] 10 (by kernel_rfl) ?_
    refine wk_id ?_
    refine wk_id ?_
    refine reg_f ?_
    refine rs 2 [] [] (by kernel_rfl) allP_nil ?_
    refine rf [(0, .ptr 0 (0 + (pp).toNat * 5)), (2, .ptr 4 0), (3, .ptr 5 0), (37, .own (.s 2 pp) 0 (ixD c0 pp).Senders.length), (38, iS (((ixD c0 pp).Senders.length : Nat) : Int)), (39, iS (IntKind.i64.wrap (t39q7 + 1)))] [(0, .row 57 (flD dPipe [1, 2, 3] c0)), ((.s 1 0), .fam (famD dPipe 0 c0)), ((.s 2 0), .fam (famD dPipe 1 c0)), ((.s 3 0), .fam (famD dPipe 2 c0)), (4, .row 33 [bS false, bS false, bS false, iS 0, iS 0, .v (.slice none 0 0)]), (5, .row 33 [bS true, bS false, bS false, iS 0, iS 0, .own 9 0 (c6q15 ++ ([(GWake.mk (ix (ixD c0 pp).Senders t39q7).Task (ix (ixD c0 pp).Senders t39q7).Case 0 false true)] : List GWake)).length]), (6, .dead), (7, .row 92 (Enc.cells (ix (ixD c0 pp).Senders t39q7))), (8, .row 64 (fl ([(GWake.mk (ix (ixD c0 pp).Senders t39q7).Task (ix (ixD c0 pp).Senders t39q7).Case 0 false true)] : List GWake))), (9, .row 64 (fl (c6q15 ++ ([(GWake.mk (ix (ixD c0 pp).Senders t39q7).Task (ix (ixD c0 pp).Senders t39q7).Case 0 false true)] : List GWake))))] 10 (by kernel_rfl) ?_
    exact hn4 ((IntKind.i64.wrap (t39q7 + 1)), (c6q15 ++ ([(GWake.mk (ix (ixD c0 pp).Senders t39q7).Task (ix (ixD c0 pp).Senders t39q7).Case 0 false true)] : List GWake))) _ _ _ (Option.some.inj h).symm (leSt_m [(0, 0), ((.s 1 0), (.s 1 0)), ((.s 2 0), (.s 2 0)), ((.s 3 0), (.s 3 0)), (4, 4), (5, 5), (6, 9)] [] (by simp only [push_cast, leL_flD, renL_flD, seval]) (by simp only [push_cast, leL_flD, renL_flD, seval]) rfl rfl rfl)
   ·change R4 (.exit 2) _ _ _
    refine ex_cast hx4 (id := 2) ?_
    obtain ⟨r0, h, e0⟩ := map_sx h
    have e1 := hr4 r0 e0.symm
    subst r0
    refine wk_id ?_
    refine wk_id ?_
    refine chk_sx h (fun g7133 h => ?_)
    refine seq_np ?_
    refine reg_f ?_
    have k7132 : 0 ≤ pp ∧ pp < ((c0.length : Nat) : Int) := by first | simpa only [Bool.and_eq_true, decide_eq_true_eq, bne_iff_ne, ne_eq] using g7133 | (simp at g7133 ⊢; omega)
    refine rs 6 [none, none, none, none, none, some ⟨.any, [(0, .row 57 (flD dPipe [1, 2, 3] (c0.set pp.toNat ({ (ixD c0 pp) with Closed := true } : Pipe))))], 7, [0]⟩] _ (by kernel_rfl) (allP_cons (ob_stD (P := Try.prog) dPipe [1, 2, 3] c0 pp 5 2 ((0 + (pp).toNat * 5) + 2) k7132 rfl [bS true] ({ (ixD c0 pp) with Closed := true } : Pipe) (Nat.le_of_ble_eq_true rfl) (by first | rfl | omega) rfl 0 7 57 4 (by kernel_rfl) rfl) allP_nil) ?_
    refine run_eqS 1 (famD dPipe 0 c0) (famD dPipe 0 (c0.set pp.toNat ({ (ixD c0 pp) with Closed := true } : Pipe))) (famD_same k7132 ({ (ixD c0 pp) with Closed := true } : Pipe) rfl) (by kernel_rfl) ?_
    refine run_eqS 2 (famD dPipe 1 c0) (famD dPipe 1 (c0.set pp.toNat ({ (ixD c0 pp) with Closed := true } : Pipe))) (famD_same k7132 ({ (ixD c0 pp) with Closed := true } : Pipe) rfl) (by kernel_rfl) ?_
    refine run_eqS 3 (famD dPipe 2 c0) (famD dPipe 2 (c0.set pp.toNat ({ (ixD c0 pp) with Closed := true } : Pipe))) (famD_same k7132 ({ (ixD c0 pp) with Closed := true } : Pipe) rfl) (by kernel_rfl) ?_
    refine rs 2 [] [] (by kernel_rfl) allP_nil ?_
    refine run_opG none _ ⟨.any, [(0, .row 57 (flN dPipe (nA [(some 1), (some 2), (some 3)] [(some (.s 1 pp)), (some (.s 2 pp)), none] pp) 0 ((c0.set pp.toNat ({ (ixD c0 pp) with Closed := true } : Pipe)).set pp.toNat ({ (ixD (c0.set pp.toNat ({ (ixD c0 pp) with Closed := true } : Pipe)) pp) with Getters := [] } : Pipe))))], 7, [0]⟩ [((.s 7 0), .fam (famD dPipe 2 ((c0.set pp.toNat ({ (ixD c0 pp) with Closed := true } : Pipe)).set pp.toNat ({ (ixD (c0.set pp.toNat ({ (ixD c0 pp) with Closed := true } : Pipe)) pp) with Getters := [] } : Pipe)))), (0, .row 57 (flD dPipe [1, 2, 7] ((c0.set pp.toNat ({ (ixD c0 pp) with Closed := true } : Pipe)).set pp.toNat ({ (ixD (c0.set pp.toNat ({ (ixD c0 pp) with Closed := true } : Pipe)) pp) with Getters := [] } : Pipe)))), ((.s 3 0), .dead)] 1 [0, (.s 3 0)] [(.s 3 0)] (by kernel_rfl) (ob_stN (P := Try.prog) dPipe [1, 2, 3] [(some (.s 1 pp)), (some (.s 2 pp)), none] (c0.set pp.toNat ({ (ixD c0 pp) with Closed := true } : Pipe)) pp 5 4 ((0 + (pp).toNat * 5) + 4) (by rw [List.length_set]; exact k7132) rfl [.v (.slice none 0 0)] ({ (ixD (c0.set pp.toNat ({ (ixD c0 pp) with Closed := true } : Pipe)) pp) with Getters := [] } : Pipe) (Nat.le_of_ble_eq_true rfl) (by first | rfl | omega) rfl rfl 0 7 57 55 (by kernel_rfl) rfl) (ghost_A 7 dPipe ((c0.set pp.toNat ({ (ixD c0 pp) with Closed := true } : Pipe)).set pp.toNat ({ (ixD (c0.set pp.toNat ({ (ixD c0 pp) with Closed := true } : Pipe)) pp) with Getters := [] } : Pipe)) 0 57 [(some 1), (some 2), (some 3)] [(some (.s 1 pp)), (some (.s 2 pp)), none] pp (flD dPipe [1, 2, 7] ((c0.set pp.toNat ({ (ixD c0 pp) with Closed := true } : Pipe)).set pp.toNat ({ (ixD (c0.set pp.toNat ({ (ixD c0 pp) with Closed := true } : Pipe)) pp) with Getters := [] } : Pipe))) 2 (some 3) none (by kernel_rfl) (flN_done dPipe [1, 2, 7] pp ((c0.set pp.toNat ({ (ixD c0 pp) with Closed := true } : Pipe)).set pp.toNat ({ (ixD (c0.set pp.toNat ({ (ixD c0 pp) with Closed := true } : Pipe)) pp) with Getters := [] } : Pipe)) rfl) (by kernel_rfl) ⟨_, (by kernel_rfl), (off_set (c0.set pp.toNat ({ (ixD c0 pp) with Closed := true } : Pipe)) pp ({ (ixD (c0.set pp.toNat ({ (ixD c0 pp) with Closed := true } : Pipe)) pp) with Getters := [] } : Pipe) (by rw [List.length_set]; exact k7132))⟩ (S_set (fun a => nilLeaf dPipe 2 a) (by rw [List.length_set]; exact k7132) ⟨_, rfl⟩)) (by kernel_rfl) ?_
    refine run_eqS 1 (famD dPipe 0 (c0.set pp.toNat ({ (ixD c0 pp) with Closed := true } : Pipe))) (famD dPipe 0 ((c0.set pp.toNat ({ (ixD c0 pp) with Closed := true } : Pipe)).set pp.toNat ({ (ixD (c0.set pp.toNat ({ (ixD c0 pp) with Closed := true } : Pipe)) pp) with Getters := [] } : Pipe))) (famD_same (by rw [List.length_set]; exact k7132) ({ (ixD (c0.set pp.toNat ({ (ixD c0 pp) with Closed := true } : Pipe)) pp) with Getters := [] } : Pipe) rfl) (by kernel_rfl) ?_
    refine run_eqS 2 (famD dPipe 1 (c0.set pp.toNat ({ (ixD c0 pp) with Closed := true } : Pipe))) (famD dPipe 1 ((c0.set pp.toNat ({ (ixD c0 pp) with Closed := true } : Pipe)).set pp.toNat ({ (ixD (c0.set pp.toNat ({ (ixD c0 pp) with Closed := true } : Pipe)) pp) with Getters := [] } : Pipe))) (famD_same (by rw [List.length_set]; exact k7132) ({ (ixD (c0.set pp.toNat ({ (ixD c0 pp) with Closed := true } : Pipe)) pp) with Getters := [] } : Pipe) rfl) (by kernel_rfl) ?_
    refine rs 2 [] [] (by kernel_rfl) allP_nil ?_
    refine run_opG none _ ⟨.any, [(0, .row 57 (flN dPipe (nA [(some 1), (some 2), (some 7)] [(some (.s 1 pp)), none, (some (.s 7 pp))] pp) 0 (((c0.set pp.toNat ({ (ixD c0 pp) with Closed := true } : Pipe)).set pp.toNat ({ (ixD (c0.set pp.toNat ({ (ixD c0 pp) with Closed := true } : Pipe)) pp) with Getters := [] } : Pipe)).set pp.toNat ({ (ixD ((c0.set pp.toNat ({ (ixD c0 pp) with Closed := true } : Pipe)).set pp.toNat ({ (ixD (c0.set pp.toNat ({ (ixD c0 pp) with Closed := true } : Pipe)) pp) with Getters := [] } : Pipe)) pp) with Senders := [] } : Pipe))))], 8, [0]⟩ [((.s 8 0), .fam (famD dPipe 1 (((c0.set pp.toNat ({ (ixD c0 pp) with Closed := true } : Pipe)).set pp.toNat ({ (ixD (c0.set pp.toNat ({ (ixD c0 pp) with Closed := true } : Pipe)) pp) with Getters := [] } : Pipe)).set pp.toNat ({ (ixD ((c0.set pp.toNat ({ (ixD c0 pp) with Closed := true } : Pipe)).set pp.toNat ({ (ixD (c0.set pp.toNat ({ (ixD c0 pp) with Closed := true } : Pipe)) pp) with Getters := [] } : Pipe)) pp) with Senders := [] } : Pipe)))), (0, .row 57 (flD dPipe [1, 8, 7] (((c0.set pp.toNat ({ (ixD c0 pp) with Closed := true } : Pipe)).set pp.toNat ({ (ixD (c0.set pp.toNat ({ (ixD c0 pp) with Closed := true } : Pipe)) pp) with Getters := [] } : Pipe)).set pp.toNat ({ (ixD ((c0.set pp.toNat ({ (ixD c0 pp) with Closed := true } : Pipe)).set pp.toNat ({ (ixD (c0.set pp.toNat ({ (ixD c0 pp) with Closed := true } : Pipe)) pp) with Getters := [] } : Pipe)) pp) with Senders := [] } : Pipe)))), ((.s 2 0), .dead)] 1 [0, (.s 2 0)] [(.s 2 0)] (by kernel_rfl) (ob_stN (P := Try.prog) dPipe [1, 2, 7] [(some (.s 1 pp)), none, (some (.s 7 pp))] ((c0.set pp.toNat ({ (ixD c0 pp) with Closed := true } : Pipe)).set pp.toNat ({ (ixD (c0.set pp.toNat ({ (ixD c0 pp) with Closed := true } : Pipe)) pp) with Getters := [] } : Pipe)) pp 5 3 ((0 + (pp).toNat * 5) + 3) (by rw [List.length_set]; exact (by rw [List.length_set]; exact k7132)) rfl [.v (.slice none 0 0)] ({ (ixD ((c0.set pp.toNat ({ (ixD c0 pp) with Closed := true } : Pipe)).set pp.toNat ({ (ixD (c0.set pp.toNat ({ (ixD c0 pp) with Closed := true } : Pipe)) pp) with Getters := [] } : Pipe)) pp) with Senders := [] } : Pipe) (Nat.le_of_ble_eq_true rfl) (by first | rfl | omega) rfl rfl 0 8 57 55 (by kernel_rfl) rfl) (ghost_A 8 dPipe (((c0.set pp.toNat ({ (ixD c0 pp) with Closed := true } : Pipe)).set pp.toNat ({ (ixD (c0.set pp.toNat ({ (ixD c0 pp) with Closed := true } : Pipe)) pp) with Getters := [] } : Pipe)).set pp.toNat ({ (ixD ((c0.set pp.toNat ({ (ixD c0 pp) with Closed := true } : Pipe)).set pp.toNat ({ (ixD (c0.set pp.toNat ({ (ixD c0 pp) with Closed := true } : Pipe)) pp) with Getters := [] } : Pipe)) pp) with Senders := [] } : Pipe)) 0 57 [(some 1), (some 2), (some 7)] [(some (.s 1 pp)), none, (some (.s 7 pp))] pp (flD dPipe [1, 8, 7] (((c0.set pp.toNat ({ (ixD c0 pp) with Closed := true } : Pipe)).set pp.toNat ({ (ixD (c0.set pp.toNat ({ (ixD c0 pp) with Closed := true } : Pipe)) pp) with Getters := [] } : Pipe)).set pp.toNat ({ (ixD ((c0.set pp.toNat ({ (ixD c0 pp) with Closed := true } : Pipe)).set pp.toNat ({ (ixD (c0.set pp.toNat ({ (ixD c0 pp) with Closed := true } : Pipe)) pp) with Getters := [] } : Pipe)) pp) with Senders := [] } : Pipe))) 1 (some 2) none (by kernel_rfl) (flN_done dPipe [1, 8, 7] pp (((c0.set pp.toNat ({ (ixD c0 pp) with Closed := true } : Pipe)).set pp.toNat ({ (ixD (c0.set pp.toNat ({ (ixD c0 pp) with Closed := true } : Pipe)) pp) with Getters := [] } : Pipe)).set pp.toNat ({ (ixD ((c0.set pp.toNat ({ (ixD c0 pp) with Closed := true } : Pipe)).set pp.toNat ({ (ixD (c0.set pp.toNat ({ (ixD c0 pp) with Closed := true } : Pipe)) pp) with Getters := [] } : Pipe)) pp) with Senders := [] } : Pipe)) rfl) (by kernel_rfl) ⟨_, (by kernel_rfl), (off_set ((c0.set pp.toNat ({ (ixD c0 pp) with Closed := true } : Pipe)).set pp.toNat ({ (ixD (c0.set pp.toNat ({ (ixD c0 pp) with Closed := true } : Pipe)) pp) with Getters := [] } : Pipe)) pp ({ (ixD ((c0.set pp.toNat ({ (ixD c0 pp) with Closed := true } : Pipe)).set pp.toNat ({ (ixD (c0.set pp.toNat ({ (ixD c0 pp) with Closed := true } : Pipe)) pp) with Getters := [] } : Pipe)) pp) with Senders := [] } : Pipe) (by rw [List.length_set]; exact (by rw [List.length_set]; exact k7132)))⟩ (S_set (fun a => nilLeaf dPipe 1 a) (by rw [List.length_set]; exact (by rw [List.length_set]; exact k7132)) ⟨_, rfl⟩)) (by kernel_rfl) ?_
    refine run_eqS 1 (famD dPipe 0 ((c0.set pp.toNat ({ (ixD c0 pp) with Closed := true } : Pipe)).set pp.toNat ({ (ixD (c0.set pp.toNat ({ (ixD c0 pp) with Closed := true } : Pipe)) pp) with Getters := [] } : Pipe))) (famD dPipe 0 (((c0.set pp.toNat ({ (ixD c0 pp) with Closed := true } : Pipe)).set pp.toNat ({ (ixD (c0.set pp.toNat ({ (ixD c0 pp) with Closed := true } : Pipe)) pp) with Getters := [] } : Pipe)).set pp.toNat ({ (ixD ((c0.set pp.toNat ({ (ixD c0 pp) with Closed := true } : Pipe)).set pp.toNat ({ (ixD (c0.set pp.toNat ({ (ixD c0 pp) with Closed := true } : Pipe)) pp) with Getters := [] } : Pipe)) pp) with Senders := [] } : Pipe))) (famD_same (by rw [List.length_set]; exact (by rw [List.length_set]; exact k7132)) ({ (ixD ((c0.set pp.toNat ({ (ixD c0 pp) with Closed := true } : Pipe)).set pp.toNat ({ (ixD (c0.set pp.toNat ({ (ixD c0 pp) with Closed := true } : Pipe)) pp) with Getters := [] } : Pipe)) pp) with Senders := [] } : Pipe) rfl) (by kernel_rfl) ?_
    refine run_eqS 7 (famD dPipe 2 ((c0.set pp.toNat ({ (ixD c0 pp) with Closed := true } : Pipe)).set pp.toNat ({ (ixD (c0.set pp.toNat ({ (ixD c0 pp) with Closed := true } : Pipe)) pp) with Getters := [] } : Pipe))) (famD dPipe 2 (((c0.set pp.toNat ({ (ixD c0 pp) with Closed := true } : Pipe)).set pp.toNat ({ (ixD (c0.set pp.toNat ({ (ixD c0 pp) with Closed := true } : Pipe)) pp) with Getters := [] } : Pipe)).set pp.toNat ({ (ixD ((c0.set pp.toNat ({ (ixD c0 pp) with Closed := true } : Pipe)).set pp.toNat ({ (ixD (c0.set pp.toNat ({ (ixD c0 pp) with Closed := true } : Pipe)) pp) with Getters := [] } : Pipe)) pp) with Senders := [] } : Pipe))) (famD_same (by rw [List.length_set]; exact (by rw [List.length_set]; exact k7132)) ({ (ixD ((c0.set pp.toNat ({ (ixD c0 pp) with Closed := true } : Pipe)).set pp.toNat ({ (ixD (c0.set pp.toNat ({ (ixD c0 pp) with Closed := true } : Pipe)) pp) with Getters := [] } : Pipe)) pp) with Senders := [] } : Pipe) rfl) (by kernel_rfl) ?_
    refine rf [(2, .ptr 4 0), (3, .ptr 5 0)] [(0, .row 57 (flD dPipe [1, 8, 7] (((c0.set pp.toNat ({ (ixD c0 pp) with Closed := true } : Pipe)).set pp.toNat ({ (ixD (c0.set pp.toNat ({ (ixD c0 pp) with Closed := true } : Pipe)) pp) with Getters := [] } : Pipe)).set pp.toNat ({ (ixD ((c0.set pp.toNat ({ (ixD c0 pp) with Closed := true } : Pipe)).set pp.toNat ({ (ixD (c0.set pp.toNat ({ (ixD c0 pp) with Closed := true } : Pipe)) pp) with Getters := [] } : Pipe)) pp) with Senders := [] } : Pipe)))), ((.s 1 0), .fam (famD dPipe 0 (((c0.set pp.toNat ({ (ixD c0 pp) with Closed := true } : Pipe)).set pp.toNat ({ (ixD (c0.set pp.toNat ({ (ixD c0 pp) with Closed := true } : Pipe)) pp) with Getters := [] } : Pipe)).set pp.toNat ({ (ixD ((c0.set pp.toNat ({ (ixD c0 pp) with Closed := true } : Pipe)).set pp.toNat ({ (ixD (c0.set pp.toNat ({ (ixD c0 pp) with Closed := true } : Pipe)) pp) with Getters := [] } : Pipe)) pp) with Senders := [] } : Pipe)))), ((.s 2 0), .dead), ((.s 3 0), .dead), (4, .row 33 [bS false, bS false, bS false, iS 0, iS 0, .v (.slice none 0 0)]), (5, .row 33 [bS true, bS false, bS false, iS 0, iS 0, .own 6 0 c6q15.length]), (6, .row 64 (fl c6q15)), ((.s 7 0), .fam (famD dPipe 2 (((c0.set pp.toNat ({ (ixD c0 pp) with Closed := true } : Pipe)).set pp.toNat ({ (ixD (c0.set pp.toNat ({ (ixD c0 pp) with Closed := true } : Pipe)) pp) with Getters := [] } : Pipe)).set pp.toNat ({ (ixD ((c0.set pp.toNat ({ (ixD c0 pp) with Closed := true } : Pipe)).set pp.toNat ({ (ixD (c0.set pp.toNat ({ (ixD c0 pp) with Closed := true } : Pipe)) pp) with Getters := [] } : Pipe)) pp) with Senders := [] } : Pipe)))), ((.s 8 0), .fam (famD dPipe 1 (((c0.set pp.toNat ({ (ixD c0 pp) with Closed := true } : Pipe)).set pp.toNat ({ (ixD (c0.set pp.toNat ({ (ixD c0 pp) with Closed := true } : Pipe)) pp) with Getters := [] } : Pipe)).set pp.toNat ({ (ixD ((c0.set pp.toNat ({ (ixD c0 pp) with Closed := true } : Pipe)).set pp.toNat ({ (ixD (c0.set pp.toNat ({ (ixD c0 pp) with Closed := true } : Pipe)) pp) with Getters := [] } : Pipe)) pp) with Senders := [] } : Pipe))))] 9 (by kernel_rfl) ?_
    refine wk_id ?_
    refine seq_np ?_
    refine reg_f ?_
    refine rs 2 [] [] (by kernel_rfl) allP_nil ?_
    refine rf [(2, .ptr 4 0)] [(0, .row 57 (flD dPipe [1, 8, 7] (((c0.set pp.toNat ({ (ixD c0 pp) with Closed := true } : Pipe)).set pp.toNat ({ (ixD (c0.set pp.toNat ({ (ixD c0 pp) with Closed := true } : Pipe)) pp) with Getters := [] } : Pipe)).set pp.toNat ({ (ixD ((c0.set pp.toNat ({ (ixD c0 pp) with Closed := true } : Pipe)).set pp.toNat ({ (ixD (c0.set pp.toNat ({ (ixD c0 pp) with Closed := true } : Pipe)) pp) with Getters := [] } : Pipe)) pp) with Senders := [] } : Pipe)))), ((.s 1 0), .fam (famD dPipe 0 (((c0.set pp.toNat ({ (ixD c0 pp) with Closed := true } : Pipe)).set pp.toNat ({ (ixD (c0.set pp.toNat ({ (ixD c0 pp) with Closed := true } : Pipe)) pp) with Getters := [] } : Pipe)).set pp.toNat ({ (ixD ((c0.set pp.toNat ({ (ixD c0 pp) with Closed := true } : Pipe)).set pp.toNat ({ (ixD (c0.set pp.toNat ({ (ixD c0 pp) with Closed := true } : Pipe)) pp) with Getters := [] } : Pipe)) pp) with Senders := [] } : Pipe)))), ((.s 2 0), .dead), ((.s 3 0), .dead), (4, .row 33 [bS true, bS false, bS false, iS 0, iS 0, .own 6 0 c6q15.length]), (5, .row 33 [bS true, bS false, bS false, iS 0, iS 0, .own 6 0 c6q15.length]), (6, .row 64 (fl c6q15)), ((.s 7 0), .fam (famD dPipe 2 (((c0.set pp.toNat ({ (ixD c0 pp) with Closed := true } : Pipe)).set pp.toNat ({ (ixD (c0.set pp.toNat ({ (ixD c0 pp) with Closed := true } : Pipe)) pp) with Getters := [] } : Pipe)).set pp.toNat ({ (ixD ((c0.set pp.toNat ({ (ixD c0 pp) with Closed := true } : Pipe)).set pp.toNat ({ (ixD (c0.set pp.toNat ({ (ixD c0 pp) with Closed := true } : Pipe)) pp) with Getters := [] } : Pipe)) pp) with Senders := [] } : Pipe)))), ((.s 8 0), .fam (famD dPipe 1 (((c0.set pp.toNat ({ (ixD c0 pp) with Closed := true } : Pipe)).set pp.toNat ({ (ixD (c0.set pp.toNat ({ (ixD c0 pp) with Closed := true } : Pipe)) pp) with Getters := [] } : Pipe)).set pp.toNat ({ (ixD ((c0.set pp.toNat ({ (ixD c0 pp) with Closed := true } : Pipe)).set pp.toNat ({ (ixD (c0.set pp.toNat ({ (ixD c0 pp) with Closed := true } : Pipe)) pp) with Getters := [] } : Pipe)) pp) with Senders := [] } : Pipe))))] 9 (by kernel_rfl) ?_
    refine wk_id ?_
    obtain rfl := Option.some.inj h
    refine ret_at (.agg [bS true, bS false, bS false, iS 0, iS 0, .own 6 0 c6q15.length]) (by kernel_rfl) ?_
    exact ret_e [(0, 0), ((.s 1 0), (.s 1 0)), (4, 6), ((.s 5 0), (.s 8 0)), ((.s 6 0), (.s 7 0))] [] (by simp only [push_cast, leL_flD, renL_flD, seval]) (by simp only [push_cast, leL_flD, renL_flD, seval]) rfl rfl rfl

set_option maxRecDepth 100000 in
set_option maxHeartbeats 200000000 in
theorem pick_Shut_spec (l : (List Pipe)) (i : Int) (r : Bool × Bool × Bool × Int × Int × Fault × (List Pipe) × (List GWake)) (h : pick_Shut l i = some r) : SpecW Try.prog 26 [.sl l.length (fl l), iS i] [] 0 (fun x h n => x = .tup [.own 0 0 r.2.2.2.2.2.2.1.length, .agg [bS r.1, bS r.2.1, bS r.2.2.1, iS r.2.2.2.1, iS r.2.2.2.2.1, .own 1 0 r.2.2.2.2.2.2.2.length], .agg (Enc.cells r.2.2.2.2.2.1)] ∧ h = [(0, .row 57 (flD dPipe [2, 3, 4] r.2.2.2.2.2.2.1)), (1, .row 64 (fl r.2.2.2.2.2.2.2)), ((.s 2 0), .fam (famD dPipe 0 r.2.2.2.2.2.2.1)), ((.s 3 0), .fam (famD dPipe 1 r.2.2.2.2.2.2.1)), ((.s 4 0), .fam (famD dPipe 2 r.2.2.2.2.2.2.1))] ∧ n = 5) := by
 unfold pick_Shut at h
 refine spec_of (draw_ok _) Try.func26 rfl (by decide) rfl (by kernel_rfl) ?_
 refine seq_np ?_
 refine reg_f ?_
 refine rs 3 [] [] (by kernel_rfl) allP_nil ?_
 refine rf [(0, .sl l.length (fl l)), (1, iS i), (5, .ptr 0 0), (6, .ptr 1 0)] [(0, .row 33 [bS false, bS false, bS false, iS 0, iS 0, .v (.slice none 0 0)]), (1, .row 29 [iS 0, iS 0])] 2 (by kernel_rfl) ?_
 refine wk_id ?_
 refine seq_np ?_
 refine seq_np ?_
 refine reg_f ?_
 refine rs 1 [] [] (by kernel_rfl) allP_nil ?_
 obtain ⟨r7148, hr7148, h⟩ := bind_sx h
 refine run_call 12 [.sl l.length (fl l)] (some 11) (by kernel_rfl) ?_
 refine call_0 (pick_Check_spec l r7148 hr7148) (by simp only [push_cast, leL_flD, renL_flD, seval]) (by simp only [push_cast, leL_flD, renL_flD, seval]) ?_
 refine back_f ?_
 refine rs 2 [] [] (by kernel_rfl) allP_nil ?_
 refine rf [(0, .sl l.length (fl l)), (1, iS i), (5, .ptr 0 0), (6, .ptr 1 0), (7, .ptr 2 0)] [(0, .row 33 [bS false, bS false, bS false, iS 0, iS 0, .v (.slice none 0 0)]), (1, .row 29 [iS 0, iS 0]), (2, .row 29 (Enc.cells r7148))] 3 (by kernel_rfl) ?_
 refine wk_id ?_
 refine seq_np ?_
 refine reg_f ?_
 refine rs 3 [] [] (by kernel_rfl) allP_nil ?_
 refine rf [(0, .sl l.length (fl l)), (1, iS i), (5, .ptr 0 0), (6, .ptr 1 0), (7, .ptr 2 0), (14, bS (r7148.Code != 0))] [(0, .row 33 [bS false, bS false, bS false, iS 0, iS 0, .v (.slice none 0 0)]), (1, .row 29 [iS 0, iS 0]), (2, .row 29 (Enc.cells r7148))] 3 (by kernel_rfl) ?_
 refine wk_id ?_
 refine cond_sx h (by kernel_rfl) (fun g7180 h => ?_) (fun g7180 h => ?_)
 ·refine seq_np ?_
  refine reg_t ?_
  refine rs 5 [] [] (by kernel_rfl) allP_nil ?_
  refine rt [(4, .v (.slice none 0 0)), (5, .ptr 0 0), (6, .ptr 1 0)] [(0, .row 33 [bS false, bS false, bS false, iS 0, iS 0, .v (.slice none 0 0)]), (1, .row 29 (Enc.cells r7148)), (2, .row 29 (Enc.cells r7148))] 8 follows (by kernel_rfl) ?_
  refine wk_id ?_
  obtain rfl := Option.some.inj h
  refine ret_at (.tup [.v (.slice none 0 0), .agg [bS false, bS false, bS false, iS 0, iS 0, .v (.slice none 0 0)], .agg (Enc.cells r7148)]) (by kernel_rfl) ?_
  exact ret_e [] [] (by simp only [push_cast, leL_flD, renL_flD, seval]) (by simp only [push_cast, leL_flD, renL_flD, seval]) rfl rfl rfl
 ·refine wk_id ?_
  refine seq_np ?_
  refine seq_cut (A := Unit) (fun _ => ([(0, .sl l.length (fl l)), (1, iS i), (5, .ptr 0 0), (6, .ptr 1 0), (24, bS ((decide (i < 0)) || (decide (((l.length : Nat) : Int) ≤ i))))], [(0, .row 33 [bS false, bS false, bS false, iS 0, iS 0, .v (.slice none 0 0)]), (1, .row 29 [iS 0, iS 0]), (2, .row 29 (Enc.cells r7148))], 3)) (fun _ => True) (fun K7153 hK7153 => ?_) (fun _ _ => ?_)
  ·refine reg_f ?_
   refine rs 3 [] [] (by kernel_rfl) allP_nil ?_
   refine run_split 19 (decide (i < 0)) (.inl (by kernel_rfl)) (fun g7154 => ?_) (fun g7154 => ?_)
   ·refine rs 5 [] [] (by kernel_rfl) allP_nil ?_
    refine rf [(0, .sl l.length (fl l)), (1, iS i), (5, .ptr 0 0), (6, .ptr 1 0), (24, bS true)] [(0, .row 33 [bS false, bS false, bS false, iS 0, iS 0, .v (.slice none 0 0)]), (1, .row 29 [iS 0, iS 0]), (2, .row 29 (Enc.cells r7148))] 3 (by kernel_rfl) ?_
    exact hK7153 () _ _ _ trivial (leSt_m [(0, 0), (1, 1), (2, 2)] [] (by (try simp only [g7154]) <;> simp only [push_cast, leL_flD, renL_flD, seval]) (by (try simp only [g7154]) <;> simp only [push_cast, leL_flD, renL_flD, seval]) rfl rfl rfl)
   ·refine rs 5 [] [] (by kernel_rfl) allP_nil ?_
    refine rf [(0, .sl l.length (fl l)), (1, iS i), (5, .ptr 0 0), (6, .ptr 1 0), (24, bS (decide (((l.length : Nat) : Int) ≤ i)))] [(0, .row 33 [bS false, bS false, bS false, iS 0, iS 0, .v (.slice none 0 0)]), (1, .row 29 [iS 0, iS 0]), (2, .row 29 (Enc.cells r7148))] 3 (by kernel_rfl) ?_
    exact hK7153 () _ _ _ trivial (leSt_m [(0, 0), (1, 1), (2, 2)] [] (by (try simp only [g7154]) <;> simp only [push_cast, leL_flD, renL_flD, seval]) (by (try simp only [g7154]) <;> simp only [push_cast, leL_flD, renL_flD, seval]) rfl rfl rfl)
  ·dsimp only
   refine cond_sx h (by kernel_rfl) (fun g7179 h => ?_) (fun g7179 h => ?_)
   ·refine seq_np ?_
    refine reg_f ?_
    refine rs 1 [] [] (by kernel_rfl) allP_nil ?_
    obtain ⟨r7156, hr7156, h⟩ := bind_sx h
    refine run_call 42 [iS 3, iS (-1)] (some 26) (by kernel_rfl) ?_
    refine call_0 (pick_fault_spec 3 (-1) r7156 hr7156) (by simp only [push_cast, leL_flD, renL_flD, seval]) (by simp only [push_cast, leL_flD, renL_flD, seval]) ?_
    refine back_f ?_
    refine rs 3 [] [] (by kernel_rfl) allP_nil ?_
    refine rf [(4, .v (.slice none 0 0)), (5, .ptr 0 0), (6, .ptr 1 0)] [(0, .row 33 [bS false, bS false, bS false, iS 0, iS 0, .v (.slice none 0 0)]), (1, .row 29 (Enc.cells r7156)), (2, .row 29 (Enc.cells r7148))] 3 (by kernel_rfl) ?_
    refine wk_id ?_
    obtain rfl := Option.some.inj h
    refine ret_at (.tup [.v (.slice none 0 0), .agg [bS false, bS false, bS false, iS 0, iS 0, .v (.slice none 0 0)], .agg (Enc.cells r7156)]) (by kernel_rfl) ?_
    exact ret_e [] [] (by simp only [push_cast, leL_flD, renL_flD, seval]) (by simp only [push_cast, leL_flD, renL_flD, seval]) rfl rfl rfl
   ·refine wk_id ?_
    refine seq_np ?_
    refine reg_f ?_
    refine rs 1 [] [] (by kernel_rfl) allP_nil ?_
    obtain ⟨r7158, hr7158, h⟩ := bind_sx h
    refine call_x (pick_copied_spec l r7158 hr7158) (args := [.sl l.length (fl l)]) (dst := (some 28)) (by kernel_rfl) [(0, .row 33 [bS false, bS false, bS false, iS 0, iS 0, .v (.slice none 0 0)]), (1, .row 29 [iS 0, iS 0]), (2, .row 29 (Enc.cells r7148))] 3 (by kernel_rfl) [] [] (.own 3 0 r7158.length) [(3, .row 57 (flD dPipe [4, 5, 6] r7158)), ((.s 4 0), .fam (famD dPipe 0 r7158)), ((.s 5 0), .fam (famD dPipe 1 r7158)), ((.s 6 0), .fam (famD dPipe 2 r7158))] (by simp only [push_cast, leL_flD, renL_flD, seval]) (by simp only [push_cast, leL_flD, renL_flD, seval]) (by kernel_rfl) (.inl rfl) (by first | (simp only [push_cast, leL_flD, renL_flD, seval]; done) | (simp only [push_cast, leL_flD, renL_flD, seval]; kernel_rfl) | kernel_rfl) (by first | (simp only [push_cast, leL_flD, renL_flD, seval]; done) | (simp only [push_cast, leL_flD, renL_flD, seval]; kernel_rfl) | kernel_rfl) ?_
    refine rs 1 [] [] (by kernel_rfl) allP_nil ?_
    refine rf [(1, iS i), (5, .ptr 0 0), (6, .ptr 1 0), (8, .own 3 0 r7158.length)] [(0, .row 33 [bS false, bS false, bS false, iS 0, iS 0, .v (.slice none 0 0)]), (1, .row 29 [iS 0, iS 0]), (2, .row 29 (Enc.cells r7148)), (3, .row 57 (flD dPipe [4, 5, 6] r7158)), ((.s 4 0), .fam (famD dPipe 0 r7158)), ((.s 5 0), .fam (famD dPipe 1 r7158)), ((.s 6 0), .fam (famD dPipe 2 r7158))] 7 (by kernel_rfl) ?_
    refine wk_id ?_
    refine chk_sx h (fun g7165 h => ?_)
    refine seq_np ?_
    refine reg_f ?_
    have k7164 : 0 ≤ i ∧ i < ((r7158.length : Nat) : Int) := by first | simpa only [Bool.and_eq_true, decide_eq_true_eq, bne_iff_ne, ne_eq] using g7165 | (simp at g7165 ⊢; omega)
    refine rs 3 [none, none, some ⟨.ptr 3 (0 + (i).toNat * 5), [], 7, [3]⟩] _ (by kernel_rfl) (allP_cons (ob_ix_o 3 r7158.length 0 5 7 i k7164) allP_nil) ?_
    obtain ⟨r7166, hr7166, h⟩ := bind_sx h
    refine call_x (pipe_Down_spec i r7158 r7166 hr7166) (args := [.ptr 3 (0 + (i).toNat * 5)]) (dst := (some 32)) (by kernel_rfl) [(0, .row 33 [bS false, bS false, bS false, iS 0, iS 0, .v (.slice none 0 0)]), (1, .row 29 [iS 0, iS 0]), (2, .row 29 (Enc.cells r7148)), (3, .row 57 (flD dPipe [4, 5, 6] r7158)), ((.s 4 0), .fam (famD dPipe 0 r7158)), ((.s 5 0), .fam (famD dPipe 1 r7158)), ((.s 6 0), .fam (famD dPipe 2 r7158))] 7 (by kernel_rfl) [(0, 3), ((.s 1 0), (.s 4 0)), ((.s 2 0), (.s 5 0)), ((.s 3 0), (.s 6 0))] [] (.agg [bS r7166.1, bS r7166.2.1, bS r7166.2.2.1, iS r7166.2.2.2.1, iS r7166.2.2.2.2.1, .own 11 0 r7166.2.2.2.2.2.1.length]) [(3, .row 57 (flD dPipe [4, 12, 13] r7166.2.2.2.2.2.2)), ((.s 4 0), .fam (famD dPipe 0 r7166.2.2.2.2.2.2)), ((.s 5 0), .dead), ((.s 6 0), .dead), (11, .row 64 (fl r7166.2.2.2.2.2.1)), ((.s 12 0), .fam (famD dPipe 1 r7166.2.2.2.2.2.2)), ((.s 13 0), .fam (famD dPipe 2 r7166.2.2.2.2.2.2)), (3, .dead), ((.s 4 0), .dead), ((.s 5 0), .dead), ((.s 6 0), .dead)] (by simp only [push_cast, leL_flD, renL_flD, seval]) (by simp only [push_cast, leL_flD, renL_flD, seval]) (by kernel_rfl) (.inl rfl) (by first | (simp only [push_cast, leL_flD, renL_flD, seval]; done) | (simp only [push_cast, leL_flD, renL_flD, seval]; kernel_rfl) | kernel_rfl) (by first | (simp only [push_cast, leL_flD, renL_flD, seval]; done) | (simp only [push_cast, leL_flD, renL_flD, seval]; kernel_rfl) | kernel_rfl) ?_ (hfam := (And.intro trivial (And.intro (fun _ => Or.inl rfl) (And.intro (fun _ => Or.inl rfl) (And.intro (fun _ => Or.inl rfl) trivial)))))
    refine chk_sx h (fun g7168 h => ?_)
    have e7167 : r7158.length = r7166.2.2.2.2.2.2.length := (of_decide_eq_true g7168).symm
    refine run_eqF 8 (.own 3 0 r7158.length) (.own 3 0 r7166.2.2.2.2.2.2.length) (congrArg (fun nq => (.own 3 0 nq : SV)) (show r7158.length = r7166.2.2.2.2.2.2.length from e7167)) (by kernel_rfl) ?_
    refine rs 2 [] [] (by kernel_rfl) allP_nil ?_
    refine rf [(5, .ptr 0 0), (6, .ptr 1 0), (8, .own 3 0 r7166.2.2.2.2.2.2.length), (9, .ptr 14 0)] [(0, .row 33 [bS false, bS false, bS false, iS 0, iS 0, .v (.slice none 0 0)]), (1, .row 29 [iS 0, iS 0]), (2, .row 29 (Enc.cells r7148)), (3, .row 57 (flD dPipe [4, 12, 13] r7166.2.2.2.2.2.2)), ((.s 4 0), .fam (famD dPipe 0 r7166.2.2.2.2.2.2)), ((.s 5 0), .dead), ((.s 6 0), .dead), (11, .row 64 (fl r7166.2.2.2.2.2.1)), ((.s 12 0), .fam (famD dPipe 1 r7166.2.2.2.2.2.2)), ((.s 13 0), .fam (famD dPipe 2 r7166.2.2.2.2.2.2)), (14, .row 33 [bS r7166.1, bS r7166.2.1, bS r7166.2.2.1, iS r7166.2.2.2.1, iS r7166.2.2.2.2.1, .own 11 0 r7166.2.2.2.2.2.1.length])] 15 (by kernel_rfl) ?_
    refine wk_id ?_
    refine seq_np ?_
    refine reg_f ?_
    refine rs 3 [] [] (by kernel_rfl) allP_nil ?_
    obtain ⟨r7174, hr7174, h⟩ := bind_sx h
    refine call_x (pick_hub_wake_1_spec r7166.2.2.2.2.2.2 r7166.2.2.2.2.2.1 r7174 hr7174) (args := [.own 3 0 r7166.2.2.2.2.2.2.length, .own 11 0 r7166.2.2.2.2.2.1.length]) (dst := (some 36)) (by kernel_rfl) [(0, .row 33 [bS false, bS false, bS false, iS 0, iS 0, .v (.slice none 0 0)]), (1, .row 29 [iS 0, iS 0]), (2, .row 29 (Enc.cells r7148)), (3, .row 57 (flD dPipe [4, 12, 13] r7166.2.2.2.2.2.2)), ((.s 4 0), .fam (famD dPipe 0 r7166.2.2.2.2.2.2)), ((.s 5 0), .dead), ((.s 6 0), .dead), (11, .row 64 (fl r7166.2.2.2.2.2.1)), ((.s 12 0), .fam (famD dPipe 1 r7166.2.2.2.2.2.2)), ((.s 13 0), .fam (famD dPipe 2 r7166.2.2.2.2.2.2)), (14, .row 33 [bS r7166.1, bS r7166.2.1, bS r7166.2.2.1, iS r7166.2.2.2.1, iS r7166.2.2.2.2.1, .own 11 0 r7166.2.2.2.2.2.1.length])] 15 (by kernel_rfl) [(0, 3), ((.s 1 0), (.s 4 0)), ((.s 2 0), (.s 12 0)), ((.s 3 0), (.s 13 0)), (4, 11)] [] (.tup []) [(3, .row 57 (flD dPipe [4, 20, 21] r7174.1)), ((.s 4 0), .fam (famD dPipe 0 r7174.1)), ((.s 12 0), .dead), ((.s 13 0), .dead), (11, .row 64 (fl r7174.2)), ((.s 20 0), .fam (famD dPipe 1 r7174.1)), ((.s 21 0), .fam (famD dPipe 2 r7174.1)), (3, .dead), ((.s 4 0), .dead), ((.s 12 0), .dead), ((.s 13 0), .dead), (11, .dead)] (by simp only [push_cast, leL_flD, renL_flD, seval]) (by simp only [push_cast, leL_flD, renL_flD, seval]) (by kernel_rfl) (.inl rfl) (by first | (simp only [push_cast, leL_flD, renL_flD, seval]; done) | (simp only [push_cast, leL_flD, renL_flD, seval]; kernel_rfl) | kernel_rfl) (by first | (simp only [push_cast, leL_flD, renL_flD, seval]; done) | (simp only [push_cast, leL_flD, renL_flD, seval]; kernel_rfl) | kernel_rfl) ?_ (hfam := (And.intro trivial (And.intro (fun _ => Or.inl rfl) (And.intro (fun _ => Or.inl rfl) (And.intro (fun _ => Or.inl rfl) (And.intro trivial trivial))))))
    refine chk_sx h (fun g7176 h => ?_)
    have e7175 : r7166.2.2.2.2.2.2.length = r7174.1.length := (of_decide_eq_true g7176).symm
    refine run_eqF 8 (.own 3 0 r7166.2.2.2.2.2.2.length) (.own 3 0 r7174.1.length) (congrArg (fun nq => (.own 3 0 nq : SV)) (show r7166.2.2.2.2.2.2.length = r7174.1.length from e7175)) (by kernel_rfl) ?_
    refine chk_sx h (fun g7178 h => ?_)
    have e7177 : r7166.2.2.2.2.2.1.length = r7174.2.length := (of_decide_eq_true g7178).symm
    refine run_eqH 14 (.row 33 [bS r7166.1, bS r7166.2.1, bS r7166.2.2.1, iS r7166.2.2.2.1, iS r7166.2.2.2.2.1, .own 11 0 r7166.2.2.2.2.2.1.length]) (.row 33 [bS r7166.1, bS r7166.2.1, bS r7166.2.2.1, iS r7166.2.2.2.1, iS r7166.2.2.2.2.1, .own 11 0 r7174.2.length]) (congrArg (fun nq => (.row 33 [bS r7166.1, bS r7166.2.1, bS r7166.2.2.1, iS r7166.2.2.2.1, iS r7166.2.2.2.2.1, .own 11 0 nq] : Chunk)) (show r7166.2.2.2.2.2.1.length = r7174.2.length from e7177)) (by kernel_rfl) ?_
    refine rf [(5, .ptr 0 0), (6, .ptr 1 0), (8, .own 3 0 r7174.1.length), (9, .ptr 14 0)] [(0, .row 33 [bS false, bS false, bS false, iS 0, iS 0, .v (.slice none 0 0)]), (1, .row 29 [iS 0, iS 0]), (2, .row 29 (Enc.cells r7148)), (3, .row 57 (flD dPipe [4, 20, 21] r7174.1)), ((.s 4 0), .fam (famD dPipe 0 r7174.1)), ((.s 5 0), .dead), ((.s 6 0), .dead), (11, .row 64 (fl r7174.2)), ((.s 12 0), .dead), ((.s 13 0), .dead), (14, .row 33 [bS r7166.1, bS r7166.2.1, bS r7166.2.2.1, iS r7166.2.2.2.1, iS r7166.2.2.2.2.1, .own 11 0 r7174.2.length]), ((.s 20 0), .fam (famD dPipe 1 r7174.1)), ((.s 21 0), .fam (famD dPipe 2 r7174.1))] 22 (by kernel_rfl) ?_
    refine wk_id ?_
    refine seq_np ?_
    refine reg_t ?_
    refine rs 6 [] [] (by kernel_rfl) allP_nil ?_
    refine rt [(4, .own 3 0 r7174.1.length), (5, .ptr 0 0), (6, .ptr 1 0)] [(0, .row 33 [bS r7166.1, bS r7166.2.1, bS r7166.2.2.1, iS r7166.2.2.2.1, iS r7166.2.2.2.2.1, .own 11 0 r7174.2.length]), (1, .row 29 [iS 0, iS 0]), (2, .row 29 (Enc.cells r7148)), (3, .row 57 (flD dPipe [4, 20, 21] r7174.1)), ((.s 4 0), .fam (famD dPipe 0 r7174.1)), ((.s 5 0), .dead), ((.s 6 0), .dead), (11, .row 64 (fl r7174.2)), ((.s 12 0), .dead), ((.s 13 0), .dead), (14, .row 33 [bS r7166.1, bS r7166.2.1, bS r7166.2.2.1, iS r7166.2.2.2.1, iS r7166.2.2.2.2.1, .own 11 0 r7174.2.length]), ((.s 20 0), .fam (famD dPipe 1 r7174.1)), ((.s 21 0), .fam (famD dPipe 2 r7174.1))] 28 follows (by kernel_rfl) ?_
    refine wk_id ?_
    obtain rfl := Option.some.inj h
    refine ret_at (.tup [.own 3 0 r7174.1.length, .agg [bS r7166.1, bS r7166.2.1, bS r7166.2.2.1, iS r7166.2.2.2.1, iS r7166.2.2.2.2.1, .own 11 0 r7174.2.length], .agg [iS 0, iS 0]]) (by kernel_rfl) ?_
    exact ret_e [(0, 3), (1, 11), ((.s 2 0), (.s 4 0)), ((.s 3 0), (.s 20 0)), ((.s 4 0), (.s 21 0))] [] (by simp only [push_cast, leL_flD, renL_flD, seval]) (by simp only [push_cast, leL_flD, renL_flD, seval]) rfl rfl rfl

set_option maxRecDepth 100000 in
set_option maxHeartbeats 200000000 in
theorem pick_Leave_spec (l : (List Pipe)) (task : Int) (r : Fault × (List Pipe)) (h : pick_Leave l task = some r) : SpecW Try.prog 30 [.sl l.length (fl l), iS task] [] 0 (fun x h n => x = .tup [.own 0 0 r.2.length, .agg (Enc.cells r.1)] ∧ h = [(0, .row 57 (flD dPipe [1, 2, 3] r.2)), ((.s 1 0), .fam (famD dPipe 0 r.2)), ((.s 2 0), .fam (famD dPipe 1 r.2)), ((.s 3 0), .fam (famD dPipe 2 r.2))] ∧ n = 4) := by
 unfold pick_Leave at h
 refine spec_of (draw_ok _) Try.func30 rfl (by decide) rfl (by kernel_rfl) ?_
 refine seq_np ?_
 refine reg_f ?_
 refine rs 2 [] [] (by kernel_rfl) allP_nil ?_
 refine rf [(0, .sl l.length (fl l)), (1, iS task), (5, .ptr 0 0)] [(0, .row 29 [iS 0, iS 0])] 1 (by kernel_rfl) ?_
 refine wk_id ?_
 refine seq_np ?_
 refine seq_np ?_
 refine reg_f ?_
 refine rs 1 [] [] (by kernel_rfl) allP_nil ?_
 obtain ⟨r11348, hr11348, h⟩ := bind_sx h
 refine run_call 12 [.sl l.length (fl l)] (some 9) (by kernel_rfl) ?_
 refine call_0 (pick_Check_spec l r11348 hr11348) (by simp only [push_cast, leL_flD, renL_flD, seval]) (by simp only [push_cast, leL_flD, renL_flD, seval]) ?_
 refine back_f ?_
 refine rs 2 [] [] (by kernel_rfl) allP_nil ?_
 refine rf [(0, .sl l.length (fl l)), (1, iS task), (5, .ptr 0 0), (6, .ptr 1 0)] [(0, .row 29 [iS 0, iS 0]), (1, .row 29 (Enc.cells r11348))] 2 (by kernel_rfl) ?_
 refine wk_id ?_
 refine seq_np ?_
 refine reg_f ?_
 refine rs 3 [] [] (by kernel_rfl) allP_nil ?_
 refine rf [(0, .sl l.length (fl l)), (1, iS task), (5, .ptr 0 0), (6, .ptr 1 0), (12, bS (r11348.Code != 0))] [(0, .row 29 [iS 0, iS 0]), (1, .row 29 (Enc.cells r11348))] 2 (by kernel_rfl) ?_
 refine wk_id ?_
 refine cond_sx h (by kernel_rfl) (fun g11367 h => ?_) (fun g11367 h => ?_)
 ·refine seq_np ?_
  refine reg_t ?_
  refine rs 3 [] [] (by kernel_rfl) allP_nil ?_
  refine rt [(4, .v (.slice none 0 0)), (5, .ptr 0 0)] [(0, .row 29 (Enc.cells r11348)), (1, .row 29 (Enc.cells r11348))] 5 follows (by kernel_rfl) ?_
  refine wk_id ?_
  obtain rfl := Option.some.inj h
  refine ret_at (.tup [.v (.slice none 0 0), .agg (Enc.cells r11348)]) (by kernel_rfl) ?_
  exact ret_e [] [] (by simp only [push_cast, leL_flD, renL_flD, seval]) (by simp only [push_cast, leL_flD, renL_flD, seval]) rfl rfl rfl
 ·refine wk_id ?_
  refine seq_np ?_
  refine reg_f ?_
  refine rs 1 [] [] (by kernel_rfl) allP_nil ?_
  obtain ⟨r11350, hr11350, h⟩ := bind_sx h
  refine call_x (pick_copied_spec l r11350 hr11350) (args := [.sl l.length (fl l)]) (dst := (some 15)) (by kernel_rfl) [(0, .row 29 [iS 0, iS 0]), (1, .row 29 (Enc.cells r11348))] 2 (by kernel_rfl) [] [] (.own 2 0 r11350.length) [(2, .row 57 (flD dPipe [3, 4, 5] r11350)), ((.s 3 0), .fam (famD dPipe 0 r11350)), ((.s 4 0), .fam (famD dPipe 1 r11350)), ((.s 5 0), .fam (famD dPipe 2 r11350))] (by simp only [push_cast, leL_flD, renL_flD, seval]) (by simp only [push_cast, leL_flD, renL_flD, seval]) (by kernel_rfl) (.inl rfl) (by first | (simp only [push_cast, leL_flD, renL_flD, seval]; done) | (simp only [push_cast, leL_flD, renL_flD, seval]; kernel_rfl) | kernel_rfl) (by first | (simp only [push_cast, leL_flD, renL_flD, seval]; done) | (simp only [push_cast, leL_flD, renL_flD, seval]; kernel_rfl) | kernel_rfl) ?_
  refine rs 1 [] [] (by kernel_rfl) allP_nil ?_
  refine rf [(1, iS task), (5, .ptr 0 0), (7, .own 2 0 r11350.length)] [(0, .row 29 [iS 0, iS 0]), (1, .row 29 (Enc.cells r11348)), (2, .row 57 (flD dPipe [3, 4, 5] r11350)), ((.s 3 0), .fam (famD dPipe 0 r11350)), ((.s 4 0), .fam (famD dPipe 1 r11350)), ((.s 5 0), .fam (famD dPipe 2 r11350))] 6 (by kernel_rfl) ?_
  refine wk_id ?_
  refine seq_np ?_
  refine seq_np ?_
  refine reg_f ?_
  refine rs 2 [] [] (by kernel_rfl) allP_nil ?_
  obtain ⟨r11355, hr11355, h⟩ := bind_sx h
  refine call_x (pick_hub_waits_spec r11350 task r11355 hr11355) (args := [.own 2 0 r11350.length, iS task]) (dst := (some 18)) (by kernel_rfl) [(0, .row 29 [iS 0, iS 0]), (1, .row 29 (Enc.cells r11348)), (2, .row 57 (flD dPipe [3, 4, 5] r11350)), ((.s 3 0), .fam (famD dPipe 0 r11350)), ((.s 4 0), .fam (famD dPipe 1 r11350)), ((.s 5 0), .fam (famD dPipe 2 r11350))] 6 (by kernel_rfl) [] [2, (.s 3 0), (.s 4 0), (.s 5 0)] (bS r11355) [] (by simp only [↓leS_frzD dPipe [3, 4, 5] r11350, leS_frz, leL_flD, renL_flD, push_cast, seval]) (by simp only [↓leS_frzD dPipe [3, 4, 5] r11350, leS_frz, leL_flD, renL_flD, push_cast, seval]) (by kernel_rfl) (.inr ⟨by simp only [push_cast, leL_flD, renL_flD, seval], by simp only [push_cast, leL_flD, renL_flD, seval]⟩) (by simp only [push_cast, leL_flD, renL_flD, seval]) (by simp only [push_cast, leL_flD, renL_flD, seval]) ?_
  refine rs 1 [] [] (by kernel_rfl) allP_nil ?_
  refine rf [(1, iS task), (5, .ptr 0 0), (7, .own 2 0 r11350.length), (19, bS (!r11355))] [(0, .row 29 [iS 0, iS 0]), (1, .row 29 (Enc.cells r11348)), (2, .row 57 (flD dPipe [3, 4, 5] r11350)), ((.s 3 0), .fam (famD dPipe 0 r11350)), ((.s 4 0), .fam (famD dPipe 1 r11350)), ((.s 5 0), .fam (famD dPipe 2 r11350))] 6 (by kernel_rfl) ?_
  refine wk_id ?_
  refine cond_sx h (by kernel_rfl) (fun g11366 h => ?_) (fun g11366 h => ?_)
  ·refine seq_np ?_
   refine reg_f ?_
   obtain ⟨r11357, hr11357, h⟩ := bind_sx h
   refine run_call 42 [iS 6, iS 0] (some 20) (by kernel_rfl) ?_
   refine call_0 (pick_fault_spec 6 0 r11357 hr11357) (by simp only [push_cast, leL_flD, renL_flD, seval]) (by simp only [push_cast, leL_flD, renL_flD, seval]) ?_
   refine back_f ?_
   refine rs 2 [] [] (by kernel_rfl) allP_nil ?_
   refine rf [(4, .v (.slice none 0 0)), (5, .ptr 0 0)] [(0, .row 29 (Enc.cells r11357)), (1, .row 29 (Enc.cells r11348)), (2, .row 57 (flD dPipe [3, 4, 5] r11350)), ((.s 3 0), .fam (famD dPipe 0 r11350)), ((.s 4 0), .fam (famD dPipe 1 r11350)), ((.s 5 0), .fam (famD dPipe 2 r11350))] 6 (by kernel_rfl) ?_
   refine wk_id ?_
   obtain rfl := Option.some.inj h
   refine ret_at (.tup [.v (.slice none 0 0), .agg (Enc.cells r11357)]) (by kernel_rfl) ?_
   exact ret_e [] [] (by simp only [push_cast, leL_flD, renL_flD, seval]) (by simp only [push_cast, leL_flD, renL_flD, seval]) rfl rfl rfl
  ·refine wk_id ?_
   refine seq_np ?_
   refine reg_f ?_
   refine rs 4 [] [] (by kernel_rfl) allP_nil ?_
   obtain ⟨r11362, hr11362, h⟩ := bind_sx h
   refine call_x (pick_hub_wake_1_spec r11350 ([(GWake.mk task 0 0 false false)] : List GWake) r11362 hr11362) (args := [.own 2 0 r11350.length, .own 6 0 ([(GWake.mk task 0 0 false false)] : List GWake).length]) (dst := (some 25)) (by kernel_rfl) [(0, .row 29 [iS 0, iS 0]), (1, .row 29 (Enc.cells r11348)), (2, .row 57 (flD dPipe [3, 4, 5] r11350)), ((.s 3 0), .fam (famD dPipe 0 r11350)), ((.s 4 0), .fam (famD dPipe 1 r11350)), ((.s 5 0), .fam (famD dPipe 2 r11350)), (6, .row 64 (fl ([(GWake.mk task 0 0 false false)] : List GWake)))] 7 (by kernel_rfl) [(0, 2), ((.s 1 0), (.s 3 0)), ((.s 2 0), (.s 4 0)), ((.s 3 0), (.s 5 0)), (4, 6)] [] (.tup []) [(2, .row 57 (flD dPipe [3, 12, 13] r11362.1)), ((.s 3 0), .fam (famD dPipe 0 r11362.1)), ((.s 4 0), .dead), ((.s 5 0), .dead), (6, .row 64 (fl r11362.2)), ((.s 12 0), .fam (famD dPipe 1 r11362.1)), ((.s 13 0), .fam (famD dPipe 2 r11362.1)), (2, .dead), ((.s 3 0), .dead), ((.s 4 0), .dead), ((.s 5 0), .dead), (6, .dead)] (by simp only [push_cast, leL_flD, renL_flD, seval]) (by simp only [push_cast, leL_flD, renL_flD, seval]) (by kernel_rfl) (.inl rfl) (by first | (simp only [push_cast, leL_flD, renL_flD, seval]; done) | (simp only [push_cast, leL_flD, renL_flD, seval]; kernel_rfl) | kernel_rfl) (by first | (simp only [push_cast, leL_flD, renL_flD, seval]; done) | (simp only [push_cast, leL_flD, renL_flD, seval]; kernel_rfl) | kernel_rfl) ?_ (hfam := (And.intro trivial (And.intro (fun _ => Or.inl rfl) (And.intro (fun _ => Or.inl rfl) (And.intro (fun _ => Or.inl rfl) (And.intro trivial trivial))))))
   refine chk_sx h (fun g11364 h => ?_)
   have e11363 : r11350.length = r11362.1.length := (of_decide_eq_true g11364).symm
   refine run_eqF 7 (.own 2 0 r11350.length) (.own 2 0 r11362.1.length) (congrArg (fun nq => (.own 2 0 nq : SV)) (show r11350.length = r11362.1.length from e11363)) (by kernel_rfl) ?_
   refine rf [(5, .ptr 0 0), (7, .own 2 0 r11362.1.length)] [(0, .row 29 [iS 0, iS 0]), (1, .row 29 (Enc.cells r11348)), (2, .row 57 (flD dPipe [3, 12, 13] r11362.1)), ((.s 3 0), .fam (famD dPipe 0 r11362.1)), ((.s 4 0), .dead), ((.s 5 0), .dead), (6, .row 64 (fl r11362.2)), ((.s 12 0), .fam (famD dPipe 1 r11362.1)), ((.s 13 0), .fam (famD dPipe 2 r11362.1))] 14 (by kernel_rfl) ?_
   refine wk_id ?_
   refine seq_np ?_
   refine reg_f ?_
   refine rs 4 [] [] (by kernel_rfl) allP_nil ?_
   refine rf [(4, .own 2 0 r11362.1.length), (5, .ptr 0 0)] [(0, .row 29 [iS 0, iS 0]), (1, .row 29 (Enc.cells r11348)), (2, .row 57 (flD dPipe [3, 12, 13] r11362.1)), ((.s 3 0), .fam (famD dPipe 0 r11362.1)), ((.s 4 0), .dead), ((.s 5 0), .dead), (6, .row 64 (fl r11362.2)), ((.s 12 0), .fam (famD dPipe 1 r11362.1)), ((.s 13 0), .fam (famD dPipe 2 r11362.1))] 14 (by kernel_rfl) ?_
   refine wk_id ?_
   obtain rfl := Option.some.inj h
   refine ret_at (.tup [.own 2 0 r11362.1.length, .agg [iS 0, iS 0]]) (by kernel_rfl) ?_
   exact ret_e [(0, 2), ((.s 1 0), (.s 3 0)), ((.s 2 0), (.s 12 0)), ((.s 3 0), (.s 13 0))] [] (by simp only [push_cast, leL_flD, renL_flD, seval]) (by simp only [push_cast, leL_flD, renL_flD, seval]) rfl rfl rfl

set_option maxRecDepth 100000 in
set_option maxHeartbeats 200000000 in
theorem taskmillref_Closing_spec (p : Pipe) (r : Pipe × Bool × Bool × Bool × Int × Int × (List GWake)) (h : taskmillref_Closing p = some r) : SpecW Try.prog 33 [.agg (Enc.cells p)] [] 0 (fun x h n => x = .tup [.agg (Enc.cells r.1), .agg [bS r.2.1, bS r.2.2.1, bS r.2.2.2.1, iS r.2.2.2.2.1, iS r.2.2.2.2.2.1, .own 0 0 r.2.2.2.2.2.2.length]] ∧ h = [(0, .row 64 (fl r.2.2.2.2.2.2))] ∧ n = 1) := by
 unfold taskmillref_Closing at h
 refine spec_of (draw_ok _) Try.func33 rfl (by decide) rfl (by kernel_rfl) ?_
 refine seq_np ?_
 refine reg_f ?_
 refine rs 3 [] [] (by kernel_rfl) allP_nil ?_
 refine rf [(1, .ptr 0 0), (2, .ptr 1 0), (3, .ptr 2 0)] [(0, .row 57 (Enc.cells p)), (1, .row 57 [iS 0, .v (.slice none 0 0), bS false, .v (.slice none 0 0), .v (.slice none 0 0)]), (2, .row 33 [bS false, bS false, bS false, iS 0, iS 0, .v (.slice none 0 0)])] 3 (by kernel_rfl) ?_
 refine wk_id ?_
 refine seq_np ?_
 refine reg_f ?_
 refine rs 3 [] [] (by kernel_rfl) allP_nil ?_
 refine rf [(1, .ptr 0 0), (2, .ptr 1 0), (3, .ptr 2 0), (4, .ptr 3 0)] [(0, .row 57 (Enc.cells p)), (1, .row 57 [iS 0, .v (.slice none 0 0), bS false, .v (.slice none 0 0), .v (.slice none 0 0)]), (2, .row 33 [bS false, bS false, bS false, iS 0, iS 0, .v (.slice none 0 0)]), (3, .row 33 [bS true, bS false, bS false, iS 0, iS 0, .v (.slice none 0 0)])] 4 (by kernel_rfl) ?_
 refine wk_id ?_
 refine seq_np ?_
 refine seq_np ?_
 refine reg_f ?_
 refine rs 2 [] [] (by kernel_rfl) allP_nil ?_
 refine rf [(1, .ptr 0 0), (2, .ptr 1 0), (3, .ptr 2 0), (4, .ptr 3 0), (9, bS p.Closed)] [(0, .row 57 (Enc.cells p)), (1, .row 57 [iS 0, .v (.slice none 0 0), bS false, .v (.slice none 0 0), .v (.slice none 0 0)]), (2, .row 33 [bS false, bS false, bS false, iS 0, iS 0, .v (.slice none 0 0)]), (3, .row 33 [bS true, bS false, bS false, iS 0, iS 0, .v (.slice none 0 0)])] 4 (by kernel_rfl) ?_
 refine wk_id ?_
 refine cond_sx h (by kernel_rfl) (fun g11600 h => ?_) (fun g11600 h => ?_)
 ·refine seq_np ?_
  refine reg_f ?_
  refine rs 2 [] [] (by kernel_rfl) allP_nil ?_
  refine rf [(1, .ptr 0 0), (2, .ptr 1 0), (3, .ptr 2 0), (4, .ptr 3 0)] [(0, .row 57 (Enc.cells p)), (1, .row 57 [iS 0, .v (.slice none 0 0), bS false, .v (.slice none 0 0), .v (.slice none 0 0)]), (2, .row 33 [bS false, bS false, bS false, iS 0, iS 0, .v (.slice none 0 0)]), (3, .row 33 [bS true, bS true, bS false, iS 0, iS 0, .v (.slice none 0 0)])] 4 (by kernel_rfl) ?_
  refine wk_id ?_
  refine seq_np ?_
  refine reg_t ?_
  refine rs 4 [] [] (by kernel_rfl) allP_nil ?_
  refine rt [(2, .ptr 1 0), (3, .ptr 2 0)] [(0, .row 57 (Enc.cells p)), (1, .row 57 (Enc.cells p)), (2, .row 33 [bS true, bS true, bS false, iS 0, iS 0, .v (.slice none 0 0)]), (3, .row 33 [bS true, bS true, bS false, iS 0, iS 0, .v (.slice none 0 0)])] 8 follows (by kernel_rfl) ?_
  refine wk_id ?_
  obtain rfl := Option.some.inj h
  refine ret_at (.tup [.agg (Enc.cells p), .agg [bS true, bS true, bS false, iS 0, iS 0, .v (.slice none 0 0)]]) (by kernel_rfl) ?_
  exact ret_e [] [] (by simp only [push_cast, leL_flD, renL_flD, seval]) (by simp only [push_cast, leL_flD, renL_flD, seval]) rfl rfl rfl
 ·refine wk_id ?_
  refine seq_np ?_
  refine seq_np ?_
  refine reg_f ?_
  refine rs 1 [] [] (by kernel_rfl) allP_nil ?_
  refine rf [(1, .ptr 0 0), (2, .ptr 1 0), (3, .ptr 2 0), (4, .ptr 3 0), (5, iS 0)] [(0, .row 57 (Enc.cells p)), (1, .row 57 [iS 0, .v (.slice none 0 0), bS false, .v (.slice none 0 0), .v (.slice none 0 0)]), (2, .row 33 [bS false, bS false, bS false, iS 0, iS 0, .v (.slice none 0 0)]), (3, .row 33 [bS true, bS false, bS false, iS 0, iS 0, .v (.slice none 0 0)])] 4 (by kernel_rfl) ?_
  refine wk_id ?_
  refine block_np ?_
  refine loop_sx (S := Int × (List GWake)) (fun a => ([(1, .ptr 0 0), (2, .ptr 1 0), (3, .ptr 2 0), (4, .ptr 3 0), (5, iS a.1)], [(0, .row 57 (Enc.cells p)), (1, .row 57 [iS 0, .v (.slice none 0 0), bS false, .v (.slice none 0 0), .v (.slice none 0 0)]), (2, .row 33 [bS false, bS false, bS false, iS 0, iS 0, .v (.slice none 0 0)]), (3, .row 33 [bS true, bS false, bS false, iS 0, iS 0, .own 4 0 a.2.length]), (4, .row 64 (fl a.2))], 5)) h (leSt_m [(0, 0), (1, 1), (2, 2), (3, 3)] [] (by simp only [push_cast, leL_flD, renL_flD, seval]) (by simp only [push_cast, leL_flD, renL_flD, seval]) rfl rfl rfl) ?_
  rintro ⟨i9, c4q9⟩ o3 R3 h hr3 hn3 hx3 ht3
  try dsimp only at h hn3 ⊢
  unfold taskmillref_Closing_l2 at h
  try dsimp only at h
  refine seq_np ?_
  refine seq_np ?_
  refine reg_f ?_
  refine rs 5 [] [] (by kernel_rfl) allP_nil ?_
  refine rf [(1, .ptr 0 0), (2, .ptr 1 0), (3, .ptr 2 0), (4, .ptr 3 0), (5, iS i9), (17, bS (decide (i9 < ((p.Getters.length : Nat) : Int))))] [(0, .row 57 (Enc.cells p)), (1, .row 57 [iS 0, .v (.slice none 0 0), bS false, .v (.slice none 0 0), .v (.slice none 0 0)]), (2, .row 33 [bS false, bS false, bS false, iS 0, iS 0, .v (.slice none 0 0)]), (3, .row 33 [bS true, bS false, bS false, iS 0, iS 0, .own 4 0 c4q9.length]), (4, .row 64 (fl c4q9))] 5 (by kernel_rfl) ?_
  refine wk_id ?_
  refine cond_sx h (by kernel_rfl) (fun g11599 h => ?_) (fun g11599 h => ?_)
  ·refine wk_id ?_
   refine seq_np ?_
   refine block_np ?_
   refine chk_sx h (fun g11509 h => ?_)
   refine chk_sx h (fun g11511 h => ?_)
   refine chk_sx h (fun g11513 h => ?_)
   refine reg_t ?_
   have k11508 : 0 ≤ i9 ∧ i9 < ((p.Getters.length : Nat) : Int) := by first | simpa only [Bool.and_eq_true, decide_eq_true_eq, bne_iff_ne, ne_eq] using g11509 | (simp at g11509 ⊢; omega)
   have k11510 : 0 ≤ i9 ∧ i9 < ((p.Getters.length : Nat) : Int) := by first | simpa only [Bool.and_eq_true, decide_eq_true_eq, bne_iff_ne, ne_eq] using g11511 | (simp at g11511 ⊢; omega)
   have k11512 : (c4q9 ++ ([(GWake.mk (ix p.Getters i9).Task (ix p.Getters i9).Case 0 false false)] : List GWake)).length * 32 ≤ 140737488355328 := by first | simpa only [Bool.and_eq_true, decide_eq_true_eq, bne_iff_ne, ne_eq] using g11513 | (simp at g11513 ⊢; omega)
   refine rs 19 [none, none, none, none, none, some ⟨.iptr (fl p.Getters) ((i9).toNat * 3), [], 10, []⟩, none, some ⟨iS (ix p.Getters i9).Task, [], 12, []⟩, none, none, none, some ⟨.iptr (fl p.Getters) ((i9).toNat * 3), [], 16, []⟩, none, some ⟨iS (ix p.Getters i9).Case, [], 18, []⟩, none, none, some ⟨.own 22 0 (c4q9 ++ ([(GWake.mk (ix p.Getters i9).Task (ix p.Getters i9).Case 0 false false)] : List GWake)).length, [(22, .row 64 (fl (c4q9 ++ ([(GWake.mk (ix p.Getters i9).Task (ix p.Getters i9).Case 0 false false)] : List GWake)))), (4, .dead)], 23, [4, 20]⟩] _ (by kernel_rfl) (allP_cons (ob_app (P := Try.prog) c4q9 ([(GWake.mk (ix p.Getters i9).Task (ix p.Getters i9).Case 0 false false)] : List GWake) 5 32 rfl (appCells (fl ([(GWake.mk (ix p.Getters i9).Task (ix p.Getters i9).Case 0 false false)] : List GWake)) 0 (([(GWake.mk (ix p.Getters i9).Task (ix p.Getters i9).Case 0 false false)] : List GWake).length * 5)) ([(GWake.mk (ix p.Getters i9).Task (ix p.Getters i9).Case 0 false false)] : List GWake).length (app_own ([(GWake.mk (ix p.Getters i9).Task (ix p.Getters i9).Case 0 false false)] : List GWake) 5 rfl) rfl (0 + ([(GWake.mk (ix p.Getters i9).Task (ix p.Getters i9).Case 0 false false)] : List GWake).length * 5 ≤ (fl ([(GWake.mk (ix p.Getters i9).Task (ix p.Getters i9).Case 0 false false)] : List GWake)).length) (app_own_le ([(GWake.mk (ix p.Getters i9).Task (ix p.Getters i9).Case 0 false false)] : List GWake) 5 rfl) 64 (by kernel_rfl) (by decide) k11512 4 22 [20]) (allP_cons (ob_ld p.Getters i9 3 1 (((i9).toNat * 3) + 1) k11510 rfl (by decide) (by first | rfl | omega) (dflS Try.prog 3) (iS (ix p.Getters i9).Case) rfl 18 []) (allP_cons (ob_ix_l p.Getters 3 16 i9 k11510) (allP_cons (ob_ld p.Getters i9 3 0 (((i9).toNat * 3) + 0) k11508 rfl (by decide) (by first | rfl | omega) (dflS Try.prog 3) (iS (ix p.Getters i9).Task) rfl 12 []) (allP_cons (ob_ix_l p.Getters 3 10 i9 k11508) allP_nil))))) ?_
   refine rt [(1, .ptr 0 0), (2, .ptr 1 0), (3, .ptr 2 0), (4, .ptr 3 0), (5, iS i9)] [(0, .row 57 (Enc.cells p)), (1, .row 57 [iS 0, .v (.slice none 0 0), bS false, .v (.slice none 0 0), .v (.slice none 0 0)]), (2, .row 33 [bS false, bS false, bS false, iS 0, iS 0, .v (.slice none 0 0)]), (3, .row 33 [bS true, bS false, bS false, iS 0, iS 0, .own 22 0 (c4q9 ++ ([(GWake.mk (ix p.Getters i9).Task (ix p.Getters i9).Case 0 false false)] : List GWake)).length]), (4, .dead), (20, .row 64 (fl ([(GWake.mk (ix p.Getters i9).Task (ix p.Getters i9).Case 0 false false)] : List GWake))), (22, .row 64 (fl (c4q9 ++ ([(GWake.mk (ix p.Getters i9).Task (ix p.Getters i9).Case 0 false false)] : List GWake))))] 26 follows (by kernel_rfl) ?_
   refine wk_id ?_
   refine wk_id ?_
   refine reg_f ?_
   refine rs 3 [] [] (by kernel_rfl) allP_nil ?_
   refine rf [(1, .ptr 0 0), (2, .ptr 1 0), (3, .ptr 2 0), (4, .ptr 3 0), (5, iS (IntKind.i64.wrap (i9 + 1)))] [(0, .row 57 (Enc.cells p)), (1, .row 57 [iS 0, .v (.slice none 0 0), bS false, .v (.slice none 0 0), .v (.slice none 0 0)]), (2, .row 33 [bS false, bS false, bS false, iS 0, iS 0, .v (.slice none 0 0)]), (3, .row 33 [bS true, bS false, bS false, iS 0, iS 0, .own 22 0 (c4q9 ++ ([(GWake.mk (ix p.Getters i9).Task (ix p.Getters i9).Case 0 false false)] : List GWake)).length]), (4, .dead), (20, .row 64 (fl ([(GWake.mk (ix p.Getters i9).Task (ix p.Getters i9).Case 0 false false)] : List GWake))), (22, .row 64 (fl (c4q9 ++ ([(GWake.mk (ix p.Getters i9).Task (ix p.Getters i9).Case 0 false false)] : List GWake))))] 26 (by kernel_rfl) ?_
   exact hn3 ((IntKind.i64.wrap (i9 + 1)), (c4q9 ++ ([(GWake.mk (ix p.Getters i9).Task (ix p.Getters i9).Case 0 false false)] : List GWake))) _ _ _ (Option.some.inj h).symm (leSt_m [(0, 0), (1, 1), (2, 2), (3, 3), (4, 22)] [] (by simp only [push_cast, leL_flD, renL_flD, seval]) (by simp only [push_cast, leL_flD, renL_flD, seval]) rfl rfl rfl)
  ·change R3 (.exit 0) _ _ _
   refine ex_cast hx3 (id := 0) ?_
   obtain ⟨r0, h, e0⟩ := map_sx h
   have e1 := hr3 r0 e0.symm
   subst r0
   refine wk_id ?_
   refine wk_id ?_
   refine seq_np ?_
   refine seq_np ?_
   refine reg_f ?_
   refine rs 1 [] [] (by kernel_rfl) allP_nil ?_
   refine rf [(1, .ptr 0 0), (2, .ptr 1 0), (3, .ptr 2 0), (4, .ptr 3 0), (6, iS 0)] [(0, .row 57 (Enc.cells p)), (1, .row 57 [iS 0, .v (.slice none 0 0), bS false, .v (.slice none 0 0), .v (.slice none 0 0)]), (2, .row 33 [bS false, bS false, bS false, iS 0, iS 0, .v (.slice none 0 0)]), (3, .row 33 [bS true, bS false, bS false, iS 0, iS 0, .own 4 0 c4q9.length]), (4, .row 64 (fl c4q9))] 5 (by kernel_rfl) ?_
   refine wk_id ?_
   refine block_np ?_
   refine loop_sx (S := Int × (List GWake)) (fun a => ([(1, .ptr 0 0), (2, .ptr 1 0), (3, .ptr 2 0), (4, .ptr 3 0), (6, iS a.1)], [(0, .row 57 (Enc.cells p)), (1, .row 57 [iS 0, .v (.slice none 0 0), bS false, .v (.slice none 0 0), .v (.slice none 0 0)]), (2, .row 33 [bS false, bS false, bS false, iS 0, iS 0, .v (.slice none 0 0)]), (3, .row 33 [bS true, bS false, bS false, iS 0, iS 0, .own 4 0 a.2.length]), (4, .row 64 (fl a.2))], 5)) h (leSt_m [(0, 0), (1, 1), (2, 2), (3, 3), (4, 4)] [] (by simp only [push_cast, leL_flD, renL_flD, seval]) (by simp only [push_cast, leL_flD, renL_flD, seval]) rfl rfl rfl) ?_
   rintro ⟨i15, c4q15⟩ o4 R4 h hr4 hn4 hx4 ht4
   try dsimp only at h hn4 ⊢
   unfold taskmillref_Closing_l1 at h
   try dsimp only at h
   refine seq_np ?_
   refine seq_np ?_
   refine reg_f ?_
   refine rs 5 [] [] (by kernel_rfl) allP_nil ?_
   refine rf [(1, .ptr 0 0), (2, .ptr 1 0), (3, .ptr 2 0), (4, .ptr 3 0), (6, iS i15), (42, bS (decide (i15 < ((p.Senders.length : Nat) : Int))))] [(0, .row 57 (Enc.cells p)), (1, .row 57 [iS 0, .v (.slice none 0 0), bS false, .v (.slice none 0 0), .v (.slice none 0 0)]), (2, .row 33 [bS false, bS false, bS false, iS 0, iS 0, .v (.slice none 0 0)]), (3, .row 33 [bS true, bS false, bS false, iS 0, iS 0, .own 4 0 c4q15.length]), (4, .row 64 (fl c4q15))] 5 (by kernel_rfl) ?_
   refine wk_id ?_
   refine cond_sx h (by kernel_rfl) (fun g11598 h => ?_) (fun g11598 h => ?_)
   ·refine wk_id ?_
    refine seq_np ?_
    refine block_np ?_
    refine chk_sx h (fun g11593 h => ?_)
    refine chk_sx h (fun g11595 h => ?_)
    refine chk_sx h (fun g11597 h => ?_)
    refine reg_t ?_
    have k11592 : 0 ≤ i15 ∧ i15 < ((p.Senders.length : Nat) : Int) := by first | simpa only [Bool.and_eq_true, decide_eq_true_eq, bne_iff_ne, ne_eq] using g11593 | (simp at g11593 ⊢; omega)
    have k11594 : 0 ≤ i15 ∧ i15 < ((p.Senders.length : Nat) : Int) := by first | simpa only [Bool.and_eq_true, decide_eq_true_eq, bne_iff_ne, ne_eq] using g11595 | (simp at g11595 ⊢; omega)
    have k11596 : (c4q15 ++ ([(GWake.mk (ix p.Senders i15).Task (ix p.Senders i15).Case 0 false true)] : List GWake)).length * 32 ≤ 140737488355328 := by first | simpa only [Bool.and_eq_true, decide_eq_true_eq, bne_iff_ne, ne_eq] using g11597 | (simp at g11597 ⊢; omega)
    refine rs 19 [none, none, none, none, none, some ⟨.iptr (fl p.Senders) ((i15).toNat * 3), [], 10, []⟩, none, some ⟨iS (ix p.Senders i15).Task, [], 12, []⟩, none, none, none, some ⟨.iptr (fl p.Senders) ((i15).toNat * 3), [], 16, []⟩, none, some ⟨iS (ix p.Senders i15).Case, [], 18, []⟩, none, none, some ⟨.own 22 0 (c4q15 ++ ([(GWake.mk (ix p.Senders i15).Task (ix p.Senders i15).Case 0 false true)] : List GWake)).length, [(22, .row 64 (fl (c4q15 ++ ([(GWake.mk (ix p.Senders i15).Task (ix p.Senders i15).Case 0 false true)] : List GWake)))), (4, .dead)], 23, [4, 20]⟩] _ (by kernel_rfl) (allP_cons (ob_app (P := Try.prog) c4q15 ([(GWake.mk (ix p.Senders i15).Task (ix p.Senders i15).Case 0 false true)] : List GWake) 5 32 rfl (appCells (fl ([(GWake.mk (ix p.Senders i15).Task (ix p.Senders i15).Case 0 false true)] : List GWake)) 0 (([(GWake.mk (ix p.Senders i15).Task (ix p.Senders i15).Case 0 false true)] : List GWake).length * 5)) ([(GWake.mk (ix p.Senders i15).Task (ix p.Senders i15).Case 0 false true)] : List GWake).length (app_own ([(GWake.mk (ix p.Senders i15).Task (ix p.Senders i15).Case 0 false true)] : List GWake) 5 rfl) rfl (0 + ([(GWake.mk (ix p.Senders i15).Task (ix p.Senders i15).Case 0 false true)] : List GWake).length * 5 ≤ (fl ([(GWake.mk (ix p.Senders i15).Task (ix p.Senders i15).Case 0 false true)] : List GWake)).length) (app_own_le ([(GWake.mk (ix p.Senders i15).Task (ix p.Senders i15).Case 0 false true)] : List GWake) 5 rfl) 64 (by kernel_rfl) (by decide) k11596 4 22 [20]) (allP_cons (ob_ld p.Senders i15 3 1 (((i15).toNat * 3) + 1) k11594 rfl (by decide) (by first | rfl | omega) (dflS Try.prog 3) (iS (ix p.Senders i15).Case) rfl 18 []) (allP_cons (ob_ix_l p.Senders 3 16 i15 k11594) (allP_cons (ob_ld p.Senders i15 3 0 (((i15).toNat * 3) + 0) k11592 rfl (by decide) (by first | rfl | omega) (dflS Try.prog 3) (iS (ix p.Senders i15).Task) rfl 12 []) (allP_cons (ob_ix_l p.Senders 3 10 i15 k11592) allP_nil))))) ?_
    refine rt [(1, .ptr 0 0), (2, .ptr 1 0), (3, .ptr 2 0), (4, .ptr 3 0), (6, iS i15)] [(0, .row 57 (Enc.cells p)), (1, .row 57 [iS 0, .v (.slice none 0 0), bS false, .v (.slice none 0 0), .v (.slice none 0 0)]), (2, .row 33 [bS false, bS false, bS false, iS 0, iS 0, .v (.slice none 0 0)]), (3, .row 33 [bS true, bS false, bS false, iS 0, iS 0, .own 22 0 (c4q15 ++ ([(GWake.mk (ix p.Senders i15).Task (ix p.Senders i15).Case 0 false true)] : List GWake)).length]), (4, .dead), (20, .row 64 (fl ([(GWake.mk (ix p.Senders i15).Task (ix p.Senders i15).Case 0 false true)] : List GWake))), (22, .row 64 (fl (c4q15 ++ ([(GWake.mk (ix p.Senders i15).Task (ix p.Senders i15).Case 0 false true)] : List GWake))))] 26 follows (by kernel_rfl) ?_
    refine wk_id ?_
    refine wk_id ?_
    refine reg_f ?_
    refine rs 3 [] [] (by kernel_rfl) allP_nil ?_
    refine rf [(1, .ptr 0 0), (2, .ptr 1 0), (3, .ptr 2 0), (4, .ptr 3 0), (6, iS (IntKind.i64.wrap (i15 + 1)))] [(0, .row 57 (Enc.cells p)), (1, .row 57 [iS 0, .v (.slice none 0 0), bS false, .v (.slice none 0 0), .v (.slice none 0 0)]), (2, .row 33 [bS false, bS false, bS false, iS 0, iS 0, .v (.slice none 0 0)]), (3, .row 33 [bS true, bS false, bS false, iS 0, iS 0, .own 22 0 (c4q15 ++ ([(GWake.mk (ix p.Senders i15).Task (ix p.Senders i15).Case 0 false true)] : List GWake)).length]), (4, .dead), (20, .row 64 (fl ([(GWake.mk (ix p.Senders i15).Task (ix p.Senders i15).Case 0 false true)] : List GWake))), (22, .row 64 (fl (c4q15 ++ ([(GWake.mk (ix p.Senders i15).Task (ix p.Senders i15).Case 0 false true)] : List GWake))))] 26 (by kernel_rfl) ?_
    exact hn4 ((IntKind.i64.wrap (i15 + 1)), (c4q15 ++ ([(GWake.mk (ix p.Senders i15).Task (ix p.Senders i15).Case 0 false true)] : List GWake))) _ _ _ (Option.some.inj h).symm (leSt_m [(0, 0), (1, 1), (2, 2), (3, 3), (4, 22)] [] (by simp only [push_cast, leL_flD, renL_flD, seval]) (by simp only [push_cast, leL_flD, renL_flD, seval]) rfl rfl rfl)
   ·change R4 (.exit 2) _ _ _
    refine ex_cast hx4 (id := 2) ?_
    obtain ⟨r0, h, e0⟩ := map_sx h
    have e1 := hr4 r0 e0.symm
    subst r0
    refine wk_id ?_
    refine wk_id ?_
    refine seq_np ?_
    refine reg_t ?_
    refine rs 8 [] [] (by kernel_rfl) allP_nil ?_
    refine rt [(2, .ptr 1 0), (3, .ptr 2 0)] [(0, .row 57 (Enc.cells p)), (1, .row 57 [iS p.Cap, .sl p.Items.length (fl p.Items), bS true, .v (.slice none 0 0), .v (.slice none 0 0)]), (2, .row 33 [bS true, bS false, bS false, iS 0, iS 0, .own 4 0 c4q15.length]), (3, .row 33 [bS true, bS false, bS false, iS 0, iS 0, .own 4 0 c4q15.length]), (4, .row 64 (fl c4q15))] 13 follows (by kernel_rfl) ?_
    refine wk_id ?_
    obtain rfl := Option.some.inj h
    refine ret_at (.tup [.agg [iS p.Cap, .sl p.Items.length (fl p.Items), bS true, .v (.slice none 0 0), .v (.slice none 0 0)], .agg [bS true, bS false, bS false, iS 0, iS 0, .own 4 0 c4q15.length]]) (by kernel_rfl) ?_
    exact ret_e [(0, 4)] [] (by simp only [push_cast, leL_flD, renL_flD, seval]) (by simp only [push_cast, leL_flD, renL_flD, seval]) rfl rfl rfl

set_option maxRecDepth 100000 in
set_option maxHeartbeats 200000000 in
theorem taskmilllaw_PickShuts_1_spec (t0 : (List Pipe)) (t1 : Int) (r : Answer × (List Pipe)) (h : taskmilllaw_PickShuts_1 t0 t1 = some r) : SpecW Try.prog 32 [.iptr [.sl t0.length (fl t0)] 0, .iptr [iS t1] 0] [] 0 (fun x h n => x = .tup [.own 0 0 r.2.length, .agg (Enc.cells r.1)] ∧ h = [(0, .row 57 (fl r.2))] ∧ n = 1) := by
 unfold taskmilllaw_PickShuts_1 at h
 refine spec_of (draw_ok _) Try.func32 rfl (by decide) rfl (by kernel_rfl) ?_
 refine seq_np ?_
 refine reg_f ?_
 refine rs 2 [] [] (by kernel_rfl) allP_nil ?_
 refine rf [(0, .iptr [.sl t0.length (fl t0)] 0), (1, .iptr [iS t1] 0), (3, .ptr 0 0)] [(0, .row 33 [bS false, bS false, bS false, iS 0, iS 0, .v (.slice none 0 0)])] 1 (by kernel_rfl) ?_
 refine wk_id ?_
 refine chk_sx h (fun g11609 h => ?_)
 refine seq_np ?_
 refine reg_f ?_
 have k11608 : 0 ≤ t1 ∧ t1 < ((t0.length : Nat) : Int) := by first | simpa only [Bool.and_eq_true, decide_eq_true_eq, bne_iff_ne, ne_eq] using g11609 | (simp at g11609 ⊢; omega)
 refine rs 4 [none, none, some ⟨.iptr (fl t0) ((t1).toNat * 5), [], 1, []⟩, some ⟨.agg (Enc.cells (ix t0 t1)), [], 1, []⟩] _ (by kernel_rfl) (allP_cons (ob_ldw t0 t1 5 ((t1).toNat * 5) k11608 rfl (by first | rfl | omega) [iS (ix t0 t1).Cap, .sl (ix t0 t1).Items.length (fl (ix t0 t1).Items), bS (ix t0 t1).Closed, .sl (ix t0 t1).Senders.length (fl (ix t0 t1).Senders), .sl (ix t0 t1).Getters.length (fl (ix t0 t1).Getters)] rfl 1 []) (allP_cons (ob_ix_l t0 5 1 t1 k11608) allP_nil)) ?_
 obtain ⟨r11610, hr11610, h⟩ := bind_sx h
 refine call_x (taskmillref_Closing_spec (ix t0 t1) r11610 hr11610) (args := [.agg (Enc.cells (ix t0 t1))]) (dst := (some 11)) (by kernel_rfl) [(0, .row 33 [bS false, bS false, bS false, iS 0, iS 0, .v (.slice none 0 0)])] 1 (by kernel_rfl) [] [] (.tup [.agg (Enc.cells r11610.1), .agg [bS r11610.2.1, bS r11610.2.2.1, bS r11610.2.2.2.1, iS r11610.2.2.2.2.1, iS r11610.2.2.2.2.2.1, .own 1 0 r11610.2.2.2.2.2.2.length]]) [(1, .row 64 (fl r11610.2.2.2.2.2.2))] (by simp only [push_cast, leL_flD, renL_flD, seval]) (by simp only [push_cast, leL_flD, renL_flD, seval]) (by kernel_rfl) (.inl rfl) (by simp only [push_cast, leL_flD, renL_flD, seval]) (by simp only [push_cast, leL_flD, renL_flD, seval]) ?_
 refine rs 7 [] [] (by kernel_rfl) allP_nil ?_
 refine rf [(0, .iptr [.sl t0.length (fl t0)] 0), (1, .iptr [iS t1] 0), (3, .ptr 0 0), (4, .ptr 2 0), (5, .ptr 3 0)] [(0, .row 33 [bS false, bS false, bS false, iS 0, iS 0, .v (.slice none 0 0)]), (1, .row 64 (fl r11610.2.2.2.2.2.2)), (2, .row 57 (Enc.cells r11610.1)), (3, .row 33 [bS r11610.2.1, bS r11610.2.2.1, bS r11610.2.2.2.1, iS r11610.2.2.2.2.1, iS r11610.2.2.2.2.2.1, .own 1 0 r11610.2.2.2.2.2.2.length])] 4 (by kernel_rfl) ?_
 refine wk_mk [(0, .iptr [.sl t0.length (fl t0)] 0), (1, .iptr [iS t1] 0), (3, .ptr 0 0), (4, .ptr 2 0), (5, .ptr 3 0)] [(0, .row 33 [bS false, bS false, bS false, iS 0, iS 0, .v (.slice none 0 0)]), (2, .row 57 (Enc.cells r11610.1)), (3, .row 33 [bS r11610.2.1, bS r11610.2.2.1, bS r11610.2.2.2.1, iS r11610.2.2.2.2.1, iS r11610.2.2.2.2.2.1, .sl r11610.2.2.2.2.2.2.length (fl r11610.2.2.2.2.2.2)])] 4 (leSt_m [(0, 0), (2, 2), (3, 3)] [1] (by simp only [leS_frz, leS_cut, leL_flD, renL_flD, push_cast, seval]) (by simp only [leS_frz, leS_cut, leL_flD, renL_flD, push_cast, seval]) rfl rfl rfl) ?_
 refine seq_np ?_
 refine reg_t ?_
 refine rs 3 [] [] (by kernel_rfl) allP_nil ?_
 obtain ⟨r11614, hr11614, h⟩ := bind_sx h
 refine call_x (taskmillref_WithPipe_spec t0 t1 r11610.1 r11614 hr11614) (args := [.sl t0.length (fl t0), iS t1, .agg (Enc.cells r11610.1)]) (dst := (some 17)) (by kernel_rfl) [(0, .row 33 [bS false, bS false, bS false, iS 0, iS 0, .v (.slice none 0 0)]), (2, .row 57 (Enc.cells r11610.1)), (3, .row 33 [bS r11610.2.1, bS r11610.2.2.1, bS r11610.2.2.2.1, iS r11610.2.2.2.2.1, iS r11610.2.2.2.2.2.1, .sl r11610.2.2.2.2.2.2.length (fl r11610.2.2.2.2.2.2)])] 7 (by kernel_rfl) [] [] (.own 7 0 r11614.length) [(7, .row 57 (fl r11614))] (by simp only [push_cast, leL_flD, renL_flD, seval]) (by simp only [push_cast, leL_flD, renL_flD, seval]) (by kernel_rfl) (.inl rfl) (by simp only [push_cast, leL_flD, renL_flD, seval]) (by simp only [push_cast, leL_flD, renL_flD, seval]) ?_
 refine rs 2 [] [] (by kernel_rfl) allP_nil ?_
 obtain ⟨r11615, hr11615, h⟩ := bind_sx h
 refine call_x (SpecW.give (taskmillref_AllGone_spec r11614 r11610.2.2.2.2.2.2 r11615 hr11615) [(0, .row 57 (fl r11614))] [.own 0 0 r11614.length, .sl r11610.2.2.2.2.2.2.length (fl r11610.2.2.2.2.2.2)] [] (.own 1 0 r11615.length) [(1, .row 57 (fl r11615))] (by first | simp only [push_cast, leL_flD, renL_flD, seval] | simp only [push_cast, List.mem_singleton, true_and, and_true, leL_flD, renL_flD, seval]) (by simp only [push_cast, leL_flD, renL_flD, seval]) (by simp only [push_cast, leL_flD, renL_flD, seval]) (by simp only [push_cast, leL_flD, renL_flD, seval]) rfl (by simp only [push_cast, leL_flD, renL_flD, seval]) (by simp only [push_cast, leL_flD, renL_flD, seval]) rfl) (args := [.own 7 0 r11614.length, .sl r11610.2.2.2.2.2.2.length (fl r11610.2.2.2.2.2.2)]) (dst := (some 20)) (by kernel_rfl) [(0, .row 33 [bS false, bS false, bS false, iS 0, iS 0, .v (.slice none 0 0)]), (2, .row 57 (Enc.cells r11610.1)), (3, .row 33 [bS r11610.2.1, bS r11610.2.2.1, bS r11610.2.2.2.1, iS r11610.2.2.2.2.1, iS r11610.2.2.2.2.2.1, .sl r11610.2.2.2.2.2.2.length (fl r11610.2.2.2.2.2.2)]), (7, .row 57 (fl r11614))] 11 (by kernel_rfl) [(0, 7)] [] (.own 12 0 r11615.length) [(12, .row 57 (fl r11615)), (7, .dead)] (by simp only [push_cast, leL_flD, renL_flD, seval]) (by simp only [push_cast, leL_flD, renL_flD, seval]) (by kernel_rfl) (.inl rfl) (by simp only [push_cast, leL_flD, renL_flD, seval]) (by simp only [push_cast, leL_flD, renL_flD, seval]) ?_
 refine rs 3 [] [] (by kernel_rfl) allP_nil ?_
 refine rt [(2, .own 12 0 r11615.length), (3, .ptr 0 0)] [(0, .row 33 [bS r11610.2.1, bS r11610.2.2.1, bS r11610.2.2.2.1, iS r11610.2.2.2.2.1, iS r11610.2.2.2.2.2.1, .sl r11610.2.2.2.2.2.2.length (fl r11610.2.2.2.2.2.2)]), (2, .row 57 (Enc.cells r11610.1)), (3, .row 33 [bS r11610.2.1, bS r11610.2.2.1, bS r11610.2.2.2.1, iS r11610.2.2.2.2.1, iS r11610.2.2.2.2.2.1, .sl r11610.2.2.2.2.2.2.length (fl r11610.2.2.2.2.2.2)]), (7, .dead), (12, .row 57 (fl r11615))] 17 follows (by kernel_rfl) ?_
 refine wk_id ?_
 obtain rfl := Option.some.inj h
 refine ret_at (.tup [.own 12 0 r11615.length, .agg [bS r11610.2.1, bS r11610.2.2.1, bS r11610.2.2.2.1, iS r11610.2.2.2.2.1, iS r11610.2.2.2.2.2.1, .sl r11610.2.2.2.2.2.2.length (fl r11610.2.2.2.2.2.2)]]) (by kernel_rfl) ?_
 exact ret_e [(0, 12)] [] (by simp only [push_cast, leL_flD, renL_flD, seval]) (by simp only [push_cast, leL_flD, renL_flD, seval]) rfl rfl rfl

set_option maxRecDepth 100000 in
set_option maxHeartbeats 200000000 in
theorem taskmilllaw_hubAs_1_spec (xh : (List Pipe)) (xa : Answer) (f : Fault) (w : Fault) (want : (List Pipe)) (want1 : Int) (r : Bool) (h : taskmilllaw_hubAs_1 xh xa f w want want1 = some r) : SpecW Try.prog 18 [.sl xh.length (fl xh), .agg (Enc.cells xa), .agg (Enc.cells f), .agg (Enc.cells w), .clo 32 [.iptr [.sl want.length (fl want)] 0, .iptr [iS want1] 0]] [] 0 (fun x h n => x = bS r ∧ h = [] ∧ n = 0) := by
 unfold taskmilllaw_hubAs_1 at h
 refine spec_of (draw_ok _) Try.func18 rfl (by decide) rfl (by kernel_rfl) ?_
 refine seq_np ?_
 refine reg_f ?_
 refine rs 4 [] [] (by kernel_rfl) allP_nil ?_
 refine rf [(0, .sl xh.length (fl xh)), (4, .clo 32 [.iptr [.sl want.length (fl want)] 0, .iptr [iS want1] 0]), (6, .ptr 0 0), (7, .ptr 1 0), (8, .ptr 2 0)] [(0, .row 33 (Enc.cells xa)), (1, .row 29 (Enc.cells f)), (2, .row 29 (Enc.cells w))] 3 (by kernel_rfl) ?_
 refine wk_id ?_
 refine seq_np ?_
 refine seq_np ?_
 refine reg_f ?_
 refine rs 3 [] [] (by kernel_rfl) allP_nil ?_
 refine rf [(0, .sl xh.length (fl xh)), (4, .clo 32 [.iptr [.sl want.length (fl want)] 0, .iptr [iS want1] 0]), (6, .ptr 0 0), (8, .ptr 2 0), (15, bS (!((f.Code == w.Code) && ((f.At == w.At) && true))))] [(0, .row 33 (Enc.cells xa)), (1, .row 29 (Enc.cells f)), (2, .row 29 (Enc.cells w))] 3 (by kernel_rfl) ?_
 refine wk_id ?_
 refine cond_sx h (by kernel_rfl) (fun g11645 h => ?_) (fun g11645 h => ?_)
 ·refine seq_np ?_
  refine reg_f ?_
  refine rs 1 [] [] (by kernel_rfl) allP_nil ?_
  refine rf [(10, bS false)] [(0, .row 33 (Enc.cells xa)), (1, .row 29 (Enc.cells f)), (2, .row 29 (Enc.cells w))] 3 (by kernel_rfl) ?_
  refine wk_id ?_
  obtain rfl := Option.some.inj h
  refine ret_at (bS false) (by kernel_rfl) ?_
  exact ret_e [] [] (by simp only [push_cast, leL_flD, renL_flD, seval]) (by simp only [push_cast, leL_flD, renL_flD, seval]) rfl rfl rfl
 ·refine wk_id ?_
  refine seq_np ?_
  refine seq_np ?_
  refine reg_f ?_
  refine rs 3 [] [] (by kernel_rfl) allP_nil ?_
  refine rf [(0, .sl xh.length (fl xh)), (4, .clo 32 [.iptr [.sl want.length (fl want)] 0, .iptr [iS want1] 0]), (6, .ptr 0 0), (18, bS (w.Code != 0))] [(0, .row 33 (Enc.cells xa)), (1, .row 29 (Enc.cells f)), (2, .row 29 (Enc.cells w))] 3 (by kernel_rfl) ?_
  refine wk_id ?_
  refine cond_sx h (by kernel_rfl) (fun g11644 h => ?_) (fun g11644 h => ?_)
  ·refine seq_cut (A := Bool) (fun a => ([(10, bS a)], [], 0)) (fun a => (taskmilllaw_hubAs_1_j1 a) = some r) (fun K11631 hK11631 => ?_) ?_
   ·refine reg_f ?_
    refine rs 4 [] [] (by kernel_rfl) allP_nil ?_
    refine run_br h 22 (.inl (by kernel_rfl)) (fun g11632 h => ?_) (fun g11632 h => ?_)
    ·refine rs 2 [] [] (by kernel_rfl) allP_nil ?_
     obtain ⟨r11633, hr11633, h⟩ := bind_sx h
     refine call_x (taskmillref_SameAnswer_spec xa (Answer.mk false false false 0 0 []) r11633 hr11633) (args := [.agg (Enc.cells xa), .agg [bS false, bS false, bS false, iS 0, iS 0, .v (.slice none 0 0)]]) (dst := (some 25)) (by kernel_rfl) [(0, .row 33 (Enc.cells xa)), (1, .row 29 (Enc.cells f)), (2, .row 29 (Enc.cells w))] 3 (by kernel_rfl) [] [] (bS r11633) [] (by simp only [push_cast, leL_flD, renL_flD, seval]) (by simp only [push_cast, leL_flD, renL_flD, seval]) (by kernel_rfl) (.inl rfl) (by simp only [push_cast, leL_flD, renL_flD, seval]) (by simp only [push_cast, leL_flD, renL_flD, seval]) ?_
     refine rs 2 [] [] (by kernel_rfl) allP_nil ?_
     refine rf [(10, bS r11633)] [(0, .row 33 (Enc.cells xa)), (1, .row 29 (Enc.cells f)), (2, .row 29 (Enc.cells w))] 3 (by kernel_rfl) ?_
     exact hK11631 (r11633) _ _ _ h (leSt_m [] [] (by (try simp only [g11632]) <;> simp only [push_cast, leL_flD, renL_flD, seval]) (by (try simp only [g11632]) <;> simp only [push_cast, leL_flD, renL_flD, seval]) rfl rfl rfl)
    ·refine rs 5 [] [] (by kernel_rfl) allP_nil ?_
     refine rf [(10, bS false)] [(0, .row 33 (Enc.cells xa)), (1, .row 29 (Enc.cells f)), (2, .row 29 (Enc.cells w))] 3 (by kernel_rfl) ?_
     exact hK11631 (false) _ _ _ h (leSt_m [] [] (by (try simp only [g11632]) <;> simp only [push_cast, leL_flD, renL_flD, seval]) (by (try simp only [g11632]) <;> simp only [push_cast, leL_flD, renL_flD, seval]) rfl rfl rfl)
   ·rintro t10q3 h
    try dsimp only at h ⊢
    unfold taskmilllaw_hubAs_1_j1 at h
    obtain rfl := Option.some.inj h
    refine ret_at (bS t10q3) (by kernel_rfl) ?_
    exact ret_e [] [] (by simp only [push_cast, leL_flD, renL_flD, seval]) (by simp only [push_cast, leL_flD, renL_flD, seval]) rfl rfl rfl
  ·refine wk_id ?_
   refine seq_np ?_
   refine reg_f ?_
   refine rs 1 [] [] (by kernel_rfl) allP_nil ?_
   obtain ⟨r11635, hr11635, h⟩ := bind_sx h
   refine call_x (taskmilllaw_PickShuts_1_spec want want1 r11635 hr11635) (args := [.iptr [.sl want.length (fl want)] 0, .iptr [iS want1] 0]) (dst := (some 29)) (by kernel_rfl) [(0, .row 33 (Enc.cells xa)), (1, .row 29 (Enc.cells f)), (2, .row 29 (Enc.cells w))] 3 (by kernel_rfl) [] [] (.tup [.own 3 0 r11635.2.length, .agg (Enc.cells r11635.1)]) [(3, .row 57 (fl r11635.2))] (by simp only [push_cast, leL_flD, renL_flD, seval]) (by simp only [push_cast, leL_flD, renL_flD, seval]) (by kernel_rfl) (.inl rfl) (by simp only [push_cast, leL_flD, renL_flD, seval]) (by simp only [push_cast, leL_flD, renL_flD, seval]) ?_
   refine rs 6 [] [] (by kernel_rfl) allP_nil ?_
   refine rf [(0, .sl xh.length (fl xh)), (6, .ptr 0 0), (11, .own 3 0 r11635.2.length), (12, .ptr 4 0)] [(0, .row 33 (Enc.cells xa)), (1, .row 29 (Enc.cells f)), (2, .row 29 (Enc.cells w)), (3, .row 57 (fl r11635.2)), (4, .row 33 (Enc.cells r11635.1))] 5 (by kernel_rfl) ?_
   refine wk_id ?_
   refine seq_cut (A := Bool) (fun a => ([(10, bS a)], [], 0)) (fun a => (taskmilllaw_hubAs_1_j2 a) = some r) (fun K11640 hK11640 => ?_) ?_
   ·refine reg_f ?_
    refine rs 2 [] [] (by kernel_rfl) allP_nil ?_
    obtain ⟨r11641, hr11641, h⟩ := bind_sx h
    refine call_x (taskmillref_SameHub_spec xh r11635.2 r11641 hr11641) (args := [.sl xh.length (fl xh), .own 3 0 r11635.2.length]) (dst := (some 34)) (by kernel_rfl) [(0, .row 33 (Enc.cells xa)), (1, .row 29 (Enc.cells f)), (2, .row 29 (Enc.cells w)), (3, .row 57 (fl r11635.2)), (4, .row 33 (Enc.cells r11635.1))] 5 (by kernel_rfl) [] [3] (bS r11641) [] (by simp only [push_cast, leL_flD, renL_flD, seval]) (by simp only [push_cast, leL_flD, renL_flD, seval]) (by kernel_rfl) (.inr ⟨by simp only [push_cast, leL_flD, renL_flD, seval], by simp only [push_cast, leL_flD, renL_flD, seval]⟩) (by simp only [push_cast, leL_flD, renL_flD, seval]) (by simp only [push_cast, leL_flD, renL_flD, seval]) ?_
    refine rs 1 [] [] (by kernel_rfl) allP_nil ?_
    refine run_br h 35 (.inl (by kernel_rfl)) (fun g11642 h => ?_) (fun g11642 h => ?_)
    ·refine rs 2 [] [] (by kernel_rfl) allP_nil ?_
     obtain ⟨r11643, hr11643, h⟩ := bind_sx h
     refine run_call 25 [.agg (Enc.cells xa), .agg (Enc.cells r11635.1)] (some 38) (by kernel_rfl) ?_
     refine call_0 (taskmillref_SameAnswer_spec xa r11635.1 r11643 hr11643) (by simp only [push_cast, leL_flD, renL_flD, seval]) (by simp only [push_cast, leL_flD, renL_flD, seval]) ?_
     refine back_f ?_
     refine rs 2 [] [] (by kernel_rfl) allP_nil ?_
     refine rf [(10, bS r11643)] [(0, .row 33 (Enc.cells xa)), (1, .row 29 (Enc.cells f)), (2, .row 29 (Enc.cells w)), (3, .row 57 (fl r11635.2)), (4, .row 33 (Enc.cells r11635.1))] 5 (by kernel_rfl) ?_
     exact hK11640 (r11643) _ _ _ h (leSt_m [] [] (by (try simp only [g11642]) <;> simp only [push_cast, leL_flD, renL_flD, seval]) (by (try simp only [g11642]) <;> simp only [push_cast, leL_flD, renL_flD, seval]) rfl rfl rfl)
    ·refine rs 5 [] [] (by kernel_rfl) allP_nil ?_
     refine rf [(10, bS false)] [(0, .row 33 (Enc.cells xa)), (1, .row 29 (Enc.cells f)), (2, .row 29 (Enc.cells w)), (3, .row 57 (fl r11635.2)), (4, .row 33 (Enc.cells r11635.1))] 5 (by kernel_rfl) ?_
     exact hK11640 (false) _ _ _ h (leSt_m [] [] (by (try simp only [g11642]) <;> simp only [push_cast, leL_flD, renL_flD, seval]) (by (try simp only [g11642]) <;> simp only [push_cast, leL_flD, renL_flD, seval]) rfl rfl rfl)
   ·rintro t10q4 h
    try dsimp only at h ⊢
    unfold taskmilllaw_hubAs_1_j2 at h
    obtain rfl := Option.some.inj h
    refine ret_at (bS t10q4) (by kernel_rfl) ?_
    exact ret_e [] [] (by simp only [push_cast, leL_flD, renL_flD, seval]) (by simp only [push_cast, leL_flD, renL_flD, seval]) rfl rfl rfl

set_option maxRecDepth 100000 in
set_option maxHeartbeats 200000000 in
theorem taskmilllaw_PickShuts_2_spec (t0 : (List Pipe)) (t1 : Int) (r : Bool × Bool × Bool × Int × Int × (List Pipe)) (h : taskmilllaw_PickShuts_2 t0 t1 = some r) : SpecW Try.prog 35 [.iptr [.sl t0.length (fl t0)] 0, .iptr [iS t1] 0] [] 0 (fun x h n => x = .tup [.own 0 0 r.2.2.2.2.2.length, .agg [bS r.1, bS r.2.1, bS r.2.2.1, iS r.2.2.2.1, iS r.2.2.2.2.1, .v (.slice none 0 0)]] ∧ h = [(0, .row 57 (fl r.2.2.2.2.2))] ∧ n = 1) := by
 unfold taskmilllaw_PickShuts_2 at h
 refine spec_of (draw_ok _) Try.func35 rfl (by decide) rfl (by kernel_rfl) ?_
 refine seq_np ?_
 refine reg_f ?_
 refine rs 2 [] [] (by kernel_rfl) allP_nil ?_
 refine rf [(0, .iptr [.sl t0.length (fl t0)] 0), (1, .iptr [iS t1] 0), (3, .ptr 0 0)] [(0, .row 33 [bS false, bS false, bS false, iS 0, iS 0, .v (.slice none 0 0)])] 1 (by kernel_rfl) ?_
 refine wk_id ?_
 refine seq_np ?_
 refine reg_f ?_
 refine rs 4 [] [] (by kernel_rfl) allP_nil ?_
 obtain ⟨r11664, hr11664, h⟩ := bind_sx h
 refine call_x (SpecW.give (taskmillref_AllGone_spec t0 ([(GWake.mk t1 0 0 false false)] : List GWake) r11664 hr11664) [(0, .row 64 (fl ([(GWake.mk t1 0 0 false false)] : List GWake)))] [.sl t0.length (fl t0), .own 0 0 ([(GWake.mk t1 0 0 false false)] : List GWake).length] [] (.own 1 0 r11664.length) [(1, .row 57 (fl r11664))] (by first | simp only [push_cast, leL_flD, renL_flD, seval] | simp only [push_cast, List.mem_singleton, true_and, and_true, leL_flD, renL_flD, seval]) (by simp only [push_cast, leL_flD, renL_flD, seval]) (by simp only [push_cast, leL_flD, renL_flD, seval]) (by simp only [push_cast, leL_flD, renL_flD, seval]) rfl (by simp only [push_cast, leL_flD, renL_flD, seval]) (by simp only [push_cast, leL_flD, renL_flD, seval]) rfl) (args := [.sl t0.length (fl t0), .own 1 0 ([(GWake.mk t1 0 0 false false)] : List GWake).length]) (dst := (some 8)) (by kernel_rfl) [(0, .row 33 [bS false, bS false, bS false, iS 0, iS 0, .v (.slice none 0 0)]), (1, .row 64 (fl ([(GWake.mk t1 0 0 false false)] : List GWake)))] 2 (by kernel_rfl) [(0, 1)] [] (.own 3 0 r11664.length) [(3, .row 57 (fl r11664)), (1, .dead)] (by simp only [push_cast, leL_flD, renL_flD, seval]) (by simp only [push_cast, leL_flD, renL_flD, seval]) (by kernel_rfl) (.inl rfl) (by simp only [push_cast, leL_flD, renL_flD, seval]) (by simp only [push_cast, leL_flD, renL_flD, seval]) ?_
 refine rs 3 [] [] (by kernel_rfl) allP_nil ?_
 refine rf [(2, .own 3 0 r11664.length), (3, .ptr 0 0)] [(0, .row 33 [bS false, bS false, bS false, iS 0, iS 0, .v (.slice none 0 0)]), (1, .dead), (3, .row 57 (fl r11664))] 4 (by kernel_rfl) ?_
 refine wk_id ?_
 obtain rfl := Option.some.inj h
 refine ret_at (.tup [.own 3 0 r11664.length, .agg [bS false, bS false, bS false, iS 0, iS 0, .v (.slice none 0 0)]]) (by kernel_rfl) ?_
 exact ret_e [(0, 3)] [] (by simp only [push_cast, leL_flD, renL_flD, seval]) (by simp only [push_cast, leL_flD, renL_flD, seval]) rfl rfl rfl

set_option maxRecDepth 100000 in
set_option maxHeartbeats 200000000 in
theorem taskmilllaw_hubAs_2_spec (xh : (List Pipe)) (xa : Answer) (f : Fault) (w : Fault) (want : (List Pipe)) (want1 : Int) (r : Bool) (h : taskmilllaw_hubAs_2 xh xa f w want want1 = some r) : SpecW Try.prog 18 [.sl xh.length (fl xh), .agg (Enc.cells xa), .agg (Enc.cells f), .agg (Enc.cells w), .clo 35 [.iptr [.sl want.length (fl want)] 0, .iptr [iS want1] 0]] [] 0 (fun x h n => x = bS r ∧ h = [] ∧ n = 0) := by
 unfold taskmilllaw_hubAs_2 at h
 refine spec_of (draw_ok _) Try.func18 rfl (by decide) rfl (by kernel_rfl) ?_
 refine seq_np ?_
 refine reg_f ?_
 refine rs 4 [] [] (by kernel_rfl) allP_nil ?_
 refine rf [(0, .sl xh.length (fl xh)), (4, .clo 35 [.iptr [.sl want.length (fl want)] 0, .iptr [iS want1] 0]), (6, .ptr 0 0), (7, .ptr 1 0), (8, .ptr 2 0)] [(0, .row 33 (Enc.cells xa)), (1, .row 29 (Enc.cells f)), (2, .row 29 (Enc.cells w))] 3 (by kernel_rfl) ?_
 refine wk_id ?_
 refine seq_np ?_
 refine seq_np ?_
 refine reg_f ?_
 refine rs 3 [] [] (by kernel_rfl) allP_nil ?_
 refine rf [(0, .sl xh.length (fl xh)), (4, .clo 35 [.iptr [.sl want.length (fl want)] 0, .iptr [iS want1] 0]), (6, .ptr 0 0), (8, .ptr 2 0), (15, bS (!((f.Code == w.Code) && ((f.At == w.At) && true))))] [(0, .row 33 (Enc.cells xa)), (1, .row 29 (Enc.cells f)), (2, .row 29 (Enc.cells w))] 3 (by kernel_rfl) ?_
 refine wk_id ?_
 refine cond_sx h (by kernel_rfl) (fun g11694 h => ?_) (fun g11694 h => ?_)
 ·refine seq_np ?_
  refine reg_f ?_
  refine rs 1 [] [] (by kernel_rfl) allP_nil ?_
  refine rf [(10, bS false)] [(0, .row 33 (Enc.cells xa)), (1, .row 29 (Enc.cells f)), (2, .row 29 (Enc.cells w))] 3 (by kernel_rfl) ?_
  refine wk_id ?_
  obtain rfl := Option.some.inj h
  refine ret_at (bS false) (by kernel_rfl) ?_
  exact ret_e [] [] (by simp only [push_cast, leL_flD, renL_flD, seval]) (by simp only [push_cast, leL_flD, renL_flD, seval]) rfl rfl rfl
 ·refine wk_id ?_
  refine seq_np ?_
  refine seq_np ?_
  refine reg_f ?_
  refine rs 3 [] [] (by kernel_rfl) allP_nil ?_
  refine rf [(0, .sl xh.length (fl xh)), (4, .clo 35 [.iptr [.sl want.length (fl want)] 0, .iptr [iS want1] 0]), (6, .ptr 0 0), (18, bS (w.Code != 0))] [(0, .row 33 (Enc.cells xa)), (1, .row 29 (Enc.cells f)), (2, .row 29 (Enc.cells w))] 3 (by kernel_rfl) ?_
  refine wk_id ?_
  refine cond_sx h (by kernel_rfl) (fun g11693 h => ?_) (fun g11693 h => ?_)
  ·refine seq_cut (A := Bool) (fun a => ([(10, bS a)], [], 0)) (fun a => (taskmilllaw_hubAs_2_j1 a) = some r) (fun K11680 hK11680 => ?_) ?_
   ·refine reg_f ?_
    refine rs 4 [] [] (by kernel_rfl) allP_nil ?_
    refine run_br h 22 (.inl (by kernel_rfl)) (fun g11681 h => ?_) (fun g11681 h => ?_)
    ·refine rs 2 [] [] (by kernel_rfl) allP_nil ?_
     obtain ⟨r11682, hr11682, h⟩ := bind_sx h
     refine call_x (taskmillref_SameAnswer_spec xa (Answer.mk false false false 0 0 []) r11682 hr11682) (args := [.agg (Enc.cells xa), .agg [bS false, bS false, bS false, iS 0, iS 0, .v (.slice none 0 0)]]) (dst := (some 25)) (by kernel_rfl) [(0, .row 33 (Enc.cells xa)), (1, .row 29 (Enc.cells f)), (2, .row 29 (Enc.cells w))] 3 (by kernel_rfl) [] [] (bS r11682) [] (by simp only [push_cast, leL_flD, renL_flD, seval]) (by simp only [push_cast, leL_flD, renL_flD, seval]) (by kernel_rfl) (.inl rfl) (by simp only [push_cast, leL_flD, renL_flD, seval]) (by simp only [push_cast, leL_flD, renL_flD, seval]) ?_
     refine rs 2 [] [] (by kernel_rfl) allP_nil ?_
     refine rf [(10, bS r11682)] [(0, .row 33 (Enc.cells xa)), (1, .row 29 (Enc.cells f)), (2, .row 29 (Enc.cells w))] 3 (by kernel_rfl) ?_
     exact hK11680 (r11682) _ _ _ h (leSt_m [] [] (by (try simp only [g11681]) <;> simp only [push_cast, leL_flD, renL_flD, seval]) (by (try simp only [g11681]) <;> simp only [push_cast, leL_flD, renL_flD, seval]) rfl rfl rfl)
    ·refine rs 5 [] [] (by kernel_rfl) allP_nil ?_
     refine rf [(10, bS false)] [(0, .row 33 (Enc.cells xa)), (1, .row 29 (Enc.cells f)), (2, .row 29 (Enc.cells w))] 3 (by kernel_rfl) ?_
     exact hK11680 (false) _ _ _ h (leSt_m [] [] (by (try simp only [g11681]) <;> simp only [push_cast, leL_flD, renL_flD, seval]) (by (try simp only [g11681]) <;> simp only [push_cast, leL_flD, renL_flD, seval]) rfl rfl rfl)
   ·rintro t10q3 h
    try dsimp only at h ⊢
    unfold taskmilllaw_hubAs_2_j1 at h
    obtain rfl := Option.some.inj h
    refine ret_at (bS t10q3) (by kernel_rfl) ?_
    exact ret_e [] [] (by simp only [push_cast, leL_flD, renL_flD, seval]) (by simp only [push_cast, leL_flD, renL_flD, seval]) rfl rfl rfl
  ·refine wk_id ?_
   refine seq_np ?_
   refine reg_f ?_
   refine rs 1 [] [] (by kernel_rfl) allP_nil ?_
   obtain ⟨r11684, hr11684, h⟩ := bind_sx h
   refine call_x (taskmilllaw_PickShuts_2_spec want want1 r11684 hr11684) (args := [.iptr [.sl want.length (fl want)] 0, .iptr [iS want1] 0]) (dst := (some 29)) (by kernel_rfl) [(0, .row 33 (Enc.cells xa)), (1, .row 29 (Enc.cells f)), (2, .row 29 (Enc.cells w))] 3 (by kernel_rfl) [] [] (.tup [.own 3 0 r11684.2.2.2.2.2.length, .agg [bS r11684.1, bS r11684.2.1, bS r11684.2.2.1, iS r11684.2.2.2.1, iS r11684.2.2.2.2.1, .v (.slice none 0 0)]]) [(3, .row 57 (fl r11684.2.2.2.2.2))] (by simp only [push_cast, leL_flD, renL_flD, seval]) (by simp only [push_cast, leL_flD, renL_flD, seval]) (by kernel_rfl) (.inl rfl) (by simp only [push_cast, leL_flD, renL_flD, seval]) (by simp only [push_cast, leL_flD, renL_flD, seval]) ?_
   refine rs 6 [] [] (by kernel_rfl) allP_nil ?_
   refine rf [(0, .sl xh.length (fl xh)), (6, .ptr 0 0), (11, .own 3 0 r11684.2.2.2.2.2.length), (12, .ptr 4 0)] [(0, .row 33 (Enc.cells xa)), (1, .row 29 (Enc.cells f)), (2, .row 29 (Enc.cells w)), (3, .row 57 (fl r11684.2.2.2.2.2)), (4, .row 33 [bS r11684.1, bS r11684.2.1, bS r11684.2.2.1, iS r11684.2.2.2.1, iS r11684.2.2.2.2.1, .v (.slice none 0 0)])] 5 (by kernel_rfl) ?_
   refine wk_id ?_
   refine seq_cut (A := Bool) (fun a => ([(10, bS a)], [], 0)) (fun a => (taskmilllaw_hubAs_2_j2 a) = some r) (fun K11689 hK11689 => ?_) ?_
   ·refine reg_f ?_
    refine rs 2 [] [] (by kernel_rfl) allP_nil ?_
    obtain ⟨r11690, hr11690, h⟩ := bind_sx h
    refine call_x (taskmillref_SameHub_spec xh r11684.2.2.2.2.2 r11690 hr11690) (args := [.sl xh.length (fl xh), .own 3 0 r11684.2.2.2.2.2.length]) (dst := (some 34)) (by kernel_rfl) [(0, .row 33 (Enc.cells xa)), (1, .row 29 (Enc.cells f)), (2, .row 29 (Enc.cells w)), (3, .row 57 (fl r11684.2.2.2.2.2)), (4, .row 33 [bS r11684.1, bS r11684.2.1, bS r11684.2.2.1, iS r11684.2.2.2.1, iS r11684.2.2.2.2.1, .v (.slice none 0 0)])] 5 (by kernel_rfl) [] [3] (bS r11690) [] (by simp only [push_cast, leL_flD, renL_flD, seval]) (by simp only [push_cast, leL_flD, renL_flD, seval]) (by kernel_rfl) (.inr ⟨by simp only [push_cast, leL_flD, renL_flD, seval], by simp only [push_cast, leL_flD, renL_flD, seval]⟩) (by simp only [push_cast, leL_flD, renL_flD, seval]) (by simp only [push_cast, leL_flD, renL_flD, seval]) ?_
    refine rs 1 [] [] (by kernel_rfl) allP_nil ?_
    refine run_br h 35 (.inl (by kernel_rfl)) (fun g11691 h => ?_) (fun g11691 h => ?_)
    ·refine rs 2 [] [] (by kernel_rfl) allP_nil ?_
     obtain ⟨r11692, hr11692, h⟩ := bind_sx h
     refine call_x (taskmillref_SameAnswer_spec xa (Answer.mk r11684.1 r11684.2.1 r11684.2.2.1 r11684.2.2.2.1 r11684.2.2.2.2.1 []) r11692 hr11692) (args := [.agg (Enc.cells xa), .agg [bS r11684.1, bS r11684.2.1, bS r11684.2.2.1, iS r11684.2.2.2.1, iS r11684.2.2.2.2.1, .v (.slice none 0 0)]]) (dst := (some 38)) (by kernel_rfl) [(0, .row 33 (Enc.cells xa)), (1, .row 29 (Enc.cells f)), (2, .row 29 (Enc.cells w)), (3, .row 57 (fl r11684.2.2.2.2.2)), (4, .row 33 [bS r11684.1, bS r11684.2.1, bS r11684.2.2.1, iS r11684.2.2.2.1, iS r11684.2.2.2.2.1, .v (.slice none 0 0)])] 5 (by kernel_rfl) [] [] (bS r11692) [] (by simp only [push_cast, leL_flD, renL_flD, seval]) (by simp only [push_cast, leL_flD, renL_flD, seval]) (by kernel_rfl) (.inl rfl) (by simp only [push_cast, leL_flD, renL_flD, seval]) (by simp only [push_cast, leL_flD, renL_flD, seval]) ?_
     refine rs 2 [] [] (by kernel_rfl) allP_nil ?_
     refine rf [(10, bS r11692)] [(0, .row 33 (Enc.cells xa)), (1, .row 29 (Enc.cells f)), (2, .row 29 (Enc.cells w)), (3, .row 57 (fl r11684.2.2.2.2.2)), (4, .row 33 [bS r11684.1, bS r11684.2.1, bS r11684.2.2.1, iS r11684.2.2.2.1, iS r11684.2.2.2.2.1, .v (.slice none 0 0)])] 5 (by kernel_rfl) ?_
     exact hK11689 (r11692) _ _ _ h (leSt_m [] [] (by (try simp only [g11691]) <;> simp only [push_cast, leL_flD, renL_flD, seval]) (by (try simp only [g11691]) <;> simp only [push_cast, leL_flD, renL_flD, seval]) rfl rfl rfl)
    ·refine rs 5 [] [] (by kernel_rfl) allP_nil ?_
     refine rf [(10, bS false)] [(0, .row 33 (Enc.cells xa)), (1, .row 29 (Enc.cells f)), (2, .row 29 (Enc.cells w)), (3, .row 57 (fl r11684.2.2.2.2.2)), (4, .row 33 [bS r11684.1, bS r11684.2.1, bS r11684.2.2.1, iS r11684.2.2.2.1, iS r11684.2.2.2.2.1, .v (.slice none 0 0)])] 5 (by kernel_rfl) ?_
     exact hK11689 (false) _ _ _ h (leSt_m [] [] (by (try simp only [g11691]) <;> simp only [push_cast, leL_flD, renL_flD, seval]) (by (try simp only [g11691]) <;> simp only [push_cast, leL_flD, renL_flD, seval]) rfl rfl rfl)
   ·rintro t10q4 h
    try dsimp only at h ⊢
    unfold taskmilllaw_hubAs_2_j2 at h
    obtain rfl := Option.some.inj h
    refine ret_at (bS t10q4) (by kernel_rfl) ?_
    exact ret_e [] [] (by simp only [push_cast, leL_flD, renL_flD, seval]) (by simp only [push_cast, leL_flD, renL_flD, seval]) rfl rfl rfl

set_option maxRecDepth 100000 in
set_option maxHeartbeats 200000000 in
theorem taskmilllaw_PickShuts_spec (l : (List Pipe)) (i : Int) (task : Int) (r : Bool) (h : taskmilllaw_PickShuts l i task = some r) : SpecW Try.prog 7 [.sl l.length (fl l), iS i, iS task] [] 0 (fun x h n => x = bS r ∧ h = [] ∧ n = 0) := by
 unfold taskmilllaw_PickShuts at h
 refine spec_of (draw_ok _) Try.func7 rfl (by decide) rfl (by kernel_rfl) ?_
 refine seq_np ?_
 refine reg_f ?_
 refine rs 4 [] [] (by kernel_rfl) allP_nil ?_
 refine rf [(3, .ptr 0 0), (4, .ptr 1 0), (5, .ptr 2 0)] [(0, .row 22 [.sl l.length (fl l)]), (1, .row 3 [iS i]), (2, .row 3 [iS task])] 3 (by kernel_rfl) ?_
 refine wk_id ?_
 refine seq_np ?_
 refine seq_np ?_
 refine reg_f ?_
 obtain ⟨r11699, hr11699, h⟩ := bind_sx h
 refine run_call 9 [] (some 14) (by kernel_rfl) ?_
 refine call_0 (taskmilllaw_pickBegun_spec r11699 hr11699) (by simp only [push_cast, leL_flD, renL_flD, seval]) (by simp only [push_cast, leL_flD, renL_flD, seval]) ?_
 refine back_f ?_
 refine rs 1 [] [] (by kernel_rfl) allP_nil ?_
 refine rf [(3, .ptr 0 0), (4, .ptr 1 0), (5, .ptr 2 0), (15, bS (!r11699))] [(0, .row 22 [.sl l.length (fl l)]), (1, .row 3 [iS i]), (2, .row 3 [iS task])] 3 (by kernel_rfl) ?_
 refine wk_id ?_
 refine cond_sx h (by kernel_rfl) (fun g11753 h => ?_) (fun g11753 h => ?_)
 ·refine seq_np ?_
  refine reg_f ?_
  refine rs 1 [] [] (by kernel_rfl) allP_nil ?_
  refine rf [(6, bS false)] [(0, .row 22 [.sl l.length (fl l)]), (1, .row 3 [iS i]), (2, .row 3 [iS task])] 3 (by kernel_rfl) ?_
  refine wk_id ?_
  obtain rfl := Option.some.inj h
  refine ret_at (bS false) (by kernel_rfl) ?_
  exact ret_e [] [] (by simp only [push_cast, leL_flD, renL_flD, seval]) (by simp only [push_cast, leL_flD, renL_flD, seval]) rfl rfl rfl
 ·refine wk_id ?_
  refine seq_np ?_
  refine seq_np ?_
  refine reg_f ?_
  refine rs 1 [] [] (by kernel_rfl) allP_nil ?_
  obtain ⟨r11703, hr11703, h⟩ := bind_sx h
  refine run_call 10 [.sl l.length (fl l)] (some 17) (by kernel_rfl) ?_
  refine call_0 (taskmilllaw_vastHub_spec l r11703 hr11703) (by simp only [push_cast, leL_flD, renL_flD, seval]) (by simp only [push_cast, leL_flD, renL_flD, seval]) ?_
  refine back_f ?_
  refine rf [(3, .ptr 0 0), (4, .ptr 1 0), (5, .ptr 2 0), (17, bS r11703)] [(0, .row 22 [.sl l.length (fl l)]), (1, .row 3 [iS i]), (2, .row 3 [iS task])] 3 (by kernel_rfl) ?_
  refine wk_id ?_
  refine cond_sx h (by kernel_rfl) (fun g11752 h => ?_) (fun g11752 h => ?_)
  ·refine seq_np ?_
   refine reg_f ?_
   refine rs 1 [] [] (by kernel_rfl) allP_nil ?_
   refine rf [(6, bS true)] [(0, .row 22 [.sl l.length (fl l)]), (1, .row 3 [iS i]), (2, .row 3 [iS task])] 3 (by kernel_rfl) ?_
   refine wk_id ?_
   obtain rfl := Option.some.inj h
   refine ret_at (bS true) (by kernel_rfl) ?_
   exact ret_e [] [] (by simp only [push_cast, leL_flD, renL_flD, seval]) (by simp only [push_cast, leL_flD, renL_flD, seval]) rfl rfl rfl
  ·refine wk_id ?_
   refine seq_np ?_
   refine reg_t ?_
   refine rs 1 [] [] (by kernel_rfl) allP_nil ?_
   obtain ⟨r11706, hr11706, h⟩ := bind_sx h
   refine call_x (taskmilllaw_ownHub_spec l r11706 hr11706) (args := [.sl l.length (fl l)]) (dst := (some 20)) (by kernel_rfl) [(0, .row 22 [.sl l.length (fl l)]), (1, .row 3 [iS i]), (2, .row 3 [iS task])] 4 (by kernel_rfl) [] [] (.own 4 0 r11706.length) [(4, .row 57 (flD dPipe [5, 6, 7] r11706)), ((.s 5 0), .fam (famD dPipe 0 r11706)), ((.s 6 0), .fam (famD dPipe 1 r11706)), ((.s 7 0), .fam (famD dPipe 2 r11706))] (by simp only [push_cast, leL_flD, renL_flD, seval]) (by simp only [push_cast, leL_flD, renL_flD, seval]) (by kernel_rfl) (.inl rfl) (by first | (simp only [push_cast, leL_flD, renL_flD, seval]; done) | (simp only [push_cast, leL_flD, renL_flD, seval]; kernel_rfl) | kernel_rfl) (by first | (simp only [push_cast, leL_flD, renL_flD, seval]; done) | (simp only [push_cast, leL_flD, renL_flD, seval]; kernel_rfl) | kernel_rfl) ?_
   refine rs 1 [] [] (by kernel_rfl) allP_nil ?_
   obtain ⟨r11707, hr11707, h⟩ := bind_sx h
   refine call_x (SpecW.giveG (pick_Shut_spec r11706 i r11707 hr11707) [Nm.t 0, (.s 1 0), (.s 2 0), (.s 3 0)] 4 [(0, .row 57 (flD dPipe [1, 2, 3] r11706)), ((.s 1 0), .fam (famD dPipe 0 r11706)), ((.s 2 0), .fam (famD dPipe 1 r11706)), ((.s 3 0), .fam (famD dPipe 2 r11706))] [.own 0 0 r11706.length, iS i] [] (.tup [.own 4 0 r11707.2.2.2.2.2.2.1.length, .agg [bS r11707.1, bS r11707.2.1, bS r11707.2.2.1, iS r11707.2.2.2.1, iS r11707.2.2.2.2.1, .own 5 0 r11707.2.2.2.2.2.2.2.length], .agg (Enc.cells r11707.2.2.2.2.2.1)]) [(4, .row 57 (flD dPipe [6, 7, 8] r11707.2.2.2.2.2.2.1)), (5, .row 64 (fl r11707.2.2.2.2.2.2.2)), ((.s 6 0), .fam (famD dPipe 0 r11707.2.2.2.2.2.2.1)), ((.s 7 0), .fam (famD dPipe 1 r11707.2.2.2.2.2.2.1)), ((.s 8 0), .fam (famD dPipe 2 r11707.2.2.2.2.2.2.1))] (by decide) (by simp only [↓leS_frzD dPipe [1, 2, 3] r11706, leS_frz, leL_flD, renL_flD, push_cast, seval]) (by simp only [push_cast, leL_flD, renL_flD, seval]) (by simp only [push_cast, leL_flD, renL_flD, seval]) (by simp only [push_cast, leL_flD, renL_flD, seval]) rfl (by first | (simp only [push_cast, leL_flD, renL_flD, seval]; done) | (simp only [push_cast, leL_flD, renL_flD, seval]; kernel_rfl) | kernel_rfl) (by first | (simp only [push_cast, leL_flD, renL_flD, seval]; done) | (simp only [push_cast, leL_flD, renL_flD, seval]; kernel_rfl) | kernel_rfl) rfl) (args := [.own 4 0 r11706.length, iS i]) (dst := (some 22)) (by kernel_rfl) [(0, .row 22 [.sl l.length (fl l)]), (1, .row 3 [iS i]), (2, .row 3 [iS task]), (4, .row 57 (flD dPipe [5, 6, 7] r11706)), ((.s 5 0), .fam (famD dPipe 0 r11706)), ((.s 6 0), .fam (famD dPipe 1 r11706)), ((.s 7 0), .fam (famD dPipe 2 r11706))] 10 (by kernel_rfl) [(0, 4), ((.s 1 0), (.s 5 0)), ((.s 2 0), (.s 6 0)), ((.s 3 0), (.s 7 0))] [] (.tup [.own 14 0 r11707.2.2.2.2.2.2.1.length, .agg [bS r11707.1, bS r11707.2.1, bS r11707.2.2.1, iS r11707.2.2.2.1, iS r11707.2.2.2.2.1, .own 15 0 r11707.2.2.2.2.2.2.2.length], .agg (Enc.cells r11707.2.2.2.2.2.1)]) [(14, .row 57 (flD dPipe [16, 17, 18] r11707.2.2.2.2.2.2.1)), (15, .row 64 (fl r11707.2.2.2.2.2.2.2)), ((.s 16 0), .fam (famD dPipe 0 r11707.2.2.2.2.2.2.1)), ((.s 17 0), .fam (famD dPipe 1 r11707.2.2.2.2.2.2.1)), ((.s 18 0), .fam (famD dPipe 2 r11707.2.2.2.2.2.2.1)), (4, .dead), ((.s 5 0), .dead), ((.s 6 0), .dead), ((.s 7 0), .dead)] (by simp only [push_cast, leL_flD, renL_flD, seval]) (by simp only [push_cast, leL_flD, renL_flD, seval]) (by kernel_rfl) (.inl rfl) (by first | (simp only [push_cast, leL_flD, renL_flD, seval]; done) | (simp only [push_cast, leL_flD, renL_flD, seval]; kernel_rfl) | kernel_rfl) (by first | (simp only [push_cast, leL_flD, renL_flD, seval]; done) | (simp only [push_cast, leL_flD, renL_flD, seval]; kernel_rfl) | kernel_rfl) ?_ (hfam := (And.intro trivial (And.intro (fun _ => Or.inl rfl) (And.intro (fun _ => Or.inl rfl) (And.intro (fun _ => Or.inl rfl) trivial)))))
   refine rs 9 [] [] (by kernel_rfl) allP_nil ?_
   refine rt [(3, .ptr 0 0), (4, .ptr 1 0), (5, .ptr 2 0), (7, .own 14 0 r11707.2.2.2.2.2.2.1.length), (8, .ptr 24 0), (9, .ptr 26 0)] [(0, .row 22 [.sl l.length (fl l)]), (1, .row 3 [iS i]), (2, .row 3 [iS task]), (4, .dead), ((.s 5 0), .dead), ((.s 6 0), .dead), ((.s 7 0), .dead), (14, .row 57 (flD dPipe [16, 17, 18] r11707.2.2.2.2.2.2.1)), (15, .row 64 (fl r11707.2.2.2.2.2.2.2)), ((.s 16 0), .fam (famD dPipe 0 r11707.2.2.2.2.2.2.1)), ((.s 17 0), .fam (famD dPipe 1 r11707.2.2.2.2.2.2.1)), ((.s 18 0), .fam (famD dPipe 2 r11707.2.2.2.2.2.2.1)), (24, .row 33 [bS r11707.1, bS r11707.2.1, bS r11707.2.2.1, iS r11707.2.2.2.1, iS r11707.2.2.2.2.1, .own 15 0 r11707.2.2.2.2.2.2.2.length]), (26, .row 29 (Enc.cells r11707.2.2.2.2.2.1))] 31 follows (by kernel_rfl) ?_
   refine wk_id ?_
   refine seq_np ?_
   refine reg_t ?_
   refine rs 1 [] [] (by kernel_rfl) allP_nil ?_
   obtain ⟨r11710, hr11710, h⟩ := bind_sx h
   refine call_x (taskmilllaw_ownHub_spec l r11710 hr11710) (args := [.sl l.length (fl l)]) (dst := (some 28)) (by kernel_rfl) [(0, .row 22 [.sl l.length (fl l)]), (1, .row 3 [iS i]), (2, .row 3 [iS task]), (4, .dead), ((.s 5 0), .dead), ((.s 6 0), .dead), ((.s 7 0), .dead), (14, .row 57 (flD dPipe [16, 17, 18] r11707.2.2.2.2.2.2.1)), (15, .row 64 (fl r11707.2.2.2.2.2.2.2)), ((.s 16 0), .fam (famD dPipe 0 r11707.2.2.2.2.2.2.1)), ((.s 17 0), .fam (famD dPipe 1 r11707.2.2.2.2.2.2.1)), ((.s 18 0), .fam (famD dPipe 2 r11707.2.2.2.2.2.2.1)), (24, .row 33 [bS r11707.1, bS r11707.2.1, bS r11707.2.2.1, iS r11707.2.2.2.1, iS r11707.2.2.2.2.1, .own 15 0 r11707.2.2.2.2.2.2.2.length]), (26, .row 29 (Enc.cells r11707.2.2.2.2.2.1))] 32 (by kernel_rfl) [] [] (.own 32 0 r11710.length) [(32, .row 57 (flD dPipe [33, 34, 35] r11710)), ((.s 33 0), .fam (famD dPipe 0 r11710)), ((.s 34 0), .fam (famD dPipe 1 r11710)), ((.s 35 0), .fam (famD dPipe 2 r11710))] (by simp only [push_cast, leL_flD, renL_flD, seval]) (by simp only [push_cast, leL_flD, renL_flD, seval]) (by kernel_rfl) (.inl rfl) (by first | (simp only [push_cast, leL_flD, renL_flD, seval]; done) | (simp only [push_cast, leL_flD, renL_flD, seval]; kernel_rfl) | kernel_rfl) (by first | (simp only [push_cast, leL_flD, renL_flD, seval]; done) | (simp only [push_cast, leL_flD, renL_flD, seval]; kernel_rfl) | kernel_rfl) ?_
   refine rs 1 [] [] (by kernel_rfl) allP_nil ?_
   obtain ⟨r11711, hr11711, h⟩ := bind_sx h
   refine call_x (SpecW.giveG (pick_Leave_spec r11710 task r11711 hr11711) [Nm.t 0, (.s 1 0), (.s 2 0), (.s 3 0)] 4 [(0, .row 57 (flD dPipe [1, 2, 3] r11710)), ((.s 1 0), .fam (famD dPipe 0 r11710)), ((.s 2 0), .fam (famD dPipe 1 r11710)), ((.s 3 0), .fam (famD dPipe 2 r11710))] [.own 0 0 r11710.length, iS task] [] (.tup [.own 4 0 r11711.2.length, .agg (Enc.cells r11711.1)]) [(4, .row 57 (flD dPipe [5, 6, 7] r11711.2)), ((.s 5 0), .fam (famD dPipe 0 r11711.2)), ((.s 6 0), .fam (famD dPipe 1 r11711.2)), ((.s 7 0), .fam (famD dPipe 2 r11711.2))] (by decide) (by simp only [↓leS_frzD dPipe [1, 2, 3] r11710, leS_frz, leL_flD, renL_flD, push_cast, seval]) (by simp only [push_cast, leL_flD, renL_flD, seval]) (by simp only [push_cast, leL_flD, renL_flD, seval]) (by simp only [push_cast, leL_flD, renL_flD, seval]) rfl (by first | (simp only [push_cast, leL_flD, renL_flD, seval]; done) | (simp only [push_cast, leL_flD, renL_flD, seval]; kernel_rfl) | kernel_rfl) (by first | (simp only [push_cast, leL_flD, renL_flD, seval]; done) | (simp only [push_cast, leL_flD, renL_flD, seval]; kernel_rfl) | kernel_rfl) rfl) (args := [.own 32 0 r11710.length, iS task]) (dst := (some 30)) (by kernel_rfl) [(0, .row 22 [.sl l.length (fl l)]), (1, .row 3 [iS i]), (2, .row 3 [iS task]), (4, .dead), ((.s 5 0), .dead), ((.s 6 0), .dead), ((.s 7 0), .dead), (14, .row 57 (flD dPipe [16, 17, 18] r11707.2.2.2.2.2.2.1)), (15, .row 64 (fl r11707.2.2.2.2.2.2.2)), ((.s 16 0), .fam (famD dPipe 0 r11707.2.2.2.2.2.2.1)), ((.s 17 0), .fam (famD dPipe 1 r11707.2.2.2.2.2.2.1)), ((.s 18 0), .fam (famD dPipe 2 r11707.2.2.2.2.2.2.1)), (24, .row 33 [bS r11707.1, bS r11707.2.1, bS r11707.2.2.1, iS r11707.2.2.2.1, iS r11707.2.2.2.2.1, .own 15 0 r11707.2.2.2.2.2.2.2.length]), (26, .row 29 (Enc.cells r11707.2.2.2.2.2.1)), (32, .row 57 (flD dPipe [33, 34, 35] r11710)), ((.s 33 0), .fam (famD dPipe 0 r11710)), ((.s 34 0), .fam (famD dPipe 1 r11710)), ((.s 35 0), .fam (famD dPipe 2 r11710))] 38 (by kernel_rfl) [(0, 32), ((.s 1 0), (.s 33 0)), ((.s 2 0), (.s 34 0)), ((.s 3 0), (.s 35 0))] [] (.tup [.own 42 0 r11711.2.length, .agg (Enc.cells r11711.1)]) [(42, .row 57 (flD dPipe [43, 44, 45] r11711.2)), ((.s 43 0), .fam (famD dPipe 0 r11711.2)), ((.s 44 0), .fam (famD dPipe 1 r11711.2)), ((.s 45 0), .fam (famD dPipe 2 r11711.2)), (32, .dead), ((.s 33 0), .dead), ((.s 34 0), .dead), ((.s 35 0), .dead)] (by simp only [push_cast, leL_flD, renL_flD, seval]) (by simp only [push_cast, leL_flD, renL_flD, seval]) (by kernel_rfl) (.inl rfl) (by first | (simp only [push_cast, leL_flD, renL_flD, seval]; done) | (simp only [push_cast, leL_flD, renL_flD, seval]; kernel_rfl) | kernel_rfl) (by first | (simp only [push_cast, leL_flD, renL_flD, seval]; done) | (simp only [push_cast, leL_flD, renL_flD, seval]; kernel_rfl) | kernel_rfl) ?_ (hfam := (And.intro trivial (And.intro (fun _ => Or.inl rfl) (And.intro (fun _ => Or.inl rfl) (And.intro (fun _ => Or.inl rfl) trivial)))))
   refine rs 6 [] [] (by kernel_rfl) allP_nil ?_
   refine rt [(3, .ptr 0 0), (4, .ptr 1 0), (5, .ptr 2 0), (7, .own 14 0 r11707.2.2.2.2.2.2.1.length), (8, .ptr 24 0), (9, .ptr 26 0), (10, .own 42 0 r11711.2.length), (11, .ptr 50 0)] [(0, .row 22 [.sl l.length (fl l)]), (1, .row 3 [iS i]), (2, .row 3 [iS task]), (4, .dead), ((.s 5 0), .dead), ((.s 6 0), .dead), ((.s 7 0), .dead), (14, .row 57 (flD dPipe [16, 17, 18] r11707.2.2.2.2.2.2.1)), (15, .row 64 (fl r11707.2.2.2.2.2.2.2)), ((.s 16 0), .fam (famD dPipe 0 r11707.2.2.2.2.2.2.1)), ((.s 17 0), .fam (famD dPipe 1 r11707.2.2.2.2.2.2.1)), ((.s 18 0), .fam (famD dPipe 2 r11707.2.2.2.2.2.2.1)), (24, .row 33 [bS r11707.1, bS r11707.2.1, bS r11707.2.2.1, iS r11707.2.2.2.1, iS r11707.2.2.2.2.1, .own 15 0 r11707.2.2.2.2.2.2.2.length]), (26, .row 29 (Enc.cells r11707.2.2.2.2.2.1)), (32, .dead), ((.s 33 0), .dead), ((.s 34 0), .dead), ((.s 35 0), .dead), (42, .row 57 (flD dPipe [43, 44, 45] r11711.2)), ((.s 43 0), .fam (famD dPipe 0 r11711.2)), ((.s 44 0), .fam (famD dPipe 1 r11711.2)), ((.s 45 0), .fam (famD dPipe 2 r11711.2)), (50, .row 29 (Enc.cells r11711.1))] 54 follows (by kernel_rfl) ?_
   refine wk_id ?_
   refine seq_np ?_
   refine reg_f ?_
   refine rs 1 [] [] (by kernel_rfl) allP_nil ?_
   obtain ⟨r11713, hr11713, h⟩ := bind_sx h
   refine run_call 16 [.sl l.length (fl l)] (some 34) (by kernel_rfl) ?_
   refine call_0 (taskmillref_HubFault_spec l r11713 hr11713) (by simp only [push_cast, leL_flD, renL_flD, seval]) (by simp only [push_cast, leL_flD, renL_flD, seval]) ?_
   refine back_f ?_
   refine rs 2 [] [] (by kernel_rfl) allP_nil ?_
   refine rf [(3, .ptr 0 0), (4, .ptr 1 0), (5, .ptr 2 0), (7, .own 14 0 r11707.2.2.2.2.2.2.1.length), (8, .ptr 24 0), (9, .ptr 26 0), (10, .own 42 0 r11711.2.length), (11, .ptr 50 0), (12, .ptr 54 0)] [(0, .row 22 [.sl l.length (fl l)]), (1, .row 3 [iS i]), (2, .row 3 [iS task]), (4, .dead), ((.s 5 0), .dead), ((.s 6 0), .dead), ((.s 7 0), .dead), (14, .row 57 (flD dPipe [16, 17, 18] r11707.2.2.2.2.2.2.1)), (15, .row 64 (fl r11707.2.2.2.2.2.2.2)), ((.s 16 0), .fam (famD dPipe 0 r11707.2.2.2.2.2.2.1)), ((.s 17 0), .fam (famD dPipe 1 r11707.2.2.2.2.2.2.1)), ((.s 18 0), .fam (famD dPipe 2 r11707.2.2.2.2.2.2.1)), (24, .row 33 [bS r11707.1, bS r11707.2.1, bS r11707.2.2.1, iS r11707.2.2.2.1, iS r11707.2.2.2.2.1, .own 15 0 r11707.2.2.2.2.2.2.2.length]), (26, .row 29 (Enc.cells r11707.2.2.2.2.2.1)), (32, .dead), ((.s 33 0), .dead), ((.s 34 0), .dead), ((.s 35 0), .dead), (42, .row 57 (flD dPipe [43, 44, 45] r11711.2)), ((.s 43 0), .fam (famD dPipe 0 r11711.2)), ((.s 44 0), .fam (famD dPipe 1 r11711.2)), ((.s 45 0), .fam (famD dPipe 2 r11711.2)), (50, .row 29 (Enc.cells r11711.1)), (54, .row 29 (Enc.cells r11713))] 55 (by kernel_rfl) ?_
   refine wk_id ?_
   refine seq_np ?_
   refine reg_f ?_
   refine rs 3 [] [] (by kernel_rfl) allP_nil ?_
   refine rf [(3, .ptr 0 0), (4, .ptr 1 0), (5, .ptr 2 0), (7, .own 14 0 r11707.2.2.2.2.2.2.1.length), (8, .ptr 24 0), (9, .ptr 26 0), (10, .own 42 0 r11711.2.length), (11, .ptr 50 0), (12, .ptr 54 0), (13, .ptr 55 0)] [(0, .row 22 [.sl l.length (fl l)]), (1, .row 3 [iS i]), (2, .row 3 [iS task]), (4, .dead), ((.s 5 0), .dead), ((.s 6 0), .dead), ((.s 7 0), .dead), (14, .row 57 (flD dPipe [16, 17, 18] r11707.2.2.2.2.2.2.1)), (15, .row 64 (fl r11707.2.2.2.2.2.2.2)), ((.s 16 0), .fam (famD dPipe 0 r11707.2.2.2.2.2.2.1)), ((.s 17 0), .fam (famD dPipe 1 r11707.2.2.2.2.2.2.1)), ((.s 18 0), .fam (famD dPipe 2 r11707.2.2.2.2.2.2.1)), (24, .row 33 [bS r11707.1, bS r11707.2.1, bS r11707.2.2.1, iS r11707.2.2.2.1, iS r11707.2.2.2.2.1, .own 15 0 r11707.2.2.2.2.2.2.2.length]), (26, .row 29 (Enc.cells r11707.2.2.2.2.2.1)), (32, .dead), ((.s 33 0), .dead), ((.s 34 0), .dead), ((.s 35 0), .dead), (42, .row 57 (flD dPipe [43, 44, 45] r11711.2)), ((.s 43 0), .fam (famD dPipe 0 r11711.2)), ((.s 44 0), .fam (famD dPipe 1 r11711.2)), ((.s 45 0), .fam (famD dPipe 2 r11711.2)), (50, .row 29 (Enc.cells r11711.1)), (54, .row 29 (Enc.cells r11713)), (55, .row 29 (Enc.cells r11713))] 56 (by kernel_rfl) ?_
   refine wk_id ?_
   refine seq_cut (A := (List Pipe) × Bool × Bool × Bool × Int × Int × Fault × (List Pipe) × Fault × Fault × Fault × (List GWake)) (fun a => ([(3, .ptr 0 0), (4, .ptr 1 0), (5, .ptr 2 0), (7, .own 3 0 a.1.length), (8, .ptr 4 0), (9, .ptr 5 0), (10, .own 6 0 a.2.2.2.2.2.2.2.1.length), (11, .ptr 7 0), (12, .ptr 8 0), (13, .ptr 9 0)], [(0, .row 22 [.sl l.length (fl l)]), (1, .row 3 [iS i]), (2, .row 3 [iS task]), (3, .row 57 (flD dPipe [10, 11, 12] a.1)), (4, .row 33 [bS a.2.1, bS a.2.2.1, bS a.2.2.2.1, iS a.2.2.2.2.1, iS a.2.2.2.2.2.1, .own 13 0 a.2.2.2.2.2.2.2.2.2.2.2.length]), (5, .row 29 (Enc.cells a.2.2.2.2.2.2.1)), (6, .row 57 (flD dPipe [14, 15, 16] a.2.2.2.2.2.2.2.1)), (7, .row 29 (Enc.cells a.2.2.2.2.2.2.2.2.1)), (8, .row 29 (Enc.cells a.2.2.2.2.2.2.2.2.2.1)), (9, .row 29 (Enc.cells a.2.2.2.2.2.2.2.2.2.2.1)), ((.s 10 0), .fam (famD dPipe 0 a.1)), ((.s 11 0), .fam (famD dPipe 1 a.1)), ((.s 12 0), .fam (famD dPipe 2 a.1)), (13, .row 64 (fl a.2.2.2.2.2.2.2.2.2.2.2)), ((.s 14 0), .fam (famD dPipe 0 a.2.2.2.2.2.2.2.1)), ((.s 15 0), .fam (famD dPipe 1 a.2.2.2.2.2.2.2.1)), ((.s 16 0), .fam (famD dPipe 2 a.2.2.2.2.2.2.2.1))], 17)) (fun a => (taskmilllaw_PickShuts_j3 l i task a.1 a.2.1 a.2.2.1 a.2.2.2.1 a.2.2.2.2.1 a.2.2.2.2.2.1 a.2.2.2.2.2.2.1 a.2.2.2.2.2.2.2.1 a.2.2.2.2.2.2.2.2.1 a.2.2.2.2.2.2.2.2.2.1 a.2.2.2.2.2.2.2.2.2.2.1 a.2.2.2.2.2.2.2.2.2.2.2) = some r) (fun K11719 hK11719 => ?_) ?_
   ·refine seq_cut (A := Unit) (fun _ => ([(3, .ptr 0 0), (4, .ptr 1 0), (5, .ptr 2 0), (7, .own 14 0 r11707.2.2.2.2.2.2.1.length), (8, .ptr 24 0), (9, .ptr 26 0), (10, .own 42 0 r11711.2.length), (11, .ptr 50 0), (12, .ptr 54 0), (13, .ptr 55 0), (48, bS ((r11713.Code == 0) && ((decide (i < 0)) || (decide (((l.length : Nat) : Int) ≤ i)))))], [(0, .row 22 [.sl l.length (fl l)]), (1, .row 3 [iS i]), (2, .row 3 [iS task]), (14, .row 57 (flD dPipe [16, 17, 18] r11707.2.2.2.2.2.2.1)), (15, .row 64 (fl r11707.2.2.2.2.2.2.2)), ((.s 16 0), .fam (famD dPipe 0 r11707.2.2.2.2.2.2.1)), ((.s 17 0), .fam (famD dPipe 1 r11707.2.2.2.2.2.2.1)), ((.s 18 0), .fam (famD dPipe 2 r11707.2.2.2.2.2.2.1)), (24, .row 33 [bS r11707.1, bS r11707.2.1, bS r11707.2.2.1, iS r11707.2.2.2.1, iS r11707.2.2.2.2.1, .own 15 0 r11707.2.2.2.2.2.2.2.length]), (26, .row 29 (Enc.cells r11707.2.2.2.2.2.1)), (42, .row 57 (flD dPipe [43, 44, 45] r11711.2)), ((.s 43 0), .fam (famD dPipe 0 r11711.2)), ((.s 44 0), .fam (famD dPipe 1 r11711.2)), ((.s 45 0), .fam (famD dPipe 2 r11711.2)), (50, .row 29 (Enc.cells r11711.1)), (54, .row 29 (Enc.cells r11713)), (55, .row 29 (Enc.cells r11713))], 56)) (fun _ => True) (fun K11722 hK11722 => ?_) (fun _ _ => ?_)
    ·refine reg_f ?_
     refine rs 4 [] [] (by kernel_rfl) allP_nil ?_
     refine run_split 39 (r11713.Code == 0) (.inl (by kernel_rfl)) (fun g11723 => ?_) (fun g11723 => ?_)
     ·refine rs 3 [] [] (by kernel_rfl) allP_nil ?_
      refine run_split 42 (decide (i < 0)) (.inr (by kernel_rfl)) (fun g11724 => ?_) (fun g11724 => ?_)
      ·refine rs 6 [] [] (by kernel_rfl) allP_nil ?_
       refine rf [(3, .ptr 0 0), (4, .ptr 1 0), (5, .ptr 2 0), (7, .own 14 0 r11707.2.2.2.2.2.2.1.length), (8, .ptr 24 0), (9, .ptr 26 0), (10, .own 42 0 r11711.2.length), (11, .ptr 50 0), (12, .ptr 54 0), (13, .ptr 55 0), (48, bS true)] [(0, .row 22 [.sl l.length (fl l)]), (1, .row 3 [iS i]), (2, .row 3 [iS task]), (4, .dead), ((.s 5 0), .dead), ((.s 6 0), .dead), ((.s 7 0), .dead), (14, .row 57 (flD dPipe [16, 17, 18] r11707.2.2.2.2.2.2.1)), (15, .row 64 (fl r11707.2.2.2.2.2.2.2)), ((.s 16 0), .fam (famD dPipe 0 r11707.2.2.2.2.2.2.1)), ((.s 17 0), .fam (famD dPipe 1 r11707.2.2.2.2.2.2.1)), ((.s 18 0), .fam (famD dPipe 2 r11707.2.2.2.2.2.2.1)), (24, .row 33 [bS r11707.1, bS r11707.2.1, bS r11707.2.2.1, iS r11707.2.2.2.1, iS r11707.2.2.2.2.1, .own 15 0 r11707.2.2.2.2.2.2.2.length]), (26, .row 29 (Enc.cells r11707.2.2.2.2.2.1)), (32, .dead), ((.s 33 0), .dead), ((.s 34 0), .dead), ((.s 35 0), .dead), (42, .row 57 (flD dPipe [43, 44, 45] r11711.2)), ((.s 43 0), .fam (famD dPipe 0 r11711.2)), ((.s 44 0), .fam (famD dPipe 1 r11711.2)), ((.s 45 0), .fam (famD dPipe 2 r11711.2)), (50, .row 29 (Enc.cells r11711.1)), (54, .row 29 (Enc.cells r11713)), (55, .row 29 (Enc.cells r11713))] 56 (by kernel_rfl) ?_
       exact hK11722 () _ _ _ trivial (leSt_m [(0, 0), (1, 1), (2, 2), (14, 14), (15, 15), ((.s 16 0), (.s 16 0)), ((.s 17 0), (.s 17 0)), ((.s 18 0), (.s 18 0)), (24, 24), (26, 26), (42, 42), ((.s 43 0), (.s 43 0)), ((.s 44 0), (.s 44 0)), ((.s 45 0), (.s 45 0)), (50, 50), (54, 54), (55, 55)] [] (by first | ((try simp only [g11723, g11724]) <;> simp only [push_cast, leL_flD, renL_flD, seval]; done) | ((try simp only [g11723]); (try simp only [g11724]); simp only [push_cast, leL_flD, renL_flD, seval]; done) | (exfalso; clear h; simp_all; done)) (by first | ((try simp only [g11723, g11724]) <;> simp only [push_cast, leL_flD, renL_flD, seval]; done) | ((try simp only [g11723]); (try simp only [g11724]); simp only [push_cast, leL_flD, renL_flD, seval]; done) | (exfalso; clear h; simp_all; done)) rfl rfl rfl)
      ·refine rs 6 [] [] (by kernel_rfl) allP_nil ?_
       refine rf [(3, .ptr 0 0), (4, .ptr 1 0), (5, .ptr 2 0), (7, .own 14 0 r11707.2.2.2.2.2.2.1.length), (8, .ptr 24 0), (9, .ptr 26 0), (10, .own 42 0 r11711.2.length), (11, .ptr 50 0), (12, .ptr 54 0), (13, .ptr 55 0), (48, bS (decide (((l.length : Nat) : Int) ≤ i)))] [(0, .row 22 [.sl l.length (fl l)]), (1, .row 3 [iS i]), (2, .row 3 [iS task]), (4, .dead), ((.s 5 0), .dead), ((.s 6 0), .dead), ((.s 7 0), .dead), (14, .row 57 (flD dPipe [16, 17, 18] r11707.2.2.2.2.2.2.1)), (15, .row 64 (fl r11707.2.2.2.2.2.2.2)), ((.s 16 0), .fam (famD dPipe 0 r11707.2.2.2.2.2.2.1)), ((.s 17 0), .fam (famD dPipe 1 r11707.2.2.2.2.2.2.1)), ((.s 18 0), .fam (famD dPipe 2 r11707.2.2.2.2.2.2.1)), (24, .row 33 [bS r11707.1, bS r11707.2.1, bS r11707.2.2.1, iS r11707.2.2.2.1, iS r11707.2.2.2.2.1, .own 15 0 r11707.2.2.2.2.2.2.2.length]), (26, .row 29 (Enc.cells r11707.2.2.2.2.2.1)), (32, .dead), ((.s 33 0), .dead), ((.s 34 0), .dead), ((.s 35 0), .dead), (42, .row 57 (flD dPipe [43, 44, 45] r11711.2)), ((.s 43 0), .fam (famD dPipe 0 r11711.2)), ((.s 44 0), .fam (famD dPipe 1 r11711.2)), ((.s 45 0), .fam (famD dPipe 2 r11711.2)), (50, .row 29 (Enc.cells r11711.1)), (54, .row 29 (Enc.cells r11713)), (55, .row 29 (Enc.cells r11713))] 56 (by kernel_rfl) ?_
       exact hK11722 () _ _ _ trivial (leSt_m [(0, 0), (1, 1), (2, 2), (14, 14), (15, 15), ((.s 16 0), (.s 16 0)), ((.s 17 0), (.s 17 0)), ((.s 18 0), (.s 18 0)), (24, 24), (26, 26), (42, 42), ((.s 43 0), (.s 43 0)), ((.s 44 0), (.s 44 0)), ((.s 45 0), (.s 45 0)), (50, 50), (54, 54), (55, 55)] [] (by first | ((try simp only [g11723, g11724]) <;> simp only [push_cast, leL_flD, renL_flD, seval]; done) | ((try simp only [g11723]); (try simp only [g11724]); simp only [push_cast, leL_flD, renL_flD, seval]; done) | (exfalso; clear h; simp_all; done)) (by first | ((try simp only [g11723, g11724]) <;> simp only [push_cast, leL_flD, renL_flD, seval]; done) | ((try simp only [g11723]); (try simp only [g11724]); simp only [push_cast, leL_flD, renL_flD, seval]; done) | (exfalso; clear h; simp_all; done)) rfl rfl rfl)
     ·refine rs 9 [] [] (by kernel_rfl) allP_nil ?_
      refine rf [(3, .ptr 0 0), (4, .ptr 1 0), (5, .ptr 2 0), (7, .own 14 0 r11707.2.2.2.2.2.2.1.length), (8, .ptr 24 0), (9, .ptr 26 0), (10, .own 42 0 r11711.2.length), (11, .ptr 50 0), (12, .ptr 54 0), (13, .ptr 55 0), (48, bS false)] [(0, .row 22 [.sl l.length (fl l)]), (1, .row 3 [iS i]), (2, .row 3 [iS task]), (4, .dead), ((.s 5 0), .dead), ((.s 6 0), .dead), ((.s 7 0), .dead), (14, .row 57 (flD dPipe [16, 17, 18] r11707.2.2.2.2.2.2.1)), (15, .row 64 (fl r11707.2.2.2.2.2.2.2)), ((.s 16 0), .fam (famD dPipe 0 r11707.2.2.2.2.2.2.1)), ((.s 17 0), .fam (famD dPipe 1 r11707.2.2.2.2.2.2.1)), ((.s 18 0), .fam (famD dPipe 2 r11707.2.2.2.2.2.2.1)), (24, .row 33 [bS r11707.1, bS r11707.2.1, bS r11707.2.2.1, iS r11707.2.2.2.1, iS r11707.2.2.2.2.1, .own 15 0 r11707.2.2.2.2.2.2.2.length]), (26, .row 29 (Enc.cells r11707.2.2.2.2.2.1)), (32, .dead), ((.s 33 0), .dead), ((.s 34 0), .dead), ((.s 35 0), .dead), (42, .row 57 (flD dPipe [43, 44, 45] r11711.2)), ((.s 43 0), .fam (famD dPipe 0 r11711.2)), ((.s 44 0), .fam (famD dPipe 1 r11711.2)), ((.s 45 0), .fam (famD dPipe 2 r11711.2)), (50, .row 29 (Enc.cells r11711.1)), (54, .row 29 (Enc.cells r11713)), (55, .row 29 (Enc.cells r11713))] 56 (by kernel_rfl) ?_
      exact hK11722 () _ _ _ trivial (leSt_m [(0, 0), (1, 1), (2, 2), (14, 14), (15, 15), ((.s 16 0), (.s 16 0)), ((.s 17 0), (.s 17 0)), ((.s 18 0), (.s 18 0)), (24, 24), (26, 26), (42, 42), ((.s 43 0), (.s 43 0)), ((.s 44 0), (.s 44 0)), ((.s 45 0), (.s 45 0)), (50, 50), (54, 54), (55, 55)] [] (by (try simp only [g11723]) <;> simp only [push_cast, leL_flD, renL_flD, seval]) (by (try simp only [g11723]) <;> simp only [push_cast, leL_flD, renL_flD, seval]) rfl rfl rfl)
    ·dsimp only
     refine cond_sx h (by kernel_rfl) (fun g11727 h => ?_) (fun g11727 h => ?_)
     ·refine reg_f ?_
      obtain ⟨r11726, hr11726, h⟩ := bind_sx h
      refine run_call 31 [iS 3, iS (-1)] (some 49) (by kernel_rfl) ?_
      refine call_0 (taskmillref_F_spec 3 (-1) r11726 hr11726) (by simp only [push_cast, leL_flD, renL_flD, seval]) (by simp only [push_cast, leL_flD, renL_flD, seval]) ?_
      refine back_f ?_
      refine rs 1 [] [] (by kernel_rfl) allP_nil ?_
      refine rf [(3, .ptr 0 0), (4, .ptr 1 0), (5, .ptr 2 0), (7, .own 14 0 r11707.2.2.2.2.2.2.1.length), (8, .ptr 24 0), (9, .ptr 26 0), (10, .own 42 0 r11711.2.length), (11, .ptr 50 0), (12, .ptr 54 0), (13, .ptr 55 0)] [(0, .row 22 [.sl l.length (fl l)]), (1, .row 3 [iS i]), (2, .row 3 [iS task]), (14, .row 57 (flD dPipe [16, 17, 18] r11707.2.2.2.2.2.2.1)), (15, .row 64 (fl r11707.2.2.2.2.2.2.2)), ((.s 16 0), .fam (famD dPipe 0 r11707.2.2.2.2.2.2.1)), ((.s 17 0), .fam (famD dPipe 1 r11707.2.2.2.2.2.2.1)), ((.s 18 0), .fam (famD dPipe 2 r11707.2.2.2.2.2.2.1)), (24, .row 33 [bS r11707.1, bS r11707.2.1, bS r11707.2.2.1, iS r11707.2.2.2.1, iS r11707.2.2.2.2.1, .own 15 0 r11707.2.2.2.2.2.2.2.length]), (26, .row 29 (Enc.cells r11707.2.2.2.2.2.1)), (42, .row 57 (flD dPipe [43, 44, 45] r11711.2)), ((.s 43 0), .fam (famD dPipe 0 r11711.2)), ((.s 44 0), .fam (famD dPipe 1 r11711.2)), ((.s 45 0), .fam (famD dPipe 2 r11711.2)), (50, .row 29 (Enc.cells r11711.1)), (54, .row 29 (Enc.cells r11713)), (55, .row 29 (Enc.cells r11726))] 56 (by kernel_rfl) ?_
      exact hK11719 (r11707.2.2.2.2.2.2.1, r11707.1, r11707.2.1, r11707.2.2.1, r11707.2.2.2.1, r11707.2.2.2.2.1, r11707.2.2.2.2.2.1, r11711.2, r11711.1, r11713, r11726, r11707.2.2.2.2.2.2.2) _ _ _ h (leSt_m [(0, 0), (1, 1), (2, 2), (3, 14), (4, 24), (5, 26), (6, 42), (7, 50), (8, 54), (9, 55), ((.s 10 0), (.s 16 0)), ((.s 11 0), (.s 17 0)), ((.s 12 0), (.s 18 0)), (13, 15), ((.s 14 0), (.s 43 0)), ((.s 15 0), (.s 44 0)), ((.s 16 0), (.s 45 0))] [] (by simp only [push_cast, leL_flD, renL_flD, seval]) (by simp only [push_cast, leL_flD, renL_flD, seval]) rfl rfl rfl)
     ·exact hK11719 (r11707.2.2.2.2.2.2.1, r11707.1, r11707.2.1, r11707.2.2.1, r11707.2.2.2.1, r11707.2.2.2.2.1, r11707.2.2.2.2.2.1, r11711.2, r11711.1, r11713, r11713, r11707.2.2.2.2.2.2.2) _ _ _ h (leSt_m [(0, 0), (1, 1), (2, 2), (3, 14), (4, 24), (5, 26), (6, 42), (7, 50), (8, 54), (9, 55), ((.s 10 0), (.s 16 0)), ((.s 11 0), (.s 17 0)), ((.s 12 0), (.s 18 0)), (13, 15), ((.s 14 0), (.s 43 0)), ((.s 15 0), (.s 44 0)), ((.s 16 0), (.s 45 0))] [] (by simp only [push_cast, leL_flD, renL_flD, seval]) (by simp only [push_cast, leL_flD, renL_flD, seval]) rfl rfl rfl)
   ·rintro ⟨c3q1, c4_Done1, c4_Panic1, c4_Ok1, c4_Value1, c4_Case1, c5q1, c6q1, c7q1, c8q1, c9q1, c13q1⟩ h
    try dsimp only at h ⊢
    unfold taskmilllaw_PickShuts_j3 at h
    refine seq_np ?_
    refine seq_np ?_
    refine reg_f ?_
    refine rs 5 [] [] (by kernel_rfl) allP_nil ?_
    obtain ⟨r11731, hr11731, h⟩ := bind_sx h
    refine call_x (taskmilllaw_hubAs_1_spec c3q1 (Answer.mk c4_Done1 c4_Panic1 c4_Ok1 c4_Value1 c4_Case1 c13q1) c5q1 c9q1 l i r11731 hr11731) (args := [.own 3 0 c3q1.length, .agg [bS c4_Done1, bS c4_Panic1, bS c4_Ok1, iS c4_Value1, iS c4_Case1, .own 13 0 c13q1.length], .agg (Enc.cells c5q1), .agg (Enc.cells c9q1), .clo 32 [.ptr 0 0, .ptr 1 0]]) (dst := (some 55)) (by kernel_rfl) [(0, .row 22 [.sl l.length (fl l)]), (1, .row 3 [iS i]), (2, .row 3 [iS task]), (3, .row 57 (flD dPipe [10, 11, 12] c3q1)), (4, .row 33 [bS c4_Done1, bS c4_Panic1, bS c4_Ok1, iS c4_Value1, iS c4_Case1, .own 13 0 c13q1.length]), (5, .row 29 (Enc.cells c5q1)), (6, .row 57 (flD dPipe [14, 15, 16] c6q1)), (7, .row 29 (Enc.cells c7q1)), (8, .row 29 (Enc.cells c8q1)), (9, .row 29 (Enc.cells c9q1)), ((.s 10 0), .fam (famD dPipe 0 c3q1)), ((.s 11 0), .fam (famD dPipe 1 c3q1)), ((.s 12 0), .fam (famD dPipe 2 c3q1)), (13, .row 64 (fl c13q1)), ((.s 14 0), .fam (famD dPipe 0 c6q1)), ((.s 15 0), .fam (famD dPipe 1 c6q1)), ((.s 16 0), .fam (famD dPipe 2 c6q1))] 17 (by kernel_rfl) [] [3, (.s 10 0), (.s 11 0), (.s 12 0), 13, 0, 1] (bS r11731) [] (by simp only [↓leS_frzD dPipe [10, 11, 12] c3q1, leS_frz, leL_flD, renL_flD, push_cast, seval]) (by simp only [↓leS_frzD dPipe [10, 11, 12] c3q1, leS_frz, leL_flD, renL_flD, push_cast, seval]) (by kernel_rfl) (.inr ⟨by simp only [push_cast, leL_flD, renL_flD, seval], by simp only [push_cast, leL_flD, renL_flD, seval]⟩) (by simp only [push_cast, leL_flD, renL_flD, seval]) (by simp only [push_cast, leL_flD, renL_flD, seval]) ?_
    refine rs 1 [] [] (by kernel_rfl) allP_nil ?_
    refine rf [(3, .ptr 0 0), (5, .ptr 2 0), (10, .own 6 0 c6q1.length), (11, .ptr 7 0), (12, .ptr 8 0), (56, bS (!r11731))] [(0, .row 22 [.sl l.length (fl l)]), (1, .row 3 [iS i]), (2, .row 3 [iS task]), (3, .row 57 (flD dPipe [10, 11, 12] c3q1)), (4, .row 33 [bS c4_Done1, bS c4_Panic1, bS c4_Ok1, iS c4_Value1, iS c4_Case1, .own 13 0 c13q1.length]), (5, .row 29 (Enc.cells c5q1)), (6, .row 57 (flD dPipe [14, 15, 16] c6q1)), (7, .row 29 (Enc.cells c7q1)), (8, .row 29 (Enc.cells c8q1)), (9, .row 29 (Enc.cells c9q1)), ((.s 10 0), .fam (famD dPipe 0 c3q1)), ((.s 11 0), .fam (famD dPipe 1 c3q1)), ((.s 12 0), .fam (famD dPipe 2 c3q1)), (13, .row 64 (fl c13q1)), ((.s 14 0), .fam (famD dPipe 0 c6q1)), ((.s 15 0), .fam (famD dPipe 1 c6q1)), ((.s 16 0), .fam (famD dPipe 2 c6q1))] 17 (by kernel_rfl) ?_
    refine wk_id ?_
    refine cond_sx h (by kernel_rfl) (fun g11751 h => ?_) (fun g11751 h => ?_)
    ·refine seq_np ?_
     refine reg_f ?_
     refine rs 1 [] [] (by kernel_rfl) allP_nil ?_
     refine rf [(6, bS false)] [(0, .row 22 [.sl l.length (fl l)]), (1, .row 3 [iS i]), (2, .row 3 [iS task]), (3, .row 57 (flD dPipe [10, 11, 12] c3q1)), (4, .row 33 [bS c4_Done1, bS c4_Panic1, bS c4_Ok1, iS c4_Value1, iS c4_Case1, .own 13 0 c13q1.length]), (5, .row 29 (Enc.cells c5q1)), (6, .row 57 (flD dPipe [14, 15, 16] c6q1)), (7, .row 29 (Enc.cells c7q1)), (8, .row 29 (Enc.cells c8q1)), (9, .row 29 (Enc.cells c9q1)), ((.s 10 0), .fam (famD dPipe 0 c3q1)), ((.s 11 0), .fam (famD dPipe 1 c3q1)), ((.s 12 0), .fam (famD dPipe 2 c3q1)), (13, .row 64 (fl c13q1)), ((.s 14 0), .fam (famD dPipe 0 c6q1)), ((.s 15 0), .fam (famD dPipe 1 c6q1)), ((.s 16 0), .fam (famD dPipe 2 c6q1))] 17 (by kernel_rfl) ?_
     refine wk_id ?_
     obtain rfl := Option.some.inj h
     refine ret_at (bS false) (by kernel_rfl) ?_
     exact ret_e [] [] (by simp only [push_cast, leL_flD, renL_flD, seval]) (by simp only [push_cast, leL_flD, renL_flD, seval]) rfl rfl rfl
    ·refine wk_id ?_
     refine seq_cut (A := Fault) (fun a => ([(3, .ptr 0 0), (5, .ptr 1 0), (10, .own 2 0 c6q1.length), (11, .ptr 3 0), (12, .ptr 4 0)], [(0, .row 22 [.sl l.length (fl l)]), (1, .row 3 [iS task]), (2, .row 57 (flD dPipe [5, 6, 7] c6q1)), (3, .row 29 (Enc.cells c7q1)), (4, .row 29 (Enc.cells a)), ((.s 5 0), .fam (famD dPipe 0 c6q1)), ((.s 6 0), .fam (famD dPipe 1 c6q1)), ((.s 7 0), .fam (famD dPipe 2 c6q1))], 8)) (fun a => (taskmilllaw_PickShuts_j1 l task c6q1 c7q1 a) = some r) (fun K11739 hK11739 => ?_) ?_
     ·refine seq_cut (A := Bool) (fun a => ([(3, .ptr 0 0), (5, .ptr 1 0), (10, .own 2 0 c6q1.length), (11, .ptr 3 0), (12, .ptr 4 0), (65, bS a)], [(0, .row 22 [.sl l.length (fl l)]), (1, .row 3 [iS task]), (2, .row 57 (flD dPipe [5, 6, 7] c6q1)), (3, .row 29 (Enc.cells c7q1)), (4, .row 29 (Enc.cells c8q1)), ((.s 5 0), .fam (famD dPipe 0 c6q1)), ((.s 6 0), .fam (famD dPipe 1 c6q1)), ((.s 7 0), .fam (famD dPipe 2 c6q1))], 8)) (fun a => (taskmilllaw_PickShuts_j2 l task c6q1 c7q1 c8q1 a) = some r) (fun K11743 hK11743 => ?_) ?_
      ·refine reg_f ?_
       refine rs 4 [] [] (by kernel_rfl) allP_nil ?_
       refine run_br h 60 (.inl (by kernel_rfl)) (fun g11744 h => ?_) (fun g11744 h => ?_)
       ·refine rs 2 [] [] (by kernel_rfl) allP_nil ?_
        obtain ⟨r11745, hr11745, h⟩ := bind_sx h
        refine run_call 27 [.sl l.length (fl l), iS task] (some 63) (by kernel_rfl) ?_
        refine call_0 (taskmillref_WaitsIn_spec l task r11745 hr11745) (by simp only [push_cast, leL_flD, renL_flD, seval]) (by simp only [push_cast, leL_flD, renL_flD, seval]) ?_
        refine back_f ?_
        refine rs 2 [] [] (by kernel_rfl) allP_nil ?_
        refine rf [(3, .ptr 0 0), (5, .ptr 2 0), (10, .own 6 0 c6q1.length), (11, .ptr 7 0), (12, .ptr 8 0), (65, bS (!r11745))] [(0, .row 22 [.sl l.length (fl l)]), (1, .row 3 [iS i]), (2, .row 3 [iS task]), (3, .row 57 (flD dPipe [10, 11, 12] c3q1)), (4, .row 33 [bS c4_Done1, bS c4_Panic1, bS c4_Ok1, iS c4_Value1, iS c4_Case1, .own 13 0 c13q1.length]), (5, .row 29 (Enc.cells c5q1)), (6, .row 57 (flD dPipe [14, 15, 16] c6q1)), (7, .row 29 (Enc.cells c7q1)), (8, .row 29 (Enc.cells c8q1)), (9, .row 29 (Enc.cells c9q1)), ((.s 10 0), .fam (famD dPipe 0 c3q1)), ((.s 11 0), .fam (famD dPipe 1 c3q1)), ((.s 12 0), .fam (famD dPipe 2 c3q1)), (13, .row 64 (fl c13q1)), ((.s 14 0), .fam (famD dPipe 0 c6q1)), ((.s 15 0), .fam (famD dPipe 1 c6q1)), ((.s 16 0), .fam (famD dPipe 2 c6q1))] 17 (by kernel_rfl) ?_
        exact hK11743 ((!r11745)) _ _ _ h (leSt_m [(0, 0), (1, 2), (2, 6), (3, 7), (4, 8), ((.s 5 0), (.s 14 0)), ((.s 6 0), (.s 15 0)), ((.s 7 0), (.s 16 0))] [] (by (try simp only [g11744]) <;> simp only [push_cast, leL_flD, renL_flD, seval]) (by (try simp only [g11744]) <;> simp only [push_cast, leL_flD, renL_flD, seval]) rfl rfl rfl)
       ·refine rs 5 [] [] (by kernel_rfl) allP_nil ?_
        refine rf [(3, .ptr 0 0), (5, .ptr 2 0), (10, .own 6 0 c6q1.length), (11, .ptr 7 0), (12, .ptr 8 0), (65, bS false)] [(0, .row 22 [.sl l.length (fl l)]), (1, .row 3 [iS i]), (2, .row 3 [iS task]), (3, .row 57 (flD dPipe [10, 11, 12] c3q1)), (4, .row 33 [bS c4_Done1, bS c4_Panic1, bS c4_Ok1, iS c4_Value1, iS c4_Case1, .own 13 0 c13q1.length]), (5, .row 29 (Enc.cells c5q1)), (6, .row 57 (flD dPipe [14, 15, 16] c6q1)), (7, .row 29 (Enc.cells c7q1)), (8, .row 29 (Enc.cells c8q1)), (9, .row 29 (Enc.cells c9q1)), ((.s 10 0), .fam (famD dPipe 0 c3q1)), ((.s 11 0), .fam (famD dPipe 1 c3q1)), ((.s 12 0), .fam (famD dPipe 2 c3q1)), (13, .row 64 (fl c13q1)), ((.s 14 0), .fam (famD dPipe 0 c6q1)), ((.s 15 0), .fam (famD dPipe 1 c6q1)), ((.s 16 0), .fam (famD dPipe 2 c6q1))] 17 (by kernel_rfl) ?_
        exact hK11743 (false) _ _ _ h (leSt_m [(0, 0), (1, 2), (2, 6), (3, 7), (4, 8), ((.s 5 0), (.s 14 0)), ((.s 6 0), (.s 15 0)), ((.s 7 0), (.s 16 0))] [] (by (try simp only [g11744]) <;> simp only [push_cast, leL_flD, renL_flD, seval]) (by (try simp only [g11744]) <;> simp only [push_cast, leL_flD, renL_flD, seval]) rfl rfl rfl)
      ·rintro t65q2 h
       try dsimp only at h ⊢
       unfold taskmilllaw_PickShuts_j2 at h
       refine cond_sx h (by kernel_rfl) (fun g11748 h => ?_) (fun g11748 h => ?_)
       ·refine reg_f ?_
        obtain ⟨r11747, hr11747, h⟩ := bind_sx h
        refine run_call 31 [iS 6, iS 0] (some 66) (by kernel_rfl) ?_
        refine call_0 (taskmillref_F_spec 6 0 r11747 hr11747) (by simp only [push_cast, leL_flD, renL_flD, seval]) (by simp only [push_cast, leL_flD, renL_flD, seval]) ?_
        refine back_f ?_
        refine rs 1 [] [] (by kernel_rfl) allP_nil ?_
        refine rf [(3, .ptr 0 0), (5, .ptr 1 0), (10, .own 2 0 c6q1.length), (11, .ptr 3 0), (12, .ptr 4 0)] [(0, .row 22 [.sl l.length (fl l)]), (1, .row 3 [iS task]), (2, .row 57 (flD dPipe [5, 6, 7] c6q1)), (3, .row 29 (Enc.cells c7q1)), (4, .row 29 (Enc.cells r11747)), ((.s 5 0), .fam (famD dPipe 0 c6q1)), ((.s 6 0), .fam (famD dPipe 1 c6q1)), ((.s 7 0), .fam (famD dPipe 2 c6q1))] 8 (by kernel_rfl) ?_
        exact hK11739 (r11747) _ _ _ h (leSt_m [(0, 0), (1, 1), (2, 2), (3, 3), (4, 4), ((.s 5 0), (.s 5 0)), ((.s 6 0), (.s 6 0)), ((.s 7 0), (.s 7 0))] [] (by simp only [push_cast, leL_flD, renL_flD, seval]) (by simp only [push_cast, leL_flD, renL_flD, seval]) rfl rfl rfl)
       ·exact hK11739 (c8q1) _ _ _ h (leSt_m [(0, 0), (1, 1), (2, 2), (3, 3), (4, 4), ((.s 5 0), (.s 5 0)), ((.s 6 0), (.s 6 0)), ((.s 7 0), (.s 7 0))] [] (by simp only [push_cast, leL_flD, renL_flD, seval]) (by simp only [push_cast, leL_flD, renL_flD, seval]) rfl rfl rfl)
     ·rintro c4q1 h
      try dsimp only at h ⊢
      unfold taskmilllaw_PickShuts_j1 at h
      refine seq_np ?_
      refine reg_f ?_
      refine rs 5 [] [] (by kernel_rfl) allP_nil ?_
      obtain ⟨r11750, hr11750, h⟩ := bind_sx h
      refine call_x (taskmilllaw_hubAs_2_spec c6q1 (Answer.mk false false false 0 0 []) c7q1 c4q1 l task r11750 hr11750) (args := [.own 2 0 c6q1.length, .agg [bS false, bS false, bS false, iS 0, iS 0, .v (.slice none 0 0)], .agg (Enc.cells c7q1), .agg (Enc.cells c4q1), .clo 35 [.ptr 0 0, .ptr 1 0]]) (dst := (some 72)) (by kernel_rfl) [(0, .row 22 [.sl l.length (fl l)]), (1, .row 3 [iS task]), (2, .row 57 (flD dPipe [5, 6, 7] c6q1)), (3, .row 29 (Enc.cells c7q1)), (4, .row 29 (Enc.cells c4q1)), ((.s 5 0), .fam (famD dPipe 0 c6q1)), ((.s 6 0), .fam (famD dPipe 1 c6q1)), ((.s 7 0), .fam (famD dPipe 2 c6q1))] 8 (by kernel_rfl) [] [2, (.s 5 0), (.s 6 0), (.s 7 0), 0, 1] (bS r11750) [] (by simp only [↓leS_frzD dPipe [5, 6, 7] c6q1, leS_frz, leL_flD, renL_flD, push_cast, seval]) (by simp only [↓leS_frzD dPipe [5, 6, 7] c6q1, leS_frz, leL_flD, renL_flD, push_cast, seval]) (by kernel_rfl) (.inr ⟨by simp only [push_cast, leL_flD, renL_flD, seval], by simp only [push_cast, leL_flD, renL_flD, seval]⟩) (by simp only [push_cast, leL_flD, renL_flD, seval]) (by simp only [push_cast, leL_flD, renL_flD, seval]) ?_
      refine rs 1 [] [] (by kernel_rfl) allP_nil ?_
      refine rf [(6, bS r11750)] [(0, .row 22 [.sl l.length (fl l)]), (1, .row 3 [iS task]), (2, .row 57 (flD dPipe [5, 6, 7] c6q1)), (3, .row 29 (Enc.cells c7q1)), (4, .row 29 (Enc.cells c4q1)), ((.s 5 0), .fam (famD dPipe 0 c6q1)), ((.s 6 0), .fam (famD dPipe 1 c6q1)), ((.s 7 0), .fam (famD dPipe 2 c6q1))] 8 (by kernel_rfl) ?_
      refine wk_id ?_
      obtain rfl := Option.some.inj h
      refine ret_at (bS r11750) (by kernel_rfl) ?_
      exact ret_e [] [] (by simp only [push_cast, leL_flD, renL_flD, seval]) (by simp only [push_cast, leL_flD, renL_flD, seval]) rfl rfl rfl

end Go.Proofs.Ytcpmhpobhnakeaa
