/-
 What laws of the chapter pick compute, and lemmas on it.
 No conditions.
-/
import Derived.Test.YtcpmhpobhnakeaapickWPickReadyUpto2
set_option linter.unusedSimpArgs false
set_option linter.unusedVariables false
namespace Go.Proofs.Ytcpmhpobhnakeaa
open Go Go.Sx
attribute [local irreducible] Wk RunAt
set_option maxRecDepth 100000 in
set_option maxHeartbeats 200000000 in
theorem taskmillref_Gone_spec (l : (List GPost)) (task : Int) (r : (List GPost)) (h : taskmillref_Gone l task = some r) : SpecW Try.prog 54 [.sl l.length (fl l), iS task] [] 0 (fun x h n => x = .own 0 0 r.length ∧ h = [(0, .row 92 (fl r))] ∧ n = 1) := by
 unfold taskmillref_Gone at h
 refine spec_of (draw_ok _) Try.func54 rfl (by decide) rfl (by kernel_rfl) ?_
 refine seq_np ?_
 refine reg_f ?_
 refine rs 1 [] [] (by kernel_rfl) allP_nil ?_
 refine rf [(0, .sl l.length (fl l)), (1, iS task)] [] 0 (by kernel_rfl) ?_
 refine wk_id ?_
 refine seq_np ?_
 refine reg_f ?_
 refine rs 1 [] [] (by kernel_rfl) allP_nil ?_
 refine rf [(0, .sl l.length (fl l)), (1, iS task), (5, .v (.slice none 0 0))] [] 0 (by kernel_rfl) ?_
 refine wk_id ?_
 refine seq_np ?_
 refine seq_np ?_
 refine reg_f ?_
 refine rs 1 [] [] (by kernel_rfl) allP_nil ?_
 refine rf [(0, .sl l.length (fl l)), (1, iS task), (5, .v (.slice none 0 0)), (6, iS 0)] [] 0 (by kernel_rfl) ?_
 refine wk_id ?_
 refine block_np ?_
 refine loop_sx (S := Int × (List GPost)) (fun a => ([(0, .sl l.length (fl l)), (1, iS task), (5, .own 0 0 a.2.length), (6, iS a.1)], [(0, .row 92 (fl a.2))], 1)) h (leSt_m [] [] (by simp only [push_cast, leL_flD, renL_flD, seval]) (by simp only [push_cast, leL_flD, renL_flD, seval]) rfl rfl rfl) ?_
 rintro ⟨i7, c0q19⟩ o2 R2 h hr2 hn2 hx2 ht2
 try dsimp only at h hn2 ⊢
 unfold taskmillref_Gone_l1 at h
 try dsimp only at h
 refine seq_np ?_
 refine seq_np ?_
 refine reg_f ?_
 refine rs 4 [] [] (by kernel_rfl) allP_nil ?_
 refine rf [(0, .sl l.length (fl l)), (1, iS task), (5, .own 0 0 c0q19.length), (6, iS i7), (10, bS (decide (i7 < ((l.length : Nat) : Int))))] [(0, .row 92 (fl c0q19))] 1 (by kernel_rfl) ?_
 refine wk_id ?_
 refine cond_sx h (by kernel_rfl) (fun g4823 h => ?_) (fun g4823 h => ?_)
 ·refine wk_id ?_
  refine seq_np ?_
  refine block_cut (A := (List GPost)) (fun a => ([(0, .sl l.length (fl l)), (1, iS task), (5, .own 0 0 a.length), (6, iS i7)], [(0, .row 92 (fl a))], 1)) (fun a => (taskmillref_Gone_j1 l task i7 a) = some o2) (fun K4809 hK4809 => ?_) ?_
  ·refine chk_sx h (fun g4813 h => ?_)
   refine seq_np ?_
   refine reg_f ?_
   have k4812 : 0 ≤ i7 ∧ i7 < ((l.length : Nat) : Int) := by first | simpa only [Bool.and_eq_true, decide_eq_true_eq, bne_iff_ne, ne_eq] using g4813 | (simp at g4813 ⊢; omega)
   refine rs 7 [none, none, some ⟨.iptr (fl l) ((i7).toNat * 3), [], 1, []⟩, none, some ⟨iS (ix l i7).Task, [], 1, []⟩] _ (by kernel_rfl) (allP_cons (ob_ld l i7 3 0 (((i7).toNat * 3) + 0) k4812 rfl (by decide) (by first | rfl | omega) (dflS Try.prog 3) (iS (ix l i7).Task) rfl 1 []) (allP_cons (ob_ix_l l 3 1 i7 k4812) allP_nil)) ?_
   refine rf [(0, .sl l.length (fl l)), (1, iS task), (5, .own 0 0 c0q19.length), (6, iS i7), (19, bS ((ix l i7).Task != task))] [(0, .row 92 (fl c0q19))] 1 (by kernel_rfl) ?_
   refine wk_id ?_
   refine cond_sx h (by kernel_rfl) (fun g4822 h => ?_) (fun g4822 h => ?_)
   ·refine chk_sx h (fun g4819 h => ?_)
    refine chk_sx h (fun g4821 h => ?_)
    refine reg_f ?_
    have k4818 : 0 ≤ i7 ∧ i7 < ((l.length : Nat) : Int) := by first | simpa only [Bool.and_eq_true, decide_eq_true_eq, bne_iff_ne, ne_eq] using g4819 | (simp at g4819 ⊢; omega)
    have k4820 : (c0q19 ++ ([(ix l i7)] : List GPost)).length * 24 ≤ 140737488355328 := by first | simpa only [Bool.and_eq_true, decide_eq_true_eq, bne_iff_ne, ne_eq] using g4821 | (simp at g4821 ⊢; omega)
    refine rs 8 [none, none, none, some ⟨.iptr (fl l) ((i7).toNat * 3), [], 1, []⟩, some ⟨.agg (Enc.cells (ix l i7)), [], 1, []⟩, none, some ⟨.own 2 0 (c0q19 ++ ([(ix l i7)] : List GPost)).length, [(2, .row 92 (fl (c0q19 ++ ([(ix l i7)] : List GPost)))), (0, .dead)], 3, [0, 1]⟩] _ (by kernel_rfl) (allP_cons (ob_app (P := Try.prog) c0q19 ([(ix l i7)] : List GPost) 3 24 rfl (appCells (fl ([(ix l i7)] : List GPost)) 0 (([(ix l i7)] : List GPost).length * 3)) ([(ix l i7)] : List GPost).length (app_own ([(ix l i7)] : List GPost) 3 rfl) rfl (0 + ([(ix l i7)] : List GPost).length * 3 ≤ (fl ([(ix l i7)] : List GPost)).length) (app_own_le ([(ix l i7)] : List GPost) 3 rfl) 92 (by kernel_rfl) (by decide) k4820 0 2 [1]) (allP_cons (ob_ldw l i7 3 ((i7).toNat * 3) k4818 rfl (by first | rfl | omega) [iS (ix l i7).Task, iS (ix l i7).Case, iS (ix l i7).Value] rfl 1 []) (allP_cons (ob_ix_l l 3 1 i7 k4818) allP_nil))) ?_
    refine rf [(0, .sl l.length (fl l)), (1, iS task), (5, .own 2 0 (c0q19 ++ ([(ix l i7)] : List GPost)).length), (6, iS i7)] [(0, .dead), (1, .row 92 (fl ([(ix l i7)] : List GPost))), (2, .row 92 (fl (c0q19 ++ ([(ix l i7)] : List GPost))))] 3 (by kernel_rfl) ?_
    exact hK4809 ((c0q19 ++ ([(ix l i7)] : List GPost))) _ _ _ h (leSt_m [(0, 2)] [] (by simp only [push_cast, leL_flD, renL_flD, seval]) (by simp only [push_cast, leL_flD, renL_flD, seval]) rfl rfl rfl)
   ·exact hK4809 (c0q19) _ _ _ h (leSt_m [(0, 0)] [] (by simp only [push_cast, leL_flD, renL_flD, seval]) (by simp only [push_cast, leL_flD, renL_flD, seval]) rfl rfl rfl)
  ·rintro c0q21 h
   try dsimp only at h ⊢
   unfold taskmillref_Gone_j1 at h
   refine wk_id ?_
   refine reg_f ?_
   refine rs 3 [] [] (by kernel_rfl) allP_nil ?_
   refine rf [(0, .sl l.length (fl l)), (1, iS task), (5, .own 0 0 c0q21.length), (6, iS (IntKind.i64.wrap (i7 + 1)))] [(0, .row 92 (fl c0q21))] 1 (by kernel_rfl) ?_
   exact hn2 ((IntKind.i64.wrap (i7 + 1)), c0q21) _ _ _ (Option.some.inj h).symm (leSt_m [(0, 0)] [] (by simp only [push_cast, leL_flD, renL_flD, seval]) (by simp only [push_cast, leL_flD, renL_flD, seval]) rfl rfl rfl)
 ·change R2 (.exit 0) _ _ _
  refine ex_cast hx2 (id := 0) ?_
  obtain ⟨r0, h, e0⟩ := map_sx h
  have e1 := hr2 r0 e0.symm
  subst r0
  refine wk_id ?_
  refine wk_id ?_
  refine seq_np ?_
  refine reg_f ?_
  refine rs 2 [] [] (by kernel_rfl) allP_nil ?_
  refine rf [(4, .own 0 0 c0q19.length)] [(0, .row 92 (fl c0q19))] 1 (by kernel_rfl) ?_
  refine wk_id ?_
  obtain rfl := Option.some.inj h
  refine ret_at (.own 0 0 c0q19.length) (by kernel_rfl) ?_
  exact ret_e [(0, 0)] [] (by simp only [push_cast, leL_flD, renL_flD, seval]) (by simp only [push_cast, leL_flD, renL_flD, seval]) rfl rfl rfl

set_option maxRecDepth 100000 in
set_option maxHeartbeats 200000000 in
theorem taskmillref_AllGone_spec (l : (List Pipe)) (w : (List GWake)) (r : (List Pipe)) (h : taskmillref_AllGone l w = some r) : SpecW Try.prog 29 [.sl l.length (fl l), .sl w.length (fl w)] [] 0 (fun x h n => x = .own 0 0 r.length ∧ h = [(0, .row 57 (fl r))] ∧ n = 1) := by
 unfold taskmillref_AllGone at h
 refine spec_of (draw_ok _) Try.func29 rfl (by decide) rfl (by kernel_rfl) ?_
 refine seq_np ?_
 refine reg_f ?_
 refine rs 1 [] [] (by kernel_rfl) allP_nil ?_
 refine rf [(0, .sl l.length (fl l)), (1, .sl w.length (fl w))] [] 0 (by kernel_rfl) ?_
 refine wk_id ?_
 refine seq_np ?_
 refine reg_f ?_
 refine rs 1 [] [] (by kernel_rfl) allP_nil ?_
 refine rf [(0, .sl l.length (fl l)), (1, .sl w.length (fl w)), (5, .v (.slice none 0 0))] [] 0 (by kernel_rfl) ?_
 refine wk_id ?_
 refine seq_np ?_
 refine seq_np ?_
 refine reg_f ?_
 refine rs 1 [] [] (by kernel_rfl) allP_nil ?_
 refine rf [(0, .sl l.length (fl l)), (1, .sl w.length (fl w)), (5, .v (.slice none 0 0)), (6, iS 0)] [] 0 (by kernel_rfl) ?_
 refine wk_id ?_
 refine block_np ?_
 refine loop_sx (S := Int × (List Pipe)) (fun a => ([(0, .sl l.length (fl l)), (1, .sl w.length (fl w)), (5, .own 0 0 a.2.length), (6, iS a.1)], [(0, .row 57 (fl a.2))], 1)) h (leSt_m [] [] (by simp only [push_cast, leL_flD, renL_flD, seval]) (by simp only [push_cast, leL_flD, renL_flD, seval]) rfl rfl rfl) ?_
 rintro ⟨i7, c0q8⟩ o3 R3 h hr3 hn3 hx3 ht3
 try dsimp only at h hn3 ⊢
 unfold taskmillref_AllGone_l2 at h
 try dsimp only at h
 refine seq_np ?_
 refine seq_np ?_
 refine reg_f ?_
 refine rs 4 [] [] (by kernel_rfl) allP_nil ?_
 refine rf [(0, .sl l.length (fl l)), (1, .sl w.length (fl w)), (5, .own 0 0 c0q8.length), (6, iS i7), (12, bS (decide (i7 < ((l.length : Nat) : Int))))] [(0, .row 57 (fl c0q8))] 1 (by kernel_rfl) ?_
 refine wk_id ?_
 refine cond_sx h (by kernel_rfl) (fun g5265 h => ?_) (fun g5265 h => ?_)
 ·refine wk_id ?_
  refine seq_np ?_
  refine block_np ?_
  refine chk_sx h (fun g5175 h => ?_)
  refine seq_np ?_
  refine reg_f ?_
  have k5174 : 0 ≤ i7 ∧ i7 < ((l.length : Nat) : Int) := by first | simpa only [Bool.and_eq_true, decide_eq_true_eq, bne_iff_ne, ne_eq] using g5175 | (simp at g5175 ⊢; omega)
  refine rs 6 [none, none, some ⟨.iptr (fl l) ((i7).toNat * 5), [], 1, []⟩, some ⟨.agg (Enc.cells (ix l i7)), [], 1, []⟩] _ (by kernel_rfl) (allP_cons (ob_ldw l i7 5 ((i7).toNat * 5) k5174 rfl (by first | rfl | omega) [iS (ix l i7).Cap, .sl (ix l i7).Items.length (fl (ix l i7).Items), bS (ix l i7).Closed, .sl (ix l i7).Senders.length (fl (ix l i7).Senders), .sl (ix l i7).Getters.length (fl (ix l i7).Getters)] rfl 1 []) (allP_cons (ob_ix_l l 5 1 i7 k5174) allP_nil)) ?_
  refine rf [(0, .sl l.length (fl l)), (1, .sl w.length (fl w)), (5, .own 0 0 c0q8.length), (6, iS i7), (7, .ptr 1 0)] [(0, .row 57 (fl c0q8)), (1, .row 57 (Enc.cells (ix l i7)))] 2 (by kernel_rfl) ?_
  refine wk_id ?_
  refine seq_np ?_
  refine seq_np ?_
  refine reg_f ?_
  refine rs 1 [] [] (by kernel_rfl) allP_nil ?_
  refine rf [(0, .sl l.length (fl l)), (1, .sl w.length (fl w)), (5, .own 0 0 c0q8.length), (6, iS i7), (7, .ptr 1 0), (8, iS 0)] [(0, .row 57 (fl c0q8)), (1, .row 57 (Enc.cells (ix l i7)))] 2 (by kernel_rfl) ?_
  refine wk_id ?_
  refine block_np ?_
  refine loop_sx (S := Int × (List GPost) × (List GPost)) (fun a => ([(0, .sl l.length (fl l)), (1, .sl w.length (fl w)), (5, .own 0 0 c0q8.length), (6, iS i7), (7, .ptr 1 0), (8, iS a.1)], [(0, .row 57 (fl c0q8)), (1, .row 57 [iS (ix l i7).Cap, .sl (ix l i7).Items.length (fl (ix l i7).Items), bS (ix l i7).Closed, .sl a.2.1.length (fl a.2.1), .sl a.2.2.length (fl a.2.2)])], 2)) h (leSt_m [(0, 0), (1, 1)] [] (by simp only [push_cast, leL_flD, renL_flD, seval]) (by simp only [push_cast, leL_flD, renL_flD, seval]) rfl rfl rfl) ?_
  rintro ⟨k31, c1_Senders23, c1_Getters23⟩ o4 R4 h hr4 hn4 hx4 ht4
  try dsimp only at h hn4 ⊢
  unfold taskmillref_AllGone_l1 at h
  try dsimp only at h
  refine seq_np ?_
  refine seq_np ?_
  refine reg_f ?_
  refine rs 4 [] [] (by kernel_rfl) allP_nil ?_
  refine rf [(0, .sl l.length (fl l)), (1, .sl w.length (fl w)), (5, .own 0 0 c0q8.length), (6, iS i7), (7, .ptr 1 0), (8, iS k31), (22, bS (decide (k31 < ((w.length : Nat) : Int))))] [(0, .row 57 (fl c0q8)), (1, .row 57 [iS (ix l i7).Cap, .sl (ix l i7).Items.length (fl (ix l i7).Items), bS (ix l i7).Closed, .sl c1_Senders23.length (fl c1_Senders23), .sl c1_Getters23.length (fl c1_Getters23)])] 2 (by kernel_rfl) ?_
  refine wk_id ?_
  refine cond_sx h (by kernel_rfl) (fun g5264 h => ?_) (fun g5264 h => ?_)
  ·refine wk_id ?_
   refine seq_np ?_
   refine block_np ?_
   refine chk_sx h (fun g5252 h => ?_)
   refine seq_np ?_
   refine reg_t ?_
   have k5251 : 0 ≤ k31 ∧ k31 < ((w.length : Nat) : Int) := by first | simpa only [Bool.and_eq_true, decide_eq_true_eq, bne_iff_ne, ne_eq] using g5252 | (simp at g5252 ⊢; omega)
   refine rs 7 [none, none, none, none, some ⟨.iptr (fl w) ((k31).toNat * 5), [], 6, []⟩, none, some ⟨iS (ix w k31).Task, [], 8, []⟩] _ (by kernel_rfl) (allP_cons (ob_ld w k31 5 0 (((k31).toNat * 5) + 0) k5251 rfl (by decide) (by first | rfl | omega) (dflS Try.prog 3) (iS (ix w k31).Task) rfl 8 []) (allP_cons (ob_ix_l w 5 6 k31 k5251) allP_nil)) ?_
   obtain ⟨r5253, hr5253, h⟩ := bind_sx h
   refine call_x (taskmillref_Gone_spec c1_Senders23 (ix w k31).Task r5253 hr5253) (args := [.sl c1_Senders23.length (fl c1_Senders23), iS (ix w k31).Task]) (dst := (some 32)) (by kernel_rfl) [(0, .row 57 (fl c0q8)), (1, .row 57 [iS (ix l i7).Cap, .sl (ix l i7).Items.length (fl (ix l i7).Items), bS (ix l i7).Closed, .sl c1_Senders23.length (fl c1_Senders23), .sl c1_Getters23.length (fl c1_Getters23)])] 9 (by kernel_rfl) [] [] (.own 9 0 r5253.length) [(9, .row 92 (fl r5253))] (by simp only [push_cast, leL_flD, renL_flD, seval]) (by simp only [push_cast, leL_flD, renL_flD, seval]) (by kernel_rfl) (.inl rfl) (by simp only [push_cast, leL_flD, renL_flD, seval]) (by simp only [push_cast, leL_flD, renL_flD, seval]) ?_
   refine rs 2 [] [] (by kernel_rfl) allP_nil ?_
   refine rt [(0, .sl l.length (fl l)), (1, .sl w.length (fl w)), (5, .own 0 0 c0q8.length), (6, iS i7), (7, .ptr 1 0), (8, iS k31)] [(0, .row 57 (fl c0q8)), (1, .row 57 [iS (ix l i7).Cap, .sl (ix l i7).Items.length (fl (ix l i7).Items), bS (ix l i7).Closed, .own 9 0 r5253.length, .sl c1_Getters23.length (fl c1_Getters23)]), (9, .row 92 (fl r5253))] 13 follows (by kernel_rfl) ?_
   refine wk_id ?_
   refine chk_sx h (fun g5258 h => ?_)
   refine reg_t ?_
   have k5257 : 0 ≤ k31 ∧ k31 < ((w.length : Nat) : Int) := by first | simpa only [Bool.and_eq_true, decide_eq_true_eq, bne_iff_ne, ne_eq] using g5258 | (simp at g5258 ⊢; omega)
   refine rs 7 [none, none, none, none, some ⟨.iptr (fl w) ((k31).toNat * 5), [], 17, []⟩, none, some ⟨iS (ix w k31).Task, [], 19, []⟩] _ (by kernel_rfl) (allP_cons (ob_ld w k31 5 0 (((k31).toNat * 5) + 0) k5257 rfl (by decide) (by first | rfl | omega) (dflS Try.prog 3) (iS (ix w k31).Task) rfl 19 []) (allP_cons (ob_ix_l w 5 17 k31 k5257) allP_nil)) ?_
   obtain ⟨r5259, hr5259, h⟩ := bind_sx h
   refine call_x (taskmillref_Gone_spec c1_Getters23 (ix w k31).Task r5259 hr5259) (args := [.sl c1_Getters23.length (fl c1_Getters23), iS (ix w k31).Task]) (dst := (some 41)) (by kernel_rfl) [(0, .row 57 (fl c0q8)), (1, .row 57 [iS (ix l i7).Cap, .sl (ix l i7).Items.length (fl (ix l i7).Items), bS (ix l i7).Closed, .own 9 0 r5253.length, .sl c1_Getters23.length (fl c1_Getters23)]), (9, .row 92 (fl r5253))] 20 (by kernel_rfl) [] [] (.own 20 0 r5259.length) [(20, .row 92 (fl r5259))] (by simp only [push_cast, leL_flD, renL_flD, seval]) (by simp only [push_cast, leL_flD, renL_flD, seval]) (by kernel_rfl) (.inl rfl) (by simp only [push_cast, leL_flD, renL_flD, seval]) (by simp only [push_cast, leL_flD, renL_flD, seval]) ?_
   refine rs 2 [] [] (by kernel_rfl) allP_nil ?_
   refine rt [(0, .sl l.length (fl l)), (1, .sl w.length (fl w)), (5, .own 0 0 c0q8.length), (6, iS i7), (7, .ptr 1 0), (8, iS k31)] [(0, .row 57 (fl c0q8)), (1, .row 57 [iS (ix l i7).Cap, .sl (ix l i7).Items.length (fl (ix l i7).Items), bS (ix l i7).Closed, .own 9 0 r5253.length, .own 20 0 r5259.length]), (9, .row 92 (fl r5253)), (20, .row 92 (fl r5259))] 24 follows (by kernel_rfl) ?_
   refine wk_id ?_
   refine wk_id ?_
   refine reg_f ?_
   refine rs 3 [] [] (by kernel_rfl) allP_nil ?_
   refine rf [(0, .sl l.length (fl l)), (1, .sl w.length (fl w)), (5, .own 0 0 c0q8.length), (6, iS i7), (7, .ptr 1 0), (8, iS (IntKind.i64.wrap (k31 + 1)))] [(0, .row 57 (fl c0q8)), (1, .row 57 [iS (ix l i7).Cap, .sl (ix l i7).Items.length (fl (ix l i7).Items), bS (ix l i7).Closed, .own 9 0 r5253.length, .own 20 0 r5259.length]), (9, .row 92 (fl r5253)), (20, .row 92 (fl r5259))] 24 (by kernel_rfl) ?_
   exact hn4 ((IntKind.i64.wrap (k31 + 1)), r5253, r5259) _ _ _ (Option.some.inj h).symm (leSt_m [(0, 0), (1, 1)] [9, 20] (by simp only [leS_frz, leS_cut, leL_flD, renL_flD, push_cast, seval]) (by simp only [leS_frz, leS_cut, leL_flD, renL_flD, push_cast, seval]) rfl rfl rfl)
  ·change R4 (.exit 2) _ _ _
   refine ex_cast hx4 (id := 2) ?_
   obtain ⟨r0, h, e0⟩ := map_sx h
   have e1 := hr4 r0 e0.symm
   subst r0
   refine wk_id ?_
   refine wk_id ?_
   refine chk_sx h (fun g5263 h => ?_)
   refine reg_f ?_
   have k5262 : (c0q8 ++ ([(Pipe.mk (ix l i7).Cap (ix l i7).Items (ix l i7).Closed c1_Senders23 c1_Getters23)] : List Pipe)).length * 88 ≤ 140737488355328 := by first | simpa only [Bool.and_eq_true, decide_eq_true_eq, bne_iff_ne, ne_eq] using g5263 | (simp at g5263 ⊢; omega)
   refine rs 5 [none, none, none, some ⟨.own 3 0 (c0q8 ++ ([(Pipe.mk (ix l i7).Cap (ix l i7).Items (ix l i7).Closed c1_Senders23 c1_Getters23)] : List Pipe)).length, [(3, .row 57 (fl (c0q8 ++ ([(Pipe.mk (ix l i7).Cap (ix l i7).Items (ix l i7).Closed c1_Senders23 c1_Getters23)] : List Pipe)))), (0, .dead)], 4, [0, 2]⟩] _ (by kernel_rfl) (allP_cons (ob_app (P := Try.prog) c0q8 ([(Pipe.mk (ix l i7).Cap (ix l i7).Items (ix l i7).Closed c1_Senders23 c1_Getters23)] : List Pipe) 5 88 rfl (appCells (fl ([(Pipe.mk (ix l i7).Cap (ix l i7).Items (ix l i7).Closed c1_Senders23 c1_Getters23)] : List Pipe)) 0 (([(Pipe.mk (ix l i7).Cap (ix l i7).Items (ix l i7).Closed c1_Senders23 c1_Getters23)] : List Pipe).length * 5)) ([(Pipe.mk (ix l i7).Cap (ix l i7).Items (ix l i7).Closed c1_Senders23 c1_Getters23)] : List Pipe).length (app_own ([(Pipe.mk (ix l i7).Cap (ix l i7).Items (ix l i7).Closed c1_Senders23 c1_Getters23)] : List Pipe) 5 rfl) rfl (0 + ([(Pipe.mk (ix l i7).Cap (ix l i7).Items (ix l i7).Closed c1_Senders23 c1_Getters23)] : List Pipe).length * 5 ≤ (fl ([(Pipe.mk (ix l i7).Cap (ix l i7).Items (ix l i7).Closed c1_Senders23 c1_Getters23)] : List Pipe)).length) (app_own_le ([(Pipe.mk (ix l i7).Cap (ix l i7).Items (ix l i7).Closed c1_Senders23 c1_Getters23)] : List Pipe) 5 rfl) 57 (by kernel_rfl) (by decide) k5262 0 3 [2]) allP_nil) ?_
   refine rf [(0, .sl l.length (fl l)), (1, .sl w.length (fl w)), (5, .own 3 0 (c0q8 ++ ([(Pipe.mk (ix l i7).Cap (ix l i7).Items (ix l i7).Closed c1_Senders23 c1_Getters23)] : List Pipe)).length), (6, iS i7)] [(0, .dead), (1, .row 57 [iS (ix l i7).Cap, .sl (ix l i7).Items.length (fl (ix l i7).Items), bS (ix l i7).Closed, .sl c1_Senders23.length (fl c1_Senders23), .sl c1_Getters23.length (fl c1_Getters23)]), (2, .row 57 (fl ([(Pipe.mk (ix l i7).Cap (ix l i7).Items (ix l i7).Closed c1_Senders23 c1_Getters23)] : List Pipe))), (3, .row 57 (fl (c0q8 ++ ([(Pipe.mk (ix l i7).Cap (ix l i7).Items (ix l i7).Closed c1_Senders23 c1_Getters23)] : List Pipe))))] 4 (by kernel_rfl) ?_
   refine wk_id ?_
   refine wk_id ?_
   refine reg_f ?_
   refine rs 3 [] [] (by kernel_rfl) allP_nil ?_
   refine rf [(0, .sl l.length (fl l)), (1, .sl w.length (fl w)), (5, .own 3 0 (c0q8 ++ ([(Pipe.mk (ix l i7).Cap (ix l i7).Items (ix l i7).Closed c1_Senders23 c1_Getters23)] : List Pipe)).length), (6, iS (IntKind.i64.wrap (i7 + 1)))] [(0, .dead), (1, .row 57 [iS (ix l i7).Cap, .sl (ix l i7).Items.length (fl (ix l i7).Items), bS (ix l i7).Closed, .sl c1_Senders23.length (fl c1_Senders23), .sl c1_Getters23.length (fl c1_Getters23)]), (2, .row 57 (fl ([(Pipe.mk (ix l i7).Cap (ix l i7).Items (ix l i7).Closed c1_Senders23 c1_Getters23)] : List Pipe))), (3, .row 57 (fl (c0q8 ++ ([(Pipe.mk (ix l i7).Cap (ix l i7).Items (ix l i7).Closed c1_Senders23 c1_Getters23)] : List Pipe))))] 4 (by kernel_rfl) ?_
   exact hn3 ((IntKind.i64.wrap (i7 + 1)), (c0q8 ++ ([(Pipe.mk (ix l i7).Cap (ix l i7).Items (ix l i7).Closed c1_Senders23 c1_Getters23)] : List Pipe))) _ _ _ (Option.some.inj h).symm (leSt_m [(0, 3)] [] (by simp only [push_cast, leL_flD, renL_flD, seval]) (by simp only [push_cast, leL_flD, renL_flD, seval]) rfl rfl rfl)
 ·change R3 (.exit 0) _ _ _
  refine ex_cast hx3 (id := 0) ?_
  obtain ⟨r0, h, e0⟩ := map_sx h
  have e1 := hr3 r0 e0.symm
  subst r0
  refine wk_id ?_
  refine wk_id ?_
  refine seq_np ?_
  refine reg_f ?_
  refine rs 2 [] [] (by kernel_rfl) allP_nil ?_
  refine rf [(4, .own 0 0 c0q8.length)] [(0, .row 57 (fl c0q8))] 1 (by kernel_rfl) ?_
  refine wk_id ?_
  obtain rfl := Option.some.inj h
  refine ret_at (.own 0 0 c0q8.length) (by kernel_rfl) ?_
  exact ret_e [(0, 0)] [] (by simp only [push_cast, leL_flD, renL_flD, seval]) (by simp only [push_cast, leL_flD, renL_flD, seval]) rfl rfl rfl

set_option maxRecDepth 100000 in
set_option maxHeartbeats 200000000 in
theorem taskmillref_Chosen_spec (l : (List Pipe)) (task : Int) (k : Int) (c : GCase) (r : (List Pipe) × Bool × Bool × Bool × Int × Int × (List GWake)) (h : taskmillref_Chosen l task k c = some r) : SpecW Try.prog 23 [.sl l.length (fl l), iS task, iS k, .agg (Enc.cells c)] [] 0 (fun x h n => x = .tup [.sl r.1.length (fl r.1), .agg [bS r.2.1, bS r.2.2.1, bS r.2.2.2.1, iS r.2.2.2.2.1, iS r.2.2.2.2.2.1, .sl r.2.2.2.2.2.2.length (fl r.2.2.2.2.2.2)]] ∧ h = [] ∧ n = 0) := by
 unfold taskmillref_Chosen at h
 refine spec_of (draw_ok _) Try.func23 rfl (by decide) rfl (by kernel_rfl) ?_
 refine seq_np ?_
 refine reg_f ?_
 refine rs 3 [] [] (by kernel_rfl) allP_nil ?_
 refine rf [(0, .sl l.length (fl l)), (1, iS task), (2, iS k), (7, .ptr 0 0), (9, .ptr 1 0)] [(0, .row 49 (Enc.cells c)), (1, .row 33 [bS false, bS false, bS false, iS 0, iS 0, .v (.slice none 0 0)])] 2 (by kernel_rfl) ?_
 refine wk_id ?_
 refine seq_np ?_
 refine seq_np ?_
 refine reg_f ?_
 refine rs 3 [] [] (by kernel_rfl) allP_nil ?_
 refine rf [(0, .sl l.length (fl l)), (1, iS task), (2, iS k), (7, .ptr 0 0), (9, .ptr 1 0), (15, bS (decide (c.Pipe < 0)))] [(0, .row 49 (Enc.cells c)), (1, .row 33 [bS false, bS false, bS false, iS 0, iS 0, .v (.slice none 0 0)])] 2 (by kernel_rfl) ?_
 refine wk_id ?_
 refine cond_sx h (by kernel_rfl) (fun g5295 h => ?_) (fun g5295 h => ?_)
 ·refine seq_np ?_
  refine reg_f ?_
  refine rs 4 [] [] (by kernel_rfl) allP_nil ?_
  refine rf [(8, .sl l.length (fl l)), (9, .ptr 1 0)] [(0, .row 49 (Enc.cells c)), (1, .row 33 [bS false, bS false, bS false, iS 0, iS 0, .v (.slice none 0 0)])] 2 (by kernel_rfl) ?_
  refine wk_id ?_
  obtain rfl := Option.some.inj h
  refine ret_at (.tup [.sl l.length (fl l), .agg [bS false, bS false, bS false, iS 0, iS 0, .v (.slice none 0 0)]]) (by kernel_rfl) ?_
  exact ret_e [] [] (by simp only [push_cast, leL_flD, renL_flD, seval]) (by simp only [push_cast, leL_flD, renL_flD, seval]) rfl rfl rfl
 ·refine wk_id ?_
  refine seq_np ?_
  refine reg_f ?_
  refine rs 7 [] [] (by kernel_rfl) allP_nil ?_
  refine rf [(0, .sl l.length (fl l)), (7, .ptr 0 0), (9, .ptr 1 0), (10, .ptr 2 0)] [(0, .row 49 (Enc.cells c)), (1, .row 33 [bS false, bS false, bS false, iS 0, iS 0, .v (.slice none 0 0)]), (2, .row 92 [iS task, iS k, iS c.Value])] 3 (by kernel_rfl) ?_
  refine wk_id ?_
  refine chk_sx h (fun g5273 h => ?_)
  refine seq_np ?_
  refine reg_t ?_
  have k5272 : 0 ≤ c.Pipe ∧ c.Pipe < ((l.length : Nat) : Int) := by first | simpa only [Bool.and_eq_true, decide_eq_true_eq, bne_iff_ne, ne_eq] using g5273 | (simp at g5273 ⊢; omega)
  refine rs 6 [none, none, none, some ⟨.iptr (fl l) ((c.Pipe).toNat * 5), [], 6, []⟩, some ⟨.agg (Enc.cells (ix l c.Pipe)), [], 7, []⟩] _ (by kernel_rfl) (allP_cons (ob_ldw l c.Pipe 5 ((c.Pipe).toNat * 5) k5272 rfl (by first | rfl | omega) [iS (ix l c.Pipe).Cap, .sl (ix l c.Pipe).Items.length (fl (ix l c.Pipe).Items), bS (ix l c.Pipe).Closed, .sl (ix l c.Pipe).Senders.length (fl (ix l c.Pipe).Senders), .sl (ix l c.Pipe).Getters.length (fl (ix l c.Pipe).Getters)] rfl 7 []) (allP_cons (ob_ix_l l 5 6 c.Pipe k5272) allP_nil)) ?_
  obtain ⟨r5274, hr5274, h⟩ := bind_sx h
  refine call_x (taskmillref_Taken_spec (ix l c.Pipe) (GPost.mk task k c.Value) r5274 hr5274) (args := [.agg (Enc.cells (ix l c.Pipe)), .agg [iS task, iS k, iS c.Value]]) (dst := (some 30)) (by kernel_rfl) [(0, .row 49 (Enc.cells c)), (1, .row 33 [bS false, bS false, bS false, iS 0, iS 0, .v (.slice none 0 0)]), (2, .row 92 [iS task, iS k, iS c.Value])] 9 (by kernel_rfl) [] [] (.tup [.agg [iS r5274.1, .sl r5274.2.1.length (fl r5274.2.1), bS r5274.2.2.1, .sl r5274.2.2.2.1.length (fl r5274.2.2.2.1), .sl r5274.2.2.2.2.1.length (fl r5274.2.2.2.2.1)], .agg [bS r5274.2.2.2.2.2.1, bS r5274.2.2.2.2.2.2.1, bS r5274.2.2.2.2.2.2.2.1, iS r5274.2.2.2.2.2.2.2.2.1, iS r5274.2.2.2.2.2.2.2.2.2.1, .own 9 0 r5274.2.2.2.2.2.2.2.2.2.2.length]]) [(9, .row 64 (fl r5274.2.2.2.2.2.2.2.2.2.2))] (by simp only [push_cast, leL_flD, renL_flD, seval]) (by simp only [push_cast, leL_flD, renL_flD, seval]) (by kernel_rfl) (.inl rfl) (by simp only [push_cast, leL_flD, renL_flD, seval]) (by simp only [push_cast, leL_flD, renL_flD, seval]) ?_
  refine rs 7 [] [] (by kernel_rfl) allP_nil ?_
  refine rt [(0, .sl l.length (fl l)), (7, .ptr 0 0), (9, .ptr 1 0), (10, .ptr 2 0), (11, .ptr 14 0), (12, .ptr 16 0)] [(0, .row 49 (Enc.cells c)), (1, .row 33 [bS false, bS false, bS false, iS 0, iS 0, .v (.slice none 0 0)]), (2, .row 92 [iS task, iS k, iS c.Value]), (9, .row 64 (fl r5274.2.2.2.2.2.2.2.2.2.2)), (14, .row 57 [iS r5274.1, .sl r5274.2.1.length (fl r5274.2.1), bS r5274.2.2.1, .sl r5274.2.2.2.1.length (fl r5274.2.2.2.1), .sl r5274.2.2.2.2.1.length (fl r5274.2.2.2.2.1)]), (16, .row 33 [bS r5274.2.2.2.2.2.1, bS r5274.2.2.2.2.2.2.1, bS r5274.2.2.2.2.2.2.2.1, iS r5274.2.2.2.2.2.2.2.2.1, iS r5274.2.2.2.2.2.2.2.2.2.1, .own 9 0 r5274.2.2.2.2.2.2.2.2.2.2.length])] 20 follows (by kernel_rfl) ?_
  refine wk_id ?_
  refine seq_cut (A := Pipe × Bool × Bool × Bool × Int × Int × (List GWake)) (fun a => ([(0, .sl l.length (fl l)), (7, .ptr 0 0), (9, .ptr 1 0), (11, .ptr 2 0), (12, .ptr 3 0)], [(0, .row 49 (Enc.cells c)), (1, .row 33 [bS false, bS false, bS false, iS 0, iS 0, .v (.slice none 0 0)]), (2, .row 57 (Enc.cells a.1)), (3, .row 33 [bS a.2.1, bS a.2.2.1, bS a.2.2.2.1, iS a.2.2.2.2.1, iS a.2.2.2.2.2.1, .own 4 0 a.2.2.2.2.2.2.length]), (4, .row 64 (fl a.2.2.2.2.2.2))], 5)) (fun a => (taskmillref_Chosen_j1 l c a.1 a.2.1 a.2.2.1 a.2.2.2.1 a.2.2.2.2.1 a.2.2.2.2.2.1 a.2.2.2.2.2.2) = some r) (fun K5280 hK5280 => ?_) ?_
  ·refine seq_np ?_
   refine reg_f ?_
   refine rs 2 [] [] (by kernel_rfl) allP_nil ?_
   refine rf [(0, .sl l.length (fl l)), (7, .ptr 0 0), (9, .ptr 1 0), (10, .ptr 2 0), (11, .ptr 14 0), (12, .ptr 16 0), (34, bS c.Send)] [(0, .row 49 (Enc.cells c)), (1, .row 33 [bS false, bS false, bS false, iS 0, iS 0, .v (.slice none 0 0)]), (2, .row 92 [iS task, iS k, iS c.Value]), (9, .row 64 (fl r5274.2.2.2.2.2.2.2.2.2.2)), (14, .row 57 [iS r5274.1, .sl r5274.2.1.length (fl r5274.2.1), bS r5274.2.2.1, .sl r5274.2.2.2.1.length (fl r5274.2.2.2.1), .sl r5274.2.2.2.2.1.length (fl r5274.2.2.2.2.1)]), (16, .row 33 [bS r5274.2.2.2.2.2.1, bS r5274.2.2.2.2.2.2.1, bS r5274.2.2.2.2.2.2.2.1, iS r5274.2.2.2.2.2.2.2.2.1, iS r5274.2.2.2.2.2.2.2.2.2.1, .own 9 0 r5274.2.2.2.2.2.2.2.2.2.2.length])] 20 (by kernel_rfl) ?_
   refine wk_id ?_
   refine cond_sx h (by kernel_rfl) (fun g5287 h => ?_) (fun g5287 h => ?_)
   ·refine chk_sx h (fun g5285 h => ?_)
    refine reg_t ?_
    have k5284 : 0 ≤ c.Pipe ∧ c.Pipe < ((l.length : Nat) : Int) := by first | simpa only [Bool.and_eq_true, decide_eq_true_eq, bne_iff_ne, ne_eq] using g5285 | (simp at g5285 ⊢; omega)
    refine rs 6 [none, none, none, some ⟨.iptr (fl l) ((c.Pipe).toNat * 5), [], 23, []⟩, some ⟨.agg (Enc.cells (ix l c.Pipe)), [], 24, []⟩] _ (by kernel_rfl) (allP_cons (ob_ldw l c.Pipe 5 ((c.Pipe).toNat * 5) k5284 rfl (by first | rfl | omega) [iS (ix l c.Pipe).Cap, .sl (ix l c.Pipe).Items.length (fl (ix l c.Pipe).Items), bS (ix l c.Pipe).Closed, .sl (ix l c.Pipe).Senders.length (fl (ix l c.Pipe).Senders), .sl (ix l c.Pipe).Getters.length (fl (ix l c.Pipe).Getters)] rfl 24 []) (allP_cons (ob_ix_l l 5 23 c.Pipe k5284) allP_nil)) ?_
    obtain ⟨r5286, hr5286, h⟩ := bind_sx h
    refine call_x (taskmillref_Sent_spec (ix l c.Pipe) (GPost.mk task k c.Value) r5286 hr5286) (args := [.agg (Enc.cells (ix l c.Pipe)), .agg [iS task, iS k, iS c.Value]]) (dst := (some 42)) (by kernel_rfl) [(0, .row 49 (Enc.cells c)), (1, .row 33 [bS false, bS false, bS false, iS 0, iS 0, .v (.slice none 0 0)]), (2, .row 92 [iS task, iS k, iS c.Value]), (9, .row 64 (fl r5274.2.2.2.2.2.2.2.2.2.2)), (14, .row 57 [iS r5274.1, .sl r5274.2.1.length (fl r5274.2.1), bS r5274.2.2.1, .sl r5274.2.2.2.1.length (fl r5274.2.2.2.1), .sl r5274.2.2.2.2.1.length (fl r5274.2.2.2.2.1)]), (16, .row 33 [bS r5274.2.2.2.2.2.1, bS r5274.2.2.2.2.2.2.1, bS r5274.2.2.2.2.2.2.2.1, iS r5274.2.2.2.2.2.2.2.2.1, iS r5274.2.2.2.2.2.2.2.2.2.1, .own 9 0 r5274.2.2.2.2.2.2.2.2.2.2.length])] 26 (by kernel_rfl) [] [] (.tup [.agg [iS r5286.1, .sl r5286.2.1.length (fl r5286.2.1), bS r5286.2.2.1, .sl r5286.2.2.2.1.length (fl r5286.2.2.2.1), .sl r5286.2.2.2.2.1.length (fl r5286.2.2.2.2.1)], .agg [bS r5286.2.2.2.2.2.1, bS r5286.2.2.2.2.2.2.1, bS r5286.2.2.2.2.2.2.2.1, iS r5286.2.2.2.2.2.2.2.2.1, iS r5286.2.2.2.2.2.2.2.2.2.1, .own 26 0 r5286.2.2.2.2.2.2.2.2.2.2.length]]) [(26, .row 64 (fl r5286.2.2.2.2.2.2.2.2.2.2))] (by simp only [push_cast, leL_flD, renL_flD, seval]) (by simp only [push_cast, leL_flD, renL_flD, seval]) (by kernel_rfl) (.inl rfl) (by simp only [push_cast, leL_flD, renL_flD, seval]) (by simp only [push_cast, leL_flD, renL_flD, seval]) ?_
    refine rs 5 [] [] (by kernel_rfl) allP_nil ?_
    refine rt [(0, .sl l.length (fl l)), (7, .ptr 0 0), (9, .ptr 1 0), (11, .ptr 14 0), (12, .ptr 16 0)] [(0, .row 49 (Enc.cells c)), (1, .row 33 [bS false, bS false, bS false, iS 0, iS 0, .v (.slice none 0 0)]), (2, .row 92 [iS task, iS k, iS c.Value]), (9, .row 64 (fl r5274.2.2.2.2.2.2.2.2.2.2)), (14, .row 57 [iS r5286.1, .sl r5286.2.1.length (fl r5286.2.1), bS r5286.2.2.1, .sl r5286.2.2.2.1.length (fl r5286.2.2.2.1), .sl r5286.2.2.2.2.1.length (fl r5286.2.2.2.2.1)]), (16, .row 33 [bS r5286.2.2.2.2.2.1, bS r5286.2.2.2.2.2.2.1, bS r5286.2.2.2.2.2.2.2.1, iS r5286.2.2.2.2.2.2.2.2.1, iS r5286.2.2.2.2.2.2.2.2.2.1, .own 26 0 r5286.2.2.2.2.2.2.2.2.2.2.length]), (26, .row 64 (fl r5286.2.2.2.2.2.2.2.2.2.2))] 33 follows (by kernel_rfl) ?_
    exact hK5280 ((Pipe.mk r5286.1 r5286.2.1 r5286.2.2.1 r5286.2.2.2.1 r5286.2.2.2.2.1), r5286.2.2.2.2.2.1, r5286.2.2.2.2.2.2.1, r5286.2.2.2.2.2.2.2.1, r5286.2.2.2.2.2.2.2.2.1, r5286.2.2.2.2.2.2.2.2.2.1, r5286.2.2.2.2.2.2.2.2.2.2) _ _ _ h (leSt_m [(0, 0), (1, 1), (2, 14), (3, 16), (4, 26)] [] (by simp only [push_cast, leL_flD, renL_flD, seval]) (by simp only [push_cast, leL_flD, renL_flD, seval]) rfl rfl rfl)
   ·exact hK5280 ((Pipe.mk r5274.1 r5274.2.1 r5274.2.2.1 r5274.2.2.2.1 r5274.2.2.2.2.1), r5274.2.2.2.2.2.1, r5274.2.2.2.2.2.2.1, r5274.2.2.2.2.2.2.2.1, r5274.2.2.2.2.2.2.2.2.1, r5274.2.2.2.2.2.2.2.2.2.1, r5274.2.2.2.2.2.2.2.2.2.2) _ _ _ h (leSt_m [(0, 0), (1, 1), (2, 14), (3, 16), (4, 9)] [] (by simp only [push_cast, leL_flD, renL_flD, seval]) (by simp only [push_cast, leL_flD, renL_flD, seval]) rfl rfl rfl)
  ·rintro ⟨c2q1, c3_Done1, c3_Panic1, c3_Ok1, c3_Value1, c3_Case1, c4q1⟩ h
   try dsimp only at h ⊢
   unfold taskmillref_Chosen_j1 at h
   refine seq_np ?_
   refine seq_np ?_
   refine reg_f ?_
   refine rs 3 [] [] (by kernel_rfl) allP_nil ?_
   refine rf [(0, .sl l.length (fl l)), (7, .ptr 0 0), (9, .ptr 1 0), (11, .ptr 2 0), (12, .ptr 3 0), (47, bS (!c3_Done1))] [(0, .row 49 (Enc.cells c)), (1, .row 33 [bS false, bS false, bS false, iS 0, iS 0, .v (.slice none 0 0)]), (2, .row 57 (Enc.cells c2q1)), (3, .row 33 [bS c3_Done1, bS c3_Panic1, bS c3_Ok1, iS c3_Value1, iS c3_Case1, .own 4 0 c4q1.length]), (4, .row 64 (fl c4q1))] 5 (by kernel_rfl) ?_
   refine wk_id ?_
   refine cond_sx h (by kernel_rfl) (fun g5294 h => ?_) (fun g5294 h => ?_)
   ·refine seq_np ?_
    refine reg_t ?_
    refine rs 4 [] [] (by kernel_rfl) allP_nil ?_
    refine rt [(8, .sl l.length (fl l)), (9, .ptr 1 0)] [(0, .row 49 (Enc.cells c)), (1, .row 33 [bS c3_Done1, bS c3_Panic1, bS c3_Ok1, iS c3_Value1, iS c3_Case1, .own 4 0 c4q1.length]), (2, .row 57 (Enc.cells c2q1)), (3, .row 33 [bS c3_Done1, bS c3_Panic1, bS c3_Ok1, iS c3_Value1, iS c3_Case1, .own 4 0 c4q1.length]), (4, .row 64 (fl c4q1))] 9 follows (by kernel_rfl) ?_
    refine wk_id ?_
    obtain rfl := Option.some.inj h
    refine ret_at (.tup [.sl l.length (fl l), .agg [bS c3_Done1, bS c3_Panic1, bS c3_Ok1, iS c3_Value1, iS c3_Case1, .own 4 0 c4q1.length]]) (by kernel_rfl) ?_
    exact ret_e [] [4] (by simp only [leS_frz, leS_cut, leL_flD, renL_flD, push_cast, seval]) (by simp only [leS_frz, leS_cut, leL_flD, renL_flD, push_cast, seval]) rfl rfl rfl
   ·refine wk_mk [(0, .sl l.length (fl l)), (7, .ptr 0 0), (9, .ptr 1 0), (11, .ptr 2 0), (12, .ptr 3 0), (47, bS (!c3_Done1))] [(0, .row 49 (Enc.cells c)), (1, .row 33 [bS false, bS false, bS false, iS 0, iS 0, .v (.slice none 0 0)]), (2, .row 57 (Enc.cells c2q1)), (3, .row 33 [bS c3_Done1, bS c3_Panic1, bS c3_Ok1, iS c3_Value1, iS c3_Case1, .sl c4q1.length (fl c4q1)])] 5 (leSt_m [(0, 0), (1, 1), (2, 2), (3, 3)] [4] (by simp only [leS_frz, leS_cut, leL_flD, renL_flD, push_cast, seval]) (by simp only [leS_frz, leS_cut, leL_flD, renL_flD, push_cast, seval]) rfl rfl rfl) ?_
    refine seq_np ?_
    refine reg_t ?_
    refine rs 4 [] [] (by kernel_rfl) allP_nil ?_
    obtain ⟨r5292, hr5292, h⟩ := bind_sx h
    refine call_x (taskmillref_WithPipe_spec l c.Pipe c2q1 r5292 hr5292) (args := [.sl l.length (fl l), iS c.Pipe, .agg (Enc.cells c2q1)]) (dst := (some 54)) (by kernel_rfl) [(0, .row 49 (Enc.cells c)), (1, .row 33 [bS false, bS false, bS false, iS 0, iS 0, .v (.slice none 0 0)]), (2, .row 57 (Enc.cells c2q1)), (3, .row 33 [bS c3_Done1, bS c3_Panic1, bS c3_Ok1, iS c3_Value1, iS c3_Case1, .sl c4q1.length (fl c4q1)])] 9 (by kernel_rfl) [] [] (.own 9 0 r5292.length) [(9, .row 57 (fl r5292))] (by simp only [push_cast, leL_flD, renL_flD, seval]) (by simp only [push_cast, leL_flD, renL_flD, seval]) (by kernel_rfl) (.inl rfl) (by simp only [push_cast, leL_flD, renL_flD, seval]) (by simp only [push_cast, leL_flD, renL_flD, seval]) ?_
    refine rs 2 [] [] (by kernel_rfl) allP_nil ?_
    obtain ⟨r5293, hr5293, h⟩ := bind_sx h
    refine call_x (SpecW.give (taskmillref_AllGone_spec r5292 c4q1 r5293 hr5293) [(0, .row 57 (fl r5292))] [.own 0 0 r5292.length, .sl c4q1.length (fl c4q1)] [] (.own 1 0 r5293.length) [(1, .row 57 (fl r5293))] (by first | simp only [push_cast, leL_flD, renL_flD, seval] | simp only [push_cast, List.mem_singleton, true_and, and_true, leL_flD, renL_flD, seval]) (by simp only [push_cast, leL_flD, renL_flD, seval]) (by simp only [push_cast, leL_flD, renL_flD, seval]) (by simp only [push_cast, leL_flD, renL_flD, seval]) rfl (by simp only [push_cast, leL_flD, renL_flD, seval]) (by simp only [push_cast, leL_flD, renL_flD, seval]) rfl) (args := [.own 9 0 r5292.length, .sl c4q1.length (fl c4q1)]) (dst := (some 57)) (by kernel_rfl) [(0, .row 49 (Enc.cells c)), (1, .row 33 [bS false, bS false, bS false, iS 0, iS 0, .v (.slice none 0 0)]), (2, .row 57 (Enc.cells c2q1)), (3, .row 33 [bS c3_Done1, bS c3_Panic1, bS c3_Ok1, iS c3_Value1, iS c3_Case1, .sl c4q1.length (fl c4q1)]), (9, .row 57 (fl r5292))] 13 (by kernel_rfl) [(0, 9)] [] (.own 14 0 r5293.length) [(14, .row 57 (fl r5293)), (9, .dead)] (by simp only [push_cast, leL_flD, renL_flD, seval]) (by simp only [push_cast, leL_flD, renL_flD, seval]) (by kernel_rfl) (.inl rfl) (by simp only [push_cast, leL_flD, renL_flD, seval]) (by simp only [push_cast, leL_flD, renL_flD, seval]) ?_
    refine rs 3 [] [] (by kernel_rfl) allP_nil ?_
    refine rt [(8, .own 14 0 r5293.length), (9, .ptr 1 0)] [(0, .row 49 (Enc.cells c)), (1, .row 33 [bS c3_Done1, bS c3_Panic1, bS c3_Ok1, iS c3_Value1, iS c3_Case1, .sl c4q1.length (fl c4q1)]), (2, .row 57 (Enc.cells c2q1)), (3, .row 33 [bS c3_Done1, bS c3_Panic1, bS c3_Ok1, iS c3_Value1, iS c3_Case1, .sl c4q1.length (fl c4q1)]), (9, .dead), (14, .row 57 (fl r5293))] 19 follows (by kernel_rfl) ?_
    refine wk_id ?_
    obtain rfl := Option.some.inj h
    refine ret_at (.tup [.own 14 0 r5293.length, .agg [bS c3_Done1, bS c3_Panic1, bS c3_Ok1, iS c3_Value1, iS c3_Case1, .sl c4q1.length (fl c4q1)]]) (by kernel_rfl) ?_
    exact ret_e [] [14] (by simp only [leS_frz, leS_cut, leL_flD, renL_flD, push_cast, seval]) (by simp only [leS_frz, leS_cut, leL_flD, renL_flD, push_cast, seval]) rfl rfl rfl

set_option maxRecDepth 100000 in
set_option maxHeartbeats 200000000 in
theorem pick_Ready_spec (l : (List Pipe)) (task : Int) (cases : (List GCase)) (r : Fault × (List Int)) (h : pick_Ready l task cases = some r) : SpecW Try.prog 22 [.sl l.length (fl l), iS task, .sl cases.length (fl cases)] [] 0 (fun x h n => x = .tup [.own 0 0 r.2.length, .agg (Enc.cells r.1)] ∧ h = [(0, .row 3 (fl r.2))] ∧ n = 1) := by
 unfold pick_Ready at h
 refine spec_of (draw_ok _) Try.func22 rfl (by decide) rfl (by kernel_rfl) ?_
 refine seq_np ?_
 refine reg_f ?_
 refine rs 2 [] [] (by kernel_rfl) allP_nil ?_
 refine rf [(0, .sl l.length (fl l)), (1, iS task), (2, .sl cases.length (fl cases)), (7, .ptr 0 0)] [(0, .row 29 [iS 0, iS 0])] 1 (by kernel_rfl) ?_
 refine wk_id ?_
 refine seq_np ?_
 refine seq_np ?_
 refine reg_f ?_
 refine rs 1 [] [] (by kernel_rfl) allP_nil ?_
 obtain ⟨r5877, hr5877, h⟩ := bind_sx h
 refine run_call 12 [.sl l.length (fl l)] (some 16) (by kernel_rfl) ?_
 refine call_0 (pick_Check_spec l r5877 hr5877) (by simp only [push_cast, leL_flD, renL_flD, seval]) (by simp only [push_cast, leL_flD, renL_flD, seval]) ?_
 refine back_f ?_
 refine rs 2 [] [] (by kernel_rfl) allP_nil ?_
 refine rf [(0, .sl l.length (fl l)), (1, iS task), (2, .sl cases.length (fl cases)), (7, .ptr 0 0), (8, .ptr 1 0)] [(0, .row 29 [iS 0, iS 0]), (1, .row 29 (Enc.cells r5877))] 2 (by kernel_rfl) ?_
 refine wk_id ?_
 refine seq_np ?_
 refine reg_f ?_
 refine rs 3 [] [] (by kernel_rfl) allP_nil ?_
 refine rf [(0, .sl l.length (fl l)), (1, iS task), (2, .sl cases.length (fl cases)), (7, .ptr 0 0), (8, .ptr 1 0), (19, bS (r5877.Code != 0))] [(0, .row 29 [iS 0, iS 0]), (1, .row 29 (Enc.cells r5877))] 2 (by kernel_rfl) ?_
 refine wk_id ?_
 refine cond_sx h (by kernel_rfl) (fun g6048 h => ?_) (fun g6048 h => ?_)
 ·refine seq_np ?_
  refine reg_t ?_
  refine rs 3 [] [] (by kernel_rfl) allP_nil ?_
  refine rt [(6, .v (.slice none 0 0)), (7, .ptr 0 0)] [(0, .row 29 (Enc.cells r5877)), (1, .row 29 (Enc.cells r5877))] 5 follows (by kernel_rfl) ?_
  refine wk_id ?_
  obtain rfl := Option.some.inj h
  refine ret_at (.tup [.v (.slice none 0 0), .agg (Enc.cells r5877)]) (by kernel_rfl) ?_
  exact ret_e [] [] (by simp only [push_cast, leL_flD, renL_flD, seval]) (by simp only [push_cast, leL_flD, renL_flD, seval]) rfl rfl rfl
 ·refine wk_id ?_
  refine seq_np ?_
  refine reg_f ?_
  refine rs 1 [] [] (by kernel_rfl) allP_nil ?_
  refine rf [(0, .sl l.length (fl l)), (1, iS task), (2, .sl cases.length (fl cases)), (7, .ptr 0 0), (9, .v (.slice none 0 0))] [(0, .row 29 [iS 0, iS 0]), (1, .row 29 (Enc.cells r5877))] 2 (by kernel_rfl) ?_
  refine wk_id ?_
  refine seq_np ?_
  refine seq_np ?_
  refine reg_f ?_
  refine rs 3 [] [] (by kernel_rfl) allP_nil ?_
  refine rf [(0, .sl l.length (fl l)), (1, iS task), (2, .sl cases.length (fl cases)), (7, .ptr 0 0), (9, .v (.slice none 0 0)), (22, iS ((cases.length : Nat) : Int)), (23, iS 0)] [(0, .row 29 [iS 0, iS 0]), (1, .row 29 (Enc.cells r5877))] 2 (by kernel_rfl) ?_
  refine wk_id ?_
  refine block_np ?_
  refine loop_sx (S := Int × (List Int)) (fun a => ([(0, .sl l.length (fl l)), (1, iS task), (2, .sl cases.length (fl cases)), (7, .ptr 0 0), (9, .own 1 0 a.2.length), (22, iS ((cases.length : Nat) : Int)), (23, iS a.1)], [(0, .row 29 [iS 0, iS 0]), (1, .row 3 (fl a.2))], 2)) h (leSt_m [(0, 0)] [] (by simp only [push_cast, leL_flD, renL_flD, seval]) (by simp only [push_cast, leL_flD, renL_flD, seval]) rfl rfl rfl) ?_
  rintro ⟨t23q7, c1q12⟩ o3 R3 h hr3 hn3 hx3 ht3
  try dsimp only at h hn3 ⊢
  unfold pick_Ready_l2 at h
  try dsimp only at h
  refine seq_np ?_
  refine reg_f ?_
  refine rs 1 [] [] (by kernel_rfl) allP_nil ?_
  refine rf [(0, .sl l.length (fl l)), (1, iS task), (2, .sl cases.length (fl cases)), (7, .ptr 0 0), (9, .own 1 0 c1q12.length), (22, iS ((cases.length : Nat) : Int)), (23, iS t23q7), (24, bS (decide (t23q7 < ((cases.length : Nat) : Int))))] [(0, .row 29 [iS 0, iS 0]), (1, .row 3 (fl c1q12))] 2 (by kernel_rfl) ?_
  refine wk_id ?_
  refine seq_np ?_
  refine cond_sx h (by kernel_rfl) (fun g6047 h => ?_) (fun g6047 h => ?_)
  ·refine wk_id ?_
   refine seq_np ?_
   refine block_np ?_
   refine seq_np ?_
   refine reg_f ?_
   refine rs 2 [] [] (by kernel_rfl) allP_nil ?_
   refine rf [(0, .sl l.length (fl l)), (1, iS task), (2, .sl cases.length (fl cases)), (7, .ptr 0 0), (9, .own 1 0 c1q12.length), (10, iS t23q7), (22, iS ((cases.length : Nat) : Int)), (23, iS t23q7)] [(0, .row 29 [iS 0, iS 0]), (1, .row 3 (fl c1q12))] 2 (by kernel_rfl) ?_
   refine wk_id ?_
   refine chk_sx h (fun g5913 h => ?_)
   refine reg_f ?_
   have k5912 : (c1q12 ++ ([t23q7] : List Int)).length * 8 ≤ 140737488355328 := by first | simpa only [Bool.and_eq_true, decide_eq_true_eq, bne_iff_ne, ne_eq] using g5913 | (simp at g5913 ⊢; omega)
   refine rs 5 [none, none, none, some ⟨.own 3 0 (c1q12 ++ ([t23q7] : List Int)).length, [(3, .row 3 (fl (c1q12 ++ ([t23q7] : List Int)))), (1, .dead)], 4, [1, 2]⟩] _ (by kernel_rfl) (allP_cons (ob_app (P := Try.prog) c1q12 ([t23q7] : List Int) 1 8 rfl (appCells (fl ([t23q7] : List Int)) 0 (([t23q7] : List Int).length * 1)) ([t23q7] : List Int).length (app_own ([t23q7] : List Int) 1 rfl) rfl (0 + ([t23q7] : List Int).length * 1 ≤ (fl ([t23q7] : List Int)).length) (app_own_le ([t23q7] : List Int) 1 rfl) 3 (by kernel_rfl) (by decide) k5912 1 3 [2]) allP_nil) ?_
   refine rf [(0, .sl l.length (fl l)), (1, iS task), (2, .sl cases.length (fl cases)), (7, .ptr 0 0), (9, .own 3 0 (c1q12 ++ ([t23q7] : List Int)).length), (22, iS ((cases.length : Nat) : Int)), (23, iS t23q7)] [(0, .row 29 [iS 0, iS 0]), (1, .dead), (2, .row 3 (fl ([t23q7] : List Int))), (3, .row 3 (fl (c1q12 ++ ([t23q7] : List Int))))] 4 (by kernel_rfl) ?_
   refine wk_id ?_
   refine wk_id ?_
   refine reg_f ?_
   refine rs 2 [] [] (by kernel_rfl) allP_nil ?_
   refine rf [(0, .sl l.length (fl l)), (1, iS task), (2, .sl cases.length (fl cases)), (7, .ptr 0 0), (9, .own 3 0 (c1q12 ++ ([t23q7] : List Int)).length), (22, iS ((cases.length : Nat) : Int)), (23, iS (IntKind.i64.wrap (t23q7 + 1)))] [(0, .row 29 [iS 0, iS 0]), (1, .dead), (2, .row 3 (fl ([t23q7] : List Int))), (3, .row 3 (fl (c1q12 ++ ([t23q7] : List Int))))] 4 (by kernel_rfl) ?_
   exact hn3 ((IntKind.i64.wrap (t23q7 + 1)), (c1q12 ++ ([t23q7] : List Int))) _ _ _ (Option.some.inj h).symm (leSt_m [(0, 0), (1, 3)] [] (by simp only [push_cast, leL_flD, renL_flD, seval]) (by simp only [push_cast, leL_flD, renL_flD, seval]) rfl rfl rfl)
  ·change R3 (.exit 0) _ _ _
   refine ex_cast hx3 (id := 0) ?_
   obtain ⟨r0, h, e0⟩ := map_sx h
   have e1 := hr3 r0 e0.symm
   subst r0
   refine wk_id ?_
   refine wk_id ?_
   refine seq_np ?_
   refine seq_np ?_
   refine reg_f ?_
   refine rs 4 [] [] (by kernel_rfl) allP_nil ?_
   obtain ⟨r5917, hr5917, h⟩ := bind_sx h
   refine call_x (pick_hub_look_spec l task cases c1q12 r5917 hr5917) (args := [.sl l.length (fl l), iS task, .sl cases.length (fl cases), .own 1 0 c1q12.length]) (dst := (some 35)) (by kernel_rfl) [(0, .row 29 [iS 0, iS 0]), (1, .row 3 (fl c1q12))] 2 (by kernel_rfl) [] [1] (.agg (Enc.cells r5917)) [] (by simp only [push_cast, leL_flD, renL_flD, seval]) (by simp only [push_cast, leL_flD, renL_flD, seval]) (by kernel_rfl) (.inr ⟨by simp only [push_cast, leL_flD, renL_flD, seval], by simp only [push_cast, leL_flD, renL_flD, seval]⟩) (by simp only [push_cast, leL_flD, renL_flD, seval]) (by simp only [push_cast, leL_flD, renL_flD, seval]) ?_
   refine rs 2 [] [] (by kernel_rfl) allP_nil ?_
   refine rf [(0, .sl l.length (fl l)), (1, iS task), (2, .sl cases.length (fl cases)), (7, .ptr 0 0), (11, .ptr 2 0)] [(0, .row 29 [iS 0, iS 0]), (1, .row 3 (fl c1q12)), (2, .row 29 (Enc.cells r5917))] 3 (by kernel_rfl) ?_
   refine wk_id ?_
   refine seq_np ?_
   refine reg_f ?_
   refine rs 3 [] [] (by kernel_rfl) allP_nil ?_
   refine rf [(0, .sl l.length (fl l)), (1, iS task), (2, .sl cases.length (fl cases)), (7, .ptr 0 0), (11, .ptr 2 0), (38, bS (r5917.Code != 0))] [(0, .row 29 [iS 0, iS 0]), (1, .row 3 (fl c1q12)), (2, .row 29 (Enc.cells r5917))] 3 (by kernel_rfl) ?_
   refine wk_id ?_
   refine cond_sx h (by kernel_rfl) (fun g6046 h => ?_) (fun g6046 h => ?_)
   ·refine seq_np ?_
    refine reg_t ?_
    refine rs 3 [] [] (by kernel_rfl) allP_nil ?_
    refine rt [(6, .v (.slice none 0 0)), (7, .ptr 0 0)] [(0, .row 29 (Enc.cells r5917)), (1, .row 3 (fl c1q12)), (2, .row 29 (Enc.cells r5917))] 6 follows (by kernel_rfl) ?_
    refine wk_id ?_
    obtain rfl := Option.some.inj h
    refine ret_at (.tup [.v (.slice none 0 0), .agg (Enc.cells r5917)]) (by kernel_rfl) ?_
    exact ret_e [] [] (by simp only [push_cast, leL_flD, renL_flD, seval]) (by simp only [push_cast, leL_flD, renL_flD, seval]) rfl rfl rfl
   ·refine wk_id ?_
    refine seq_np ?_
    refine reg_f ?_
    refine rs 1 [] [] (by kernel_rfl) allP_nil ?_
    refine rf [(0, .sl l.length (fl l)), (1, iS task), (2, .sl cases.length (fl cases)), (7, .ptr 0 0), (12, .v (.slice none 0 0))] [(0, .row 29 [iS 0, iS 0]), (1, .row 3 (fl c1q12)), (2, .row 29 (Enc.cells r5917))] 3 (by kernel_rfl) ?_
    refine wk_id ?_
    refine seq_np ?_
    refine seq_np ?_
    refine reg_f ?_
    refine rs 3 [] [] (by kernel_rfl) allP_nil ?_
    refine rf [(0, .sl l.length (fl l)), (1, iS task), (7, .ptr 0 0), (12, .v (.slice none 0 0)), (40, .sl cases.length (fl cases)), (41, iS ((cases.length : Nat) : Int)), (42, iS 0)] [(0, .row 29 [iS 0, iS 0]), (1, .row 3 (fl c1q12)), (2, .row 29 (Enc.cells r5917))] 3 (by kernel_rfl) ?_
    refine wk_id ?_
    refine block_np ?_
    refine loop_sx (S := Int × (List Int)) (fun a => ([(0, .sl l.length (fl l)), (1, iS task), (7, .ptr 0 0), (12, .own 1 0 a.2.length), (40, .sl cases.length (fl cases)), (41, iS ((cases.length : Nat) : Int)), (42, iS a.1)], [(0, .row 29 [iS 0, iS 0]), (1, .row 3 (fl a.2))], 2)) h (leSt_m [(0, 0)] [] (by simp only [push_cast, leL_flD, renL_flD, seval]) (by simp only [push_cast, leL_flD, renL_flD, seval]) rfl rfl rfl) ?_
    rintro ⟨t42q7, c1q26⟩ o4 R4 h hr4 hn4 hx4 ht4
    try dsimp only at h hn4 ⊢
    unfold pick_Ready_l1 at h
    try dsimp only at h
    refine seq_np ?_
    refine reg_f ?_
    refine rs 1 [] [] (by kernel_rfl) allP_nil ?_
    refine rf [(0, .sl l.length (fl l)), (1, iS task), (7, .ptr 0 0), (12, .own 1 0 c1q26.length), (40, .sl cases.length (fl cases)), (41, iS ((cases.length : Nat) : Int)), (42, iS t42q7), (43, bS (decide (t42q7 < ((cases.length : Nat) : Int))))] [(0, .row 29 [iS 0, iS 0]), (1, .row 3 (fl c1q26))] 2 (by kernel_rfl) ?_
    refine wk_id ?_
    refine seq_np ?_
    refine cond_sx h (by kernel_rfl) (fun g6045 h => ?_) (fun g6045 h => ?_)
    ·refine wk_id ?_
     refine seq_np ?_
     refine block_cut (A := (List Int)) (fun a => ([(0, .sl l.length (fl l)), (1, iS task), (7, .ptr 0 0), (12, .own 1 0 a.length), (40, .sl cases.length (fl cases)), (41, iS ((cases.length : Nat) : Int)), (42, iS t42q7)], [(0, .row 29 [iS 0, iS 0]), (1, .row 3 (fl a))], 2)) (fun a => (pick_Ready_j1 l task cases t42q7 a) = some o4) (fun K6029 hK6029 => ?_) ?_
     ·refine chk_sx h (fun g6033 h => ?_)
      refine seq_np ?_
      refine reg_f ?_
      have k6032 : 0 ≤ t42q7 ∧ t42q7 < ((cases.length : Nat) : Int) := by first | simpa only [Bool.and_eq_true, decide_eq_true_eq, bne_iff_ne, ne_eq] using g6033 | (simp at g6033 ⊢; omega)
      refine rs 6 [none, some ⟨.iptr (fl cases) ((t42q7).toNat * 3), [], 2, []⟩, some ⟨.agg (Enc.cells (ix cases t42q7)), [], 2, []⟩] _ (by kernel_rfl) (allP_cons (ob_ldw cases t42q7 3 ((t42q7).toNat * 3) k6032 rfl (by first | rfl | omega) [iS (ix cases t42q7).Pipe, bS (ix cases t42q7).Send, iS (ix cases t42q7).Value] rfl 2 []) (allP_cons (ob_ix_l cases 3 2 t42q7 k6032) allP_nil)) ?_
      refine rf [(0, .sl l.length (fl l)), (1, iS task), (7, .ptr 0 0), (12, .own 1 0 c1q26.length), (13, iS t42q7), (14, .ptr 2 0), (40, .sl cases.length (fl cases)), (41, iS ((cases.length : Nat) : Int)), (42, iS t42q7)] [(0, .row 29 [iS 0, iS 0]), (1, .row 3 (fl c1q26)), (2, .row 49 (Enc.cells (ix cases t42q7)))] 3 (by kernel_rfl) ?_
      refine wk_id ?_
      refine seq_np ?_
      refine reg_t ?_
      refine rs 1 [] [] (by kernel_rfl) allP_nil ?_
      obtain ⟨r6037, hr6037, h⟩ := bind_sx h
      refine call_x (pick_copied_spec l r6037 hr6037) (args := [.sl l.length (fl l)]) (dst := (some 48)) (by kernel_rfl) [(0, .row 29 [iS 0, iS 0]), (1, .row 3 (fl c1q26)), (2, .row 49 (Enc.cells (ix cases t42q7)))] 4 (by kernel_rfl) [] [] (.own 4 0 r6037.length) [(4, .row 57 (flD dPipe [5, 6, 7] r6037)), ((.s 5 0), .fam (famD dPipe 0 r6037)), ((.s 6 0), .fam (famD dPipe 1 r6037)), ((.s 7 0), .fam (famD dPipe 2 r6037))] (by simp only [push_cast, leL_flD, renL_flD, seval]) (by simp only [push_cast, leL_flD, renL_flD, seval]) (by kernel_rfl) (.inl rfl) (by first | (simp only [push_cast, leL_flD, renL_flD, seval]; done) | (simp only [push_cast, leL_flD, renL_flD, seval]; kernel_rfl) | kernel_rfl) (by first | (simp only [push_cast, leL_flD, renL_flD, seval]; done) | (simp only [push_cast, leL_flD, renL_flD, seval]; kernel_rfl) | kernel_rfl) ?_
      refine rs 3 [] [] (by kernel_rfl) allP_nil ?_
      obtain ⟨r6038, hr6038, h⟩ := bind_sx h
      refine call_x (pick_hub_once_1_spec task t42q7 (ix cases t42q7) r6037 r6038 hr6038) (args := [.own 4 0 r6037.length, iS task, iS t42q7, .agg (Enc.cells (ix cases t42q7))]) (dst := (some 52)) (by kernel_rfl) [(0, .row 29 [iS 0, iS 0]), (1, .row 3 (fl c1q26)), (2, .row 49 (Enc.cells (ix cases t42q7))), (4, .row 57 (flD dPipe [5, 6, 7] r6037)), ((.s 5 0), .fam (famD dPipe 0 r6037)), ((.s 6 0), .fam (famD dPipe 1 r6037)), ((.s 7 0), .fam (famD dPipe 2 r6037))] 12 (by kernel_rfl) [(0, 4), ((.s 1 0), (.s 5 0)), ((.s 2 0), (.s 6 0)), ((.s 3 0), (.s 7 0))] [] (.agg [bS r6038.1, bS r6038.2.1, bS r6038.2.2.1, iS r6038.2.2.2.1, iS r6038.2.2.2.2.1, .own 16 0 r6038.2.2.2.2.2.1.length]) [(4, .row 57 (flD dPipe [17, 18, 19] r6038.2.2.2.2.2.2)), ((.s 5 0), .dead), ((.s 6 0), .dead), ((.s 7 0), .dead), (16, .row 64 (fl r6038.2.2.2.2.2.1)), ((.s 17 0), .fam (famD dPipe 0 r6038.2.2.2.2.2.2)), ((.s 18 0), .fam (famD dPipe 1 r6038.2.2.2.2.2.2)), ((.s 19 0), .fam (famD dPipe 2 r6038.2.2.2.2.2.2)), (4, .dead), ((.s 5 0), .dead), ((.s 6 0), .dead), ((.s 7 0), .dead)] (by simp only [push_cast, leL_flD, renL_flD, seval]) (by simp only [push_cast, leL_flD, renL_flD, seval]) (by kernel_rfl) (.inl rfl) (by first | (simp only [push_cast, leL_flD, renL_flD, seval]; done) | (simp only [push_cast, leL_flD, renL_flD, seval]; kernel_rfl) | kernel_rfl) (by first | (simp only [push_cast, leL_flD, renL_flD, seval]; done) | (simp only [push_cast, leL_flD, renL_flD, seval]; kernel_rfl) | kernel_rfl) ?_ (hfam := (And.intro trivial (And.intro (fun _ => Or.inl rfl) (And.intro (fun _ => Or.inl rfl) (And.intro (fun _ => Or.inl rfl) trivial)))))
      refine rs 1 [] [] (by kernel_rfl) allP_nil ?_
      refine rt [(0, .sl l.length (fl l)), (1, iS task), (7, .ptr 0 0), (12, .own 1 0 c1q26.length), (13, iS t42q7), (40, .sl cases.length (fl cases)), (41, iS ((cases.length : Nat) : Int)), (42, iS t42q7), (53, bS r6038.1)] [(0, .row 29 [iS 0, iS 0]), (1, .row 3 (fl c1q26)), (2, .row 49 (Enc.cells (ix cases t42q7))), (4, .row 57 (flD dPipe [17, 18, 19] r6038.2.2.2.2.2.2)), ((.s 5 0), .dead), ((.s 6 0), .dead), ((.s 7 0), .dead), (16, .row 64 (fl r6038.2.2.2.2.2.1)), ((.s 17 0), .fam (famD dPipe 0 r6038.2.2.2.2.2.2)), ((.s 18 0), .fam (famD dPipe 1 r6038.2.2.2.2.2.2)), ((.s 19 0), .fam (famD dPipe 2 r6038.2.2.2.2.2.2))] 22 follows (by kernel_rfl) ?_
      refine wk_id ?_
      refine cond_sx h (by kernel_rfl) (fun g6044 h => ?_) (fun g6044 h => ?_)
      ·refine chk_sx h (fun g6043 h => ?_)
       refine reg_f ?_
       have k6042 : (c1q26 ++ ([t42q7] : List Int)).length * 8 ≤ 140737488355328 := by first | simpa only [Bool.and_eq_true, decide_eq_true_eq, bne_iff_ne, ne_eq] using g6043 | (simp at g6043 ⊢; omega)
       refine rs 5 [none, none, none, some ⟨.own 23 0 (c1q26 ++ ([t42q7] : List Int)).length, [(23, .row 3 (fl (c1q26 ++ ([t42q7] : List Int)))), (1, .dead)], 24, [1, 22]⟩] _ (by kernel_rfl) (allP_cons (ob_app (P := Try.prog) c1q26 ([t42q7] : List Int) 1 8 rfl (appCells (fl ([t42q7] : List Int)) 0 (([t42q7] : List Int).length * 1)) ([t42q7] : List Int).length (app_own ([t42q7] : List Int) 1 rfl) rfl (0 + ([t42q7] : List Int).length * 1 ≤ (fl ([t42q7] : List Int)).length) (app_own_le ([t42q7] : List Int) 1 rfl) 3 (by kernel_rfl) (by decide) k6042 1 23 [22]) allP_nil) ?_
       refine rf [(0, .sl l.length (fl l)), (1, iS task), (7, .ptr 0 0), (12, .own 23 0 (c1q26 ++ ([t42q7] : List Int)).length), (40, .sl cases.length (fl cases)), (41, iS ((cases.length : Nat) : Int)), (42, iS t42q7)] [(0, .row 29 [iS 0, iS 0]), (1, .dead), (2, .row 49 (Enc.cells (ix cases t42q7))), (4, .row 57 (flD dPipe [17, 18, 19] r6038.2.2.2.2.2.2)), ((.s 5 0), .dead), ((.s 6 0), .dead), ((.s 7 0), .dead), (16, .row 64 (fl r6038.2.2.2.2.2.1)), ((.s 17 0), .fam (famD dPipe 0 r6038.2.2.2.2.2.2)), ((.s 18 0), .fam (famD dPipe 1 r6038.2.2.2.2.2.2)), ((.s 19 0), .fam (famD dPipe 2 r6038.2.2.2.2.2.2)), (22, .row 3 (fl ([t42q7] : List Int))), (23, .row 3 (fl (c1q26 ++ ([t42q7] : List Int))))] 24 (by kernel_rfl) ?_
       exact hK6029 ((c1q26 ++ ([t42q7] : List Int))) _ _ _ h (leSt_m [(0, 0), (1, 23)] [] (by simp only [push_cast, leL_flD, renL_flD, seval]) (by simp only [push_cast, leL_flD, renL_flD, seval]) rfl rfl rfl)
      ·exact hK6029 (c1q26) _ _ _ h (leSt_m [(0, 0), (1, 1)] [] (by simp only [push_cast, leL_flD, renL_flD, seval]) (by simp only [push_cast, leL_flD, renL_flD, seval]) rfl rfl rfl)
     ·rintro c1q28 h
      try dsimp only at h ⊢
      unfold pick_Ready_j1 at h
      refine wk_id ?_
      refine reg_f ?_
      refine rs 2 [] [] (by kernel_rfl) allP_nil ?_
      refine rf [(0, .sl l.length (fl l)), (1, iS task), (7, .ptr 0 0), (12, .own 1 0 c1q28.length), (40, .sl cases.length (fl cases)), (41, iS ((cases.length : Nat) : Int)), (42, iS (IntKind.i64.wrap (t42q7 + 1)))] [(0, .row 29 [iS 0, iS 0]), (1, .row 3 (fl c1q28))] 2 (by kernel_rfl) ?_
      exact hn4 ((IntKind.i64.wrap (t42q7 + 1)), c1q28) _ _ _ (Option.some.inj h).symm (leSt_m [(0, 0), (1, 1)] [] (by simp only [push_cast, leL_flD, renL_flD, seval]) (by simp only [push_cast, leL_flD, renL_flD, seval]) rfl rfl rfl)
    ·change R4 (.exit 2) _ _ _
     refine ex_cast hx4 (id := 2) ?_
     obtain ⟨r0, h, e0⟩ := map_sx h
     have e1 := hr4 r0 e0.symm
     subst r0
     refine wk_id ?_
     refine wk_id ?_
     refine seq_np ?_
     refine reg_f ?_
     refine rs 4 [] [] (by kernel_rfl) allP_nil ?_
     refine rf [(6, .own 1 0 c1q26.length), (7, .ptr 0 0)] [(0, .row 29 [iS 0, iS 0]), (1, .row 3 (fl c1q26))] 2 (by kernel_rfl) ?_
     refine wk_id ?_
     obtain rfl := Option.some.inj h
     refine ret_at (.tup [.own 1 0 c1q26.length, .agg [iS 0, iS 0]]) (by kernel_rfl) ?_
     exact ret_e [(0, 1)] [] (by simp only [push_cast, leL_flD, renL_flD, seval]) (by simp only [push_cast, leL_flD, renL_flD, seval]) rfl rfl rfl

set_option maxRecDepth 100000 in
set_option maxHeartbeats 200000000 in
theorem taskmilllaw_PickReady_spec (l : (List Pipe)) (task : Int) (cases : (List GCase)) (r : Bool) (h : taskmilllaw_PickReady l task cases = some r) : SpecW Try.prog 4 [.sl l.length (fl l), iS task, .sl cases.length (fl cases)] [] 0 (fun x h n => x = bS r ∧ h = [] ∧ n = 0) := by
 unfold taskmilllaw_PickReady at h
 refine spec_of (draw_ok _) Try.func4 rfl (by decide) rfl (by kernel_rfl) ?_
 refine seq_np ?_
 refine reg_f ?_
 refine rs 1 [] [] (by kernel_rfl) allP_nil ?_
 refine rf [(0, .sl l.length (fl l)), (1, iS task), (2, .sl cases.length (fl cases))] [] 0 (by kernel_rfl) ?_
 refine wk_id ?_
 refine seq_np ?_
 refine seq_np ?_
 refine reg_f ?_
 obtain ⟨r6201, hr6201, h⟩ := bind_sx h
 refine run_call 9 [] (some 24) (by kernel_rfl) ?_
 refine call_0 (taskmilllaw_pickBegun_spec r6201 hr6201) (by simp only [push_cast, leL_flD, renL_flD, seval]) (by simp only [push_cast, leL_flD, renL_flD, seval]) ?_
 refine back_f ?_
 refine rs 1 [] [] (by kernel_rfl) allP_nil ?_
 refine rf [(0, .sl l.length (fl l)), (1, iS task), (2, .sl cases.length (fl cases)), (25, bS (!r6201))] [] 0 (by kernel_rfl) ?_
 refine wk_id ?_
 refine cond_sx h (by kernel_rfl) (fun g6828 h => ?_) (fun g6828 h => ?_)
 ·refine seq_np ?_
  refine reg_f ?_
  refine rs 1 [] [] (by kernel_rfl) allP_nil ?_
  refine rf [(6, bS false)] [] 0 (by kernel_rfl) ?_
  refine wk_id ?_
  obtain rfl := Option.some.inj h
  refine ret_at (bS false) (by kernel_rfl) ?_
  exact ret_e [] [] (by simp only [push_cast, leL_flD, renL_flD, seval]) (by simp only [push_cast, leL_flD, renL_flD, seval]) rfl rfl rfl
 ·refine wk_id ?_
  refine seq_np ?_
  refine seq_cut (A := Bool) (fun a => ([(0, .sl l.length (fl l)), (1, iS task), (2, .sl cases.length (fl cases)), (32, bS a)], [], 0)) (fun a => (taskmilllaw_PickReady_j3 l task cases a) = some r) (fun K6210 hK6210 => ?_) ?_
  ·refine reg_f ?_
   refine rs 1 [] [] (by kernel_rfl) allP_nil ?_
   obtain ⟨r6211, hr6211, h⟩ := bind_sx h
   refine run_call 10 [.sl l.length (fl l)] (some 27) (by kernel_rfl) ?_
   refine call_0 (taskmilllaw_vastHub_spec l r6211 hr6211) (by simp only [push_cast, leL_flD, renL_flD, seval]) (by simp only [push_cast, leL_flD, renL_flD, seval]) ?_
   refine back_f ?_
   refine rs 1 [] [] (by kernel_rfl) allP_nil ?_
   refine run_br h 28 (.inl (by kernel_rfl)) (fun g6212 h => ?_) (fun g6212 h => ?_)
   ·refine rs 4 [] [] (by kernel_rfl) allP_nil ?_
    refine rf [(0, .sl l.length (fl l)), (1, iS task), (2, .sl cases.length (fl cases)), (32, bS true)] [] 0 (by kernel_rfl) ?_
    exact hK6210 (true) _ _ _ h (leSt_m [] [] (by (try simp only [g6212]) <;> simp only [push_cast, leL_flD, renL_flD, seval]) (by (try simp only [g6212]) <;> simp only [push_cast, leL_flD, renL_flD, seval]) rfl rfl rfl)
   ·refine rs 4 [] [] (by kernel_rfl) allP_nil ?_
    refine rf [(0, .sl l.length (fl l)), (1, iS task), (2, .sl cases.length (fl cases)), (32, bS (decide ((100 : Int) < ((cases.length : Nat) : Int))))] [] 0 (by kernel_rfl) ?_
    exact hK6210 ((decide ((100 : Int) < ((cases.length : Nat) : Int)))) _ _ _ h (leSt_m [] [] (by (try simp only [g6212]) <;> simp only [push_cast, leL_flD, renL_flD, seval]) (by (try simp only [g6212]) <;> simp only [push_cast, leL_flD, renL_flD, seval]) rfl rfl rfl)
  ·rintro t32q2 h
   try dsimp only at h ⊢
   unfold taskmilllaw_PickReady_j3 at h
   refine cond_sx h (by kernel_rfl) (fun g6827 h => ?_) (fun g6827 h => ?_)
   ·refine seq_np ?_
    refine reg_f ?_
    refine rs 1 [] [] (by kernel_rfl) allP_nil ?_
    refine rf [(6, bS true)] [] 0 (by kernel_rfl) ?_
    refine wk_id ?_
    obtain rfl := Option.some.inj h
    refine ret_at (bS true) (by kernel_rfl) ?_
    exact ret_e [] [] (by simp only [push_cast, leL_flD, renL_flD, seval]) (by simp only [push_cast, leL_flD, renL_flD, seval]) rfl rfl rfl
   ·refine wk_id ?_
    refine seq_np ?_
    refine reg_f ?_
    refine rs 1 [] [] (by kernel_rfl) allP_nil ?_
    obtain ⟨r6216, hr6216, h⟩ := bind_sx h
    refine call_x (taskmilllaw_ownHub_spec l r6216 hr6216) (args := [.sl l.length (fl l)]) (dst := (some 35)) (by kernel_rfl) [] 0 (by kernel_rfl) [] [] (.own 0 0 r6216.length) [(0, .row 57 (flD dPipe [1, 2, 3] r6216)), ((.s 1 0), .fam (famD dPipe 0 r6216)), ((.s 2 0), .fam (famD dPipe 1 r6216)), ((.s 3 0), .fam (famD dPipe 2 r6216))] (by simp only [push_cast, leL_flD, renL_flD, seval]) (by simp only [push_cast, leL_flD, renL_flD, seval]) (by kernel_rfl) (.inl rfl) (by first | (simp only [push_cast, leL_flD, renL_flD, seval]; done) | (simp only [push_cast, leL_flD, renL_flD, seval]; kernel_rfl) | kernel_rfl) (by first | (simp only [push_cast, leL_flD, renL_flD, seval]; done) | (simp only [push_cast, leL_flD, renL_flD, seval]; kernel_rfl) | kernel_rfl) ?_
    refine rs 2 [] [] (by kernel_rfl) allP_nil ?_
    obtain ⟨r6217, hr6217, h⟩ := bind_sx h
    refine call_x (taskmilllaw_ownCases_spec cases r6217 hr6217) (args := [.sl cases.length (fl cases)]) (dst := (some 38)) (by kernel_rfl) [(0, .row 57 (flD dPipe [1, 2, 3] r6216)), ((.s 1 0), .fam (famD dPipe 0 r6216)), ((.s 2 0), .fam (famD dPipe 1 r6216)), ((.s 3 0), .fam (famD dPipe 2 r6216))] 4 (by kernel_rfl) [] [] (.own 4 0 r6217.length) [(4, .row 49 (fl r6217))] (by simp only [push_cast, leL_flD, renL_flD, seval]) (by simp only [push_cast, leL_flD, renL_flD, seval]) (by kernel_rfl) (.inl rfl) (by simp only [push_cast, leL_flD, renL_flD, seval]) (by simp only [push_cast, leL_flD, renL_flD, seval]) ?_
    obtain ⟨r6218, hr6218, h⟩ := bind_sx h
    refine call_x (pick_Ready_spec r6216 task r6217 r6218 hr6218) (args := [.own 0 0 r6216.length, iS task, .own 4 0 r6217.length]) (dst := (some 39)) (by kernel_rfl) [(0, .row 57 (flD dPipe [1, 2, 3] r6216)), ((.s 1 0), .fam (famD dPipe 0 r6216)), ((.s 2 0), .fam (famD dPipe 1 r6216)), ((.s 3 0), .fam (famD dPipe 2 r6216)), (4, .row 49 (fl r6217))] 5 (by kernel_rfl) [] [0, (.s 1 0), (.s 2 0), (.s 3 0), 4] (.tup [.own 5 0 r6218.2.length, .agg (Enc.cells r6218.1)]) [(5, .row 3 (fl r6218.2))] (by simp only [↓leS_frzD dPipe [1, 2, 3] r6216, leS_frz, leL_flD, renL_flD, push_cast, seval]) (by simp only [↓leS_frzD dPipe [1, 2, 3] r6216, leS_frz, leL_flD, renL_flD, push_cast, seval]) (by kernel_rfl) (.inr ⟨by simp only [push_cast, leL_flD, renL_flD, seval], by simp only [push_cast, leL_flD, renL_flD, seval]⟩) (by simp only [push_cast, leL_flD, renL_flD, seval]) (by simp only [push_cast, leL_flD, renL_flD, seval]) ?_
    refine rn 6 [(0, .sl l.length (fl l)), (1, iS task), (2, .sl cases.length (fl cases)), (39, .tup [.own 5 0 r6218.2.length, .agg (Enc.cells r6218.1)])] [(0, .row 57 (flD dPipe [1, 2, 3] r6216)), ((.s 1 0), .fam (famD dPipe 0 r6216)), ((.s 2 0), .fam (famD dPipe 1 r6216)), ((.s 3 0), .fam (famD dPipe 2 r6216)), (4, .row 49 (fl r6217)), (5, .row 3 (fl r6218.2))] 6 (by kernel_rfl) ?_
    refine rs 6 [] [] (by kernel_rfl) allP_nil ?_
    refine rf [(0, .sl l.length (fl l)), (1, iS task), (2, .sl cases.length (fl cases)), (7, .own 5 0 r6218.2.length), (8, .ptr 6 0)] [(0, .row 57 (flD dPipe [1, 2, 3] r6216)), ((.s 1 0), .fam (famD dPipe 0 r6216)), ((.s 2 0), .fam (famD dPipe 1 r6216)), ((.s 3 0), .fam (famD dPipe 2 r6216)), (4, .row 49 (fl r6217)), (5, .row 3 (fl r6218.2)), (6, .row 29 (Enc.cells r6218.1))] 7 (by kernel_rfl) ?_
    refine wk_id ?_
    refine seq_np ?_
    refine reg_f ?_
    refine rs 1 [] [] (by kernel_rfl) allP_nil ?_
    refine rf [(0, .sl l.length (fl l)), (1, iS task), (2, .sl cases.length (fl cases)), (7, .own 5 0 r6218.2.length), (8, .ptr 6 0), (9, .v (.slice none 0 0))] [(0, .row 57 (flD dPipe [1, 2, 3] r6216)), ((.s 1 0), .fam (famD dPipe 0 r6216)), ((.s 2 0), .fam (famD dPipe 1 r6216)), ((.s 3 0), .fam (famD dPipe 2 r6216)), (4, .row 49 (fl r6217)), (5, .row 3 (fl r6218.2)), (6, .row 29 (Enc.cells r6218.1))] 7 (by kernel_rfl) ?_
    refine wk_id ?_
    refine seq_np ?_
    refine seq_np ?_
    refine reg_f ?_
    refine rs 1 [] [] (by kernel_rfl) allP_nil ?_
    refine rf [(0, .sl l.length (fl l)), (1, iS task), (2, .sl cases.length (fl cases)), (7, .own 5 0 r6218.2.length), (8, .ptr 6 0), (9, .v (.slice none 0 0)), (10, iS 0)] [(0, .row 57 (flD dPipe [1, 2, 3] r6216)), ((.s 1 0), .fam (famD dPipe 0 r6216)), ((.s 2 0), .fam (famD dPipe 1 r6216)), ((.s 3 0), .fam (famD dPipe 2 r6216)), (4, .row 49 (fl r6217)), (5, .row 3 (fl r6218.2)), (6, .row 29 (Enc.cells r6218.1))] 7 (by kernel_rfl) ?_
    refine wk_id ?_
    refine block_np ?_
    refine loop_sx (S := Int × (List Int) × Fault × (List Int)) (fun a => ([(0, .sl l.length (fl l)), (1, iS task), (2, .sl cases.length (fl cases)), (7, .own 0 0 a.2.1.length), (8, .ptr 1 0), (9, .own 2 0 a.2.2.2.length), (10, iS a.1)], [(0, .row 3 (fl a.2.1)), (1, .row 29 (Enc.cells a.2.2.1)), (2, .row 3 (fl a.2.2.2))], 3)) h (leSt_m [(0, 5), (1, 6)] [] (by simp only [push_cast, leL_flD, renL_flD, seval]) (by simp only [push_cast, leL_flD, renL_flD, seval]) rfl rfl rfl) ?_
    rintro ⟨k15, c0q11, c1q11, c2q7⟩ o5 R5 h hr5 hn5 hx5 ht5
    try dsimp only at h hn5 ⊢
    unfold taskmilllaw_PickReady_l4 at h
    try dsimp only at h
    refine seq_np ?_
    refine seq_np ?_
    refine reg_f ?_
    refine rs 4 [] [] (by kernel_rfl) allP_nil ?_
    refine rf [(0, .sl l.length (fl l)), (1, iS task), (2, .sl cases.length (fl cases)), (7, .own 0 0 c0q11.length), (8, .ptr 1 0), (9, .own 2 0 c2q7.length), (10, iS k15), (45, bS (decide (k15 < ((cases.length : Nat) : Int))))] [(0, .row 3 (fl c0q11)), (1, .row 29 (Enc.cells c1q11)), (2, .row 3 (fl c2q7))] 3 (by kernel_rfl) ?_
    refine wk_id ?_
    refine cond_sx h (by kernel_rfl) (fun g6826 h => ?_) (fun g6826 h => ?_)
    ·refine wk_id ?_
     refine seq_np ?_
     refine block_np ?_
     refine chk_sx h (fun g6254 h => ?_)
     refine reg_f ?_
     have k6253 : (c2q7 ++ ([k15] : List Int)).length * 8 ≤ 140737488355328 := by first | simpa only [Bool.and_eq_true, decide_eq_true_eq, bne_iff_ne, ne_eq] using g6254 | (simp at g6254 ⊢; omega)
     refine rs 5 [none, none, none, some ⟨.own 4 0 (c2q7 ++ ([k15] : List Int)).length, [(4, .row 3 (fl (c2q7 ++ ([k15] : List Int)))), (2, .dead)], 5, [2, 3]⟩] _ (by kernel_rfl) (allP_cons (ob_app (P := Try.prog) c2q7 ([k15] : List Int) 1 8 rfl (appCells (fl ([k15] : List Int)) 0 (([k15] : List Int).length * 1)) ([k15] : List Int).length (app_own ([k15] : List Int) 1 rfl) rfl (0 + ([k15] : List Int).length * 1 ≤ (fl ([k15] : List Int)).length) (app_own_le ([k15] : List Int) 1 rfl) 3 (by kernel_rfl) (by decide) k6253 2 4 [3]) allP_nil) ?_
     refine rf [(0, .sl l.length (fl l)), (1, iS task), (2, .sl cases.length (fl cases)), (7, .own 0 0 c0q11.length), (8, .ptr 1 0), (9, .own 4 0 (c2q7 ++ ([k15] : List Int)).length), (10, iS k15)] [(0, .row 3 (fl c0q11)), (1, .row 29 (Enc.cells c1q11)), (2, .dead), (3, .row 3 (fl ([k15] : List Int))), (4, .row 3 (fl (c2q7 ++ ([k15] : List Int))))] 5 (by kernel_rfl) ?_
     refine wk_id ?_
     refine wk_id ?_
     refine reg_f ?_
     refine rs 3 [] [] (by kernel_rfl) allP_nil ?_
     refine rf [(0, .sl l.length (fl l)), (1, iS task), (2, .sl cases.length (fl cases)), (7, .own 0 0 c0q11.length), (8, .ptr 1 0), (9, .own 4 0 (c2q7 ++ ([k15] : List Int)).length), (10, iS (IntKind.i64.wrap (k15 + 1)))] [(0, .row 3 (fl c0q11)), (1, .row 29 (Enc.cells c1q11)), (2, .dead), (3, .row 3 (fl ([k15] : List Int))), (4, .row 3 (fl (c2q7 ++ ([k15] : List Int))))] 5 (by kernel_rfl) ?_
     exact hn5 ((IntKind.i64.wrap (k15 + 1)), c0q11, c1q11, (c2q7 ++ ([k15] : List Int))) _ _ _ (Option.some.inj h).symm (leSt_m [(0, 0), (1, 1), (2, 4)] [] (by simp only [push_cast, leL_flD, renL_flD, seval]) (by simp only [push_cast, leL_flD, renL_flD, seval]) rfl rfl rfl)
    ·change R5 (.exit 0) _ _ _
     refine ex_cast hx5 (id := 0) ?_
     obtain ⟨r0, h, e0⟩ := map_sx h
     have e1 := hr5 r0 e0.symm
     subst r0
     refine wk_id ?_
     refine wk_id ?_
     refine seq_np ?_
     refine reg_f ?_
     refine rs 4 [] [] (by kernel_rfl) allP_nil ?_
     obtain ⟨r6256, hr6256, h⟩ := bind_sx h
     refine call_x (taskmillref_CasesFault_spec l task cases c2q7 r6256 hr6256) (args := [.sl l.length (fl l), iS task, .sl cases.length (fl cases), .own 2 0 c2q7.length]) (dst := (some 56)) (by kernel_rfl) [(0, .row 3 (fl c0q11)), (1, .row 29 (Enc.cells c1q11)), (2, .row 3 (fl c2q7))] 3 (by kernel_rfl) [] [2] (.agg (Enc.cells r6256)) [] (by simp only [push_cast, leL_flD, renL_flD, seval]) (by simp only [push_cast, leL_flD, renL_flD, seval]) (by kernel_rfl) (.inr ⟨by simp only [push_cast, leL_flD, renL_flD, seval], by simp only [push_cast, leL_flD, renL_flD, seval]⟩) (by simp only [push_cast, leL_flD, renL_flD, seval]) (by simp only [push_cast, leL_flD, renL_flD, seval]) ?_
     refine rs 2 [] [] (by kernel_rfl) allP_nil ?_
     refine rf [(0, .sl l.length (fl l)), (1, iS task), (2, .sl cases.length (fl cases)), (7, .own 0 0 c0q11.length), (8, .ptr 1 0), (9, .own 2 0 c2q7.length), (11, .ptr 3 0)] [(0, .row 3 (fl c0q11)), (1, .row 29 (Enc.cells c1q11)), (2, .row 3 (fl c2q7)), (3, .row 29 (Enc.cells r6256))] 4 (by kernel_rfl) ?_
     refine wk_id ?_
     refine seq_np ?_
     refine seq_np ?_
     refine reg_f ?_
     refine rs 3 [] [] (by kernel_rfl) allP_nil ?_
     refine rf [(0, .sl l.length (fl l)), (1, iS task), (2, .sl cases.length (fl cases)), (7, .own 0 0 c0q11.length), (8, .ptr 1 0), (9, .own 2 0 c2q7.length), (11, .ptr 3 0), (59, bS (!((c1q11.Code == r6256.Code) && ((c1q11.At == r6256.At) && true))))] [(0, .row 3 (fl c0q11)), (1, .row 29 (Enc.cells c1q11)), (2, .row 3 (fl c2q7)), (3, .row 29 (Enc.cells r6256))] 4 (by kernel_rfl) ?_
     refine wk_id ?_
     refine cond_sx h (by kernel_rfl) (fun g6825 h => ?_) (fun g6825 h => ?_)
     ·refine seq_np ?_
      refine reg_f ?_
      refine rs 1 [] [] (by kernel_rfl) allP_nil ?_
      refine rf [(6, bS false)] [(0, .row 3 (fl c0q11)), (1, .row 29 (Enc.cells c1q11)), (2, .row 3 (fl c2q7)), (3, .row 29 (Enc.cells r6256))] 4 (by kernel_rfl) ?_
      refine wk_id ?_
      obtain rfl := Option.some.inj h
      refine ret_at (bS false) (by kernel_rfl) ?_
      exact ret_e [] [] (by simp only [push_cast, leL_flD, renL_flD, seval]) (by simp only [push_cast, leL_flD, renL_flD, seval]) rfl rfl rfl
     ·refine wk_id ?_
      refine seq_np ?_
      refine seq_np ?_
      refine reg_f ?_
      refine rs 3 [] [] (by kernel_rfl) allP_nil ?_
      refine rf [(0, .sl l.length (fl l)), (1, iS task), (2, .sl cases.length (fl cases)), (7, .own 0 0 c0q11.length), (8, .ptr 1 0), (9, .own 2 0 c2q7.length), (62, bS (r6256.Code != 0))] [(0, .row 3 (fl c0q11)), (1, .row 29 (Enc.cells c1q11)), (2, .row 3 (fl c2q7)), (3, .row 29 (Enc.cells r6256))] 4 (by kernel_rfl) ?_
      refine wk_id ?_
      refine cond_sx h (by kernel_rfl) (fun g6824 h => ?_) (fun g6824 h => ?_)
      ·refine seq_np ?_
       refine reg_f ?_
       refine rs 4 [] [] (by kernel_rfl) allP_nil ?_
       refine rf [(6, bS (((c0q11.length : Nat) : Int) == 0))] [(0, .row 3 (fl c0q11)), (1, .row 29 (Enc.cells c1q11)), (2, .row 3 (fl c2q7)), (3, .row 29 (Enc.cells r6256))] 4 (by kernel_rfl) ?_
       refine wk_id ?_
       obtain rfl := Option.some.inj h
       refine ret_at (bS (((c0q11.length : Nat) : Int) == 0)) (by kernel_rfl) ?_
       exact ret_e [] [] (by simp only [push_cast, leL_flD, renL_flD, seval]) (by simp only [push_cast, leL_flD, renL_flD, seval]) rfl rfl rfl
      ·refine wk_id ?_
       refine seq_np ?_
       refine reg_f ?_
       refine rs 1 [] [] (by kernel_rfl) allP_nil ?_
       refine rf [(0, .sl l.length (fl l)), (1, iS task), (2, .sl cases.length (fl cases)), (7, .own 0 0 c0q11.length), (8, .ptr 1 0), (9, .own 2 0 c2q7.length), (12, .v (.slice none 0 0))] [(0, .row 3 (fl c0q11)), (1, .row 29 (Enc.cells c1q11)), (2, .row 3 (fl c2q7)), (3, .row 29 (Enc.cells r6256))] 4 (by kernel_rfl) ?_
       refine wk_id ?_
       refine seq_np ?_
       refine seq_np ?_
       refine reg_f ?_
       refine rs 1 [] [] (by kernel_rfl) allP_nil ?_
       refine rf [(0, .sl l.length (fl l)), (1, iS task), (2, .sl cases.length (fl cases)), (7, .own 0 0 c0q11.length), (8, .ptr 1 0), (9, .own 2 0 c2q7.length), (12, .v (.slice none 0 0)), (13, iS 0)] [(0, .row 3 (fl c0q11)), (1, .row 29 (Enc.cells c1q11)), (2, .row 3 (fl c2q7)), (3, .row 29 (Enc.cells r6256))] 4 (by kernel_rfl) ?_
       refine wk_id ?_
       refine block_np ?_
       refine loop_sx (S := Int × (List Int)) (fun a => ([(0, .sl l.length (fl l)), (1, iS task), (2, .sl cases.length (fl cases)), (7, .own 0 0 c0q11.length), (8, .ptr 1 0), (9, .own 2 0 c2q7.length), (12, .own 3 0 a.2.length), (13, iS a.1)], [(0, .row 3 (fl c0q11)), (1, .row 29 (Enc.cells c1q11)), (2, .row 3 (fl c2q7)), (3, .row 3 (fl a.2))], 4)) h (leSt_m [(0, 0), (1, 1), (2, 2)] [] (by simp only [push_cast, leL_flD, renL_flD, seval]) (by simp only [push_cast, leL_flD, renL_flD, seval]) rfl rfl rfl) ?_
       rintro ⟨k21, c3q33⟩ o6 R6 h hr6 hn6 hx6 ht6
       try dsimp only at h hn6 ⊢
       unfold taskmilllaw_PickReady_l3 at h
       try dsimp only at h
       refine seq_np ?_
       refine seq_np ?_
       refine reg_f ?_
       refine rs 4 [] [] (by kernel_rfl) allP_nil ?_
       refine rf [(0, .sl l.length (fl l)), (1, iS task), (2, .sl cases.length (fl cases)), (7, .own 0 0 c0q11.length), (8, .ptr 1 0), (9, .own 2 0 c2q7.length), (12, .own 3 0 c3q33.length), (13, iS k21), (69, bS (decide (k21 < ((cases.length : Nat) : Int))))] [(0, .row 3 (fl c0q11)), (1, .row 29 (Enc.cells c1q11)), (2, .row 3 (fl c2q7)), (3, .row 3 (fl c3q33))] 4 (by kernel_rfl) ?_
       refine wk_id ?_
       refine cond_sx h (by kernel_rfl) (fun g6823 h => ?_) (fun g6823 h => ?_)
       ·refine wk_id ?_
        refine seq_np ?_
        refine block_cut (A := (List Int)) (fun a => ([(0, .sl l.length (fl l)), (1, iS task), (2, .sl cases.length (fl cases)), (7, .own 0 0 c0q11.length), (8, .ptr 1 0), (9, .own 2 0 c2q7.length), (12, .own 3 0 a.length), (13, iS k21)], [(0, .row 3 (fl c0q11)), (1, .row 29 (Enc.cells c1q11)), (2, .row 3 (fl c2q7)), (3, .row 3 (fl a))], 4)) (fun a => (taskmilllaw_PickReady_j1 l task cases c0q11 c1q11 c2q7 k21 a) = some o6) (fun K6350 hK6350 => ?_) ?_
        ·refine chk_sx h (fun g6355 h => ?_)
         refine seq_np ?_
         refine reg_f ?_
         have k6354 : 0 ≤ k21 ∧ k21 < ((cases.length : Nat) : Int) := by first | simpa only [Bool.and_eq_true, decide_eq_true_eq, bne_iff_ne, ne_eq] using g6355 | (simp at g6355 ⊢; omega)
         refine rs 7 [none, none, none, none, none, some ⟨.iptr (fl cases) ((k21).toNat * 3), [], 4, []⟩, some ⟨.agg (Enc.cells (ix cases k21)), [], 4, []⟩] _ (by kernel_rfl) (allP_cons (ob_ldw cases k21 3 ((k21).toNat * 3) k6354 rfl (by first | rfl | omega) [iS (ix cases k21).Pipe, bS (ix cases k21).Send, iS (ix cases k21).Value] rfl 4 []) (allP_cons (ob_ix_l cases 3 4 k21 k6354) allP_nil)) ?_
         obtain ⟨r6356, hr6356, h⟩ := bind_sx h
         refine run_call 23 [.sl l.length (fl l), iS task, iS k21, .agg (Enc.cells (ix cases k21))] (some 80) (by kernel_rfl) ?_
         refine call_0 (taskmillref_Chosen_spec l task k21 (ix cases k21) r6356 hr6356) (by simp only [push_cast, leL_flD, renL_flD, seval]) (by simp only [push_cast, leL_flD, renL_flD, seval]) ?_
         refine back_f ?_
         refine rs 6 [] [] (by kernel_rfl) allP_nil ?_
         refine rf [(0, .sl l.length (fl l)), (1, iS task), (2, .sl cases.length (fl cases)), (7, .own 0 0 c0q11.length), (8, .ptr 1 0), (9, .own 2 0 c2q7.length), (12, .own 3 0 c3q33.length), (13, iS k21), (15, .ptr 4 0)] [(0, .row 3 (fl c0q11)), (1, .row 29 (Enc.cells c1q11)), (2, .row 3 (fl c2q7)), (3, .row 3 (fl c3q33)), (4, .row 33 [bS r6356.2.1, bS r6356.2.2.1, bS r6356.2.2.2.1, iS r6356.2.2.2.2.1, iS r6356.2.2.2.2.2.1, .sl r6356.2.2.2.2.2.2.length (fl r6356.2.2.2.2.2.2)])] 5 (by kernel_rfl) ?_
         refine wk_id ?_
         refine seq_np ?_
         refine reg_f ?_
         refine rs 2 [] [] (by kernel_rfl) allP_nil ?_
         refine rf [(0, .sl l.length (fl l)), (1, iS task), (2, .sl cases.length (fl cases)), (7, .own 0 0 c0q11.length), (8, .ptr 1 0), (9, .own 2 0 c2q7.length), (12, .own 3 0 c3q33.length), (13, iS k21), (84, bS r6356.2.1)] [(0, .row 3 (fl c0q11)), (1, .row 29 (Enc.cells c1q11)), (2, .row 3 (fl c2q7)), (3, .row 3 (fl c3q33)), (4, .row 33 [bS r6356.2.1, bS r6356.2.2.1, bS r6356.2.2.2.1, iS r6356.2.2.2.2.1, iS r6356.2.2.2.2.2.1, .sl r6356.2.2.2.2.2.2.length (fl r6356.2.2.2.2.2.2)])] 5 (by kernel_rfl) ?_
         refine wk_id ?_
         refine cond_sx h (by kernel_rfl) (fun g6361 h => ?_) (fun g6361 h => ?_)
         ·refine chk_sx h (fun g6360 h => ?_)
          refine reg_f ?_
          have k6359 : (c3q33 ++ ([k21] : List Int)).length * 8 ≤ 140737488355328 := by first | simpa only [Bool.and_eq_true, decide_eq_true_eq, bne_iff_ne, ne_eq] using g6360 | (simp at g6360 ⊢; omega)
          refine rs 5 [none, none, none, some ⟨.own 6 0 (c3q33 ++ ([k21] : List Int)).length, [(6, .row 3 (fl (c3q33 ++ ([k21] : List Int)))), (3, .dead)], 7, [3, 5]⟩] _ (by kernel_rfl) (allP_cons (ob_app (P := Try.prog) c3q33 ([k21] : List Int) 1 8 rfl (appCells (fl ([k21] : List Int)) 0 (([k21] : List Int).length * 1)) ([k21] : List Int).length (app_own ([k21] : List Int) 1 rfl) rfl (0 + ([k21] : List Int).length * 1 ≤ (fl ([k21] : List Int)).length) (app_own_le ([k21] : List Int) 1 rfl) 3 (by kernel_rfl) (by decide) k6359 3 6 [5]) allP_nil) ?_
          refine rf [(0, .sl l.length (fl l)), (1, iS task), (2, .sl cases.length (fl cases)), (7, .own 0 0 c0q11.length), (8, .ptr 1 0), (9, .own 2 0 c2q7.length), (12, .own 6 0 (c3q33 ++ ([k21] : List Int)).length), (13, iS k21)] [(0, .row 3 (fl c0q11)), (1, .row 29 (Enc.cells c1q11)), (2, .row 3 (fl c2q7)), (3, .dead), (4, .row 33 [bS r6356.2.1, bS r6356.2.2.1, bS r6356.2.2.2.1, iS r6356.2.2.2.2.1, iS r6356.2.2.2.2.2.1, .sl r6356.2.2.2.2.2.2.length (fl r6356.2.2.2.2.2.2)]), (5, .row 3 (fl ([k21] : List Int))), (6, .row 3 (fl (c3q33 ++ ([k21] : List Int))))] 7 (by kernel_rfl) ?_
          exact hK6350 ((c3q33 ++ ([k21] : List Int))) _ _ _ h (leSt_m [(0, 0), (1, 1), (2, 2), (3, 6)] [] (by simp only [push_cast, leL_flD, renL_flD, seval]) (by simp only [push_cast, leL_flD, renL_flD, seval]) rfl rfl rfl)
         ·exact hK6350 (c3q33) _ _ _ h (leSt_m [(0, 0), (1, 1), (2, 2), (3, 3)] [] (by simp only [push_cast, leL_flD, renL_flD, seval]) (by simp only [push_cast, leL_flD, renL_flD, seval]) rfl rfl rfl)
        ·rintro c3q35 h
         try dsimp only at h ⊢
         unfold taskmilllaw_PickReady_j1 at h
         refine wk_id ?_
         refine reg_f ?_
         refine rs 3 [] [] (by kernel_rfl) allP_nil ?_
         refine rf [(0, .sl l.length (fl l)), (1, iS task), (2, .sl cases.length (fl cases)), (7, .own 0 0 c0q11.length), (8, .ptr 1 0), (9, .own 2 0 c2q7.length), (12, .own 3 0 c3q35.length), (13, iS (IntKind.i64.wrap (k21 + 1)))] [(0, .row 3 (fl c0q11)), (1, .row 29 (Enc.cells c1q11)), (2, .row 3 (fl c2q7)), (3, .row 3 (fl c3q35))] 4 (by kernel_rfl) ?_
         exact hn6 ((IntKind.i64.wrap (k21 + 1)), c3q35) _ _ _ (Option.some.inj h).symm (leSt_m [(0, 0), (1, 1), (2, 2), (3, 3)] [] (by simp only [push_cast, leL_flD, renL_flD, seval]) (by simp only [push_cast, leL_flD, renL_flD, seval]) rfl rfl rfl)
       ·change R6 (.exit 2) _ _ _
        refine ex_cast hx6 (id := 2) ?_
        obtain ⟨r0, h, e0⟩ := map_sx h
        have e1 := hr6 r0 e0.symm
        subst r0
        refine wk_id ?_
        refine wk_id ?_
        refine seq_np ?_
        refine seq_np ?_
        refine reg_f ?_
        refine rs 2 [] [] (by kernel_rfl) allP_nil ?_
        obtain ⟨r6365, hr6365, h⟩ := bind_sx h
        refine call_x (taskmillref_Ints_spec c0q11 c3q33 r6365 hr6365) (args := [.own 0 0 c0q11.length, .own 3 0 c3q33.length]) (dst := (some 91)) (by kernel_rfl) [(0, .row 3 (fl c0q11)), (1, .row 29 (Enc.cells c1q11)), (2, .row 3 (fl c2q7)), (3, .row 3 (fl c3q33))] 4 (by kernel_rfl) [] [0, 3] (bS r6365) [] (by simp only [push_cast, leL_flD, renL_flD, seval]) (by simp only [push_cast, leL_flD, renL_flD, seval]) (by kernel_rfl) (.inr ⟨by simp only [push_cast, leL_flD, renL_flD, seval], by simp only [push_cast, leL_flD, renL_flD, seval]⟩) (by simp only [push_cast, leL_flD, renL_flD, seval]) (by simp only [push_cast, leL_flD, renL_flD, seval]) ?_
        refine rs 1 [] [] (by kernel_rfl) allP_nil ?_
        refine rf [(0, .sl l.length (fl l)), (1, iS task), (2, .sl cases.length (fl cases)), (7, .own 0 0 c0q11.length), (8, .ptr 1 0), (9, .own 2 0 c2q7.length), (92, bS (!r6365))] [(0, .row 3 (fl c0q11)), (1, .row 29 (Enc.cells c1q11)), (2, .row 3 (fl c2q7)), (3, .row 3 (fl c3q33))] 4 (by kernel_rfl) ?_
        refine wk_id ?_
        refine cond_sx h (by kernel_rfl) (fun g6822 h => ?_) (fun g6822 h => ?_)
        ·refine seq_np ?_
         refine reg_f ?_
         refine rs 1 [] [] (by kernel_rfl) allP_nil ?_
         refine rf [(6, bS false)] [(0, .row 3 (fl c0q11)), (1, .row 29 (Enc.cells c1q11)), (2, .row 3 (fl c2q7)), (3, .row 3 (fl c3q33))] 4 (by kernel_rfl) ?_
         refine wk_id ?_
         obtain rfl := Option.some.inj h
         refine ret_at (bS false) (by kernel_rfl) ?_
         exact ret_e [] [] (by simp only [push_cast, leL_flD, renL_flD, seval]) (by simp only [push_cast, leL_flD, renL_flD, seval]) rfl rfl rfl
        ·refine wk_id ?_
         refine seq_np ?_
         refine seq_np ?_
         refine reg_f ?_
         refine rs 1 [] [] (by kernel_rfl) allP_nil ?_
         refine rf [(0, .sl l.length (fl l)), (1, iS task), (2, .sl cases.length (fl cases)), (7, .own 0 0 c0q11.length), (8, .ptr 1 0), (9, .own 2 0 c2q7.length), (16, iS 0)] [(0, .row 3 (fl c0q11)), (1, .row 29 (Enc.cells c1q11)), (2, .row 3 (fl c2q7)), (3, .row 3 (fl c3q33))] 4 (by kernel_rfl) ?_
         refine wk_id ?_
         refine block_np ?_
         refine loop_sx (S := Int) (fun a => ([(0, .sl l.length (fl l)), (1, iS task), (2, .sl cases.length (fl cases)), (7, .own 0 0 c0q11.length), (8, .ptr 1 0), (9, .own 2 0 c2q7.length), (16, iS a)], [(0, .row 3 (fl c0q11)), (1, .row 29 (Enc.cells c1q11)), (2, .row 3 (fl c2q7))], 3)) h (leSt_m [(0, 0), (1, 1), (2, 2)] [] (by simp only [push_cast, leL_flD, renL_flD, seval]) (by simp only [push_cast, leL_flD, renL_flD, seval]) rfl rfl rfl) ?_
         rintro i7 o7 R7 h hr7 hn7 hx7 ht7
         try dsimp only at h hn7 ⊢
         unfold taskmilllaw_PickReady_l2 at h
         try dsimp only at h
         refine seq_np ?_
         refine seq_np ?_
         refine reg_f ?_
         refine rs 4 [] [] (by kernel_rfl) allP_nil ?_
         refine rf [(0, .sl l.length (fl l)), (1, iS task), (2, .sl cases.length (fl cases)), (7, .own 0 0 c0q11.length), (8, .ptr 1 0), (9, .own 2 0 c2q7.length), (16, iS i7), (96, bS (decide (i7 < ((c0q11.length : Nat) : Int))))] [(0, .row 3 (fl c0q11)), (1, .row 29 (Enc.cells c1q11)), (2, .row 3 (fl c2q7))] 3 (by kernel_rfl) ?_
         refine wk_id ?_
         refine cond_sx h (by kernel_rfl) (fun g6821 h => ?_) (fun g6821 h => ?_)
         ·refine wk_id ?_
          refine seq_np ?_
          refine block_np ?_
          refine chk_sx h (fun g6711 h => ?_)
          refine seq_np ?_
          refine reg_f ?_
          have k6710 : 0 ≤ i7 ∧ i7 < ((c0q11.length : Nat) : Int) := by first | simpa only [Bool.and_eq_true, decide_eq_true_eq, bne_iff_ne, ne_eq] using g6711 | (simp at g6711 ⊢; omega)
          refine rs 6 [none, none, some ⟨.ptr 0 (0 + (i7).toNat * 1), [], 3, [0]⟩, some ⟨iS (ix c0q11 i7), [], 3, [0]⟩] _ (by kernel_rfl) (allP_cons (ob_ld c0q11 i7 1 0 (0 + (i7).toNat * 1) k6710 rfl (by decide) (by first | rfl | omega) (dflS Try.prog 3) (iS (ix c0q11 i7)) rfl 3 [0]) (allP_cons (ob_ix_o 0 c0q11.length 0 1 3 i7 k6710) allP_nil)) ?_
          refine rf [(0, .sl l.length (fl l)), (1, iS task), (2, .sl cases.length (fl cases)), (7, .own 0 0 c0q11.length), (8, .ptr 1 0), (9, .own 2 0 c2q7.length), (16, iS i7), (17, .own 3 0 ([(ix c0q11 i7)] : List Int).length)] [(0, .row 3 (fl c0q11)), (1, .row 29 (Enc.cells c1q11)), (2, .row 3 (fl c2q7)), (3, .row 3 (fl ([(ix c0q11 i7)] : List Int)))] 4 (by kernel_rfl) ?_
          refine wk_id ?_
          refine seq_np ?_
          refine seq_np ?_
          refine reg_f ?_
          refine rs 1 [] [] (by kernel_rfl) allP_nil ?_
          refine rf [(0, .sl l.length (fl l)), (1, iS task), (2, .sl cases.length (fl cases)), (7, .own 0 0 c0q11.length), (8, .ptr 1 0), (9, .own 2 0 c2q7.length), (16, iS i7), (17, .own 3 0 ([(ix c0q11 i7)] : List Int).length), (18, iS 0)] [(0, .row 3 (fl c0q11)), (1, .row 29 (Enc.cells c1q11)), (2, .row 3 (fl c2q7)), (3, .row 3 (fl ([(ix c0q11 i7)] : List Int)))] 4 (by kernel_rfl) ?_
          refine wk_id ?_
          refine block_np ?_
          refine loop_sx (S := Int × (List Int)) (fun a => ([(0, .sl l.length (fl l)), (1, iS task), (2, .sl cases.length (fl cases)), (7, .own 0 0 c0q11.length), (8, .ptr 1 0), (9, .own 2 0 c2q7.length), (16, iS i7), (17, .own 3 0 a.2.length), (18, iS a.1)], [(0, .row 3 (fl c0q11)), (1, .row 29 (Enc.cells c1q11)), (2, .row 3 (fl c2q7)), (3, .row 3 (fl a.2))], 4)) h (leSt_m [(0, 0), (1, 1), (2, 2), (3, 3)] [] (by simp only [push_cast, leL_flD, renL_flD, seval]) (by simp only [push_cast, leL_flD, renL_flD, seval]) rfl rfl rfl) ?_
          rintro ⟨k47, c3q99⟩ o8 R8 h hr8 hn8 hx8 ht8
          try dsimp only at h hn8 ⊢
          unfold taskmilllaw_PickReady_l1 at h
          try dsimp only at h
          refine seq_np ?_
          refine seq_np ?_
          refine reg_f ?_
          refine rs 4 [] [] (by kernel_rfl) allP_nil ?_
          refine rf [(0, .sl l.length (fl l)), (1, iS task), (2, .sl cases.length (fl cases)), (7, .own 0 0 c0q11.length), (8, .ptr 1 0), (9, .own 2 0 c2q7.length), (16, iS i7), (17, .own 3 0 c3q99.length), (18, iS k47), (107, bS (decide (k47 < ((cases.length : Nat) : Int))))] [(0, .row 3 (fl c0q11)), (1, .row 29 (Enc.cells c1q11)), (2, .row 3 (fl c2q7)), (3, .row 3 (fl c3q99))] 4 (by kernel_rfl) ?_
          refine wk_id ?_
          refine cond_sx h (by kernel_rfl) (fun g6815 h => ?_) (fun g6815 h => ?_)
          ·refine wk_id ?_
           refine seq_np ?_
           refine block_cut (A := (List Int)) (fun a => ([(0, .sl l.length (fl l)), (1, iS task), (2, .sl cases.length (fl cases)), (7, .own 0 0 c0q11.length), (8, .ptr 1 0), (9, .own 2 0 c2q7.length), (16, iS i7), (17, .own 3 0 a.length), (18, iS k47)], [(0, .row 3 (fl c0q11)), (1, .row 29 (Enc.cells c1q11)), (2, .row 3 (fl c2q7)), (3, .row 3 (fl a))], 4)) (fun a => (taskmilllaw_PickReady_j2 l task cases c0q11 c1q11 c2q7 i7 k47 a) = some o8) (fun K6793 hK6793 => ?_) ?_
           ·refine chk_sx h (fun g6797 h => ?_)
            refine seq_np ?_
            refine reg_f ?_
            have k6796 : 0 ≤ i7 ∧ i7 < ((c0q11.length : Nat) : Int) := by first | simpa only [Bool.and_eq_true, decide_eq_true_eq, bne_iff_ne, ne_eq] using g6797 | (simp at g6797 ⊢; omega)
            refine rs 6 [none, none, none, some ⟨.ptr 0 (0 + (i7).toNat * 1), [], 4, [0]⟩, some ⟨iS (ix c0q11 i7), [], 4, [0]⟩] _ (by kernel_rfl) (allP_cons (ob_ld c0q11 i7 1 0 (0 + (i7).toNat * 1) k6796 rfl (by decide) (by first | rfl | omega) (dflS Try.prog 3) (iS (ix c0q11 i7)) rfl 4 [0]) (allP_cons (ob_ix_o 0 c0q11.length 0 1 4 i7 k6796) allP_nil)) ?_
            refine rf [(0, .sl l.length (fl l)), (1, iS task), (2, .sl cases.length (fl cases)), (7, .own 0 0 c0q11.length), (8, .ptr 1 0), (9, .own 2 0 c2q7.length), (16, iS i7), (17, .own 3 0 c3q99.length), (18, iS k47), (115, bS (k47 != (ix c0q11 i7)))] [(0, .row 3 (fl c0q11)), (1, .row 29 (Enc.cells c1q11)), (2, .row 3 (fl c2q7)), (3, .row 3 (fl c3q99))] 4 (by kernel_rfl) ?_
            refine wk_id ?_
            refine cond_sx h (by kernel_rfl) (fun g6802 h => ?_) (fun g6802 h => ?_)
            ·refine chk_sx h (fun g6801 h => ?_)
             refine reg_f ?_
             have k6800 : (c3q99 ++ ([k47] : List Int)).length * 8 ≤ 140737488355328 := by first | simpa only [Bool.and_eq_true, decide_eq_true_eq, bne_iff_ne, ne_eq] using g6801 | (simp at g6801 ⊢; omega)
             refine rs 5 [none, none, none, some ⟨.own 5 0 (c3q99 ++ ([k47] : List Int)).length, [(5, .row 3 (fl (c3q99 ++ ([k47] : List Int)))), (3, .dead)], 6, [3, 4]⟩] _ (by kernel_rfl) (allP_cons (ob_app (P := Try.prog) c3q99 ([k47] : List Int) 1 8 rfl (appCells (fl ([k47] : List Int)) 0 (([k47] : List Int).length * 1)) ([k47] : List Int).length (app_own ([k47] : List Int) 1 rfl) rfl (0 + ([k47] : List Int).length * 1 ≤ (fl ([k47] : List Int)).length) (app_own_le ([k47] : List Int) 1 rfl) 3 (by kernel_rfl) (by decide) k6800 3 5 [4]) allP_nil) ?_
             refine rf [(0, .sl l.length (fl l)), (1, iS task), (2, .sl cases.length (fl cases)), (7, .own 0 0 c0q11.length), (8, .ptr 1 0), (9, .own 2 0 c2q7.length), (16, iS i7), (17, .own 5 0 (c3q99 ++ ([k47] : List Int)).length), (18, iS k47)] [(0, .row 3 (fl c0q11)), (1, .row 29 (Enc.cells c1q11)), (2, .row 3 (fl c2q7)), (3, .dead), (4, .row 3 (fl ([k47] : List Int))), (5, .row 3 (fl (c3q99 ++ ([k47] : List Int))))] 6 (by kernel_rfl) ?_
             exact hK6793 ((c3q99 ++ ([k47] : List Int))) _ _ _ h (leSt_m [(0, 0), (1, 1), (2, 2), (3, 5)] [] (by simp only [push_cast, leL_flD, renL_flD, seval]) (by simp only [push_cast, leL_flD, renL_flD, seval]) rfl rfl rfl)
            ·exact hK6793 (c3q99) _ _ _ h (leSt_m [(0, 0), (1, 1), (2, 2), (3, 3)] [] (by simp only [push_cast, leL_flD, renL_flD, seval]) (by simp only [push_cast, leL_flD, renL_flD, seval]) rfl rfl rfl)
           ·rintro c3q101 h
            try dsimp only at h ⊢
            unfold taskmilllaw_PickReady_j2 at h
            refine wk_id ?_
            refine reg_f ?_
            refine rs 3 [] [] (by kernel_rfl) allP_nil ?_
            refine rf [(0, .sl l.length (fl l)), (1, iS task), (2, .sl cases.length (fl cases)), (7, .own 0 0 c0q11.length), (8, .ptr 1 0), (9, .own 2 0 c2q7.length), (16, iS i7), (17, .own 3 0 c3q101.length), (18, iS (IntKind.i64.wrap (k47 + 1)))] [(0, .row 3 (fl c0q11)), (1, .row 29 (Enc.cells c1q11)), (2, .row 3 (fl c2q7)), (3, .row 3 (fl c3q101))] 4 (by kernel_rfl) ?_
            exact hn8 ((IntKind.i64.wrap (k47 + 1)), c3q101) _ _ _ (Option.some.inj h).symm (leSt_m [(0, 0), (1, 1), (2, 2), (3, 3)] [] (by simp only [push_cast, leL_flD, renL_flD, seval]) (by simp only [push_cast, leL_flD, renL_flD, seval]) rfl rfl rfl)
          ·change R8 (.exit 6) _ _ _
           refine ex_cast hx8 (id := 6) ?_
           obtain ⟨r0, h, e0⟩ := map_sx h
           have e1 := hr8 r0 e0.symm
           subst r0
           refine wk_id ?_
           refine wk_id ?_
           refine seq_np ?_
           refine reg_f ?_
           refine rs 4 [] [] (by kernel_rfl) allP_nil ?_
           obtain ⟨r6804, hr6804, h⟩ := bind_sx h
           refine call_x (SpecW.give (pick_Pick_spec l task cases c3q99 false r6804 hr6804) [(0, .row 3 (fl c3q99))] [.sl l.length (fl l), iS task, .sl cases.length (fl cases), .own 0 0 c3q99.length, bS false] [] (.tup [.own 1 0 r6804.2.2.2.2.2.2.1.length, .agg [bS r6804.1, bS r6804.2.1, bS r6804.2.2.1, iS r6804.2.2.2.1, iS r6804.2.2.2.2.1, .own 2 0 r6804.2.2.2.2.2.2.2.length], .agg (Enc.cells r6804.2.2.2.2.2.1)]) [(1, .row 57 (flD dPipe [3, 4, 5] r6804.2.2.2.2.2.2.1)), (2, .row 64 (fl r6804.2.2.2.2.2.2.2)), ((.s 3 0), .fam (famD dPipe 0 r6804.2.2.2.2.2.2.1)), ((.s 4 0), .fam (famD dPipe 1 r6804.2.2.2.2.2.2.1)), ((.s 5 0), .fam (famD dPipe 2 r6804.2.2.2.2.2.2.1))] (by first | simp only [push_cast, leL_flD, renL_flD, seval] | simp only [push_cast, List.mem_singleton, true_and, and_true, leL_flD, renL_flD, seval]) (by simp only [push_cast, leL_flD, renL_flD, seval]) (by simp only [push_cast, leL_flD, renL_flD, seval]) (by simp only [push_cast, leL_flD, renL_flD, seval]) rfl (by first | (simp only [push_cast, leL_flD, renL_flD, seval]; done) | (simp only [push_cast, leL_flD, renL_flD, seval]; kernel_rfl) | kernel_rfl) (by first | (simp only [push_cast, leL_flD, renL_flD, seval]; done) | (simp only [push_cast, leL_flD, renL_flD, seval]; kernel_rfl) | kernel_rfl) rfl) (args := [.sl l.length (fl l), iS task, .sl cases.length (fl cases), .own 3 0 c3q99.length, bS false]) (dst := (some 125)) (by kernel_rfl) [(0, .row 3 (fl c0q11)), (1, .row 29 (Enc.cells c1q11)), (2, .row 3 (fl c2q7)), (3, .row 3 (fl c3q99))] 4 (by kernel_rfl) [(0, 3)] [] (.tup [.own 5 0 r6804.2.2.2.2.2.2.1.length, .agg [bS r6804.1, bS r6804.2.1, bS r6804.2.2.1, iS r6804.2.2.2.1, iS r6804.2.2.2.2.1, .own 6 0 r6804.2.2.2.2.2.2.2.length], .agg (Enc.cells r6804.2.2.2.2.2.1)]) [(5, .row 57 (flD dPipe [7, 8, 9] r6804.2.2.2.2.2.2.1)), (6, .row 64 (fl r6804.2.2.2.2.2.2.2)), ((.s 7 0), .fam (famD dPipe 0 r6804.2.2.2.2.2.2.1)), ((.s 8 0), .fam (famD dPipe 1 r6804.2.2.2.2.2.2.1)), ((.s 9 0), .fam (famD dPipe 2 r6804.2.2.2.2.2.2.1)), (3, .dead)] (by simp only [push_cast, leL_flD, renL_flD, seval]) (by simp only [push_cast, leL_flD, renL_flD, seval]) (by kernel_rfl) (.inl rfl) (by first | (simp only [push_cast, leL_flD, renL_flD, seval]; done) | (simp only [push_cast, leL_flD, renL_flD, seval]; kernel_rfl) | kernel_rfl) (by first | (simp only [push_cast, leL_flD, renL_flD, seval]; done) | (simp only [push_cast, leL_flD, renL_flD, seval]; kernel_rfl) | kernel_rfl) ?_
           refine rs 9 [] [] (by kernel_rfl) allP_nil ?_
           refine rf [(0, .sl l.length (fl l)), (1, iS task), (2, .sl cases.length (fl cases)), (7, .own 0 0 c0q11.length), (8, .ptr 1 0), (9, .own 2 0 c2q7.length), (16, iS i7), (20, .ptr 10 0), (21, .ptr 11 0)] [(0, .row 3 (fl c0q11)), (1, .row 29 (Enc.cells c1q11)), (2, .row 3 (fl c2q7)), (3, .dead), (5, .row 57 (flD dPipe [7, 8, 9] r6804.2.2.2.2.2.2.1)), (6, .row 64 (fl r6804.2.2.2.2.2.2.2)), ((.s 7 0), .fam (famD dPipe 0 r6804.2.2.2.2.2.2.1)), ((.s 8 0), .fam (famD dPipe 1 r6804.2.2.2.2.2.2.1)), ((.s 9 0), .fam (famD dPipe 2 r6804.2.2.2.2.2.2.1)), (10, .row 33 [bS r6804.1, bS r6804.2.1, bS r6804.2.2.1, iS r6804.2.2.2.1, iS r6804.2.2.2.2.1, .own 6 0 r6804.2.2.2.2.2.2.2.length]), (11, .row 29 (Enc.cells r6804.2.2.2.2.2.1))] 12 (by kernel_rfl) ?_
           refine wk_id ?_
           refine chk_sx h (fun g6813 h => ?_)
           refine seq_cut (A := Unit) (fun _ => ([(0, .sl l.length (fl l)), (1, iS task), (2, .sl cases.length (fl cases)), (7, .own 0 0 c0q11.length), (8, .ptr 1 0), (9, .own 2 0 c2q7.length), (16, iS i7), (145, bS ((r6804.2.2.2.2.2.1.Code != 0) || ((!r6804.1) || (r6804.2.2.2.2.1 != (ix c0q11 i7)))))], [(0, .row 3 (fl c0q11)), (1, .row 29 (Enc.cells c1q11)), (2, .row 3 (fl c2q7)), (5, .row 57 (flD dPipe [7, 8, 9] r6804.2.2.2.2.2.2.1)), (6, .row 64 (fl r6804.2.2.2.2.2.2.2)), ((.s 7 0), .fam (famD dPipe 0 r6804.2.2.2.2.2.2.1)), ((.s 8 0), .fam (famD dPipe 1 r6804.2.2.2.2.2.2.1)), ((.s 9 0), .fam (famD dPipe 2 r6804.2.2.2.2.2.2.1)), (10, .row 33 [bS r6804.1, bS r6804.2.1, bS r6804.2.2.1, iS r6804.2.2.2.1, iS r6804.2.2.2.2.1, .own 6 0 r6804.2.2.2.2.2.2.2.length]), (11, .row 29 (Enc.cells r6804.2.2.2.2.2.1))], 29)) (fun _ => True) (fun K6809 hK6809 => ?_) (fun _ _ => ?_)
           ·refine reg_t ?_
            refine rs 4 [] [] (by kernel_rfl) allP_nil ?_
            refine run_split 132 (r6804.2.2.2.2.2.1.Code != 0) (.inl (by kernel_rfl)) (fun g6810 => ?_) (fun g6810 => ?_)
            ·refine rs 13 [] [] (by kernel_rfl) allP_nil ?_
             refine rt [(0, .sl l.length (fl l)), (1, iS task), (2, .sl cases.length (fl cases)), (7, .own 0 0 c0q11.length), (8, .ptr 1 0), (9, .own 2 0 c2q7.length), (16, iS i7), (145, bS true)] [(0, .row 3 (fl c0q11)), (1, .row 29 (Enc.cells c1q11)), (2, .row 3 (fl c2q7)), (3, .dead), (5, .row 57 (flD dPipe [7, 8, 9] r6804.2.2.2.2.2.2.1)), (6, .row 64 (fl r6804.2.2.2.2.2.2.2)), ((.s 7 0), .fam (famD dPipe 0 r6804.2.2.2.2.2.2.1)), ((.s 8 0), .fam (famD dPipe 1 r6804.2.2.2.2.2.2.1)), ((.s 9 0), .fam (famD dPipe 2 r6804.2.2.2.2.2.2.1)), (10, .row 33 [bS r6804.1, bS r6804.2.1, bS r6804.2.2.1, iS r6804.2.2.2.1, iS r6804.2.2.2.2.1, .own 6 0 r6804.2.2.2.2.2.2.2.length]), (11, .row 29 (Enc.cells r6804.2.2.2.2.2.1))] 29 follows (by kernel_rfl) ?_
             exact hK6809 () _ _ _ trivial (leSt_m [(0, 0), (1, 1), (2, 2), (5, 5), (6, 6), ((.s 7 0), (.s 7 0)), ((.s 8 0), (.s 8 0)), ((.s 9 0), (.s 9 0)), (10, 10), (11, 11)] [] (by (try simp only [g6810]) <;> simp only [push_cast, leL_flD, renL_flD, seval]) (by (try simp only [g6810]) <;> simp only [push_cast, leL_flD, renL_flD, seval]) rfl rfl rfl)
            ·refine rs 5 [] [] (by kernel_rfl) allP_nil ?_
             refine run_split 137 (!r6804.1) (.inl (by kernel_rfl)) (fun g6811 => ?_) (fun g6811 => ?_)
             ·refine rs 8 [] [] (by kernel_rfl) allP_nil ?_
              refine rt [(0, .sl l.length (fl l)), (1, iS task), (2, .sl cases.length (fl cases)), (7, .own 0 0 c0q11.length), (8, .ptr 1 0), (9, .own 2 0 c2q7.length), (16, iS i7), (145, bS true)] [(0, .row 3 (fl c0q11)), (1, .row 29 (Enc.cells c1q11)), (2, .row 3 (fl c2q7)), (3, .dead), (5, .row 57 (flD dPipe [7, 8, 9] r6804.2.2.2.2.2.2.1)), (6, .row 64 (fl r6804.2.2.2.2.2.2.2)), ((.s 7 0), .fam (famD dPipe 0 r6804.2.2.2.2.2.2.1)), ((.s 8 0), .fam (famD dPipe 1 r6804.2.2.2.2.2.2.1)), ((.s 9 0), .fam (famD dPipe 2 r6804.2.2.2.2.2.2.1)), (10, .row 33 [bS r6804.1, bS r6804.2.1, bS r6804.2.2.1, iS r6804.2.2.2.1, iS r6804.2.2.2.2.1, .own 6 0 r6804.2.2.2.2.2.2.2.length]), (11, .row 29 (Enc.cells r6804.2.2.2.2.2.1))] 29 follows (by kernel_rfl) ?_
              exact hK6809 () _ _ _ trivial (leSt_m [(0, 0), (1, 1), (2, 2), (5, 5), (6, 6), ((.s 7 0), (.s 7 0)), ((.s 8 0), (.s 8 0)), ((.s 9 0), (.s 9 0)), (10, 10), (11, 11)] [] (by first | ((try simp only [g6810, g6811]) <;> simp only [push_cast, leL_flD, renL_flD, seval]; done) | ((try simp only [g6810]); (try simp only [g6811]); simp only [push_cast, leL_flD, renL_flD, seval]; done) | (exfalso; clear h; simp_all; done)) (by first | ((try simp only [g6810, g6811]) <;> simp only [push_cast, leL_flD, renL_flD, seval]; done) | ((try simp only [g6810]); (try simp only [g6811]); simp only [push_cast, leL_flD, renL_flD, seval]; done) | (exfalso; clear h; simp_all; done)) rfl rfl rfl)
             ·have k6812 : 0 ≤ i7 ∧ i7 < ((c0q11.length : Nat) : Int) := by have e := or_use g6813 (by first | ((try simp only [g6810, g6811]) <;> rfl) | ((try simp only [g6810]); (try simp only [g6811]); rfl) | (exfalso; clear h; simp_all; done)); first | simpa only [Bool.and_eq_true, decide_eq_true_eq, bne_iff_ne, ne_eq] using e | (simp at e ⊢; omega)
              refine rs 8 [none, none, none, none, some ⟨.ptr 0 (0 + (i7).toNat * 1), [], 25, [0]⟩, some ⟨iS (ix c0q11 i7), [], 26, [0]⟩] _ (by kernel_rfl) (allP_cons (ob_ld c0q11 i7 1 0 (0 + (i7).toNat * 1) k6812 rfl (by decide) (by first | rfl | omega) (dflS Try.prog 3) (iS (ix c0q11 i7)) rfl 26 [0]) (allP_cons (ob_ix_o 0 c0q11.length 0 1 25 i7 k6812) allP_nil)) ?_
              refine rt [(0, .sl l.length (fl l)), (1, iS task), (2, .sl cases.length (fl cases)), (7, .own 0 0 c0q11.length), (8, .ptr 1 0), (9, .own 2 0 c2q7.length), (16, iS i7), (145, bS (r6804.2.2.2.2.1 != (ix c0q11 i7)))] [(0, .row 3 (fl c0q11)), (1, .row 29 (Enc.cells c1q11)), (2, .row 3 (fl c2q7)), (3, .dead), (5, .row 57 (flD dPipe [7, 8, 9] r6804.2.2.2.2.2.2.1)), (6, .row 64 (fl r6804.2.2.2.2.2.2.2)), ((.s 7 0), .fam (famD dPipe 0 r6804.2.2.2.2.2.2.1)), ((.s 8 0), .fam (famD dPipe 1 r6804.2.2.2.2.2.2.1)), ((.s 9 0), .fam (famD dPipe 2 r6804.2.2.2.2.2.2.1)), (10, .row 33 [bS r6804.1, bS r6804.2.1, bS r6804.2.2.1, iS r6804.2.2.2.1, iS r6804.2.2.2.2.1, .own 6 0 r6804.2.2.2.2.2.2.2.length]), (11, .row 29 (Enc.cells r6804.2.2.2.2.2.1))] 29 follows (by kernel_rfl) ?_
              exact hK6809 () _ _ _ trivial (leSt_m [(0, 0), (1, 1), (2, 2), (5, 5), (6, 6), ((.s 7 0), (.s 7 0)), ((.s 8 0), (.s 8 0)), ((.s 9 0), (.s 9 0)), (10, 10), (11, 11)] [] (by first | ((try simp only [g6810, g6811]) <;> simp only [push_cast, leL_flD, renL_flD, seval]; done) | ((try simp only [g6810]); (try simp only [g6811]); simp only [push_cast, leL_flD, renL_flD, seval]; done) | (exfalso; clear h; simp_all; done)) (by first | ((try simp only [g6810, g6811]) <;> simp only [push_cast, leL_flD, renL_flD, seval]; done) | ((try simp only [g6810]); (try simp only [g6811]); simp only [push_cast, leL_flD, renL_flD, seval]; done) | (exfalso; clear h; simp_all; done)) rfl rfl rfl)
           ·dsimp only
            refine cond_sx h (by kernel_rfl) (fun g6814 h => ?_) (fun g6814 h => ?_)
            ·refine seq_np ?_
             refine reg_f ?_
             refine rs 1 [] [] (by kernel_rfl) allP_nil ?_
             refine rf [(6, bS false)] [(0, .row 3 (fl c0q11)), (1, .row 29 (Enc.cells c1q11)), (2, .row 3 (fl c2q7)), (5, .row 57 (flD dPipe [7, 8, 9] r6804.2.2.2.2.2.2.1)), (6, .row 64 (fl r6804.2.2.2.2.2.2.2)), ((.s 7 0), .fam (famD dPipe 0 r6804.2.2.2.2.2.2.1)), ((.s 8 0), .fam (famD dPipe 1 r6804.2.2.2.2.2.2.1)), ((.s 9 0), .fam (famD dPipe 2 r6804.2.2.2.2.2.2.1)), (10, .row 33 [bS r6804.1, bS r6804.2.1, bS r6804.2.2.1, iS r6804.2.2.2.1, iS r6804.2.2.2.2.1, .own 6 0 r6804.2.2.2.2.2.2.2.length]), (11, .row 29 (Enc.cells r6804.2.2.2.2.2.1))] 29 (by kernel_rfl) ?_
             refine wk_id ?_
             refine rt_cast ht7 ?_
             obtain ⟨r0, h, e0⟩ := map_sx h
             have e1 := hr7 r0 e0.symm
             subst r0
             obtain rfl := Option.some.inj h
             refine ret_at (bS false) (by kernel_rfl) ?_
             exact ret_e [] [] (by simp only [push_cast, leL_flD, renL_flD, seval]) (by simp only [push_cast, leL_flD, renL_flD, seval]) rfl rfl rfl
            ·refine wk_id ?_
             refine wk_id ?_
             refine reg_f ?_
             refine rs 3 [] [] (by kernel_rfl) allP_nil ?_
             refine rf [(0, .sl l.length (fl l)), (1, iS task), (2, .sl cases.length (fl cases)), (7, .own 0 0 c0q11.length), (8, .ptr 1 0), (9, .own 2 0 c2q7.length), (16, iS (IntKind.i64.wrap (i7 + 1)))] [(0, .row 3 (fl c0q11)), (1, .row 29 (Enc.cells c1q11)), (2, .row 3 (fl c2q7)), (5, .row 57 (flD dPipe [7, 8, 9] r6804.2.2.2.2.2.2.1)), (6, .row 64 (fl r6804.2.2.2.2.2.2.2)), ((.s 7 0), .fam (famD dPipe 0 r6804.2.2.2.2.2.2.1)), ((.s 8 0), .fam (famD dPipe 1 r6804.2.2.2.2.2.2.1)), ((.s 9 0), .fam (famD dPipe 2 r6804.2.2.2.2.2.2.1)), (10, .row 33 [bS r6804.1, bS r6804.2.1, bS r6804.2.2.1, iS r6804.2.2.2.1, iS r6804.2.2.2.2.1, .own 6 0 r6804.2.2.2.2.2.2.2.length]), (11, .row 29 (Enc.cells r6804.2.2.2.2.2.1))] 29 (by kernel_rfl) ?_
             exact hn7 ((IntKind.i64.wrap (i7 + 1))) _ _ _ (Option.some.inj h).symm (leSt_m [(0, 0), (1, 1), (2, 2)] [] (by simp only [push_cast, leL_flD, renL_flD, seval]) (by simp only [push_cast, leL_flD, renL_flD, seval]) rfl rfl rfl)
         ·change R7 (.exit 4) _ _ _
          refine ex_cast hx7 (id := 4) ?_
          obtain ⟨r0, h, e0⟩ := map_sx h
          have e1 := hr7 r0 e0.symm
          subst r0
          refine wk_id ?_
          refine wk_id ?_
          refine seq_np ?_
          refine reg_f ?_
          refine rs 4 [] [] (by kernel_rfl) allP_nil ?_
          obtain ⟨r6817, hr6817, h⟩ := bind_sx h
          refine call_x (SpecW.give (pick_Pick_spec l task cases c2q7 false r6817 hr6817) [(0, .row 3 (fl c2q7))] [.sl l.length (fl l), iS task, .sl cases.length (fl cases), .own 0 0 c2q7.length, bS false] [] (.tup [.own 1 0 r6817.2.2.2.2.2.2.1.length, .agg [bS r6817.1, bS r6817.2.1, bS r6817.2.2.1, iS r6817.2.2.2.1, iS r6817.2.2.2.2.1, .own 2 0 r6817.2.2.2.2.2.2.2.length], .agg (Enc.cells r6817.2.2.2.2.2.1)]) [(1, .row 57 (flD dPipe [3, 4, 5] r6817.2.2.2.2.2.2.1)), (2, .row 64 (fl r6817.2.2.2.2.2.2.2)), ((.s 3 0), .fam (famD dPipe 0 r6817.2.2.2.2.2.2.1)), ((.s 4 0), .fam (famD dPipe 1 r6817.2.2.2.2.2.2.1)), ((.s 5 0), .fam (famD dPipe 2 r6817.2.2.2.2.2.2.1))] (by first | simp only [push_cast, leL_flD, renL_flD, seval] | simp only [push_cast, List.mem_singleton, true_and, and_true, leL_flD, renL_flD, seval]) (by simp only [push_cast, leL_flD, renL_flD, seval]) (by simp only [push_cast, leL_flD, renL_flD, seval]) (by simp only [push_cast, leL_flD, renL_flD, seval]) rfl (by first | (simp only [push_cast, leL_flD, renL_flD, seval]; done) | (simp only [push_cast, leL_flD, renL_flD, seval]; kernel_rfl) | kernel_rfl) (by first | (simp only [push_cast, leL_flD, renL_flD, seval]; done) | (simp only [push_cast, leL_flD, renL_flD, seval]; kernel_rfl) | kernel_rfl) rfl) (args := [.sl l.length (fl l), iS task, .sl cases.length (fl cases), .own 2 0 c2q7.length, bS false]) (dst := (some 151)) (by kernel_rfl) [(0, .row 3 (fl c0q11)), (1, .row 29 (Enc.cells c1q11)), (2, .row 3 (fl c2q7))] 3 (by kernel_rfl) [(0, 2)] [] (.tup [.own 4 0 r6817.2.2.2.2.2.2.1.length, .agg [bS r6817.1, bS r6817.2.1, bS r6817.2.2.1, iS r6817.2.2.2.1, iS r6817.2.2.2.2.1, .own 5 0 r6817.2.2.2.2.2.2.2.length], .agg (Enc.cells r6817.2.2.2.2.2.1)]) [(4, .row 57 (flD dPipe [6, 7, 8] r6817.2.2.2.2.2.2.1)), (5, .row 64 (fl r6817.2.2.2.2.2.2.2)), ((.s 6 0), .fam (famD dPipe 0 r6817.2.2.2.2.2.2.1)), ((.s 7 0), .fam (famD dPipe 1 r6817.2.2.2.2.2.2.1)), ((.s 8 0), .fam (famD dPipe 2 r6817.2.2.2.2.2.2.1)), (2, .dead)] (by simp only [push_cast, leL_flD, renL_flD, seval]) (by simp only [push_cast, leL_flD, renL_flD, seval]) (by kernel_rfl) (.inl rfl) (by first | (simp only [push_cast, leL_flD, renL_flD, seval]; done) | (simp only [push_cast, leL_flD, renL_flD, seval]; kernel_rfl) | kernel_rfl) (by first | (simp only [push_cast, leL_flD, renL_flD, seval]; done) | (simp only [push_cast, leL_flD, renL_flD, seval]; kernel_rfl) | kernel_rfl) ?_
          refine rs 8 [] [] (by kernel_rfl) allP_nil ?_
          refine rf [(7, .own 0 0 c0q11.length), (8, .ptr 1 0), (23, .ptr 9 0)] [(0, .row 3 (fl c0q11)), (1, .row 29 (Enc.cells r6817.2.2.2.2.2.1)), (2, .dead), (4, .row 57 (flD dPipe [6, 7, 8] r6817.2.2.2.2.2.2.1)), (5, .row 64 (fl r6817.2.2.2.2.2.2.2)), ((.s 6 0), .fam (famD dPipe 0 r6817.2.2.2.2.2.2.1)), ((.s 7 0), .fam (famD dPipe 1 r6817.2.2.2.2.2.2.1)), ((.s 8 0), .fam (famD dPipe 2 r6817.2.2.2.2.2.2.1)), (9, .row 33 [bS r6817.1, bS r6817.2.1, bS r6817.2.2.1, iS r6817.2.2.2.1, iS r6817.2.2.2.2.1, .own 5 0 r6817.2.2.2.2.2.2.2.length])] 10 (by kernel_rfl) ?_
          refine wk_id ?_
          refine seq_cut (A := Unit) (fun _ => ([(6, bS ((r6817.2.2.2.2.2.1.Code == 0) && (r6817.1 == (decide ((0 : Int) < ((c0q11.length : Nat) : Int))))))], [(0, .row 3 (fl c0q11)), (1, .row 29 (Enc.cells r6817.2.2.2.2.2.1)), (4, .row 57 (flD dPipe [6, 7, 8] r6817.2.2.2.2.2.2.1)), (5, .row 64 (fl r6817.2.2.2.2.2.2.2)), ((.s 6 0), .fam (famD dPipe 0 r6817.2.2.2.2.2.2.1)), ((.s 7 0), .fam (famD dPipe 1 r6817.2.2.2.2.2.2.1)), ((.s 8 0), .fam (famD dPipe 2 r6817.2.2.2.2.2.2.1)), (9, .row 33 [bS r6817.1, bS r6817.2.1, bS r6817.2.2.1, iS r6817.2.2.2.1, iS r6817.2.2.2.2.1, .own 5 0 r6817.2.2.2.2.2.2.2.length])], 10)) (fun _ => True) (fun K6819 hK6819 => ?_) (fun _ _ => ?_)
          ·refine reg_f ?_
           refine rs 4 [] [] (by kernel_rfl) allP_nil ?_
           refine run_split 158 (r6817.2.2.2.2.2.1.Code == 0) (.inl (by kernel_rfl)) (fun g6820 => ?_) (fun g6820 => ?_)
           ·refine rs 8 [] [] (by kernel_rfl) allP_nil ?_
            refine rf [(6, bS (r6817.1 == (decide ((0 : Int) < ((c0q11.length : Nat) : Int)))))] [(0, .row 3 (fl c0q11)), (1, .row 29 (Enc.cells r6817.2.2.2.2.2.1)), (2, .dead), (4, .row 57 (flD dPipe [6, 7, 8] r6817.2.2.2.2.2.2.1)), (5, .row 64 (fl r6817.2.2.2.2.2.2.2)), ((.s 6 0), .fam (famD dPipe 0 r6817.2.2.2.2.2.2.1)), ((.s 7 0), .fam (famD dPipe 1 r6817.2.2.2.2.2.2.1)), ((.s 8 0), .fam (famD dPipe 2 r6817.2.2.2.2.2.2.1)), (9, .row 33 [bS r6817.1, bS r6817.2.1, bS r6817.2.2.1, iS r6817.2.2.2.1, iS r6817.2.2.2.2.1, .own 5 0 r6817.2.2.2.2.2.2.2.length])] 10 (by kernel_rfl) ?_
            exact hK6819 () _ _ _ trivial (leSt_m [(0, 0), (1, 1), (4, 4), (5, 5), ((.s 6 0), (.s 6 0)), ((.s 7 0), (.s 7 0)), ((.s 8 0), (.s 8 0)), (9, 9)] [] (by (try simp only [g6820]) <;> simp only [push_cast, leL_flD, renL_flD, seval]) (by (try simp only [g6820]) <;> simp only [push_cast, leL_flD, renL_flD, seval]) rfl rfl rfl)
           ·refine rs 8 [] [] (by kernel_rfl) allP_nil ?_
            refine rf [(6, bS false)] [(0, .row 3 (fl c0q11)), (1, .row 29 (Enc.cells r6817.2.2.2.2.2.1)), (2, .dead), (4, .row 57 (flD dPipe [6, 7, 8] r6817.2.2.2.2.2.2.1)), (5, .row 64 (fl r6817.2.2.2.2.2.2.2)), ((.s 6 0), .fam (famD dPipe 0 r6817.2.2.2.2.2.2.1)), ((.s 7 0), .fam (famD dPipe 1 r6817.2.2.2.2.2.2.1)), ((.s 8 0), .fam (famD dPipe 2 r6817.2.2.2.2.2.2.1)), (9, .row 33 [bS r6817.1, bS r6817.2.1, bS r6817.2.2.1, iS r6817.2.2.2.1, iS r6817.2.2.2.2.1, .own 5 0 r6817.2.2.2.2.2.2.2.length])] 10 (by kernel_rfl) ?_
            exact hK6819 () _ _ _ trivial (leSt_m [(0, 0), (1, 1), (4, 4), (5, 5), ((.s 6 0), (.s 6 0)), ((.s 7 0), (.s 7 0)), ((.s 8 0), (.s 8 0)), (9, 9)] [] (by (try simp only [g6820]) <;> simp only [push_cast, leL_flD, renL_flD, seval]) (by (try simp only [g6820]) <;> simp only [push_cast, leL_flD, renL_flD, seval]) rfl rfl rfl)
          ·dsimp only
           obtain rfl := Option.some.inj h
           refine ret_at (bS ((r6817.2.2.2.2.2.1.Code == 0) && (r6817.1 == (decide ((0 : Int) < ((c0q11.length : Nat) : Int)))))) (by kernel_rfl) ?_
           exact ret_e [] [] (by simp only [push_cast, leL_flD, renL_flD, seval]) (by simp only [push_cast, leL_flD, renL_flD, seval]) rfl rfl rfl

end Go.Proofs.Ytcpmhpobhnakeaa
