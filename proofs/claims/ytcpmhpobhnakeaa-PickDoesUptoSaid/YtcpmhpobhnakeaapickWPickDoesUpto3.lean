/-
 What laws of the chapter pick compute, and lemmas on it.
 No conditions.
-/
import Derived.Test.YtcpmhpobhnakeaapickWPickDoesUpto2
set_option linter.unusedSimpArgs false
set_option linter.unusedVariables false
namespace Go.Proofs.Ytcpmhpobhnakeaa
open Go Go.Sx
attribute [local irreducible] Wk RunAt
set_option maxRecDepth 100000 in
set_option maxHeartbeats 200000000 in
theorem taskmillref_Taken_spec (p : Pipe) (x : GPost) (r : Int × (List Int) × Bool × (List GPost) × (List GPost) × Bool × Bool × Bool × Int × Int × (List GWake)) (h : taskmillref_Taken p x = some r) : SpecW Try.prog 50 [.agg (Enc.cells p), .agg (Enc.cells x)] [] 0 (fun x h n => x = .tup [.agg [iS r.1, .sl r.2.1.length (fl r.2.1), bS r.2.2.1, .sl r.2.2.2.1.length (fl r.2.2.2.1), .sl r.2.2.2.2.1.length (fl r.2.2.2.2.1)], .agg [bS r.2.2.2.2.2.1, bS r.2.2.2.2.2.2.1, bS r.2.2.2.2.2.2.2.1, iS r.2.2.2.2.2.2.2.2.1, iS r.2.2.2.2.2.2.2.2.2.1, .own 0 0 r.2.2.2.2.2.2.2.2.2.2.length]] ∧ h = [(0, .row 64 (fl r.2.2.2.2.2.2.2.2.2.2))] ∧ n = 1) := by
 unfold taskmillref_Taken at h
 refine spec_of (draw_ok _) Try.func50 rfl (by decide) rfl (by kernel_rfl) ?_
 refine seq_np ?_
 refine reg_f ?_
 refine rs 4 [] [] (by kernel_rfl) allP_nil ?_
 refine rf [(2, .ptr 0 0), (3, .ptr 1 0), (4, .ptr 2 0), (5, .ptr 3 0)] [(0, .row 57 (Enc.cells p)), (1, .row 92 (Enc.cells x)), (2, .row 57 [iS 0, .v (.slice none 0 0), bS false, .v (.slice none 0 0), .v (.slice none 0 0)]), (3, .row 33 [bS false, bS false, bS false, iS 0, iS 0, .v (.slice none 0 0)])] 4 (by kernel_rfl) ?_
 refine wk_id ?_
 refine seq_np ?_
 refine reg_f ?_
 refine rs 5 [] [] (by kernel_rfl) allP_nil ?_
 refine rf [(2, .ptr 0 0), (4, .ptr 2 0), (5, .ptr 3 0), (6, .ptr 4 0)] [(0, .row 57 (Enc.cells p)), (1, .row 92 (Enc.cells x)), (2, .row 57 [iS 0, .v (.slice none 0 0), bS false, .v (.slice none 0 0), .v (.slice none 0 0)]), (3, .row 33 [bS false, bS false, bS false, iS 0, iS 0, .v (.slice none 0 0)]), (4, .row 33 [bS true, bS false, bS false, iS 0, iS x.Case, .v (.slice none 0 0)])] 5 (by kernel_rfl) ?_
 refine wk_id ?_
 refine chk_sx h (fun g4570 h => ?_)
 refine seq_np ?_
 refine reg_f ?_
 have k4569 : p.Items.length * 8 ≤ 140737488355328 := by first | simpa only [Bool.and_eq_true, decide_eq_true_eq, bne_iff_ne, ne_eq] using g4570 | (simp at g4570 ⊢; omega)
 refine rs 4 [none, none, some ⟨.own 5 0 p.Items.length, [(5, .row 3 (fl p.Items))], 6, []⟩] _ (by kernel_rfl) (allP_cons (ob_app0 (P := Try.prog) p.Items 1 8 rfl (fl p.Items) p.Items.length rfl rfl ((fl p.Items).length = p.Items.length * 1) (app_sl p.Items 1 rfl) 3 (by kernel_rfl) (by decide) k4569 5 []) allP_nil) ?_
 refine rf [(2, .ptr 0 0), (4, .ptr 2 0), (5, .ptr 3 0), (6, .ptr 4 0), (7, .own 5 0 p.Items.length)] [(0, .row 57 (Enc.cells p)), (1, .row 92 (Enc.cells x)), (2, .row 57 [iS 0, .v (.slice none 0 0), bS false, .v (.slice none 0 0), .v (.slice none 0 0)]), (3, .row 33 [bS false, bS false, bS false, iS 0, iS 0, .v (.slice none 0 0)]), (4, .row 33 [bS true, bS false, bS false, iS 0, iS x.Case, .v (.slice none 0 0)]), (5, .row 3 (fl p.Items))] 6 (by kernel_rfl) ?_
 refine wk_id ?_
 refine seq_cut (A := (List GPost) × (List Int) × (List GWake)) (fun a => ([(2, .ptr 0 0), (4, .ptr 1 0), (5, .ptr 2 0), (6, .ptr 3 0), (7, .own 4 0 a.2.1.length)], [(0, .row 57 [iS p.Cap, .sl p.Items.length (fl p.Items), bS p.Closed, .sl a.1.length (fl a.1), .sl p.Getters.length (fl p.Getters)]), (1, .row 57 [iS 0, .v (.slice none 0 0), bS false, .v (.slice none 0 0), .v (.slice none 0 0)]), (2, .row 33 [bS false, bS false, bS false, iS 0, iS 0, .v (.slice none 0 0)]), (3, .row 33 [bS true, bS false, bS false, iS 0, iS x.Case, .own 5 0 a.2.2.length]), (4, .row 3 (fl a.2.1)), (5, .row 64 (fl a.2.2))], 6)) (fun a => (taskmillref_Taken_j1 p x a.1 a.2.1 a.2.2) = some r) (fun K4579 hK4579 => ?_) ?_
 ·refine seq_np ?_
  refine reg_f ?_
  refine rs 4 [] [] (by kernel_rfl) allP_nil ?_
  refine rf [(2, .ptr 0 0), (4, .ptr 2 0), (5, .ptr 3 0), (6, .ptr 4 0), (7, .own 5 0 p.Items.length), (18, bS (decide ((0 : Int) < ((p.Senders.length : Nat) : Int))))] [(0, .row 57 (Enc.cells p)), (1, .row 92 (Enc.cells x)), (2, .row 57 [iS 0, .v (.slice none 0 0), bS false, .v (.slice none 0 0), .v (.slice none 0 0)]), (3, .row 33 [bS false, bS false, bS false, iS 0, iS 0, .v (.slice none 0 0)]), (4, .row 33 [bS true, bS false, bS false, iS 0, iS x.Case, .v (.slice none 0 0)]), (5, .row 3 (fl p.Items))] 6 (by kernel_rfl) ?_
  refine wk_id ?_
  refine cond_sx h (by kernel_rfl) (fun g4592 h => ?_) (fun g4592 h => ?_)
  ·refine chk_sx h (fun g4583 h => ?_)
   refine seq_np ?_
   refine reg_f ?_
   have k4582 : 0 ≤ (0 : Int) ∧ (0 : Int) < ((p.Senders.length : Nat) : Int) := by first | simpa only [Bool.and_eq_true, decide_eq_true_eq, bne_iff_ne, ne_eq] using g4583 | (simp at g4583 ⊢; omega)
   refine rs 6 [none, none, some ⟨.iptr (fl p.Senders) (((0 : Int)).toNat * 3), [], 6, []⟩, some ⟨.agg (Enc.cells (ix p.Senders (0 : Int))), [], 6, []⟩] _ (by kernel_rfl) (allP_cons (ob_ldw p.Senders (0 : Int) 3 (((0 : Int)).toNat * 3) k4582 rfl (by first | rfl | omega) [iS (ix p.Senders (0 : Int)).Task, iS (ix p.Senders (0 : Int)).Case, iS (ix p.Senders (0 : Int)).Value] rfl 6 []) (allP_cons (ob_ix_l p.Senders 3 6 0 k4582) allP_nil)) ?_
   refine rf [(2, .ptr 0 0), (4, .ptr 2 0), (5, .ptr 3 0), (6, .ptr 4 0), (7, .own 5 0 p.Items.length), (8, .ptr 6 0)] [(0, .row 57 (Enc.cells p)), (1, .row 92 (Enc.cells x)), (2, .row 57 [iS 0, .v (.slice none 0 0), bS false, .v (.slice none 0 0), .v (.slice none 0 0)]), (3, .row 33 [bS false, bS false, bS false, iS 0, iS 0, .v (.slice none 0 0)]), (4, .row 33 [bS true, bS false, bS false, iS 0, iS x.Case, .v (.slice none 0 0)]), (5, .row 3 (fl p.Items)), (6, .row 92 (Enc.cells (ix p.Senders (0 : Int))))] 7 (by kernel_rfl) ?_
   refine wk_id ?_
   refine chk_sx h (fun g4587 h => ?_)
   refine seq_np ?_
   refine reg_f ?_
   have k4586 : (p.Items ++ ([(ix p.Senders (0 : Int)).Value] : List Int)).length * 8 ≤ 140737488355328 := by first | simpa only [Bool.and_eq_true, decide_eq_true_eq, bne_iff_ne, ne_eq] using g4587 | (simp at g4587 ⊢; omega)
   refine rs 6 [none, none, none, none, some ⟨.own 8 0 (p.Items ++ ([(ix p.Senders (0 : Int)).Value] : List Int)).length, [(8, .row 3 (fl (p.Items ++ ([(ix p.Senders (0 : Int)).Value] : List Int)))), (5, .dead)], 9, [5, 7]⟩] _ (by kernel_rfl) (allP_cons (ob_app (P := Try.prog) p.Items ([(ix p.Senders (0 : Int)).Value] : List Int) 1 8 rfl (appCells (fl ([(ix p.Senders (0 : Int)).Value] : List Int)) 0 (([(ix p.Senders (0 : Int)).Value] : List Int).length * 1)) ([(ix p.Senders (0 : Int)).Value] : List Int).length (app_own ([(ix p.Senders (0 : Int)).Value] : List Int) 1 rfl) rfl (0 + ([(ix p.Senders (0 : Int)).Value] : List Int).length * 1 ≤ (fl ([(ix p.Senders (0 : Int)).Value] : List Int)).length) (app_own_le ([(ix p.Senders (0 : Int)).Value] : List Int) 1 rfl) 3 (by kernel_rfl) (by decide) k4586 5 8 [7]) allP_nil) ?_
   refine rf [(2, .ptr 0 0), (4, .ptr 2 0), (5, .ptr 3 0), (6, .ptr 4 0), (7, .own 8 0 (p.Items ++ ([(ix p.Senders (0 : Int)).Value] : List Int)).length), (8, .ptr 6 0)] [(0, .row 57 (Enc.cells p)), (1, .row 92 (Enc.cells x)), (2, .row 57 [iS 0, .v (.slice none 0 0), bS false, .v (.slice none 0 0), .v (.slice none 0 0)]), (3, .row 33 [bS false, bS false, bS false, iS 0, iS 0, .v (.slice none 0 0)]), (4, .row 33 [bS true, bS false, bS false, iS 0, iS x.Case, .v (.slice none 0 0)]), (5, .dead), (6, .row 92 (Enc.cells (ix p.Senders (0 : Int)))), (7, .row 3 (fl ([(ix p.Senders (0 : Int)).Value] : List Int))), (8, .row 3 (fl (p.Items ++ ([(ix p.Senders (0 : Int)).Value] : List Int))))] 9 (by kernel_rfl) ?_
   refine wk_id ?_
   refine chk_sx h (fun g4591 h => ?_)
   refine seq_np ?_
   refine reg_f ?_
   have k4590 : 0 ≤ (1 : Int) ∧ (1 : Int) ≤ ((p.Senders.length : Nat) : Int) ∧ ((p.Senders.length : Nat) : Int) ≤ ((p.Senders.length : Nat) : Int) := by first | simpa only [Bool.and_eq_true, decide_eq_true_eq, bne_iff_ne, ne_eq] using g4591 | (simp at g4591 ⊢; omega)
   refine rs 5 [none, none, some ⟨.sl (cut p.Senders (1 : Int) ((p.Senders.length : Nat) : Int)).length (fl (cut p.Senders (1 : Int) ((p.Senders.length : Nat) : Int))), [], 9, []⟩] _ (by kernel_rfl) (allP_cons (ob_cut p.Senders (1 : Int) ((p.Senders.length : Nat) : Int) 3 9 rfl k4590) allP_nil) ?_
   refine rf [(2, .ptr 0 0), (4, .ptr 2 0), (5, .ptr 3 0), (6, .ptr 4 0), (7, .own 8 0 (p.Items ++ ([(ix p.Senders (0 : Int)).Value] : List Int)).length), (8, .ptr 6 0)] [(0, .row 57 [iS p.Cap, .sl p.Items.length (fl p.Items), bS p.Closed, .sl (cut p.Senders (1 : Int) ((p.Senders.length : Nat) : Int)).length (fl (cut p.Senders (1 : Int) ((p.Senders.length : Nat) : Int))), .sl p.Getters.length (fl p.Getters)]), (1, .row 92 (Enc.cells x)), (2, .row 57 [iS 0, .v (.slice none 0 0), bS false, .v (.slice none 0 0), .v (.slice none 0 0)]), (3, .row 33 [bS false, bS false, bS false, iS 0, iS 0, .v (.slice none 0 0)]), (4, .row 33 [bS true, bS false, bS false, iS 0, iS x.Case, .v (.slice none 0 0)]), (5, .dead), (6, .row 92 (Enc.cells (ix p.Senders (0 : Int)))), (7, .row 3 (fl ([(ix p.Senders (0 : Int)).Value] : List Int))), (8, .row 3 (fl (p.Items ++ ([(ix p.Senders (0 : Int)).Value] : List Int))))] 9 (by kernel_rfl) ?_
   refine wk_id ?_
   refine reg_f ?_
   refine rs 8 [] [] (by kernel_rfl) allP_nil ?_
   refine rf [(2, .ptr 0 0), (4, .ptr 2 0), (5, .ptr 3 0), (6, .ptr 4 0), (7, .own 8 0 (p.Items ++ ([(ix p.Senders (0 : Int)).Value] : List Int)).length)] [(0, .row 57 [iS p.Cap, .sl p.Items.length (fl p.Items), bS p.Closed, .sl (cut p.Senders (1 : Int) ((p.Senders.length : Nat) : Int)).length (fl (cut p.Senders (1 : Int) ((p.Senders.length : Nat) : Int))), .sl p.Getters.length (fl p.Getters)]), (1, .row 92 (Enc.cells x)), (2, .row 57 [iS 0, .v (.slice none 0 0), bS false, .v (.slice none 0 0), .v (.slice none 0 0)]), (3, .row 33 [bS false, bS false, bS false, iS 0, iS 0, .v (.slice none 0 0)]), (4, .row 33 [bS true, bS false, bS false, iS 0, iS x.Case, .own 9 0 ([(GWake.mk (ix p.Senders (0 : Int)).Task (ix p.Senders (0 : Int)).Case 0 false false)] : List GWake).length]), (5, .dead), (6, .row 92 (Enc.cells (ix p.Senders (0 : Int)))), (7, .row 3 (fl ([(ix p.Senders (0 : Int)).Value] : List Int))), (8, .row 3 (fl (p.Items ++ ([(ix p.Senders (0 : Int)).Value] : List Int)))), (9, .row 64 (fl ([(GWake.mk (ix p.Senders (0 : Int)).Task (ix p.Senders (0 : Int)).Case 0 false false)] : List GWake)))] 10 (by kernel_rfl) ?_
   exact hK4579 ((cut p.Senders (1 : Int) ((p.Senders.length : Nat) : Int)), (p.Items ++ ([(ix p.Senders (0 : Int)).Value] : List Int)), ([(GWake.mk (ix p.Senders (0 : Int)).Task (ix p.Senders (0 : Int)).Case 0 false false)] : List GWake)) _ _ _ h (leSt_m [(0, 0), (1, 2), (2, 3), (3, 4), (4, 8), (5, 9)] [] (by simp only [push_cast, leL_flD, renL_flD, seval]) (by simp only [push_cast, leL_flD, renL_flD, seval]) rfl rfl rfl)
  ·exact hK4579 (p.Senders, p.Items, []) _ _ _ h (leSt_m [(0, 0), (1, 2), (2, 3), (3, 4), (4, 5)] [] (by simp only [push_cast, leL_flD, renL_flD, seval]) (by simp only [push_cast, leL_flD, renL_flD, seval]) rfl rfl rfl)
 ·rintro ⟨c0_Senders1, c4q1, c5q1⟩ h
  try dsimp only at h ⊢
  unfold taskmillref_Taken_j1 at h
  refine seq_np ?_
  refine seq_np ?_
  refine reg_f ?_
  refine rs 3 [] [] (by kernel_rfl) allP_nil ?_
  refine rf [(2, .ptr 0 0), (4, .ptr 1 0), (5, .ptr 2 0), (6, .ptr 3 0), (7, .own 4 0 c4q1.length), (41, bS (decide ((0 : Int) < ((c4q1.length : Nat) : Int))))] [(0, .row 57 [iS p.Cap, .sl p.Items.length (fl p.Items), bS p.Closed, .sl c0_Senders1.length (fl c0_Senders1), .sl p.Getters.length (fl p.Getters)]), (1, .row 57 [iS 0, .v (.slice none 0 0), bS false, .v (.slice none 0 0), .v (.slice none 0 0)]), (2, .row 33 [bS false, bS false, bS false, iS 0, iS 0, .v (.slice none 0 0)]), (3, .row 33 [bS true, bS false, bS false, iS 0, iS x.Case, .own 5 0 c5q1.length]), (4, .row 3 (fl c4q1)), (5, .row 64 (fl c5q1))] 6 (by kernel_rfl) ?_
  refine wk_id ?_
  refine cond_sx h (by kernel_rfl) (fun g4608 h => ?_) (fun g4608 h => ?_)
  ·refine chk_sx h (fun g4601 h => ?_)
   refine seq_np ?_
   refine reg_f ?_
   have k4600 : 0 ≤ (0 : Int) ∧ (0 : Int) < ((c4q1.length : Nat) : Int) := by first | simpa only [Bool.and_eq_true, decide_eq_true_eq, bne_iff_ne, ne_eq] using g4601 | (simp at g4601 ⊢; omega)
   refine rs 5 [none, some ⟨.ptr 4 (0 + ((0 : Int)).toNat * 1), [], 6, [4]⟩, some ⟨iS (ix c4q1 (0 : Int)), [], 6, [4]⟩] _ (by kernel_rfl) (allP_cons (ob_ld c4q1 (0 : Int) 1 0 (0 + ((0 : Int)).toNat * 1) k4600 rfl (by decide) (by first | rfl | omega) (dflS Try.prog 3) (iS (ix c4q1 (0 : Int))) rfl 6 [4]) (allP_cons (ob_ix_o 4 c4q1.length 0 1 6 0 k4600) allP_nil)) ?_
   refine rf [(2, .ptr 0 0), (4, .ptr 1 0), (5, .ptr 2 0), (6, .ptr 3 0), (7, .own 4 0 c4q1.length)] [(0, .row 57 [iS p.Cap, .sl p.Items.length (fl p.Items), bS p.Closed, .sl c0_Senders1.length (fl c0_Senders1), .sl p.Getters.length (fl p.Getters)]), (1, .row 57 [iS 0, .v (.slice none 0 0), bS false, .v (.slice none 0 0), .v (.slice none 0 0)]), (2, .row 33 [bS false, bS false, bS false, iS 0, iS 0, .v (.slice none 0 0)]), (3, .row 33 [bS true, bS false, bS false, iS (ix c4q1 (0 : Int)), iS x.Case, .own 5 0 c5q1.length]), (4, .row 3 (fl c4q1)), (5, .row 64 (fl c5q1))] 6 (by kernel_rfl) ?_
   refine wk_id ?_
   refine seq_np ?_
   refine reg_f ?_
   refine rs 2 [] [] (by kernel_rfl) allP_nil ?_
   refine rf [(2, .ptr 0 0), (4, .ptr 1 0), (5, .ptr 2 0), (6, .ptr 3 0), (7, .own 4 0 c4q1.length)] [(0, .row 57 [iS p.Cap, .sl p.Items.length (fl p.Items), bS p.Closed, .sl c0_Senders1.length (fl c0_Senders1), .sl p.Getters.length (fl p.Getters)]), (1, .row 57 [iS 0, .v (.slice none 0 0), bS false, .v (.slice none 0 0), .v (.slice none 0 0)]), (2, .row 33 [bS false, bS false, bS false, iS 0, iS 0, .v (.slice none 0 0)]), (3, .row 33 [bS true, bS false, bS true, iS (ix c4q1 (0 : Int)), iS x.Case, .own 5 0 c5q1.length]), (4, .row 3 (fl c4q1)), (5, .row 64 (fl c5q1))] 6 (by kernel_rfl) ?_
   refine wk_id ?_
   refine chk_sx h (fun g4605 h => ?_)
   refine seq_np ?_
   refine reg_f ?_
   have k4604 : 0 ≤ (1 : Int) ∧ (1 : Int) ≤ ((c4q1.length : Nat) : Int) ∧ ((c4q1.length : Nat) : Int) ≤ ((c4q1.length : Nat) : Int) := by first | simpa only [Bool.and_eq_true, decide_eq_true_eq, bne_iff_ne, ne_eq] using g4605 | (simp at g4605 ⊢; omega)
   refine rs 1 [] [] (by kernel_rfl) allP_nil ?_
   refine run_cutO c4q1 (some 48) 4 1 3 (1 : Int) ((c4q1.length : Nat) : Int) (by kernel_rfl) rfl k4604 ?_
   refine rs 2 [] [] (by kernel_rfl) allP_nil ?_
   refine rf [(2, .ptr 0 0), (4, .ptr 1 0), (5, .ptr 2 0), (6, .ptr 3 0)] [(0, .row 57 [iS p.Cap, .own 6 0 (cut c4q1 (1 : Int) ((c4q1.length : Nat) : Int)).length, bS p.Closed, .sl c0_Senders1.length (fl c0_Senders1), .sl p.Getters.length (fl p.Getters)]), (1, .row 57 [iS 0, .v (.slice none 0 0), bS false, .v (.slice none 0 0), .v (.slice none 0 0)]), (2, .row 33 [bS false, bS false, bS false, iS 0, iS 0, .v (.slice none 0 0)]), (3, .row 33 [bS true, bS false, bS true, iS (ix c4q1 (0 : Int)), iS x.Case, .own 5 0 c5q1.length]), (4, .dead), (5, .row 64 (fl c5q1)), (6, .row 3 (fl (cut c4q1 (1 : Int) ((c4q1.length : Nat) : Int))))] 7 (by kernel_rfl) ?_
   refine wk_id ?_
   refine seq_np ?_
   refine reg_t ?_
   refine rs 4 [] [] (by kernel_rfl) allP_nil ?_
   refine rt [(4, .ptr 1 0), (5, .ptr 2 0)] [(0, .row 57 [iS p.Cap, .own 6 0 (cut c4q1 (1 : Int) ((c4q1.length : Nat) : Int)).length, bS p.Closed, .sl c0_Senders1.length (fl c0_Senders1), .sl p.Getters.length (fl p.Getters)]), (1, .row 57 [iS p.Cap, .own 6 0 (cut c4q1 (1 : Int) ((c4q1.length : Nat) : Int)).length, bS p.Closed, .sl c0_Senders1.length (fl c0_Senders1), .sl p.Getters.length (fl p.Getters)]), (2, .row 33 [bS true, bS false, bS true, iS (ix c4q1 (0 : Int)), iS x.Case, .own 5 0 c5q1.length]), (3, .row 33 [bS true, bS false, bS true, iS (ix c4q1 (0 : Int)), iS x.Case, .own 5 0 c5q1.length]), (4, .dead), (5, .row 64 (fl c5q1)), (6, .row 3 (fl (cut c4q1 (1 : Int) ((c4q1.length : Nat) : Int))))] 11 follows (by kernel_rfl) ?_
   refine wk_id ?_
   obtain rfl := Option.some.inj h
   refine ret_at (.tup [.agg [iS p.Cap, .own 6 0 (cut c4q1 (1 : Int) ((c4q1.length : Nat) : Int)).length, bS p.Closed, .sl c0_Senders1.length (fl c0_Senders1), .sl p.Getters.length (fl p.Getters)], .agg [bS true, bS false, bS true, iS (ix c4q1 (0 : Int)), iS x.Case, .own 5 0 c5q1.length]]) (by kernel_rfl) ?_
   exact ret_e [(0, 5)] [6] (by simp only [leS_frz, leS_cut, leL_flD, renL_flD, push_cast, seval]) (by simp only [leS_frz, leS_cut, leL_flD, renL_flD, push_cast, seval]) rfl rfl rfl
  ·refine wk_id ?_
   refine seq_np ?_
   refine seq_np ?_
   refine reg_f ?_
   refine rs 2 [] [] (by kernel_rfl) allP_nil ?_
   refine rf [(2, .ptr 0 0), (4, .ptr 1 0), (5, .ptr 2 0), (6, .ptr 3 0), (53, bS p.Closed)] [(0, .row 57 [iS p.Cap, .sl p.Items.length (fl p.Items), bS p.Closed, .sl c0_Senders1.length (fl c0_Senders1), .sl p.Getters.length (fl p.Getters)]), (1, .row 57 [iS 0, .v (.slice none 0 0), bS false, .v (.slice none 0 0), .v (.slice none 0 0)]), (2, .row 33 [bS false, bS false, bS false, iS 0, iS 0, .v (.slice none 0 0)]), (3, .row 33 [bS true, bS false, bS false, iS 0, iS x.Case, .own 5 0 c5q1.length]), (4, .row 3 (fl c4q1)), (5, .row 64 (fl c5q1))] 6 (by kernel_rfl) ?_
   refine wk_id ?_
   refine cond_sx h (by kernel_rfl) (fun g4607 h => ?_) (fun g4607 h => ?_)
   ·refine seq_np ?_
    refine reg_t ?_
    refine rs 4 [] [] (by kernel_rfl) allP_nil ?_
    refine rt [(4, .ptr 1 0), (5, .ptr 2 0)] [(0, .row 57 [iS p.Cap, .sl p.Items.length (fl p.Items), bS p.Closed, .sl c0_Senders1.length (fl c0_Senders1), .sl p.Getters.length (fl p.Getters)]), (1, .row 57 [iS p.Cap, .sl p.Items.length (fl p.Items), bS p.Closed, .sl c0_Senders1.length (fl c0_Senders1), .sl p.Getters.length (fl p.Getters)]), (2, .row 33 [bS true, bS false, bS false, iS 0, iS x.Case, .own 5 0 c5q1.length]), (3, .row 33 [bS true, bS false, bS false, iS 0, iS x.Case, .own 5 0 c5q1.length]), (4, .row 3 (fl c4q1)), (5, .row 64 (fl c5q1))] 10 follows (by kernel_rfl) ?_
    refine wk_id ?_
    obtain rfl := Option.some.inj h
    refine ret_at (.tup [.agg [iS p.Cap, .sl p.Items.length (fl p.Items), bS p.Closed, .sl c0_Senders1.length (fl c0_Senders1), .sl p.Getters.length (fl p.Getters)], .agg [bS true, bS false, bS false, iS 0, iS x.Case, .own 5 0 c5q1.length]]) (by kernel_rfl) ?_
    exact ret_e [(0, 5)] [] (by simp only [push_cast, leL_flD, renL_flD, seval]) (by simp only [push_cast, leL_flD, renL_flD, seval]) rfl rfl rfl
   ·refine wk_id ?_
    refine seq_np ?_
    refine reg_f ?_
    refine rs 4 [] [] (by kernel_rfl) allP_nil ?_
    refine rf [(4, .ptr 1 0), (5, .ptr 2 0)] [(0, .row 57 [iS p.Cap, .sl p.Items.length (fl p.Items), bS p.Closed, .sl c0_Senders1.length (fl c0_Senders1), .sl p.Getters.length (fl p.Getters)]), (1, .row 57 [iS p.Cap, .sl p.Items.length (fl p.Items), bS p.Closed, .sl c0_Senders1.length (fl c0_Senders1), .sl p.Getters.length (fl p.Getters)]), (2, .row 33 [bS false, bS false, bS false, iS 0, iS 0, .v (.slice none 0 0)]), (3, .row 33 [bS true, bS false, bS false, iS 0, iS x.Case, .own 5 0 c5q1.length]), (4, .row 3 (fl c4q1)), (5, .row 64 (fl c5q1))] 6 (by kernel_rfl) ?_
    refine wk_id ?_
    obtain rfl := Option.some.inj h
    refine ret_at (.tup [.agg [iS p.Cap, .sl p.Items.length (fl p.Items), bS p.Closed, .sl c0_Senders1.length (fl c0_Senders1), .sl p.Getters.length (fl p.Getters)], .agg [bS false, bS false, bS false, iS 0, iS 0, .v (.slice none 0 0)]]) (by kernel_rfl) ?_
    exact ret_e [] [] (by simp only [push_cast, leL_flD, renL_flD, seval]) (by simp only [push_cast, leL_flD, renL_flD, seval]) rfl rfl rfl

set_option maxRecDepth 100000 in
set_option maxHeartbeats 200000000 in
theorem taskmillref_Sent_spec (p : Pipe) (x : GPost) (r : Int × (List Int) × Bool × (List GPost) × (List GPost) × Bool × Bool × Bool × Int × Int × (List GWake)) (h : taskmillref_Sent p x = some r) : SpecW Try.prog 51 [.agg (Enc.cells p), .agg (Enc.cells x)] [] 0 (fun x h n => x = .tup [.agg [iS r.1, .sl r.2.1.length (fl r.2.1), bS r.2.2.1, .sl r.2.2.2.1.length (fl r.2.2.2.1), .sl r.2.2.2.2.1.length (fl r.2.2.2.2.1)], .agg [bS r.2.2.2.2.2.1, bS r.2.2.2.2.2.2.1, bS r.2.2.2.2.2.2.2.1, iS r.2.2.2.2.2.2.2.2.1, iS r.2.2.2.2.2.2.2.2.2.1, .own 0 0 r.2.2.2.2.2.2.2.2.2.2.length]] ∧ h = [(0, .row 64 (fl r.2.2.2.2.2.2.2.2.2.2))] ∧ n = 1) := by
 unfold taskmillref_Sent at h
 refine spec_of (draw_ok _) Try.func51 rfl (by decide) rfl (by kernel_rfl) ?_
 refine seq_np ?_
 refine reg_f ?_
 refine rs 4 [] [] (by kernel_rfl) allP_nil ?_
 refine rf [(2, .ptr 0 0), (3, .ptr 1 0), (4, .ptr 2 0), (5, .ptr 3 0)] [(0, .row 57 (Enc.cells p)), (1, .row 92 (Enc.cells x)), (2, .row 57 [iS 0, .v (.slice none 0 0), bS false, .v (.slice none 0 0), .v (.slice none 0 0)]), (3, .row 33 [bS false, bS false, bS false, iS 0, iS 0, .v (.slice none 0 0)])] 4 (by kernel_rfl) ?_
 refine wk_id ?_
 refine seq_np ?_
 refine reg_f ?_
 refine rs 5 [] [] (by kernel_rfl) allP_nil ?_
 refine rf [(2, .ptr 0 0), (3, .ptr 1 0), (4, .ptr 2 0), (5, .ptr 3 0), (6, .ptr 4 0)] [(0, .row 57 (Enc.cells p)), (1, .row 92 (Enc.cells x)), (2, .row 57 [iS 0, .v (.slice none 0 0), bS false, .v (.slice none 0 0), .v (.slice none 0 0)]), (3, .row 33 [bS false, bS false, bS false, iS 0, iS 0, .v (.slice none 0 0)]), (4, .row 33 [bS true, bS false, bS false, iS 0, iS x.Case, .v (.slice none 0 0)])] 5 (by kernel_rfl) ?_
 refine wk_id ?_
 refine seq_np ?_
 refine seq_np ?_
 refine reg_f ?_
 refine rs 2 [] [] (by kernel_rfl) allP_nil ?_
 refine rf [(2, .ptr 0 0), (3, .ptr 1 0), (4, .ptr 2 0), (5, .ptr 3 0), (6, .ptr 4 0), (12, bS p.Closed)] [(0, .row 57 (Enc.cells p)), (1, .row 92 (Enc.cells x)), (2, .row 57 [iS 0, .v (.slice none 0 0), bS false, .v (.slice none 0 0), .v (.slice none 0 0)]), (3, .row 33 [bS false, bS false, bS false, iS 0, iS 0, .v (.slice none 0 0)]), (4, .row 33 [bS true, bS false, bS false, iS 0, iS x.Case, .v (.slice none 0 0)])] 5 (by kernel_rfl) ?_
 refine wk_id ?_
 refine cond_sx h (by kernel_rfl) (fun g4652 h => ?_) (fun g4652 h => ?_)
 ·refine seq_np ?_
  refine reg_f ?_
  refine rs 2 [] [] (by kernel_rfl) allP_nil ?_
  refine rf [(2, .ptr 0 0), (4, .ptr 2 0), (5, .ptr 3 0), (6, .ptr 4 0)] [(0, .row 57 (Enc.cells p)), (1, .row 92 (Enc.cells x)), (2, .row 57 [iS 0, .v (.slice none 0 0), bS false, .v (.slice none 0 0), .v (.slice none 0 0)]), (3, .row 33 [bS false, bS false, bS false, iS 0, iS 0, .v (.slice none 0 0)]), (4, .row 33 [bS true, bS true, bS false, iS 0, iS x.Case, .v (.slice none 0 0)])] 5 (by kernel_rfl) ?_
  refine wk_id ?_
  refine seq_np ?_
  refine reg_t ?_
  refine rs 4 [] [] (by kernel_rfl) allP_nil ?_
  refine rt [(4, .ptr 2 0), (5, .ptr 3 0)] [(0, .row 57 (Enc.cells p)), (1, .row 92 (Enc.cells x)), (2, .row 57 (Enc.cells p)), (3, .row 33 [bS true, bS true, bS false, iS 0, iS x.Case, .v (.slice none 0 0)]), (4, .row 33 [bS true, bS true, bS false, iS 0, iS x.Case, .v (.slice none 0 0)])] 9 follows (by kernel_rfl) ?_
  refine wk_id ?_
  obtain rfl := Option.some.inj h
  refine ret_at (.tup [.agg (Enc.cells p), .agg [bS true, bS true, bS false, iS 0, iS x.Case, .v (.slice none 0 0)]]) (by kernel_rfl) ?_
  exact ret_e [] [] (by simp only [push_cast, leL_flD, renL_flD, seval]) (by simp only [push_cast, leL_flD, renL_flD, seval]) rfl rfl rfl
 ·refine wk_id ?_
  refine seq_np ?_
  refine seq_np ?_
  refine reg_f ?_
  refine rs 4 [] [] (by kernel_rfl) allP_nil ?_
  refine rf [(2, .ptr 0 0), (3, .ptr 1 0), (4, .ptr 2 0), (5, .ptr 3 0), (6, .ptr 4 0), (19, bS (decide ((0 : Int) < ((p.Getters.length : Nat) : Int))))] [(0, .row 57 (Enc.cells p)), (1, .row 92 (Enc.cells x)), (2, .row 57 [iS 0, .v (.slice none 0 0), bS false, .v (.slice none 0 0), .v (.slice none 0 0)]), (3, .row 33 [bS false, bS false, bS false, iS 0, iS 0, .v (.slice none 0 0)]), (4, .row 33 [bS true, bS false, bS false, iS 0, iS x.Case, .v (.slice none 0 0)])] 5 (by kernel_rfl) ?_
  refine wk_id ?_
  refine cond_sx h (by kernel_rfl) (fun g4651 h => ?_) (fun g4651 h => ?_)
  ·refine chk_sx h (fun g4632 h => ?_)
   refine seq_np ?_
   refine reg_f ?_
   have k4631 : 0 ≤ (0 : Int) ∧ (0 : Int) < ((p.Getters.length : Nat) : Int) := by first | simpa only [Bool.and_eq_true, decide_eq_true_eq, bne_iff_ne, ne_eq] using g4632 | (simp at g4632 ⊢; omega)
   refine rs 6 [none, none, some ⟨.iptr (fl p.Getters) (((0 : Int)).toNat * 3), [], 5, []⟩, some ⟨.agg (Enc.cells (ix p.Getters (0 : Int))), [], 5, []⟩] _ (by kernel_rfl) (allP_cons (ob_ldw p.Getters (0 : Int) 3 (((0 : Int)).toNat * 3) k4631 rfl (by first | rfl | omega) [iS (ix p.Getters (0 : Int)).Task, iS (ix p.Getters (0 : Int)).Case, iS (ix p.Getters (0 : Int)).Value] rfl 5 []) (allP_cons (ob_ix_l p.Getters 3 5 0 k4631) allP_nil)) ?_
   refine rf [(2, .ptr 0 0), (3, .ptr 1 0), (4, .ptr 2 0), (5, .ptr 3 0), (6, .ptr 4 0), (7, .ptr 5 0)] [(0, .row 57 (Enc.cells p)), (1, .row 92 (Enc.cells x)), (2, .row 57 [iS 0, .v (.slice none 0 0), bS false, .v (.slice none 0 0), .v (.slice none 0 0)]), (3, .row 33 [bS false, bS false, bS false, iS 0, iS 0, .v (.slice none 0 0)]), (4, .row 33 [bS true, bS false, bS false, iS 0, iS x.Case, .v (.slice none 0 0)]), (5, .row 92 (Enc.cells (ix p.Getters (0 : Int))))] 6 (by kernel_rfl) ?_
   refine wk_id ?_
   refine chk_sx h (fun g4636 h => ?_)
   refine seq_np ?_
   refine reg_f ?_
   have k4635 : 0 ≤ (1 : Int) ∧ (1 : Int) ≤ ((p.Getters.length : Nat) : Int) ∧ ((p.Getters.length : Nat) : Int) ≤ ((p.Getters.length : Nat) : Int) := by first | simpa only [Bool.and_eq_true, decide_eq_true_eq, bne_iff_ne, ne_eq] using g4636 | (simp at g4636 ⊢; omega)
   refine rs 5 [none, none, some ⟨.sl (cut p.Getters (1 : Int) ((p.Getters.length : Nat) : Int)).length (fl (cut p.Getters (1 : Int) ((p.Getters.length : Nat) : Int))), [], 6, []⟩] _ (by kernel_rfl) (allP_cons (ob_cut p.Getters (1 : Int) ((p.Getters.length : Nat) : Int) 3 6 rfl k4635) allP_nil) ?_
   refine rf [(2, .ptr 0 0), (3, .ptr 1 0), (4, .ptr 2 0), (5, .ptr 3 0), (6, .ptr 4 0), (7, .ptr 5 0)] [(0, .row 57 [iS p.Cap, .sl p.Items.length (fl p.Items), bS p.Closed, .sl p.Senders.length (fl p.Senders), .sl (cut p.Getters (1 : Int) ((p.Getters.length : Nat) : Int)).length (fl (cut p.Getters (1 : Int) ((p.Getters.length : Nat) : Int)))]), (1, .row 92 (Enc.cells x)), (2, .row 57 [iS 0, .v (.slice none 0 0), bS false, .v (.slice none 0 0), .v (.slice none 0 0)]), (3, .row 33 [bS false, bS false, bS false, iS 0, iS 0, .v (.slice none 0 0)]), (4, .row 33 [bS true, bS false, bS false, iS 0, iS x.Case, .v (.slice none 0 0)]), (5, .row 92 (Enc.cells (ix p.Getters (0 : Int))))] 6 (by kernel_rfl) ?_
   refine wk_id ?_
   refine seq_np ?_
   refine reg_f ?_
   refine rs 10 [] [] (by kernel_rfl) allP_nil ?_
   refine rf [(2, .ptr 0 0), (4, .ptr 2 0), (5, .ptr 3 0), (6, .ptr 4 0)] [(0, .row 57 [iS p.Cap, .sl p.Items.length (fl p.Items), bS p.Closed, .sl p.Senders.length (fl p.Senders), .sl (cut p.Getters (1 : Int) ((p.Getters.length : Nat) : Int)).length (fl (cut p.Getters (1 : Int) ((p.Getters.length : Nat) : Int)))]), (1, .row 92 (Enc.cells x)), (2, .row 57 [iS 0, .v (.slice none 0 0), bS false, .v (.slice none 0 0), .v (.slice none 0 0)]), (3, .row 33 [bS false, bS false, bS false, iS 0, iS 0, .v (.slice none 0 0)]), (4, .row 33 [bS true, bS false, bS false, iS 0, iS x.Case, .own 6 0 ([(GWake.mk (ix p.Getters (0 : Int)).Task (ix p.Getters (0 : Int)).Case x.Value true false)] : List GWake).length]), (5, .row 92 (Enc.cells (ix p.Getters (0 : Int)))), (6, .row 64 (fl ([(GWake.mk (ix p.Getters (0 : Int)).Task (ix p.Getters (0 : Int)).Case x.Value true false)] : List GWake)))] 7 (by kernel_rfl) ?_
   refine wk_id ?_
   refine seq_np ?_
   refine reg_t ?_
   refine rs 4 [] [] (by kernel_rfl) allP_nil ?_
   refine rt [(4, .ptr 2 0), (5, .ptr 3 0)] [(0, .row 57 [iS p.Cap, .sl p.Items.length (fl p.Items), bS p.Closed, .sl p.Senders.length (fl p.Senders), .sl (cut p.Getters (1 : Int) ((p.Getters.length : Nat) : Int)).length (fl (cut p.Getters (1 : Int) ((p.Getters.length : Nat) : Int)))]), (1, .row 92 (Enc.cells x)), (2, .row 57 [iS p.Cap, .sl p.Items.length (fl p.Items), bS p.Closed, .sl p.Senders.length (fl p.Senders), .sl (cut p.Getters (1 : Int) ((p.Getters.length : Nat) : Int)).length (fl (cut p.Getters (1 : Int) ((p.Getters.length : Nat) : Int)))]), (3, .row 33 [bS true, bS false, bS false, iS 0, iS x.Case, .own 6 0 ([(GWake.mk (ix p.Getters (0 : Int)).Task (ix p.Getters (0 : Int)).Case x.Value true false)] : List GWake).length]), (4, .row 33 [bS true, bS false, bS false, iS 0, iS x.Case, .own 6 0 ([(GWake.mk (ix p.Getters (0 : Int)).Task (ix p.Getters (0 : Int)).Case x.Value true false)] : List GWake).length]), (5, .row 92 (Enc.cells (ix p.Getters (0 : Int)))), (6, .row 64 (fl ([(GWake.mk (ix p.Getters (0 : Int)).Task (ix p.Getters (0 : Int)).Case x.Value true false)] : List GWake)))] 11 follows (by kernel_rfl) ?_
   refine wk_id ?_
   obtain rfl := Option.some.inj h
   refine ret_at (.tup [.agg [iS p.Cap, .sl p.Items.length (fl p.Items), bS p.Closed, .sl p.Senders.length (fl p.Senders), .sl (cut p.Getters (1 : Int) ((p.Getters.length : Nat) : Int)).length (fl (cut p.Getters (1 : Int) ((p.Getters.length : Nat) : Int)))], .agg [bS true, bS false, bS false, iS 0, iS x.Case, .own 6 0 ([(GWake.mk (ix p.Getters (0 : Int)).Task (ix p.Getters (0 : Int)).Case x.Value true false)] : List GWake).length]]) (by kernel_rfl) ?_
   exact ret_e [(0, 6)] [] (by simp only [push_cast, leL_flD, renL_flD, seval]) (by simp only [push_cast, leL_flD, renL_flD, seval]) rfl rfl rfl
  ·refine wk_id ?_
   refine seq_np ?_
   refine seq_np ?_
   refine reg_f ?_
   refine rs 6 [] [] (by kernel_rfl) allP_nil ?_
   refine rf [(2, .ptr 0 0), (3, .ptr 1 0), (4, .ptr 2 0), (5, .ptr 3 0), (6, .ptr 4 0), (44, bS (decide (((p.Items.length : Nat) : Int) < p.Cap)))] [(0, .row 57 (Enc.cells p)), (1, .row 92 (Enc.cells x)), (2, .row 57 [iS 0, .v (.slice none 0 0), bS false, .v (.slice none 0 0), .v (.slice none 0 0)]), (3, .row 33 [bS false, bS false, bS false, iS 0, iS 0, .v (.slice none 0 0)]), (4, .row 33 [bS true, bS false, bS false, iS 0, iS x.Case, .v (.slice none 0 0)])] 5 (by kernel_rfl) ?_
   refine wk_id ?_
   refine cond_sx h (by kernel_rfl) (fun g4650 h => ?_) (fun g4650 h => ?_)
   ·refine chk_sx h (fun g4647 h => ?_)
    refine chk_sx h (fun g4649 h => ?_)
    refine seq_np ?_
    refine reg_t ?_
    have k4646 : p.Items.length * 8 ≤ 140737488355328 := by first | simpa only [Bool.and_eq_true, decide_eq_true_eq, bne_iff_ne, ne_eq] using g4647 | (simp at g4647 ⊢; omega)
    have k4648 : (p.Items ++ ([x.Value] : List Int)).length * 8 ≤ 140737488355328 := by first | simpa only [Bool.and_eq_true, decide_eq_true_eq, bne_iff_ne, ne_eq] using g4649 | (simp at g4649 ⊢; omega)
    refine rs 9 [none, none, some ⟨.own 7 0 p.Items.length, [(7, .row 3 (fl p.Items))], 8, []⟩, none, none, none, some ⟨.own 13 0 (p.Items ++ ([x.Value] : List Int)).length, [(13, .row 3 (fl (p.Items ++ ([x.Value] : List Int)))), (7, .dead)], 14, [7, 11]⟩] _ (by kernel_rfl) (allP_cons (ob_app (P := Try.prog) p.Items ([x.Value] : List Int) 1 8 rfl (appCells (fl ([x.Value] : List Int)) 0 (([x.Value] : List Int).length * 1)) ([x.Value] : List Int).length (app_own ([x.Value] : List Int) 1 rfl) rfl (0 + ([x.Value] : List Int).length * 1 ≤ (fl ([x.Value] : List Int)).length) (app_own_le ([x.Value] : List Int) 1 rfl) 3 (by kernel_rfl) (by decide) k4648 7 13 [11]) (allP_cons (ob_app0 (P := Try.prog) p.Items 1 8 rfl (fl p.Items) p.Items.length rfl rfl ((fl p.Items).length = p.Items.length * 1) (app_sl p.Items 1 rfl) 3 (by kernel_rfl) (by decide) k4646 7 []) allP_nil)) ?_
    refine rt [(2, .ptr 0 0), (4, .ptr 2 0), (5, .ptr 3 0), (6, .ptr 4 0)] [(0, .row 57 [iS p.Cap, .own 13 0 (p.Items ++ ([x.Value] : List Int)).length, bS p.Closed, .sl p.Senders.length (fl p.Senders), .sl p.Getters.length (fl p.Getters)]), (1, .row 92 (Enc.cells x)), (2, .row 57 [iS 0, .v (.slice none 0 0), bS false, .v (.slice none 0 0), .v (.slice none 0 0)]), (3, .row 33 [bS false, bS false, bS false, iS 0, iS 0, .v (.slice none 0 0)]), (4, .row 33 [bS true, bS false, bS false, iS 0, iS x.Case, .v (.slice none 0 0)]), (7, .dead), (11, .row 3 (fl ([x.Value] : List Int))), (13, .row 3 (fl (p.Items ++ ([x.Value] : List Int))))] 17 follows (by kernel_rfl) ?_
    refine wk_id ?_
    refine seq_np ?_
    refine reg_t ?_
    refine rs 4 [] [] (by kernel_rfl) allP_nil ?_
    refine rt [(4, .ptr 2 0), (5, .ptr 3 0)] [(0, .row 57 [iS p.Cap, .own 13 0 (p.Items ++ ([x.Value] : List Int)).length, bS p.Closed, .sl p.Senders.length (fl p.Senders), .sl p.Getters.length (fl p.Getters)]), (1, .row 92 (Enc.cells x)), (2, .row 57 [iS p.Cap, .own 13 0 (p.Items ++ ([x.Value] : List Int)).length, bS p.Closed, .sl p.Senders.length (fl p.Senders), .sl p.Getters.length (fl p.Getters)]), (3, .row 33 [bS true, bS false, bS false, iS 0, iS x.Case, .v (.slice none 0 0)]), (4, .row 33 [bS true, bS false, bS false, iS 0, iS x.Case, .v (.slice none 0 0)]), (7, .dead), (11, .row 3 (fl ([x.Value] : List Int))), (13, .row 3 (fl (p.Items ++ ([x.Value] : List Int))))] 21 follows (by kernel_rfl) ?_
    refine wk_id ?_
    obtain rfl := Option.some.inj h
    refine ret_at (.tup [.agg [iS p.Cap, .own 13 0 (p.Items ++ ([x.Value] : List Int)).length, bS p.Closed, .sl p.Senders.length (fl p.Senders), .sl p.Getters.length (fl p.Getters)], .agg [bS true, bS false, bS false, iS 0, iS x.Case, .v (.slice none 0 0)]]) (by kernel_rfl) ?_
    exact ret_e [] [13] (by simp only [leS_frz, leS_cut, leL_flD, renL_flD, push_cast, seval]) (by simp only [leS_frz, leS_cut, leL_flD, renL_flD, push_cast, seval]) rfl rfl rfl
   ·refine wk_id ?_
    refine seq_np ?_
    refine reg_f ?_
    refine rs 4 [] [] (by kernel_rfl) allP_nil ?_
    refine rf [(4, .ptr 2 0), (5, .ptr 3 0)] [(0, .row 57 (Enc.cells p)), (1, .row 92 (Enc.cells x)), (2, .row 57 (Enc.cells p)), (3, .row 33 [bS false, bS false, bS false, iS 0, iS 0, .v (.slice none 0 0)]), (4, .row 33 [bS true, bS false, bS false, iS 0, iS x.Case, .v (.slice none 0 0)])] 5 (by kernel_rfl) ?_
    refine wk_id ?_
    obtain rfl := Option.some.inj h
    refine ret_at (.tup [.agg (Enc.cells p), .agg [bS false, bS false, bS false, iS 0, iS 0, .v (.slice none 0 0)]]) (by kernel_rfl) ?_
    exact ret_e [] [] (by simp only [push_cast, leL_flD, renL_flD, seval]) (by simp only [push_cast, leL_flD, renL_flD, seval]) rfl rfl rfl

set_option maxRecDepth 100000 in
set_option maxHeartbeats 200000000 in
theorem taskmillref_WithPipe_spec (l : (List Pipe)) (i : Int) (p : Pipe) (r : (List Pipe)) (h : taskmillref_WithPipe l i p = some r) : SpecW Try.prog 34 [.sl l.length (fl l), iS i, .agg (Enc.cells p)] [] 0 (fun x h n => x = .own 0 0 r.length ∧ h = [(0, .row 57 (fl r))] ∧ n = 1) := by
 unfold taskmillref_WithPipe at h
 refine spec_of (draw_ok _) Try.func34 rfl (by decide) rfl (by kernel_rfl) ?_
 refine seq_np ?_
 refine reg_f ?_
 refine rs 2 [] [] (by kernel_rfl) allP_nil ?_
 refine rf [(0, .sl l.length (fl l)), (1, iS i), (5, .ptr 0 0)] [(0, .row 57 (Enc.cells p))] 1 (by kernel_rfl) ?_
 refine wk_id ?_
 refine chk_sx h (fun g4665 h => ?_)
 refine seq_np ?_
 refine reg_f ?_
 have k4664 : l.length * 88 ≤ 140737488355328 := by first | simpa only [Bool.and_eq_true, decide_eq_true_eq, bne_iff_ne, ne_eq] using g4665 | (simp at g4665 ⊢; omega)
 refine rs 3 [none, some ⟨.own 1 0 l.length, [(1, .row 57 (fl l))], 2, []⟩] _ (by kernel_rfl) (allP_cons (ob_app0 (P := Try.prog) l 5 88 rfl (fl l) l.length rfl rfl ((fl l).length = l.length * 5) (app_sl l 5 rfl) 57 (by kernel_rfl) (by decide) k4664 1 []) allP_nil) ?_
 refine rf [(1, iS i), (5, .ptr 0 0), (7, .own 1 0 l.length)] [(0, .row 57 (Enc.cells p)), (1, .row 57 (fl l))] 2 (by kernel_rfl) ?_
 refine wk_id ?_
 refine chk_sx h (fun g4669 h => ?_)
 refine seq_np ?_
 refine reg_f ?_
 have k4668 : 0 ≤ i ∧ i < ((l.length : Nat) : Int) := by first | simpa only [Bool.and_eq_true, decide_eq_true_eq, bne_iff_ne, ne_eq] using g4669 | (simp at g4669 ⊢; omega)
 refine rs 5 [none, none, none, some ⟨.ptr 1 (0 + (i).toNat * 5), [], 2, [1]⟩, some ⟨.any, [(1, .row 57 (fl (l.set i.toNat (p : Pipe))))], 2, [1]⟩] _ (by kernel_rfl) (allP_cons (ob_st (P := Try.prog) l i 5 0 (0 + (i).toNat * 5) k4668 rfl [iS p.Cap, .sl p.Items.length (fl p.Items), bS p.Closed, .sl p.Senders.length (fl p.Senders), .sl p.Getters.length (fl p.Getters)] (p : Pipe) (Nat.le_of_ble_eq_true rfl) (by first | rfl | omega) rfl 1 2 57 57 (by kernel_rfl) rfl) (allP_cons (ob_ix_o 1 l.length 0 5 2 i k4668) allP_nil)) ?_
 refine run_eqF 7 (.own 1 0 l.length) (.own 1 0 (l.set i.toNat (p : Pipe)).length) (congrArg (fun nq => (.own 1 0 nq : SV)) (show l.length = (l.set i.toNat (p : Pipe)).length from (List.length_set ..).symm)) (by kernel_rfl) ?_
 refine rf [(7, .own 1 0 (l.set i.toNat (p : Pipe)).length)] [(0, .row 57 (Enc.cells p)), (1, .row 57 (fl (l.set i.toNat (p : Pipe))))] 2 (by kernel_rfl) ?_
 refine wk_id ?_
 refine seq_np ?_
 refine reg_f ?_
 refine rs 2 [] [] (by kernel_rfl) allP_nil ?_
 refine rf [(6, .own 1 0 (l.set i.toNat (p : Pipe)).length)] [(0, .row 57 (Enc.cells p)), (1, .row 57 (fl (l.set i.toNat (p : Pipe))))] 2 (by kernel_rfl) ?_
 refine wk_id ?_
 obtain rfl := Option.some.inj h
 refine ret_at (.own 1 0 (l.set i.toNat (p : Pipe)).length) (by kernel_rfl) ?_
 exact ret_e [(0, 1)] [] (by simp only [push_cast, leL_flD, renL_flD, seval]) (by simp only [push_cast, leL_flD, renL_flD, seval]) rfl rfl rfl

set_option maxRecDepth 100000 in
set_option maxHeartbeats 200000000 in
theorem taskmillref_Gone_spec (l : (List GPost)) (task : Int) (r : (List GPost)) (h : taskmillref_Gone l task = some r) : SpecW Try.prog 54 [.sl l.length (fl l), iS task] [] 0 (fun x h n => x = .own 0 0 r.length ∧ h = [(0, .row 92 (fl r))] ∧ n = 1) := by
 unfold taskmillref_Gone at h
 refine spec_of (draw_ok _) Try.func54 rfl (by decide) rfl (by kernel_rfl) ?_
 refine seq_np ?_
 refine reg_f ?_
 refine rs 1 [] [] (by kernel_rfl) allP_nil ?_
 refine rf [(0, .sl l.length (fl l)), (1, iS task)] [] 0 (by kernel_rfl) ?_
 refine wk_id ?_
 refine seq_np ?_
 refine reg_f ?_
 refine rs 1 [] [] (by kernel_rfl) allP_nil ?_
 refine rf [(0, .sl l.length (fl l)), (1, iS task), (5, .v (.slice none 0 0))] [] 0 (by kernel_rfl) ?_
 refine wk_id ?_
 refine seq_np ?_
 refine seq_np ?_
 refine reg_f ?_
 refine rs 1 [] [] (by kernel_rfl) allP_nil ?_
 refine rf [(0, .sl l.length (fl l)), (1, iS task), (5, .v (.slice none 0 0)), (6, iS 0)] [] 0 (by kernel_rfl) ?_
 refine wk_id ?_
 refine block_np ?_
 refine loop_sx (S := Int × (List GPost)) (fun a => ([(0, .sl l.length (fl l)), (1, iS task), (5, .own 0 0 a.2.length), (6, iS a.1)], [(0, .row 92 (fl a.2))], 1)) h (leSt_m [] [] (by simp only [push_cast, leL_flD, renL_flD, seval]) (by simp only [push_cast, leL_flD, renL_flD, seval]) rfl rfl rfl) ?_
 rintro ⟨i7, c0q19⟩ o2 R2 h hr2 hn2 hx2 ht2
 try dsimp only at h hn2 ⊢
 unfold taskmillref_Gone_l1 at h
 try dsimp only at h
 refine seq_np ?_
 refine seq_np ?_
 refine reg_f ?_
 refine rs 4 [] [] (by kernel_rfl) allP_nil ?_
 refine rf [(0, .sl l.length (fl l)), (1, iS task), (5, .own 0 0 c0q19.length), (6, iS i7), (10, bS (decide (i7 < ((l.length : Nat) : Int))))] [(0, .row 92 (fl c0q19))] 1 (by kernel_rfl) ?_
 refine wk_id ?_
 refine cond_sx h (by kernel_rfl) (fun g4823 h => ?_) (fun g4823 h => ?_)
 ·refine wk_id ?_
  refine seq_np ?_
  refine block_cut (A := (List GPost)) (fun a => ([(0, .sl l.length (fl l)), (1, iS task), (5, .own 0 0 a.length), (6, iS i7)], [(0, .row 92 (fl a))], 1)) (fun a => (taskmillref_Gone_j1 l task i7 a) = some o2) (fun K4809 hK4809 => ?_) ?_
  ·refine chk_sx h (fun g4813 h => ?_)
   refine seq_np ?_
   refine reg_f ?_
   have k4812 : 0 ≤ i7 ∧ i7 < ((l.length : Nat) : Int) := by first | simpa only [Bool.and_eq_true, decide_eq_true_eq, bne_iff_ne, ne_eq] using g4813 | (simp at g4813 ⊢; omega)
   refine rs 7 [none, none, some ⟨.iptr (fl l) ((i7).toNat * 3), [], 1, []⟩, none, some ⟨iS (ix l i7).Task, [], 1, []⟩] _ (by kernel_rfl) (allP_cons (ob_ld l i7 3 0 (((i7).toNat * 3) + 0) k4812 rfl (by decide) (by first | rfl | omega) (dflS Try.prog 3) (iS (ix l i7).Task) rfl 1 []) (allP_cons (ob_ix_l l 3 1 i7 k4812) allP_nil)) ?_
   refine rf [(0, .sl l.length (fl l)), (1, iS task), (5, .own 0 0 c0q19.length), (6, iS i7), (19, bS ((ix l i7).Task != task))] [(0, .row 92 (fl c0q19))] 1 (by kernel_rfl) ?_
   refine wk_id ?_
   refine cond_sx h (by kernel_rfl) (fun g4822 h => ?_) (fun g4822 h => ?_)
   ·refine chk_sx h (fun g4819 h => ?_)
    refine chk_sx h (fun g4821 h => ?_)
    refine reg_f ?_
    have k4818 : 0 ≤ i7 ∧ i7 < ((l.length : Nat) : Int) := by first | simpa only [Bool.and_eq_true, decide_eq_true_eq, bne_iff_ne, ne_eq] using g4819 | (simp at g4819 ⊢; omega)
    have k4820 : (c0q19 ++ ([(ix l i7)] : List GPost)).length * 24 ≤ 140737488355328 := by first | simpa only [Bool.and_eq_true, decide_eq_true_eq, bne_iff_ne, ne_eq] using g4821 | (simp at g4821 ⊢; omega)
    refine rs 8 [none, none, none, some ⟨.iptr (fl l) ((i7).toNat * 3), [], 1, []⟩, some ⟨.agg (Enc.cells (ix l i7)), [], 1, []⟩, none, some ⟨.own 2 0 (c0q19 ++ ([(ix l i7)] : List GPost)).length, [(2, .row 92 (fl (c0q19 ++ ([(ix l i7)] : List GPost)))), (0, .dead)], 3, [0, 1]⟩] _ (by kernel_rfl) (allP_cons (ob_app (P := Try.prog) c0q19 ([(ix l i7)] : List GPost) 3 24 rfl (appCells (fl ([(ix l i7)] : List GPost)) 0 (([(ix l i7)] : List GPost).length * 3)) ([(ix l i7)] : List GPost).length (app_own ([(ix l i7)] : List GPost) 3 rfl) rfl (0 + ([(ix l i7)] : List GPost).length * 3 ≤ (fl ([(ix l i7)] : List GPost)).length) (app_own_le ([(ix l i7)] : List GPost) 3 rfl) 92 (by kernel_rfl) (by decide) k4820 0 2 [1]) (allP_cons (ob_ldw l i7 3 ((i7).toNat * 3) k4818 rfl (by first | rfl | omega) [iS (ix l i7).Task, iS (ix l i7).Case, iS (ix l i7).Value] rfl 1 []) (allP_cons (ob_ix_l l 3 1 i7 k4818) allP_nil))) ?_
    refine rf [(0, .sl l.length (fl l)), (1, iS task), (5, .own 2 0 (c0q19 ++ ([(ix l i7)] : List GPost)).length), (6, iS i7)] [(0, .dead), (1, .row 92 (fl ([(ix l i7)] : List GPost))), (2, .row 92 (fl (c0q19 ++ ([(ix l i7)] : List GPost))))] 3 (by kernel_rfl) ?_
    exact hK4809 ((c0q19 ++ ([(ix l i7)] : List GPost))) _ _ _ h (leSt_m [(0, 2)] [] (by simp only [push_cast, leL_flD, renL_flD, seval]) (by simp only [push_cast, leL_flD, renL_flD, seval]) rfl rfl rfl)
   ·exact hK4809 (c0q19) _ _ _ h (leSt_m [(0, 0)] [] (by simp only [push_cast, leL_flD, renL_flD, seval]) (by simp only [push_cast, leL_flD, renL_flD, seval]) rfl rfl rfl)
  ·rintro c0q21 h
   try dsimp only at h ⊢
   unfold taskmillref_Gone_j1 at h
   refine wk_id ?_
   refine reg_f ?_
   refine rs 3 [] [] (by kernel_rfl) allP_nil ?_
   refine rf [(0, .sl l.length (fl l)), (1, iS task), (5, .own 0 0 c0q21.length), (6, iS (IntKind.i64.wrap (i7 + 1)))] [(0, .row 92 (fl c0q21))] 1 (by kernel_rfl) ?_
   exact hn2 ((IntKind.i64.wrap (i7 + 1)), c0q21) _ _ _ (Option.some.inj h).symm (leSt_m [(0, 0)] [] (by simp only [push_cast, leL_flD, renL_flD, seval]) (by simp only [push_cast, leL_flD, renL_flD, seval]) rfl rfl rfl)
 ·change R2 (.exit 0) _ _ _
  refine ex_cast hx2 (id := 0) ?_
  obtain ⟨r0, h, e0⟩ := map_sx h
  have e1 := hr2 r0 e0.symm
  subst r0
  refine wk_id ?_
  refine wk_id ?_
  refine seq_np ?_
  refine reg_f ?_
  refine rs 2 [] [] (by kernel_rfl) allP_nil ?_
  refine rf [(4, .own 0 0 c0q19.length)] [(0, .row 92 (fl c0q19))] 1 (by kernel_rfl) ?_
  refine wk_id ?_
  obtain rfl := Option.some.inj h
  refine ret_at (.own 0 0 c0q19.length) (by kernel_rfl) ?_
  exact ret_e [(0, 0)] [] (by simp only [push_cast, leL_flD, renL_flD, seval]) (by simp only [push_cast, leL_flD, renL_flD, seval]) rfl rfl rfl

set_option maxRecDepth 100000 in
set_option maxHeartbeats 200000000 in
theorem taskmillref_AllGone_spec (l : (List Pipe)) (w : (List GWake)) (r : (List Pipe)) (h : taskmillref_AllGone l w = some r) : SpecW Try.prog 29 [.sl l.length (fl l), .sl w.length (fl w)] [] 0 (fun x h n => x = .own 0 0 r.length ∧ h = [(0, .row 57 (fl r))] ∧ n = 1) := by
 unfold taskmillref_AllGone at h
 refine spec_of (draw_ok _) Try.func29 rfl (by decide) rfl (by kernel_rfl) ?_
 refine seq_np ?_
 refine reg_f ?_
 refine rs 1 [] [] (by kernel_rfl) allP_nil ?_
 refine rf [(0, .sl l.length (fl l)), (1, .sl w.length (fl w))] [] 0 (by kernel_rfl) ?_
 refine wk_id ?_
 refine seq_np ?_
 refine reg_f ?_
 refine rs 1 [] [] (by kernel_rfl) allP_nil ?_
 refine rf [(0, .sl l.length (fl l)), (1, .sl w.length (fl w)), (5, .v (.slice none 0 0))] [] 0 (by kernel_rfl) ?_
 refine wk_id ?_
 refine seq_np ?_
 refine seq_np ?_
 refine reg_f ?_
 refine rs 1 [] [] (by kernel_rfl) allP_nil ?_
 refine rf [(0, .sl l.length (fl l)), (1, .sl w.length (fl w)), (5, .v (.slice none 0 0)), (6, iS 0)] [] 0 (by kernel_rfl) ?_
 refine wk_id ?_
 refine block_np ?_
 refine loop_sx (S := Int × (List Pipe)) (fun a => ([(0, .sl l.length (fl l)), (1, .sl w.length (fl w)), (5, .own 0 0 a.2.length), (6, iS a.1)], [(0, .row 57 (fl a.2))], 1)) h (leSt_m [] [] (by simp only [push_cast, leL_flD, renL_flD, seval]) (by simp only [push_cast, leL_flD, renL_flD, seval]) rfl rfl rfl) ?_
 rintro ⟨i7, c0q8⟩ o3 R3 h hr3 hn3 hx3 ht3
 try dsimp only at h hn3 ⊢
 unfold taskmillref_AllGone_l2 at h
 try dsimp only at h
 refine seq_np ?_
 refine seq_np ?_
 refine reg_f ?_
 refine rs 4 [] [] (by kernel_rfl) allP_nil ?_
 refine rf [(0, .sl l.length (fl l)), (1, .sl w.length (fl w)), (5, .own 0 0 c0q8.length), (6, iS i7), (12, bS (decide (i7 < ((l.length : Nat) : Int))))] [(0, .row 57 (fl c0q8))] 1 (by kernel_rfl) ?_
 refine wk_id ?_
 refine cond_sx h (by kernel_rfl) (fun g5265 h => ?_) (fun g5265 h => ?_)
 ·refine wk_id ?_
  refine seq_np ?_
  refine block_np ?_
  refine chk_sx h (fun g5175 h => ?_)
  refine seq_np ?_
  refine reg_f ?_
  have k5174 : 0 ≤ i7 ∧ i7 < ((l.length : Nat) : Int) := by first | simpa only [Bool.and_eq_true, decide_eq_true_eq, bne_iff_ne, ne_eq] using g5175 | (simp at g5175 ⊢; omega)
  refine rs 6 [none, none, some ⟨.iptr (fl l) ((i7).toNat * 5), [], 1, []⟩, some ⟨.agg (Enc.cells (ix l i7)), [], 1, []⟩] _ (by kernel_rfl) (allP_cons (ob_ldw l i7 5 ((i7).toNat * 5) k5174 rfl (by first | rfl | omega) [iS (ix l i7).Cap, .sl (ix l i7).Items.length (fl (ix l i7).Items), bS (ix l i7).Closed, .sl (ix l i7).Senders.length (fl (ix l i7).Senders), .sl (ix l i7).Getters.length (fl (ix l i7).Getters)] rfl 1 []) (allP_cons (ob_ix_l l 5 1 i7 k5174) allP_nil)) ?_
  refine rf [(0, .sl l.length (fl l)), (1, .sl w.length (fl w)), (5, .own 0 0 c0q8.length), (6, iS i7), (7, .ptr 1 0)] [(0, .row 57 (fl c0q8)), (1, .row 57 (Enc.cells (ix l i7)))] 2 (by kernel_rfl) ?_
  refine wk_id ?_
  refine seq_np ?_
  refine seq_np ?_
  refine reg_f ?_
  refine rs 1 [] [] (by kernel_rfl) allP_nil ?_
  refine rf [(0, .sl l.length (fl l)), (1, .sl w.length (fl w)), (5, .own 0 0 c0q8.length), (6, iS i7), (7, .ptr 1 0), (8, iS 0)] [(0, .row 57 (fl c0q8)), (1, .row 57 (Enc.cells (ix l i7)))] 2 (by kernel_rfl) ?_
  refine wk_id ?_
  refine block_np ?_
  refine loop_sx (S := Int × (List GPost) × (List GPost)) (fun a => ([(0, .sl l.length (fl l)), (1, .sl w.length (fl w)), (5, .own 0 0 c0q8.length), (6, iS i7), (7, .ptr 1 0), (8, iS a.1)], [(0, .row 57 (fl c0q8)), (1, .row 57 [iS (ix l i7).Cap, .sl (ix l i7).Items.length (fl (ix l i7).Items), bS (ix l i7).Closed, .sl a.2.1.length (fl a.2.1), .sl a.2.2.length (fl a.2.2)])], 2)) h (leSt_m [(0, 0), (1, 1)] [] (by simp only [push_cast, leL_flD, renL_flD, seval]) (by simp only [push_cast, leL_flD, renL_flD, seval]) rfl rfl rfl) ?_
  rintro ⟨k31, c1_Senders23, c1_Getters23⟩ o4 R4 h hr4 hn4 hx4 ht4
  try dsimp only at h hn4 ⊢
  unfold taskmillref_AllGone_l1 at h
  try dsimp only at h
  refine seq_np ?_
  refine seq_np ?_
  refine reg_f ?_
  refine rs 4 [] [] (by kernel_rfl) allP_nil ?_
  refine rf [(0, .sl l.length (fl l)), (1, .sl w.length (fl w)), (5, .own 0 0 c0q8.length), (6, iS i7), (7, .ptr 1 0), (8, iS k31), (22, bS (decide (k31 < ((w.length : Nat) : Int))))] [(0, .row 57 (fl c0q8)), (1, .row 57 [iS (ix l i7).Cap, .sl (ix l i7).Items.length (fl (ix l i7).Items), bS (ix l i7).Closed, .sl c1_Senders23.length (fl c1_Senders23), .sl c1_Getters23.length (fl c1_Getters23)])] 2 (by kernel_rfl) ?_
  refine wk_id ?_
  refine cond_sx h (by kernel_rfl) (fun g5264 h => ?_) (fun g5264 h => ?_)
  ·refine wk_id ?_
   refine seq_np ?_
   refine block_np ?_
   refine chk_sx h (fun g5252 h => ?_)
   refine seq_np ?_
   refine reg_t ?_
   have k5251 : 0 ≤ k31 ∧ k31 < ((w.length : Nat) : Int) := by first | simpa only [Bool.and_eq_true, decide_eq_true_eq, bne_iff_ne, ne_eq] using g5252 | (simp at g5252 ⊢; omega)
   refine rs 7 [none, none, none, none, some ⟨.iptr (fl w) ((k31).toNat * 5), [], 6, []⟩, none, some ⟨iS (ix w k31).Task, [], 8, []⟩] _ (by kernel_rfl) (allP_cons (ob_ld w k31 5 0 (((k31).toNat * 5) + 0) k5251 rfl (by decide) (by first | rfl | omega) (dflS Try.prog 3) (iS (ix w k31).Task) rfl 8 []) (allP_cons (ob_ix_l w 5 6 k31 k5251) allP_nil)) ?_
   obtain ⟨r5253, hr5253, h⟩ := bind_sx h
   refine call_x (taskmillref_Gone_spec c1_Senders23 (ix w k31).Task r5253 hr5253) (args := [.sl c1_Senders23.length (fl c1_Senders23), iS (ix w k31).Task]) (dst := (some 32)) (by kernel_rfl) [(0, .row 57 (fl c0q8)), (1, .row 57 [iS (ix l i7).Cap, .sl (ix l i7).Items.length (fl (ix l i7).Items), bS (ix l i7).Closed, .sl c1_Senders23.length (fl c1_Senders23), .sl c1_Getters23.length (fl c1_Getters23)])] 9 (by kernel_rfl) [] [] (.own 9 0 r5253.length) [(9, .row 92 (fl r5253))] (by simp only [push_cast, leL_flD, renL_flD, seval]) (by simp only [push_cast, leL_flD, renL_flD, seval]) (by kernel_rfl) (.inl rfl) (by simp only [push_cast, leL_flD, renL_flD, seval]) (by simp only [push_cast, leL_flD, renL_flD, seval]) ?_
   refine rs 2 [] [] (by kernel_rfl) allP_nil ?_
   refine rt [(0, .sl l.length (fl l)), (1, .sl w.length (fl w)), (5, .own 0 0 c0q8.length), (6, iS i7), (7, .ptr 1 0), (8, iS k31)] [(0, .row 57 (fl c0q8)), (1, .row 57 [iS (ix l i7).Cap, .sl (ix l i7).Items.length (fl (ix l i7).Items), bS (ix l i7).Closed, .own 9 0 r5253.length, .sl c1_Getters23.length (fl c1_Getters23)]), (9, .row 92 (fl r5253))] 13 follows (by kernel_rfl) ?_
   refine wk_id ?_
   refine chk_sx h (fun g5258 h => ?_)
   refine reg_t ?_
   have k5257 : 0 ≤ k31 ∧ k31 < ((w.length : Nat) : Int) := by first | simpa only [Bool.and_eq_true, decide_eq_true_eq, bne_iff_ne, ne_eq] using g5258 | (simp at g5258 ⊢; omega)
   refine rs 7 [none, none, none, none, some ⟨.iptr (fl w) ((k31).toNat * 5), [], 17, []⟩, none, some ⟨iS (ix w k31).Task, [], 19, []⟩] _ (by kernel_rfl) (allP_cons (ob_ld w k31 5 0 (((k31).toNat * 5) + 0) k5257 rfl (by decide) (by first | rfl | omega) (dflS Try.prog 3) (iS (ix w k31).Task) rfl 19 []) (allP_cons (ob_ix_l w 5 17 k31 k5257) allP_nil)) ?_
   obtain ⟨r5259, hr5259, h⟩ := bind_sx h
   refine call_x (taskmillref_Gone_spec c1_Getters23 (ix w k31).Task r5259 hr5259) (args := [.sl c1_Getters23.length (fl c1_Getters23), iS (ix w k31).Task]) (dst := (some 41)) (by kernel_rfl) [(0, .row 57 (fl c0q8)), (1, .row 57 [iS (ix l i7).Cap, .sl (ix l i7).Items.length (fl (ix l i7).Items), bS (ix l i7).Closed, .own 9 0 r5253.length, .sl c1_Getters23.length (fl c1_Getters23)]), (9, .row 92 (fl r5253))] 20 (by kernel_rfl) [] [] (.own 20 0 r5259.length) [(20, .row 92 (fl r5259))] (by simp only [push_cast, leL_flD, renL_flD, seval]) (by simp only [push_cast, leL_flD, renL_flD, seval]) (by kernel_rfl) (.inl rfl) (by simp only [push_cast, leL_flD, renL_flD, seval]) (by simp only [push_cast, leL_flD, renL_flD, seval]) ?_
   refine rs 2 [] [] (by kernel_rfl) allP_nil ?_
   refine rt [(0, .sl l.length (fl l)), (1, .sl w.length (fl w)), (5, .own 0 0 c0q8.length), (6, iS i7), (7, .ptr 1 0), (8, iS k31)] [(0, .row 57 (fl c0q8)), (1, .row 57 [iS (ix l i7).Cap, .sl (ix l i7).Items.length (fl (ix l i7).Items), bS (ix l i7).Closed, .own 9 0 r5253.length, .own 20 0 r5259.length]), (9, .row 92 (fl r5253)), (20, .row 92 (fl r5259))] 24 follows (by kernel_rfl) ?_
   refine wk_id ?_
   refine wk_id ?_
   refine reg_f ?_
   refine rs 3 [] [] (by kernel_rfl) allP_nil ?_
   refine rf [(0, .sl l.length (fl l)), (1, .sl w.length (fl w)), (5, .own 0 0 c0q8.length), (6, iS i7), (7, .ptr 1 0), (8, iS (IntKind.i64.wrap (k31 + 1)))] [(0, .row 57 (fl c0q8)), (1, .row 57 [iS (ix l i7).Cap, .sl (ix l i7).Items.length (fl (ix l i7).Items), bS (ix l i7).Closed, .own 9 0 r5253.length, .own 20 0 r5259.length]), (9, .row 92 (fl r5253)), (20, .row 92 (fl r5259))] 24 (by kernel_rfl) ?_
   exact hn4 ((IntKind.i64.wrap (k31 + 1)), r5253, r5259) _ _ _ (Option.some.inj h).symm (leSt_m [(0, 0), (1, 1)] [9, 20] (by simp only [leS_frz, leS_cut, leL_flD, renL_flD, push_cast, seval]) (by simp only [leS_frz, leS_cut, leL_flD, renL_flD, push_cast, seval]) rfl rfl rfl)
  ·change R4 (.exit 2) _ _ _
   refine ex_cast hx4 (id := 2) ?_
   obtain ⟨r0, h, e0⟩ := map_sx h
   have e1 := hr4 r0 e0.symm
   subst r0
   refine wk_id ?_
   refine wk_id ?_
   refine chk_sx h (fun g5263 h => ?_)
   refine reg_f ?_
   have k5262 : (c0q8 ++ ([(Pipe.mk (ix l i7).Cap (ix l i7).Items (ix l i7).Closed c1_Senders23 c1_Getters23)] : List Pipe)).length * 88 ≤ 140737488355328 := by first | simpa only [Bool.and_eq_true, decide_eq_true_eq, bne_iff_ne, ne_eq] using g5263 | (simp at g5263 ⊢; omega)
   refine rs 5 [none, none, none, some ⟨.own 3 0 (c0q8 ++ ([(Pipe.mk (ix l i7).Cap (ix l i7).Items (ix l i7).Closed c1_Senders23 c1_Getters23)] : List Pipe)).length, [(3, .row 57 (fl (c0q8 ++ ([(Pipe.mk (ix l i7).Cap (ix l i7).Items (ix l i7).Closed c1_Senders23 c1_Getters23)] : List Pipe)))), (0, .dead)], 4, [0, 2]⟩] _ (by kernel_rfl) (allP_cons (ob_app (P := Try.prog) c0q8 ([(Pipe.mk (ix l i7).Cap (ix l i7).Items (ix l i7).Closed c1_Senders23 c1_Getters23)] : List Pipe) 5 88 rfl (appCells (fl ([(Pipe.mk (ix l i7).Cap (ix l i7).Items (ix l i7).Closed c1_Senders23 c1_Getters23)] : List Pipe)) 0 (([(Pipe.mk (ix l i7).Cap (ix l i7).Items (ix l i7).Closed c1_Senders23 c1_Getters23)] : List Pipe).length * 5)) ([(Pipe.mk (ix l i7).Cap (ix l i7).Items (ix l i7).Closed c1_Senders23 c1_Getters23)] : List Pipe).length (app_own ([(Pipe.mk (ix l i7).Cap (ix l i7).Items (ix l i7).Closed c1_Senders23 c1_Getters23)] : List Pipe) 5 rfl) rfl (0 + ([(Pipe.mk (ix l i7).Cap (ix l i7).Items (ix l i7).Closed c1_Senders23 c1_Getters23)] : List Pipe).length * 5 ≤ (fl ([(Pipe.mk (ix l i7).Cap (ix l i7).Items (ix l i7).Closed c1_Senders23 c1_Getters23)] : List Pipe)).length) (app_own_le ([(Pipe.mk (ix l i7).Cap (ix l i7).Items (ix l i7).Closed c1_Senders23 c1_Getters23)] : List Pipe) 5 rfl) 57 (by kernel_rfl) (by decide) k5262 0 3 [2]) allP_nil) ?_
   refine rf [(0, .sl l.length (fl l)), (1, .sl w.length (fl w)), (5, .own 3 0 (c0q8 ++ ([(Pipe.mk (ix l i7).Cap (ix l i7).Items (ix l i7).Closed c1_Senders23 c1_Getters23)] : List Pipe)).length), (6, iS i7)] [(0, .dead), (1, .row 57 [iS (ix l i7).Cap, .sl (ix l i7).Items.length (fl (ix l i7).Items), bS (ix l i7).Closed, .sl c1_Senders23.length (fl c1_Senders23), .sl c1_Getters23.length (fl c1_Getters23)]), (2, .row 57 (fl ([(Pipe.mk (ix l i7).Cap (ix l i7).Items (ix l i7).Closed c1_Senders23 c1_Getters23)] : List Pipe))), (3, .row 57 (fl (c0q8 ++ ([(Pipe.mk (ix l i7).Cap (ix l i7).Items (ix l i7).Closed c1_Senders23 c1_Getters23)] : List Pipe))))] 4 (by kernel_rfl) ?_
   refine wk_id ?_
   refine wk_id ?_
   refine reg_f ?_
   refine rs 3 [] [] (by kernel_rfl) allP_nil ?_
   refine rf [(0, .sl l.length (fl l)), (1, .sl w.length (fl w)), (5, .own 3 0 (c0q8 ++ ([(Pipe.mk (ix l i7).Cap (ix l i7).Items (ix l i7).Closed c1_Senders23 c1_Getters23)] : List Pipe)).length), (6, iS (IntKind.i64.wrap (i7 + 1)))] [(0, .dead), (1, .row 57 [iS (ix l i7).Cap, .sl (ix l i7).Items.length (fl (ix l i7).Items), bS (ix l i7).Closed, .sl c1_Senders23.length (fl c1_Senders23), .sl c1_Getters23.length (fl c1_Getters23)]), (2, .row 57 (fl ([(Pipe.mk (ix l i7).Cap (ix l i7).Items (ix l i7).Closed c1_Senders23 c1_Getters23)] : List Pipe))), (3, .row 57 (fl (c0q8 ++ ([(Pipe.mk (ix l i7).Cap (ix l i7).Items (ix l i7).Closed c1_Senders23 c1_Getters23)] : List Pipe))))] 4 (by kernel_rfl) ?_
   exact hn3 ((IntKind.i64.wrap (i7 + 1)), (c0q8 ++ ([(Pipe.mk (ix l i7).Cap (ix l i7).Items (ix l i7).Closed c1_Senders23 c1_Getters23)] : List Pipe))) _ _ _ (Option.some.inj h).symm (leSt_m [(0, 3)] [] (by simp only [push_cast, leL_flD, renL_flD, seval]) (by simp only [push_cast, leL_flD, renL_flD, seval]) rfl rfl rfl)
 ·change R3 (.exit 0) _ _ _
  refine ex_cast hx3 (id := 0) ?_
  obtain ⟨r0, h, e0⟩ := map_sx h
  have e1 := hr3 r0 e0.symm
  subst r0
  refine wk_id ?_
  refine wk_id ?_
  refine seq_np ?_
  refine reg_f ?_
  refine rs 2 [] [] (by kernel_rfl) allP_nil ?_
  refine rf [(4, .own 0 0 c0q8.length)] [(0, .row 57 (fl c0q8))] 1 (by kernel_rfl) ?_
  refine wk_id ?_
  obtain rfl := Option.some.inj h
  refine ret_at (.own 0 0 c0q8.length) (by kernel_rfl) ?_
  exact ret_e [(0, 0)] [] (by simp only [push_cast, leL_flD, renL_flD, seval]) (by simp only [push_cast, leL_flD, renL_flD, seval]) rfl rfl rfl

set_option maxRecDepth 100000 in
set_option maxHeartbeats 200000000 in
theorem taskmillref_Chosen_spec (l : (List Pipe)) (task : Int) (k : Int) (c : GCase) (r : (List Pipe) × Bool × Bool × Bool × Int × Int × (List GWake)) (h : taskmillref_Chosen l task k c = some r) : SpecW Try.prog 23 [.sl l.length (fl l), iS task, iS k, .agg (Enc.cells c)] [] 0 (fun x h n => x = .tup [.sl r.1.length (fl r.1), .agg [bS r.2.1, bS r.2.2.1, bS r.2.2.2.1, iS r.2.2.2.2.1, iS r.2.2.2.2.2.1, .sl r.2.2.2.2.2.2.length (fl r.2.2.2.2.2.2)]] ∧ h = [] ∧ n = 0) := by
 unfold taskmillref_Chosen at h
 refine spec_of (draw_ok _) Try.func23 rfl (by decide) rfl (by kernel_rfl) ?_
 refine seq_np ?_
 refine reg_f ?_
 refine rs 3 [] [] (by kernel_rfl) allP_nil ?_
 refine rf [(0, .sl l.length (fl l)), (1, iS task), (2, iS k), (7, .ptr 0 0), (9, .ptr 1 0)] [(0, .row 49 (Enc.cells c)), (1, .row 33 [bS false, bS false, bS false, iS 0, iS 0, .v (.slice none 0 0)])] 2 (by kernel_rfl) ?_
 refine wk_id ?_
 refine seq_np ?_
 refine seq_np ?_
 refine reg_f ?_
 refine rs 3 [] [] (by kernel_rfl) allP_nil ?_
 refine rf [(0, .sl l.length (fl l)), (1, iS task), (2, iS k), (7, .ptr 0 0), (9, .ptr 1 0), (15, bS (decide (c.Pipe < 0)))] [(0, .row 49 (Enc.cells c)), (1, .row 33 [bS false, bS false, bS false, iS 0, iS 0, .v (.slice none 0 0)])] 2 (by kernel_rfl) ?_
 refine wk_id ?_
 refine cond_sx h (by kernel_rfl) (fun g5295 h => ?_) (fun g5295 h => ?_)
 ·refine seq_np ?_
  refine reg_f ?_
  refine rs 4 [] [] (by kernel_rfl) allP_nil ?_
  refine rf [(8, .sl l.length (fl l)), (9, .ptr 1 0)] [(0, .row 49 (Enc.cells c)), (1, .row 33 [bS false, bS false, bS false, iS 0, iS 0, .v (.slice none 0 0)])] 2 (by kernel_rfl) ?_
  refine wk_id ?_
  obtain rfl := Option.some.inj h
  refine ret_at (.tup [.sl l.length (fl l), .agg [bS false, bS false, bS false, iS 0, iS 0, .v (.slice none 0 0)]]) (by kernel_rfl) ?_
  exact ret_e [] [] (by simp only [push_cast, leL_flD, renL_flD, seval]) (by simp only [push_cast, leL_flD, renL_flD, seval]) rfl rfl rfl
 ·refine wk_id ?_
  refine seq_np ?_
  refine reg_f ?_
  refine rs 7 [] [] (by kernel_rfl) allP_nil ?_
  refine rf [(0, .sl l.length (fl l)), (7, .ptr 0 0), (9, .ptr 1 0), (10, .ptr 2 0)] [(0, .row 49 (Enc.cells c)), (1, .row 33 [bS false, bS false, bS false, iS 0, iS 0, .v (.slice none 0 0)]), (2, .row 92 [iS task, iS k, iS c.Value])] 3 (by kernel_rfl) ?_
  refine wk_id ?_
  refine chk_sx h (fun g5273 h => ?_)
  refine seq_np ?_
  refine reg_t ?_
  have k5272 : 0 ≤ c.Pipe ∧ c.Pipe < ((l.length : Nat) : Int) := by first | simpa only [Bool.and_eq_true, decide_eq_true_eq, bne_iff_ne, ne_eq] using g5273 | (simp at g5273 ⊢; omega)
  refine rs 6 [none, none, none, some ⟨.iptr (fl l) ((c.Pipe).toNat * 5), [], 6, []⟩, some ⟨.agg (Enc.cells (ix l c.Pipe)), [], 7, []⟩] _ (by kernel_rfl) (allP_cons (ob_ldw l c.Pipe 5 ((c.Pipe).toNat * 5) k5272 rfl (by first | rfl | omega) [iS (ix l c.Pipe).Cap, .sl (ix l c.Pipe).Items.length (fl (ix l c.Pipe).Items), bS (ix l c.Pipe).Closed, .sl (ix l c.Pipe).Senders.length (fl (ix l c.Pipe).Senders), .sl (ix l c.Pipe).Getters.length (fl (ix l c.Pipe).Getters)] rfl 7 []) (allP_cons (ob_ix_l l 5 6 c.Pipe k5272) allP_nil)) ?_
  obtain ⟨r5274, hr5274, h⟩ := bind_sx h
  refine call_x (taskmillref_Taken_spec (ix l c.Pipe) (GPost.mk task k c.Value) r5274 hr5274) (args := [.agg (Enc.cells (ix l c.Pipe)), .agg [iS task, iS k, iS c.Value]]) (dst := (some 30)) (by kernel_rfl) [(0, .row 49 (Enc.cells c)), (1, .row 33 [bS false, bS false, bS false, iS 0, iS 0, .v (.slice none 0 0)]), (2, .row 92 [iS task, iS k, iS c.Value])] 9 (by kernel_rfl) [] [] (.tup [.agg [iS r5274.1, .sl r5274.2.1.length (fl r5274.2.1), bS r5274.2.2.1, .sl r5274.2.2.2.1.length (fl r5274.2.2.2.1), .sl r5274.2.2.2.2.1.length (fl r5274.2.2.2.2.1)], .agg [bS r5274.2.2.2.2.2.1, bS r5274.2.2.2.2.2.2.1, bS r5274.2.2.2.2.2.2.2.1, iS r5274.2.2.2.2.2.2.2.2.1, iS r5274.2.2.2.2.2.2.2.2.2.1, .own 9 0 r5274.2.2.2.2.2.2.2.2.2.2.length]]) [(9, .row 64 (fl r5274.2.2.2.2.2.2.2.2.2.2))] (by simp only [push_cast, leL_flD, renL_flD, seval]) (by simp only [push_cast, leL_flD, renL_flD, seval]) (by kernel_rfl) (.inl rfl) (by simp only [push_cast, leL_flD, renL_flD, seval]) (by simp only [push_cast, leL_flD, renL_flD, seval]) ?_
  refine rs 7 [] [] (by kernel_rfl) allP_nil ?_
  refine rt [(0, .sl l.length (fl l)), (7, .ptr 0 0), (9, .ptr 1 0), (10, .ptr 2 0), (11, .ptr 14 0), (12, .ptr 16 0)] [(0, .row 49 (Enc.cells c)), (1, .row 33 [bS false, bS false, bS false, iS 0, iS 0, .v (.slice none 0 0)]), (2, .row 92 [iS task, iS k, iS c.Value]), (9, .row 64 (fl r5274.2.2.2.2.2.2.2.2.2.2)), (14, .row 57 [iS r5274.1, .sl r5274.2.1.length (fl r5274.2.1), bS r5274.2.2.1, .sl r5274.2.2.2.1.length (fl r5274.2.2.2.1), .sl r5274.2.2.2.2.1.length (fl r5274.2.2.2.2.1)]), (16, .row 33 [bS r5274.2.2.2.2.2.1, bS r5274.2.2.2.2.2.2.1, bS r5274.2.2.2.2.2.2.2.1, iS r5274.2.2.2.2.2.2.2.2.1, iS r5274.2.2.2.2.2.2.2.2.2.1, .own 9 0 r5274.2.2.2.2.2.2.2.2.2.2.length])] 20 follows (by kernel_rfl) ?_
  refine wk_id ?_
  refine seq_cut (A := Pipe × Bool × Bool × Bool × Int × Int × (List GWake)) (fun a => ([(0, .sl l.length (fl l)), (7, .ptr 0 0), (9, .ptr 1 0), (11, .ptr 2 0), (12, .ptr 3 0)], [(0, .row 49 (Enc.cells c)), (1, .row 33 [bS false, bS false, bS false, iS 0, iS 0, .v (.slice none 0 0)]), (2, .row 57 (Enc.cells a.1)), (3, .row 33 [bS a.2.1, bS a.2.2.1, bS a.2.2.2.1, iS a.2.2.2.2.1, iS a.2.2.2.2.2.1, .own 4 0 a.2.2.2.2.2.2.length]), (4, .row 64 (fl a.2.2.2.2.2.2))], 5)) (fun a => (taskmillref_Chosen_j1 l c a.1 a.2.1 a.2.2.1 a.2.2.2.1 a.2.2.2.2.1 a.2.2.2.2.2.1 a.2.2.2.2.2.2) = some r) (fun K5280 hK5280 => ?_) ?_
  ·refine seq_np ?_
   refine reg_f ?_
   refine rs 2 [] [] (by kernel_rfl) allP_nil ?_
   refine rf [(0, .sl l.length (fl l)), (7, .ptr 0 0), (9, .ptr 1 0), (10, .ptr 2 0), (11, .ptr 14 0), (12, .ptr 16 0), (34, bS c.Send)] [(0, .row 49 (Enc.cells c)), (1, .row 33 [bS false, bS false, bS false, iS 0, iS 0, .v (.slice none 0 0)]), (2, .row 92 [iS task, iS k, iS c.Value]), (9, .row 64 (fl r5274.2.2.2.2.2.2.2.2.2.2)), (14, .row 57 [iS r5274.1, .sl r5274.2.1.length (fl r5274.2.1), bS r5274.2.2.1, .sl r5274.2.2.2.1.length (fl r5274.2.2.2.1), .sl r5274.2.2.2.2.1.length (fl r5274.2.2.2.2.1)]), (16, .row 33 [bS r5274.2.2.2.2.2.1, bS r5274.2.2.2.2.2.2.1, bS r5274.2.2.2.2.2.2.2.1, iS r5274.2.2.2.2.2.2.2.2.1, iS r5274.2.2.2.2.2.2.2.2.2.1, .own 9 0 r5274.2.2.2.2.2.2.2.2.2.2.length])] 20 (by kernel_rfl) ?_
   refine wk_id ?_
   refine cond_sx h (by kernel_rfl) (fun g5287 h => ?_) (fun g5287 h => ?_)
   ·refine chk_sx h (fun g5285 h => ?_)
    refine reg_t ?_
    have k5284 : 0 ≤ c.Pipe ∧ c.Pipe < ((l.length : Nat) : Int) := by first | simpa only [Bool.and_eq_true, decide_eq_true_eq, bne_iff_ne, ne_eq] using g5285 | (simp at g5285 ⊢; omega)
    refine rs 6 [none, none, none, some ⟨.iptr (fl l) ((c.Pipe).toNat * 5), [], 23, []⟩, some ⟨.agg (Enc.cells (ix l c.Pipe)), [], 24, []⟩] _ (by kernel_rfl) (allP_cons (ob_ldw l c.Pipe 5 ((c.Pipe).toNat * 5) k5284 rfl (by first | rfl | omega) [iS (ix l c.Pipe).Cap, .sl (ix l c.Pipe).Items.length (fl (ix l c.Pipe).Items), bS (ix l c.Pipe).Closed, .sl (ix l c.Pipe).Senders.length (fl (ix l c.Pipe).Senders), .sl (ix l c.Pipe).Getters.length (fl (ix l c.Pipe).Getters)] rfl 24 []) (allP_cons (ob_ix_l l 5 23 c.Pipe k5284) allP_nil)) ?_
    obtain ⟨r5286, hr5286, h⟩ := bind_sx h
    refine call_x (taskmillref_Sent_spec (ix l c.Pipe) (GPost.mk task k c.Value) r5286 hr5286) (args := [.agg (Enc.cells (ix l c.Pipe)), .agg [iS task, iS k, iS c.Value]]) (dst := (some 42)) (by kernel_rfl) [(0, .row 49 (Enc.cells c)), (1, .row 33 [bS false, bS false, bS false, iS 0, iS 0, .v (.slice none 0 0)]), (2, .row 92 [iS task, iS k, iS c.Value]), (9, .row 64 (fl r5274.2.2.2.2.2.2.2.2.2.2)), (14, .row 57 [iS r5274.1, .sl r5274.2.1.length (fl r5274.2.1), bS r5274.2.2.1, .sl r5274.2.2.2.1.length (fl r5274.2.2.2.1), .sl r5274.2.2.2.2.1.length (fl r5274.2.2.2.2.1)]), (16, .row 33 [bS r5274.2.2.2.2.2.1, bS r5274.2.2.2.2.2.2.1, bS r5274.2.2.2.2.2.2.2.1, iS r5274.2.2.2.2.2.2.2.2.1, iS r5274.2.2.2.2.2.2.2.2.2.1, .own 9 0 r5274.2.2.2.2.2.2.2.2.2.2.length])] 26 (by kernel_rfl) [] [] (.tup [.agg [iS r5286.1, .sl r5286.2.1.length (fl r5286.2.1), bS r5286.2.2.1, .sl r5286.2.2.2.1.length (fl r5286.2.2.2.1), .sl r5286.2.2.2.2.1.length (fl r5286.2.2.2.2.1)], .agg [bS r5286.2.2.2.2.2.1, bS r5286.2.2.2.2.2.2.1, bS r5286.2.2.2.2.2.2.2.1, iS r5286.2.2.2.2.2.2.2.2.1, iS r5286.2.2.2.2.2.2.2.2.2.1, .own 26 0 r5286.2.2.2.2.2.2.2.2.2.2.length]]) [(26, .row 64 (fl r5286.2.2.2.2.2.2.2.2.2.2))] (by simp only [push_cast, leL_flD, renL_flD, seval]) (by simp only [push_cast, leL_flD, renL_flD, seval]) (by kernel_rfl) (.inl rfl) (by simp only [push_cast, leL_flD, renL_flD, seval]) (by simp only [push_cast, leL_flD, renL_flD, seval]) ?_
    refine rs 5 [] [] (by kernel_rfl) allP_nil ?_
    refine rt [(0, .sl l.length (fl l)), (7, .ptr 0 0), (9, .ptr 1 0), (11, .ptr 14 0), (12, .ptr 16 0)] [(0, .row 49 (Enc.cells c)), (1, .row 33 [bS false, bS false, bS false, iS 0, iS 0, .v (.slice none 0 0)]), (2, .row 92 [iS task, iS k, iS c.Value]), (9, .row 64 (fl r5274.2.2.2.2.2.2.2.2.2.2)), (14, .row 57 [iS r5286.1, .sl r5286.2.1.length (fl r5286.2.1), bS r5286.2.2.1, .sl r5286.2.2.2.1.length (fl r5286.2.2.2.1), .sl r5286.2.2.2.2.1.length (fl r5286.2.2.2.2.1)]), (16, .row 33 [bS r5286.2.2.2.2.2.1, bS r5286.2.2.2.2.2.2.1, bS r5286.2.2.2.2.2.2.2.1, iS r5286.2.2.2.2.2.2.2.2.1, iS r5286.2.2.2.2.2.2.2.2.2.1, .own 26 0 r5286.2.2.2.2.2.2.2.2.2.2.length]), (26, .row 64 (fl r5286.2.2.2.2.2.2.2.2.2.2))] 33 follows (by kernel_rfl) ?_
    exact hK5280 ((Pipe.mk r5286.1 r5286.2.1 r5286.2.2.1 r5286.2.2.2.1 r5286.2.2.2.2.1), r5286.2.2.2.2.2.1, r5286.2.2.2.2.2.2.1, r5286.2.2.2.2.2.2.2.1, r5286.2.2.2.2.2.2.2.2.1, r5286.2.2.2.2.2.2.2.2.2.1, r5286.2.2.2.2.2.2.2.2.2.2) _ _ _ h (leSt_m [(0, 0), (1, 1), (2, 14), (3, 16), (4, 26)] [] (by simp only [push_cast, leL_flD, renL_flD, seval]) (by simp only [push_cast, leL_flD, renL_flD, seval]) rfl rfl rfl)
   ·exact hK5280 ((Pipe.mk r5274.1 r5274.2.1 r5274.2.2.1 r5274.2.2.2.1 r5274.2.2.2.2.1), r5274.2.2.2.2.2.1, r5274.2.2.2.2.2.2.1, r5274.2.2.2.2.2.2.2.1, r5274.2.2.2.2.2.2.2.2.1, r5274.2.2.2.2.2.2.2.2.2.1, r5274.2.2.2.2.2.2.2.2.2.2) _ _ _ h (leSt_m [(0, 0), (1, 1), (2, 14), (3, 16), (4, 9)] [] (by simp only [push_cast, leL_flD, renL_flD, seval]) (by simp only [push_cast, leL_flD, renL_flD, seval]) rfl rfl rfl)
  ·rintro ⟨c2q1, c3_Done1, c3_Panic1, c3_Ok1, c3_Value1, c3_Case1, c4q1⟩ h
   try dsimp only at h ⊢
   unfold taskmillref_Chosen_j1 at h
   refine seq_np ?_
   refine seq_np ?_
   refine reg_f ?_
   refine rs 3 [] [] (by kernel_rfl) allP_nil ?_
   refine rf [(0, .sl l.length (fl l)), (7, .ptr 0 0), (9, .ptr 1 0), (11, .ptr 2 0), (12, .ptr 3 0), (47, bS (!c3_Done1))] [(0, .row 49 (Enc.cells c)), (1, .row 33 [bS false, bS false, bS false, iS 0, iS 0, .v (.slice none 0 0)]), (2, .row 57 (Enc.cells c2q1)), (3, .row 33 [bS c3_Done1, bS c3_Panic1, bS c3_Ok1, iS c3_Value1, iS c3_Case1, .own 4 0 c4q1.length]), (4, .row 64 (fl c4q1))] 5 (by kernel_rfl) ?_
   refine wk_id ?_
   refine cond_sx h (by kernel_rfl) (fun g5294 h => ?_) (fun g5294 h => ?_)
   ·refine seq_np ?_
    refine reg_t ?_
    refine rs 4 [] [] (by kernel_rfl) allP_nil ?_
    refine rt [(8, .sl l.length (fl l)), (9, .ptr 1 0)] [(0, .row 49 (Enc.cells c)), (1, .row 33 [bS c3_Done1, bS c3_Panic1, bS c3_Ok1, iS c3_Value1, iS c3_Case1, .own 4 0 c4q1.length]), (2, .row 57 (Enc.cells c2q1)), (3, .row 33 [bS c3_Done1, bS c3_Panic1, bS c3_Ok1, iS c3_Value1, iS c3_Case1, .own 4 0 c4q1.length]), (4, .row 64 (fl c4q1))] 9 follows (by kernel_rfl) ?_
    refine wk_id ?_
    obtain rfl := Option.some.inj h
    refine ret_at (.tup [.sl l.length (fl l), .agg [bS c3_Done1, bS c3_Panic1, bS c3_Ok1, iS c3_Value1, iS c3_Case1, .own 4 0 c4q1.length]]) (by kernel_rfl) ?_
    exact ret_e [] [4] (by simp only [leS_frz, leS_cut, leL_flD, renL_flD, push_cast, seval]) (by simp only [leS_frz, leS_cut, leL_flD, renL_flD, push_cast, seval]) rfl rfl rfl
   ·refine wk_mk [(0, .sl l.length (fl l)), (7, .ptr 0 0), (9, .ptr 1 0), (11, .ptr 2 0), (12, .ptr 3 0), (47, bS (!c3_Done1))] [(0, .row 49 (Enc.cells c)), (1, .row 33 [bS false, bS false, bS false, iS 0, iS 0, .v (.slice none 0 0)]), (2, .row 57 (Enc.cells c2q1)), (3, .row 33 [bS c3_Done1, bS c3_Panic1, bS c3_Ok1, iS c3_Value1, iS c3_Case1, .sl c4q1.length (fl c4q1)])] 5 (leSt_m [(0, 0), (1, 1), (2, 2), (3, 3)] [4] (by simp only [leS_frz, leS_cut, leL_flD, renL_flD, push_cast, seval]) (by simp only [leS_frz, leS_cut, leL_flD, renL_flD, push_cast, seval]) rfl rfl rfl) ?_
    refine seq_np ?_
    refine reg_t ?_
    refine rs 4 [] [] (by kernel_rfl) allP_nil ?_
    obtain ⟨r5292, hr5292, h⟩ := bind_sx h
    refine call_x (taskmillref_WithPipe_spec l c.Pipe c2q1 r5292 hr5292) (args := [.sl l.length (fl l), iS c.Pipe, .agg (Enc.cells c2q1)]) (dst := (some 54)) (by kernel_rfl) [(0, .row 49 (Enc.cells c)), (1, .row 33 [bS false, bS false, bS false, iS 0, iS 0, .v (.slice none 0 0)]), (2, .row 57 (Enc.cells c2q1)), (3, .row 33 [bS c3_Done1, bS c3_Panic1, bS c3_Ok1, iS c3_Value1, iS c3_Case1, .sl c4q1.length (fl c4q1)])] 9 (by kernel_rfl) [] [] (.own 9 0 r5292.length) [(9, .row 57 (fl r5292))] (by simp only [push_cast, leL_flD, renL_flD, seval]) (by simp only [push_cast, leL_flD, renL_flD, seval]) (by kernel_rfl) (.inl rfl) (by simp only [push_cast, leL_flD, renL_flD, seval]) (by simp only [push_cast, leL_flD, renL_flD, seval]) ?_
    refine rs 2 [] [] (by kernel_rfl) allP_nil ?_
    obtain ⟨r5293, hr5293, h⟩ := bind_sx h
    refine call_x (SpecW.give (taskmillref_AllGone_spec r5292 c4q1 r5293 hr5293) [(0, .row 57 (fl r5292))] [.own 0 0 r5292.length, .sl c4q1.length (fl c4q1)] [] (.own 1 0 r5293.length) [(1, .row 57 (fl r5293))] (by first | simp only [push_cast, leL_flD, renL_flD, seval] | simp only [push_cast, List.mem_singleton, true_and, and_true, leL_flD, renL_flD, seval]) (by simp only [push_cast, leL_flD, renL_flD, seval]) (by simp only [push_cast, leL_flD, renL_flD, seval]) (by simp only [push_cast, leL_flD, renL_flD, seval]) rfl (by simp only [push_cast, leL_flD, renL_flD, seval]) (by simp only [push_cast, leL_flD, renL_flD, seval]) rfl) (args := [.own 9 0 r5292.length, .sl c4q1.length (fl c4q1)]) (dst := (some 57)) (by kernel_rfl) [(0, .row 49 (Enc.cells c)), (1, .row 33 [bS false, bS false, bS false, iS 0, iS 0, .v (.slice none 0 0)]), (2, .row 57 (Enc.cells c2q1)), (3, .row 33 [bS c3_Done1, bS c3_Panic1, bS c3_Ok1, iS c3_Value1, iS c3_Case1, .sl c4q1.length (fl c4q1)]), (9, .row 57 (fl r5292))] 13 (by kernel_rfl) [(0, 9)] [] (.own 14 0 r5293.length) [(14, .row 57 (fl r5293)), (9, .dead)] (by simp only [push_cast, leL_flD, renL_flD, seval]) (by simp only [push_cast, leL_flD, renL_flD, seval]) (by kernel_rfl) (.inl rfl) (by simp only [push_cast, leL_flD, renL_flD, seval]) (by simp only [push_cast, leL_flD, renL_flD, seval]) ?_
    refine rs 3 [] [] (by kernel_rfl) allP_nil ?_
    refine rt [(8, .own 14 0 r5293.length), (9, .ptr 1 0)] [(0, .row 49 (Enc.cells c)), (1, .row 33 [bS c3_Done1, bS c3_Panic1, bS c3_Ok1, iS c3_Value1, iS c3_Case1, .sl c4q1.length (fl c4q1)]), (2, .row 57 (Enc.cells c2q1)), (3, .row 33 [bS c3_Done1, bS c3_Panic1, bS c3_Ok1, iS c3_Value1, iS c3_Case1, .sl c4q1.length (fl c4q1)]), (9, .dead), (14, .row 57 (fl r5293))] 19 follows (by kernel_rfl) ?_
    refine wk_id ?_
    obtain rfl := Option.some.inj h
    refine ret_at (.tup [.own 14 0 r5293.length, .agg [bS c3_Done1, bS c3_Panic1, bS c3_Ok1, iS c3_Value1, iS c3_Case1, .sl c4q1.length (fl c4q1)]]) (by kernel_rfl) ?_
    exact ret_e [] [14] (by simp only [leS_frz, leS_cut, leL_flD, renL_flD, push_cast, seval]) (by simp only [leS_frz, leS_cut, leL_flD, renL_flD, push_cast, seval]) rfl rfl rfl

set_option maxRecDepth 100000 in
set_option maxHeartbeats 200000000 in
theorem taskmillref_Picked_spec (l : (List Pipe)) (task : Int) (cases : (List GCase)) (order : (List Int)) (xdef : Bool) (r : (List Pipe) × Answer) (h : taskmillref_Picked l task cases order xdef = some r) : SpecW Try.prog 21 [.sl l.length (fl l), iS task, .sl cases.length (fl cases), .sl order.length (fl order), bS xdef] [] 0 (fun x h n => x = .tup [.sl r.1.length (fl r.1), .agg (Enc.cells r.2)] ∧ h = [] ∧ n = 0) := by
 unfold taskmillref_Picked at h
 refine spec_of (draw_ok _) Try.func21 rfl (by decide) rfl (by kernel_rfl) ?_
 refine seq_np ?_
 refine reg_f ?_
 refine rs 2 [] [] (by kernel_rfl) allP_nil ?_
 refine rf [(0, .sl l.length (fl l)), (1, iS task), (2, .sl cases.length (fl cases)), (3, .sl order.length (fl order)), (4, bS xdef), (11, .ptr 0 0)] [(0, .row 33 [bS false, bS false, bS false, iS 0, iS 0, .v (.slice none 0 0)])] 1 (by kernel_rfl) ?_
 refine wk_id ?_
 refine seq_np ?_
 refine seq_np ?_
 refine reg_f ?_
 refine rs 1 [] [] (by kernel_rfl) allP_nil ?_
 refine rf [(0, .sl l.length (fl l)), (1, iS task), (2, .sl cases.length (fl cases)), (3, .sl order.length (fl order)), (4, bS xdef), (11, .ptr 0 0), (12, iS 0)] [(0, .row 33 [bS false, bS false, bS false, iS 0, iS 0, .v (.slice none 0 0)])] 1 (by kernel_rfl) ?_
 refine wk_id ?_
 refine block_np ?_
 refine loop_sx (S := Int) (fun a => ([(0, .sl l.length (fl l)), (1, iS task), (2, .sl cases.length (fl cases)), (3, .sl order.length (fl order)), (4, bS xdef), (11, .ptr 0 0), (12, iS a)], [(0, .row 33 [bS false, bS false, bS false, iS 0, iS 0, .v (.slice none 0 0)])], 1)) h (leSt_m [(0, 0)] [] (by simp only [push_cast, leL_flD, renL_flD, seval]) (by simp only [push_cast, leL_flD, renL_flD, seval]) rfl rfl rfl) ?_
 rintro i7 o3 R3 h hr3 hn3 hx3 ht3
 try dsimp only at h hn3 ⊢
 unfold taskmillref_Picked_l2 at h
 try dsimp only at h
 refine seq_np ?_
 refine seq_np ?_
 refine reg_f ?_
 refine rs 4 [] [] (by kernel_rfl) allP_nil ?_
 refine rf [(0, .sl l.length (fl l)), (1, iS task), (2, .sl cases.length (fl cases)), (3, .sl order.length (fl order)), (4, bS xdef), (11, .ptr 0 0), (12, iS i7), (22, bS (decide (i7 < ((order.length : Nat) : Int))))] [(0, .row 33 [bS false, bS false, bS false, iS 0, iS 0, .v (.slice none 0 0)])] 1 (by kernel_rfl) ?_
 refine wk_id ?_
 refine cond_sx h (by kernel_rfl) (fun g5731 h => ?_) (fun g5731 h => ?_)
 ·refine wk_id ?_
  refine seq_np ?_
  refine block_np ?_
  refine chk_sx h (fun g5479 h => ?_)
  refine chk_sx h (fun g5481 h => ?_)
  refine chk_sx h (fun g5483 h => ?_)
  refine seq_np ?_
  refine reg_t ?_
  have k5478 : 0 ≤ i7 ∧ i7 < ((order.length : Nat) : Int) := by first | simpa only [Bool.and_eq_true, decide_eq_true_eq, bne_iff_ne, ne_eq] using g5479 | (simp at g5479 ⊢; omega)
  have k5480 : 0 ≤ i7 ∧ i7 < ((order.length : Nat) : Int) := by first | simpa only [Bool.and_eq_true, decide_eq_true_eq, bne_iff_ne, ne_eq] using g5481 | (simp at g5481 ⊢; omega)
  have k5482 : 0 ≤ (ix order i7) ∧ (ix order i7) < ((cases.length : Nat) : Int) := by first | simpa only [Bool.and_eq_true, decide_eq_true_eq, bne_iff_ne, ne_eq] using g5483 | (simp at g5483 ⊢; omega)
  refine rs 13 [none, none, none, none, some ⟨.iptr (fl order) ((i7).toNat * 1), [], 5, []⟩, some ⟨iS (ix order i7), [], 6, []⟩, none, none, none, some ⟨.iptr (fl order) ((i7).toNat * 1), [], 10, []⟩, some ⟨iS (ix order i7), [], 11, []⟩, some ⟨.iptr (fl cases) (((ix order i7)).toNat * 3), [], 12, []⟩, some ⟨.agg (Enc.cells (ix cases (ix order i7))), [], 13, []⟩] _ (by kernel_rfl) (allP_cons (ob_ldw cases (ix order i7) 3 (((ix order i7)).toNat * 3) k5482 rfl (by first | rfl | omega) [iS (ix cases (ix order i7)).Pipe, bS (ix cases (ix order i7)).Send, iS (ix cases (ix order i7)).Value] rfl 13 []) (allP_cons (ob_ix_l cases 3 12 (ix order i7) k5482) (allP_cons (ob_ld order i7 1 0 ((i7).toNat * 1) k5480 rfl (by decide) (by first | rfl | omega) (dflS Try.prog 3) (iS (ix order i7)) rfl 11 []) (allP_cons (ob_ix_l order 1 10 i7 k5480) (allP_cons (ob_ld order i7 1 0 ((i7).toNat * 1) k5478 rfl (by decide) (by first | rfl | omega) (dflS Try.prog 3) (iS (ix order i7)) rfl 6 []) (allP_cons (ob_ix_l order 1 5 i7 k5478) allP_nil)))))) ?_
  obtain ⟨r5484, hr5484, h⟩ := bind_sx h
  refine run_call 23 [.sl l.length (fl l), iS task, iS (ix order i7), .agg (Enc.cells (ix cases (ix order i7)))] (some 39) (by kernel_rfl) ?_
  refine callE_0 (taskmillref_Chosen_spec l task (ix order i7) (ix cases (ix order i7)) r5484 hr5484) (by simp only [push_cast, leL_flD, renL_flD, seval]) (by simp only [push_cast, leL_flD, renL_flD, seval]) ?_
  refine back_t ?_
  refine rs 6 [] [] (by kernel_rfl) allP_nil ?_
  refine rt [(0, .sl l.length (fl l)), (1, iS task), (2, .sl cases.length (fl cases)), (3, .sl order.length (fl order)), (4, bS xdef), (11, .ptr 0 0), (12, iS i7), (13, .sl r5484.1.length (fl r5484.1)), (14, .ptr 18 0)] [(0, .row 33 [bS false, bS false, bS false, iS 0, iS 0, .v (.slice none 0 0)]), (18, .row 33 [bS r5484.2.1, bS r5484.2.2.1, bS r5484.2.2.2.1, iS r5484.2.2.2.2.1, iS r5484.2.2.2.2.2.1, .sl r5484.2.2.2.2.2.2.length (fl r5484.2.2.2.2.2.2)])] 22 follows (by kernel_rfl) ?_
  refine wk_id ?_
  refine seq_np ?_
  refine reg_f ?_
  refine rs 2 [] [] (by kernel_rfl) allP_nil ?_
  refine rf [(0, .sl l.length (fl l)), (1, iS task), (2, .sl cases.length (fl cases)), (3, .sl order.length (fl order)), (4, bS xdef), (11, .ptr 0 0), (12, iS i7), (13, .sl r5484.1.length (fl r5484.1)), (14, .ptr 18 0), (43, bS r5484.2.1)] [(0, .row 33 [bS false, bS false, bS false, iS 0, iS 0, .v (.slice none 0 0)]), (18, .row 33 [bS r5484.2.1, bS r5484.2.2.1, bS r5484.2.2.2.1, iS r5484.2.2.2.2.1, iS r5484.2.2.2.2.2.1, .sl r5484.2.2.2.2.2.2.length (fl r5484.2.2.2.2.2.2)])] 22 (by kernel_rfl) ?_
  refine wk_id ?_
  refine cond_sx h (by kernel_rfl) (fun g5485 h => ?_) (fun g5485 h => ?_)
  ·refine seq_np ?_
   refine reg_t ?_
   refine rs 4 [] [] (by kernel_rfl) allP_nil ?_
   refine rt [(10, .sl r5484.1.length (fl r5484.1)), (11, .ptr 0 0)] [(0, .row 33 [bS r5484.2.1, bS r5484.2.2.1, bS r5484.2.2.2.1, iS r5484.2.2.2.2.1, iS r5484.2.2.2.2.2.1, .sl r5484.2.2.2.2.2.2.length (fl r5484.2.2.2.2.2.2)]), (18, .row 33 [bS r5484.2.1, bS r5484.2.2.1, bS r5484.2.2.2.1, iS r5484.2.2.2.2.1, iS r5484.2.2.2.2.2.1, .sl r5484.2.2.2.2.2.2.length (fl r5484.2.2.2.2.2.2)])] 26 follows (by kernel_rfl) ?_
   refine wk_id ?_
   refine rt_cast ht3 ?_
   obtain ⟨r0, h, e0⟩ := map_sx h
   have e1 := hr3 r0 e0.symm
   subst r0
   obtain rfl := Option.some.inj h
   refine ret_at (.tup [.sl r5484.1.length (fl r5484.1), .agg [bS r5484.2.1, bS r5484.2.2.1, bS r5484.2.2.2.1, iS r5484.2.2.2.2.1, iS r5484.2.2.2.2.2.1, .sl r5484.2.2.2.2.2.2.length (fl r5484.2.2.2.2.2.2)]]) (by kernel_rfl) ?_
   exact ret_e [] [] (by simp only [push_cast, leL_flD, renL_flD, seval]) (by simp only [push_cast, leL_flD, renL_flD, seval]) rfl rfl rfl
  ·refine wk_id ?_
   refine wk_id ?_
   refine reg_f ?_
   refine rs 3 [] [] (by kernel_rfl) allP_nil ?_
   refine rf [(0, .sl l.length (fl l)), (1, iS task), (2, .sl cases.length (fl cases)), (3, .sl order.length (fl order)), (4, bS xdef), (11, .ptr 0 0), (12, iS (IntKind.i64.wrap (i7 + 1)))] [(0, .row 33 [bS false, bS false, bS false, iS 0, iS 0, .v (.slice none 0 0)]), (18, .row 33 [bS r5484.2.1, bS r5484.2.2.1, bS r5484.2.2.2.1, iS r5484.2.2.2.2.1, iS r5484.2.2.2.2.2.1, .sl r5484.2.2.2.2.2.2.length (fl r5484.2.2.2.2.2.2)])] 22 (by kernel_rfl) ?_
   exact hn3 ((IntKind.i64.wrap (i7 + 1))) _ _ _ (Option.some.inj h).symm (leSt_m [(0, 0)] [] (by simp only [push_cast, leL_flD, renL_flD, seval]) (by simp only [push_cast, leL_flD, renL_flD, seval]) rfl rfl rfl)
 ·change R3 (.exit 0) _ _ _
  refine ex_cast hx3 (id := 0) ?_
  obtain ⟨r0, h, e0⟩ := map_sx h
  have e1 := hr3 r0 e0.symm
  subst r0
  refine wk_id ?_
  refine wk_id ?_
  refine seq_np ?_
  refine seq_np ?_
  refine reg_f ?_
  refine rs 1 [] [] (by kernel_rfl) allP_nil ?_
  refine rf [(0, .sl l.length (fl l)), (1, iS task), (2, .sl cases.length (fl cases)), (11, .ptr 0 0), (46, bS xdef)] [(0, .row 33 [bS false, bS false, bS false, iS 0, iS 0, .v (.slice none 0 0)])] 1 (by kernel_rfl) ?_
  refine wk_id ?_
  refine cond_sx h (by kernel_rfl) (fun g5730 h => ?_) (fun g5730 h => ?_)
  ·refine seq_np ?_
   refine reg_f ?_
   refine rs 4 [] [] (by kernel_rfl) allP_nil ?_
   refine rf [(10, .sl l.length (fl l)), (11, .ptr 0 0)] [(0, .row 33 [bS true, bS false, bS false, iS 0, iS (-1), .v (.slice none 0 0)])] 1 (by kernel_rfl) ?_
   refine wk_id ?_
   obtain rfl := Option.some.inj h
   refine ret_at (.tup [.sl l.length (fl l), .agg [bS true, bS false, bS false, iS 0, iS (-1), .v (.slice none 0 0)]]) (by kernel_rfl) ?_
   exact ret_e [] [] (by simp only [push_cast, leL_flD, renL_flD, seval]) (by simp only [push_cast, leL_flD, renL_flD, seval]) rfl rfl rfl
  ·refine wk_id ?_
   refine seq_np ?_
   refine seq_np ?_
   refine reg_f ?_
   refine rs 1 [] [] (by kernel_rfl) allP_nil ?_
   refine rf [(0, .sl l.length (fl l)), (1, iS task), (2, .sl cases.length (fl cases)), (11, .ptr 0 0), (15, iS 0)] [(0, .row 33 [bS false, bS false, bS false, iS 0, iS 0, .v (.slice none 0 0)])] 1 (by kernel_rfl) ?_
   refine wk_id ?_
   refine block_np ?_
   refine loop_sx (S := (List Pipe) × Int) (fun a => ([(0, .sl a.1.length (fl a.1)), (1, iS task), (2, .sl cases.length (fl cases)), (11, .ptr 0 0), (15, iS a.2)], [(0, .row 33 [bS false, bS false, bS false, iS 0, iS 0, .v (.slice none 0 0)])], 1)) h (leSt_m [(0, 0)] [] (by simp only [push_cast, leL_flD, renL_flD, seval]) (by simp only [push_cast, leL_flD, renL_flD, seval]) rfl rfl rfl) ?_
   rintro ⟨l19, k7⟩ o4 R4 h hr4 hn4 hx4 ht4
   try dsimp only at h hn4 ⊢
   unfold taskmillref_Picked_l1 at h
   try dsimp only at h
   refine seq_np ?_
   refine seq_np ?_
   refine reg_f ?_
   refine rs 4 [] [] (by kernel_rfl) allP_nil ?_
   refine rf [(0, .sl l19.length (fl l19)), (1, iS task), (2, .sl cases.length (fl cases)), (11, .ptr 0 0), (15, iS k7), (52, bS (decide (k7 < ((cases.length : Nat) : Int))))] [(0, .row 33 [bS false, bS false, bS false, iS 0, iS 0, .v (.slice none 0 0)])] 1 (by kernel_rfl) ?_
   refine wk_id ?_
   refine cond_sx h (by kernel_rfl) (fun g5729 h => ?_) (fun g5729 h => ?_)
   ·refine wk_id ?_
    refine seq_np ?_
    refine block_cut (A := (List Pipe)) (fun a => ([(0, .sl a.length (fl a)), (1, iS task), (2, .sl cases.length (fl cases)), (11, .ptr 0 0), (15, iS k7)], [(0, .row 33 [bS false, bS false, bS false, iS 0, iS 0, .v (.slice none 0 0)])], 1)) (fun a => (taskmillref_Picked_j1 task cases k7 a) = some o4) (fun K5688 hK5688 => ?_) ?_
    ·refine chk_sx h (fun g5692 h => ?_)
     refine seq_np ?_
     refine reg_f ?_
     have k5691 : 0 ≤ k7 ∧ k7 < ((cases.length : Nat) : Int) := by first | simpa only [Bool.and_eq_true, decide_eq_true_eq, bne_iff_ne, ne_eq] using g5692 | (simp at g5692 ⊢; omega)
     refine rs 6 [none, none, some ⟨.iptr (fl cases) ((k7).toNat * 3), [], 1, []⟩, some ⟨.agg (Enc.cells (ix cases k7)), [], 1, []⟩] _ (by kernel_rfl) (allP_cons (ob_ldw cases k7 3 ((k7).toNat * 3) k5691 rfl (by first | rfl | omega) [iS (ix cases k7).Pipe, bS (ix cases k7).Send, iS (ix cases k7).Value] rfl 1 []) (allP_cons (ob_ix_l cases 3 1 k7 k5691) allP_nil)) ?_
     refine rf [(0, .sl l19.length (fl l19)), (1, iS task), (2, .sl cases.length (fl cases)), (11, .ptr 0 0), (15, iS k7), (16, .ptr 1 0)] [(0, .row 33 [bS false, bS false, bS false, iS 0, iS 0, .v (.slice none 0 0)]), (1, .row 49 (Enc.cells (ix cases k7)))] 2 (by kernel_rfl) ?_
     refine wk_id ?_
     refine seq_np ?_
     refine seq_np ?_
     refine reg_f ?_
     refine rs 3 [] [] (by kernel_rfl) allP_nil ?_
     refine rf [(0, .sl l19.length (fl l19)), (1, iS task), (2, .sl cases.length (fl cases)), (11, .ptr 0 0), (15, iS k7), (16, .ptr 1 0), (61, bS (decide ((ix cases k7).Pipe < 0)))] [(0, .row 33 [bS false, bS false, bS false, iS 0, iS 0, .v (.slice none 0 0)]), (1, .row 49 (Enc.cells (ix cases k7)))] 2 (by kernel_rfl) ?_
     refine wk_id ?_
     refine cond_sx h (by kernel_rfl) (fun g5728 h => ?_) (fun g5728 h => ?_)
     ·exact hK5688 (l19) _ _ _ h (leSt_m [(0, 0)] [] (by simp only [push_cast, leL_flD, renL_flD, seval]) (by simp only [push_cast, leL_flD, renL_flD, seval]) rfl rfl rfl)
     ·refine wk_id ?_
      refine chk_sx h (fun g5697 h => ?_)
      refine seq_np ?_
      refine reg_f ?_
      have k5696 : 0 ≤ (ix cases k7).Pipe ∧ (ix cases k7).Pipe < ((l19.length : Nat) : Int) := by first | simpa only [Bool.and_eq_true, decide_eq_true_eq, bne_iff_ne, ne_eq] using g5697 | (simp at g5697 ⊢; omega)
      refine rs 7 [none, none, none, some ⟨.iptr (fl l19) (((ix cases k7).Pipe).toNat * 5), [], 2, []⟩, some ⟨.agg (Enc.cells (ix l19 (ix cases k7).Pipe)), [], 2, []⟩] _ (by kernel_rfl) (allP_cons (ob_ldw l19 (ix cases k7).Pipe 5 (((ix cases k7).Pipe).toNat * 5) k5696 rfl (by first | rfl | omega) [iS (ix l19 (ix cases k7).Pipe).Cap, .sl (ix l19 (ix cases k7).Pipe).Items.length (fl (ix l19 (ix cases k7).Pipe).Items), bS (ix l19 (ix cases k7).Pipe).Closed, .sl (ix l19 (ix cases k7).Pipe).Senders.length (fl (ix l19 (ix cases k7).Pipe).Senders), .sl (ix l19 (ix cases k7).Pipe).Getters.length (fl (ix l19 (ix cases k7).Pipe).Getters)] rfl 2 []) (allP_cons (ob_ix_l l19 5 2 (ix cases k7).Pipe k5696) allP_nil)) ?_
      refine rf [(0, .sl l19.length (fl l19)), (1, iS task), (2, .sl cases.length (fl cases)), (11, .ptr 0 0), (15, iS k7), (16, .ptr 1 0), (17, .ptr 2 0)] [(0, .row 33 [bS false, bS false, bS false, iS 0, iS 0, .v (.slice none 0 0)]), (1, .row 49 (Enc.cells (ix cases k7))), (2, .row 57 (Enc.cells (ix l19 (ix cases k7).Pipe)))] 3 (by kernel_rfl) ?_
      refine wk_id ?_
      refine seq_np ?_
      refine reg_f ?_
      refine rs 7 [] [] (by kernel_rfl) allP_nil ?_
      refine rf [(0, .sl l19.length (fl l19)), (1, iS task), (2, .sl cases.length (fl cases)), (11, .ptr 0 0), (15, iS k7), (16, .ptr 1 0), (17, .ptr 2 0), (18, .ptr 3 0)] [(0, .row 33 [bS false, bS false, bS false, iS 0, iS 0, .v (.slice none 0 0)]), (1, .row 49 (Enc.cells (ix cases k7))), (2, .row 57 (Enc.cells (ix l19 (ix cases k7).Pipe))), (3, .row 92 [iS task, iS k7, iS (ix cases k7).Value])] 4 (by kernel_rfl) ?_
      refine wk_id ?_
      refine seq_cut (A := (List GPost) × (List GPost)) (fun a => ([(0, .sl l19.length (fl l19)), (1, iS task), (2, .sl cases.length (fl cases)), (11, .ptr 0 0), (15, iS k7), (16, .ptr 1 0), (17, .ptr 2 0)], [(0, .row 33 [bS false, bS false, bS false, iS 0, iS 0, .v (.slice none 0 0)]), (1, .row 49 (Enc.cells (ix cases k7))), (2, .row 57 [iS (ix l19 (ix cases k7).Pipe).Cap, .sl (ix l19 (ix cases k7).Pipe).Items.length (fl (ix l19 (ix cases k7).Pipe).Items), bS (ix l19 (ix cases k7).Pipe).Closed, .sl a.1.length (fl a.1), .sl a.2.length (fl a.2)])], 3)) (fun a => (taskmillref_Picked_j2 task cases l19 k7 a.1 a.2) = some o4) (fun K5708 hK5708 => ?_) ?_
      ·refine seq_np ?_
       refine reg_f ?_
       refine rs 2 [] [] (by kernel_rfl) allP_nil ?_
       refine rf [(0, .sl l19.length (fl l19)), (1, iS task), (2, .sl cases.length (fl cases)), (11, .ptr 0 0), (15, iS k7), (16, .ptr 1 0), (17, .ptr 2 0), (18, .ptr 3 0), (73, bS (ix cases k7).Send)] [(0, .row 33 [bS false, bS false, bS false, iS 0, iS 0, .v (.slice none 0 0)]), (1, .row 49 (Enc.cells (ix cases k7))), (2, .row 57 (Enc.cells (ix l19 (ix cases k7).Pipe))), (3, .row 92 [iS task, iS k7, iS (ix cases k7).Value])] 4 (by kernel_rfl) ?_
       refine wk_id ?_
       refine cond_sx h (by kernel_rfl) (fun g5725 h => ?_) (fun g5725 h => ?_)
       ·refine chk_sx h (fun g5714 h => ?_)
        refine chk_sx h (fun g5716 h => ?_)
        refine reg_t ?_
        have k5713 : (ix l19 (ix cases k7).Pipe).Senders.length * 24 ≤ 140737488355328 := by first | simpa only [Bool.and_eq_true, decide_eq_true_eq, bne_iff_ne, ne_eq] using g5714 | (simp at g5714 ⊢; omega)
        have k5715 : ((ix l19 (ix cases k7).Pipe).Senders ++ ([(GPost.mk task k7 (ix cases k7).Value)] : List GPost)).length * 24 ≤ 140737488355328 := by first | simpa only [Bool.and_eq_true, decide_eq_true_eq, bne_iff_ne, ne_eq] using g5716 | (simp at g5716 ⊢; omega)
        refine rs 8 [none, none, some ⟨.own 6 0 (ix l19 (ix cases k7).Pipe).Senders.length, [(6, .row 92 (fl (ix l19 (ix cases k7).Pipe).Senders))], 7, []⟩, none, none, some ⟨.own 11 0 ((ix l19 (ix cases k7).Pipe).Senders ++ ([(GPost.mk task k7 (ix cases k7).Value)] : List GPost)).length, [(11, .row 92 (fl ((ix l19 (ix cases k7).Pipe).Senders ++ ([(GPost.mk task k7 (ix cases k7).Value)] : List GPost)))), (6, .dead)], 12, [6, 9]⟩] _ (by kernel_rfl) (allP_cons (ob_app (P := Try.prog) (ix l19 (ix cases k7).Pipe).Senders ([(GPost.mk task k7 (ix cases k7).Value)] : List GPost) 3 24 rfl (appCells (fl ([(GPost.mk task k7 (ix cases k7).Value)] : List GPost)) 0 (([(GPost.mk task k7 (ix cases k7).Value)] : List GPost).length * 3)) ([(GPost.mk task k7 (ix cases k7).Value)] : List GPost).length (app_own ([(GPost.mk task k7 (ix cases k7).Value)] : List GPost) 3 rfl) rfl (0 + ([(GPost.mk task k7 (ix cases k7).Value)] : List GPost).length * 3 ≤ (fl ([(GPost.mk task k7 (ix cases k7).Value)] : List GPost)).length) (app_own_le ([(GPost.mk task k7 (ix cases k7).Value)] : List GPost) 3 rfl) 92 (by kernel_rfl) (by decide) k5715 6 11 [9]) (allP_cons (ob_app0 (P := Try.prog) (ix l19 (ix cases k7).Pipe).Senders 3 24 rfl (fl (ix l19 (ix cases k7).Pipe).Senders) (ix l19 (ix cases k7).Pipe).Senders.length rfl rfl ((fl (ix l19 (ix cases k7).Pipe).Senders).length = (ix l19 (ix cases k7).Pipe).Senders.length * 3) (app_sl (ix l19 (ix cases k7).Pipe).Senders 3 rfl) 92 (by kernel_rfl) (by decide) k5713 6 []) allP_nil)) ?_
        refine rt [(0, .sl l19.length (fl l19)), (1, iS task), (2, .sl cases.length (fl cases)), (11, .ptr 0 0), (15, iS k7), (16, .ptr 1 0), (17, .ptr 2 0)] [(0, .row 33 [bS false, bS false, bS false, iS 0, iS 0, .v (.slice none 0 0)]), (1, .row 49 (Enc.cells (ix cases k7))), (2, .row 57 [iS (ix l19 (ix cases k7).Pipe).Cap, .sl (ix l19 (ix cases k7).Pipe).Items.length (fl (ix l19 (ix cases k7).Pipe).Items), bS (ix l19 (ix cases k7).Pipe).Closed, .own 11 0 ((ix l19 (ix cases k7).Pipe).Senders ++ ([(GPost.mk task k7 (ix cases k7).Value)] : List GPost)).length, .sl (ix l19 (ix cases k7).Pipe).Getters.length (fl (ix l19 (ix cases k7).Pipe).Getters)]), (3, .row 92 [iS task, iS k7, iS (ix cases k7).Value]), (6, .dead), (9, .row 92 (fl ([(GPost.mk task k7 (ix cases k7).Value)] : List GPost))), (11, .row 92 (fl ((ix l19 (ix cases k7).Pipe).Senders ++ ([(GPost.mk task k7 (ix cases k7).Value)] : List GPost))))] 15 follows (by kernel_rfl) ?_
        exact hK5708 (((ix l19 (ix cases k7).Pipe).Senders ++ ([(GPost.mk task k7 (ix cases k7).Value)] : List GPost)), (ix l19 (ix cases k7).Pipe).Getters) _ _ _ h (leSt_m [(0, 0), (1, 1), (2, 2)] [11] (by simp only [leS_frz, leS_cut, leL_flD, renL_flD, push_cast, seval]) (by simp only [leS_frz, leS_cut, leL_flD, renL_flD, push_cast, seval]) rfl rfl rfl)
       ·refine chk_sx h (fun g5722 h => ?_)
        refine chk_sx h (fun g5724 h => ?_)
        refine reg_t ?_
        have k5721 : (ix l19 (ix cases k7).Pipe).Getters.length * 24 ≤ 140737488355328 := by first | simpa only [Bool.and_eq_true, decide_eq_true_eq, bne_iff_ne, ne_eq] using g5722 | (simp at g5722 ⊢; omega)
        have k5723 : ((ix l19 (ix cases k7).Pipe).Getters ++ ([(GPost.mk task k7 (ix cases k7).Value)] : List GPost)).length * 24 ≤ 140737488355328 := by first | simpa only [Bool.and_eq_true, decide_eq_true_eq, bne_iff_ne, ne_eq] using g5724 | (simp at g5724 ⊢; omega)
        refine rs 8 [none, none, some ⟨.own 6 0 (ix l19 (ix cases k7).Pipe).Getters.length, [(6, .row 92 (fl (ix l19 (ix cases k7).Pipe).Getters))], 7, []⟩, none, none, some ⟨.own 11 0 ((ix l19 (ix cases k7).Pipe).Getters ++ ([(GPost.mk task k7 (ix cases k7).Value)] : List GPost)).length, [(11, .row 92 (fl ((ix l19 (ix cases k7).Pipe).Getters ++ ([(GPost.mk task k7 (ix cases k7).Value)] : List GPost)))), (6, .dead)], 12, [6, 9]⟩] _ (by kernel_rfl) (allP_cons (ob_app (P := Try.prog) (ix l19 (ix cases k7).Pipe).Getters ([(GPost.mk task k7 (ix cases k7).Value)] : List GPost) 3 24 rfl (appCells (fl ([(GPost.mk task k7 (ix cases k7).Value)] : List GPost)) 0 (([(GPost.mk task k7 (ix cases k7).Value)] : List GPost).length * 3)) ([(GPost.mk task k7 (ix cases k7).Value)] : List GPost).length (app_own ([(GPost.mk task k7 (ix cases k7).Value)] : List GPost) 3 rfl) rfl (0 + ([(GPost.mk task k7 (ix cases k7).Value)] : List GPost).length * 3 ≤ (fl ([(GPost.mk task k7 (ix cases k7).Value)] : List GPost)).length) (app_own_le ([(GPost.mk task k7 (ix cases k7).Value)] : List GPost) 3 rfl) 92 (by kernel_rfl) (by decide) k5723 6 11 [9]) (allP_cons (ob_app0 (P := Try.prog) (ix l19 (ix cases k7).Pipe).Getters 3 24 rfl (fl (ix l19 (ix cases k7).Pipe).Getters) (ix l19 (ix cases k7).Pipe).Getters.length rfl rfl ((fl (ix l19 (ix cases k7).Pipe).Getters).length = (ix l19 (ix cases k7).Pipe).Getters.length * 3) (app_sl (ix l19 (ix cases k7).Pipe).Getters 3 rfl) 92 (by kernel_rfl) (by decide) k5721 6 []) allP_nil)) ?_
        refine rt [(0, .sl l19.length (fl l19)), (1, iS task), (2, .sl cases.length (fl cases)), (11, .ptr 0 0), (15, iS k7), (16, .ptr 1 0), (17, .ptr 2 0)] [(0, .row 33 [bS false, bS false, bS false, iS 0, iS 0, .v (.slice none 0 0)]), (1, .row 49 (Enc.cells (ix cases k7))), (2, .row 57 [iS (ix l19 (ix cases k7).Pipe).Cap, .sl (ix l19 (ix cases k7).Pipe).Items.length (fl (ix l19 (ix cases k7).Pipe).Items), bS (ix l19 (ix cases k7).Pipe).Closed, .sl (ix l19 (ix cases k7).Pipe).Senders.length (fl (ix l19 (ix cases k7).Pipe).Senders), .own 11 0 ((ix l19 (ix cases k7).Pipe).Getters ++ ([(GPost.mk task k7 (ix cases k7).Value)] : List GPost)).length]), (3, .row 92 [iS task, iS k7, iS (ix cases k7).Value]), (6, .dead), (9, .row 92 (fl ([(GPost.mk task k7 (ix cases k7).Value)] : List GPost))), (11, .row 92 (fl ((ix l19 (ix cases k7).Pipe).Getters ++ ([(GPost.mk task k7 (ix cases k7).Value)] : List GPost))))] 15 follows (by kernel_rfl) ?_
        exact hK5708 ((ix l19 (ix cases k7).Pipe).Senders, ((ix l19 (ix cases k7).Pipe).Getters ++ ([(GPost.mk task k7 (ix cases k7).Value)] : List GPost))) _ _ _ h (leSt_m [(0, 0), (1, 1), (2, 2)] [11] (by simp only [leS_frz, leS_cut, leL_flD, renL_flD, push_cast, seval]) (by simp only [leS_frz, leS_cut, leL_flD, renL_flD, push_cast, seval]) rfl rfl rfl)
      ·rintro ⟨c2_Senders13, c2_Getters13⟩ h
       try dsimp only at h ⊢
       unfold taskmillref_Picked_j2 at h
       refine reg_f ?_
       refine rs 4 [] [] (by kernel_rfl) allP_nil ?_
       obtain ⟨r5727, hr5727, h⟩ := bind_sx h
       refine call_x (taskmillref_WithPipe_spec l19 (ix cases k7).Pipe (Pipe.mk (ix l19 (ix cases k7).Pipe).Cap (ix l19 (ix cases k7).Pipe).Items (ix l19 (ix cases k7).Pipe).Closed c2_Senders13 c2_Getters13) r5727 hr5727) (args := [.sl l19.length (fl l19), iS (ix cases k7).Pipe, .agg [iS (ix l19 (ix cases k7).Pipe).Cap, .sl (ix l19 (ix cases k7).Pipe).Items.length (fl (ix l19 (ix cases k7).Pipe).Items), bS (ix l19 (ix cases k7).Pipe).Closed, .sl c2_Senders13.length (fl c2_Senders13), .sl c2_Getters13.length (fl c2_Getters13)]]) (dst := (some 92)) (by kernel_rfl) [(0, .row 33 [bS false, bS false, bS false, iS 0, iS 0, .v (.slice none 0 0)]), (1, .row 49 (Enc.cells (ix cases k7))), (2, .row 57 [iS (ix l19 (ix cases k7).Pipe).Cap, .sl (ix l19 (ix cases k7).Pipe).Items.length (fl (ix l19 (ix cases k7).Pipe).Items), bS (ix l19 (ix cases k7).Pipe).Closed, .sl c2_Senders13.length (fl c2_Senders13), .sl c2_Getters13.length (fl c2_Getters13)])] 3 (by kernel_rfl) [] [] (.own 3 0 r5727.length) [(3, .row 57 (fl r5727))] (by simp only [push_cast, leL_flD, renL_flD, seval]) (by simp only [push_cast, leL_flD, renL_flD, seval]) (by kernel_rfl) (.inl rfl) (by simp only [push_cast, leL_flD, renL_flD, seval]) (by simp only [push_cast, leL_flD, renL_flD, seval]) ?_
       refine rs 1 [] [] (by kernel_rfl) allP_nil ?_
       refine rf [(0, .own 3 0 r5727.length), (1, iS task), (2, .sl cases.length (fl cases)), (11, .ptr 0 0), (15, iS k7)] [(0, .row 33 [bS false, bS false, bS false, iS 0, iS 0, .v (.slice none 0 0)]), (1, .row 49 (Enc.cells (ix cases k7))), (2, .row 57 [iS (ix l19 (ix cases k7).Pipe).Cap, .sl (ix l19 (ix cases k7).Pipe).Items.length (fl (ix l19 (ix cases k7).Pipe).Items), bS (ix l19 (ix cases k7).Pipe).Closed, .sl c2_Senders13.length (fl c2_Senders13), .sl c2_Getters13.length (fl c2_Getters13)]), (3, .row 57 (fl r5727))] 4 (by kernel_rfl) ?_
       exact hK5688 (r5727) _ _ _ h (leSt_m [(0, 0)] [3] (by simp only [leS_frz, leS_cut, leL_flD, renL_flD, push_cast, seval]) (by simp only [leS_frz, leS_cut, leL_flD, renL_flD, push_cast, seval]) rfl rfl rfl)
    ·rintro l21 h
     try dsimp only at h ⊢
     unfold taskmillref_Picked_j1 at h
     refine wk_id ?_
     refine reg_f ?_
     refine rs 3 [] [] (by kernel_rfl) allP_nil ?_
     refine rf [(0, .sl l21.length (fl l21)), (1, iS task), (2, .sl cases.length (fl cases)), (11, .ptr 0 0), (15, iS (IntKind.i64.wrap (k7 + 1)))] [(0, .row 33 [bS false, bS false, bS false, iS 0, iS 0, .v (.slice none 0 0)])] 1 (by kernel_rfl) ?_
     exact hn4 (l21, (IntKind.i64.wrap (k7 + 1))) _ _ _ (Option.some.inj h).symm (leSt_m [(0, 0)] [] (by simp only [push_cast, leL_flD, renL_flD, seval]) (by simp only [push_cast, leL_flD, renL_flD, seval]) rfl rfl rfl)
   ·change R4 (.exit 2) _ _ _
    refine ex_cast hx4 (id := 2) ?_
    obtain ⟨r0, h, e0⟩ := map_sx h
    have e1 := hr4 r0 e0.symm
    subst r0
    refine wk_id ?_
    refine wk_id ?_
    refine seq_np ?_
    refine reg_f ?_
    refine rs 4 [] [] (by kernel_rfl) allP_nil ?_
    refine rf [(10, .sl l19.length (fl l19)), (11, .ptr 0 0)] [(0, .row 33 [bS false, bS false, bS false, iS 0, iS 0, .v (.slice none 0 0)])] 1 (by kernel_rfl) ?_
    refine wk_id ?_
    obtain rfl := Option.some.inj h
    refine ret_at (.tup [.sl l19.length (fl l19), .agg [bS false, bS false, bS false, iS 0, iS 0, .v (.slice none 0 0)]]) (by kernel_rfl) ?_
    exact ret_e [] [] (by simp only [push_cast, leL_flD, renL_flD, seval]) (by simp only [push_cast, leL_flD, renL_flD, seval]) rfl rfl rfl

set_option maxRecDepth 100000 in
set_option maxHeartbeats 200000000 in
theorem taskmilllaw_PickDoes_1_spec (t0 : (List Pipe)) (t1 : Int) (t2 : (List GCase)) (t3 : (List Int)) (t4 : Bool) (r : (List Pipe) × Answer) (h : taskmilllaw_PickDoes_1 t0 t1 t2 t3 t4 = some r) : SpecW Try.prog 20 [.iptr [.sl t0.length (fl t0)] 0, .iptr [iS t1] 0, .iptr [.sl t2.length (fl t2)] 0, .iptr [.sl t3.length (fl t3)] 0, .iptr [bS t4] 0] [] 0 (fun x h n => x = .tup [.sl r.1.length (fl r.1), .agg (Enc.cells r.2)] ∧ h = [] ∧ n = 0) := by
 unfold taskmilllaw_PickDoes_1 at h
 refine spec_of (draw_ok _) Try.func20 rfl (by decide) rfl (by kernel_rfl) ?_
 refine seq_np ?_
 refine reg_f ?_
 refine rs 2 [] [] (by kernel_rfl) allP_nil ?_
 refine rf [(0, .iptr [.sl t0.length (fl t0)] 0), (1, .iptr [iS t1] 0), (2, .iptr [.sl t2.length (fl t2)] 0), (3, .iptr [.sl t3.length (fl t3)] 0), (4, .iptr [bS t4] 0), (6, .ptr 0 0)] [(0, .row 33 [bS false, bS false, bS false, iS 0, iS 0, .v (.slice none 0 0)])] 1 (by kernel_rfl) ?_
 refine wk_id ?_
 refine seq_np ?_
 refine reg_f ?_
 refine rs 5 [] [] (by kernel_rfl) allP_nil ?_
 obtain ⟨r5734, hr5734, h⟩ := bind_sx h
 refine run_call 21 [.sl t0.length (fl t0), iS t1, .sl t2.length (fl t2), .sl t3.length (fl t3), bS t4] (some 12) (by kernel_rfl) ?_
 refine call_0 (taskmillref_Picked_spec t0 t1 t2 t3 t4 r5734 hr5734) (by simp only [push_cast, leL_flD, renL_flD, seval]) (by simp only [push_cast, leL_flD, renL_flD, seval]) ?_
 refine back_f ?_
 refine rs 4 [] [] (by kernel_rfl) allP_nil ?_
 refine rf [(5, .sl r5734.1.length (fl r5734.1)), (6, .ptr 0 0)] [(0, .row 33 (Enc.cells r5734.2))] 1 (by kernel_rfl) ?_
 refine wk_id ?_
 obtain rfl := Option.some.inj h
 refine ret_at (.tup [.sl r5734.1.length (fl r5734.1), .agg (Enc.cells r5734.2)]) (by kernel_rfl) ?_
 exact ret_e [] [] (by simp only [push_cast, leL_flD, renL_flD, seval]) (by simp only [push_cast, leL_flD, renL_flD, seval]) rfl rfl rfl

set_option maxRecDepth 100000 in
set_option maxHeartbeats 200000000 in
theorem taskmilllaw_hubAs_spec (xh : (List Pipe)) (xa : Answer) (f : Fault) (w : Fault) (want : (List Pipe)) (want1 : Int) (want2 : (List GCase)) (want3 : (List Int)) (want4 : Bool) (r : Bool) (h : taskmilllaw_hubAs xh xa f w want want1 want2 want3 want4 = some r) : SpecW Try.prog 18 [.sl xh.length (fl xh), .agg (Enc.cells xa), .agg (Enc.cells f), .agg (Enc.cells w), .clo 20 [.iptr [.sl want.length (fl want)] 0, .iptr [iS want1] 0, .iptr [.sl want2.length (fl want2)] 0, .iptr [.sl want3.length (fl want3)] 0, .iptr [bS want4] 0]] [] 0 (fun x h n => x = bS r ∧ h = [] ∧ n = 0) := by
 unfold taskmilllaw_hubAs at h
 refine spec_of (draw_ok _) Try.func18 rfl (by decide) rfl (by kernel_rfl) ?_
 refine seq_np ?_
 refine reg_f ?_
 refine rs 4 [] [] (by kernel_rfl) allP_nil ?_
 refine rf [(0, .sl xh.length (fl xh)), (4, .clo 20 [.iptr [.sl want.length (fl want)] 0, .iptr [iS want1] 0, .iptr [.sl want2.length (fl want2)] 0, .iptr [.sl want3.length (fl want3)] 0, .iptr [bS want4] 0]), (6, .ptr 0 0), (7, .ptr 1 0), (8, .ptr 2 0)] [(0, .row 33 (Enc.cells xa)), (1, .row 29 (Enc.cells f)), (2, .row 29 (Enc.cells w))] 3 (by kernel_rfl) ?_
 refine wk_id ?_
 refine seq_np ?_
 refine seq_np ?_
 refine reg_f ?_
 refine rs 3 [] [] (by kernel_rfl) allP_nil ?_
 refine rf [(0, .sl xh.length (fl xh)), (4, .clo 20 [.iptr [.sl want.length (fl want)] 0, .iptr [iS want1] 0, .iptr [.sl want2.length (fl want2)] 0, .iptr [.sl want3.length (fl want3)] 0, .iptr [bS want4] 0]), (6, .ptr 0 0), (8, .ptr 2 0), (15, bS (!((f.Code == w.Code) && ((f.At == w.At) && true))))] [(0, .row 33 (Enc.cells xa)), (1, .row 29 (Enc.cells f)), (2, .row 29 (Enc.cells w))] 3 (by kernel_rfl) ?_
 refine wk_id ?_
 refine cond_sx h (by kernel_rfl) (fun g5764 h => ?_) (fun g5764 h => ?_)
 ·refine seq_np ?_
  refine reg_f ?_
  refine rs 1 [] [] (by kernel_rfl) allP_nil ?_
  refine rf [(10, bS false)] [(0, .row 33 (Enc.cells xa)), (1, .row 29 (Enc.cells f)), (2, .row 29 (Enc.cells w))] 3 (by kernel_rfl) ?_
  refine wk_id ?_
  obtain rfl := Option.some.inj h
  refine ret_at (bS false) (by kernel_rfl) ?_
  exact ret_e [] [] (by simp only [push_cast, leL_flD, renL_flD, seval]) (by simp only [push_cast, leL_flD, renL_flD, seval]) rfl rfl rfl
 ·refine wk_id ?_
  refine seq_np ?_
  refine seq_np ?_
  refine reg_f ?_
  refine rs 3 [] [] (by kernel_rfl) allP_nil ?_
  refine rf [(0, .sl xh.length (fl xh)), (4, .clo 20 [.iptr [.sl want.length (fl want)] 0, .iptr [iS want1] 0, .iptr [.sl want2.length (fl want2)] 0, .iptr [.sl want3.length (fl want3)] 0, .iptr [bS want4] 0]), (6, .ptr 0 0), (18, bS (w.Code != 0))] [(0, .row 33 (Enc.cells xa)), (1, .row 29 (Enc.cells f)), (2, .row 29 (Enc.cells w))] 3 (by kernel_rfl) ?_
  refine wk_id ?_
  refine cond_sx h (by kernel_rfl) (fun g5763 h => ?_) (fun g5763 h => ?_)
  ·refine seq_cut (A := Bool) (fun a => ([(10, bS a)], [], 0)) (fun a => (taskmilllaw_hubAs_j1 a) = some r) (fun K5750 hK5750 => ?_) ?_
   ·refine reg_f ?_
    refine rs 4 [] [] (by kernel_rfl) allP_nil ?_
    refine run_br h 22 (.inl (by kernel_rfl)) (fun g5751 h => ?_) (fun g5751 h => ?_)
    ·refine rs 2 [] [] (by kernel_rfl) allP_nil ?_
     obtain ⟨r5752, hr5752, h⟩ := bind_sx h
     refine call_x (taskmillref_SameAnswer_spec xa (Answer.mk false false false 0 0 []) r5752 hr5752) (args := [.agg (Enc.cells xa), .agg [bS false, bS false, bS false, iS 0, iS 0, .v (.slice none 0 0)]]) (dst := (some 25)) (by kernel_rfl) [(0, .row 33 (Enc.cells xa)), (1, .row 29 (Enc.cells f)), (2, .row 29 (Enc.cells w))] 3 (by kernel_rfl) [] [] (bS r5752) [] (by simp only [push_cast, leL_flD, renL_flD, seval]) (by simp only [push_cast, leL_flD, renL_flD, seval]) (by kernel_rfl) (.inl rfl) (by simp only [push_cast, leL_flD, renL_flD, seval]) (by simp only [push_cast, leL_flD, renL_flD, seval]) ?_
     refine rs 2 [] [] (by kernel_rfl) allP_nil ?_
     refine rf [(10, bS r5752)] [(0, .row 33 (Enc.cells xa)), (1, .row 29 (Enc.cells f)), (2, .row 29 (Enc.cells w))] 3 (by kernel_rfl) ?_
     exact hK5750 (r5752) _ _ _ h (leSt_m [] [] (by (try simp only [g5751]) <;> simp only [push_cast, leL_flD, renL_flD, seval]) (by (try simp only [g5751]) <;> simp only [push_cast, leL_flD, renL_flD, seval]) rfl rfl rfl)
    ·refine rs 5 [] [] (by kernel_rfl) allP_nil ?_
     refine rf [(10, bS false)] [(0, .row 33 (Enc.cells xa)), (1, .row 29 (Enc.cells f)), (2, .row 29 (Enc.cells w))] 3 (by kernel_rfl) ?_
     exact hK5750 (false) _ _ _ h (leSt_m [] [] (by (try simp only [g5751]) <;> simp only [push_cast, leL_flD, renL_flD, seval]) (by (try simp only [g5751]) <;> simp only [push_cast, leL_flD, renL_flD, seval]) rfl rfl rfl)
   ·rintro t10q3 h
    try dsimp only at h ⊢
    unfold taskmilllaw_hubAs_j1 at h
    obtain rfl := Option.some.inj h
    refine ret_at (bS t10q3) (by kernel_rfl) ?_
    exact ret_e [] [] (by simp only [push_cast, leL_flD, renL_flD, seval]) (by simp only [push_cast, leL_flD, renL_flD, seval]) rfl rfl rfl
  ·refine wk_id ?_
   refine seq_np ?_
   refine reg_f ?_
   refine rs 1 [] [] (by kernel_rfl) allP_nil ?_
   obtain ⟨r5754, hr5754, h⟩ := bind_sx h
   refine run_call 20 [.iptr [.sl want.length (fl want)] 0, .iptr [iS want1] 0, .iptr [.sl want2.length (fl want2)] 0, .iptr [.sl want3.length (fl want3)] 0, .iptr [bS want4] 0] (some 29) (by kernel_rfl) ?_
   refine call_0 (taskmilllaw_PickDoes_1_spec want want1 want2 want3 want4 r5754 hr5754) (by simp only [push_cast, leL_flD, renL_flD, seval]) (by simp only [push_cast, leL_flD, renL_flD, seval]) ?_
   refine back_f ?_
   refine rs 6 [] [] (by kernel_rfl) allP_nil ?_
   refine rf [(0, .sl xh.length (fl xh)), (6, .ptr 0 0), (11, .sl r5754.1.length (fl r5754.1)), (12, .ptr 3 0)] [(0, .row 33 (Enc.cells xa)), (1, .row 29 (Enc.cells f)), (2, .row 29 (Enc.cells w)), (3, .row 33 (Enc.cells r5754.2))] 4 (by kernel_rfl) ?_
   refine wk_id ?_
   refine seq_cut (A := Bool) (fun a => ([(10, bS a)], [], 0)) (fun a => (taskmilllaw_hubAs_j2 a) = some r) (fun K5759 hK5759 => ?_) ?_
   ·refine reg_f ?_
    refine rs 2 [] [] (by kernel_rfl) allP_nil ?_
    obtain ⟨r5760, hr5760, h⟩ := bind_sx h
    refine run_call 17 [.sl xh.length (fl xh), .sl r5754.1.length (fl r5754.1)] (some 34) (by kernel_rfl) ?_
    refine call_0 (taskmillref_SameHub_spec xh r5754.1 r5760 hr5760) (by simp only [push_cast, leL_flD, renL_flD, seval]) (by simp only [push_cast, leL_flD, renL_flD, seval]) ?_
    refine back_f ?_
    refine rs 1 [] [] (by kernel_rfl) allP_nil ?_
    refine run_br h 35 (.inl (by kernel_rfl)) (fun g5761 h => ?_) (fun g5761 h => ?_)
    ·refine rs 2 [] [] (by kernel_rfl) allP_nil ?_
     obtain ⟨r5762, hr5762, h⟩ := bind_sx h
     refine run_call 25 [.agg (Enc.cells xa), .agg (Enc.cells r5754.2)] (some 38) (by kernel_rfl) ?_
     refine call_0 (taskmillref_SameAnswer_spec xa r5754.2 r5762 hr5762) (by simp only [push_cast, leL_flD, renL_flD, seval]) (by simp only [push_cast, leL_flD, renL_flD, seval]) ?_
     refine back_f ?_
     refine rs 2 [] [] (by kernel_rfl) allP_nil ?_
     refine rf [(10, bS r5762)] [(0, .row 33 (Enc.cells xa)), (1, .row 29 (Enc.cells f)), (2, .row 29 (Enc.cells w)), (3, .row 33 (Enc.cells r5754.2))] 4 (by kernel_rfl) ?_
     exact hK5759 (r5762) _ _ _ h (leSt_m [] [] (by (try simp only [g5761]) <;> simp only [push_cast, leL_flD, renL_flD, seval]) (by (try simp only [g5761]) <;> simp only [push_cast, leL_flD, renL_flD, seval]) rfl rfl rfl)
    ·refine rs 5 [] [] (by kernel_rfl) allP_nil ?_
     refine rf [(10, bS false)] [(0, .row 33 (Enc.cells xa)), (1, .row 29 (Enc.cells f)), (2, .row 29 (Enc.cells w)), (3, .row 33 (Enc.cells r5754.2))] 4 (by kernel_rfl) ?_
     exact hK5759 (false) _ _ _ h (leSt_m [] [] (by (try simp only [g5761]) <;> simp only [push_cast, leL_flD, renL_flD, seval]) (by (try simp only [g5761]) <;> simp only [push_cast, leL_flD, renL_flD, seval]) rfl rfl rfl)
   ·rintro t10q4 h
    try dsimp only at h ⊢
    unfold taskmilllaw_hubAs_j2 at h
    obtain rfl := Option.some.inj h
    refine ret_at (bS t10q4) (by kernel_rfl) ?_
    exact ret_e [] [] (by simp only [push_cast, leL_flD, renL_flD, seval]) (by simp only [push_cast, leL_flD, renL_flD, seval]) rfl rfl rfl

set_option maxRecDepth 100000 in
set_option maxHeartbeats 200000000 in
theorem taskmilllaw_PickDoes_spec (l : (List Pipe)) (task : Int) (cases : (List GCase)) (order : (List Int)) (xdef : Bool) (r : Bool) (h : taskmilllaw_PickDoes l task cases order xdef = some r) : SpecW Try.prog 3 [.sl l.length (fl l), iS task, .sl cases.length (fl cases), .sl order.length (fl order), bS xdef] [] 0 (fun x h n => x = bS r ∧ h = [] ∧ n = 0) := by
 unfold taskmilllaw_PickDoes at h
 refine spec_of (draw_ok _) Try.func3 rfl (by decide) rfl (by kernel_rfl) ?_
 refine seq_np ?_
 refine reg_f ?_
 refine rs 6 [] [] (by kernel_rfl) allP_nil ?_
 refine rf [(5, .ptr 0 0), (6, .ptr 1 0), (7, .ptr 2 0), (8, .ptr 3 0), (9, .ptr 4 0)] [(0, .row 22 [.sl l.length (fl l)]), (1, .row 3 [iS task]), (2, .row 23 [.sl cases.length (fl cases)]), (3, .row 24 [.sl order.length (fl order)]), (4, .row 4 [bS xdef])] 5 (by kernel_rfl) ?_
 refine wk_id ?_
 refine seq_np ?_
 refine seq_np ?_
 refine reg_f ?_
 obtain ⟨r5769, hr5769, h⟩ := bind_sx h
 refine run_call 9 [] (some 16) (by kernel_rfl) ?_
 refine call_0 (taskmilllaw_pickBegun_spec r5769 hr5769) (by simp only [push_cast, leL_flD, renL_flD, seval]) (by simp only [push_cast, leL_flD, renL_flD, seval]) ?_
 refine back_f ?_
 refine rs 1 [] [] (by kernel_rfl) allP_nil ?_
 refine rf [(5, .ptr 0 0), (6, .ptr 1 0), (7, .ptr 2 0), (8, .ptr 3 0), (9, .ptr 4 0), (17, bS (!r5769))] [(0, .row 22 [.sl l.length (fl l)]), (1, .row 3 [iS task]), (2, .row 23 [.sl cases.length (fl cases)]), (3, .row 24 [.sl order.length (fl order)]), (4, .row 4 [bS xdef])] 5 (by kernel_rfl) ?_
 refine wk_id ?_
 refine cond_sx h (by kernel_rfl) (fun g5816 h => ?_) (fun g5816 h => ?_)
 ·refine seq_np ?_
  refine reg_f ?_
  refine rs 1 [] [] (by kernel_rfl) allP_nil ?_
  refine rf [(10, bS false)] [(0, .row 22 [.sl l.length (fl l)]), (1, .row 3 [iS task]), (2, .row 23 [.sl cases.length (fl cases)]), (3, .row 24 [.sl order.length (fl order)]), (4, .row 4 [bS xdef])] 5 (by kernel_rfl) ?_
  refine wk_id ?_
  obtain rfl := Option.some.inj h
  refine ret_at (bS false) (by kernel_rfl) ?_
  exact ret_e [] [] (by simp only [push_cast, leL_flD, renL_flD, seval]) (by simp only [push_cast, leL_flD, renL_flD, seval]) rfl rfl rfl
 ·refine wk_id ?_
  refine seq_np ?_
  refine seq_cut (A := Bool) (fun a => ([(5, .ptr 0 0), (6, .ptr 1 0), (7, .ptr 2 0), (8, .ptr 3 0), (9, .ptr 4 0), (29, bS a)], [(0, .row 22 [.sl l.length (fl l)]), (1, .row 3 [iS task]), (2, .row 23 [.sl cases.length (fl cases)]), (3, .row 24 [.sl order.length (fl order)]), (4, .row 4 [bS xdef])], 5)) (fun a => (taskmilllaw_PickDoes_j2 l task cases order xdef a) = some r) (fun K5780 hK5780 => ?_) ?_
  ·refine reg_f ?_
   refine rs 1 [] [] (by kernel_rfl) allP_nil ?_
   obtain ⟨r5781, hr5781, h⟩ := bind_sx h
   refine run_call 10 [.sl l.length (fl l)] (some 19) (by kernel_rfl) ?_
   refine call_0 (taskmilllaw_vastHub_spec l r5781 hr5781) (by simp only [push_cast, leL_flD, renL_flD, seval]) (by simp only [push_cast, leL_flD, renL_flD, seval]) ?_
   refine back_f ?_
   refine rs 1 [] [] (by kernel_rfl) allP_nil ?_
   refine run_br h 20 (.inl (by kernel_rfl)) (fun g5782 h => ?_) (fun g5782 h => ?_)
   ·refine rs 9 [] [] (by kernel_rfl) allP_nil ?_
    refine rf [(5, .ptr 0 0), (6, .ptr 1 0), (7, .ptr 2 0), (8, .ptr 3 0), (9, .ptr 4 0), (29, bS true)] [(0, .row 22 [.sl l.length (fl l)]), (1, .row 3 [iS task]), (2, .row 23 [.sl cases.length (fl cases)]), (3, .row 24 [.sl order.length (fl order)]), (4, .row 4 [bS xdef])] 5 (by kernel_rfl) ?_
    exact hK5780 (true) _ _ _ h (leSt_m [(0, 0), (1, 1), (2, 2), (3, 3), (4, 4)] [] (by (try simp only [g5782]) <;> simp only [push_cast, leL_flD, renL_flD, seval]) (by (try simp only [g5782]) <;> simp only [push_cast, leL_flD, renL_flD, seval]) rfl rfl rfl)
   ·refine rs 5 [] [] (by kernel_rfl) allP_nil ?_
    refine run_br h 25 (.inl (by kernel_rfl)) (fun g5783 h => ?_) (fun g5783 h => ?_)
    ·refine rn 8 [(5, .ptr 0 0), (6, .ptr 1 0), (7, .ptr 2 0), (8, .ptr 3 0), (9, .ptr 4 0), (25, bS true)] [(0, .row 22 [.sl l.length (fl l)]), (1, .row 3 [iS task]), (2, .row 23 [.sl cases.length (fl cases)]), (3, .row 24 [.sl order.length (fl order)]), (4, .row 4 [bS xdef])] 5 (by kernel_rfl) ?_
     refine rs 4 [] [] (by kernel_rfl) allP_nil ?_
     refine rf [(5, .ptr 0 0), (6, .ptr 1 0), (7, .ptr 2 0), (8, .ptr 3 0), (9, .ptr 4 0), (29, bS true)] [(0, .row 22 [.sl l.length (fl l)]), (1, .row 3 [iS task]), (2, .row 23 [.sl cases.length (fl cases)]), (3, .row 24 [.sl order.length (fl order)]), (4, .row 4 [bS xdef])] 5 (by kernel_rfl) ?_
     exact hK5780 (true) _ _ _ h (leSt_m [(0, 0), (1, 1), (2, 2), (3, 3), (4, 4)] [] (by first | ((try simp only [g5782, g5783]) <;> simp only [push_cast, leL_flD, renL_flD, seval]; done) | ((try simp only [g5782]); (try simp only [g5783]); simp only [push_cast, leL_flD, renL_flD, seval]; done) | (exfalso; clear h; simp_all; done)) (by first | ((try simp only [g5782, g5783]) <;> simp only [push_cast, leL_flD, renL_flD, seval]; done) | ((try simp only [g5782]); (try simp only [g5783]); simp only [push_cast, leL_flD, renL_flD, seval]; done) | (exfalso; clear h; simp_all; done)) rfl rfl rfl)
    ·refine rn 8 [(5, .ptr 0 0), (6, .ptr 1 0), (7, .ptr 2 0), (8, .ptr 3 0), (9, .ptr 4 0), (25, bS false)] [(0, .row 22 [.sl l.length (fl l)]), (1, .row 3 [iS task]), (2, .row 23 [.sl cases.length (fl cases)]), (3, .row 24 [.sl order.length (fl order)]), (4, .row 4 [bS xdef])] 5 (by kernel_rfl) ?_
     refine rs 4 [] [] (by kernel_rfl) allP_nil ?_
     refine rf [(5, .ptr 0 0), (6, .ptr 1 0), (7, .ptr 2 0), (8, .ptr 3 0), (9, .ptr 4 0), (29, bS (decide ((100 : Int) < ((order.length : Nat) : Int))))] [(0, .row 22 [.sl l.length (fl l)]), (1, .row 3 [iS task]), (2, .row 23 [.sl cases.length (fl cases)]), (3, .row 24 [.sl order.length (fl order)]), (4, .row 4 [bS xdef])] 5 (by kernel_rfl) ?_
     exact hK5780 ((decide ((100 : Int) < ((order.length : Nat) : Int)))) _ _ _ h (leSt_m [(0, 0), (1, 1), (2, 2), (3, 3), (4, 4)] [] (by first | ((try simp only [g5782, g5783]) <;> simp only [push_cast, leL_flD, renL_flD, seval]; done) | ((try simp only [g5782]); (try simp only [g5783]); simp only [push_cast, leL_flD, renL_flD, seval]; done) | (exfalso; clear h; simp_all; done)) (by first | ((try simp only [g5782, g5783]) <;> simp only [push_cast, leL_flD, renL_flD, seval]; done) | ((try simp only [g5782]); (try simp only [g5783]); simp only [push_cast, leL_flD, renL_flD, seval]; done) | (exfalso; clear h; simp_all; done)) rfl rfl rfl)
  ·rintro t29q2 h
   try dsimp only at h ⊢
   unfold taskmilllaw_PickDoes_j2 at h
   refine cond_sx h (by kernel_rfl) (fun g5815 h => ?_) (fun g5815 h => ?_)
   ·refine seq_np ?_
    refine reg_f ?_
    refine rs 1 [] [] (by kernel_rfl) allP_nil ?_
    refine rf [(10, bS true)] [(0, .row 22 [.sl l.length (fl l)]), (1, .row 3 [iS task]), (2, .row 23 [.sl cases.length (fl cases)]), (3, .row 24 [.sl order.length (fl order)]), (4, .row 4 [bS xdef])] 5 (by kernel_rfl) ?_
    refine wk_id ?_
    obtain rfl := Option.some.inj h
    refine ret_at (bS true) (by kernel_rfl) ?_
    exact ret_e [] [] (by simp only [push_cast, leL_flD, renL_flD, seval]) (by simp only [push_cast, leL_flD, renL_flD, seval]) rfl rfl rfl
   ·refine wk_id ?_
    refine seq_np ?_
    refine reg_f ?_
    refine rs 1 [] [] (by kernel_rfl) allP_nil ?_
    obtain ⟨r5785, hr5785, h⟩ := bind_sx h
    refine call_x (taskmilllaw_ownHub_spec l r5785 hr5785) (args := [.sl l.length (fl l)]) (dst := (some 31)) (by kernel_rfl) [(0, .row 22 [.sl l.length (fl l)]), (1, .row 3 [iS task]), (2, .row 23 [.sl cases.length (fl cases)]), (3, .row 24 [.sl order.length (fl order)]), (4, .row 4 [bS xdef])] 5 (by kernel_rfl) [] [] (.own 5 0 r5785.length) [(5, .row 57 (flD dPipe [6, 7, 8] r5785)), ((.s 6 0), .fam (famD dPipe 0 r5785)), ((.s 7 0), .fam (famD dPipe 1 r5785)), ((.s 8 0), .fam (famD dPipe 2 r5785))] (by simp only [push_cast, leL_flD, renL_flD, seval]) (by simp only [push_cast, leL_flD, renL_flD, seval]) (by kernel_rfl) (.inl rfl) (by first | (simp only [push_cast, leL_flD, renL_flD, seval]; done) | (simp only [push_cast, leL_flD, renL_flD, seval]; kernel_rfl) | kernel_rfl) (by first | (simp only [push_cast, leL_flD, renL_flD, seval]; done) | (simp only [push_cast, leL_flD, renL_flD, seval]; kernel_rfl) | kernel_rfl) ?_
    refine rs 1 [] [] (by kernel_rfl) allP_nil ?_
    refine rf [(5, .ptr 0 0), (6, .ptr 1 0), (7, .ptr 2 0), (8, .ptr 3 0), (9, .ptr 4 0), (11, .own 5 0 r5785.length)] [(0, .row 22 [.sl l.length (fl l)]), (1, .row 3 [iS task]), (2, .row 23 [.sl cases.length (fl cases)]), (3, .row 24 [.sl order.length (fl order)]), (4, .row 4 [bS xdef]), (5, .row 57 (flD dPipe [6, 7, 8] r5785)), ((.s 6 0), .fam (famD dPipe 0 r5785)), ((.s 7 0), .fam (famD dPipe 1 r5785)), ((.s 8 0), .fam (famD dPipe 2 r5785))] 9 (by kernel_rfl) ?_
    refine wk_id ?_
    refine seq_np ?_
    refine reg_f ?_
    refine rs 1 [] [] (by kernel_rfl) allP_nil ?_
    obtain ⟨r5787, hr5787, h⟩ := bind_sx h
    refine call_x (pick_Check_spec r5785 r5787 hr5787) (args := [.own 5 0 r5785.length]) (dst := (some 33)) (by kernel_rfl) [(0, .row 22 [.sl l.length (fl l)]), (1, .row 3 [iS task]), (2, .row 23 [.sl cases.length (fl cases)]), (3, .row 24 [.sl order.length (fl order)]), (4, .row 4 [bS xdef]), (5, .row 57 (flD dPipe [6, 7, 8] r5785)), ((.s 6 0), .fam (famD dPipe 0 r5785)), ((.s 7 0), .fam (famD dPipe 1 r5785)), ((.s 8 0), .fam (famD dPipe 2 r5785))] 9 (by kernel_rfl) [] [5, (.s 6 0), (.s 7 0), (.s 8 0)] (.agg (Enc.cells r5787)) [] (by simp only [↓leS_frzD dPipe [6, 7, 8] r5785, leS_frz, leL_flD, renL_flD, push_cast, seval]) (by simp only [↓leS_frzD dPipe [6, 7, 8] r5785, leS_frz, leL_flD, renL_flD, push_cast, seval]) (by kernel_rfl) (.inr ⟨by simp only [push_cast, leL_flD, renL_flD, seval], by simp only [push_cast, leL_flD, renL_flD, seval]⟩) (by simp only [push_cast, leL_flD, renL_flD, seval]) (by simp only [push_cast, leL_flD, renL_flD, seval]) ?_
    refine rs 2 [] [] (by kernel_rfl) allP_nil ?_
    refine rf [(5, .ptr 0 0), (6, .ptr 1 0), (7, .ptr 2 0), (8, .ptr 3 0), (9, .ptr 4 0), (11, .own 5 0 r5785.length), (12, .ptr 9 0)] [(0, .row 22 [.sl l.length (fl l)]), (1, .row 3 [iS task]), (2, .row 23 [.sl cases.length (fl cases)]), (3, .row 24 [.sl order.length (fl order)]), (4, .row 4 [bS xdef]), (5, .row 57 (flD dPipe [6, 7, 8] r5785)), ((.s 6 0), .fam (famD dPipe 0 r5785)), ((.s 7 0), .fam (famD dPipe 1 r5785)), ((.s 8 0), .fam (famD dPipe 2 r5785)), (9, .row 29 (Enc.cells r5787))] 10 (by kernel_rfl) ?_
    refine wk_mk [(5, .ptr 0 0), (6, .ptr 1 0), (7, .ptr 2 0), (8, .ptr 3 0), (9, .ptr 4 0), (11, .sl r5785.length (fl r5785)), (12, .ptr 9 0)] [(0, .row 22 [.sl l.length (fl l)]), (1, .row 3 [iS task]), (2, .row 23 [.sl cases.length (fl cases)]), (3, .row 24 [.sl order.length (fl order)]), (4, .row 4 [bS xdef]), (9, .row 29 (Enc.cells r5787))] 10 (leSt_m [(0, 0), (1, 1), (2, 2), (3, 3), (4, 4), (9, 9)] [5, (.s 6 0), (.s 7 0), (.s 8 0)] (by simp only [↓leS_frzD dPipe [6, 7, 8] r5785, leS_frz, leS_cut, leL_flD, renL_flD, push_cast, seval]) (by simp only [↓leS_frzD dPipe [6, 7, 8] r5785, leS_frz, leS_cut, leL_flD, renL_flD, push_cast, seval]) rfl rfl rfl) ?_
    refine seq_np ?_
    refine reg_t ?_
    refine rs 3 [] [] (by kernel_rfl) allP_nil ?_
    obtain ⟨r5793, hr5793, h⟩ := bind_sx h
    refine call_x (taskmilllaw_ownCases_spec cases r5793 hr5793) (args := [.sl cases.length (fl cases)]) (dst := (some 38)) (by kernel_rfl) [(0, .row 22 [.sl l.length (fl l)]), (1, .row 3 [iS task]), (2, .row 23 [.sl cases.length (fl cases)]), (3, .row 24 [.sl order.length (fl order)]), (4, .row 4 [bS xdef]), (9, .row 29 (Enc.cells r5787))] 13 (by kernel_rfl) [] [] (.own 13 0 r5793.length) [(13, .row 49 (fl r5793))] (by simp only [push_cast, leL_flD, renL_flD, seval]) (by simp only [push_cast, leL_flD, renL_flD, seval]) (by kernel_rfl) (.inl rfl) (by simp only [push_cast, leL_flD, renL_flD, seval]) (by simp only [push_cast, leL_flD, renL_flD, seval]) ?_
    refine rs 1 [] [] (by kernel_rfl) allP_nil ?_
    obtain ⟨r5794, hr5794, h⟩ := bind_sx h
    refine call_x (taskmilllaw_own_spec order r5794 hr5794) (args := [.sl order.length (fl order)]) (dst := (some 40)) (by kernel_rfl) [(0, .row 22 [.sl l.length (fl l)]), (1, .row 3 [iS task]), (2, .row 23 [.sl cases.length (fl cases)]), (3, .row 24 [.sl order.length (fl order)]), (4, .row 4 [bS xdef]), (9, .row 29 (Enc.cells r5787)), (13, .row 49 (fl r5793))] 16 (by kernel_rfl) [] [] (.own 16 0 r5794.length) [(16, .row 3 (fl r5794))] (by simp only [push_cast, leL_flD, renL_flD, seval]) (by simp only [push_cast, leL_flD, renL_flD, seval]) (by kernel_rfl) (.inl rfl) (by simp only [push_cast, leL_flD, renL_flD, seval]) (by simp only [push_cast, leL_flD, renL_flD, seval]) ?_
    refine rs 1 [] [] (by kernel_rfl) allP_nil ?_
    obtain ⟨r5795, hr5795, h⟩ := bind_sx h
    refine call_x (SpecW.give (SpecW.give (pick_Pick_spec r5785 task r5793 r5794 xdef r5795 hr5795) [(0, .row 49 (fl r5793))] [.sl r5785.length (fl r5785), iS task, .own 0 0 r5793.length, .sl r5794.length (fl r5794), bS xdef] [] (.tup [.own 1 0 r5795.2.2.2.2.2.2.1.length, .agg [bS r5795.1, bS r5795.2.1, bS r5795.2.2.1, iS r5795.2.2.2.1, iS r5795.2.2.2.2.1, .own 2 0 r5795.2.2.2.2.2.2.2.length], .agg (Enc.cells r5795.2.2.2.2.2.1)]) [(1, .row 57 (flD dPipe [3, 4, 5] r5795.2.2.2.2.2.2.1)), (2, .row 64 (fl r5795.2.2.2.2.2.2.2)), ((.s 3 0), .fam (famD dPipe 0 r5795.2.2.2.2.2.2.1)), ((.s 4 0), .fam (famD dPipe 1 r5795.2.2.2.2.2.2.1)), ((.s 5 0), .fam (famD dPipe 2 r5795.2.2.2.2.2.2.1))] (by first | simp only [push_cast, leL_flD, renL_flD, seval] | simp only [push_cast, List.mem_singleton, true_and, and_true, leL_flD, renL_flD, seval]) (by simp only [push_cast, leL_flD, renL_flD, seval]) (by simp only [push_cast, leL_flD, renL_flD, seval]) (by simp only [push_cast, leL_flD, renL_flD, seval]) rfl (by first | (simp only [push_cast, leL_flD, renL_flD, seval]; done) | (simp only [push_cast, leL_flD, renL_flD, seval]; kernel_rfl) | kernel_rfl) (by first | (simp only [push_cast, leL_flD, renL_flD, seval]; done) | (simp only [push_cast, leL_flD, renL_flD, seval]; kernel_rfl) | kernel_rfl) rfl) [(0, .row 49 (fl r5793)), (1, .row 3 (fl r5794))] [.sl r5785.length (fl r5785), iS task, .own 0 0 r5793.length, .own 1 0 r5794.length, bS xdef] [(0, 0)] (.tup [.own 3 0 r5795.2.2.2.2.2.2.1.length, .agg [bS r5795.1, bS r5795.2.1, bS r5795.2.2.1, iS r5795.2.2.2.1, iS r5795.2.2.2.2.1, .own 4 0 r5795.2.2.2.2.2.2.2.length], .agg (Enc.cells r5795.2.2.2.2.2.1)]) [(3, .row 57 (flD dPipe [5, 6, 7] r5795.2.2.2.2.2.2.1)), (4, .row 64 (fl r5795.2.2.2.2.2.2.2)), ((.s 5 0), .fam (famD dPipe 0 r5795.2.2.2.2.2.2.1)), ((.s 6 0), .fam (famD dPipe 1 r5795.2.2.2.2.2.2.1)), ((.s 7 0), .fam (famD dPipe 2 r5795.2.2.2.2.2.2.1)), (0, .dead)] (by first | simp only [push_cast, leL_flD, renL_flD, seval] | simp only [push_cast, List.mem_singleton, true_and, and_true, leL_flD, renL_flD, seval]) (by simp only [push_cast, leL_flD, renL_flD, seval]) (by simp only [push_cast, leL_flD, renL_flD, seval]) (by simp only [push_cast, leL_flD, renL_flD, seval]) rfl (by first | (simp only [push_cast, leL_flD, renL_flD, seval]; done) | (simp only [push_cast, leL_flD, renL_flD, seval]; kernel_rfl) | kernel_rfl) (by first | (simp only [push_cast, leL_flD, renL_flD, seval]; done) | (simp only [push_cast, leL_flD, renL_flD, seval]; kernel_rfl) | kernel_rfl) rfl) (args := [.sl r5785.length (fl r5785), iS task, .own 13 0 r5793.length, .own 16 0 r5794.length, bS xdef]) (dst := (some 42)) (by kernel_rfl) [(0, .row 22 [.sl l.length (fl l)]), (1, .row 3 [iS task]), (2, .row 23 [.sl cases.length (fl cases)]), (3, .row 24 [.sl order.length (fl order)]), (4, .row 4 [bS xdef]), (9, .row 29 (Enc.cells r5787)), (13, .row 49 (fl r5793)), (16, .row 3 (fl r5794))] 19 (by kernel_rfl) [(0, 13), (1, 16)] [] (.tup [.own 22 0 r5795.2.2.2.2.2.2.1.length, .agg [bS r5795.1, bS r5795.2.1, bS r5795.2.2.1, iS r5795.2.2.2.1, iS r5795.2.2.2.2.1, .own 23 0 r5795.2.2.2.2.2.2.2.length], .agg (Enc.cells r5795.2.2.2.2.2.1)]) [(22, .row 57 (flD dPipe [24, 25, 26] r5795.2.2.2.2.2.2.1)), (23, .row 64 (fl r5795.2.2.2.2.2.2.2)), ((.s 24 0), .fam (famD dPipe 0 r5795.2.2.2.2.2.2.1)), ((.s 25 0), .fam (famD dPipe 1 r5795.2.2.2.2.2.2.1)), ((.s 26 0), .fam (famD dPipe 2 r5795.2.2.2.2.2.2.1)), (13, .dead), (13, .dead), (16, .dead)] (by simp only [push_cast, leL_flD, renL_flD, seval]) (by simp only [push_cast, leL_flD, renL_flD, seval]) (by kernel_rfl) (.inl rfl) (by first | (simp only [push_cast, leL_flD, renL_flD, seval]; done) | (simp only [push_cast, leL_flD, renL_flD, seval]; kernel_rfl) | kernel_rfl) (by first | (simp only [push_cast, leL_flD, renL_flD, seval]; done) | (simp only [push_cast, leL_flD, renL_flD, seval]; kernel_rfl) | kernel_rfl) ?_
    refine rn 8 [(5, .ptr 0 0), (6, .ptr 1 0), (7, .ptr 2 0), (8, .ptr 3 0), (9, .ptr 4 0), (11, .sl r5785.length (fl r5785)), (12, .ptr 9 0), (42, .tup [.own 22 0 r5795.2.2.2.2.2.2.1.length, .agg [bS r5795.1, bS r5795.2.1, bS r5795.2.2.1, iS r5795.2.2.2.1, iS r5795.2.2.2.2.1, .own 23 0 r5795.2.2.2.2.2.2.2.length], .agg (Enc.cells r5795.2.2.2.2.2.1)])] [(0, .row 22 [.sl l.length (fl l)]), (1, .row 3 [iS task]), (2, .row 23 [.sl cases.length (fl cases)]), (3, .row 24 [.sl order.length (fl order)]), (4, .row 4 [bS xdef]), (9, .row 29 (Enc.cells r5787)), (13, .dead), (16, .dead), (22, .row 57 (flD dPipe [24, 25, 26] r5795.2.2.2.2.2.2.1)), (23, .row 64 (fl r5795.2.2.2.2.2.2.2)), ((.s 24 0), .fam (famD dPipe 0 r5795.2.2.2.2.2.2.1)), ((.s 25 0), .fam (famD dPipe 1 r5795.2.2.2.2.2.2.1)), ((.s 26 0), .fam (famD dPipe 2 r5795.2.2.2.2.2.2.1))] 28 (by kernel_rfl) ?_
    refine rs 9 [] [] (by kernel_rfl) allP_nil ?_
    refine rt [(5, .ptr 0 0), (6, .ptr 1 0), (7, .ptr 2 0), (8, .ptr 3 0), (9, .ptr 4 0), (11, .sl r5785.length (fl r5785)), (12, .ptr 9 0), (13, .own 22 0 r5795.2.2.2.2.2.2.1.length), (14, .ptr 32 0), (15, .ptr 34 0)] [(0, .row 22 [.sl l.length (fl l)]), (1, .row 3 [iS task]), (2, .row 23 [.sl cases.length (fl cases)]), (3, .row 24 [.sl order.length (fl order)]), (4, .row 4 [bS xdef]), (9, .row 29 (Enc.cells r5787)), (13, .dead), (16, .dead), (22, .row 57 (flD dPipe [24, 25, 26] r5795.2.2.2.2.2.2.1)), (23, .row 64 (fl r5795.2.2.2.2.2.2.2)), ((.s 24 0), .fam (famD dPipe 0 r5795.2.2.2.2.2.2.1)), ((.s 25 0), .fam (famD dPipe 1 r5795.2.2.2.2.2.2.1)), ((.s 26 0), .fam (famD dPipe 2 r5795.2.2.2.2.2.2.1)), (32, .row 33 [bS r5795.1, bS r5795.2.1, bS r5795.2.2.1, iS r5795.2.2.2.1, iS r5795.2.2.2.2.1, .own 23 0 r5795.2.2.2.2.2.2.2.length]), (34, .row 29 (Enc.cells r5795.2.2.2.2.2.1))] 39 follows (by kernel_rfl) ?_
    refine wk_id ?_
    refine seq_np ?_
    refine seq_cut (A := Bool × (List Pipe) × Bool × Bool × Bool × Int × Int × Fault × (List GWake)) (fun a => ([(5, .ptr 0 0), (6, .ptr 1 0), (7, .ptr 2 0), (8, .ptr 3 0), (9, .ptr 4 0), (13, .own 5 0 a.2.1.length), (14, .ptr 6 0), (15, .ptr 7 0), (55, bS a.1)], [(0, .row 22 [.sl l.length (fl l)]), (1, .row 3 [iS task]), (2, .row 23 [.sl cases.length (fl cases)]), (3, .row 24 [.sl order.length (fl order)]), (4, .row 4 [bS xdef]), (5, .row 57 (flD dPipe [8, 9, 10] a.2.1)), (6, .row 33 [bS a.2.2.1, bS a.2.2.2.1, bS a.2.2.2.2.1, iS a.2.2.2.2.2.1, iS a.2.2.2.2.2.2.1, .own 11 0 a.2.2.2.2.2.2.2.2.length]), (7, .row 29 (Enc.cells a.2.2.2.2.2.2.2.1)), ((.s 8 0), .fam (famD dPipe 0 a.2.1)), ((.s 9 0), .fam (famD dPipe 1 a.2.1)), ((.s 10 0), .fam (famD dPipe 2 a.2.1)), (11, .row 64 (fl a.2.2.2.2.2.2.2.2))], 12)) (fun a => (taskmilllaw_PickDoes_j1 l task cases order xdef a.1 a.2.1 a.2.2.1 a.2.2.2.1 a.2.2.2.2.1 a.2.2.2.2.2.1 a.2.2.2.2.2.2.1 a.2.2.2.2.2.2.2.1 a.2.2.2.2.2.2.2.2) = some r) (fun K5806 hK5806 => ?_) ?_
    ·refine reg_t ?_
     refine rs 2 [] [] (by kernel_rfl) allP_nil ?_
     obtain ⟨r5807, hr5807, h⟩ := bind_sx h
     refine run_call 16 [.sl l.length (fl l)] (some 48) (by kernel_rfl) ?_
     refine callE_0 (taskmillref_HubFault_spec l r5807 hr5807) (by simp only [push_cast, leL_flD, renL_flD, seval]) (by simp only [push_cast, leL_flD, renL_flD, seval]) ?_
     refine back_t ?_
     refine rs 2 [] [] (by kernel_rfl) allP_nil ?_
     refine run_br h 50 (.inl (by kernel_rfl)) (fun g5808 h => ?_) (fun g5808 h => ?_)
     ·refine rs 5 [] [] (by kernel_rfl) allP_nil ?_
      refine rt [(5, .ptr 0 0), (6, .ptr 1 0), (7, .ptr 2 0), (8, .ptr 3 0), (9, .ptr 4 0), (13, .own 22 0 r5795.2.2.2.2.2.2.1.length), (14, .ptr 32 0), (15, .ptr 34 0), (55, bS true)] [(0, .row 22 [.sl l.length (fl l)]), (1, .row 3 [iS task]), (2, .row 23 [.sl cases.length (fl cases)]), (3, .row 24 [.sl order.length (fl order)]), (4, .row 4 [bS xdef]), (9, .row 29 (Enc.cells r5787)), (13, .dead), (16, .dead), (22, .row 57 (flD dPipe [24, 25, 26] r5795.2.2.2.2.2.2.1)), (23, .row 64 (fl r5795.2.2.2.2.2.2.2)), ((.s 24 0), .fam (famD dPipe 0 r5795.2.2.2.2.2.2.1)), ((.s 25 0), .fam (famD dPipe 1 r5795.2.2.2.2.2.2.1)), ((.s 26 0), .fam (famD dPipe 2 r5795.2.2.2.2.2.2.1)), (32, .row 33 [bS r5795.1, bS r5795.2.1, bS r5795.2.2.1, iS r5795.2.2.2.1, iS r5795.2.2.2.2.1, .own 23 0 r5795.2.2.2.2.2.2.2.length]), (34, .row 29 (Enc.cells r5795.2.2.2.2.2.1))] 49 follows (by kernel_rfl) ?_
      exact hK5806 (true, r5795.2.2.2.2.2.2.1, r5795.1, r5795.2.1, r5795.2.2.1, r5795.2.2.2.1, r5795.2.2.2.2.1, r5795.2.2.2.2.2.1, r5795.2.2.2.2.2.2.2) _ _ _ h (leSt_m [(0, 0), (1, 1), (2, 2), (3, 3), (4, 4), (5, 22), (6, 32), (7, 34), ((.s 8 0), (.s 24 0)), ((.s 9 0), (.s 25 0)), ((.s 10 0), (.s 26 0)), (11, 23)] [] (by (try simp only [g5808]) <;> simp only [push_cast, leL_flD, renL_flD, seval]) (by (try simp only [g5808]) <;> simp only [push_cast, leL_flD, renL_flD, seval]) rfl rfl rfl)
     ·refine rs 2 [] [] (by kernel_rfl) allP_nil ?_
      obtain ⟨r5809, hr5809, h⟩ := bind_sx h
      refine run_call 17 [.sl r5785.length (fl r5785), .sl l.length (fl l)] (some 53) (by kernel_rfl) ?_
      refine callE_0 (taskmillref_SameHub_spec r5785 l r5809 hr5809) (by simp only [push_cast, leL_flD, renL_flD, seval]) (by simp only [push_cast, leL_flD, renL_flD, seval]) ?_
      refine back_t ?_
      refine rs 2 [] [] (by kernel_rfl) allP_nil ?_
      refine rt [(5, .ptr 0 0), (6, .ptr 1 0), (7, .ptr 2 0), (8, .ptr 3 0), (9, .ptr 4 0), (13, .own 22 0 r5795.2.2.2.2.2.2.1.length), (14, .ptr 32 0), (15, .ptr 34 0), (55, bS (!r5809))] [(0, .row 22 [.sl l.length (fl l)]), (1, .row 3 [iS task]), (2, .row 23 [.sl cases.length (fl cases)]), (3, .row 24 [.sl order.length (fl order)]), (4, .row 4 [bS xdef]), (9, .row 29 (Enc.cells r5787)), (13, .dead), (16, .dead), (22, .row 57 (flD dPipe [24, 25, 26] r5795.2.2.2.2.2.2.1)), (23, .row 64 (fl r5795.2.2.2.2.2.2.2)), ((.s 24 0), .fam (famD dPipe 0 r5795.2.2.2.2.2.2.1)), ((.s 25 0), .fam (famD dPipe 1 r5795.2.2.2.2.2.2.1)), ((.s 26 0), .fam (famD dPipe 2 r5795.2.2.2.2.2.2.1)), (32, .row 33 [bS r5795.1, bS r5795.2.1, bS r5795.2.2.1, iS r5795.2.2.2.1, iS r5795.2.2.2.2.1, .own 23 0 r5795.2.2.2.2.2.2.2.length]), (34, .row 29 (Enc.cells r5795.2.2.2.2.2.1))] 49 follows (by kernel_rfl) ?_
      exact hK5806 ((!r5809), r5795.2.2.2.2.2.2.1, r5795.1, r5795.2.1, r5795.2.2.1, r5795.2.2.2.1, r5795.2.2.2.2.1, r5795.2.2.2.2.2.1, r5795.2.2.2.2.2.2.2) _ _ _ h (leSt_m [(0, 0), (1, 1), (2, 2), (3, 3), (4, 4), (5, 22), (6, 32), (7, 34), ((.s 8 0), (.s 24 0)), ((.s 9 0), (.s 25 0)), ((.s 10 0), (.s 26 0)), (11, 23)] [] (by (try simp only [g5808]) <;> simp only [push_cast, leL_flD, renL_flD, seval]) (by (try simp only [g5808]) <;> simp only [push_cast, leL_flD, renL_flD, seval]) rfl rfl rfl)
    ·rintro ⟨t55q2, c5q2, c6_Done2, c6_Panic2, c6_Ok2, c6_Value2, c6_Case2, c7q2, c11q2⟩ h
     try dsimp only at h ⊢
     unfold taskmilllaw_PickDoes_j1 at h
     refine cond_sx h (by kernel_rfl) (fun g5814 h => ?_) (fun g5814 h => ?_)
     ·refine seq_np ?_
      refine reg_f ?_
      refine rs 1 [] [] (by kernel_rfl) allP_nil ?_
      refine rf [(10, bS false)] [(0, .row 22 [.sl l.length (fl l)]), (1, .row 3 [iS task]), (2, .row 23 [.sl cases.length (fl cases)]), (3, .row 24 [.sl order.length (fl order)]), (4, .row 4 [bS xdef]), (5, .row 57 (flD dPipe [8, 9, 10] c5q2)), (6, .row 33 [bS c6_Done2, bS c6_Panic2, bS c6_Ok2, iS c6_Value2, iS c6_Case2, .own 11 0 c11q2.length]), (7, .row 29 (Enc.cells c7q2)), ((.s 8 0), .fam (famD dPipe 0 c5q2)), ((.s 9 0), .fam (famD dPipe 1 c5q2)), ((.s 10 0), .fam (famD dPipe 2 c5q2)), (11, .row 64 (fl c11q2))] 12 (by kernel_rfl) ?_
      refine wk_id ?_
      obtain rfl := Option.some.inj h
      refine ret_at (bS false) (by kernel_rfl) ?_
      exact ret_e [] [] (by simp only [push_cast, leL_flD, renL_flD, seval]) (by simp only [push_cast, leL_flD, renL_flD, seval]) rfl rfl rfl
     ·refine wk_id ?_
      refine seq_np ?_
      refine reg_t ?_
      refine rs 7 [] [] (by kernel_rfl) allP_nil ?_
      obtain ⟨r5812, hr5812, h⟩ := bind_sx h
      refine run_call 19 [.sl l.length (fl l), iS task, .sl cases.length (fl cases), .sl order.length (fl order)] (some 63) (by kernel_rfl) ?_
      refine callE_0 (taskmillref_CasesFault_spec l task cases order r5812 hr5812) (by simp only [push_cast, leL_flD, renL_flD, seval]) (by simp only [push_cast, leL_flD, renL_flD, seval]) ?_
      refine back_t ?_
      refine rs 1 [] [] (by kernel_rfl) allP_nil ?_
      obtain ⟨r5813, hr5813, h⟩ := bind_sx h
      refine call_x (taskmilllaw_hubAs_spec c5q2 (Answer.mk c6_Done2 c6_Panic2 c6_Ok2 c6_Value2 c6_Case2 c11q2) c7q2 r5812 l task cases order xdef r5813 hr5813) (args := [.own 5 0 c5q2.length, .agg [bS c6_Done2, bS c6_Panic2, bS c6_Ok2, iS c6_Value2, iS c6_Case2, .own 11 0 c11q2.length], .agg (Enc.cells c7q2), .agg (Enc.cells r5812), .clo 20 [.ptr 0 0, .ptr 1 0, .ptr 2 0, .ptr 3 0, .ptr 4 0]]) (dst := (some 65)) (by kernel_rfl) [(0, .row 22 [.sl l.length (fl l)]), (1, .row 3 [iS task]), (2, .row 23 [.sl cases.length (fl cases)]), (3, .row 24 [.sl order.length (fl order)]), (4, .row 4 [bS xdef]), (5, .row 57 (flD dPipe [8, 9, 10] c5q2)), (6, .row 33 [bS c6_Done2, bS c6_Panic2, bS c6_Ok2, iS c6_Value2, iS c6_Case2, .own 11 0 c11q2.length]), (7, .row 29 (Enc.cells c7q2)), ((.s 8 0), .fam (famD dPipe 0 c5q2)), ((.s 9 0), .fam (famD dPipe 1 c5q2)), ((.s 10 0), .fam (famD dPipe 2 c5q2)), (11, .row 64 (fl c11q2))] 21 (by kernel_rfl) [] [5, (.s 8 0), (.s 9 0), (.s 10 0), 11, 0, 1, 2, 3, 4] (bS r5813) [] (by simp only [↓leS_frzD dPipe [8, 9, 10] c5q2, leS_frz, leL_flD, renL_flD, push_cast, seval]) (by simp only [↓leS_frzD dPipe [8, 9, 10] c5q2, leS_frz, leL_flD, renL_flD, push_cast, seval]) (by kernel_rfl) (.inr ⟨by simp only [push_cast, leL_flD, renL_flD, seval], by simp only [push_cast, leL_flD, renL_flD, seval]⟩) (by simp only [push_cast, leL_flD, renL_flD, seval]) (by simp only [push_cast, leL_flD, renL_flD, seval]) ?_
      refine rs 1 [] [] (by kernel_rfl) allP_nil ?_
      refine rt [(10, bS r5813)] [(0, .row 22 [.sl l.length (fl l)]), (1, .row 3 [iS task]), (2, .row 23 [.sl cases.length (fl cases)]), (3, .row 24 [.sl order.length (fl order)]), (4, .row 4 [bS xdef]), (5, .row 57 (flD dPipe [8, 9, 10] c5q2)), (6, .row 33 [bS c6_Done2, bS c6_Panic2, bS c6_Ok2, iS c6_Value2, iS c6_Case2, .own 11 0 c11q2.length]), (7, .row 29 (Enc.cells c7q2)), ((.s 8 0), .fam (famD dPipe 0 c5q2)), ((.s 9 0), .fam (famD dPipe 1 c5q2)), ((.s 10 0), .fam (famD dPipe 2 c5q2)), (11, .row 64 (fl c11q2))] 23 follows (by kernel_rfl) ?_
      refine wk_id ?_
      obtain rfl := Option.some.inj h
      refine ret_at (bS r5813) (by kernel_rfl) ?_
      exact ret_e [] [] (by simp only [push_cast, leL_flD, renL_flD, seval]) (by simp only [push_cast, leL_flD, renL_flD, seval]) rfl rfl rfl

end Go.Proofs.Ytcpmhpobhnakeaa
