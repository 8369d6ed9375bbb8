/-
 What laws of the chapter order compute, and lemmas on it.
 No conditions.
-/
import Derived.Test.YtelegonboeacaaaorderWOrderTasks2
set_option linter.unusedSimpArgs false
set_option linter.unusedVariables false
namespace Go.Proofs.Ytelegonboeacaaa
open Go Go.Sx
attribute [local irreducible] Wk RunAt
set_option maxRecDepth 100000 in
set_option maxHeartbeats 200000000 in
theorem order_Stamps_spec (trace : (List GEvent)) (pipes : (List Int)) (r : (List (VArr 65))) (h : order_Stamps trace pipes = some r) : SpecW Try.prog 33 [.sl trace.length (fl trace), .sl pipes.length (fl pipes)] [] 0 (fun x h n => x = .own 0 0 r.length ∧ h = [(0, .row 62 (fl r))] ∧ n = 1) := by
 unfold order_Stamps at h
 refine spec_of (draw_ok _) Try.func33 rfl (by decide) rfl (by kernel_rfl) ?_
 refine seq_np ?_
 refine reg_f ?_
 refine rs 1 [] [] (by kernel_rfl) allP_nil ?_
 refine rf [(0, .sl trace.length (fl trace)), (1, .sl pipes.length (fl pipes))] [] 0 (by kernel_rfl) ?_
 refine wk_id ?_
 refine chk_sx h (fun g2012 h => ?_)
 refine seq_np ?_
 refine reg_f ?_
 refine run_opG (some 9) _ ⟨.mp 0, [(0, .map [])], 1, []⟩ [(.s 1 0, .fam (famP 83 ([] : List (VArr 65)))), (.t 0, .map (mpP 1 ([] : List Int)))] 1 [0] [] (by kernel_rfl) (ob_ok trivial rfl rfl) (ghost_M0 83 (VArr 65) (by kernel_rfl) (by kernel_rfl)) (by kernel_rfl) ?_
 have k2011 : 0 ≤ ((pipes.length : Nat) : Int) ∧ ((pipes.length : Nat) : Int) ≤ 4611686018427387904 ∧ (600 : Int) * ((pipes.length : Nat) : Int) ≤ 140737488355328 := by first | simpa only [Bool.and_eq_true, decide_eq_true_eq, bne_iff_ne, ne_eq] using g2012 | (simp at g2012 ⊢; omega)
 refine rs 2 [] [] (by kernel_rfl) allP_nil ?_
 refine run_opG (some 12) _ ⟨.own 2 0 (List.replicate (((pipes.length : Nat) : Int)).toNat (default : pipe)).length, [(2, .row 93 (flN dpipe (nA (List.replicate 3 none) (List.replicate 3 none) (-1)) 0 (List.replicate (((pipes.length : Nat) : Int)).toNat (default : pipe))))], 3, []⟩ [((.s 5 0), .fam (famD dpipe 2 (List.replicate (((pipes.length : Nat) : Int)).toNat (default : pipe)))), (2, .row 93 (flD dpipe [3, 4, 5] (List.replicate (((pipes.length : Nat) : Int)).toNat (default : pipe)))), ((.s 4 0), .fam (famD dpipe 1 (List.replicate (((pipes.length : Nat) : Int)).toNat (default : pipe)))), (2, .row 93 (flN dpipe (nA [(some 3), (some 4), none] [(some (.s 3 (-1))), (some (.s 4 (-1))), none] (-1)) 0 (List.replicate (((pipes.length : Nat) : Int)).toNat (default : pipe)))), ((.s 3 0), .fam (famD dpipe 0 (List.replicate (((pipes.length : Nat) : Int)).toNat (default : pipe)))), (2, .row 93 (flN dpipe (nA [(some 3), none, none] [(some (.s 3 (-1))), none, none] (-1)) 0 (List.replicate (((pipes.length : Nat) : Int)).toNat (default : pipe))))] 3 [2, 2, 2] [] (by kernel_rfl) (ob_mkN (P := Try.prog) dpipe ((pipes.length : Nat) : Int) 93 600 (by kernel_rfl) [.v (.slice none 0 0), .v (.slice none 0 0), .v (.slice none 0 0), iS (default : (VArr 65)).c0, iS (default : (VArr 65)).c1, iS (default : (VArr 65)).c2, iS (default : (VArr 65)).c3, iS (default : (VArr 65)).c4, iS (default : (VArr 65)).c5, iS (default : (VArr 65)).c6, iS (default : (VArr 65)).c7, iS (default : (VArr 65)).c8, iS (default : (VArr 65)).c9, iS (default : (VArr 65)).c10, iS (default : (VArr 65)).c11, iS (default : (VArr 65)).c12, iS (default : (VArr 65)).c13, iS (default : (VArr 65)).c14, iS (default : (VArr 65)).c15, iS (default : (VArr 65)).c16, iS (default : (VArr 65)).c17, iS (default : (VArr 65)).c18, iS (default : (VArr 65)).c19, iS (default : (VArr 65)).c20, iS (default : (VArr 65)).c21, iS (default : (VArr 65)).c22, iS (default : (VArr 65)).c23, iS (default : (VArr 65)).c24, iS (default : (VArr 65)).c25, iS (default : (VArr 65)).c26, iS (default : (VArr 65)).c27, iS (default : (VArr 65)).c28, iS (default : (VArr 65)).c29, iS (default : (VArr 65)).c30, iS (default : (VArr 65)).c31, iS (default : (VArr 65)).c32, iS (default : (VArr 65)).c33, iS (default : (VArr 65)).c34, iS (default : (VArr 65)).c35, iS (default : (VArr 65)).c36, iS (default : (VArr 65)).c37, iS (default : (VArr 65)).c38, iS (default : (VArr 65)).c39, iS (default : (VArr 65)).c40, iS (default : (VArr 65)).c41, iS (default : (VArr 65)).c42, iS (default : (VArr 65)).c43, iS (default : (VArr 65)).c44, iS (default : (VArr 65)).c45, iS (default : (VArr 65)).c46, iS (default : (VArr 65)).c47, iS (default : (VArr 65)).c48, iS (default : (VArr 65)).c49, iS (default : (VArr 65)).c50, iS (default : (VArr 65)).c51, iS (default : (VArr 65)).c52, iS (default : (VArr 65)).c53, iS (default : (VArr 65)).c54, iS (default : (VArr 65)).c55, iS (default : (VArr 65)).c56, iS (default : (VArr 65)).c57, iS (default : (VArr 65)).c58, iS (default : (VArr 65)).c59, iS (default : (VArr 65)).c60, iS (default : (VArr 65)).c61, iS (default : (VArr 65)).c62, iS (default : (VArr 65)).c63, iS (default : (VArr 65)).c64, bS false] rfl 69 rfl (by decide) k2011 3 2) (Ghost.cat (q1 := 2) (q2 := 1) (r1 := [2, 2]) (r2 := [2]) (u1 := [((.s 4 0), .fam (famD dpipe 1 (List.replicate (((pipes.length : Nat) : Int)).toNat (default : pipe)))), (2, .row 93 (flN dpipe (nA [(some 3), (some 4), none] [(some (.s 3 (-1))), (some (.s 4 (-1))), none] (-1)) 0 (List.replicate (((pipes.length : Nat) : Int)).toNat (default : pipe)))), ((.s 3 0), .fam (famD dpipe 0 (List.replicate (((pipes.length : Nat) : Int)).toNat (default : pipe)))), (2, .row 93 (flN dpipe (nA [(some 3), none, none] [(some (.s 3 (-1))), none, none] (-1)) 0 (List.replicate (((pipes.length : Nat) : Int)).toNat (default : pipe))))]) (u2 := [((.s 5 0), .fam (famD dpipe 2 (List.replicate (((pipes.length : Nat) : Int)).toNat (default : pipe)))), (2, .row 93 (flD dpipe [3, 4, 5] (List.replicate (((pipes.length : Nat) : Int)).toNat (default : pipe))))]) (Ghost.cat (q1 := 1) (q2 := 1) (r1 := [2]) (r2 := [2]) (u1 := [((.s 3 0), .fam (famD dpipe 0 (List.replicate (((pipes.length : Nat) : Int)).toNat (default : pipe)))), (2, .row 93 (flN dpipe (nA [(some 3), none, none] [(some (.s 3 (-1))), none, none] (-1)) 0 (List.replicate (((pipes.length : Nat) : Int)).toNat (default : pipe))))]) (u2 := [((.s 4 0), .fam (famD dpipe 1 (List.replicate (((pipes.length : Nat) : Int)).toNat (default : pipe)))), (2, .row 93 (flN dpipe (nA [(some 3), (some 4), none] [(some (.s 3 (-1))), (some (.s 4 (-1))), none] (-1)) 0 (List.replicate (((pipes.length : Nat) : Int)).toNat (default : pipe))))]) (ghost_A 3 dpipe (List.replicate (((pipes.length : Nat) : Int)).toNat (default : pipe)) 2 93 [none, none, none] [none, none, none] (-1) (flN dpipe (nA [(some 3), none, none] [(some (.s 3 (-1))), none, none] (-1)) 0 (List.replicate (((pipes.length : Nat) : Int)).toNat (default : pipe))) 0 none none (by kernel_rfl) rfl (by kernel_rfl) (offN_rep _ rfl _) (S_rep (fun a => nilLeaf dpipe 0 a) _)) (ghost_A 4 dpipe (List.replicate (((pipes.length : Nat) : Int)).toNat (default : pipe)) 2 93 [(some 3), none, none] [(some (.s 3 (-1))), none, none] (-1) (flN dpipe (nA [(some 3), (some 4), none] [(some (.s 3 (-1))), (some (.s 4 (-1))), none] (-1)) 0 (List.replicate (((pipes.length : Nat) : Int)).toNat (default : pipe))) 1 none none (by kernel_rfl) rfl (by kernel_rfl) (offN_rep _ rfl _) (S_rep (fun a => nilLeaf dpipe 1 a) _)) rfl rfl rfl rfl) (ghost_A 5 dpipe (List.replicate (((pipes.length : Nat) : Int)).toNat (default : pipe)) 2 93 [(some 3), (some 4), none] [(some (.s 3 (-1))), (some (.s 4 (-1))), none] (-1) (flD dpipe [3, 4, 5] (List.replicate (((pipes.length : Nat) : Int)).toNat (default : pipe))) 2 none none (by kernel_rfl) (flN_done dpipe [3, 4, 5] (-1) (List.replicate (((pipes.length : Nat) : Int)).toNat (default : pipe)) rfl) (by kernel_rfl) (offN_rep _ rfl _) (S_rep (fun a => nilLeaf dpipe 2 a) _)) rfl rfl rfl rfl) (by kernel_rfl) ?_
 refine rs 1 [] [] (by kernel_rfl) allP_nil ?_
 refine run_opG (some 14) _ ⟨.mp 6, [(6, .map [])], 7, []⟩ [(.s 7 0, .fam (famP 98 ([] : List guard))), (.t 6, .map (mpP 7 ([] : List Int)))] 1 [6] [] (by kernel_rfl) (ob_ok trivial rfl rfl) (ghost_M0 98 guard (by kernel_rfl) (by kernel_rfl)) (by kernel_rfl) ?_
 refine rn 6 [(0, .sl trace.length (fl trace)), (9, .mp 0), (12, .own 2 0 (List.replicate (((pipes.length : Nat) : Int)).toNat (default : pipe)).length), (13, .sl pipes.length (fl pipes)), (14, .mp 6)] [(0, .map (mpP 1 ([] : List Int))), ((.s 1 0), .fam (famP 83 ([] : List (VArr 65)))), (2, .row 93 (flD dpipe [3, 4, 5] (List.replicate (((pipes.length : Nat) : Int)).toNat (default : pipe)))), ((.s 3 0), .fam (famD dpipe 0 (List.replicate (((pipes.length : Nat) : Int)).toNat (default : pipe)))), ((.s 4 0), .fam (famD dpipe 1 (List.replicate (((pipes.length : Nat) : Int)).toNat (default : pipe)))), ((.s 5 0), .fam (famD dpipe 2 (List.replicate (((pipes.length : Nat) : Int)).toNat (default : pipe)))), (6, .map (mpP 7 ([] : List Int))), ((.s 7 0), .fam (famP 98 ([] : List guard)))] 8 (by kernel_rfl) ?_
 refine run_opG (some 15) _ ⟨.mp 8, [(8, .map [])], 9, []⟩ [(.s 9 0, .fam (famP 83 ([] : List (VArr 65)))), (.t 8, .map (mpP 9 ([] : List Int)))] 1 [8] [] (by kernel_rfl) (ob_ok trivial rfl rfl) (ghost_M0 83 (VArr 65) (by kernel_rfl) (by kernel_rfl)) (by kernel_rfl) ?_
 refine rs 3 [] [] (by kernel_rfl) allP_nil ?_
 refine rf [(0, .sl trace.length (fl trace)), (5, .ptr 10 0)] [(0, .map (mpP 1 ([] : List Int))), ((.s 1 0), .fam (famP 83 ([] : List (VArr 65)))), (2, .row 93 (flD dpipe [3, 4, 5] (List.replicate (((pipes.length : Nat) : Int)).toNat (default : pipe)))), ((.s 3 0), .fam (famD dpipe 0 (List.replicate (((pipes.length : Nat) : Int)).toNat (default : pipe)))), ((.s 4 0), .fam (famD dpipe 1 (List.replicate (((pipes.length : Nat) : Int)).toNat (default : pipe)))), ((.s 5 0), .fam (famD dpipe 2 (List.replicate (((pipes.length : Nat) : Int)).toNat (default : pipe)))), (6, .map (mpP 7 ([] : List Int))), ((.s 7 0), .fam (famP 98 ([] : List guard))), (8, .map (mpP 9 ([] : List Int))), ((.s 9 0), .fam (famP 83 ([] : List (VArr 65)))), (10, .row 82 [.mp 0, .own 2 0 (List.replicate (((pipes.length : Nat) : Int)).toNat (default : pipe)).length, .sl pipes.length (fl pipes), .mp 6, .mp 8])] 11 (by kernel_rfl) ?_
 refine wk_id ?_
 refine seq_np ?_
 refine reg_f ?_
 refine rs 1 [] [] (by kernel_rfl) allP_nil ?_
 refine rf [(0, .sl trace.length (fl trace)), (5, .ptr 10 0), (6, .v (.slice none 0 0))] [(0, .map (mpP 1 ([] : List Int))), ((.s 1 0), .fam (famP 83 ([] : List (VArr 65)))), (2, .row 93 (flD dpipe [3, 4, 5] (List.replicate (((pipes.length : Nat) : Int)).toNat (default : pipe)))), ((.s 3 0), .fam (famD dpipe 0 (List.replicate (((pipes.length : Nat) : Int)).toNat (default : pipe)))), ((.s 4 0), .fam (famD dpipe 1 (List.replicate (((pipes.length : Nat) : Int)).toNat (default : pipe)))), ((.s 5 0), .fam (famD dpipe 2 (List.replicate (((pipes.length : Nat) : Int)).toNat (default : pipe)))), (6, .map (mpP 7 ([] : List Int))), ((.s 7 0), .fam (famP 98 ([] : List guard))), (8, .map (mpP 9 ([] : List Int))), ((.s 9 0), .fam (famP 83 ([] : List (VArr 65)))), (10, .row 82 [.mp 0, .own 2 0 (List.replicate (((pipes.length : Nat) : Int)).toNat (default : pipe)).length, .sl pipes.length (fl pipes), .mp 6, .mp 8])] 11 (by kernel_rfl) ?_
 refine wk_id ?_
 refine seq_np ?_
 refine seq_np ?_
 refine reg_f ?_
 refine rs 3 [] [] (by kernel_rfl) allP_nil ?_
 refine rf [(5, .ptr 10 0), (6, .v (.slice none 0 0)), (18, .sl trace.length (fl trace)), (19, iS ((trace.length : Nat) : Int)), (20, iS 0)] [(0, .map (mpP 1 ([] : List Int))), ((.s 1 0), .fam (famP 83 ([] : List (VArr 65)))), (2, .row 93 (flD dpipe [3, 4, 5] (List.replicate (((pipes.length : Nat) : Int)).toNat (default : pipe)))), ((.s 3 0), .fam (famD dpipe 0 (List.replicate (((pipes.length : Nat) : Int)).toNat (default : pipe)))), ((.s 4 0), .fam (famD dpipe 1 (List.replicate (((pipes.length : Nat) : Int)).toNat (default : pipe)))), ((.s 5 0), .fam (famD dpipe 2 (List.replicate (((pipes.length : Nat) : Int)).toNat (default : pipe)))), (6, .map (mpP 7 ([] : List Int))), ((.s 7 0), .fam (famP 98 ([] : List guard))), (8, .map (mpP 9 ([] : List Int))), ((.s 9 0), .fam (famP 83 ([] : List (VArr 65)))), (10, .row 82 [.mp 0, .own 2 0 (List.replicate (((pipes.length : Nat) : Int)).toNat (default : pipe)).length, .sl pipes.length (fl pipes), .mp 6, .mp 8])] 11 (by kernel_rfl) ?_
 refine wk_id ?_
 refine block_np ?_
 refine loop_sx (S := Int × (List Int) × (List (VArr 65)) × (List Int) × (List pipe) × (List Int) × (List Int) × (List (VArr 65)) × (List guard) × (List (VArr 65))) (fun a => ([(5, .ptr 0 0), (6, .own 1 0 a.2.2.1.length), (18, .sl trace.length (fl trace)), (19, iS ((trace.length : Nat) : Int)), (20, iS a.1)], [(0, .row 82 [.mp 2, .own 3 0 a.2.2.2.2.1.length, .sl a.2.1.length (fl a.2.1), .mp 4, .mp 5]), (1, .row 62 (fl a.2.2.1)), (2, .map (mpP 6 a.2.2.2.1)), (3, .row 93 (flD dpipe [7, 8, 9] a.2.2.2.2.1)), (4, .map (mpP 10 a.2.2.2.2.2.1)), (5, .map (mpP 11 a.2.2.2.2.2.2.1)), ((.s 6 0), .fam (famP 83 a.2.2.2.2.2.2.2.1)), ((.s 7 0), .fam (famD dpipe 0 a.2.2.2.2.1)), ((.s 8 0), .fam (famD dpipe 1 a.2.2.2.2.1)), ((.s 9 0), .fam (famD dpipe 2 a.2.2.2.2.1)), ((.s 10 0), .fam (famP 98 a.2.2.2.2.2.2.2.2.1)), ((.s 11 0), .fam (famP 83 a.2.2.2.2.2.2.2.2.2))], 12)) h (leSt_m [(0, 10), (2, 0), (3, 2), (4, 6), (5, 8), ((.s 6 0), (.s 1 0)), ((.s 7 0), (.s 3 0)), ((.s 8 0), (.s 4 0)), ((.s 9 0), (.s 5 0)), ((.s 10 0), (.s 7 0)), ((.s 11 0), (.s 9 0))] [] (by simp only [push_cast, List.length_nil, lenP_famP, leL_flD, renL_flD, leL_flP, renL_flP, leC_famP, leC_famP0, flP_0, ren_famP, noN_eq, lenP_same, lenP_one, lenP_app, lenP_set, lenP_famP, Nat.le_refl, List.length_set, leC_mpP, leC_mpP1, mapLe_eq, mapLe1_eq, ren_mpP, ren_mpP1, seval]) (by simp only [push_cast, List.length_nil, lenP_famP, leL_flD, renL_flD, leL_flP, renL_flP, leC_famP, leC_famP0, flP_0, ren_famP, noN_eq, lenP_same, lenP_one, lenP_app, lenP_set, lenP_famP, Nat.le_refl, List.length_set, leC_mpP, leC_mpP1, mapLe_eq, mapLe1_eq, ren_mpP, ren_mpP1, seval]) rfl rfl rfl) ?_
 rintro ⟨t20q7, c0_caps7, c1q7, c2q7, c3q7, c4q7, c5q7, c6q7, c10q7, c11q7⟩ o2 R2 h hr2 hn2 hx2 ht2
 try dsimp only at h hn2 ⊢
 unfold order_Stamps_l1 at h
 try dsimp only at h
 refine chk_sx h (fun g2163 h => ?_)
 have k2162 : c2q7.length = c6q7.length := of_decide_eq_true g2163
 refine chk_sx h (fun g2165 h => ?_)
 have k2164 : c4q7.length = c10q7.length := of_decide_eq_true g2165
 refine chk_sx h (fun g2167 h => ?_)
 have k2166 : c5q7.length = c11q7.length := of_decide_eq_true g2167
 refine seq_np ?_
 refine reg_f ?_
 refine rs 1 [] [] (by kernel_rfl) allP_nil ?_
 refine rf [(5, .ptr 0 0), (6, .own 1 0 c1q7.length), (18, .sl trace.length (fl trace)), (19, iS ((trace.length : Nat) : Int)), (20, iS t20q7), (21, bS (decide (t20q7 < ((trace.length : Nat) : Int))))] [(0, .row 82 [.mp 2, .own 3 0 c3q7.length, .sl c0_caps7.length (fl c0_caps7), .mp 4, .mp 5]), (1, .row 62 (fl c1q7)), (2, .map (mpP 6 c2q7)), (3, .row 93 (flD dpipe [7, 8, 9] c3q7)), (4, .map (mpP 10 c4q7)), (5, .map (mpP 11 c5q7)), ((.s 6 0), .fam (famP 83 c6q7)), ((.s 7 0), .fam (famD dpipe 0 c3q7)), ((.s 8 0), .fam (famD dpipe 1 c3q7)), ((.s 9 0), .fam (famD dpipe 2 c3q7)), ((.s 10 0), .fam (famP 98 c10q7)), ((.s 11 0), .fam (famP 83 c11q7))] 12 (by kernel_rfl) ?_
 refine wk_id ?_
 refine seq_np ?_
 refine cond_sx h (by kernel_rfl) (fun g2217 h => ?_) (fun g2217 h => ?_)
 ·refine wk_id ?_
  refine seq_np ?_
  refine block_np ?_
  refine chk_sx h (fun g2196 h => ?_)
  refine seq_np ?_
  refine reg_f ?_
  have k2195 : 0 ≤ t20q7 ∧ t20q7 < ((trace.length : Nat) : Int) := by first | simpa only [Bool.and_eq_true, decide_eq_true_eq, bne_iff_ne, ne_eq] using g2196 | (simp at g2196 ⊢; omega)
  refine rs 4 [some ⟨.iptr (fl trace) ((t20q7).toNat * 4), [], 12, []⟩, some ⟨.agg (Enc.cells (ix trace t20q7)), [], 12, []⟩] _ (by kernel_rfl) (allP_cons (ob_ldw trace t20q7 4 ((t20q7).toNat * 4) k2195 rfl (by first | rfl | omega) (Enc.cells (ix trace t20q7)) rfl 12 []) (allP_cons (ob_ix_l trace 4 12 t20q7 k2195) allP_nil)) ?_
  refine rf [(5, .ptr 0 0), (6, .own 1 0 c1q7.length), (8, .ptr 12 0), (18, .sl trace.length (fl trace)), (19, iS ((trace.length : Nat) : Int)), (20, iS t20q7)] [(0, .row 82 [.mp 2, .own 3 0 c3q7.length, .sl c0_caps7.length (fl c0_caps7), .mp 4, .mp 5]), (1, .row 62 (fl c1q7)), (2, .map (mpP 6 c2q7)), (3, .row 93 (flD dpipe [7, 8, 9] c3q7)), (4, .map (mpP 10 c4q7)), (5, .map (mpP 11 c5q7)), ((.s 6 0), .fam (famP 83 c6q7)), ((.s 7 0), .fam (famD dpipe 0 c3q7)), ((.s 8 0), .fam (famD dpipe 1 c3q7)), ((.s 9 0), .fam (famD dpipe 2 c3q7)), ((.s 10 0), .fam (famP 98 c10q7)), ((.s 11 0), .fam (famP 83 c11q7)), (12, .row 31 (Enc.cells (ix trace t20q7)))] 13 (by kernel_rfl) ?_
  refine wk_id ?_
  refine reg_f ?_
  refine rs 3 [] [] (by kernel_rfl) allP_nil ?_
  obtain ⟨r2207, hr2207, h⟩ := bind_sx h
  refine call_x (order_watch_see_spec (ix trace t20q7) c0_caps7 c2q7 c3q7 c4q7 c5q7 c6q7 c10q7 c11q7 r2207 hr2207) (args := [.ptr 0 0, .agg (Enc.cells (ix trace t20q7))]) (dst := (some 27)) (by kernel_rfl) [(0, .row 82 [.mp 2, .own 3 0 c3q7.length, .sl c0_caps7.length (fl c0_caps7), .mp 4, .mp 5]), (1, .row 62 (fl c1q7)), (2, .map (mpP 6 c2q7)), (3, .row 93 (flD dpipe [7, 8, 9] c3q7)), (4, .map (mpP 10 c4q7)), (5, .map (mpP 11 c5q7)), ((.s 6 0), .fam (famP 83 c6q7)), ((.s 7 0), .fam (famD dpipe 0 c3q7)), ((.s 8 0), .fam (famD dpipe 1 c3q7)), ((.s 9 0), .fam (famD dpipe 2 c3q7)), ((.s 10 0), .fam (famP 98 c10q7)), ((.s 11 0), .fam (famP 83 c11q7)), (12, .row 31 (Enc.cells (ix trace t20q7)))] 13 (by kernel_rfl) [(0, 0), (1, 2), ((.s 2 0), (.s 6 0)), (3, 3), ((.s 4 0), (.s 7 0)), ((.s 5 0), (.s 8 0)), ((.s 6 0), (.s 9 0)), (7, 4), ((.s 8 0), (.s 10 0)), (9, 5), ((.s 10 0), (.s 11 0))] [] (.agg (Enc.cells r2207.1)) [(0, .row 82 [.mp 2, .own 3 0 r2207.2.2.2.1.length, .sl r2207.2.1.length (fl r2207.2.1), .mp 4, .mp 5]), (2, .map (mpP 6 r2207.2.2.1)), ((.s 6 0), .fam (famP 83 r2207.2.2.2.2.2.2.1)), (3, .row 93 (flD dpipe [24, 25, 26] r2207.2.2.2.1)), ((.s 7 0), .dead), ((.s 8 0), .dead), ((.s 9 0), .dead), (4, .map (mpP 10 r2207.2.2.2.2.1)), ((.s 10 0), .fam (famP 98 r2207.2.2.2.2.2.2.2.1)), (5, .map (mpP 11 r2207.2.2.2.2.2.1)), ((.s 11 0), .fam (famP 83 r2207.2.2.2.2.2.2.2.2)), ((.s 24 0), .fam (famD dpipe 0 r2207.2.2.2.1)), ((.s 25 0), .fam (famD dpipe 1 r2207.2.2.2.1)), ((.s 26 0), .fam (famD dpipe 2 r2207.2.2.2.1)), (0, .dead), (2, .dead), ((.s 6 0), .dead), (3, .dead), ((.s 7 0), .dead), ((.s 8 0), .dead), ((.s 9 0), .dead), (4, .dead), ((.s 10 0), .dead), (5, .dead), ((.s 11 0), .dead)] (by simp only [push_cast, k2162, lenP_famP, k2164, lenP_famP, k2166, lenP_famP, leL_flD, renL_flD, leL_flP, renL_flP, leC_famP, leC_famP0, flP_0, ren_famP, noN_eq, lenP_same, lenP_one, lenP_app, lenP_set, lenP_famP, Nat.le_refl, List.length_set, leC_mpP, leC_mpP1, mapLe_eq, mapLe1_eq, ren_mpP, ren_mpP1, seval]) (by simp only [push_cast, k2162, lenP_famP, k2164, lenP_famP, k2166, lenP_famP, leL_flD, renL_flD, leL_flP, renL_flP, leC_famP, leC_famP0, flP_0, ren_famP, noN_eq, lenP_same, lenP_one, lenP_app, lenP_set, lenP_famP, Nat.le_refl, List.length_set, leC_mpP, leC_mpP1, mapLe_eq, mapLe1_eq, ren_mpP, ren_mpP1, seval]) (by kernel_rfl) (.inl rfl) (by first | (simp only [push_cast, k2162, lenP_famP, k2164, lenP_famP, k2166, lenP_famP, leL_flD, renL_flD, leL_flP, renL_flP, leC_famP, leC_famP0, flP_0, ren_famP, noN_eq, lenP_same, lenP_one, lenP_app, lenP_set, lenP_famP, Nat.le_refl, List.length_set, leC_mpP, leC_mpP1, mapLe_eq, mapLe1_eq, ren_mpP, ren_mpP1, seval]; done) | (simp only [push_cast, k2162, lenP_famP, k2164, lenP_famP, k2166, lenP_famP, leL_flD, renL_flD, leL_flP, renL_flP, leC_famP, leC_famP0, flP_0, ren_famP, noN_eq, lenP_same, lenP_one, lenP_app, lenP_set, lenP_famP, Nat.le_refl, List.length_set, leC_mpP, leC_mpP1, mapLe_eq, mapLe1_eq, ren_mpP, ren_mpP1, seval]; kernel_rfl) | kernel_rfl) (by first | (simp only [push_cast, k2162, lenP_famP, k2164, lenP_famP, k2166, lenP_famP, leL_flD, renL_flD, leL_flP, renL_flP, leC_famP, leC_famP0, flP_0, ren_famP, noN_eq, lenP_same, lenP_one, lenP_app, lenP_set, lenP_famP, Nat.le_refl, List.length_set, leC_mpP, leC_mpP1, mapLe_eq, mapLe1_eq, ren_mpP, ren_mpP1, seval]; done) | (simp only [push_cast, k2162, lenP_famP, k2164, lenP_famP, k2166, lenP_famP, leL_flD, renL_flD, leL_flP, renL_flP, leC_famP, leC_famP0, flP_0, ren_famP, noN_eq, lenP_same, lenP_one, lenP_app, lenP_set, lenP_famP, Nat.le_refl, List.length_set, leC_mpP, leC_mpP1, mapLe_eq, mapLe1_eq, ren_mpP, ren_mpP1, seval]; kernel_rfl) | kernel_rfl) ?_ (hfam := (And.intro trivial (And.intro trivial (And.intro (famP_fam (t := 83) (xs := c6q7) (by kernel_rfl) (by kernel_rfl)) (And.intro trivial (And.intro (fun _ => Or.inl rfl) (And.intro (fun _ => Or.inl rfl) (And.intro (fun _ => Or.inl rfl) (And.intro trivial (And.intro (famP_fam (t := 98) (xs := c10q7) (by kernel_rfl) (by kernel_rfl)) (And.intro trivial (And.intro (famP_fam (t := 83) (xs := c11q7) (by kernel_rfl) (by kernel_rfl)) trivial))))))))))))
  refine chk_sx h (fun g2210 h => ?_)
  have k2209 : r2207.2.2.1.length = r2207.2.2.2.2.2.2.1.length := of_decide_eq_true g2210
  refine chk_sx h (fun g2212 h => ?_)
  have k2211 : r2207.2.2.2.2.1.length = r2207.2.2.2.2.2.2.2.1.length := of_decide_eq_true g2212
  refine chk_sx h (fun g2214 h => ?_)
  have k2213 : r2207.2.2.2.2.2.1.length = r2207.2.2.2.2.2.2.2.2.length := of_decide_eq_true g2214
  refine chk_sx h (fun g2216 h => ?_)
  have k2215 : (c1q7 ++ ([r2207.1] : List (VArr 65))).length * 520 ≤ 140737488355328 := by first | simpa only [Bool.and_eq_true, decide_eq_true_eq, bne_iff_ne, ne_eq] using g2216 | (simp at g2216 ⊢; omega)
  refine rs 3 [none, some ⟨.own 28 0 (c1q7 ++ ([r2207.1] : List (VArr 65))).length, [(28, .row 62 (fl (c1q7 ++ ([r2207.1] : List (VArr 65))))), (1, .dead)], 29, [1, 27]⟩] _ (by kernel_rfl) (allP_cons (ob_app (P := Try.prog) c1q7 ([r2207.1] : List (VArr 65)) 65 520 rfl (appCells (fl ([r2207.1] : List (VArr 65))) 0 (([r2207.1] : List (VArr 65)).length * 65)) ([r2207.1] : List (VArr 65)).length (app_own ([r2207.1] : List (VArr 65)) 65 rfl) rfl (0 + ([r2207.1] : List (VArr 65)).length * 65 ≤ (fl ([r2207.1] : List (VArr 65))).length) (app_own_le ([r2207.1] : List (VArr 65)) 65 rfl) 62 (by kernel_rfl) (by decide) k2215 1 28 [27]) allP_nil) ?_
  refine rf [(5, .ptr 0 0), (6, .own 28 0 (c1q7 ++ ([r2207.1] : List (VArr 65))).length), (18, .sl trace.length (fl trace)), (19, iS ((trace.length : Nat) : Int)), (20, iS t20q7)] [(0, .row 82 [.mp 2, .own 3 0 r2207.2.2.2.1.length, .sl r2207.2.1.length (fl r2207.2.1), .mp 4, .mp 5]), (1, .dead), (2, .map (mpP 6 r2207.2.2.1)), (3, .row 93 (flD dpipe [24, 25, 26] r2207.2.2.2.1)), (4, .map (mpP 10 r2207.2.2.2.2.1)), (5, .map (mpP 11 r2207.2.2.2.2.2.1)), ((.s 6 0), .fam (famP 83 r2207.2.2.2.2.2.2.1)), ((.s 7 0), .dead), ((.s 8 0), .dead), ((.s 9 0), .dead), ((.s 10 0), .fam (famP 98 r2207.2.2.2.2.2.2.2.1)), ((.s 11 0), .fam (famP 83 r2207.2.2.2.2.2.2.2.2)), (12, .row 31 (Enc.cells (ix trace t20q7))), ((.s 24 0), .fam (famD dpipe 0 r2207.2.2.2.1)), ((.s 25 0), .fam (famD dpipe 1 r2207.2.2.2.1)), ((.s 26 0), .fam (famD dpipe 2 r2207.2.2.2.1)), (27, .row 62 (fl ([r2207.1] : List (VArr 65)))), (28, .row 62 (fl (c1q7 ++ ([r2207.1] : List (VArr 65)))))] 29 (by kernel_rfl) ?_
  refine wk_id ?_
  refine wk_id ?_
  refine reg_f ?_
  refine rs 2 [] [] (by kernel_rfl) allP_nil ?_
  refine rf [(5, .ptr 0 0), (6, .own 28 0 (c1q7 ++ ([r2207.1] : List (VArr 65))).length), (18, .sl trace.length (fl trace)), (19, iS ((trace.length : Nat) : Int)), (20, iS (IntKind.i64.wrap (t20q7 + 1)))] [(0, .row 82 [.mp 2, .own 3 0 r2207.2.2.2.1.length, .sl r2207.2.1.length (fl r2207.2.1), .mp 4, .mp 5]), (1, .dead), (2, .map (mpP 6 r2207.2.2.1)), (3, .row 93 (flD dpipe [24, 25, 26] r2207.2.2.2.1)), (4, .map (mpP 10 r2207.2.2.2.2.1)), (5, .map (mpP 11 r2207.2.2.2.2.2.1)), ((.s 6 0), .fam (famP 83 r2207.2.2.2.2.2.2.1)), ((.s 7 0), .dead), ((.s 8 0), .dead), ((.s 9 0), .dead), ((.s 10 0), .fam (famP 98 r2207.2.2.2.2.2.2.2.1)), ((.s 11 0), .fam (famP 83 r2207.2.2.2.2.2.2.2.2)), (12, .row 31 (Enc.cells (ix trace t20q7))), ((.s 24 0), .fam (famD dpipe 0 r2207.2.2.2.1)), ((.s 25 0), .fam (famD dpipe 1 r2207.2.2.2.1)), ((.s 26 0), .fam (famD dpipe 2 r2207.2.2.2.1)), (27, .row 62 (fl ([r2207.1] : List (VArr 65)))), (28, .row 62 (fl (c1q7 ++ ([r2207.1] : List (VArr 65)))))] 29 (by kernel_rfl) ?_
  exact hn2 ((IntKind.i64.wrap (t20q7 + 1)), r2207.2.1, (c1q7 ++ ([r2207.1] : List (VArr 65))), r2207.2.2.1, r2207.2.2.2.1, r2207.2.2.2.2.1, r2207.2.2.2.2.2.1, r2207.2.2.2.2.2.2.1, r2207.2.2.2.2.2.2.2.1, r2207.2.2.2.2.2.2.2.2) _ _ _ (Option.some.inj h).symm (leSt_m [(0, 0), (1, 28), (2, 2), (3, 3), (4, 4), (5, 5), ((.s 6 0), (.s 6 0)), ((.s 7 0), (.s 24 0)), ((.s 8 0), (.s 25 0)), ((.s 9 0), (.s 26 0)), ((.s 10 0), (.s 10 0)), ((.s 11 0), (.s 11 0))] [] (by simp only [push_cast, k2209, lenP_famP, k2211, k2213, leL_flD, renL_flD, leL_flP, renL_flP, leC_famP, leC_famP0, flP_0, ren_famP, noN_eq, lenP_same, lenP_one, lenP_app, lenP_set, lenP_famP, Nat.le_refl, List.length_set, leC_mpP, leC_mpP1, mapLe_eq, mapLe1_eq, ren_mpP, ren_mpP1, seval]) (by simp only [push_cast, k2209, lenP_famP, k2211, k2213, leL_flD, renL_flD, leL_flP, renL_flP, leC_famP, leC_famP0, flP_0, ren_famP, noN_eq, lenP_same, lenP_one, lenP_app, lenP_set, lenP_famP, Nat.le_refl, List.length_set, leC_mpP, leC_mpP1, mapLe_eq, mapLe1_eq, ren_mpP, ren_mpP1, seval]) rfl rfl rfl)
 ·change R2 (.exit 0) _ _ _
  refine ex_cast hx2 (id := 0) ?_
  obtain ⟨r0, h, e0⟩ := map_sx h
  have e1 := hr2 r0 e0.symm
  subst r0
  refine wk_id ?_
  refine wk_id ?_
  refine seq_np ?_
  refine reg_f ?_
  refine rs 2 [] [] (by kernel_rfl) allP_nil ?_
  refine rf [(4, .own 1 0 c1q7.length)] [(0, .row 82 [.mp 2, .own 3 0 c3q7.length, .sl c0_caps7.length (fl c0_caps7), .mp 4, .mp 5]), (1, .row 62 (fl c1q7)), (2, .map (mpP 6 c2q7)), (3, .row 93 (flD dpipe [7, 8, 9] c3q7)), (4, .map (mpP 10 c4q7)), (5, .map (mpP 11 c5q7)), ((.s 6 0), .fam (famP 83 c6q7)), ((.s 7 0), .fam (famD dpipe 0 c3q7)), ((.s 8 0), .fam (famD dpipe 1 c3q7)), ((.s 9 0), .fam (famD dpipe 2 c3q7)), ((.s 10 0), .fam (famP 98 c10q7)), ((.s 11 0), .fam (famP 83 c11q7))] 12 (by kernel_rfl) ?_
  refine wk_id ?_
  obtain rfl := Option.some.inj h
  refine ret_at (.own 1 0 c1q7.length) (by kernel_rfl) ?_
  exact ret_e [(0, 1)] [] (by simp only [push_cast, leL_flD, renL_flD, leL_flP, renL_flP, leC_famP, leC_famP0, flP_0, ren_famP, noN_eq, lenP_same, lenP_one, lenP_app, lenP_set, lenP_famP, Nat.le_refl, List.length_set, leC_mpP, leC_mpP1, mapLe_eq, mapLe1_eq, ren_mpP, ren_mpP1, seval]) (by simp only [push_cast, leL_flD, renL_flD, leL_flP, renL_flP, leC_famP, leC_famP0, flP_0, ren_famP, noN_eq, lenP_same, lenP_one, lenP_app, lenP_set, lenP_famP, Nat.le_refl, List.length_set, leC_mpP, leC_mpP1, mapLe_eq, mapLe1_eq, ren_mpP, ren_mpP1, seval]) rfl rfl rfl

set_option maxRecDepth 100000 in
set_option maxHeartbeats 200000000 in
theorem order_Ahead_spec (e : GEvent) (own : (VArr 65)) (other : (VArr 65)) (r : Bool) (h : order_Ahead e own other = some r) : SpecW Try.prog 34 [.agg (Enc.cells e), .agg (Enc.cells own), .agg (Enc.cells other)] [] 0 (fun x h n => x = bS r ∧ h = [] ∧ n = 0) := by
 unfold order_Ahead at h
 refine spec_of (draw_ok _) Try.func34 rfl (by decide) rfl (by kernel_rfl) ?_
 refine seq_np ?_
 refine reg_f ?_
 refine rs 4 [] [] (by kernel_rfl) allP_nil ?_
 refine rf [(3, .ptr 0 0), (4, .ptr 1 0), (5, .ptr 2 0)] [(0, .row 31 (Enc.cells e)), (1, .row 62 (Enc.cells own)), (2, .row 62 (Enc.cells other))] 3 (by kernel_rfl) ?_
 refine wk_id ?_
 refine chk_sx h (fun g2231 h => ?_)
 refine seq_np ?_
 refine reg_t ?_
 have k2230 : 0 ≤ e.Task ∧ e.Task < ((65 : Nat) : Int) := by first | simpa only [Bool.and_eq_true, decide_eq_true_eq, bne_iff_ne, ne_eq] using g2231 | (simp at g2231 ⊢; omega)
 refine rs 10 [none, none, some ⟨.ptr 1 (0 + (e.Task).toNat * 1), [], 5, []⟩, some ⟨iS (own.get e.Task), [], 6, [1]⟩, none, none, some ⟨.ptr 2 (0 + (e.Task).toNat * 1), [], 9, []⟩, some ⟨iS (other.get e.Task), [], 10, [2]⟩] _ (by kernel_rfl) (allP_cons (ob_lda ([] : List SV) ([] : List SV) other e.Task (0 + (e.Task).toNat * 1) k2230 rfl (dflS Try.prog 3) 10 [2]) (allP_cons (ob_ixa 2 0 65 1 e.Task 9 k2230) (allP_cons (ob_lda ([] : List SV) ([] : List SV) own e.Task (0 + (e.Task).toNat * 1) k2230 rfl (dflS Try.prog 3) 6 [1]) (allP_cons (ob_ixa 1 0 65 1 e.Task 5 k2230) allP_nil)))) ?_
 refine rt [(6, bS (decide ((own.get e.Task) ≤ (other.get e.Task))))] [(0, .row 31 (Enc.cells e)), (1, .row 62 (Enc.cells own)), (2, .row 62 (Enc.cells other))] 13 follows (by kernel_rfl) ?_
 refine wk_id ?_
 obtain rfl := Option.some.inj h
 refine ret_at (bS (decide ((own.get e.Task) ≤ (other.get e.Task)))) (by kernel_rfl) ?_
 exact ret_e [] [] (by simp only [push_cast, leL_flD, renL_flD, leL_flP, renL_flP, leC_famP, leC_famP0, flP_0, ren_famP, noN_eq, lenP_same, lenP_one, lenP_app, lenP_set, lenP_famP, Nat.le_refl, List.length_set, leC_mpP, leC_mpP1, mapLe_eq, mapLe1_eq, ren_mpP, ren_mpP1, seval]) (by simp only [push_cast, leL_flD, renL_flD, leL_flP, renL_flP, leC_famP, leC_famP0, flP_0, ren_famP, noN_eq, lenP_same, lenP_one, lenP_app, lenP_set, lenP_famP, Nat.le_refl, List.length_set, leC_mpP, leC_mpP1, mapLe_eq, mapLe1_eq, ren_mpP, ren_mpP1, seval]) rfl rfl rfl

set_option maxRecDepth 100000 in
set_option maxHeartbeats 200000000 in
theorem order_Before_spec (trace : (List GEvent)) (pipes : (List Int)) (i : Int) (k : Int) (r : Bool × Fault) (h : order_Before trace pipes i k = some r) : SpecW Try.prog 12 [.sl trace.length (fl trace), .sl pipes.length (fl pipes), iS i, iS k] [] 0 (fun x h n => x = .tup [bS r.1, .agg (Enc.cells r.2)] ∧ h = [] ∧ n = 0) := by
 unfold order_Before at h
 refine spec_of (draw_ok _) Try.func12 rfl (by decide) rfl (by kernel_rfl) ?_
 refine seq_np ?_
 refine reg_f ?_
 refine rs 2 [] [] (by kernel_rfl) allP_nil ?_
 refine rf [(0, .sl trace.length (fl trace)), (1, .sl pipes.length (fl pipes)), (2, iS i), (3, iS k), (9, .ptr 0 0)] [(0, .row 26 [iS 0, iS 0])] 1 (by kernel_rfl) ?_
 refine wk_id ?_
 refine seq_np ?_
 refine seq_np ?_
 refine reg_f ?_
 refine rs 2 [] [] (by kernel_rfl) allP_nil ?_
 obtain ⟨r2238, hr2238, h⟩ := bind_sx h
 refine run_call 15 [.sl trace.length (fl trace), .sl pipes.length (fl pipes)] (some 14) (by kernel_rfl) ?_
 refine call_0 (order_Check_spec trace pipes r2238 hr2238) (by simp only [push_cast, leL_flD, renL_flD, leL_flP, renL_flP, leC_famP, leC_famP0, flP_0, ren_famP, noN_eq, lenP_same, lenP_one, lenP_app, lenP_set, lenP_famP, Nat.le_refl, List.length_set, leC_mpP, leC_mpP1, mapLe_eq, mapLe1_eq, ren_mpP, ren_mpP1, seval]) (by simp only [push_cast, leL_flD, renL_flD, leL_flP, renL_flP, leC_famP, leC_famP0, flP_0, ren_famP, noN_eq, lenP_same, lenP_one, lenP_app, lenP_set, lenP_famP, Nat.le_refl, List.length_set, leC_mpP, leC_mpP1, mapLe_eq, mapLe1_eq, ren_mpP, ren_mpP1, seval]) ?_
 refine back_f ?_
 refine rs 2 [] [] (by kernel_rfl) allP_nil ?_
 refine rf [(0, .sl trace.length (fl trace)), (1, .sl pipes.length (fl pipes)), (2, iS i), (3, iS k), (9, .ptr 0 0), (10, .ptr 1 0)] [(0, .row 26 [iS 0, iS 0]), (1, .row 26 (Enc.cells r2238))] 2 (by kernel_rfl) ?_
 refine wk_id ?_
 refine seq_np ?_
 refine reg_f ?_
 refine rs 3 [] [] (by kernel_rfl) allP_nil ?_
 refine rf [(0, .sl trace.length (fl trace)), (1, .sl pipes.length (fl pipes)), (2, iS i), (3, iS k), (9, .ptr 0 0), (10, .ptr 1 0), (17, bS (r2238.Code != 0))] [(0, .row 26 [iS 0, iS 0]), (1, .row 26 (Enc.cells r2238))] 2 (by kernel_rfl) ?_
 refine wk_id ?_
 refine cond_sx h (by kernel_rfl) (fun g2268 h => ?_) (fun g2268 h => ?_)
 ·refine seq_np ?_
  refine reg_t ?_
  refine rs 3 [] [] (by kernel_rfl) allP_nil ?_
  refine rt [(8, bS false), (9, .ptr 0 0)] [(0, .row 26 (Enc.cells r2238)), (1, .row 26 (Enc.cells r2238))] 5 follows (by kernel_rfl) ?_
  refine wk_id ?_
  obtain rfl := Option.some.inj h
  refine ret_at (.tup [bS false, .agg (Enc.cells r2238)]) (by kernel_rfl) ?_
  exact ret_e [] [] (by simp only [push_cast, leL_flD, renL_flD, leL_flP, renL_flP, leC_famP, leC_famP0, flP_0, ren_famP, noN_eq, lenP_same, lenP_one, lenP_app, lenP_set, lenP_famP, Nat.le_refl, List.length_set, leC_mpP, leC_mpP1, mapLe_eq, mapLe1_eq, ren_mpP, ren_mpP1, seval]) (by simp only [push_cast, leL_flD, renL_flD, leL_flP, renL_flP, leC_famP, leC_famP0, flP_0, ren_famP, noN_eq, lenP_same, lenP_one, lenP_app, lenP_set, lenP_famP, Nat.le_refl, List.length_set, leC_mpP, leC_mpP1, mapLe_eq, mapLe1_eq, ren_mpP, ren_mpP1, seval]) rfl rfl rfl
 ·refine wk_id ?_
  refine seq_np ?_
  refine seq_cut (A := Unit) (fun _ => ([(0, .sl trace.length (fl trace)), (1, .sl pipes.length (fl pipes)), (2, iS i), (3, iS k), (9, .ptr 0 0), (30, bS ((decide ((min i k) < 0)) || (decide (((trace.length : Nat) : Int) ≤ (max i k)))))], [(0, .row 26 [iS 0, iS 0]), (1, .row 26 (Enc.cells r2238))], 2)) (fun _ => True) (fun K2243 hK2243 => ?_) (fun _ _ => ?_)
  ·refine reg_f ?_
   refine rs 5 [] [] (by kernel_rfl) allP_nil ?_
   refine run_split 23 (decide ((min i k) < 0)) (.inl (by kernel_rfl)) (fun g2244 => ?_) (fun g2244 => ?_)
   ·refine rs 7 [] [] (by kernel_rfl) allP_nil ?_
    refine rf [(0, .sl trace.length (fl trace)), (1, .sl pipes.length (fl pipes)), (2, iS i), (3, iS k), (9, .ptr 0 0), (30, bS true)] [(0, .row 26 [iS 0, iS 0]), (1, .row 26 (Enc.cells r2238))] 2 (by kernel_rfl) ?_
    exact hK2243 () _ _ _ trivial (leSt_m [(0, 0), (1, 1)] [] (by (try simp only [g2244]) <;> simp only [push_cast, leL_flD, renL_flD, leL_flP, renL_flP, leC_famP, leC_famP0, flP_0, ren_famP, noN_eq, lenP_same, lenP_one, lenP_app, lenP_set, lenP_famP, Nat.le_refl, List.length_set, leC_mpP, leC_mpP1, mapLe_eq, mapLe1_eq, ren_mpP, ren_mpP1, seval]) (by (try simp only [g2244]) <;> simp only [push_cast, leL_flD, renL_flD, leL_flP, renL_flP, leC_famP, leC_famP0, flP_0, ren_famP, noN_eq, lenP_same, lenP_one, lenP_app, lenP_set, lenP_famP, Nat.le_refl, List.length_set, leC_mpP, leC_mpP1, mapLe_eq, mapLe1_eq, ren_mpP, ren_mpP1, seval]) rfl rfl rfl)
   ·refine rs 7 [] [] (by kernel_rfl) allP_nil ?_
    refine rf [(0, .sl trace.length (fl trace)), (1, .sl pipes.length (fl pipes)), (2, iS i), (3, iS k), (9, .ptr 0 0), (30, bS (decide (((trace.length : Nat) : Int) ≤ (max i k))))] [(0, .row 26 [iS 0, iS 0]), (1, .row 26 (Enc.cells r2238))] 2 (by kernel_rfl) ?_
    exact hK2243 () _ _ _ trivial (leSt_m [(0, 0), (1, 1)] [] (by (try simp only [g2244]) <;> simp only [push_cast, leL_flD, renL_flD, leL_flP, renL_flP, leC_famP, leC_famP0, flP_0, ren_famP, noN_eq, lenP_same, lenP_one, lenP_app, lenP_set, lenP_famP, Nat.le_refl, List.length_set, leC_mpP, leC_mpP1, mapLe_eq, mapLe1_eq, ren_mpP, ren_mpP1, seval]) (by (try simp only [g2244]) <;> simp only [push_cast, leL_flD, renL_flD, leL_flP, renL_flP, leC_famP, leC_famP0, flP_0, ren_famP, noN_eq, lenP_same, lenP_one, lenP_app, lenP_set, lenP_famP, Nat.le_refl, List.length_set, leC_mpP, leC_mpP1, mapLe_eq, mapLe1_eq, ren_mpP, ren_mpP1, seval]) rfl rfl rfl)
  ·dsimp only
   refine cond_sx h (by kernel_rfl) (fun g2267 h => ?_) (fun g2267 h => ?_)
   ·refine seq_np ?_
    refine reg_f ?_
    obtain ⟨r2246, hr2246, h⟩ := bind_sx h
    refine run_call 32 [iS 3, iS (-1)] (some 31) (by kernel_rfl) ?_
    refine call_0 (order_fault_spec 3 (-1) r2246 hr2246) (by simp only [push_cast, leL_flD, renL_flD, leL_flP, renL_flP, leC_famP, leC_famP0, flP_0, ren_famP, noN_eq, lenP_same, lenP_one, lenP_app, lenP_set, lenP_famP, Nat.le_refl, List.length_set, leC_mpP, leC_mpP1, mapLe_eq, mapLe1_eq, ren_mpP, ren_mpP1, seval]) (by simp only [push_cast, leL_flD, renL_flD, leL_flP, renL_flP, leC_famP, leC_famP0, flP_0, ren_famP, noN_eq, lenP_same, lenP_one, lenP_app, lenP_set, lenP_famP, Nat.le_refl, List.length_set, leC_mpP, leC_mpP1, mapLe_eq, mapLe1_eq, ren_mpP, ren_mpP1, seval]) ?_
    refine back_f ?_
    refine rs 2 [] [] (by kernel_rfl) allP_nil ?_
    refine rf [(8, bS false), (9, .ptr 0 0)] [(0, .row 26 (Enc.cells r2246)), (1, .row 26 (Enc.cells r2238))] 2 (by kernel_rfl) ?_
    refine wk_id ?_
    obtain rfl := Option.some.inj h
    refine ret_at (.tup [bS false, .agg (Enc.cells r2246)]) (by kernel_rfl) ?_
    exact ret_e [] [] (by simp only [push_cast, leL_flD, renL_flD, leL_flP, renL_flP, leC_famP, leC_famP0, flP_0, ren_famP, noN_eq, lenP_same, lenP_one, lenP_app, lenP_set, lenP_famP, Nat.le_refl, List.length_set, leC_mpP, leC_mpP1, mapLe_eq, mapLe1_eq, ren_mpP, ren_mpP1, seval]) (by simp only [push_cast, leL_flD, renL_flD, leL_flP, renL_flP, leC_famP, leC_famP0, flP_0, ren_famP, noN_eq, lenP_same, lenP_one, lenP_app, lenP_set, lenP_famP, Nat.le_refl, List.length_set, leC_mpP, leC_mpP1, mapLe_eq, mapLe1_eq, ren_mpP, ren_mpP1, seval]) rfl rfl rfl
   ·refine wk_id ?_
    refine seq_np ?_
    refine reg_f ?_
    refine rs 2 [] [] (by kernel_rfl) allP_nil ?_
    obtain ⟨r2248, hr2248, h⟩ := bind_sx h
    refine call_x (order_Stamps_spec trace pipes r2248 hr2248) (args := [.sl trace.length (fl trace), .sl pipes.length (fl pipes)]) (dst := (some 34)) (by kernel_rfl) [(0, .row 26 [iS 0, iS 0]), (1, .row 26 (Enc.cells r2238))] 2 (by kernel_rfl) [] [] (.own 2 0 r2248.length) [(2, .row 62 (fl r2248))] (by simp only [push_cast, leL_flD, renL_flD, leL_flP, renL_flP, leC_famP, leC_famP0, flP_0, ren_famP, noN_eq, lenP_same, lenP_one, lenP_app, lenP_set, lenP_famP, Nat.le_refl, List.length_set, leC_mpP, leC_mpP1, mapLe_eq, mapLe1_eq, ren_mpP, ren_mpP1, seval]) (by simp only [push_cast, leL_flD, renL_flD, leL_flP, renL_flP, leC_famP, leC_famP0, flP_0, ren_famP, noN_eq, lenP_same, lenP_one, lenP_app, lenP_set, lenP_famP, Nat.le_refl, List.length_set, leC_mpP, leC_mpP1, mapLe_eq, mapLe1_eq, ren_mpP, ren_mpP1, seval]) (by kernel_rfl) (.inl rfl) (by simp only [push_cast, leL_flD, renL_flD, leL_flP, renL_flP, leC_famP, leC_famP0, flP_0, ren_famP, noN_eq, lenP_same, lenP_one, lenP_app, lenP_set, lenP_famP, Nat.le_refl, List.length_set, leC_mpP, leC_mpP1, mapLe_eq, mapLe1_eq, ren_mpP, ren_mpP1, seval]) (by simp only [push_cast, leL_flD, renL_flD, leL_flP, renL_flP, leC_famP, leC_famP0, flP_0, ren_famP, noN_eq, lenP_same, lenP_one, lenP_app, lenP_set, lenP_famP, Nat.le_refl, List.length_set, leC_mpP, leC_mpP1, mapLe_eq, mapLe1_eq, ren_mpP, ren_mpP1, seval]) ?_
    refine rs 1 [] [] (by kernel_rfl) allP_nil ?_
    refine rf [(0, .sl trace.length (fl trace)), (2, iS i), (3, iS k), (9, .ptr 0 0), (11, .own 2 0 r2248.length)] [(0, .row 26 [iS 0, iS 0]), (1, .row 26 (Enc.cells r2238)), (2, .row 62 (fl r2248))] 3 (by kernel_rfl) ?_
    refine wk_id ?_
    refine seq_cut (A := Bool) (fun a => ([(8, bS a), (9, .ptr 0 0)], [(0, .row 26 [iS 0, iS 0])], 1)) (fun a => (order_Before_j1 a) = some r) (fun K2258 hK2258 => ?_) ?_
    ·refine reg_t ?_
     refine rs 4 [] [] (by kernel_rfl) allP_nil ?_
     refine run_br h 38 (.inl (by kernel_rfl)) (fun g2259 h => ?_) (fun g2259 h => ?_)
     ·refine chk_sx h (fun g2261 h => ?_)
      have k2260 : 0 ≤ i ∧ i < ((trace.length : Nat) : Int) := by first | simpa only [Bool.and_eq_true, decide_eq_true_eq, bne_iff_ne, ne_eq] using g2261 | (simp at g2261 ⊢; omega)
      refine chk_sx h (fun g2263 h => ?_)
      have k2262 : 0 ≤ i ∧ i < ((r2248.length : Nat) : Int) := by first | simpa only [Bool.and_eq_true, decide_eq_true_eq, bne_iff_ne, ne_eq] using g2263 | (simp at g2263 ⊢; omega)
      refine chk_sx h (fun g2265 h => ?_)
      have k2264 : 0 ≤ k ∧ k < ((r2248.length : Nat) : Int) := by first | simpa only [Bool.and_eq_true, decide_eq_true_eq, bne_iff_ne, ne_eq] using g2265 | (simp at g2265 ⊢; omega)
      refine rs 12 [none, none, some ⟨.iptr (fl trace) ((i).toNat * 4), [], 9, []⟩, some ⟨.agg (Enc.cells (ix trace i)), [], 10, []⟩, none, none, some ⟨.ptr 2 (0 + (i).toNat * 65), [], 13, [2]⟩, some ⟨.agg (Enc.cells (ix r2248 i)), [], 14, [2]⟩, none, none, some ⟨.ptr 2 (0 + (k).toNat * 65), [], 17, [2]⟩, some ⟨.agg (Enc.cells (ix r2248 k)), [], 18, [2]⟩] _ (by kernel_rfl) (allP_cons (ob_ldw r2248 k 65 (0 + (k).toNat * 65) k2264 rfl (by first | rfl | omega) (Enc.cells (ix r2248 k)) rfl 18 [2]) (allP_cons (ob_ix_o 2 r2248.length 0 65 17 k k2264) (allP_cons (ob_ldw r2248 i 65 (0 + (i).toNat * 65) k2262 rfl (by first | rfl | omega) (Enc.cells (ix r2248 i)) rfl 14 [2]) (allP_cons (ob_ix_o 2 r2248.length 0 65 13 i k2262) (allP_cons (ob_ldw trace i 4 ((i).toNat * 4) k2260 rfl (by first | rfl | omega) (Enc.cells (ix trace i)) rfl 10 []) (allP_cons (ob_ix_l trace 4 9 i k2260) allP_nil)))))) ?_
      obtain ⟨r2266, hr2266, h⟩ := bind_sx h
      refine run_call 34 [.agg (Enc.cells (ix trace i)), .agg (Enc.cells (ix r2248 i)), .agg (Enc.cells (ix r2248 k))] (some 51) (by kernel_rfl) ?_
      refine callE_0 (order_Ahead_spec (ix trace i) (ix r2248 i) (ix r2248 k) r2266 hr2266) (by simp only [push_cast, leL_flD, renL_flD, leL_flP, renL_flP, leC_famP, leC_famP0, flP_0, ren_famP, noN_eq, lenP_same, lenP_one, lenP_app, lenP_set, lenP_famP, Nat.le_refl, List.length_set, leC_mpP, leC_mpP1, mapLe_eq, mapLe1_eq, ren_mpP, ren_mpP1, seval]) (by simp only [push_cast, leL_flD, renL_flD, leL_flP, renL_flP, leC_famP, leC_famP0, flP_0, ren_famP, noN_eq, lenP_same, lenP_one, lenP_app, lenP_set, lenP_famP, Nat.le_refl, List.length_set, leC_mpP, leC_mpP1, mapLe_eq, mapLe1_eq, ren_mpP, ren_mpP1, seval]) ?_
      refine back_t ?_
      refine rs 4 [] [] (by kernel_rfl) allP_nil ?_
      refine rt [(8, bS r2266), (9, .ptr 0 0)] [(0, .row 26 [iS 0, iS 0]), (1, .row 26 (Enc.cells r2238)), (2, .row 62 (fl r2248))] 24 follows (by kernel_rfl) ?_
      exact hK2258 (r2266) _ _ _ h (leSt_m [(0, 0)] [] (by (try simp only [g2259]) <;> simp only [push_cast, leL_flD, renL_flD, leL_flP, renL_flP, leC_famP, leC_famP0, flP_0, ren_famP, noN_eq, lenP_same, lenP_one, lenP_app, lenP_set, lenP_famP, Nat.le_refl, List.length_set, leC_mpP, leC_mpP1, mapLe_eq, mapLe1_eq, ren_mpP, ren_mpP1, seval]) (by (try simp only [g2259]) <;> simp only [push_cast, leL_flD, renL_flD, leL_flP, renL_flP, leC_famP, leC_famP0, flP_0, ren_famP, noN_eq, lenP_same, lenP_one, lenP_app, lenP_set, lenP_famP, Nat.le_refl, List.length_set, leC_mpP, leC_mpP1, mapLe_eq, mapLe1_eq, ren_mpP, ren_mpP1, seval]) rfl rfl rfl)
     ·refine rs 17 [] [] (by kernel_rfl) allP_nil ?_
      refine rt [(8, bS false), (9, .ptr 0 0)] [(0, .row 26 [iS 0, iS 0]), (1, .row 26 (Enc.cells r2238)), (2, .row 62 (fl r2248))] 24 follows (by kernel_rfl) ?_
      exact hK2258 (false) _ _ _ h (leSt_m [(0, 0)] [] (by (try simp only [g2259]) <;> simp only [push_cast, leL_flD, renL_flD, leL_flP, renL_flP, leC_famP, leC_famP0, flP_0, ren_famP, noN_eq, lenP_same, lenP_one, lenP_app, lenP_set, lenP_famP, Nat.le_refl, List.length_set, leC_mpP, leC_mpP1, mapLe_eq, mapLe1_eq, ren_mpP, ren_mpP1, seval]) (by (try simp only [g2259]) <;> simp only [push_cast, leL_flD, renL_flD, leL_flP, renL_flP, leC_famP, leC_famP0, flP_0, ren_famP, noN_eq, lenP_same, lenP_one, lenP_app, lenP_set, lenP_famP, Nat.le_refl, List.length_set, leC_mpP, leC_mpP1, mapLe_eq, mapLe1_eq, ren_mpP, ren_mpP1, seval]) rfl rfl rfl)
    ·rintro t8q1 h
     try dsimp only at h ⊢
     unfold order_Before_j1 at h
     obtain rfl := Option.some.inj h
     refine ret_at (.tup [bS t8q1, .agg [iS 0, iS 0]]) (by kernel_rfl) ?_
     exact ret_e [] [] (by simp only [push_cast, leL_flD, renL_flD, leL_flP, renL_flP, leC_famP, leC_famP0, flP_0, ren_famP, noN_eq, lenP_same, lenP_one, lenP_app, lenP_set, lenP_famP, Nat.le_refl, List.length_set, leC_mpP, leC_mpP1, mapLe_eq, mapLe1_eq, ren_mpP, ren_mpP1, seval]) (by simp only [push_cast, leL_flD, renL_flD, leL_flP, renL_flP, leC_famP, leC_famP0, flP_0, ren_famP, noN_eq, lenP_same, lenP_one, lenP_app, lenP_set, lenP_famP, Nat.le_refl, List.length_set, leC_mpP, leC_mpP1, mapLe_eq, mapLe1_eq, ren_mpP, ren_mpP1, seval]) rfl rfl rfl

set_option maxRecDepth 100000 in
set_option maxHeartbeats 200000000 in
theorem taskmilllaw_OrderTasks_spec (t : (List GEvent)) (pipes : (List Int)) (r : Bool) (h : taskmilllaw_OrderTasks t pipes = some r) : SpecW Try.prog 3 [.sl t.length (fl t), .sl pipes.length (fl pipes)] [] 0 (fun x h n => x = bS r ∧ h = [] ∧ n = 0) := by
 unfold taskmilllaw_OrderTasks at h
 refine spec_of (draw_ok _) Try.func3 rfl (by decide) rfl (by kernel_rfl) ?_
 refine seq_np ?_
 refine reg_f ?_
 refine rs 1 [] [] (by kernel_rfl) allP_nil ?_
 refine rf [(0, .sl t.length (fl t)), (1, .sl pipes.length (fl pipes))] [] 0 (by kernel_rfl) ?_
 refine wk_id ?_
 refine seq_np ?_
 refine seq_np ?_
 refine reg_f ?_
 obtain ⟨r2430, hr2430, h⟩ := bind_sx h
 refine run_call 10 [] (some 10) (by kernel_rfl) ?_
 refine call_0 (taskmilllaw_orderBegun_spec r2430 hr2430) (by simp only [push_cast, leL_flD, renL_flD, leL_flP, renL_flP, leC_famP, leC_famP0, flP_0, ren_famP, noN_eq, lenP_same, lenP_one, lenP_app, lenP_set, lenP_famP, Nat.le_refl, List.length_set, leC_mpP, leC_mpP1, mapLe_eq, mapLe1_eq, ren_mpP, ren_mpP1, seval]) (by simp only [push_cast, leL_flD, renL_flD, leL_flP, renL_flP, leC_famP, leC_famP0, flP_0, ren_famP, noN_eq, lenP_same, lenP_one, lenP_app, lenP_set, lenP_famP, Nat.le_refl, List.length_set, leC_mpP, leC_mpP1, mapLe_eq, mapLe1_eq, ren_mpP, ren_mpP1, seval]) ?_
 refine back_f ?_
 refine rs 1 [] [] (by kernel_rfl) allP_nil ?_
 refine rf [(0, .sl t.length (fl t)), (1, .sl pipes.length (fl pipes)), (11, bS (!r2430))] [] 0 (by kernel_rfl) ?_
 refine wk_id ?_
 refine cond_sx h (by kernel_rfl) (fun g3133 h => ?_) (fun g3133 h => ?_)
 ·refine seq_np ?_
  refine reg_f ?_
  refine rs 1 [] [] (by kernel_rfl) allP_nil ?_
  refine rf [(4, bS false)] [] 0 (by kernel_rfl) ?_
  refine wk_id ?_
  obtain rfl := Option.some.inj h
  refine ret_at (bS false) (by kernel_rfl) ?_
  exact ret_e [] [] (by simp only [push_cast, leL_flD, renL_flD, leL_flP, renL_flP, leC_famP, leC_famP0, flP_0, ren_famP, noN_eq, lenP_same, lenP_one, lenP_app, lenP_set, lenP_famP, Nat.le_refl, List.length_set, leC_mpP, leC_mpP1, mapLe_eq, mapLe1_eq, ren_mpP, ren_mpP1, seval]) (by simp only [push_cast, leL_flD, renL_flD, leL_flP, renL_flP, leC_famP, leC_famP0, flP_0, ren_famP, noN_eq, lenP_same, lenP_one, lenP_app, lenP_set, lenP_famP, Nat.le_refl, List.length_set, leC_mpP, leC_mpP1, mapLe_eq, mapLe1_eq, ren_mpP, ren_mpP1, seval]) rfl rfl rfl
 ·refine wk_id ?_
  refine seq_np ?_
  refine seq_cut (A := Bool) (fun a => ([(0, .sl t.length (fl t)), (1, .sl pipes.length (fl pipes)), (26, bS a)], [], 0)) (fun a => (taskmilllaw_OrderTasks_j1 t pipes a) = some r) (fun K2441 hK2441 => ?_) ?_
  ·refine reg_f ?_
   refine rs 4 [] [] (by kernel_rfl) allP_nil ?_
   refine run_br h 15 (.inl (by kernel_rfl)) (fun g2442 h => ?_) (fun g2442 h => ?_)
   ·refine rs 11 [] [] (by kernel_rfl) allP_nil ?_
    refine rf [(0, .sl t.length (fl t)), (1, .sl pipes.length (fl pipes)), (26, bS true)] [] 0 (by kernel_rfl) ?_
    exact hK2441 (true) _ _ _ h (leSt_m [] [] (by (try simp only [g2442]) <;> simp only [push_cast, leL_flD, renL_flD, leL_flP, renL_flP, leC_famP, leC_famP0, flP_0, ren_famP, noN_eq, lenP_same, lenP_one, lenP_app, lenP_set, lenP_famP, Nat.le_refl, List.length_set, leC_mpP, leC_mpP1, mapLe_eq, mapLe1_eq, ren_mpP, ren_mpP1, seval]) (by (try simp only [g2442]) <;> simp only [push_cast, leL_flD, renL_flD, leL_flP, renL_flP, leC_famP, leC_famP0, flP_0, ren_famP, noN_eq, lenP_same, lenP_one, lenP_app, lenP_set, lenP_famP, Nat.le_refl, List.length_set, leC_mpP, leC_mpP1, mapLe_eq, mapLe1_eq, ren_mpP, ren_mpP1, seval]) rfl rfl rfl)
   ·refine rs 5 [] [] (by kernel_rfl) allP_nil ?_
    refine run_br h 20 (.inl (by kernel_rfl)) (fun g2443 h => ?_) (fun g2443 h => ?_)
    ·refine rs 6 [] [] (by kernel_rfl) allP_nil ?_
     refine rf [(0, .sl t.length (fl t)), (1, .sl pipes.length (fl pipes)), (26, bS true)] [] 0 (by kernel_rfl) ?_
     exact hK2441 (true) _ _ _ h (leSt_m [] [] (by first | ((try simp only [g2442, g2443]) <;> simp only [push_cast, leL_flD, renL_flD, leL_flP, renL_flP, leC_famP, leC_famP0, flP_0, ren_famP, noN_eq, lenP_same, lenP_one, lenP_app, lenP_set, lenP_famP, Nat.le_refl, List.length_set, leC_mpP, leC_mpP1, mapLe_eq, mapLe1_eq, ren_mpP, ren_mpP1, seval]; done) | ((try simp only [g2442]); (try simp only [g2443]); simp only [push_cast, leL_flD, renL_flD, leL_flP, renL_flP, leC_famP, leC_famP0, flP_0, ren_famP, noN_eq, lenP_same, lenP_one, lenP_app, lenP_set, lenP_famP, Nat.le_refl, List.length_set, leC_mpP, leC_mpP1, mapLe_eq, mapLe1_eq, ren_mpP, ren_mpP1, seval]; done) | (exfalso; clear h; simp_all; done)) (by first | ((try simp only [g2442, g2443]) <;> simp only [push_cast, leL_flD, renL_flD, leL_flP, renL_flP, leC_famP, leC_famP0, flP_0, ren_famP, noN_eq, lenP_same, lenP_one, lenP_app, lenP_set, lenP_famP, Nat.le_refl, List.length_set, leC_mpP, leC_mpP1, mapLe_eq, mapLe1_eq, ren_mpP, ren_mpP1, seval]; done) | ((try simp only [g2442]); (try simp only [g2443]); simp only [push_cast, leL_flD, renL_flD, leL_flP, renL_flP, leC_famP, leC_famP0, flP_0, ren_famP, noN_eq, lenP_same, lenP_one, lenP_app, lenP_set, lenP_famP, Nat.le_refl, List.length_set, leC_mpP, leC_mpP1, mapLe_eq, mapLe1_eq, ren_mpP, ren_mpP1, seval]; done) | (exfalso; clear h; simp_all; done)) rfl rfl rfl)
    ·refine rs 2 [] [] (by kernel_rfl) allP_nil ?_
     obtain ⟨r2444, hr2444, h⟩ := bind_sx h
     refine run_call 11 [.sl t.length (fl t), .sl pipes.length (fl pipes)] (some 23) (by kernel_rfl) ?_
     refine call_0 (taskmillref_TraceFault_spec t pipes r2444 hr2444) (by simp only [push_cast, leL_flD, renL_flD, leL_flP, renL_flP, leC_famP, leC_famP0, flP_0, ren_famP, noN_eq, lenP_same, lenP_one, lenP_app, lenP_set, lenP_famP, Nat.le_refl, List.length_set, leC_mpP, leC_mpP1, mapLe_eq, mapLe1_eq, ren_mpP, ren_mpP1, seval]) (by simp only [push_cast, leL_flD, renL_flD, leL_flP, renL_flP, leC_famP, leC_famP0, flP_0, ren_famP, noN_eq, lenP_same, lenP_one, lenP_app, lenP_set, lenP_famP, Nat.le_refl, List.length_set, leC_mpP, leC_mpP1, mapLe_eq, mapLe1_eq, ren_mpP, ren_mpP1, seval]) ?_
     refine back_f ?_
     refine rn 12 [(0, .sl t.length (fl t)), (1, .sl pipes.length (fl pipes)), (20, bS false), (23, .agg (Enc.cells r2444))] [] 0 (by kernel_rfl) ?_
     refine rs 3 [] [] (by kernel_rfl) allP_nil ?_
     refine rf [(0, .sl t.length (fl t)), (1, .sl pipes.length (fl pipes)), (26, bS (r2444.Code != 0))] [] 0 (by kernel_rfl) ?_
     exact hK2441 ((r2444.Code != 0)) _ _ _ h (leSt_m [] [] (by first | ((try simp only [g2442, g2443]) <;> simp only [push_cast, leL_flD, renL_flD, leL_flP, renL_flP, leC_famP, leC_famP0, flP_0, ren_famP, noN_eq, lenP_same, lenP_one, lenP_app, lenP_set, lenP_famP, Nat.le_refl, List.length_set, leC_mpP, leC_mpP1, mapLe_eq, mapLe1_eq, ren_mpP, ren_mpP1, seval]; done) | ((try simp only [g2442]); (try simp only [g2443]); simp only [push_cast, leL_flD, renL_flD, leL_flP, renL_flP, leC_famP, leC_famP0, flP_0, ren_famP, noN_eq, lenP_same, lenP_one, lenP_app, lenP_set, lenP_famP, Nat.le_refl, List.length_set, leC_mpP, leC_mpP1, mapLe_eq, mapLe1_eq, ren_mpP, ren_mpP1, seval]; done) | (exfalso; clear h; simp_all; done)) (by first | ((try simp only [g2442, g2443]) <;> simp only [push_cast, leL_flD, renL_flD, leL_flP, renL_flP, leC_famP, leC_famP0, flP_0, ren_famP, noN_eq, lenP_same, lenP_one, lenP_app, lenP_set, lenP_famP, Nat.le_refl, List.length_set, leC_mpP, leC_mpP1, mapLe_eq, mapLe1_eq, ren_mpP, ren_mpP1, seval]; done) | ((try simp only [g2442]); (try simp only [g2443]); simp only [push_cast, leL_flD, renL_flD, leL_flP, renL_flP, leC_famP, leC_famP0, flP_0, ren_famP, noN_eq, lenP_same, lenP_one, lenP_app, lenP_set, lenP_famP, Nat.le_refl, List.length_set, leC_mpP, leC_mpP1, mapLe_eq, mapLe1_eq, ren_mpP, ren_mpP1, seval]; done) | (exfalso; clear h; simp_all; done)) rfl rfl rfl)
  ·rintro t26q2 h
   try dsimp only at h ⊢
   unfold taskmilllaw_OrderTasks_j1 at h
   refine cond_sx h (by kernel_rfl) (fun g3132 h => ?_) (fun g3132 h => ?_)
   ·refine seq_np ?_
    refine reg_f ?_
    refine rs 1 [] [] (by kernel_rfl) allP_nil ?_
    refine rf [(4, bS true)] [] 0 (by kernel_rfl) ?_
    refine wk_id ?_
    obtain rfl := Option.some.inj h
    refine ret_at (bS true) (by kernel_rfl) ?_
    exact ret_e [] [] (by simp only [push_cast, leL_flD, renL_flD, leL_flP, renL_flP, leC_famP, leC_famP0, flP_0, ren_famP, noN_eq, lenP_same, lenP_one, lenP_app, lenP_set, lenP_famP, Nat.le_refl, List.length_set, leC_mpP, leC_mpP1, mapLe_eq, mapLe1_eq, ren_mpP, ren_mpP1, seval]) (by simp only [push_cast, leL_flD, renL_flD, leL_flP, renL_flP, leC_famP, leC_famP0, flP_0, ren_famP, noN_eq, lenP_same, lenP_one, lenP_app, lenP_set, lenP_famP, Nat.le_refl, List.length_set, leC_mpP, leC_mpP1, mapLe_eq, mapLe1_eq, ren_mpP, ren_mpP1, seval]) rfl rfl rfl
   ·refine wk_id ?_
    refine seq_np ?_
    refine seq_np ?_
    refine reg_f ?_
    refine rs 1 [] [] (by kernel_rfl) allP_nil ?_
    refine rf [(0, .sl t.length (fl t)), (1, .sl pipes.length (fl pipes)), (5, iS 0)] [] 0 (by kernel_rfl) ?_
    refine wk_id ?_
    refine block_np ?_
    refine loop_sx (S := Int) (fun a => ([(0, .sl t.length (fl t)), (1, .sl pipes.length (fl pipes)), (5, iS a)], [], 0)) h (leSt_m [] [] (by simp only [push_cast, leL_flD, renL_flD, leL_flP, renL_flP, leC_famP, leC_famP0, flP_0, ren_famP, noN_eq, lenP_same, lenP_one, lenP_app, lenP_set, lenP_famP, Nat.le_refl, List.length_set, leC_mpP, leC_mpP1, mapLe_eq, mapLe1_eq, ren_mpP, ren_mpP1, seval]) (by simp only [push_cast, leL_flD, renL_flD, leL_flP, renL_flP, leC_famP, leC_famP0, flP_0, ren_famP, noN_eq, lenP_same, lenP_one, lenP_app, lenP_set, lenP_famP, Nat.le_refl, List.length_set, leC_mpP, leC_mpP1, mapLe_eq, mapLe1_eq, ren_mpP, ren_mpP1, seval]) rfl rfl rfl) ?_
    rintro i7 o3 R3 h hr3 hn3 hx3 ht3
    try dsimp only at h hn3 ⊢
    unfold taskmilllaw_OrderTasks_l2 at h
    try dsimp only at h
    refine seq_np ?_
    refine seq_np ?_
    refine reg_f ?_
    refine rs 4 [] [] (by kernel_rfl) allP_nil ?_
    refine rf [(0, .sl t.length (fl t)), (1, .sl pipes.length (fl pipes)), (5, iS i7), (30, bS (decide (i7 < ((t.length : Nat) : Int))))] [] 0 (by kernel_rfl) ?_
    refine wk_id ?_
    refine cond_sx h (by kernel_rfl) (fun g3131 h => ?_) (fun g3131 h => ?_)
    ·refine wk_id ?_
     refine seq_np ?_
     refine block_np ?_
     refine seq_np ?_
     refine reg_f ?_
     refine rs 3 [] [] (by kernel_rfl) allP_nil ?_
     refine rf [(0, .sl t.length (fl t)), (1, .sl pipes.length (fl pipes)), (5, iS i7), (6, iS (IntKind.i64.wrap (i7 + 1)))] [] 0 (by kernel_rfl) ?_
     refine wk_id ?_
     refine block_np ?_
     refine loop_sx (S := Int) (fun a => ([(0, .sl t.length (fl t)), (1, .sl pipes.length (fl pipes)), (5, iS i7), (6, iS a)], [], 0)) h (leSt_m [] [] (by simp only [push_cast, leL_flD, renL_flD, leL_flP, renL_flP, leC_famP, leC_famP0, flP_0, ren_famP, noN_eq, lenP_same, lenP_one, lenP_app, lenP_set, lenP_famP, Nat.le_refl, List.length_set, leC_mpP, leC_mpP1, mapLe_eq, mapLe1_eq, ren_mpP, ren_mpP1, seval]) (by simp only [push_cast, leL_flD, renL_flD, leL_flP, renL_flP, leC_famP, leC_famP0, flP_0, ren_famP, noN_eq, lenP_same, lenP_one, lenP_app, lenP_set, lenP_famP, Nat.le_refl, List.length_set, leC_mpP, leC_mpP1, mapLe_eq, mapLe1_eq, ren_mpP, ren_mpP1, seval]) rfl rfl rfl) ?_
     rintro k29 o4 R4 h hr4 hn4 hx4 ht4
     try dsimp only at h hn4 ⊢
     unfold taskmilllaw_OrderTasks_l1 at h
     try dsimp only at h
     refine seq_np ?_
     refine seq_np ?_
     refine reg_f ?_
     refine rs 4 [] [] (by kernel_rfl) allP_nil ?_
     refine rf [(0, .sl t.length (fl t)), (1, .sl pipes.length (fl pipes)), (5, iS i7), (6, iS k29), (38, bS (decide (k29 < ((t.length : Nat) : Int))))] [] 0 (by kernel_rfl) ?_
     refine wk_id ?_
     refine cond_sx h (by kernel_rfl) (fun g3130 h => ?_) (fun g3130 h => ?_)
     ·refine wk_id ?_
      refine seq_np ?_
      refine block_np ?_
      refine seq_np ?_
      refine reg_f ?_
      refine rs 4 [] [] (by kernel_rfl) allP_nil ?_
      obtain ⟨r3098, hr3098, h⟩ := bind_sx h
      refine run_call 12 [.sl t.length (fl t), .sl pipes.length (fl pipes), iS i7, iS k29] (some 46) (by kernel_rfl) ?_
      refine call_0 (order_Before_spec t pipes i7 k29 r3098 hr3098) (by simp only [push_cast, leL_flD, renL_flD, leL_flP, renL_flP, leC_famP, leC_famP0, flP_0, ren_famP, noN_eq, lenP_same, lenP_one, lenP_app, lenP_set, lenP_famP, Nat.le_refl, List.length_set, leC_mpP, leC_mpP1, mapLe_eq, mapLe1_eq, ren_mpP, ren_mpP1, seval]) (by simp only [push_cast, leL_flD, renL_flD, leL_flP, renL_flP, leC_famP, leC_famP0, flP_0, ren_famP, noN_eq, lenP_same, lenP_one, lenP_app, lenP_set, lenP_famP, Nat.le_refl, List.length_set, leC_mpP, leC_mpP1, mapLe_eq, mapLe1_eq, ren_mpP, ren_mpP1, seval]) ?_
      refine back_f ?_
      refine rs 6 [] [] (by kernel_rfl) allP_nil ?_
      refine rf [(0, .sl t.length (fl t)), (1, .sl pipes.length (fl pipes)), (5, iS i7), (6, iS k29), (7, bS r3098.1), (8, .ptr 0 0)] [(0, .row 26 (Enc.cells r3098.2))] 1 (by kernel_rfl) ?_
      refine wk_id ?_
      refine seq_np ?_
      refine seq_np ?_
      refine reg_f ?_
      refine rs 3 [] [] (by kernel_rfl) allP_nil ?_
      refine rf [(0, .sl t.length (fl t)), (1, .sl pipes.length (fl pipes)), (5, iS i7), (6, iS k29), (7, bS r3098.1), (51, bS (r3098.2.Code != 0))] [(0, .row 26 (Enc.cells r3098.2))] 1 (by kernel_rfl) ?_
      refine wk_id ?_
      refine cond_sx h (by kernel_rfl) (fun g3129 h => ?_) (fun g3129 h => ?_)
      ·refine seq_np ?_
       refine reg_f ?_
       refine rs 1 [] [] (by kernel_rfl) allP_nil ?_
       refine rf [(4, bS false)] [(0, .row 26 (Enc.cells r3098.2))] 1 (by kernel_rfl) ?_
       refine wk_id ?_
       refine rt_cast ht4 ?_
       obtain ⟨r0, h, e0⟩ := map_sx h
       have e1 := hr4 r0 e0.symm
       subst r0
       refine rt_cast ht3 ?_
       obtain ⟨r0, h, e0⟩ := map_sx h
       have e1 := hr3 r0 e0.symm
       subst r0
       obtain rfl := Option.some.inj h
       refine ret_at (bS false) (by kernel_rfl) ?_
       exact ret_e [] [] (by simp only [push_cast, leL_flD, renL_flD, leL_flP, renL_flP, leC_famP, leC_famP0, flP_0, ren_famP, noN_eq, lenP_same, lenP_one, lenP_app, lenP_set, lenP_famP, Nat.le_refl, List.length_set, leC_mpP, leC_mpP1, mapLe_eq, mapLe1_eq, ren_mpP, ren_mpP1, seval]) (by simp only [push_cast, leL_flD, renL_flD, leL_flP, renL_flP, leC_famP, leC_famP0, flP_0, ren_famP, noN_eq, lenP_same, lenP_one, lenP_app, lenP_set, lenP_famP, Nat.le_refl, List.length_set, leC_mpP, leC_mpP1, mapLe_eq, mapLe1_eq, ren_mpP, ren_mpP1, seval]) rfl rfl rfl
      ·refine wk_id ?_
       refine chk_sx h (fun g3114 h => ?_)
       refine chk_sx h (fun g3116 h => ?_)
       refine chk_sx h (fun g3119 h => ?_)
       refine chk_sx h (fun g3122 h => ?_)
       refine chk_sx h (fun g3124 h => ?_)
       refine seq_cut (A := Unit) (fun _ => ([(0, .sl t.length (fl t)), (1, .sl pipes.length (fl pipes)), (5, iS i7), (6, iS k29), (7, bS r3098.1), (9, bS (((ix t i7).Task == (ix t k29).Task) || (((ix t i7).Op == 11) && ((ix t i7).Value == (ix t k29).Task))))], [(0, .row 26 (Enc.cells r3098.2))], 34)) (fun _ => True) (fun K3112 hK3112 => ?_) (fun _ _ => ?_)
       ·refine reg_t ?_
        have k3113 : 0 ≤ i7 ∧ i7 < ((t.length : Nat) : Int) := by first | simpa only [Bool.and_eq_true, decide_eq_true_eq, bne_iff_ne, ne_eq] using g3114 | (simp at g3114 ⊢; omega)
        have k3115 : 0 ≤ k29 ∧ k29 < ((t.length : Nat) : Int) := by first | simpa only [Bool.and_eq_true, decide_eq_true_eq, bne_iff_ne, ne_eq] using g3116 | (simp at g3116 ⊢; omega)
        refine rs 12 [none, none, some ⟨.iptr (fl t) ((i7).toNat * 4), [], 3, []⟩, none, some ⟨iS (ix t i7).Task, [], 5, []⟩, none, none, some ⟨.iptr (fl t) ((k29).toNat * 4), [], 8, []⟩, none, some ⟨iS (ix t k29).Task, [], 10, []⟩] _ (by kernel_rfl) (allP_cons (ob_ld t k29 4 0 (((k29).toNat * 4) + 0) k3115 rfl (by decide) (by first | rfl | omega) (dflS Try.prog 3) (iS (ix t k29).Task) rfl 10 []) (allP_cons (ob_ix_l t 4 8 k29 k3115) (allP_cons (ob_ld t i7 4 0 (((i7).toNat * 4) + 0) k3113 rfl (by decide) (by first | rfl | omega) (dflS Try.prog 3) (iS (ix t i7).Task) rfl 5 []) (allP_cons (ob_ix_l t 4 3 i7 k3113) allP_nil)))) ?_
        refine run_split 63 ((ix t i7).Task == (ix t k29).Task) (.inl (by kernel_rfl)) (fun g3117 => ?_) (fun g3117 => ?_)
        ·refine rs 21 [] [] (by kernel_rfl) allP_nil ?_
         refine rt [(0, .sl t.length (fl t)), (1, .sl pipes.length (fl pipes)), (5, iS i7), (6, iS k29), (7, bS r3098.1), (9, bS true)] [(0, .row 26 (Enc.cells r3098.2))] 34 follows (by kernel_rfl) ?_
         exact hK3112 () _ _ _ trivial (leSt_m [(0, 0)] [] (by (try simp only [g3117]) <;> simp only [push_cast, leL_flD, renL_flD, leL_flP, renL_flP, leC_famP, leC_famP0, flP_0, ren_famP, noN_eq, lenP_same, lenP_one, lenP_app, lenP_set, lenP_famP, Nat.le_refl, List.length_set, leC_mpP, leC_mpP1, mapLe_eq, mapLe1_eq, ren_mpP, ren_mpP1, seval]) (by (try simp only [g3117]) <;> simp only [push_cast, leL_flD, renL_flD, leL_flP, renL_flP, leC_famP, leC_famP0, flP_0, ren_famP, noN_eq, lenP_same, lenP_one, lenP_app, lenP_set, lenP_famP, Nat.le_refl, List.length_set, leC_mpP, leC_mpP1, mapLe_eq, mapLe1_eq, ren_mpP, ren_mpP1, seval]) rfl rfl rfl)
        ·have k3118 : 0 ≤ i7 ∧ i7 < ((t.length : Nat) : Int) := by have e := or_use g3119 (by first | ((try simp only [g3117]) <;> rfl) | ((try simp only [g3117]); rfl) | (exfalso; clear h; simp_all; done)); first | simpa only [Bool.and_eq_true, decide_eq_true_eq, bne_iff_ne, ne_eq] using e | (simp at e ⊢; omega)
         refine rs 7 [none, none, some ⟨.iptr (fl t) ((i7).toNat * 4), [], 15, []⟩, none, some ⟨iS (ix t i7).Op, [], 17, []⟩] _ (by kernel_rfl) (allP_cons (ob_ld t i7 4 1 (((i7).toNat * 4) + 1) k3118 rfl (by decide) (by first | rfl | omega) (dflS Try.prog 3) (iS (ix t i7).Op) rfl 17 []) (allP_cons (ob_ix_l t 4 15 i7 k3118) allP_nil)) ?_
         refine run_split 70 ((ix t i7).Op == 11) (.inr (by kernel_rfl)) (fun g3120 => ?_) (fun g3120 => ?_)
         ·have k3121 : 0 ≤ i7 ∧ i7 < ((t.length : Nat) : Int) := by have e := or_use g3122 (by first | ((try simp only [g3117, g3120]) <;> rfl) | ((try simp only [g3117]); (try simp only [g3120]); rfl) | (exfalso; clear h; simp_all; done)); first | simpa only [Bool.and_eq_true, decide_eq_true_eq, bne_iff_ne, ne_eq] using e | (simp at e ⊢; omega)
          have k3123 : 0 ≤ k29 ∧ k29 < ((t.length : Nat) : Int) := by have e := or_use g3124 (by first | ((try simp only [g3117, g3120]) <;> rfl) | ((try simp only [g3117]); (try simp only [g3120]); rfl) | (exfalso; clear h; simp_all; done)); first | simpa only [Bool.and_eq_true, decide_eq_true_eq, bne_iff_ne, ne_eq] using e | (simp at e ⊢; omega)
          refine rs 14 [none, none, some ⟨.iptr (fl t) ((i7).toNat * 4), [], 22, []⟩, none, some ⟨iS (ix t i7).Value, [], 24, []⟩, none, none, some ⟨.iptr (fl t) ((k29).toNat * 4), [], 27, []⟩, none, some ⟨iS (ix t k29).Task, [], 29, []⟩] _ (by kernel_rfl) (allP_cons (ob_ld t k29 4 0 (((k29).toNat * 4) + 0) k3123 rfl (by decide) (by first | rfl | omega) (dflS Try.prog 3) (iS (ix t k29).Task) rfl 29 []) (allP_cons (ob_ix_l t 4 27 k29 k3123) (allP_cons (ob_ld t i7 4 3 (((i7).toNat * 4) + 3) k3121 rfl (by decide) (by first | rfl | omega) (dflS Try.prog 3) (iS (ix t i7).Value) rfl 24 []) (allP_cons (ob_ix_l t 4 22 i7 k3121) allP_nil)))) ?_
          refine rt [(0, .sl t.length (fl t)), (1, .sl pipes.length (fl pipes)), (5, iS i7), (6, iS k29), (7, bS r3098.1), (9, bS ((ix t i7).Value == (ix t k29).Task))] [(0, .row 26 (Enc.cells r3098.2))] 34 follows (by kernel_rfl) ?_
          exact hK3112 () _ _ _ trivial (leSt_m [(0, 0)] [] (by first | ((try simp only [g3117, g3120]) <;> simp only [push_cast, leL_flD, renL_flD, leL_flP, renL_flP, leC_famP, leC_famP0, flP_0, ren_famP, noN_eq, lenP_same, lenP_one, lenP_app, lenP_set, lenP_famP, Nat.le_refl, List.length_set, leC_mpP, leC_mpP1, mapLe_eq, mapLe1_eq, ren_mpP, ren_mpP1, seval]; done) | ((try simp only [g3117]); (try simp only [g3120]); simp only [push_cast, leL_flD, renL_flD, leL_flP, renL_flP, leC_famP, leC_famP0, flP_0, ren_famP, noN_eq, lenP_same, lenP_one, lenP_app, lenP_set, lenP_famP, Nat.le_refl, List.length_set, leC_mpP, leC_mpP1, mapLe_eq, mapLe1_eq, ren_mpP, ren_mpP1, seval]; done) | (exfalso; clear h; simp_all; done)) (by first | ((try simp only [g3117, g3120]) <;> simp only [push_cast, leL_flD, renL_flD, leL_flP, renL_flP, leC_famP, leC_famP0, flP_0, ren_famP, noN_eq, lenP_same, lenP_one, lenP_app, lenP_set, lenP_famP, Nat.le_refl, List.length_set, leC_mpP, leC_mpP1, mapLe_eq, mapLe1_eq, ren_mpP, ren_mpP1, seval]; done) | ((try simp only [g3117]); (try simp only [g3120]); simp only [push_cast, leL_flD, renL_flD, leL_flP, renL_flP, leC_famP, leC_famP0, flP_0, ren_famP, noN_eq, lenP_same, lenP_one, lenP_app, lenP_set, lenP_famP, Nat.le_refl, List.length_set, leC_mpP, leC_mpP1, mapLe_eq, mapLe1_eq, ren_mpP, ren_mpP1, seval]; done) | (exfalso; clear h; simp_all; done)) rfl rfl rfl)
         ·refine rs 14 [] [] (by kernel_rfl) allP_nil ?_
          refine rt [(0, .sl t.length (fl t)), (1, .sl pipes.length (fl pipes)), (5, iS i7), (6, iS k29), (7, bS r3098.1), (9, bS false)] [(0, .row 26 (Enc.cells r3098.2))] 34 follows (by kernel_rfl) ?_
          exact hK3112 () _ _ _ trivial (leSt_m [(0, 0)] [] (by first | ((try simp only [g3117, g3120]) <;> simp only [push_cast, leL_flD, renL_flD, leL_flP, renL_flP, leC_famP, leC_famP0, flP_0, ren_famP, noN_eq, lenP_same, lenP_one, lenP_app, lenP_set, lenP_famP, Nat.le_refl, List.length_set, leC_mpP, leC_mpP1, mapLe_eq, mapLe1_eq, ren_mpP, ren_mpP1, seval]; done) | ((try simp only [g3117]); (try simp only [g3120]); simp only [push_cast, leL_flD, renL_flD, leL_flP, renL_flP, leC_famP, leC_famP0, flP_0, ren_famP, noN_eq, lenP_same, lenP_one, lenP_app, lenP_set, lenP_famP, Nat.le_refl, List.length_set, leC_mpP, leC_mpP1, mapLe_eq, mapLe1_eq, ren_mpP, ren_mpP1, seval]; done) | (exfalso; clear h; simp_all; done)) (by first | ((try simp only [g3117, g3120]) <;> simp only [push_cast, leL_flD, renL_flD, leL_flP, renL_flP, leC_famP, leC_famP0, flP_0, ren_famP, noN_eq, lenP_same, lenP_one, lenP_app, lenP_set, lenP_famP, Nat.le_refl, List.length_set, leC_mpP, leC_mpP1, mapLe_eq, mapLe1_eq, ren_mpP, ren_mpP1, seval]; done) | ((try simp only [g3117]); (try simp only [g3120]); simp only [push_cast, leL_flD, renL_flD, leL_flP, renL_flP, leC_famP, leC_famP0, flP_0, ren_famP, noN_eq, lenP_same, lenP_one, lenP_app, lenP_set, lenP_famP, Nat.le_refl, List.length_set, leC_mpP, leC_mpP1, mapLe_eq, mapLe1_eq, ren_mpP, ren_mpP1, seval]; done) | (exfalso; clear h; simp_all; done)) rfl rfl rfl)
       ·dsimp only
        refine seq_cut (A := Unit) (fun _ => ([(0, .sl t.length (fl t)), (1, .sl pipes.length (fl pipes)), (5, iS i7), (6, iS k29), (88, bS ((((ix t i7).Task == (ix t k29).Task) || (((ix t i7).Op == 11) && ((ix t i7).Value == (ix t k29).Task))) && (!r3098.1)))], [(0, .row 26 (Enc.cells r3098.2))], 34)) (fun _ => True) (fun K3126 hK3126 => ?_) (fun _ _ => ?_)
        ·refine reg_f ?_
         refine rs 2 [] [] (by kernel_rfl) allP_nil ?_
         refine run_split 85 (((ix t i7).Task == (ix t k29).Task) || (((ix t i7).Op == 11) && ((ix t i7).Value == (ix t k29).Task))) (.inl (by kernel_rfl)) (fun g3127 => ?_) (fun g3127 => ?_)
         ·refine rs 3 [] [] (by kernel_rfl) allP_nil ?_
          refine rf [(0, .sl t.length (fl t)), (1, .sl pipes.length (fl pipes)), (5, iS i7), (6, iS k29), (88, bS (!r3098.1))] [(0, .row 26 (Enc.cells r3098.2))] 34 (by kernel_rfl) ?_
          exact hK3126 () _ _ _ trivial (leSt_m [(0, 0)] [] (by (try simp only [g3127]) <;> simp only [push_cast, leL_flD, renL_flD, leL_flP, renL_flP, leC_famP, leC_famP0, flP_0, ren_famP, noN_eq, lenP_same, lenP_one, lenP_app, lenP_set, lenP_famP, Nat.le_refl, List.length_set, leC_mpP, leC_mpP1, mapLe_eq, mapLe1_eq, ren_mpP, ren_mpP1, seval]) (by (try simp only [g3127]) <;> simp only [push_cast, leL_flD, renL_flD, leL_flP, renL_flP, leC_famP, leC_famP0, flP_0, ren_famP, noN_eq, lenP_same, lenP_one, lenP_app, lenP_set, lenP_famP, Nat.le_refl, List.length_set, leC_mpP, leC_mpP1, mapLe_eq, mapLe1_eq, ren_mpP, ren_mpP1, seval]) rfl rfl rfl)
         ·refine rs 3 [] [] (by kernel_rfl) allP_nil ?_
          refine rf [(0, .sl t.length (fl t)), (1, .sl pipes.length (fl pipes)), (5, iS i7), (6, iS k29), (88, bS false)] [(0, .row 26 (Enc.cells r3098.2))] 34 (by kernel_rfl) ?_
          exact hK3126 () _ _ _ trivial (leSt_m [(0, 0)] [] (by (try simp only [g3127]) <;> simp only [push_cast, leL_flD, renL_flD, leL_flP, renL_flP, leC_famP, leC_famP0, flP_0, ren_famP, noN_eq, lenP_same, lenP_one, lenP_app, lenP_set, lenP_famP, Nat.le_refl, List.length_set, leC_mpP, leC_mpP1, mapLe_eq, mapLe1_eq, ren_mpP, ren_mpP1, seval]) (by (try simp only [g3127]) <;> simp only [push_cast, leL_flD, renL_flD, leL_flP, renL_flP, leC_famP, leC_famP0, flP_0, ren_famP, noN_eq, lenP_same, lenP_one, lenP_app, lenP_set, lenP_famP, Nat.le_refl, List.length_set, leC_mpP, leC_mpP1, mapLe_eq, mapLe1_eq, ren_mpP, ren_mpP1, seval]) rfl rfl rfl)
        ·dsimp only
         refine cond_sx h (by kernel_rfl) (fun g3128 h => ?_) (fun g3128 h => ?_)
         ·refine seq_np ?_
          refine reg_f ?_
          refine rs 1 [] [] (by kernel_rfl) allP_nil ?_
          refine rf [(4, bS false)] [(0, .row 26 (Enc.cells r3098.2))] 34 (by kernel_rfl) ?_
          refine wk_id ?_
          refine rt_cast ht4 ?_
          obtain ⟨r0, h, e0⟩ := map_sx h
          have e1 := hr4 r0 e0.symm
          subst r0
          refine rt_cast ht3 ?_
          obtain ⟨r0, h, e0⟩ := map_sx h
          have e1 := hr3 r0 e0.symm
          subst r0
          obtain rfl := Option.some.inj h
          refine ret_at (bS false) (by kernel_rfl) ?_
          exact ret_e [] [] (by simp only [push_cast, leL_flD, renL_flD, leL_flP, renL_flP, leC_famP, leC_famP0, flP_0, ren_famP, noN_eq, lenP_same, lenP_one, lenP_app, lenP_set, lenP_famP, Nat.le_refl, List.length_set, leC_mpP, leC_mpP1, mapLe_eq, mapLe1_eq, ren_mpP, ren_mpP1, seval]) (by simp only [push_cast, leL_flD, renL_flD, leL_flP, renL_flP, leC_famP, leC_famP0, flP_0, ren_famP, noN_eq, lenP_same, lenP_one, lenP_app, lenP_set, lenP_famP, Nat.le_refl, List.length_set, leC_mpP, leC_mpP1, mapLe_eq, mapLe1_eq, ren_mpP, ren_mpP1, seval]) rfl rfl rfl
         ·refine wk_id ?_
          refine wk_id ?_
          refine reg_f ?_
          refine rs 3 [] [] (by kernel_rfl) allP_nil ?_
          refine rf [(0, .sl t.length (fl t)), (1, .sl pipes.length (fl pipes)), (5, iS i7), (6, iS (IntKind.i64.wrap (k29 + 1)))] [(0, .row 26 (Enc.cells r3098.2))] 34 (by kernel_rfl) ?_
          exact hn4 ((IntKind.i64.wrap (k29 + 1))) _ _ _ (Option.some.inj h).symm (leSt_m [] [] (by simp only [push_cast, leL_flD, renL_flD, leL_flP, renL_flP, leC_famP, leC_famP0, flP_0, ren_famP, noN_eq, lenP_same, lenP_one, lenP_app, lenP_set, lenP_famP, Nat.le_refl, List.length_set, leC_mpP, leC_mpP1, mapLe_eq, mapLe1_eq, ren_mpP, ren_mpP1, seval]) (by simp only [push_cast, leL_flD, renL_flD, leL_flP, renL_flP, leC_famP, leC_famP0, flP_0, ren_famP, noN_eq, lenP_same, lenP_one, lenP_app, lenP_set, lenP_famP, Nat.le_refl, List.length_set, leC_mpP, leC_mpP1, mapLe_eq, mapLe1_eq, ren_mpP, ren_mpP1, seval]) rfl rfl rfl)
     ·change R4 (.exit 2) _ _ _
      refine ex_cast hx4 (id := 2) ?_
      obtain ⟨r0, h, e0⟩ := map_sx h
      have e1 := hr4 r0 e0.symm
      subst r0
      refine wk_id ?_
      refine wk_id ?_
      refine wk_id ?_
      refine reg_f ?_
      refine rs 3 [] [] (by kernel_rfl) allP_nil ?_
      refine rf [(0, .sl t.length (fl t)), (1, .sl pipes.length (fl pipes)), (5, iS (IntKind.i64.wrap (i7 + 1)))] [] 0 (by kernel_rfl) ?_
      exact hn3 ((IntKind.i64.wrap (i7 + 1))) _ _ _ (Option.some.inj h).symm (leSt_m [] [] (by simp only [push_cast, leL_flD, renL_flD, leL_flP, renL_flP, leC_famP, leC_famP0, flP_0, ren_famP, noN_eq, lenP_same, lenP_one, lenP_app, lenP_set, lenP_famP, Nat.le_refl, List.length_set, leC_mpP, leC_mpP1, mapLe_eq, mapLe1_eq, ren_mpP, ren_mpP1, seval]) (by simp only [push_cast, leL_flD, renL_flD, leL_flP, renL_flP, leC_famP, leC_famP0, flP_0, ren_famP, noN_eq, lenP_same, lenP_one, lenP_app, lenP_set, lenP_famP, Nat.le_refl, List.length_set, leC_mpP, leC_mpP1, mapLe_eq, mapLe1_eq, ren_mpP, ren_mpP1, seval]) rfl rfl rfl)
    ·change R3 (.exit 0) _ _ _
     refine ex_cast hx3 (id := 0) ?_
     obtain ⟨r0, h, e0⟩ := map_sx h
     have e1 := hr3 r0 e0.symm
     subst r0
     refine wk_id ?_
     refine wk_id ?_
     refine seq_np ?_
     refine reg_f ?_
     refine rs 1 [] [] (by kernel_rfl) allP_nil ?_
     refine rf [(4, bS true)] [] 0 (by kernel_rfl) ?_
     refine wk_id ?_
     obtain rfl := Option.some.inj h
     refine ret_at (bS true) (by kernel_rfl) ?_
     exact ret_e [] [] (by simp only [push_cast, leL_flD, renL_flD, leL_flP, renL_flP, leC_famP, leC_famP0, flP_0, ren_famP, noN_eq, lenP_same, lenP_one, lenP_app, lenP_set, lenP_famP, Nat.le_refl, List.length_set, leC_mpP, leC_mpP1, mapLe_eq, mapLe1_eq, ren_mpP, ren_mpP1, seval]) (by simp only [push_cast, leL_flD, renL_flD, leL_flP, renL_flP, leC_famP, leC_famP0, flP_0, ren_famP, noN_eq, lenP_same, lenP_one, lenP_app, lenP_set, lenP_famP, Nat.le_refl, List.length_set, leC_mpP, leC_mpP1, mapLe_eq, mapLe1_eq, ren_mpP, ren_mpP1, seval]) rfl rfl rfl

end Go.Proofs.Ytelegonboeacaaa
