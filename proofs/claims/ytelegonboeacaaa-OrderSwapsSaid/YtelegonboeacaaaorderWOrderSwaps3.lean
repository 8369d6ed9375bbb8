/-
 What laws of the chapter order compute, and lemmas on it.
 No conditions.
-/
import Derived.Test.YtelegonboeacaaaorderWOrderSwaps2
set_option linter.unusedSimpArgs false
set_option linter.unusedVariables false
namespace Go.Proofs.Ytelegonboeacaaa
open Go Go.Sx
attribute [local irreducible] Wk RunAt
set_option maxRecDepth 100000 in
set_option maxHeartbeats 200000000 in
theorem order_Stamps_spec (trace : (List GEvent)) (pipes : (List Int)) (r : (List (VArr 65))) (h : order_Stamps trace pipes = some r) : SpecW Try.prog 33 [.sl trace.length (fl trace), .sl pipes.length (fl pipes)] [] 0 (fun x h n => x = .own 0 0 r.length ∧ h = [(0, .row 62 (fl r))] ∧ n = 1) := by
 unfold order_Stamps at h
 refine spec_of (draw_ok _) Try.func33 rfl (by decide) rfl (by kernel_rfl) ?_
 refine seq_np ?_
 refine reg_f ?_
 refine rs 1 [] [] (by kernel_rfl) allP_nil ?_
 refine rf [(0, .sl trace.length (fl trace)), (1, .sl pipes.length (fl pipes))] [] 0 (by kernel_rfl) ?_
 refine wk_id ?_
 refine chk_sx h (fun g2012 h => ?_)
 refine seq_np ?_
 refine reg_f ?_
 refine run_opG (some 9) _ ⟨.mp 0, [(0, .map [])], 1, []⟩ [(.s 1 0, .fam (famP 83 ([] : List (VArr 65)))), (.t 0, .map (mpP 1 ([] : List Int)))] 1 [0] [] (by kernel_rfl) (ob_ok trivial rfl rfl) (ghost_M0 83 (VArr 65) (by kernel_rfl) (by kernel_rfl)) (by kernel_rfl) ?_
 have k2011 : 0 ≤ ((pipes.length : Nat) : Int) ∧ ((pipes.length : Nat) : Int) ≤ 4611686018427387904 ∧ (600 : Int) * ((pipes.length : Nat) : Int) ≤ 140737488355328 := by first | simpa only [Bool.and_eq_true, decide_eq_true_eq, bne_iff_ne, ne_eq] using g2012 | (simp at g2012 ⊢; omega)
 refine rs 2 [] [] (by kernel_rfl) allP_nil ?_
 refine run_opG (some 12) _ ⟨.own 2 0 (List.replicate (((pipes.length : Nat) : Int)).toNat (default : pipe)).length, [(2, .row 93 (flN dpipe (nA (List.replicate 3 none) (List.replicate 3 none) (-1)) 0 (List.replicate (((pipes.length : Nat) : Int)).toNat (default : pipe))))], 3, []⟩ [((.s 5 0), .fam (famD dpipe 2 (List.replicate (((pipes.length : Nat) : Int)).toNat (default : pipe)))), (2, .row 93 (flD dpipe [3, 4, 5] (List.replicate (((pipes.length : Nat) : Int)).toNat (default : pipe)))), ((.s 4 0), .fam (famD dpipe 1 (List.replicate (((pipes.length : Nat) : Int)).toNat (default : pipe)))), (2, .row 93 (flN dpipe (nA [(some 3), (some 4), none] [(some (.s 3 (-1))), (some (.s 4 (-1))), none] (-1)) 0 (List.replicate (((pipes.length : Nat) : Int)).toNat (default : pipe)))), ((.s 3 0), .fam (famD dpipe 0 (List.replicate (((pipes.length : Nat) : Int)).toNat (default : pipe)))), (2, .row 93 (flN dpipe (nA [(some 3), none, none] [(some (.s 3 (-1))), none, none] (-1)) 0 (List.replicate (((pipes.length : Nat) : Int)).toNat (default : pipe))))] 3 [2, 2, 2] [] (by kernel_rfl) (ob_mkN (P := Try.prog) dpipe ((pipes.length : Nat) : Int) 93 600 (by kernel_rfl) [.v (.slice none 0 0), .v (.slice none 0 0), .v (.slice none 0 0), iS (default : (VArr 65)).c0, iS (default : (VArr 65)).c1, iS (default : (VArr 65)).c2, iS (default : (VArr 65)).c3, iS (default : (VArr 65)).c4, iS (default : (VArr 65)).c5, iS (default : (VArr 65)).c6, iS (default : (VArr 65)).c7, iS (default : (VArr 65)).c8, iS (default : (VArr 65)).c9, iS (default : (VArr 65)).c10, iS (default : (VArr 65)).c11, iS (default : (VArr 65)).c12, iS (default : (VArr 65)).c13, iS (default : (VArr 65)).c14, iS (default : (VArr 65)).c15, iS (default : (VArr 65)).c16, iS (default : (VArr 65)).c17, iS (default : (VArr 65)).c18, iS (default : (VArr 65)).c19, iS (default : (VArr 65)).c20, iS (default : (VArr 65)).c21, iS (default : (VArr 65)).c22, iS (default : (VArr 65)).c23, iS (default : (VArr 65)).c24, iS (default : (VArr 65)).c25, iS (default : (VArr 65)).c26, iS (default : (VArr 65)).c27, iS (default : (VArr 65)).c28, iS (default : (VArr 65)).c29, iS (default : (VArr 65)).c30, iS (default : (VArr 65)).c31, iS (default : (VArr 65)).c32, iS (default : (VArr 65)).c33, iS (default : (VArr 65)).c34, iS (default : (VArr 65)).c35, iS (default : (VArr 65)).c36, iS (default : (VArr 65)).c37, iS (default : (VArr 65)).c38, iS (default : (VArr 65)).c39, iS (default : (VArr 65)).c40, iS (default : (VArr 65)).c41, iS (default : (VArr 65)).c42, iS (default : (VArr 65)).c43, iS (default : (VArr 65)).c44, iS (default : (VArr 65)).c45, iS (default : (VArr 65)).c46, iS (default : (VArr 65)).c47, iS (default : (VArr 65)).c48, iS (default : (VArr 65)).c49, iS (default : (VArr 65)).c50, iS (default : (VArr 65)).c51, iS (default : (VArr 65)).c52, iS (default : (VArr 65)).c53, iS (default : (VArr 65)).c54, iS (default : (VArr 65)).c55, iS (default : (VArr 65)).c56, iS (default : (VArr 65)).c57, iS (default : (VArr 65)).c58, iS (default : (VArr 65)).c59, iS (default : (VArr 65)).c60, iS (default : (VArr 65)).c61, iS (default : (VArr 65)).c62, iS (default : (VArr 65)).c63, iS (default : (VArr 65)).c64, bS false] rfl 69 rfl (by decide) k2011 3 2) (Ghost.cat (q1 := 2) (q2 := 1) (r1 := [2, 2]) (r2 := [2]) (u1 := [((.s 4 0), .fam (famD dpipe 1 (List.replicate (((pipes.length : Nat) : Int)).toNat (default : pipe)))), (2, .row 93 (flN dpipe (nA [(some 3), (some 4), none] [(some (.s 3 (-1))), (some (.s 4 (-1))), none] (-1)) 0 (List.replicate (((pipes.length : Nat) : Int)).toNat (default : pipe)))), ((.s 3 0), .fam (famD dpipe 0 (List.replicate (((pipes.length : Nat) : Int)).toNat (default : pipe)))), (2, .row 93 (flN dpipe (nA [(some 3), none, none] [(some (.s 3 (-1))), none, none] (-1)) 0 (List.replicate (((pipes.length : Nat) : Int)).toNat (default : pipe))))]) (u2 := [((.s 5 0), .fam (famD dpipe 2 (List.replicate (((pipes.length : Nat) : Int)).toNat (default : pipe)))), (2, .row 93 (flD dpipe [3, 4, 5] (List.replicate (((pipes.length : Nat) : Int)).toNat (default : pipe))))]) (Ghost.cat (q1 := 1) (q2 := 1) (r1 := [2]) (r2 := [2]) (u1 := [((.s 3 0), .fam (famD dpipe 0 (List.replicate (((pipes.length : Nat) : Int)).toNat (default : pipe)))), (2, .row 93 (flN dpipe (nA [(some 3), none, none] [(some (.s 3 (-1))), none, none] (-1)) 0 (List.replicate (((pipes.length : Nat) : Int)).toNat (default : pipe))))]) (u2 := [((.s 4 0), .fam (famD dpipe 1 (List.replicate (((pipes.length : Nat) : Int)).toNat (default : pipe)))), (2, .row 93 (flN dpipe (nA [(some 3), (some 4), none] [(some (.s 3 (-1))), (some (.s 4 (-1))), none] (-1)) 0 (List.replicate (((pipes.length : Nat) : Int)).toNat (default : pipe))))]) (ghost_A 3 dpipe (List.replicate (((pipes.length : Nat) : Int)).toNat (default : pipe)) 2 93 [none, none, none] [none, none, none] (-1) (flN dpipe (nA [(some 3), none, none] [(some (.s 3 (-1))), none, none] (-1)) 0 (List.replicate (((pipes.length : Nat) : Int)).toNat (default : pipe))) 0 none none (by kernel_rfl) rfl (by kernel_rfl) (offN_rep _ rfl _) (S_rep (fun a => nilLeaf dpipe 0 a) _)) (ghost_A 4 dpipe (List.replicate (((pipes.length : Nat) : Int)).toNat (default : pipe)) 2 93 [(some 3), none, none] [(some (.s 3 (-1))), none, none] (-1) (flN dpipe (nA [(some 3), (some 4), none] [(some (.s 3 (-1))), (some (.s 4 (-1))), none] (-1)) 0 (List.replicate (((pipes.length : Nat) : Int)).toNat (default : pipe))) 1 none none (by kernel_rfl) rfl (by kernel_rfl) (offN_rep _ rfl _) (S_rep (fun a => nilLeaf dpipe 1 a) _)) rfl rfl rfl rfl) (ghost_A 5 dpipe (List.replicate (((pipes.length : Nat) : Int)).toNat (default : pipe)) 2 93 [(some 3), (some 4), none] [(some (.s 3 (-1))), (some (.s 4 (-1))), none] (-1) (flD dpipe [3, 4, 5] (List.replicate (((pipes.length : Nat) : Int)).toNat (default : pipe))) 2 none none (by kernel_rfl) (flN_done dpipe [3, 4, 5] (-1) (List.replicate (((pipes.length : Nat) : Int)).toNat (default : pipe)) rfl) (by kernel_rfl) (offN_rep _ rfl _) (S_rep (fun a => nilLeaf dpipe 2 a) _)) rfl rfl rfl rfl) (by kernel_rfl) ?_
 refine rs 1 [] [] (by kernel_rfl) allP_nil ?_
 refine run_opG (some 14) _ ⟨.mp 6, [(6, .map [])], 7, []⟩ [(.s 7 0, .fam (famP 98 ([] : List guard))), (.t 6, .map (mpP 7 ([] : List Int)))] 1 [6] [] (by kernel_rfl) (ob_ok trivial rfl rfl) (ghost_M0 98 guard (by kernel_rfl) (by kernel_rfl)) (by kernel_rfl) ?_
 refine rn 6 [(0, .sl trace.length (fl trace)), (9, .mp 0), (12, .own 2 0 (List.replicate (((pipes.length : Nat) : Int)).toNat (default : pipe)).length), (13, .sl pipes.length (fl pipes)), (14, .mp 6)] [(0, .map (mpP 1 ([] : List Int))), ((.s 1 0), .fam (famP 83 ([] : List (VArr 65)))), (2, .row 93 (flD dpipe [3, 4, 5] (List.replicate (((pipes.length : Nat) : Int)).toNat (default : pipe)))), ((.s 3 0), .fam (famD dpipe 0 (List.replicate (((pipes.length : Nat) : Int)).toNat (default : pipe)))), ((.s 4 0), .fam (famD dpipe 1 (List.replicate (((pipes.length : Nat) : Int)).toNat (default : pipe)))), ((.s 5 0), .fam (famD dpipe 2 (List.replicate (((pipes.length : Nat) : Int)).toNat (default : pipe)))), (6, .map (mpP 7 ([] : List Int))), ((.s 7 0), .fam (famP 98 ([] : List guard)))] 8 (by kernel_rfl) ?_
 refine run_opG (some 15) _ ⟨.mp 8, [(8, .map [])], 9, []⟩ [(.s 9 0, .fam (famP 83 ([] : List (VArr 65)))), (.t 8, .map (mpP 9 ([] : List Int)))] 1 [8] [] (by kernel_rfl) (ob_ok trivial rfl rfl) (ghost_M0 83 (VArr 65) (by kernel_rfl) (by kernel_rfl)) (by kernel_rfl) ?_
 refine rs 3 [] [] (by kernel_rfl) allP_nil ?_
 refine rf [(0, .sl trace.length (fl trace)), (5, .ptr 10 0)] [(0, .map (mpP 1 ([] : List Int))), ((.s 1 0), .fam (famP 83 ([] : List (VArr 65)))), (2, .row 93 (flD dpipe [3, 4, 5] (List.replicate (((pipes.length : Nat) : Int)).toNat (default : pipe)))), ((.s 3 0), .fam (famD dpipe 0 (List.replicate (((pipes.length : Nat) : Int)).toNat (default : pipe)))), ((.s 4 0), .fam (famD dpipe 1 (List.replicate (((pipes.length : Nat) : Int)).toNat (default : pipe)))), ((.s 5 0), .fam (famD dpipe 2 (List.replicate (((pipes.length : Nat) : Int)).toNat (default : pipe)))), (6, .map (mpP 7 ([] : List Int))), ((.s 7 0), .fam (famP 98 ([] : List guard))), (8, .map (mpP 9 ([] : List Int))), ((.s 9 0), .fam (famP 83 ([] : List (VArr 65)))), (10, .row 82 [.mp 0, .own 2 0 (List.replicate (((pipes.length : Nat) : Int)).toNat (default : pipe)).length, .sl pipes.length (fl pipes), .mp 6, .mp 8])] 11 (by kernel_rfl) ?_
 refine wk_id ?_
 refine seq_np ?_
 refine reg_f ?_
 refine rs 1 [] [] (by kernel_rfl) allP_nil ?_
 refine rf [(0, .sl trace.length (fl trace)), (5, .ptr 10 0), (6, .v (.slice none 0 0))] [(0, .map (mpP 1 ([] : List Int))), ((.s 1 0), .fam (famP 83 ([] : List (VArr 65)))), (2, .row 93 (flD dpipe [3, 4, 5] (List.replicate (((pipes.length : Nat) : Int)).toNat (default : pipe)))), ((.s 3 0), .fam (famD dpipe 0 (List.replicate (((pipes.length : Nat) : Int)).toNat (default : pipe)))), ((.s 4 0), .fam (famD dpipe 1 (List.replicate (((pipes.length : Nat) : Int)).toNat (default : pipe)))), ((.s 5 0), .fam (famD dpipe 2 (List.replicate (((pipes.length : Nat) : Int)).toNat (default : pipe)))), (6, .map (mpP 7 ([] : List Int))), ((.s 7 0), .fam (famP 98 ([] : List guard))), (8, .map (mpP 9 ([] : List Int))), ((.s 9 0), .fam (famP 83 ([] : List (VArr 65)))), (10, .row 82 [.mp 0, .own 2 0 (List.replicate (((pipes.length : Nat) : Int)).toNat (default : pipe)).length, .sl pipes.length (fl pipes), .mp 6, .mp 8])] 11 (by kernel_rfl) ?_
 refine wk_id ?_
 refine seq_np ?_
 refine seq_np ?_
 refine reg_f ?_
 refine rs 3 [] [] (by kernel_rfl) allP_nil ?_
 refine rf [(5, .ptr 10 0), (6, .v (.slice none 0 0)), (18, .sl trace.length (fl trace)), (19, iS ((trace.length : Nat) : Int)), (20, iS 0)] [(0, .map (mpP 1 ([] : List Int))), ((.s 1 0), .fam (famP 83 ([] : List (VArr 65)))), (2, .row 93 (flD dpipe [3, 4, 5] (List.replicate (((pipes.length : Nat) : Int)).toNat (default : pipe)))), ((.s 3 0), .fam (famD dpipe 0 (List.replicate (((pipes.length : Nat) : Int)).toNat (default : pipe)))), ((.s 4 0), .fam (famD dpipe 1 (List.replicate (((pipes.length : Nat) : Int)).toNat (default : pipe)))), ((.s 5 0), .fam (famD dpipe 2 (List.replicate (((pipes.length : Nat) : Int)).toNat (default : pipe)))), (6, .map (mpP 7 ([] : List Int))), ((.s 7 0), .fam (famP 98 ([] : List guard))), (8, .map (mpP 9 ([] : List Int))), ((.s 9 0), .fam (famP 83 ([] : List (VArr 65)))), (10, .row 82 [.mp 0, .own 2 0 (List.replicate (((pipes.length : Nat) : Int)).toNat (default : pipe)).length, .sl pipes.length (fl pipes), .mp 6, .mp 8])] 11 (by kernel_rfl) ?_
 refine wk_id ?_
 refine block_np ?_
 refine loop_sx (S := Int × (List Int) × (List (VArr 65)) × (List Int) × (List pipe) × (List Int) × (List Int) × (List (VArr 65)) × (List guard) × (List (VArr 65))) (fun a => ([(5, .ptr 0 0), (6, .own 1 0 a.2.2.1.length), (18, .sl trace.length (fl trace)), (19, iS ((trace.length : Nat) : Int)), (20, iS a.1)], [(0, .row 82 [.mp 2, .own 3 0 a.2.2.2.2.1.length, .sl a.2.1.length (fl a.2.1), .mp 4, .mp 5]), (1, .row 62 (fl a.2.2.1)), (2, .map (mpP 6 a.2.2.2.1)), (3, .row 93 (flD dpipe [7, 8, 9] a.2.2.2.2.1)), (4, .map (mpP 10 a.2.2.2.2.2.1)), (5, .map (mpP 11 a.2.2.2.2.2.2.1)), ((.s 6 0), .fam (famP 83 a.2.2.2.2.2.2.2.1)), ((.s 7 0), .fam (famD dpipe 0 a.2.2.2.2.1)), ((.s 8 0), .fam (famD dpipe 1 a.2.2.2.2.1)), ((.s 9 0), .fam (famD dpipe 2 a.2.2.2.2.1)), ((.s 10 0), .fam (famP 98 a.2.2.2.2.2.2.2.2.1)), ((.s 11 0), .fam (famP 83 a.2.2.2.2.2.2.2.2.2))], 12)) h (leSt_m [(0, 10), (2, 0), (3, 2), (4, 6), (5, 8), ((.s 6 0), (.s 1 0)), ((.s 7 0), (.s 3 0)), ((.s 8 0), (.s 4 0)), ((.s 9 0), (.s 5 0)), ((.s 10 0), (.s 7 0)), ((.s 11 0), (.s 9 0))] [] (by simp only [push_cast, List.length_nil, lenP_famP, leL_flD, renL_flD, leL_flP, renL_flP, leC_famP, leC_famP0, flP_0, ren_famP, noN_eq, lenP_same, lenP_one, lenP_app, lenP_set, lenP_famP, Nat.le_refl, List.length_set, leC_mpP, leC_mpP1, mapLe_eq, mapLe1_eq, ren_mpP, ren_mpP1, seval]) (by simp only [push_cast, List.length_nil, lenP_famP, leL_flD, renL_flD, leL_flP, renL_flP, leC_famP, leC_famP0, flP_0, ren_famP, noN_eq, lenP_same, lenP_one, lenP_app, lenP_set, lenP_famP, Nat.le_refl, List.length_set, leC_mpP, leC_mpP1, mapLe_eq, mapLe1_eq, ren_mpP, ren_mpP1, seval]) rfl rfl rfl) ?_
 rintro ⟨t20q7, c0_caps7, c1q7, c2q7, c3q7, c4q7, c5q7, c6q7, c10q7, c11q7⟩ o2 R2 h hr2 hn2 hx2 ht2
 try dsimp only at h hn2 ⊢
 unfold order_Stamps_l1 at h
 try dsimp only at h
 refine chk_sx h (fun g2163 h => ?_)
 have k2162 : c2q7.length = c6q7.length := of_decide_eq_true g2163
 refine chk_sx h (fun g2165 h => ?_)
 have k2164 : c4q7.length = c10q7.length := of_decide_eq_true g2165
 refine chk_sx h (fun g2167 h => ?_)
 have k2166 : c5q7.length = c11q7.length := of_decide_eq_true g2167
 refine seq_np ?_
 refine reg_f ?_
 refine rs 1 [] [] (by kernel_rfl) allP_nil ?_
 refine rf [(5, .ptr 0 0), (6, .own 1 0 c1q7.length), (18, .sl trace.length (fl trace)), (19, iS ((trace.length : Nat) : Int)), (20, iS t20q7), (21, bS (decide (t20q7 < ((trace.length : Nat) : Int))))] [(0, .row 82 [.mp 2, .own 3 0 c3q7.length, .sl c0_caps7.length (fl c0_caps7), .mp 4, .mp 5]), (1, .row 62 (fl c1q7)), (2, .map (mpP 6 c2q7)), (3, .row 93 (flD dpipe [7, 8, 9] c3q7)), (4, .map (mpP 10 c4q7)), (5, .map (mpP 11 c5q7)), ((.s 6 0), .fam (famP 83 c6q7)), ((.s 7 0), .fam (famD dpipe 0 c3q7)), ((.s 8 0), .fam (famD dpipe 1 c3q7)), ((.s 9 0), .fam (famD dpipe 2 c3q7)), ((.s 10 0), .fam (famP 98 c10q7)), ((.s 11 0), .fam (famP 83 c11q7))] 12 (by kernel_rfl) ?_
 refine wk_id ?_
 refine seq_np ?_
 refine cond_sx h (by kernel_rfl) (fun g2217 h => ?_) (fun g2217 h => ?_)
 ·refine wk_id ?_
  refine seq_np ?_
  refine block_np ?_
  refine chk_sx h (fun g2196 h => ?_)
  refine seq_np ?_
  refine reg_f ?_
  have k2195 : 0 ≤ t20q7 ∧ t20q7 < ((trace.length : Nat) : Int) := by first | simpa only [Bool.and_eq_true, decide_eq_true_eq, bne_iff_ne, ne_eq] using g2196 | (simp at g2196 ⊢; omega)
  refine rs 4 [some ⟨.iptr (fl trace) ((t20q7).toNat * 4), [], 12, []⟩, some ⟨.agg (Enc.cells (ix trace t20q7)), [], 12, []⟩] _ (by kernel_rfl) (allP_cons (ob_ldw trace t20q7 4 ((t20q7).toNat * 4) k2195 rfl (by first | rfl | omega) (Enc.cells (ix trace t20q7)) rfl 12 []) (allP_cons (ob_ix_l trace 4 12 t20q7 k2195) allP_nil)) ?_
  refine rf [(5, .ptr 0 0), (6, .own 1 0 c1q7.length), (8, .ptr 12 0), (18, .sl trace.length (fl trace)), (19, iS ((trace.length : Nat) : Int)), (20, iS t20q7)] [(0, .row 82 [.mp 2, .own 3 0 c3q7.length, .sl c0_caps7.length (fl c0_caps7), .mp 4, .mp 5]), (1, .row 62 (fl c1q7)), (2, .map (mpP 6 c2q7)), (3, .row 93 (flD dpipe [7, 8, 9] c3q7)), (4, .map (mpP 10 c4q7)), (5, .map (mpP 11 c5q7)), ((.s 6 0), .fam (famP 83 c6q7)), ((.s 7 0), .fam (famD dpipe 0 c3q7)), ((.s 8 0), .fam (famD dpipe 1 c3q7)), ((.s 9 0), .fam (famD dpipe 2 c3q7)), ((.s 10 0), .fam (famP 98 c10q7)), ((.s 11 0), .fam (famP 83 c11q7)), (12, .row 31 (Enc.cells (ix trace t20q7)))] 13 (by kernel_rfl) ?_
  refine wk_id ?_
  refine reg_f ?_
  refine rs 3 [] [] (by kernel_rfl) allP_nil ?_
  obtain ⟨r2207, hr2207, h⟩ := bind_sx h
  refine call_x (order_watch_see_spec (ix trace t20q7) c0_caps7 c2q7 c3q7 c4q7 c5q7 c6q7 c10q7 c11q7 r2207 hr2207) (args := [.ptr 0 0, .agg (Enc.cells (ix trace t20q7))]) (dst := (some 27)) (by kernel_rfl) [(0, .row 82 [.mp 2, .own 3 0 c3q7.length, .sl c0_caps7.length (fl c0_caps7), .mp 4, .mp 5]), (1, .row 62 (fl c1q7)), (2, .map (mpP 6 c2q7)), (3, .row 93 (flD dpipe [7, 8, 9] c3q7)), (4, .map (mpP 10 c4q7)), (5, .map (mpP 11 c5q7)), ((.s 6 0), .fam (famP 83 c6q7)), ((.s 7 0), .fam (famD dpipe 0 c3q7)), ((.s 8 0), .fam (famD dpipe 1 c3q7)), ((.s 9 0), .fam (famD dpipe 2 c3q7)), ((.s 10 0), .fam (famP 98 c10q7)), ((.s 11 0), .fam (famP 83 c11q7)), (12, .row 31 (Enc.cells (ix trace t20q7)))] 13 (by kernel_rfl) [(0, 0), (1, 2), ((.s 2 0), (.s 6 0)), (3, 3), ((.s 4 0), (.s 7 0)), ((.s 5 0), (.s 8 0)), ((.s 6 0), (.s 9 0)), (7, 4), ((.s 8 0), (.s 10 0)), (9, 5), ((.s 10 0), (.s 11 0))] [] (.agg (Enc.cells r2207.1)) [(0, .row 82 [.mp 2, .own 3 0 r2207.2.2.2.1.length, .sl r2207.2.1.length (fl r2207.2.1), .mp 4, .mp 5]), (2, .map (mpP 6 r2207.2.2.1)), ((.s 6 0), .fam (famP 83 r2207.2.2.2.2.2.2.1)), (3, .row 93 (flD dpipe [24, 25, 26] r2207.2.2.2.1)), ((.s 7 0), .dead), ((.s 8 0), .dead), ((.s 9 0), .dead), (4, .map (mpP 10 r2207.2.2.2.2.1)), ((.s 10 0), .fam (famP 98 r2207.2.2.2.2.2.2.2.1)), (5, .map (mpP 11 r2207.2.2.2.2.2.1)), ((.s 11 0), .fam (famP 83 r2207.2.2.2.2.2.2.2.2)), ((.s 24 0), .fam (famD dpipe 0 r2207.2.2.2.1)), ((.s 25 0), .fam (famD dpipe 1 r2207.2.2.2.1)), ((.s 26 0), .fam (famD dpipe 2 r2207.2.2.2.1)), (0, .dead), (2, .dead), ((.s 6 0), .dead), (3, .dead), ((.s 7 0), .dead), ((.s 8 0), .dead), ((.s 9 0), .dead), (4, .dead), ((.s 10 0), .dead), (5, .dead), ((.s 11 0), .dead)] (by simp only [push_cast, k2162, lenP_famP, k2164, lenP_famP, k2166, lenP_famP, leL_flD, renL_flD, leL_flP, renL_flP, leC_famP, leC_famP0, flP_0, ren_famP, noN_eq, lenP_same, lenP_one, lenP_app, lenP_set, lenP_famP, Nat.le_refl, List.length_set, leC_mpP, leC_mpP1, mapLe_eq, mapLe1_eq, ren_mpP, ren_mpP1, seval]) (by simp only [push_cast, k2162, lenP_famP, k2164, lenP_famP, k2166, lenP_famP, leL_flD, renL_flD, leL_flP, renL_flP, leC_famP, leC_famP0, flP_0, ren_famP, noN_eq, lenP_same, lenP_one, lenP_app, lenP_set, lenP_famP, Nat.le_refl, List.length_set, leC_mpP, leC_mpP1, mapLe_eq, mapLe1_eq, ren_mpP, ren_mpP1, seval]) (by kernel_rfl) (.inl rfl) (by first | (simp only [push_cast, k2162, lenP_famP, k2164, lenP_famP, k2166, lenP_famP, leL_flD, renL_flD, leL_flP, renL_flP, leC_famP, leC_famP0, flP_0, ren_famP, noN_eq, lenP_same, lenP_one, lenP_app, lenP_set, lenP_famP, Nat.le_refl, List.length_set, leC_mpP, leC_mpP1, mapLe_eq, mapLe1_eq, ren_mpP, ren_mpP1, seval]; done) | (simp only [push_cast, k2162, lenP_famP, k2164, lenP_famP, k2166, lenP_famP, leL_flD, renL_flD, leL_flP, renL_flP, leC_famP, leC_famP0, flP_0, ren_famP, noN_eq, lenP_same, lenP_one, lenP_app, lenP_set, lenP_famP, Nat.le_refl, List.length_set, leC_mpP, leC_mpP1, mapLe_eq, mapLe1_eq, ren_mpP, ren_mpP1, seval]; kernel_rfl) | kernel_rfl) (by first | (simp only [push_cast, k2162, lenP_famP, k2164, lenP_famP, k2166, lenP_famP, leL_flD, renL_flD, leL_flP, renL_flP, leC_famP, leC_famP0, flP_0, ren_famP, noN_eq, lenP_same, lenP_one, lenP_app, lenP_set, lenP_famP, Nat.le_refl, List.length_set, leC_mpP, leC_mpP1, mapLe_eq, mapLe1_eq, ren_mpP, ren_mpP1, seval]; done) | (simp only [push_cast, k2162, lenP_famP, k2164, lenP_famP, k2166, lenP_famP, leL_flD, renL_flD, leL_flP, renL_flP, leC_famP, leC_famP0, flP_0, ren_famP, noN_eq, lenP_same, lenP_one, lenP_app, lenP_set, lenP_famP, Nat.le_refl, List.length_set, leC_mpP, leC_mpP1, mapLe_eq, mapLe1_eq, ren_mpP, ren_mpP1, seval]; kernel_rfl) | kernel_rfl) ?_ (hfam := (And.intro trivial (And.intro trivial (And.intro (famP_fam (t := 83) (xs := c6q7) (by kernel_rfl) (by kernel_rfl)) (And.intro trivial (And.intro (fun _ => Or.inl rfl) (And.intro (fun _ => Or.inl rfl) (And.intro (fun _ => Or.inl rfl) (And.intro trivial (And.intro (famP_fam (t := 98) (xs := c10q7) (by kernel_rfl) (by kernel_rfl)) (And.intro trivial (And.intro (famP_fam (t := 83) (xs := c11q7) (by kernel_rfl) (by kernel_rfl)) trivial))))))))))))
  refine chk_sx h (fun g2210 h => ?_)
  have k2209 : r2207.2.2.1.length = r2207.2.2.2.2.2.2.1.length := of_decide_eq_true g2210
  refine chk_sx h (fun g2212 h => ?_)
  have k2211 : r2207.2.2.2.2.1.length = r2207.2.2.2.2.2.2.2.1.length := of_decide_eq_true g2212
  refine chk_sx h (fun g2214 h => ?_)
  have k2213 : r2207.2.2.2.2.2.1.length = r2207.2.2.2.2.2.2.2.2.length := of_decide_eq_true g2214
  refine chk_sx h (fun g2216 h => ?_)
  have k2215 : (c1q7 ++ ([r2207.1] : List (VArr 65))).length * 520 ≤ 140737488355328 := by first | simpa only [Bool.and_eq_true, decide_eq_true_eq, bne_iff_ne, ne_eq] using g2216 | (simp at g2216 ⊢; omega)
  refine rs 3 [none, some ⟨.own 28 0 (c1q7 ++ ([r2207.1] : List (VArr 65))).length, [(28, .row 62 (fl (c1q7 ++ ([r2207.1] : List (VArr 65))))), (1, .dead)], 29, [1, 27]⟩] _ (by kernel_rfl) (allP_cons (ob_app (P := Try.prog) c1q7 ([r2207.1] : List (VArr 65)) 65 520 rfl (appCells (fl ([r2207.1] : List (VArr 65))) 0 (([r2207.1] : List (VArr 65)).length * 65)) ([r2207.1] : List (VArr 65)).length (app_own ([r2207.1] : List (VArr 65)) 65 rfl) rfl (0 + ([r2207.1] : List (VArr 65)).length * 65 ≤ (fl ([r2207.1] : List (VArr 65))).length) (app_own_le ([r2207.1] : List (VArr 65)) 65 rfl) 62 (by kernel_rfl) (by decide) k2215 1 28 [27]) allP_nil) ?_
  refine rf [(5, .ptr 0 0), (6, .own 28 0 (c1q7 ++ ([r2207.1] : List (VArr 65))).length), (18, .sl trace.length (fl trace)), (19, iS ((trace.length : Nat) : Int)), (20, iS t20q7)] [(0, .row 82 [.mp 2, .own 3 0 r2207.2.2.2.1.length, .sl r2207.2.1.length (fl r2207.2.1), .mp 4, .mp 5]), (1, .dead), (2, .map (mpP 6 r2207.2.2.1)), (3, .row 93 (flD dpipe [24, 25, 26] r2207.2.2.2.1)), (4, .map (mpP 10 r2207.2.2.2.2.1)), (5, .map (mpP 11 r2207.2.2.2.2.2.1)), ((.s 6 0), .fam (famP 83 r2207.2.2.2.2.2.2.1)), ((.s 7 0), .dead), ((.s 8 0), .dead), ((.s 9 0), .dead), ((.s 10 0), .fam (famP 98 r2207.2.2.2.2.2.2.2.1)), ((.s 11 0), .fam (famP 83 r2207.2.2.2.2.2.2.2.2)), (12, .row 31 (Enc.cells (ix trace t20q7))), ((.s 24 0), .fam (famD dpipe 0 r2207.2.2.2.1)), ((.s 25 0), .fam (famD dpipe 1 r2207.2.2.2.1)), ((.s 26 0), .fam (famD dpipe 2 r2207.2.2.2.1)), (27, .row 62 (fl ([r2207.1] : List (VArr 65)))), (28, .row 62 (fl (c1q7 ++ ([r2207.1] : List (VArr 65)))))] 29 (by kernel_rfl) ?_
  refine wk_id ?_
  refine wk_id ?_
  refine reg_f ?_
  refine rs 2 [] [] (by kernel_rfl) allP_nil ?_
  refine rf [(5, .ptr 0 0), (6, .own 28 0 (c1q7 ++ ([r2207.1] : List (VArr 65))).length), (18, .sl trace.length (fl trace)), (19, iS ((trace.length : Nat) : Int)), (20, iS (IntKind.i64.wrap (t20q7 + 1)))] [(0, .row 82 [.mp 2, .own 3 0 r2207.2.2.2.1.length, .sl r2207.2.1.length (fl r2207.2.1), .mp 4, .mp 5]), (1, .dead), (2, .map (mpP 6 r2207.2.2.1)), (3, .row 93 (flD dpipe [24, 25, 26] r2207.2.2.2.1)), (4, .map (mpP 10 r2207.2.2.2.2.1)), (5, .map (mpP 11 r2207.2.2.2.2.2.1)), ((.s 6 0), .fam (famP 83 r2207.2.2.2.2.2.2.1)), ((.s 7 0), .dead), ((.s 8 0), .dead), ((.s 9 0), .dead), ((.s 10 0), .fam (famP 98 r2207.2.2.2.2.2.2.2.1)), ((.s 11 0), .fam (famP 83 r2207.2.2.2.2.2.2.2.2)), (12, .row 31 (Enc.cells (ix trace t20q7))), ((.s 24 0), .fam (famD dpipe 0 r2207.2.2.2.1)), ((.s 25 0), .fam (famD dpipe 1 r2207.2.2.2.1)), ((.s 26 0), .fam (famD dpipe 2 r2207.2.2.2.1)), (27, .row 62 (fl ([r2207.1] : List (VArr 65)))), (28, .row 62 (fl (c1q7 ++ ([r2207.1] : List (VArr 65)))))] 29 (by kernel_rfl) ?_
  exact hn2 ((IntKind.i64.wrap (t20q7 + 1)), r2207.2.1, (c1q7 ++ ([r2207.1] : List (VArr 65))), r2207.2.2.1, r2207.2.2.2.1, r2207.2.2.2.2.1, r2207.2.2.2.2.2.1, r2207.2.2.2.2.2.2.1, r2207.2.2.2.2.2.2.2.1, r2207.2.2.2.2.2.2.2.2) _ _ _ (Option.some.inj h).symm (leSt_m [(0, 0), (1, 28), (2, 2), (3, 3), (4, 4), (5, 5), ((.s 6 0), (.s 6 0)), ((.s 7 0), (.s 24 0)), ((.s 8 0), (.s 25 0)), ((.s 9 0), (.s 26 0)), ((.s 10 0), (.s 10 0)), ((.s 11 0), (.s 11 0))] [] (by simp only [push_cast, k2209, lenP_famP, k2211, k2213, leL_flD, renL_flD, leL_flP, renL_flP, leC_famP, leC_famP0, flP_0, ren_famP, noN_eq, lenP_same, lenP_one, lenP_app, lenP_set, lenP_famP, Nat.le_refl, List.length_set, leC_mpP, leC_mpP1, mapLe_eq, mapLe1_eq, ren_mpP, ren_mpP1, seval]) (by simp only [push_cast, k2209, lenP_famP, k2211, k2213, leL_flD, renL_flD, leL_flP, renL_flP, leC_famP, leC_famP0, flP_0, ren_famP, noN_eq, lenP_same, lenP_one, lenP_app, lenP_set, lenP_famP, Nat.le_refl, List.length_set, leC_mpP, leC_mpP1, mapLe_eq, mapLe1_eq, ren_mpP, ren_mpP1, seval]) rfl rfl rfl)
 ·change R2 (.exit 0) _ _ _
  refine ex_cast hx2 (id := 0) ?_
  obtain ⟨r0, h, e0⟩ := map_sx h
  have e1 := hr2 r0 e0.symm
  subst r0
  refine wk_id ?_
  refine wk_id ?_
  refine seq_np ?_
  refine reg_f ?_
  refine rs 2 [] [] (by kernel_rfl) allP_nil ?_
  refine rf [(4, .own 1 0 c1q7.length)] [(0, .row 82 [.mp 2, .own 3 0 c3q7.length, .sl c0_caps7.length (fl c0_caps7), .mp 4, .mp 5]), (1, .row 62 (fl c1q7)), (2, .map (mpP 6 c2q7)), (3, .row 93 (flD dpipe [7, 8, 9] c3q7)), (4, .map (mpP 10 c4q7)), (5, .map (mpP 11 c5q7)), ((.s 6 0), .fam (famP 83 c6q7)), ((.s 7 0), .fam (famD dpipe 0 c3q7)), ((.s 8 0), .fam (famD dpipe 1 c3q7)), ((.s 9 0), .fam (famD dpipe 2 c3q7)), ((.s 10 0), .fam (famP 98 c10q7)), ((.s 11 0), .fam (famP 83 c11q7))] 12 (by kernel_rfl) ?_
  refine wk_id ?_
  obtain rfl := Option.some.inj h
  refine ret_at (.own 1 0 c1q7.length) (by kernel_rfl) ?_
  exact ret_e [(0, 1)] [] (by simp only [push_cast, leL_flD, renL_flD, leL_flP, renL_flP, leC_famP, leC_famP0, flP_0, ren_famP, noN_eq, lenP_same, lenP_one, lenP_app, lenP_set, lenP_famP, Nat.le_refl, List.length_set, leC_mpP, leC_mpP1, mapLe_eq, mapLe1_eq, ren_mpP, ren_mpP1, seval]) (by simp only [push_cast, leL_flD, renL_flD, leL_flP, renL_flP, leC_famP, leC_famP0, flP_0, ren_famP, noN_eq, lenP_same, lenP_one, lenP_app, lenP_set, lenP_famP, Nat.le_refl, List.length_set, leC_mpP, leC_mpP1, mapLe_eq, mapLe1_eq, ren_mpP, ren_mpP1, seval]) rfl rfl rfl

set_option maxRecDepth 100000 in
set_option maxHeartbeats 200000000 in
theorem taskmilllaw_ownTrace_spec (l : (List GEvent)) (r : (List GEvent)) (h : taskmilllaw_ownTrace l = some r) : SpecW Try.prog 13 [.sl l.length (fl l)] [] 0 (fun x h n => x = .own 0 0 r.length ∧ h = [(0, .row 31 (fl r))] ∧ n = 1) := by
 unfold taskmilllaw_ownTrace at h
 refine spec_of (draw_ok _) Try.func13 rfl (by decide) rfl (by kernel_rfl) ?_
 refine seq_np ?_
 refine reg_f ?_
 refine rs 1 [] [] (by kernel_rfl) allP_nil ?_
 refine rf [(0, .sl l.length (fl l))] [] 0 (by kernel_rfl) ?_
 refine wk_id ?_
 refine chk_sx h (fun g3146 h => ?_)
 refine seq_np ?_
 refine reg_f ?_
 have k3145 : l.length * 32 ≤ 140737488355328 := by first | simpa only [Bool.and_eq_true, decide_eq_true_eq, bne_iff_ne, ne_eq] using g3146 | (simp at g3146 ⊢; omega)
 refine rs 3 [none, some ⟨.own 0 0 l.length, [(0, .row 31 (fl l))], 1, []⟩] _ (by kernel_rfl) (allP_cons (ob_app0 (P := Try.prog) l 4 32 rfl (fl l) l.length rfl rfl ((fl l).length = l.length * 4) (app_sl l 4 rfl) 31 (by kernel_rfl) (by decide) k3145 0 []) allP_nil) ?_
 refine rf [(2, .own 0 0 l.length)] [(0, .row 31 (fl l))] 1 (by kernel_rfl) ?_
 refine wk_id ?_
 obtain rfl := Option.some.inj h
 refine ret_at (.own 0 0 l.length) (by kernel_rfl) ?_
 exact ret_e [(0, 0)] [] (by simp only [push_cast, leL_flD, renL_flD, leL_flP, renL_flP, leC_famP, leC_famP0, flP_0, ren_famP, noN_eq, lenP_same, lenP_one, lenP_app, lenP_set, lenP_famP, Nat.le_refl, List.length_set, leC_mpP, leC_mpP1, mapLe_eq, mapLe1_eq, ren_mpP, ren_mpP1, seval]) (by simp only [push_cast, leL_flD, renL_flD, leL_flP, renL_flP, leC_famP, leC_famP0, flP_0, ren_famP, noN_eq, lenP_same, lenP_one, lenP_app, lenP_set, lenP_famP, Nat.le_refl, List.length_set, leC_mpP, leC_mpP1, mapLe_eq, mapLe1_eq, ren_mpP, ren_mpP1, seval]) rfl rfl rfl

set_option maxRecDepth 100000 in
set_option maxHeartbeats 200000000 in
theorem slices_Clone_int_spec (s : (List Int)) (r : (List Int)) (h : slices_Clone_int s = some r) : SpecW Try.prog 35 [.sl s.length (fl s)] [] 0 (fun x h n => x = .own 0 0 r.length ∧ h = [(0, .row 3 (fl r))] ∧ n = 1) := by
 unfold slices_Clone_int at h
 refine spec_of (draw_ok _) Try.func35 rfl (by decide) rfl (by kernel_rfl) ?_
 refine seq_np ?_
 refine reg_f ?_
 refine rs 1 [] [] (by kernel_rfl) allP_nil ?_
 refine rf [(0, .sl s.length (fl s))] [] 0 (by kernel_rfl) ?_
 refine wk_id ?_
 refine seq_np ?_
 refine seq_np ?_
 refine reg_f ?_
 refine rs 1 [] [] (by kernel_rfl) allP_nil ?_
 refine run_nil s.length (some 4) (by kernel_rfl) (fun g3189 => ?_) ?_
 ·obtain rfl : s = [] := List.eq_nil_of_length_eq_zero g3189
  replace h : (some ([])) = some r := by simpa using h
  refine rf [(0, .sl ([] : List Int).length (fl ([] : List Int))), (4, bS true)] [] 0 (by kernel_rfl) ?_
  refine wk_id ?_
  refine cond_t (by kernel_rfl) ?_
  refine seq_np ?_
  refine reg_f ?_
  refine rs 1 [] [] (by kernel_rfl) allP_nil ?_
  refine rf [(2, .v (.slice none 0 0))] [] 0 (by kernel_rfl) ?_
  refine wk_id ?_
  obtain rfl := Option.some.inj h
  refine ret_at (.v (.slice none 0 0)) (by kernel_rfl) ?_
  exact ret_e [] [] (by simp only [push_cast, leL_flD, renL_flD, leL_flP, renL_flP, leC_famP, leC_famP0, flP_0, ren_famP, noN_eq, lenP_same, lenP_one, lenP_app, lenP_set, lenP_famP, Nat.le_refl, List.length_set, leC_mpP, leC_mpP1, mapLe_eq, mapLe1_eq, ren_mpP, ren_mpP1, seval]) (by simp only [push_cast, leL_flD, renL_flD, leL_flP, renL_flP, leC_famP, leC_famP0, flP_0, ren_famP, noN_eq, lenP_same, lenP_one, lenP_app, lenP_set, lenP_famP, Nat.le_refl, List.length_set, leC_mpP, leC_mpP1, mapLe_eq, mapLe1_eq, ren_mpP, ren_mpP1, seval]) rfl rfl rfl
 ·refine rf [(0, .sl s.length (fl s)), (4, bS false)] [] 0 (by kernel_rfl) ?_
  refine wk_id ?_
  refine cond_f (by kernel_rfl) ?_
  refine wk_id ?_
  refine chk_sx h (fun g3188 h => ?_)
  refine seq_np ?_
  refine reg_f ?_
  refine run_mk0 Int (some 5) 3 (by kernel_rfl) ?_
  have k3187 : (([] : List Int) ++ s).length * 8 ≤ 140737488355328 := by first | simpa only [Bool.and_eq_true, decide_eq_true_eq, bne_iff_ne, ne_eq] using g3188 | (simp at g3188 ⊢; omega)
  refine rs 3 [none, some ⟨.own 1 0 (([] : List Int) ++ s).length, [(1, .row 3 (fl (([] : List Int) ++ s))), (0, .dead)], 2, [0]⟩] _ (by kernel_rfl) (allP_cons (ob_app (P := Try.prog) ([] : List Int) s 1 8 rfl (fl s) s.length rfl rfl ((fl s).length = s.length * 1) (app_sl s 1 rfl) 3 (by kernel_rfl) (by decide) k3187 0 1 []) allP_nil) ?_
  refine rf [(2, .own 1 0 (([] : List Int) ++ s).length)] [(0, .dead), (1, .row 3 (fl (([] : List Int) ++ s)))] 2 (by kernel_rfl) ?_
  refine wk_id ?_
  obtain rfl := Option.some.inj h
  refine ret_at (.own 1 0 (([] : List Int) ++ s).length) (by kernel_rfl) ?_
  exact ret_e [(0, 1)] [] (by simp only [push_cast, leL_flD, renL_flD, leL_flP, renL_flP, leC_famP, leC_famP0, flP_0, ren_famP, noN_eq, lenP_same, lenP_one, lenP_app, lenP_set, lenP_famP, Nat.le_refl, List.length_set, leC_mpP, leC_mpP1, mapLe_eq, mapLe1_eq, ren_mpP, ren_mpP1, seval]) (by simp only [push_cast, leL_flD, renL_flD, leL_flP, renL_flP, leC_famP, leC_famP0, flP_0, ren_famP, noN_eq, lenP_same, lenP_one, lenP_app, lenP_set, lenP_famP, Nat.le_refl, List.length_set, leC_mpP, leC_mpP1, mapLe_eq, mapLe1_eq, ren_mpP, ren_mpP1, seval]) rfl rfl rfl

set_option maxRecDepth 100000 in
set_option maxHeartbeats 200000000 in
theorem order_Clocks_spec (trace : (List GEvent)) (pipes : (List Int)) (r : Fault × (List (List Int))) (h : order_Clocks trace pipes = some r) : SpecW Try.prog 16 [.sl trace.length (fl trace), .sl pipes.length (fl pipes)] [] 0 (fun x h n => x = .tup [.own 0 0 r.2.length, .agg (Enc.cells r.1)] ∧ h = [(0, .row 23 (fl r.2))] ∧ n = 1) := by
 unfold order_Clocks at h
 refine spec_of (draw_ok _) Try.func16 rfl (by decide) rfl (by kernel_rfl) ?_
 refine seq_np ?_
 refine reg_f ?_
 refine rs 2 [] [] (by kernel_rfl) allP_nil ?_
 refine rf [(0, .sl trace.length (fl trace)), (1, .sl pipes.length (fl pipes)), (5, .ptr 0 0)] [(0, .row 26 [iS 0, iS 0])] 1 (by kernel_rfl) ?_
 refine wk_id ?_
 refine seq_np ?_
 refine seq_np ?_
 refine reg_f ?_
 refine rs 2 [] [] (by kernel_rfl) allP_nil ?_
 obtain ⟨r3213, hr3213, h⟩ := bind_sx h
 refine run_call 15 [.sl trace.length (fl trace), .sl pipes.length (fl pipes)] (some 15) (by kernel_rfl) ?_
 refine call_0 (order_Check_spec trace pipes r3213 hr3213) (by simp only [push_cast, leL_flD, renL_flD, leL_flP, renL_flP, leC_famP, leC_famP0, flP_0, ren_famP, noN_eq, lenP_same, lenP_one, lenP_app, lenP_set, lenP_famP, Nat.le_refl, List.length_set, leC_mpP, leC_mpP1, mapLe_eq, mapLe1_eq, ren_mpP, ren_mpP1, seval]) (by simp only [push_cast, leL_flD, renL_flD, leL_flP, renL_flP, leC_famP, leC_famP0, flP_0, ren_famP, noN_eq, lenP_same, lenP_one, lenP_app, lenP_set, lenP_famP, Nat.le_refl, List.length_set, leC_mpP, leC_mpP1, mapLe_eq, mapLe1_eq, ren_mpP, ren_mpP1, seval]) ?_
 refine back_f ?_
 refine rs 2 [] [] (by kernel_rfl) allP_nil ?_
 refine rf [(0, .sl trace.length (fl trace)), (1, .sl pipes.length (fl pipes)), (5, .ptr 0 0), (6, .ptr 1 0)] [(0, .row 26 [iS 0, iS 0]), (1, .row 26 (Enc.cells r3213))] 2 (by kernel_rfl) ?_
 refine wk_id ?_
 refine seq_np ?_
 refine reg_f ?_
 refine rs 3 [] [] (by kernel_rfl) allP_nil ?_
 refine rf [(0, .sl trace.length (fl trace)), (1, .sl pipes.length (fl pipes)), (5, .ptr 0 0), (6, .ptr 1 0), (18, bS (r3213.Code != 0))] [(0, .row 26 [iS 0, iS 0]), (1, .row 26 (Enc.cells r3213))] 2 (by kernel_rfl) ?_
 refine wk_id ?_
 refine cond_sx h (by kernel_rfl) (fun g3382 h => ?_) (fun g3382 h => ?_)
 ·refine seq_np ?_
  refine reg_t ?_
  refine rs 3 [] [] (by kernel_rfl) allP_nil ?_
  refine rt [(4, .v (.slice none 0 0)), (5, .ptr 0 0)] [(0, .row 26 (Enc.cells r3213)), (1, .row 26 (Enc.cells r3213))] 5 follows (by kernel_rfl) ?_
  refine wk_id ?_
  obtain rfl := Option.some.inj h
  refine ret_at (.tup [.v (.slice none 0 0), .agg (Enc.cells r3213)]) (by kernel_rfl) ?_
  exact ret_e [] [] (by simp only [push_cast, leL_flD, renL_flD, leL_flP, renL_flP, leC_famP, leC_famP0, flP_0, ren_famP, noN_eq, lenP_same, lenP_one, lenP_app, lenP_set, lenP_famP, Nat.le_refl, List.length_set, leC_mpP, leC_mpP1, mapLe_eq, mapLe1_eq, ren_mpP, ren_mpP1, seval]) (by simp only [push_cast, leL_flD, renL_flD, leL_flP, renL_flP, leC_famP, leC_famP0, flP_0, ren_famP, noN_eq, lenP_same, lenP_one, lenP_app, lenP_set, lenP_famP, Nat.le_refl, List.length_set, leC_mpP, leC_mpP1, mapLe_eq, mapLe1_eq, ren_mpP, ren_mpP1, seval]) rfl rfl rfl
 ·refine wk_id ?_
  refine seq_np ?_
  refine reg_f ?_
  refine rs 1 [] [] (by kernel_rfl) allP_nil ?_
  refine rf [(0, .sl trace.length (fl trace)), (1, .sl pipes.length (fl pipes)), (5, .ptr 0 0), (7, iS 0)] [(0, .row 26 [iS 0, iS 0]), (1, .row 26 (Enc.cells r3213))] 2 (by kernel_rfl) ?_
  refine wk_id ?_
  refine seq_np ?_
  refine seq_np ?_
  refine reg_f ?_
  refine rs 3 [] [] (by kernel_rfl) allP_nil ?_
  refine rf [(0, .sl trace.length (fl trace)), (1, .sl pipes.length (fl pipes)), (5, .ptr 0 0), (7, iS 0), (20, .sl trace.length (fl trace)), (21, iS ((trace.length : Nat) : Int)), (22, iS 0)] [(0, .row 26 [iS 0, iS 0]), (1, .row 26 (Enc.cells r3213))] 2 (by kernel_rfl) ?_
  refine wk_id ?_
  refine block_np ?_
  refine loop_sx (S := Int × Int) (fun a => ([(0, .sl trace.length (fl trace)), (1, .sl pipes.length (fl pipes)), (5, .ptr 0 0), (7, iS a.1), (20, .sl trace.length (fl trace)), (21, iS ((trace.length : Nat) : Int)), (22, iS a.2)], [(0, .row 26 [iS 0, iS 0])], 1)) h (leSt_m [(0, 0)] [] (by simp only [push_cast, leL_flD, renL_flD, leL_flP, renL_flP, leC_famP, leC_famP0, flP_0, ren_famP, noN_eq, lenP_same, lenP_one, lenP_app, lenP_set, lenP_famP, Nat.le_refl, List.length_set, leC_mpP, leC_mpP1, mapLe_eq, mapLe1_eq, ren_mpP, ren_mpP1, seval]) (by simp only [push_cast, leL_flD, renL_flD, leL_flP, renL_flP, leC_famP, leC_famP0, flP_0, ren_famP, noN_eq, lenP_same, lenP_one, lenP_app, lenP_set, lenP_famP, Nat.le_refl, List.length_set, leC_mpP, leC_mpP1, mapLe_eq, mapLe1_eq, ren_mpP, ren_mpP1, seval]) rfl rfl rfl) ?_
  rintro ⟨most18, t22q7⟩ o3 R3 h hr3 hn3 hx3 ht3
  try dsimp only at h hn3 ⊢
  unfold order_Clocks_l2 at h
  try dsimp only at h
  refine seq_np ?_
  refine reg_f ?_
  refine rs 1 [] [] (by kernel_rfl) allP_nil ?_
  refine rf [(0, .sl trace.length (fl trace)), (1, .sl pipes.length (fl pipes)), (5, .ptr 0 0), (7, iS most18), (20, .sl trace.length (fl trace)), (21, iS ((trace.length : Nat) : Int)), (22, iS t22q7), (23, bS (decide (t22q7 < ((trace.length : Nat) : Int))))] [(0, .row 26 [iS 0, iS 0])] 1 (by kernel_rfl) ?_
  refine wk_id ?_
  refine seq_np ?_
  refine cond_sx h (by kernel_rfl) (fun g3381 h => ?_) (fun g3381 h => ?_)
  ·refine wk_id ?_
   refine seq_np ?_
   refine block_cut (A := Int) (fun a => ([(0, .sl trace.length (fl trace)), (1, .sl pipes.length (fl pipes)), (5, .ptr 0 0), (7, iS a), (20, .sl trace.length (fl trace)), (21, iS ((trace.length : Nat) : Int)), (22, iS t22q7)], [(0, .row 26 [iS 0, iS 0])], 1)) (fun a => (order_Clocks_j1 trace pipes t22q7 a) = some o3) (fun K3275 hK3275 => ?_) ?_
   ·refine chk_sx h (fun g3279 h => ?_)
    refine seq_np ?_
    refine reg_f ?_
    have k3278 : 0 ≤ t22q7 ∧ t22q7 < ((trace.length : Nat) : Int) := by first | simpa only [Bool.and_eq_true, decide_eq_true_eq, bne_iff_ne, ne_eq] using g3279 | (simp at g3279 ⊢; omega)
    refine rs 4 [some ⟨.iptr (fl trace) ((t22q7).toNat * 4), [], 1, []⟩, some ⟨.agg (Enc.cells (ix trace t22q7)), [], 1, []⟩] _ (by kernel_rfl) (allP_cons (ob_ldw trace t22q7 4 ((t22q7).toNat * 4) k3278 rfl (by first | rfl | omega) (Enc.cells (ix trace t22q7)) rfl 1 []) (allP_cons (ob_ix_l trace 4 1 t22q7 k3278) allP_nil)) ?_
    refine rf [(0, .sl trace.length (fl trace)), (1, .sl pipes.length (fl pipes)), (5, .ptr 0 0), (7, iS most18), (9, .ptr 1 0), (20, .sl trace.length (fl trace)), (21, iS ((trace.length : Nat) : Int)), (22, iS t22q7)] [(0, .row 26 [iS 0, iS 0]), (1, .row 31 (Enc.cells (ix trace t22q7)))] 2 (by kernel_rfl) ?_
    refine wk_id ?_
    refine seq_np ?_
    refine reg_f ?_
    refine rs 5 [] [] (by kernel_rfl) allP_nil ?_
    refine rf [(0, .sl trace.length (fl trace)), (1, .sl pipes.length (fl pipes)), (5, .ptr 0 0), (7, iS (max most18 (ix trace t22q7).Task)), (9, .ptr 1 0), (20, .sl trace.length (fl trace)), (21, iS ((trace.length : Nat) : Int)), (22, iS t22q7)] [(0, .row 26 [iS 0, iS 0]), (1, .row 31 (Enc.cells (ix trace t22q7)))] 2 (by kernel_rfl) ?_
    refine wk_id ?_
    refine seq_np ?_
    refine reg_f ?_
    refine rs 3 [] [] (by kernel_rfl) allP_nil ?_
    refine rf [(0, .sl trace.length (fl trace)), (1, .sl pipes.length (fl pipes)), (5, .ptr 0 0), (7, iS (max most18 (ix trace t22q7).Task)), (9, .ptr 1 0), (20, .sl trace.length (fl trace)), (21, iS ((trace.length : Nat) : Int)), (22, iS t22q7), (32, bS ((ix trace t22q7).Op == 11))] [(0, .row 26 [iS 0, iS 0]), (1, .row 31 (Enc.cells (ix trace t22q7)))] 2 (by kernel_rfl) ?_
    refine wk_id ?_
    refine cond_sx h (by kernel_rfl) (fun g3280 h => ?_) (fun g3280 h => ?_)
    ·refine reg_f ?_
     refine rs 5 [] [] (by kernel_rfl) allP_nil ?_
     refine rf [(0, .sl trace.length (fl trace)), (1, .sl pipes.length (fl pipes)), (5, .ptr 0 0), (7, iS (max (max most18 (ix trace t22q7).Task) (ix trace t22q7).Value)), (20, .sl trace.length (fl trace)), (21, iS ((trace.length : Nat) : Int)), (22, iS t22q7)] [(0, .row 26 [iS 0, iS 0]), (1, .row 31 (Enc.cells (ix trace t22q7)))] 2 (by kernel_rfl) ?_
     exact hK3275 ((max (max most18 (ix trace t22q7).Task) (ix trace t22q7).Value)) _ _ _ h (leSt_m [(0, 0)] [] (by simp only [push_cast, leL_flD, renL_flD, leL_flP, renL_flP, leC_famP, leC_famP0, flP_0, ren_famP, noN_eq, lenP_same, lenP_one, lenP_app, lenP_set, lenP_famP, Nat.le_refl, List.length_set, leC_mpP, leC_mpP1, mapLe_eq, mapLe1_eq, ren_mpP, ren_mpP1, seval]) (by simp only [push_cast, leL_flD, renL_flD, leL_flP, renL_flP, leC_famP, leC_famP0, flP_0, ren_famP, noN_eq, lenP_same, lenP_one, lenP_app, lenP_set, lenP_famP, Nat.le_refl, List.length_set, leC_mpP, leC_mpP1, mapLe_eq, mapLe1_eq, ren_mpP, ren_mpP1, seval]) rfl rfl rfl)
    ·exact hK3275 ((max most18 (ix trace t22q7).Task)) _ _ _ h (leSt_m [(0, 0)] [] (by simp only [push_cast, leL_flD, renL_flD, leL_flP, renL_flP, leC_famP, leC_famP0, flP_0, ren_famP, noN_eq, lenP_same, lenP_one, lenP_app, lenP_set, lenP_famP, Nat.le_refl, List.length_set, leC_mpP, leC_mpP1, mapLe_eq, mapLe1_eq, ren_mpP, ren_mpP1, seval]) (by simp only [push_cast, leL_flD, renL_flD, leL_flP, renL_flP, leC_famP, leC_famP0, flP_0, ren_famP, noN_eq, lenP_same, lenP_one, lenP_app, lenP_set, lenP_famP, Nat.le_refl, List.length_set, leC_mpP, leC_mpP1, mapLe_eq, mapLe1_eq, ren_mpP, ren_mpP1, seval]) rfl rfl rfl)
   ·rintro most20 h
    try dsimp only at h ⊢
    unfold order_Clocks_j1 at h
    refine wk_id ?_
    refine reg_f ?_
    refine rs 2 [] [] (by kernel_rfl) allP_nil ?_
    refine rf [(0, .sl trace.length (fl trace)), (1, .sl pipes.length (fl pipes)), (5, .ptr 0 0), (7, iS most20), (20, .sl trace.length (fl trace)), (21, iS ((trace.length : Nat) : Int)), (22, iS (IntKind.i64.wrap (t22q7 + 1)))] [(0, .row 26 [iS 0, iS 0])] 1 (by kernel_rfl) ?_
    exact hn3 (most20, (IntKind.i64.wrap (t22q7 + 1))) _ _ _ (Option.some.inj h).symm (leSt_m [(0, 0)] [] (by simp only [push_cast, leL_flD, renL_flD, leL_flP, renL_flP, leC_famP, leC_famP0, flP_0, ren_famP, noN_eq, lenP_same, lenP_one, lenP_app, lenP_set, lenP_famP, Nat.le_refl, List.length_set, leC_mpP, leC_mpP1, mapLe_eq, mapLe1_eq, ren_mpP, ren_mpP1, seval]) (by simp only [push_cast, leL_flD, renL_flD, leL_flP, renL_flP, leC_famP, leC_famP0, flP_0, ren_famP, noN_eq, lenP_same, lenP_one, lenP_app, lenP_set, lenP_famP, Nat.le_refl, List.length_set, leC_mpP, leC_mpP1, mapLe_eq, mapLe1_eq, ren_mpP, ren_mpP1, seval]) rfl rfl rfl)
  ·change R3 (.exit 0) _ _ _
   refine ex_cast hx3 (id := 0) ?_
   obtain ⟨r0, h, e0⟩ := map_sx h
   have e1 := hr3 r0 e0.symm
   subst r0
   refine wk_id ?_
   refine wk_id ?_
   refine seq_np ?_
   refine reg_f ?_
   refine rs 1 [] [] (by kernel_rfl) allP_nil ?_
   refine rf [(0, .sl trace.length (fl trace)), (1, .sl pipes.length (fl pipes)), (5, .ptr 0 0), (7, iS most18), (10, .v (.slice none 0 0))] [(0, .row 26 [iS 0, iS 0])] 1 (by kernel_rfl) ?_
   refine wk_id ?_
   refine seq_np ?_
   refine seq_np ?_
   refine reg_f ?_
   refine rs 2 [] [] (by kernel_rfl) allP_nil ?_
   obtain ⟨r3308, hr3308, h⟩ := bind_sx h
   refine call_x (order_Stamps_spec trace pipes r3308 hr3308) (args := [.sl trace.length (fl trace), .sl pipes.length (fl pipes)]) (dst := (some 40)) (by kernel_rfl) [(0, .row 26 [iS 0, iS 0])] 1 (by kernel_rfl) [] [] (.own 1 0 r3308.length) [(1, .row 62 (fl r3308))] (by simp only [push_cast, leL_flD, renL_flD, leL_flP, renL_flP, leC_famP, leC_famP0, flP_0, ren_famP, noN_eq, lenP_same, lenP_one, lenP_app, lenP_set, lenP_famP, Nat.le_refl, List.length_set, leC_mpP, leC_mpP1, mapLe_eq, mapLe1_eq, ren_mpP, ren_mpP1, seval]) (by simp only [push_cast, leL_flD, renL_flD, leL_flP, renL_flP, leC_famP, leC_famP0, flP_0, ren_famP, noN_eq, lenP_same, lenP_one, lenP_app, lenP_set, lenP_famP, Nat.le_refl, List.length_set, leC_mpP, leC_mpP1, mapLe_eq, mapLe1_eq, ren_mpP, ren_mpP1, seval]) (by kernel_rfl) (.inl rfl) (by simp only [push_cast, leL_flD, renL_flD, leL_flP, renL_flP, leC_famP, leC_famP0, flP_0, ren_famP, noN_eq, lenP_same, lenP_one, lenP_app, lenP_set, lenP_famP, Nat.le_refl, List.length_set, leC_mpP, leC_mpP1, mapLe_eq, mapLe1_eq, ren_mpP, ren_mpP1, seval]) (by simp only [push_cast, leL_flD, renL_flD, leL_flP, renL_flP, leC_famP, leC_famP0, flP_0, ren_famP, noN_eq, lenP_same, lenP_one, lenP_app, lenP_set, lenP_famP, Nat.le_refl, List.length_set, leC_mpP, leC_mpP1, mapLe_eq, mapLe1_eq, ren_mpP, ren_mpP1, seval]) ?_
   refine rs 2 [] [] (by kernel_rfl) allP_nil ?_
   refine rf [(5, .ptr 0 0), (7, iS most18), (10, .v (.slice none 0 0)), (40, .own 1 0 r3308.length), (41, iS ((r3308.length : Nat) : Int)), (42, iS 0)] [(0, .row 26 [iS 0, iS 0]), (1, .row 62 (fl r3308))] 2 (by kernel_rfl) ?_
   refine wk_id ?_
   refine block_np ?_
   refine loop_sx (S := Int × Int × (List (List Int)) × (List (VArr 65))) (fun a => ([(5, .ptr 0 0), (7, iS most18), (10, .own 1 0 a.2.2.1.length), (40, .own 2 0 a.2.2.2.length), (41, iS a.1), (42, iS a.2.1)], [(0, .row 26 [iS 0, iS 0]), (1, .row 23 (fl a.2.2.1)), (2, .row 62 (fl a.2.2.2))], 3)) h (leSt_m [(0, 0), (2, 1)] [] (by simp only [push_cast, leL_flD, renL_flD, leL_flP, renL_flP, leC_famP, leC_famP0, flP_0, ren_famP, noN_eq, lenP_same, lenP_one, lenP_app, lenP_set, lenP_famP, Nat.le_refl, List.length_set, leC_mpP, leC_mpP1, mapLe_eq, mapLe1_eq, ren_mpP, ren_mpP1, seval]) (by simp only [push_cast, leL_flD, renL_flD, leL_flP, renL_flP, leC_famP, leC_famP0, flP_0, ren_famP, noN_eq, lenP_same, lenP_one, lenP_app, lenP_set, lenP_famP, Nat.le_refl, List.length_set, leC_mpP, leC_mpP1, mapLe_eq, mapLe1_eq, ren_mpP, ren_mpP1, seval]) rfl rfl rfl) ?_
   rintro ⟨t41q11, t42q7, c1q11, c2q7⟩ o4 R4 h hr4 hn4 hx4 ht4
   try dsimp only at h hn4 ⊢
   unfold order_Clocks_l1 at h
   try dsimp only at h
   refine seq_np ?_
   refine reg_f ?_
   refine rs 1 [] [] (by kernel_rfl) allP_nil ?_
   refine rf [(5, .ptr 0 0), (7, iS most18), (10, .own 1 0 c1q11.length), (40, .own 2 0 c2q7.length), (41, iS t41q11), (42, iS t42q7), (43, bS (decide (t42q7 < t41q11)))] [(0, .row 26 [iS 0, iS 0]), (1, .row 23 (fl c1q11)), (2, .row 62 (fl c2q7))] 3 (by kernel_rfl) ?_
   refine wk_id ?_
   refine seq_np ?_
   refine cond_sx h (by kernel_rfl) (fun g3380 h => ?_) (fun g3380 h => ?_)
   ·refine wk_id ?_
    refine seq_np ?_
    refine block_np ?_
    refine chk_sx h (fun g3369 h => ?_)
    refine seq_np ?_
    refine reg_f ?_
    have k3368 : 0 ≤ t42q7 ∧ t42q7 < ((c2q7.length : Nat) : Int) := by first | simpa only [Bool.and_eq_true, decide_eq_true_eq, bne_iff_ne, ne_eq] using g3369 | (simp at g3369 ⊢; omega)
    refine rs 4 [some ⟨.ptr 2 (0 + (t42q7).toNat * 65), [], 3, [2]⟩, some ⟨.agg (Enc.cells (ix c2q7 t42q7)), [], 3, [2]⟩] _ (by kernel_rfl) (allP_cons (ob_ldw c2q7 t42q7 65 (0 + (t42q7).toNat * 65) k3368 rfl (by first | rfl | omega) (Enc.cells (ix c2q7 t42q7)) rfl 3 [2]) (allP_cons (ob_ix_o 2 c2q7.length 0 65 3 t42q7 k3368) allP_nil)) ?_
    refine rf [(5, .ptr 0 0), (7, iS most18), (10, .own 1 0 c1q11.length), (12, .ptr 3 0), (40, .own 2 0 c2q7.length), (41, iS t41q11), (42, iS t42q7)] [(0, .row 26 [iS 0, iS 0]), (1, .row 23 (fl c1q11)), (2, .row 62 (fl c2q7)), (3, .row 62 (Enc.cells (ix c2q7 t42q7)))] 4 (by kernel_rfl) ?_
    refine wk_id ?_
    refine chk_sx h (fun g3376 h => ?_)
    refine reg_f ?_
    have k3375 : 0 ≤ (1 : Int) ∧ (1 : Int) ≤ (IntKind.i64.wrap (most18 + 1)) ∧ (IntKind.i64.wrap (most18 + 1)) ≤ ((65 : Nat) : Int) := by first | simpa only [Bool.and_eq_true, decide_eq_true_eq, bne_iff_ne, ne_eq] using g3376 | (simp at g3376 ⊢; omega)
    refine rs 3 [] [] (by kernel_rfl) allP_nil ?_
    refine run_cutA (n := 65) (ix c2q7 t42q7) (some 49) 3 62 (1 : Int) (IntKind.i64.wrap (most18 + 1)) (by kernel_rfl) k3375 rfl ?_
    obtain ⟨r3377, hr3377, h⟩ := bind_sx h
    refine call_x (SpecW.frz (slices_Clone_int_spec ((ix c2q7 t42q7).cut (1 : Int) (IntKind.i64.wrap (most18 + 1))) r3377 hr3377)) (args := [.sl ((ix c2q7 t42q7).cut (1 : Int) (IntKind.i64.wrap (most18 + 1))).length (fl ((ix c2q7 t42q7).cut (1 : Int) (IntKind.i64.wrap (most18 + 1))))]) (dst := (some 50)) (by kernel_rfl) [(0, .row 26 [iS 0, iS 0]), (1, .row 23 (fl c1q11)), (2, .row 62 (fl c2q7)), (3, .dead)] 4 (by kernel_rfl) [] [] (.sl r3377.length (fl r3377)) [(4, .dead)] (by simp only [push_cast, leL_flD, renL_flD, leL_flP, renL_flP, leC_famP, leC_famP0, flP_0, ren_famP, noN_eq, lenP_same, lenP_one, lenP_app, lenP_set, lenP_famP, Nat.le_refl, List.length_set, leC_mpP, leC_mpP1, mapLe_eq, mapLe1_eq, ren_mpP, ren_mpP1, seval]) (by simp only [push_cast, leL_flD, renL_flD, leL_flP, renL_flP, leC_famP, leC_famP0, flP_0, ren_famP, noN_eq, lenP_same, lenP_one, lenP_app, lenP_set, lenP_famP, Nat.le_refl, List.length_set, leC_mpP, leC_mpP1, mapLe_eq, mapLe1_eq, ren_mpP, ren_mpP1, seval]) (by kernel_rfl) (.inl rfl) (by simp only [push_cast, leL_flD, renL_flD, leL_flP, renL_flP, leC_famP, leC_famP0, flP_0, ren_famP, noN_eq, lenP_same, lenP_one, lenP_app, lenP_set, lenP_famP, Nat.le_refl, List.length_set, leC_mpP, leC_mpP1, mapLe_eq, mapLe1_eq, ren_mpP, ren_mpP1, seval]) (by simp only [push_cast, leL_flD, renL_flD, leL_flP, renL_flP, leC_famP, leC_famP0, flP_0, ren_famP, noN_eq, lenP_same, lenP_one, lenP_app, lenP_set, lenP_famP, Nat.le_refl, List.length_set, leC_mpP, leC_mpP1, mapLe_eq, mapLe1_eq, ren_mpP, ren_mpP1, seval]) ?_
    refine chk_sx h (fun g3379 h => ?_)
    have k3378 : (c1q11 ++ ([r3377] : List (List Int))).length * 24 ≤ 140737488355328 := by first | simpa only [Bool.and_eq_true, decide_eq_true_eq, bne_iff_ne, ne_eq] using g3379 | (simp at g3379 ⊢; omega)
    refine rs 3 [none, some ⟨.own 6 0 (c1q11 ++ ([r3377] : List (List Int))).length, [(6, .row 23 (fl (c1q11 ++ ([r3377] : List (List Int))))), (1, .dead)], 7, [1, 5]⟩] _ (by kernel_rfl) (allP_cons (ob_app (P := Try.prog) c1q11 ([r3377] : List (List Int)) 1 24 rfl (appCells (fl ([r3377] : List (List Int))) 0 (([r3377] : List (List Int)).length * 1)) ([r3377] : List (List Int)).length (app_own ([r3377] : List (List Int)) 1 rfl) rfl (0 + ([r3377] : List (List Int)).length * 1 ≤ (fl ([r3377] : List (List Int))).length) (app_own_le ([r3377] : List (List Int)) 1 rfl) 23 (by kernel_rfl) (by decide) k3378 1 6 [5]) allP_nil) ?_
    refine rf [(5, .ptr 0 0), (7, iS most18), (10, .own 6 0 (c1q11 ++ ([r3377] : List (List Int))).length), (40, .own 2 0 c2q7.length), (41, iS t41q11), (42, iS t42q7)] [(0, .row 26 [iS 0, iS 0]), (1, .dead), (2, .row 62 (fl c2q7)), (3, .dead), (4, .dead), (5, .row 23 (fl ([r3377] : List (List Int)))), (6, .row 23 (fl (c1q11 ++ ([r3377] : List (List Int)))))] 7 (by kernel_rfl) ?_
    refine wk_id ?_
    refine wk_id ?_
    refine reg_f ?_
    refine rs 2 [] [] (by kernel_rfl) allP_nil ?_
    refine rf [(5, .ptr 0 0), (7, iS most18), (10, .own 6 0 (c1q11 ++ ([r3377] : List (List Int))).length), (40, .own 2 0 c2q7.length), (41, iS t41q11), (42, iS (IntKind.i64.wrap (t42q7 + 1)))] [(0, .row 26 [iS 0, iS 0]), (1, .dead), (2, .row 62 (fl c2q7)), (3, .dead), (4, .dead), (5, .row 23 (fl ([r3377] : List (List Int)))), (6, .row 23 (fl (c1q11 ++ ([r3377] : List (List Int)))))] 7 (by kernel_rfl) ?_
    exact hn4 (t41q11, (IntKind.i64.wrap (t42q7 + 1)), (c1q11 ++ ([r3377] : List (List Int))), c2q7) _ _ _ (Option.some.inj h).symm (leSt_m [(0, 0), (1, 6), (2, 2)] [] (by simp only [push_cast, leL_flD, renL_flD, leL_flP, renL_flP, leC_famP, leC_famP0, flP_0, ren_famP, noN_eq, lenP_same, lenP_one, lenP_app, lenP_set, lenP_famP, Nat.le_refl, List.length_set, leC_mpP, leC_mpP1, mapLe_eq, mapLe1_eq, ren_mpP, ren_mpP1, seval]) (by simp only [push_cast, leL_flD, renL_flD, leL_flP, renL_flP, leC_famP, leC_famP0, flP_0, ren_famP, noN_eq, lenP_same, lenP_one, lenP_app, lenP_set, lenP_famP, Nat.le_refl, List.length_set, leC_mpP, leC_mpP1, mapLe_eq, mapLe1_eq, ren_mpP, ren_mpP1, seval]) rfl rfl rfl)
   ·change R4 (.exit 2) _ _ _
    refine ex_cast hx4 (id := 2) ?_
    obtain ⟨r0, h, e0⟩ := map_sx h
    have e1 := hr4 r0 e0.symm
    subst r0
    refine wk_id ?_
    refine wk_id ?_
    refine seq_np ?_
    refine reg_f ?_
    refine rs 4 [] [] (by kernel_rfl) allP_nil ?_
    refine rf [(4, .own 1 0 c1q11.length), (5, .ptr 0 0)] [(0, .row 26 [iS 0, iS 0]), (1, .row 23 (fl c1q11)), (2, .row 62 (fl c2q7))] 3 (by kernel_rfl) ?_
    refine wk_id ?_
    obtain rfl := Option.some.inj h
    refine ret_at (.tup [.own 1 0 c1q11.length, .agg [iS 0, iS 0]]) (by kernel_rfl) ?_
    exact ret_e [(0, 1)] [] (by simp only [push_cast, leL_flD, renL_flD, leL_flP, renL_flP, leC_famP, leC_famP0, flP_0, ren_famP, noN_eq, lenP_same, lenP_one, lenP_app, lenP_set, lenP_famP, Nat.le_refl, List.length_set, leC_mpP, leC_mpP1, mapLe_eq, mapLe1_eq, ren_mpP, ren_mpP1, seval]) (by simp only [push_cast, leL_flD, renL_flD, leL_flP, renL_flP, leC_famP, leC_famP0, flP_0, ren_famP, noN_eq, lenP_same, lenP_one, lenP_app, lenP_set, lenP_famP, Nat.le_refl, List.length_set, leC_mpP, leC_mpP1, mapLe_eq, mapLe1_eq, ren_mpP, ren_mpP1, seval]) rfl rfl rfl

set_option maxRecDepth 100000 in
set_option maxHeartbeats 200000000 in
theorem taskmillref_Ints_spec (xa : (List Int)) (b : (List Int)) (r : Bool) (h : taskmillref_Ints xa b = some r) : SpecW Try.prog 18 [.sl xa.length (fl xa), .sl b.length (fl b)] [] 0 (fun x h n => x = bS r ∧ h = [] ∧ n = 0) := by
 unfold taskmillref_Ints at h
 refine spec_of (draw_ok _) Try.func18 rfl (by decide) rfl (by kernel_rfl) ?_
 refine seq_np ?_
 refine reg_f ?_
 refine rs 1 [] [] (by kernel_rfl) allP_nil ?_
 refine rf [(0, .sl xa.length (fl xa)), (1, .sl b.length (fl b))] [] 0 (by kernel_rfl) ?_
 refine wk_id ?_
 refine seq_np ?_
 refine seq_np ?_
 refine reg_f ?_
 refine rs 5 [] [] (by kernel_rfl) allP_nil ?_
 refine rf [(0, .sl xa.length (fl xa)), (1, .sl b.length (fl b)), (10, bS (((xa.length : Nat) : Int) != ((b.length : Nat) : Int)))] [] 0 (by kernel_rfl) ?_
 refine wk_id ?_
 refine cond_sx h (by kernel_rfl) (fun g3577 h => ?_) (fun g3577 h => ?_)
 ·refine seq_np ?_
  refine reg_f ?_
  refine rs 1 [] [] (by kernel_rfl) allP_nil ?_
  refine rf [(4, bS false)] [] 0 (by kernel_rfl) ?_
  refine wk_id ?_
  obtain rfl := Option.some.inj h
  refine ret_at (bS false) (by kernel_rfl) ?_
  exact ret_e [] [] (by simp only [push_cast, leL_flD, renL_flD, leL_flP, renL_flP, leC_famP, leC_famP0, flP_0, ren_famP, noN_eq, lenP_same, lenP_one, lenP_app, lenP_set, lenP_famP, Nat.le_refl, List.length_set, leC_mpP, leC_mpP1, mapLe_eq, mapLe1_eq, ren_mpP, ren_mpP1, seval]) (by simp only [push_cast, leL_flD, renL_flD, leL_flP, renL_flP, leC_famP, leC_famP0, flP_0, ren_famP, noN_eq, lenP_same, lenP_one, lenP_app, lenP_set, lenP_famP, Nat.le_refl, List.length_set, leC_mpP, leC_mpP1, mapLe_eq, mapLe1_eq, ren_mpP, ren_mpP1, seval]) rfl rfl rfl
 ·refine wk_id ?_
  refine seq_np ?_
  refine seq_np ?_
  refine reg_f ?_
  refine rs 1 [] [] (by kernel_rfl) allP_nil ?_
  refine rf [(0, .sl xa.length (fl xa)), (1, .sl b.length (fl b)), (5, iS 0)] [] 0 (by kernel_rfl) ?_
  refine wk_id ?_
  refine block_np ?_
  refine loop_sx (S := Int) (fun a => ([(0, .sl xa.length (fl xa)), (1, .sl b.length (fl b)), (5, iS a)], [], 0)) h (leSt_m [] [] (by simp only [push_cast, leL_flD, renL_flD, leL_flP, renL_flP, leC_famP, leC_famP0, flP_0, ren_famP, noN_eq, lenP_same, lenP_one, lenP_app, lenP_set, lenP_famP, Nat.le_refl, List.length_set, leC_mpP, leC_mpP1, mapLe_eq, mapLe1_eq, ren_mpP, ren_mpP1, seval]) (by simp only [push_cast, leL_flD, renL_flD, leL_flP, renL_flP, leC_famP, leC_famP0, flP_0, ren_famP, noN_eq, lenP_same, lenP_one, lenP_app, lenP_set, lenP_famP, Nat.le_refl, List.length_set, leC_mpP, leC_mpP1, mapLe_eq, mapLe1_eq, ren_mpP, ren_mpP1, seval]) rfl rfl rfl) ?_
  rintro i7 o2 R2 h hr2 hn2 hx2 ht2
  try dsimp only at h hn2 ⊢
  unfold taskmillref_Ints_l1 at h
  try dsimp only at h
  refine seq_np ?_
  refine seq_np ?_
  refine reg_f ?_
  refine rs 4 [] [] (by kernel_rfl) allP_nil ?_
  refine rf [(0, .sl xa.length (fl xa)), (1, .sl b.length (fl b)), (5, iS i7), (14, bS (decide (i7 < ((xa.length : Nat) : Int))))] [] 0 (by kernel_rfl) ?_
  refine wk_id ?_
  refine cond_sx h (by kernel_rfl) (fun g3576 h => ?_) (fun g3576 h => ?_)
  ·refine wk_id ?_
   refine seq_np ?_
   refine block_np ?_
   refine chk_sx h (fun g3572 h => ?_)
   refine chk_sx h (fun g3574 h => ?_)
   refine seq_np ?_
   refine reg_t ?_
   have k3571 : 0 ≤ i7 ∧ i7 < ((xa.length : Nat) : Int) := by first | simpa only [Bool.and_eq_true, decide_eq_true_eq, bne_iff_ne, ne_eq] using g3572 | (simp at g3572 ⊢; omega)
   have k3573 : 0 ≤ i7 ∧ i7 < ((b.length : Nat) : Int) := by first | simpa only [Bool.and_eq_true, decide_eq_true_eq, bne_iff_ne, ne_eq] using g3574 | (simp at g3574 ⊢; omega)
   refine rs 9 [none, none, some ⟨.iptr (fl xa) ((i7).toNat * 1), [], 2, []⟩, some ⟨iS (ix xa i7), [], 3, []⟩, none, none, some ⟨.iptr (fl b) ((i7).toNat * 1), [], 6, []⟩, some ⟨iS (ix b i7), [], 7, []⟩] _ (by kernel_rfl) (allP_cons (ob_ld b i7 1 0 ((i7).toNat * 1) k3573 rfl (by decide) (by first | rfl | omega) (dflS Try.prog 3) (iS (ix b i7)) rfl 7 []) (allP_cons (ob_ix_l b 1 6 i7 k3573) (allP_cons (ob_ld xa i7 1 0 ((i7).toNat * 1) k3571 rfl (by decide) (by first | rfl | omega) (dflS Try.prog 3) (iS (ix xa i7)) rfl 3 []) (allP_cons (ob_ix_l xa 1 2 i7 k3571) allP_nil)))) ?_
   refine rt [(0, .sl xa.length (fl xa)), (1, .sl b.length (fl b)), (5, iS i7), (25, bS ((ix xa i7) != (ix b i7)))] [] 9 follows (by kernel_rfl) ?_
   refine wk_id ?_
   refine cond_sx h (by kernel_rfl) (fun g3575 h => ?_) (fun g3575 h => ?_)
   ·refine seq_np ?_
    refine reg_f ?_
    refine rs 1 [] [] (by kernel_rfl) allP_nil ?_
    refine rf [(4, bS false)] [] 9 (by kernel_rfl) ?_
    refine wk_id ?_
    refine rt_cast ht2 ?_
    obtain ⟨r0, h, e0⟩ := map_sx h
    have e1 := hr2 r0 e0.symm
    subst r0
    obtain rfl := Option.some.inj h
    refine ret_at (bS false) (by kernel_rfl) ?_
    exact ret_e [] [] (by simp only [push_cast, leL_flD, renL_flD, leL_flP, renL_flP, leC_famP, leC_famP0, flP_0, ren_famP, noN_eq, lenP_same, lenP_one, lenP_app, lenP_set, lenP_famP, Nat.le_refl, List.length_set, leC_mpP, leC_mpP1, mapLe_eq, mapLe1_eq, ren_mpP, ren_mpP1, seval]) (by simp only [push_cast, leL_flD, renL_flD, leL_flP, renL_flP, leC_famP, leC_famP0, flP_0, ren_famP, noN_eq, lenP_same, lenP_one, lenP_app, lenP_set, lenP_famP, Nat.le_refl, List.length_set, leC_mpP, leC_mpP1, mapLe_eq, mapLe1_eq, ren_mpP, ren_mpP1, seval]) rfl rfl rfl
   ·refine wk_id ?_
    refine wk_id ?_
    refine reg_f ?_
    refine rs 3 [] [] (by kernel_rfl) allP_nil ?_
    refine rf [(0, .sl xa.length (fl xa)), (1, .sl b.length (fl b)), (5, iS (IntKind.i64.wrap (i7 + 1)))] [] 9 (by kernel_rfl) ?_
    exact hn2 ((IntKind.i64.wrap (i7 + 1))) _ _ _ (Option.some.inj h).symm (leSt_m [] [] (by simp only [push_cast, leL_flD, renL_flD, leL_flP, renL_flP, leC_famP, leC_famP0, flP_0, ren_famP, noN_eq, lenP_same, lenP_one, lenP_app, lenP_set, lenP_famP, Nat.le_refl, List.length_set, leC_mpP, leC_mpP1, mapLe_eq, mapLe1_eq, ren_mpP, ren_mpP1, seval]) (by simp only [push_cast, leL_flD, renL_flD, leL_flP, renL_flP, leC_famP, leC_famP0, flP_0, ren_famP, noN_eq, lenP_same, lenP_one, lenP_app, lenP_set, lenP_famP, Nat.le_refl, List.length_set, leC_mpP, leC_mpP1, mapLe_eq, mapLe1_eq, ren_mpP, ren_mpP1, seval]) rfl rfl rfl)
  ·change R2 (.exit 0) _ _ _
   refine ex_cast hx2 (id := 0) ?_
   obtain ⟨r0, h, e0⟩ := map_sx h
   have e1 := hr2 r0 e0.symm
   subst r0
   refine wk_id ?_
   refine wk_id ?_
   refine seq_np ?_
   refine reg_f ?_
   refine rs 1 [] [] (by kernel_rfl) allP_nil ?_
   refine rf [(4, bS true)] [] 0 (by kernel_rfl) ?_
   refine wk_id ?_
   obtain rfl := Option.some.inj h
   refine ret_at (bS true) (by kernel_rfl) ?_
   exact ret_e [] [] (by simp only [push_cast, leL_flD, renL_flD, leL_flP, renL_flP, leC_famP, leC_famP0, flP_0, ren_famP, noN_eq, lenP_same, lenP_one, lenP_app, lenP_set, lenP_famP, Nat.le_refl, List.length_set, leC_mpP, leC_mpP1, mapLe_eq, mapLe1_eq, ren_mpP, ren_mpP1, seval]) (by simp only [push_cast, leL_flD, renL_flD, leL_flP, renL_flP, leC_famP, leC_famP0, flP_0, ren_famP, noN_eq, lenP_same, lenP_one, lenP_app, lenP_set, lenP_famP, Nat.le_refl, List.length_set, leC_mpP, leC_mpP1, mapLe_eq, mapLe1_eq, ren_mpP, ren_mpP1, seval]) rfl rfl rfl

set_option maxRecDepth 100000 in
set_option maxHeartbeats 200000000 in
theorem taskmilllaw_OrderSwaps_1_spec (e : GEvent) (r : Bool) (h : taskmilllaw_OrderSwaps_1 e = some r) : SpecW Try.prog 21 [.agg (Enc.cells e)] [] 0 (fun x h n => x = bS r ∧ h = [] ∧ n = 0) := by
 unfold taskmilllaw_OrderSwaps_1 at h
 refine spec_of (draw_ok _) Try.func21 rfl (by decide) rfl (by kernel_rfl) ?_
 refine seq_np ?_
 refine reg_f ?_
 refine rs 2 [] [] (by kernel_rfl) allP_nil ?_
 refine rf [(1, .ptr 0 0)] [(0, .row 31 (Enc.cells e))] 1 (by kernel_rfl) ?_
 refine wk_id ?_
 refine seq_cut (A := Unit) (fun _ => ([(2, bS ((e.Op == 8) || ((e.Op == 12) || (e.Op == 13))))], [(0, .row 31 (Enc.cells e))], 1)) (fun _ => True) (fun K12483 hK12483 => ?_) (fun _ _ => ?_)
 ·refine reg_f ?_
  refine rs 4 [] [] (by kernel_rfl) allP_nil ?_
  refine run_split 6 (e.Op == 8) (.inl (by kernel_rfl)) (fun g12484 => ?_) (fun g12484 => ?_)
  ·refine rs 10 [] [] (by kernel_rfl) allP_nil ?_
   refine rf [(2, bS true)] [(0, .row 31 (Enc.cells e))] 1 (by kernel_rfl) ?_
   exact hK12483 () _ _ _ trivial (leSt_m [(0, 0)] [] (by (try simp only [g12484]) <;> simp only [push_cast, leL_flD, renL_flD, leL_flP, renL_flP, leC_famP, leC_famP0, flP_0, ren_famP, noN_eq, lenP_same, lenP_one, lenP_app, lenP_set, lenP_famP, Nat.le_refl, List.length_set, leC_mpP, leC_mpP1, mapLe_eq, mapLe1_eq, ren_mpP, ren_mpP1, seval]) (by (try simp only [g12484]) <;> simp only [push_cast, leL_flD, renL_flD, leL_flP, renL_flP, leC_famP, leC_famP0, flP_0, ren_famP, noN_eq, lenP_same, lenP_one, lenP_app, lenP_set, lenP_famP, Nat.le_refl, List.length_set, leC_mpP, leC_mpP1, mapLe_eq, mapLe1_eq, ren_mpP, ren_mpP1, seval]) rfl rfl rfl)
  ·refine rs 5 [] [] (by kernel_rfl) allP_nil ?_
   refine run_split 11 (e.Op == 12) (.inl (by kernel_rfl)) (fun g12485 => ?_) (fun g12485 => ?_)
   ·refine rs 5 [] [] (by kernel_rfl) allP_nil ?_
    refine rf [(2, bS true)] [(0, .row 31 (Enc.cells e))] 1 (by kernel_rfl) ?_
    exact hK12483 () _ _ _ trivial (leSt_m [(0, 0)] [] (by first | ((try simp only [g12484, g12485]) <;> simp only [push_cast, leL_flD, renL_flD, leL_flP, renL_flP, leC_famP, leC_famP0, flP_0, ren_famP, noN_eq, lenP_same, lenP_one, lenP_app, lenP_set, lenP_famP, Nat.le_refl, List.length_set, leC_mpP, leC_mpP1, mapLe_eq, mapLe1_eq, ren_mpP, ren_mpP1, seval]; done) | ((try simp only [g12484]); (try simp only [g12485]); simp only [push_cast, leL_flD, renL_flD, leL_flP, renL_flP, leC_famP, leC_famP0, flP_0, ren_famP, noN_eq, lenP_same, lenP_one, lenP_app, lenP_set, lenP_famP, Nat.le_refl, List.length_set, leC_mpP, leC_mpP1, mapLe_eq, mapLe1_eq, ren_mpP, ren_mpP1, seval]; done) | (exfalso; clear h; simp_all; done)) (by first | ((try simp only [g12484, g12485]) <;> simp only [push_cast, leL_flD, renL_flD, leL_flP, renL_flP, leC_famP, leC_famP0, flP_0, ren_famP, noN_eq, lenP_same, lenP_one, lenP_app, lenP_set, lenP_famP, Nat.le_refl, List.length_set, leC_mpP, leC_mpP1, mapLe_eq, mapLe1_eq, ren_mpP, ren_mpP1, seval]; done) | ((try simp only [g12484]); (try simp only [g12485]); simp only [push_cast, leL_flD, renL_flD, leL_flP, renL_flP, leC_famP, leC_famP0, flP_0, ren_famP, noN_eq, lenP_same, lenP_one, lenP_app, lenP_set, lenP_famP, Nat.le_refl, List.length_set, leC_mpP, leC_mpP1, mapLe_eq, mapLe1_eq, ren_mpP, ren_mpP1, seval]; done) | (exfalso; clear h; simp_all; done)) rfl rfl rfl)
   ·refine rs 5 [] [] (by kernel_rfl) allP_nil ?_
    refine rf [(2, bS (e.Op == 13))] [(0, .row 31 (Enc.cells e))] 1 (by kernel_rfl) ?_
    exact hK12483 () _ _ _ trivial (leSt_m [(0, 0)] [] (by first | ((try simp only [g12484, g12485]) <;> simp only [push_cast, leL_flD, renL_flD, leL_flP, renL_flP, leC_famP, leC_famP0, flP_0, ren_famP, noN_eq, lenP_same, lenP_one, lenP_app, lenP_set, lenP_famP, Nat.le_refl, List.length_set, leC_mpP, leC_mpP1, mapLe_eq, mapLe1_eq, ren_mpP, ren_mpP1, seval]; done) | ((try simp only [g12484]); (try simp only [g12485]); simp only [push_cast, leL_flD, renL_flD, leL_flP, renL_flP, leC_famP, leC_famP0, flP_0, ren_famP, noN_eq, lenP_same, lenP_one, lenP_app, lenP_set, lenP_famP, Nat.le_refl, List.length_set, leC_mpP, leC_mpP1, mapLe_eq, mapLe1_eq, ren_mpP, ren_mpP1, seval]; done) | (exfalso; clear h; simp_all; done)) (by first | ((try simp only [g12484, g12485]) <;> simp only [push_cast, leL_flD, renL_flD, leL_flP, renL_flP, leC_famP, leC_famP0, flP_0, ren_famP, noN_eq, lenP_same, lenP_one, lenP_app, lenP_set, lenP_famP, Nat.le_refl, List.length_set, leC_mpP, leC_mpP1, mapLe_eq, mapLe1_eq, ren_mpP, ren_mpP1, seval]; done) | ((try simp only [g12484]); (try simp only [g12485]); simp only [push_cast, leL_flD, renL_flD, leL_flP, renL_flP, leC_famP, leC_famP0, flP_0, ren_famP, noN_eq, lenP_same, lenP_one, lenP_app, lenP_set, lenP_famP, Nat.le_refl, List.length_set, leC_mpP, leC_mpP1, mapLe_eq, mapLe1_eq, ren_mpP, ren_mpP1, seval]; done) | (exfalso; clear h; simp_all; done)) rfl rfl rfl)
 ·dsimp only
  obtain rfl := Option.some.inj h
  refine ret_at (bS ((e.Op == 8) || ((e.Op == 12) || (e.Op == 13)))) (by kernel_rfl) ?_
  exact ret_e [] [] (by simp only [push_cast, leL_flD, renL_flD, leL_flP, renL_flP, leC_famP, leC_famP0, flP_0, ren_famP, noN_eq, lenP_same, lenP_one, lenP_app, lenP_set, lenP_famP, Nat.le_refl, List.length_set, leC_mpP, leC_mpP1, mapLe_eq, mapLe1_eq, ren_mpP, ren_mpP1, seval]) (by simp only [push_cast, leL_flD, renL_flD, leL_flP, renL_flP, leC_famP, leC_famP0, flP_0, ren_famP, noN_eq, lenP_same, lenP_one, lenP_app, lenP_set, lenP_famP, Nat.le_refl, List.length_set, leC_mpP, leC_mpP1, mapLe_eq, mapLe1_eq, ren_mpP, ren_mpP1, seval]) rfl rfl rfl

set_option maxRecDepth 100000 in
set_option maxHeartbeats 200000000 in
theorem taskmillref_Lists_spec (xa : (List (List Int))) (b : (List (List Int))) (r : Bool) (h : taskmillref_Lists xa b = some r) : SpecW Try.prog 22 [.sl xa.length (fl xa), .sl b.length (fl b)] [] 0 (fun x h n => x = bS r ∧ h = [] ∧ n = 0) := by
 unfold taskmillref_Lists at h
 refine spec_of (draw_ok _) Try.func22 rfl (by decide) rfl (by kernel_rfl) ?_
 refine seq_np ?_
 refine reg_f ?_
 refine rs 1 [] [] (by kernel_rfl) allP_nil ?_
 refine rf [(0, .sl xa.length (fl xa)), (1, .sl b.length (fl b))] [] 0 (by kernel_rfl) ?_
 refine wk_id ?_
 refine seq_np ?_
 refine seq_np ?_
 refine reg_f ?_
 refine rs 5 [] [] (by kernel_rfl) allP_nil ?_
 refine rf [(0, .sl xa.length (fl xa)), (1, .sl b.length (fl b)), (10, bS (((xa.length : Nat) : Int) != ((b.length : Nat) : Int)))] [] 0 (by kernel_rfl) ?_
 refine wk_id ?_
 refine cond_sx h (by kernel_rfl) (fun g12619 h => ?_) (fun g12619 h => ?_)
 ·refine seq_np ?_
  refine reg_f ?_
  refine rs 1 [] [] (by kernel_rfl) allP_nil ?_
  refine rf [(4, bS false)] [] 0 (by kernel_rfl) ?_
  refine wk_id ?_
  obtain rfl := Option.some.inj h
  refine ret_at (bS false) (by kernel_rfl) ?_
  exact ret_e [] [] (by simp only [push_cast, leL_flD, renL_flD, leL_flP, renL_flP, leC_famP, leC_famP0, flP_0, ren_famP, noN_eq, lenP_same, lenP_one, lenP_app, lenP_set, lenP_famP, Nat.le_refl, List.length_set, leC_mpP, leC_mpP1, mapLe_eq, mapLe1_eq, ren_mpP, ren_mpP1, seval]) (by simp only [push_cast, leL_flD, renL_flD, leL_flP, renL_flP, leC_famP, leC_famP0, flP_0, ren_famP, noN_eq, lenP_same, lenP_one, lenP_app, lenP_set, lenP_famP, Nat.le_refl, List.length_set, leC_mpP, leC_mpP1, mapLe_eq, mapLe1_eq, ren_mpP, ren_mpP1, seval]) rfl rfl rfl
 ·refine wk_id ?_
  refine seq_np ?_
  refine seq_np ?_
  refine reg_f ?_
  refine rs 1 [] [] (by kernel_rfl) allP_nil ?_
  refine rf [(0, .sl xa.length (fl xa)), (1, .sl b.length (fl b)), (5, iS 0)] [] 0 (by kernel_rfl) ?_
  refine wk_id ?_
  refine block_np ?_
  refine loop_sx (S := Int) (fun a => ([(0, .sl xa.length (fl xa)), (1, .sl b.length (fl b)), (5, iS a)], [], 0)) h (leSt_m [] [] (by simp only [push_cast, leL_flD, renL_flD, leL_flP, renL_flP, leC_famP, leC_famP0, flP_0, ren_famP, noN_eq, lenP_same, lenP_one, lenP_app, lenP_set, lenP_famP, Nat.le_refl, List.length_set, leC_mpP, leC_mpP1, mapLe_eq, mapLe1_eq, ren_mpP, ren_mpP1, seval]) (by simp only [push_cast, leL_flD, renL_flD, leL_flP, renL_flP, leC_famP, leC_famP0, flP_0, ren_famP, noN_eq, lenP_same, lenP_one, lenP_app, lenP_set, lenP_famP, Nat.le_refl, List.length_set, leC_mpP, leC_mpP1, mapLe_eq, mapLe1_eq, ren_mpP, ren_mpP1, seval]) rfl rfl rfl) ?_
  rintro i7 o2 R2 h hr2 hn2 hx2 ht2
  try dsimp only at h hn2 ⊢
  unfold taskmillref_Lists_l1 at h
  try dsimp only at h
  refine seq_np ?_
  refine seq_np ?_
  refine reg_f ?_
  refine rs 4 [] [] (by kernel_rfl) allP_nil ?_
  refine rf [(0, .sl xa.length (fl xa)), (1, .sl b.length (fl b)), (5, iS i7), (14, bS (decide (i7 < ((xa.length : Nat) : Int))))] [] 0 (by kernel_rfl) ?_
  refine wk_id ?_
  refine cond_sx h (by kernel_rfl) (fun g12618 h => ?_) (fun g12618 h => ?_)
  ·refine wk_id ?_
   refine seq_np ?_
   refine block_np ?_
   refine chk_sx h (fun g12613 h => ?_)
   refine chk_sx h (fun g12615 h => ?_)
   refine seq_np ?_
   refine reg_t ?_
   have k12612 : 0 ≤ i7 ∧ i7 < ((xa.length : Nat) : Int) := by first | simpa only [Bool.and_eq_true, decide_eq_true_eq, bne_iff_ne, ne_eq] using g12613 | (simp at g12613 ⊢; omega)
   have k12614 : 0 ≤ i7 ∧ i7 < ((b.length : Nat) : Int) := by first | simpa only [Bool.and_eq_true, decide_eq_true_eq, bne_iff_ne, ne_eq] using g12615 | (simp at g12615 ⊢; omega)
   refine rs 8 [none, none, some ⟨.iptr (fl xa) ((i7).toNat * 1), [], 2, []⟩, some ⟨.sl (ix xa i7).length (fl (ix xa i7)), [], 3, []⟩, none, none, some ⟨.iptr (fl b) ((i7).toNat * 1), [], 6, []⟩, some ⟨.sl (ix b i7).length (fl (ix b i7)), [], 7, []⟩] _ (by kernel_rfl) (allP_cons (ob_ld b i7 1 0 ((i7).toNat * 1) k12614 rfl (by decide) (by first | rfl | omega) (dflS Try.prog 23) (.sl (ix b i7).length (fl (ix b i7))) rfl 7 []) (allP_cons (ob_ix_l b 1 6 i7 k12614) (allP_cons (ob_ld xa i7 1 0 ((i7).toNat * 1) k12612 rfl (by decide) (by first | rfl | omega) (dflS Try.prog 23) (.sl (ix xa i7).length (fl (ix xa i7))) rfl 3 []) (allP_cons (ob_ix_l xa 1 2 i7 k12612) allP_nil)))) ?_
   obtain ⟨r12616, hr12616, h⟩ := bind_sx h
   refine run_call 18 [.sl (ix xa i7).length (fl (ix xa i7)), .sl (ix b i7).length (fl (ix b i7))] (some 25) (by kernel_rfl) ?_
   refine callE_0 (taskmillref_Ints_spec (ix xa i7) (ix b i7) r12616 hr12616) (by simp only [push_cast, leL_flD, renL_flD, leL_flP, renL_flP, leC_famP, leC_famP0, flP_0, ren_famP, noN_eq, lenP_same, lenP_one, lenP_app, lenP_set, lenP_famP, Nat.le_refl, List.length_set, leC_mpP, leC_mpP1, mapLe_eq, mapLe1_eq, ren_mpP, ren_mpP1, seval]) (by simp only [push_cast, leL_flD, renL_flD, leL_flP, renL_flP, leC_famP, leC_famP0, flP_0, ren_famP, noN_eq, lenP_same, lenP_one, lenP_app, lenP_set, lenP_famP, Nat.le_refl, List.length_set, leC_mpP, leC_mpP1, mapLe_eq, mapLe1_eq, ren_mpP, ren_mpP1, seval]) ?_
   refine back_t ?_
   refine rs 1 [] [] (by kernel_rfl) allP_nil ?_
   refine rt [(0, .sl xa.length (fl xa)), (1, .sl b.length (fl b)), (5, iS i7), (26, bS (!r12616))] [] 10 follows (by kernel_rfl) ?_
   refine wk_id ?_
   refine cond_sx h (by kernel_rfl) (fun g12617 h => ?_) (fun g12617 h => ?_)
   ·refine seq_np ?_
    refine reg_f ?_
    refine rs 1 [] [] (by kernel_rfl) allP_nil ?_
    refine rf [(4, bS false)] [] 10 (by kernel_rfl) ?_
    refine wk_id ?_
    refine rt_cast ht2 ?_
    obtain ⟨r0, h, e0⟩ := map_sx h
    have e1 := hr2 r0 e0.symm
    subst r0
    obtain rfl := Option.some.inj h
    refine ret_at (bS false) (by kernel_rfl) ?_
    exact ret_e [] [] (by simp only [push_cast, leL_flD, renL_flD, leL_flP, renL_flP, leC_famP, leC_famP0, flP_0, ren_famP, noN_eq, lenP_same, lenP_one, lenP_app, lenP_set, lenP_famP, Nat.le_refl, List.length_set, leC_mpP, leC_mpP1, mapLe_eq, mapLe1_eq, ren_mpP, ren_mpP1, seval]) (by simp only [push_cast, leL_flD, renL_flD, leL_flP, renL_flP, leC_famP, leC_famP0, flP_0, ren_famP, noN_eq, lenP_same, lenP_one, lenP_app, lenP_set, lenP_famP, Nat.le_refl, List.length_set, leC_mpP, leC_mpP1, mapLe_eq, mapLe1_eq, ren_mpP, ren_mpP1, seval]) rfl rfl rfl
   ·refine wk_id ?_
    refine wk_id ?_
    refine reg_f ?_
    refine rs 3 [] [] (by kernel_rfl) allP_nil ?_
    refine rf [(0, .sl xa.length (fl xa)), (1, .sl b.length (fl b)), (5, iS (IntKind.i64.wrap (i7 + 1)))] [] 10 (by kernel_rfl) ?_
    exact hn2 ((IntKind.i64.wrap (i7 + 1))) _ _ _ (Option.some.inj h).symm (leSt_m [] [] (by simp only [push_cast, leL_flD, renL_flD, leL_flP, renL_flP, leC_famP, leC_famP0, flP_0, ren_famP, noN_eq, lenP_same, lenP_one, lenP_app, lenP_set, lenP_famP, Nat.le_refl, List.length_set, leC_mpP, leC_mpP1, mapLe_eq, mapLe1_eq, ren_mpP, ren_mpP1, seval]) (by simp only [push_cast, leL_flD, renL_flD, leL_flP, renL_flP, leC_famP, leC_famP0, flP_0, ren_famP, noN_eq, lenP_same, lenP_one, lenP_app, lenP_set, lenP_famP, Nat.le_refl, List.length_set, leC_mpP, leC_mpP1, mapLe_eq, mapLe1_eq, ren_mpP, ren_mpP1, seval]) rfl rfl rfl)
  ·change R2 (.exit 0) _ _ _
   refine ex_cast hx2 (id := 0) ?_
   obtain ⟨r0, h, e0⟩ := map_sx h
   have e1 := hr2 r0 e0.symm
   subst r0
   refine wk_id ?_
   refine wk_id ?_
   refine seq_np ?_
   refine reg_f ?_
   refine rs 1 [] [] (by kernel_rfl) allP_nil ?_
   refine rf [(4, bS true)] [] 0 (by kernel_rfl) ?_
   refine wk_id ?_
   obtain rfl := Option.some.inj h
   refine ret_at (bS true) (by kernel_rfl) ?_
   exact ret_e [] [] (by simp only [push_cast, leL_flD, renL_flD, leL_flP, renL_flP, leC_famP, leC_famP0, flP_0, ren_famP, noN_eq, lenP_same, lenP_one, lenP_app, lenP_set, lenP_famP, Nat.le_refl, List.length_set, leC_mpP, leC_mpP1, mapLe_eq, mapLe1_eq, ren_mpP, ren_mpP1, seval]) (by simp only [push_cast, leL_flD, renL_flD, leL_flP, renL_flP, leC_famP, leC_famP0, flP_0, ren_famP, noN_eq, lenP_same, lenP_one, lenP_app, lenP_set, lenP_famP, Nat.le_refl, List.length_set, leC_mpP, leC_mpP1, mapLe_eq, mapLe1_eq, ren_mpP, ren_mpP1, seval]) rfl rfl rfl

set_option maxRecDepth 100000 in
set_option maxHeartbeats 200000000 in
theorem taskmilllaw_OrderSwaps_spec (t : (List GEvent)) (pipes : (List Int)) (i : Int) (r : Bool) (h : taskmilllaw_OrderSwaps t pipes i = some r) : SpecW Try.prog 6 [.sl t.length (fl t), .sl pipes.length (fl pipes), iS i] [] 0 (fun x h n => x = bS r ∧ h = [] ∧ n = 0) := by
 unfold taskmilllaw_OrderSwaps at h
 refine spec_of (draw_ok _) Try.func6 rfl (by decide) rfl (by kernel_rfl) ?_
 refine seq_np ?_
 refine reg_f ?_
 refine rs 1 [] [] (by kernel_rfl) allP_nil ?_
 refine rf [(0, .sl t.length (fl t)), (1, .sl pipes.length (fl pipes)), (2, iS i)] [] 0 (by kernel_rfl) ?_
 refine wk_id ?_
 refine seq_np ?_
 refine seq_np ?_
 refine reg_f ?_
 obtain ⟨r12624, hr12624, h⟩ := bind_sx h
 refine run_call 10 [] (some 15) (by kernel_rfl) ?_
 refine call_0 (taskmilllaw_orderBegun_spec r12624 hr12624) (by simp only [push_cast, leL_flD, renL_flD, leL_flP, renL_flP, leC_famP, leC_famP0, flP_0, ren_famP, noN_eq, lenP_same, lenP_one, lenP_app, lenP_set, lenP_famP, Nat.le_refl, List.length_set, leC_mpP, leC_mpP1, mapLe_eq, mapLe1_eq, ren_mpP, ren_mpP1, seval]) (by simp only [push_cast, leL_flD, renL_flD, leL_flP, renL_flP, leC_famP, leC_famP0, flP_0, ren_famP, noN_eq, lenP_same, lenP_one, lenP_app, lenP_set, lenP_famP, Nat.le_refl, List.length_set, leC_mpP, leC_mpP1, mapLe_eq, mapLe1_eq, ren_mpP, ren_mpP1, seval]) ?_
 refine back_f ?_
 refine rs 1 [] [] (by kernel_rfl) allP_nil ?_
 refine rf [(0, .sl t.length (fl t)), (1, .sl pipes.length (fl pipes)), (2, iS i), (16, bS (!r12624))] [] 0 (by kernel_rfl) ?_
 refine wk_id ?_
 refine cond_sx h (by kernel_rfl) (fun g12716 h => ?_) (fun g12716 h => ?_)
 ·refine seq_np ?_
  refine reg_f ?_
  refine rs 1 [] [] (by kernel_rfl) allP_nil ?_
  refine rf [(6, bS false)] [] 0 (by kernel_rfl) ?_
  refine wk_id ?_
  obtain rfl := Option.some.inj h
  refine ret_at (bS false) (by kernel_rfl) ?_
  exact ret_e [] [] (by simp only [push_cast, leL_flD, renL_flD, leL_flP, renL_flP, leC_famP, leC_famP0, flP_0, ren_famP, noN_eq, lenP_same, lenP_one, lenP_app, lenP_set, lenP_famP, Nat.le_refl, List.length_set, leC_mpP, leC_mpP1, mapLe_eq, mapLe1_eq, ren_mpP, ren_mpP1, seval]) (by simp only [push_cast, leL_flD, renL_flD, leL_flP, renL_flP, leC_famP, leC_famP0, flP_0, ren_famP, noN_eq, lenP_same, lenP_one, lenP_app, lenP_set, lenP_famP, Nat.le_refl, List.length_set, leC_mpP, leC_mpP1, mapLe_eq, mapLe1_eq, ren_mpP, ren_mpP1, seval]) rfl rfl rfl
 ·refine wk_id ?_
  refine seq_np ?_
  refine seq_cut (A := Bool) (fun a => ([(0, .sl t.length (fl t)), (1, .sl pipes.length (fl pipes)), (2, iS i), (42, bS a)], [], 0)) (fun a => (taskmilllaw_OrderSwaps_j2 t pipes i a) = some r) (fun K12639 hK12639 => ?_) ?_
  ·refine reg_f ?_
   refine rs 4 [] [] (by kernel_rfl) allP_nil ?_
   refine run_br h 20 (.inl (by kernel_rfl)) (fun g12640 h => ?_) (fun g12640 h => ?_)
   ·refine rs 22 [] [] (by kernel_rfl) allP_nil ?_
    refine rf [(0, .sl t.length (fl t)), (1, .sl pipes.length (fl pipes)), (2, iS i), (42, bS true)] [] 0 (by kernel_rfl) ?_
    exact hK12639 (true) _ _ _ h (leSt_m [] [] (by (try simp only [g12640]) <;> simp only [push_cast, leL_flD, renL_flD, leL_flP, renL_flP, leC_famP, leC_famP0, flP_0, ren_famP, noN_eq, lenP_same, lenP_one, lenP_app, lenP_set, lenP_famP, Nat.le_refl, List.length_set, leC_mpP, leC_mpP1, mapLe_eq, mapLe1_eq, ren_mpP, ren_mpP1, seval]) (by (try simp only [g12640]) <;> simp only [push_cast, leL_flD, renL_flD, leL_flP, renL_flP, leC_famP, leC_famP0, flP_0, ren_famP, noN_eq, lenP_same, lenP_one, lenP_app, lenP_set, lenP_famP, Nat.le_refl, List.length_set, leC_mpP, leC_mpP1, mapLe_eq, mapLe1_eq, ren_mpP, ren_mpP1, seval]) rfl rfl rfl)
   ·refine rs 5 [] [] (by kernel_rfl) allP_nil ?_
    refine run_br h 25 (.inl (by kernel_rfl)) (fun g12641 h => ?_) (fun g12641 h => ?_)
    ·refine rs 17 [] [] (by kernel_rfl) allP_nil ?_
     refine rf [(0, .sl t.length (fl t)), (1, .sl pipes.length (fl pipes)), (2, iS i), (42, bS true)] [] 0 (by kernel_rfl) ?_
     exact hK12639 (true) _ _ _ h (leSt_m [] [] (by first | ((try simp only [g12640, g12641]) <;> simp only [push_cast, leL_flD, renL_flD, leL_flP, renL_flP, leC_famP, leC_famP0, flP_0, ren_famP, noN_eq, lenP_same, lenP_one, lenP_app, lenP_set, lenP_famP, Nat.le_refl, List.length_set, leC_mpP, leC_mpP1, mapLe_eq, mapLe1_eq, ren_mpP, ren_mpP1, seval]; done) | ((try simp only [g12640]); (try simp only [g12641]); simp only [push_cast, leL_flD, renL_flD, leL_flP, renL_flP, leC_famP, leC_famP0, flP_0, ren_famP, noN_eq, lenP_same, lenP_one, lenP_app, lenP_set, lenP_famP, Nat.le_refl, List.length_set, leC_mpP, leC_mpP1, mapLe_eq, mapLe1_eq, ren_mpP, ren_mpP1, seval]; done) | (exfalso; clear h; simp_all; done)) (by first | ((try simp only [g12640, g12641]) <;> simp only [push_cast, leL_flD, renL_flD, leL_flP, renL_flP, leC_famP, leC_famP0, flP_0, ren_famP, noN_eq, lenP_same, lenP_one, lenP_app, lenP_set, lenP_famP, Nat.le_refl, List.length_set, leC_mpP, leC_mpP1, mapLe_eq, mapLe1_eq, ren_mpP, ren_mpP1, seval]; done) | ((try simp only [g12640]); (try simp only [g12641]); simp only [push_cast, leL_flD, renL_flD, leL_flP, renL_flP, leC_famP, leC_famP0, flP_0, ren_famP, noN_eq, lenP_same, lenP_one, lenP_app, lenP_set, lenP_famP, Nat.le_refl, List.length_set, leC_mpP, leC_mpP1, mapLe_eq, mapLe1_eq, ren_mpP, ren_mpP1, seval]; done) | (exfalso; clear h; simp_all; done)) rfl rfl rfl)
    ·refine rs 2 [] [] (by kernel_rfl) allP_nil ?_
     obtain ⟨r12642, hr12642, h⟩ := bind_sx h
     refine run_call 11 [.sl t.length (fl t), .sl pipes.length (fl pipes)] (some 28) (by kernel_rfl) ?_
     refine call_0 (taskmillref_TraceFault_spec t pipes r12642 hr12642) (by simp only [push_cast, leL_flD, renL_flD, leL_flP, renL_flP, leC_famP, leC_famP0, flP_0, ren_famP, noN_eq, lenP_same, lenP_one, lenP_app, lenP_set, lenP_famP, Nat.le_refl, List.length_set, leC_mpP, leC_mpP1, mapLe_eq, mapLe1_eq, ren_mpP, ren_mpP1, seval]) (by simp only [push_cast, leL_flD, renL_flD, leL_flP, renL_flP, leC_famP, leC_famP0, flP_0, ren_famP, noN_eq, lenP_same, lenP_one, lenP_app, lenP_set, lenP_famP, Nat.le_refl, List.length_set, leC_mpP, leC_mpP1, mapLe_eq, mapLe1_eq, ren_mpP, ren_mpP1, seval]) ?_
     refine back_f ?_
     refine rn 12 [(0, .sl t.length (fl t)), (1, .sl pipes.length (fl pipes)), (2, iS i), (25, bS false), (28, .agg (Enc.cells r12642))] [] 0 (by kernel_rfl) ?_
     refine rs 4 [] [] (by kernel_rfl) allP_nil ?_
     refine run_br h 32 (.inl (by kernel_rfl)) (fun g12643 h => ?_) (fun g12643 h => ?_)
     ·refine rs 10 [] [] (by kernel_rfl) allP_nil ?_
      refine rf [(0, .sl t.length (fl t)), (1, .sl pipes.length (fl pipes)), (2, iS i), (42, bS true)] [] 0 (by kernel_rfl) ?_
      exact hK12639 (true) _ _ _ h (leSt_m [] [] (by first | ((try simp only [g12640, g12641, g12643]) <;> simp only [push_cast, leL_flD, renL_flD, leL_flP, renL_flP, leC_famP, leC_famP0, flP_0, ren_famP, noN_eq, lenP_same, lenP_one, lenP_app, lenP_set, lenP_famP, Nat.le_refl, List.length_set, leC_mpP, leC_mpP1, mapLe_eq, mapLe1_eq, ren_mpP, ren_mpP1, seval]; done) | ((try simp only [g12640]); (try simp only [g12641]); (try simp only [g12643]); simp only [push_cast, leL_flD, renL_flD, leL_flP, renL_flP, leC_famP, leC_famP0, flP_0, ren_famP, noN_eq, lenP_same, lenP_one, lenP_app, lenP_set, lenP_famP, Nat.le_refl, List.length_set, leC_mpP, leC_mpP1, mapLe_eq, mapLe1_eq, ren_mpP, ren_mpP1, seval]; done) | (exfalso; clear h; simp_all; done)) (by first | ((try simp only [g12640, g12641, g12643]) <;> simp only [push_cast, leL_flD, renL_flD, leL_flP, renL_flP, leC_famP, leC_famP0, flP_0, ren_famP, noN_eq, lenP_same, lenP_one, lenP_app, lenP_set, lenP_famP, Nat.le_refl, List.length_set, leC_mpP, leC_mpP1, mapLe_eq, mapLe1_eq, ren_mpP, ren_mpP1, seval]; done) | ((try simp only [g12640]); (try simp only [g12641]); (try simp only [g12643]); simp only [push_cast, leL_flD, renL_flD, leL_flP, renL_flP, leC_famP, leC_famP0, flP_0, ren_famP, noN_eq, lenP_same, lenP_one, lenP_app, lenP_set, lenP_famP, Nat.le_refl, List.length_set, leC_mpP, leC_mpP1, mapLe_eq, mapLe1_eq, ren_mpP, ren_mpP1, seval]; done) | (exfalso; clear h; simp_all; done)) rfl rfl rfl)
     ·refine rs 4 [] [] (by kernel_rfl) allP_nil ?_
      refine run_br h 36 (.inl (by kernel_rfl)) (fun g12644 h => ?_) (fun g12644 h => ?_)
      ·refine rs 6 [] [] (by kernel_rfl) allP_nil ?_
       refine rf [(0, .sl t.length (fl t)), (1, .sl pipes.length (fl pipes)), (2, iS i), (42, bS true)] [] 0 (by kernel_rfl) ?_
       exact hK12639 (true) _ _ _ h (leSt_m [] [] (by first | ((try simp only [g12640, g12641, g12643, g12644]) <;> simp only [push_cast, leL_flD, renL_flD, leL_flP, renL_flP, leC_famP, leC_famP0, flP_0, ren_famP, noN_eq, lenP_same, lenP_one, lenP_app, lenP_set, lenP_famP, Nat.le_refl, List.length_set, leC_mpP, leC_mpP1, mapLe_eq, mapLe1_eq, ren_mpP, ren_mpP1, seval]; done) | ((try simp only [g12640]); (try simp only [g12641]); (try simp only [g12643]); (try simp only [g12644]); simp only [push_cast, leL_flD, renL_flD, leL_flP, renL_flP, leC_famP, leC_famP0, flP_0, ren_famP, noN_eq, lenP_same, lenP_one, lenP_app, lenP_set, lenP_famP, Nat.le_refl, List.length_set, leC_mpP, leC_mpP1, mapLe_eq, mapLe1_eq, ren_mpP, ren_mpP1, seval]; done) | (exfalso; clear h; simp_all; done)) (by first | ((try simp only [g12640, g12641, g12643, g12644]) <;> simp only [push_cast, leL_flD, renL_flD, leL_flP, renL_flP, leC_famP, leC_famP0, flP_0, ren_famP, noN_eq, lenP_same, lenP_one, lenP_app, lenP_set, lenP_famP, Nat.le_refl, List.length_set, leC_mpP, leC_mpP1, mapLe_eq, mapLe1_eq, ren_mpP, ren_mpP1, seval]; done) | ((try simp only [g12640]); (try simp only [g12641]); (try simp only [g12643]); (try simp only [g12644]); simp only [push_cast, leL_flD, renL_flD, leL_flP, renL_flP, leC_famP, leC_famP0, flP_0, ren_famP, noN_eq, lenP_same, lenP_one, lenP_app, lenP_set, lenP_famP, Nat.le_refl, List.length_set, leC_mpP, leC_mpP1, mapLe_eq, mapLe1_eq, ren_mpP, ren_mpP1, seval]; done) | (exfalso; clear h; simp_all; done)) rfl rfl rfl)
      ·refine rs 6 [] [] (by kernel_rfl) allP_nil ?_
       refine rf [(0, .sl t.length (fl t)), (1, .sl pipes.length (fl pipes)), (2, iS i), (42, bS (decide ((IntKind.i64.wrap (((t.length : Nat) : Int) - 1)) ≤ i)))] [] 0 (by kernel_rfl) ?_
       exact hK12639 ((decide ((IntKind.i64.wrap (((t.length : Nat) : Int) - 1)) ≤ i))) _ _ _ h (leSt_m [] [] (by first | ((try simp only [g12640, g12641, g12643, g12644]) <;> simp only [push_cast, leL_flD, renL_flD, leL_flP, renL_flP, leC_famP, leC_famP0, flP_0, ren_famP, noN_eq, lenP_same, lenP_one, lenP_app, lenP_set, lenP_famP, Nat.le_refl, List.length_set, leC_mpP, leC_mpP1, mapLe_eq, mapLe1_eq, ren_mpP, ren_mpP1, seval]; done) | ((try simp only [g12640]); (try simp only [g12641]); (try simp only [g12643]); (try simp only [g12644]); simp only [push_cast, leL_flD, renL_flD, leL_flP, renL_flP, leC_famP, leC_famP0, flP_0, ren_famP, noN_eq, lenP_same, lenP_one, lenP_app, lenP_set, lenP_famP, Nat.le_refl, List.length_set, leC_mpP, leC_mpP1, mapLe_eq, mapLe1_eq, ren_mpP, ren_mpP1, seval]; done) | (exfalso; clear h; simp_all; done)) (by first | ((try simp only [g12640, g12641, g12643, g12644]) <;> simp only [push_cast, leL_flD, renL_flD, leL_flP, renL_flP, leC_famP, leC_famP0, flP_0, ren_famP, noN_eq, lenP_same, lenP_one, lenP_app, lenP_set, lenP_famP, Nat.le_refl, List.length_set, leC_mpP, leC_mpP1, mapLe_eq, mapLe1_eq, ren_mpP, ren_mpP1, seval]; done) | ((try simp only [g12640]); (try simp only [g12641]); (try simp only [g12643]); (try simp only [g12644]); simp only [push_cast, leL_flD, renL_flD, leL_flP, renL_flP, leC_famP, leC_famP0, flP_0, ren_famP, noN_eq, lenP_same, lenP_one, lenP_app, lenP_set, lenP_famP, Nat.le_refl, List.length_set, leC_mpP, leC_mpP1, mapLe_eq, mapLe1_eq, ren_mpP, ren_mpP1, seval]; done) | (exfalso; clear h; simp_all; done)) rfl rfl rfl)
  ·rintro t42q2 h
   try dsimp only at h ⊢
   unfold taskmilllaw_OrderSwaps_j2 at h
   refine cond_sx h (by kernel_rfl) (fun g12715 h => ?_) (fun g12715 h => ?_)
   ·refine seq_np ?_
    refine reg_f ?_
    refine rs 1 [] [] (by kernel_rfl) allP_nil ?_
    refine rf [(6, bS true)] [] 0 (by kernel_rfl) ?_
    refine wk_id ?_
    obtain rfl := Option.some.inj h
    refine ret_at (bS true) (by kernel_rfl) ?_
    exact ret_e [] [] (by simp only [push_cast, leL_flD, renL_flD, leL_flP, renL_flP, leC_famP, leC_famP0, flP_0, ren_famP, noN_eq, lenP_same, lenP_one, lenP_app, lenP_set, lenP_famP, Nat.le_refl, List.length_set, leC_mpP, leC_mpP1, mapLe_eq, mapLe1_eq, ren_mpP, ren_mpP1, seval]) (by simp only [push_cast, leL_flD, renL_flD, leL_flP, renL_flP, leC_famP, leC_famP0, flP_0, ren_famP, noN_eq, lenP_same, lenP_one, lenP_app, lenP_set, lenP_famP, Nat.le_refl, List.length_set, leC_mpP, leC_mpP1, mapLe_eq, mapLe1_eq, ren_mpP, ren_mpP1, seval]) rfl rfl rfl
   ·refine wk_id ?_
    refine chk_sx h (fun g12650 h => ?_)
    refine chk_sx h (fun g12652 h => ?_)
    refine seq_np ?_
    refine reg_t ?_
    have k12649 : 0 ≤ i ∧ i < ((t.length : Nat) : Int) := by first | simpa only [Bool.and_eq_true, decide_eq_true_eq, bne_iff_ne, ne_eq] using g12650 | (simp at g12650 ⊢; omega)
    have k12651 : 0 ≤ (IntKind.i64.wrap (i + 1)) ∧ (IntKind.i64.wrap (i + 1)) < ((t.length : Nat) : Int) := by first | simpa only [Bool.and_eq_true, decide_eq_true_eq, bne_iff_ne, ne_eq] using g12652 | (simp at g12652 ⊢; omega)
    refine rs 13 [none, none, some ⟨.iptr (fl t) ((i).toNat * 4), [], 2, []⟩, some ⟨.agg (Enc.cells (ix t i)), [], 3, []⟩, none, none, none, some ⟨.iptr (fl t) (((IntKind.i64.wrap (i + 1))).toNat * 4), [], 7, []⟩, some ⟨.agg (Enc.cells (ix t (IntKind.i64.wrap (i + 1)))), [], 8, []⟩] _ (by kernel_rfl) (allP_cons (ob_ldw t (IntKind.i64.wrap (i + 1)) 4 (((IntKind.i64.wrap (i + 1))).toNat * 4) k12651 rfl (by first | rfl | omega) (Enc.cells (ix t (IntKind.i64.wrap (i + 1)))) rfl 8 []) (allP_cons (ob_ix_l t 4 7 (IntKind.i64.wrap (i + 1)) k12651) (allP_cons (ob_ldw t i 4 ((i).toNat * 4) k12649 rfl (by first | rfl | omega) (Enc.cells (ix t i)) rfl 3 []) (allP_cons (ob_ix_l t 4 2 i k12649) allP_nil)))) ?_
    refine rt [(0, .sl t.length (fl t)), (1, .sl pipes.length (fl pipes)), (2, iS i), (7, .ptr 9 0), (8, .ptr 11 0)] [(9, .row 31 (Enc.cells (ix t i))), (11, .row 31 (Enc.cells (ix t (IntKind.i64.wrap (i + 1)))))] 15 follows (by kernel_rfl) ?_
    refine wk_id ?_
    refine seq_np ?_
    refine reg_f ?_
    refine rs 1 [] [] (by kernel_rfl) allP_nil ?_
    refine rf [(0, .sl t.length (fl t)), (1, .sl pipes.length (fl pipes)), (2, iS i), (7, .ptr 9 0), (8, .ptr 11 0), (9, .v (.func (.func 21) #[] #[]))] [(9, .row 31 (Enc.cells (ix t i))), (11, .row 31 (Enc.cells (ix t (IntKind.i64.wrap (i + 1)))))] 15 (by kernel_rfl) ?_
    refine wk_id ?_
    refine seq_np ?_
    refine seq_cut (A := Bool) (fun a => ([(0, .sl t.length (fl t)), (1, .sl pipes.length (fl pipes)), (2, iS i), (7, .ptr 0 0), (8, .ptr 1 0), (68, bS a)], [(0, .row 31 (Enc.cells (ix t i))), (1, .row 31 (Enc.cells (ix t (IntKind.i64.wrap (i + 1)))))], 2)) (fun a => (taskmilllaw_OrderSwaps_j1 t pipes i a) = some r) (fun K12665 hK12665 => ?_) ?_
    ·refine reg_f ?_
     refine rs 6 [] [] (by kernel_rfl) allP_nil ?_
     refine run_br h 57 (.inl (by kernel_rfl)) (fun g12666 h => ?_) (fun g12666 h => ?_)
     ·refine rs 11 [] [] (by kernel_rfl) allP_nil ?_
      refine rf [(0, .sl t.length (fl t)), (1, .sl pipes.length (fl pipes)), (2, iS i), (7, .ptr 9 0), (8, .ptr 11 0), (68, bS true)] [(9, .row 31 (Enc.cells (ix t i))), (11, .row 31 (Enc.cells (ix t (IntKind.i64.wrap (i + 1)))))] 15 (by kernel_rfl) ?_
      exact hK12665 (true) _ _ _ h (leSt_m [(0, 9), (1, 11)] [] (by (try simp only [g12666]) <;> simp only [push_cast, leL_flD, renL_flD, leL_flP, renL_flP, leC_famP, leC_famP0, flP_0, ren_famP, noN_eq, lenP_same, lenP_one, lenP_app, lenP_set, lenP_famP, Nat.le_refl, List.length_set, leC_mpP, leC_mpP1, mapLe_eq, mapLe1_eq, ren_mpP, ren_mpP1, seval]) (by (try simp only [g12666]) <;> simp only [push_cast, leL_flD, renL_flD, leL_flP, renL_flP, leC_famP, leC_famP0, flP_0, ren_famP, noN_eq, lenP_same, lenP_one, lenP_app, lenP_set, lenP_famP, Nat.le_refl, List.length_set, leC_mpP, leC_mpP1, mapLe_eq, mapLe1_eq, ren_mpP, ren_mpP1, seval]) rfl rfl rfl)
     ·refine rs 2 [] [] (by kernel_rfl) allP_nil ?_
      obtain ⟨r12667, hr12667, h⟩ := bind_sx h
      refine run_call 21 [.agg (Enc.cells (ix t i))] (some 60) (by kernel_rfl) ?_
      refine call_0 (taskmilllaw_OrderSwaps_1_spec (ix t i) r12667 hr12667) (by simp only [push_cast, leL_flD, renL_flD, leL_flP, renL_flP, leC_famP, leC_famP0, flP_0, ren_famP, noN_eq, lenP_same, lenP_one, lenP_app, lenP_set, lenP_famP, Nat.le_refl, List.length_set, leC_mpP, leC_mpP1, mapLe_eq, mapLe1_eq, ren_mpP, ren_mpP1, seval]) (by simp only [push_cast, leL_flD, renL_flD, leL_flP, renL_flP, leC_famP, leC_famP0, flP_0, ren_famP, noN_eq, lenP_same, lenP_one, lenP_app, lenP_set, lenP_famP, Nat.le_refl, List.length_set, leC_mpP, leC_mpP1, mapLe_eq, mapLe1_eq, ren_mpP, ren_mpP1, seval]) ?_
      refine back_f ?_
      refine rs 3 [] [] (by kernel_rfl) allP_nil ?_
      refine run_br h 63 (.inl (by kernel_rfl)) (fun g12668 h => ?_) (fun g12668 h => ?_)
      ·refine rn 12 [(0, .sl t.length (fl t)), (1, .sl pipes.length (fl pipes)), (2, iS i), (7, .ptr 9 0), (8, .ptr 11 0), (9, .v (.func (.func 21) #[] #[])), (63, bS true)] [(9, .row 31 (Enc.cells (ix t i))), (11, .row 31 (Enc.cells (ix t (IntKind.i64.wrap (i + 1)))))] 15 (by kernel_rfl) ?_
       refine rs 5 [] [] (by kernel_rfl) allP_nil ?_
       refine rf [(0, .sl t.length (fl t)), (1, .sl pipes.length (fl pipes)), (2, iS i), (7, .ptr 9 0), (8, .ptr 11 0), (68, bS true)] [(9, .row 31 (Enc.cells (ix t i))), (11, .row 31 (Enc.cells (ix t (IntKind.i64.wrap (i + 1)))))] 15 (by kernel_rfl) ?_
       exact hK12665 (true) _ _ _ h (leSt_m [(0, 9), (1, 11)] [] (by first | ((try simp only [g12666, g12668]) <;> simp only [push_cast, leL_flD, renL_flD, leL_flP, renL_flP, leC_famP, leC_famP0, flP_0, ren_famP, noN_eq, lenP_same, lenP_one, lenP_app, lenP_set, lenP_famP, Nat.le_refl, List.length_set, leC_mpP, leC_mpP1, mapLe_eq, mapLe1_eq, ren_mpP, ren_mpP1, seval]; done) | ((try simp only [g12666]); (try simp only [g12668]); simp only [push_cast, leL_flD, renL_flD, leL_flP, renL_flP, leC_famP, leC_famP0, flP_0, ren_famP, noN_eq, lenP_same, lenP_one, lenP_app, lenP_set, lenP_famP, Nat.le_refl, List.length_set, leC_mpP, leC_mpP1, mapLe_eq, mapLe1_eq, ren_mpP, ren_mpP1, seval]; done) | (exfalso; clear h; simp_all; done)) (by first | ((try simp only [g12666, g12668]) <;> simp only [push_cast, leL_flD, renL_flD, leL_flP, renL_flP, leC_famP, leC_famP0, flP_0, ren_famP, noN_eq, lenP_same, lenP_one, lenP_app, lenP_set, lenP_famP, Nat.le_refl, List.length_set, leC_mpP, leC_mpP1, mapLe_eq, mapLe1_eq, ren_mpP, ren_mpP1, seval]; done) | ((try simp only [g12666]); (try simp only [g12668]); simp only [push_cast, leL_flD, renL_flD, leL_flP, renL_flP, leC_famP, leC_famP0, flP_0, ren_famP, noN_eq, lenP_same, lenP_one, lenP_app, lenP_set, lenP_famP, Nat.le_refl, List.length_set, leC_mpP, leC_mpP1, mapLe_eq, mapLe1_eq, ren_mpP, ren_mpP1, seval]; done) | (exfalso; clear h; simp_all; done)) rfl rfl rfl)
      ·refine rn 12 [(0, .sl t.length (fl t)), (1, .sl pipes.length (fl pipes)), (2, iS i), (7, .ptr 9 0), (8, .ptr 11 0), (9, .v (.func (.func 21) #[] #[])), (63, bS false)] [(9, .row 31 (Enc.cells (ix t i))), (11, .row 31 (Enc.cells (ix t (IntKind.i64.wrap (i + 1)))))] 15 (by kernel_rfl) ?_
       refine rs 2 [] [] (by kernel_rfl) allP_nil ?_
       obtain ⟨r12669, hr12669, h⟩ := bind_sx h
       refine run_call 21 [.agg (Enc.cells (ix t (IntKind.i64.wrap (i + 1))))] (some 66) (by kernel_rfl) ?_
       refine call_0 (taskmilllaw_OrderSwaps_1_spec (ix t (IntKind.i64.wrap (i + 1))) r12669 hr12669) (by simp only [push_cast, leL_flD, renL_flD, leL_flP, renL_flP, leC_famP, leC_famP0, flP_0, ren_famP, noN_eq, lenP_same, lenP_one, lenP_app, lenP_set, lenP_famP, Nat.le_refl, List.length_set, leC_mpP, leC_mpP1, mapLe_eq, mapLe1_eq, ren_mpP, ren_mpP1, seval]) (by simp only [push_cast, leL_flD, renL_flD, leL_flP, renL_flP, leC_famP, leC_famP0, flP_0, ren_famP, noN_eq, lenP_same, lenP_one, lenP_app, lenP_set, lenP_famP, Nat.le_refl, List.length_set, leC_mpP, leC_mpP1, mapLe_eq, mapLe1_eq, ren_mpP, ren_mpP1, seval]) ?_
       refine back_f ?_
       refine rs 2 [] [] (by kernel_rfl) allP_nil ?_
       refine rf [(0, .sl t.length (fl t)), (1, .sl pipes.length (fl pipes)), (2, iS i), (7, .ptr 9 0), (8, .ptr 11 0), (68, bS (!r12669))] [(9, .row 31 (Enc.cells (ix t i))), (11, .row 31 (Enc.cells (ix t (IntKind.i64.wrap (i + 1)))))] 15 (by kernel_rfl) ?_
       exact hK12665 ((!r12669)) _ _ _ h (leSt_m [(0, 9), (1, 11)] [] (by first | ((try simp only [g12666, g12668]) <;> simp only [push_cast, leL_flD, renL_flD, leL_flP, renL_flP, leC_famP, leC_famP0, flP_0, ren_famP, noN_eq, lenP_same, lenP_one, lenP_app, lenP_set, lenP_famP, Nat.le_refl, List.length_set, leC_mpP, leC_mpP1, mapLe_eq, mapLe1_eq, ren_mpP, ren_mpP1, seval]; done) | ((try simp only [g12666]); (try simp only [g12668]); simp only [push_cast, leL_flD, renL_flD, leL_flP, renL_flP, leC_famP, leC_famP0, flP_0, ren_famP, noN_eq, lenP_same, lenP_one, lenP_app, lenP_set, lenP_famP, Nat.le_refl, List.length_set, leC_mpP, leC_mpP1, mapLe_eq, mapLe1_eq, ren_mpP, ren_mpP1, seval]; done) | (exfalso; clear h; simp_all; done)) (by first | ((try simp only [g12666, g12668]) <;> simp only [push_cast, leL_flD, renL_flD, leL_flP, renL_flP, leC_famP, leC_famP0, flP_0, ren_famP, noN_eq, lenP_same, lenP_one, lenP_app, lenP_set, lenP_famP, Nat.le_refl, List.length_set, leC_mpP, leC_mpP1, mapLe_eq, mapLe1_eq, ren_mpP, ren_mpP1, seval]; done) | ((try simp only [g12666]); (try simp only [g12668]); simp only [push_cast, leL_flD, renL_flD, leL_flP, renL_flP, leC_famP, leC_famP0, flP_0, ren_famP, noN_eq, lenP_same, lenP_one, lenP_app, lenP_set, lenP_famP, Nat.le_refl, List.length_set, leC_mpP, leC_mpP1, mapLe_eq, mapLe1_eq, ren_mpP, ren_mpP1, seval]; done) | (exfalso; clear h; simp_all; done)) rfl rfl rfl)
    ·rintro t68q2 h
     try dsimp only at h ⊢
     unfold taskmilllaw_OrderSwaps_j1 at h
     refine cond_sx h (by kernel_rfl) (fun g12714 h => ?_) (fun g12714 h => ?_)
     ·refine seq_np ?_
      refine reg_f ?_
      refine rs 1 [] [] (by kernel_rfl) allP_nil ?_
      refine rf [(6, bS true)] [(0, .row 31 (Enc.cells (ix t i))), (1, .row 31 (Enc.cells (ix t (IntKind.i64.wrap (i + 1)))))] 2 (by kernel_rfl) ?_
      refine wk_id ?_
      obtain rfl := Option.some.inj h
      refine ret_at (bS true) (by kernel_rfl) ?_
      exact ret_e [] [] (by simp only [push_cast, leL_flD, renL_flD, leL_flP, renL_flP, leC_famP, leC_famP0, flP_0, ren_famP, noN_eq, lenP_same, lenP_one, lenP_app, lenP_set, lenP_famP, Nat.le_refl, List.length_set, leC_mpP, leC_mpP1, mapLe_eq, mapLe1_eq, ren_mpP, ren_mpP1, seval]) (by simp only [push_cast, leL_flD, renL_flD, leL_flP, renL_flP, leC_famP, leC_famP0, flP_0, ren_famP, noN_eq, lenP_same, lenP_one, lenP_app, lenP_set, lenP_famP, Nat.le_refl, List.length_set, leC_mpP, leC_mpP1, mapLe_eq, mapLe1_eq, ren_mpP, ren_mpP1, seval]) rfl rfl rfl
     ·refine wk_id ?_
      refine seq_np ?_
      refine reg_f ?_
      refine rs 1 [] [] (by kernel_rfl) allP_nil ?_
      obtain ⟨r12671, hr12671, h⟩ := bind_sx h
      refine call_x (taskmilllaw_ownTrace_spec t r12671 hr12671) (args := [.sl t.length (fl t)]) (dst := (some 70)) (by kernel_rfl) [(0, .row 31 (Enc.cells (ix t i))), (1, .row 31 (Enc.cells (ix t (IntKind.i64.wrap (i + 1)))))] 2 (by kernel_rfl) [] [] (.own 2 0 r12671.length) [(2, .row 31 (fl r12671))] (by simp only [push_cast, leL_flD, renL_flD, leL_flP, renL_flP, leC_famP, leC_famP0, flP_0, ren_famP, noN_eq, lenP_same, lenP_one, lenP_app, lenP_set, lenP_famP, Nat.le_refl, List.length_set, leC_mpP, leC_mpP1, mapLe_eq, mapLe1_eq, ren_mpP, ren_mpP1, seval]) (by simp only [push_cast, leL_flD, renL_flD, leL_flP, renL_flP, leC_famP, leC_famP0, flP_0, ren_famP, noN_eq, lenP_same, lenP_one, lenP_app, lenP_set, lenP_famP, Nat.le_refl, List.length_set, leC_mpP, leC_mpP1, mapLe_eq, mapLe1_eq, ren_mpP, ren_mpP1, seval]) (by kernel_rfl) (.inl rfl) (by simp only [push_cast, leL_flD, renL_flD, leL_flP, renL_flP, leC_famP, leC_famP0, flP_0, ren_famP, noN_eq, lenP_same, lenP_one, lenP_app, lenP_set, lenP_famP, Nat.le_refl, List.length_set, leC_mpP, leC_mpP1, mapLe_eq, mapLe1_eq, ren_mpP, ren_mpP1, seval]) (by simp only [push_cast, leL_flD, renL_flD, leL_flP, renL_flP, leC_famP, leC_famP0, flP_0, ren_famP, noN_eq, lenP_same, lenP_one, lenP_app, lenP_set, lenP_famP, Nat.le_refl, List.length_set, leC_mpP, leC_mpP1, mapLe_eq, mapLe1_eq, ren_mpP, ren_mpP1, seval]) ?_
      refine rs 1 [] [] (by kernel_rfl) allP_nil ?_
      refine rf [(0, .sl t.length (fl t)), (1, .sl pipes.length (fl pipes)), (2, iS i), (7, .ptr 0 0), (8, .ptr 1 0), (10, .own 2 0 r12671.length)] [(0, .row 31 (Enc.cells (ix t i))), (1, .row 31 (Enc.cells (ix t (IntKind.i64.wrap (i + 1))))), (2, .row 31 (fl r12671))] 3 (by kernel_rfl) ?_
      refine wk_id ?_
      refine chk_sx h (fun g12677 h => ?_)
      refine chk_sx h (fun g12679 h => ?_)
      refine seq_np ?_
      refine reg_t ?_
      have k12676 : 0 ≤ i ∧ i < ((r12671.length : Nat) : Int) := by first | simpa only [Bool.and_eq_true, decide_eq_true_eq, bne_iff_ne, ne_eq] using g12677 | (simp at g12677 ⊢; omega)
      refine rs 9 [none, none, none, none, none, none, none, some ⟨.ptr 2 (0 + (i).toNat * 4), [], 10, [2]⟩, some ⟨.any, [(2, .row 31 (fl (r12671.set i.toNat ((ix t (IntKind.i64.wrap (i + 1))) : GEvent))))], 11, [2]⟩] _ (by kernel_rfl) (allP_cons (ob_st (P := Try.prog) r12671 i 4 0 (0 + (i).toNat * 4) k12676 rfl [iS (ix t (IntKind.i64.wrap (i + 1))).Task, iS (ix t (IntKind.i64.wrap (i + 1))).Op, iS (ix t (IntKind.i64.wrap (i + 1))).Obj, iS (ix t (IntKind.i64.wrap (i + 1))).Value] ((ix t (IntKind.i64.wrap (i + 1))) : GEvent) (Nat.le_of_ble_eq_true rfl) (by first | rfl | omega) rfl 2 11 31 31 (by kernel_rfl) rfl) (allP_cons (ob_ix_o 2 r12671.length 0 4 10 i k12676) allP_nil)) ?_
      refine run_eqF 10 (.own 2 0 r12671.length) (.own 2 0 (r12671.set i.toNat ((ix t (IntKind.i64.wrap (i + 1))) : GEvent)).length) (congrArg (fun nq => (.own 2 0 nq : SV)) (show r12671.length = (r12671.set i.toNat ((ix t (IntKind.i64.wrap (i + 1))) : GEvent)).length from (List.length_set ..).symm)) (by kernel_rfl) ?_
      refine run_eqF 73 (.own 2 0 r12671.length) (.own 2 0 (r12671.set i.toNat ((ix t (IntKind.i64.wrap (i + 1))) : GEvent)).length) (congrArg (fun nq => (.own 2 0 nq : SV)) (show r12671.length = (r12671.set i.toNat ((ix t (IntKind.i64.wrap (i + 1))) : GEvent)).length from (List.length_set ..).symm)) (by kernel_rfl) ?_
      have k12678 : 0 ≤ (IntKind.i64.wrap (i + 1)) ∧ (IntKind.i64.wrap (i + 1)) < (((r12671.set i.toNat ((ix t (IntKind.i64.wrap (i + 1))) : GEvent)).length : Nat) : Int) := by first | simpa only [Bool.and_eq_true, decide_eq_true_eq, bne_iff_ne, ne_eq] using g12679 | (simp at g12679 ⊢; omega)
      refine rs 2 [some ⟨.ptr 2 (0 + ((IntKind.i64.wrap (i + 1))).toNat * 4), [], 12, [2]⟩, some ⟨.any, [(2, .row 31 (fl ((r12671.set i.toNat ((ix t (IntKind.i64.wrap (i + 1))) : GEvent)).set (IntKind.i64.wrap (i + 1)).toNat ((ix t i) : GEvent))))], 13, [2]⟩] _ (by kernel_rfl) (allP_cons (ob_st (P := Try.prog) (r12671.set i.toNat ((ix t (IntKind.i64.wrap (i + 1))) : GEvent)) (IntKind.i64.wrap (i + 1)) 4 0 (0 + ((IntKind.i64.wrap (i + 1))).toNat * 4) k12678 rfl [iS (ix t i).Task, iS (ix t i).Op, iS (ix t i).Obj, iS (ix t i).Value] ((ix t i) : GEvent) (Nat.le_of_ble_eq_true rfl) (by first | rfl | omega) rfl 2 13 31 31 (by kernel_rfl) rfl) (allP_cons (ob_ix_o 2 (r12671.set i.toNat ((ix t (IntKind.i64.wrap (i + 1))) : GEvent)).length 0 4 12 (IntKind.i64.wrap (i + 1)) k12678) allP_nil)) ?_
      refine run_eqF 10 (.own 2 0 (r12671.set i.toNat ((ix t (IntKind.i64.wrap (i + 1))) : GEvent)).length) (.own 2 0 ((r12671.set i.toNat ((ix t (IntKind.i64.wrap (i + 1))) : GEvent)).set (IntKind.i64.wrap (i + 1)).toNat ((ix t i) : GEvent)).length) (congrArg (fun nq => (.own 2 0 nq : SV)) (show (r12671.set i.toNat ((ix t (IntKind.i64.wrap (i + 1))) : GEvent)).length = ((r12671.set i.toNat ((ix t (IntKind.i64.wrap (i + 1))) : GEvent)).set (IntKind.i64.wrap (i + 1)).toNat ((ix t i) : GEvent)).length from (List.length_set ..).symm)) (by kernel_rfl) ?_
      refine rt [(0, .sl t.length (fl t)), (1, .sl pipes.length (fl pipes)), (2, iS i), (10, .own 2 0 ((r12671.set i.toNat ((ix t (IntKind.i64.wrap (i + 1))) : GEvent)).set (IntKind.i64.wrap (i + 1)).toNat ((ix t i) : GEvent)).length)] [(0, .row 31 (Enc.cells (ix t i))), (1, .row 31 (Enc.cells (ix t (IntKind.i64.wrap (i + 1))))), (2, .row 31 (fl ((r12671.set i.toNat ((ix t (IntKind.i64.wrap (i + 1))) : GEvent)).set (IntKind.i64.wrap (i + 1)).toNat ((ix t i) : GEvent))))] 14 follows (by kernel_rfl) ?_
      refine wk_id ?_
      refine seq_np ?_
      refine reg_f ?_
      refine rs 2 [] [] (by kernel_rfl) allP_nil ?_
      obtain ⟨r12681, hr12681, h⟩ := bind_sx h
      refine call_x (order_Clocks_spec t pipes r12681 hr12681) (args := [.sl t.length (fl t), .sl pipes.length (fl pipes)]) (dst := (some 83)) (by kernel_rfl) [(0, .row 31 (Enc.cells (ix t i))), (1, .row 31 (Enc.cells (ix t (IntKind.i64.wrap (i + 1))))), (2, .row 31 (fl ((r12671.set i.toNat ((ix t (IntKind.i64.wrap (i + 1))) : GEvent)).set (IntKind.i64.wrap (i + 1)).toNat ((ix t i) : GEvent))))] 14 (by kernel_rfl) [] [] (.tup [.own 14 0 r12681.2.length, .agg (Enc.cells r12681.1)]) [(14, .row 23 (fl r12681.2))] (by simp only [push_cast, leL_flD, renL_flD, leL_flP, renL_flP, leC_famP, leC_famP0, flP_0, ren_famP, noN_eq, lenP_same, lenP_one, lenP_app, lenP_set, lenP_famP, Nat.le_refl, List.length_set, leC_mpP, leC_mpP1, mapLe_eq, mapLe1_eq, ren_mpP, ren_mpP1, seval]) (by simp only [push_cast, leL_flD, renL_flD, leL_flP, renL_flP, leC_famP, leC_famP0, flP_0, ren_famP, noN_eq, lenP_same, lenP_one, lenP_app, lenP_set, lenP_famP, Nat.le_refl, List.length_set, leC_mpP, leC_mpP1, mapLe_eq, mapLe1_eq, ren_mpP, ren_mpP1, seval]) (by kernel_rfl) (.inl rfl) (by simp only [push_cast, leL_flD, renL_flD, leL_flP, renL_flP, leC_famP, leC_famP0, flP_0, ren_famP, noN_eq, lenP_same, lenP_one, lenP_app, lenP_set, lenP_famP, Nat.le_refl, List.length_set, leC_mpP, leC_mpP1, mapLe_eq, mapLe1_eq, ren_mpP, ren_mpP1, seval]) (by simp only [push_cast, leL_flD, renL_flD, leL_flP, renL_flP, leC_famP, leC_famP0, flP_0, ren_famP, noN_eq, lenP_same, lenP_one, lenP_app, lenP_set, lenP_famP, Nat.le_refl, List.length_set, leC_mpP, leC_mpP1, mapLe_eq, mapLe1_eq, ren_mpP, ren_mpP1, seval]) ?_
      refine rs 6 [] [] (by kernel_rfl) allP_nil ?_
      refine rf [(0, .sl t.length (fl t)), (1, .sl pipes.length (fl pipes)), (2, iS i), (10, .own 2 0 ((r12671.set i.toNat ((ix t (IntKind.i64.wrap (i + 1))) : GEvent)).set (IntKind.i64.wrap (i + 1)).toNat ((ix t i) : GEvent)).length), (11, .own 14 0 r12681.2.length), (12, .ptr 15 0)] [(0, .row 31 (Enc.cells (ix t i))), (1, .row 31 (Enc.cells (ix t (IntKind.i64.wrap (i + 1))))), (2, .row 31 (fl ((r12671.set i.toNat ((ix t (IntKind.i64.wrap (i + 1))) : GEvent)).set (IntKind.i64.wrap (i + 1)).toNat ((ix t i) : GEvent)))), (14, .row 23 (fl r12681.2)), (15, .row 26 (Enc.cells r12681.1))] 16 (by kernel_rfl) ?_
      refine wk_id ?_
      refine seq_np ?_
      refine reg_f ?_
      refine rs 2 [] [] (by kernel_rfl) allP_nil ?_
      obtain ⟨r12683, hr12683, h⟩ := bind_sx h
      refine call_x (SpecW.give (order_Clocks_spec ((r12671.set i.toNat ((ix t (IntKind.i64.wrap (i + 1))) : GEvent)).set (IntKind.i64.wrap (i + 1)).toNat ((ix t i) : GEvent)) pipes r12683 hr12683) [(0, .row 31 (fl ((r12671.set i.toNat ((ix t (IntKind.i64.wrap (i + 1))) : GEvent)).set (IntKind.i64.wrap (i + 1)).toNat ((ix t i) : GEvent))))] [.own 0 0 ((r12671.set i.toNat ((ix t (IntKind.i64.wrap (i + 1))) : GEvent)).set (IntKind.i64.wrap (i + 1)).toNat ((ix t i) : GEvent)).length, .sl pipes.length (fl pipes)] [] (.tup [.own 1 0 r12683.2.length, .agg (Enc.cells r12683.1)]) [(1, .row 23 (fl r12683.2))] (by first | simp only [push_cast, leL_flD, renL_flD, leL_flP, renL_flP, leC_famP, leC_famP0, flP_0, ren_famP, noN_eq, lenP_same, lenP_one, lenP_app, lenP_set, lenP_famP, Nat.le_refl, List.length_set, leC_mpP, leC_mpP1, mapLe_eq, mapLe1_eq, ren_mpP, ren_mpP1, seval] | simp only [push_cast, List.mem_singleton, true_and, and_true, leL_flD, renL_flD, leL_flP, renL_flP, leC_famP, leC_famP0, flP_0, ren_famP, noN_eq, lenP_same, lenP_one, lenP_app, lenP_set, lenP_famP, Nat.le_refl, List.length_set, leC_mpP, leC_mpP1, mapLe_eq, mapLe1_eq, ren_mpP, ren_mpP1, seval]) (by simp only [push_cast, leL_flD, renL_flD, leL_flP, renL_flP, leC_famP, leC_famP0, flP_0, ren_famP, noN_eq, lenP_same, lenP_one, lenP_app, lenP_set, lenP_famP, Nat.le_refl, List.length_set, leC_mpP, leC_mpP1, mapLe_eq, mapLe1_eq, ren_mpP, ren_mpP1, seval]) (by simp only [push_cast, leL_flD, renL_flD, leL_flP, renL_flP, leC_famP, leC_famP0, flP_0, ren_famP, noN_eq, lenP_same, lenP_one, lenP_app, lenP_set, lenP_famP, Nat.le_refl, List.length_set, leC_mpP, leC_mpP1, mapLe_eq, mapLe1_eq, ren_mpP, ren_mpP1, seval]) (by simp only [push_cast, leL_flD, renL_flD, leL_flP, renL_flP, leC_famP, leC_famP0, flP_0, ren_famP, noN_eq, lenP_same, lenP_one, lenP_app, lenP_set, lenP_famP, Nat.le_refl, List.length_set, leC_mpP, leC_mpP1, mapLe_eq, mapLe1_eq, ren_mpP, ren_mpP1, seval]) rfl (by simp only [push_cast, leL_flD, renL_flD, leL_flP, renL_flP, leC_famP, leC_famP0, flP_0, ren_famP, noN_eq, lenP_same, lenP_one, lenP_app, lenP_set, lenP_famP, Nat.le_refl, List.length_set, leC_mpP, leC_mpP1, mapLe_eq, mapLe1_eq, ren_mpP, ren_mpP1, seval]) (by simp only [push_cast, leL_flD, renL_flD, leL_flP, renL_flP, leC_famP, leC_famP0, flP_0, ren_famP, noN_eq, lenP_same, lenP_one, lenP_app, lenP_set, lenP_famP, Nat.le_refl, List.length_set, leC_mpP, leC_mpP1, mapLe_eq, mapLe1_eq, ren_mpP, ren_mpP1, seval]) rfl) (args := [.own 2 0 ((r12671.set i.toNat ((ix t (IntKind.i64.wrap (i + 1))) : GEvent)).set (IntKind.i64.wrap (i + 1)).toNat ((ix t i) : GEvent)).length, .sl pipes.length (fl pipes)]) (dst := (some 89)) (by kernel_rfl) [(0, .row 31 (Enc.cells (ix t i))), (1, .row 31 (Enc.cells (ix t (IntKind.i64.wrap (i + 1))))), (2, .row 31 (fl ((r12671.set i.toNat ((ix t (IntKind.i64.wrap (i + 1))) : GEvent)).set (IntKind.i64.wrap (i + 1)).toNat ((ix t i) : GEvent)))), (14, .row 23 (fl r12681.2)), (15, .row 26 (Enc.cells r12681.1))] 16 (by kernel_rfl) [(0, 2)] [] (.tup [.own 17 0 r12683.2.length, .agg (Enc.cells r12683.1)]) [(17, .row 23 (fl r12683.2)), (2, .dead)] (by simp only [push_cast, leL_flD, renL_flD, leL_flP, renL_flP, leC_famP, leC_famP0, flP_0, ren_famP, noN_eq, lenP_same, lenP_one, lenP_app, lenP_set, lenP_famP, Nat.le_refl, List.length_set, leC_mpP, leC_mpP1, mapLe_eq, mapLe1_eq, ren_mpP, ren_mpP1, seval]) (by simp only [push_cast, leL_flD, renL_flD, leL_flP, renL_flP, leC_famP, leC_famP0, flP_0, ren_famP, noN_eq, lenP_same, lenP_one, lenP_app, lenP_set, lenP_famP, Nat.le_refl, List.length_set, leC_mpP, leC_mpP1, mapLe_eq, mapLe1_eq, ren_mpP, ren_mpP1, seval]) (by kernel_rfl) (.inl rfl) (by simp only [push_cast, leL_flD, renL_flD, leL_flP, renL_flP, leC_famP, leC_famP0, flP_0, ren_famP, noN_eq, lenP_same, lenP_one, lenP_app, lenP_set, lenP_famP, Nat.le_refl, List.length_set, leC_mpP, leC_mpP1, mapLe_eq, mapLe1_eq, ren_mpP, ren_mpP1, seval]) (by simp only [push_cast, leL_flD, renL_flD, leL_flP, renL_flP, leC_famP, leC_famP0, flP_0, ren_famP, noN_eq, lenP_same, lenP_one, lenP_app, lenP_set, lenP_famP, Nat.le_refl, List.length_set, leC_mpP, leC_mpP1, mapLe_eq, mapLe1_eq, ren_mpP, ren_mpP1, seval]) ?_
      refine rs 6 [] [] (by kernel_rfl) allP_nil ?_
      refine rf [(0, .sl t.length (fl t)), (2, iS i), (11, .own 14 0 r12681.2.length), (12, .ptr 15 0), (13, .own 17 0 r12683.2.length), (14, .ptr 18 0)] [(0, .row 31 (Enc.cells (ix t i))), (1, .row 31 (Enc.cells (ix t (IntKind.i64.wrap (i + 1))))), (2, .dead), (14, .row 23 (fl r12681.2)), (15, .row 26 (Enc.cells r12681.1)), (17, .row 23 (fl r12683.2)), (18, .row 26 (Enc.cells r12683.1))] 19 (by kernel_rfl) ?_
      refine wk_id ?_
      refine seq_np ?_
      refine seq_cut (A := Unit) (fun _ => ([(2, iS i), (11, .own 14 0 r12681.2.length), (13, .own 17 0 r12683.2.length), (113, bS ((r12681.1.Code != 0) || ((r12683.1.Code != 0) || ((((r12681.2.length : Nat) : Int) != ((t.length : Nat) : Int)) || (((r12683.2.length : Nat) : Int) != ((t.length : Nat) : Int))))))], [(0, .row 31 (Enc.cells (ix t i))), (1, .row 31 (Enc.cells (ix t (IntKind.i64.wrap (i + 1))))), (14, .row 23 (fl r12681.2)), (15, .row 26 (Enc.cells r12681.1)), (17, .row 23 (fl r12683.2)), (18, .row 26 (Enc.cells r12683.1))], 19)) (fun _ => True) (fun K12691 hK12691 => ?_) (fun _ _ => ?_)
      ·refine reg_f ?_
       refine rs 4 [] [] (by kernel_rfl) allP_nil ?_
       refine run_split 95 (r12681.1.Code != 0) (.inl (by kernel_rfl)) (fun g12692 => ?_) (fun g12692 => ?_)
       ·refine rs 18 [] [] (by kernel_rfl) allP_nil ?_
        refine rf [(2, iS i), (11, .own 14 0 r12681.2.length), (13, .own 17 0 r12683.2.length), (113, bS true)] [(0, .row 31 (Enc.cells (ix t i))), (1, .row 31 (Enc.cells (ix t (IntKind.i64.wrap (i + 1))))), (2, .dead), (14, .row 23 (fl r12681.2)), (15, .row 26 (Enc.cells r12681.1)), (17, .row 23 (fl r12683.2)), (18, .row 26 (Enc.cells r12683.1))] 19 (by kernel_rfl) ?_
        exact hK12691 () _ _ _ trivial (leSt_m [(0, 0), (1, 1), (14, 14), (15, 15), (17, 17), (18, 18)] [] (by (try simp only [g12692]) <;> simp only [push_cast, leL_flD, renL_flD, leL_flP, renL_flP, leC_famP, leC_famP0, flP_0, ren_famP, noN_eq, lenP_same, lenP_one, lenP_app, lenP_set, lenP_famP, Nat.le_refl, List.length_set, leC_mpP, leC_mpP1, mapLe_eq, mapLe1_eq, ren_mpP, ren_mpP1, seval]) (by (try simp only [g12692]) <;> simp only [push_cast, leL_flD, renL_flD, leL_flP, renL_flP, leC_famP, leC_famP0, flP_0, ren_famP, noN_eq, lenP_same, lenP_one, lenP_app, lenP_set, lenP_famP, Nat.le_refl, List.length_set, leC_mpP, leC_mpP1, mapLe_eq, mapLe1_eq, ren_mpP, ren_mpP1, seval]) rfl rfl rfl)
       ·refine rs 5 [] [] (by kernel_rfl) allP_nil ?_
        refine run_split 100 (r12683.1.Code != 0) (.inl (by kernel_rfl)) (fun g12693 => ?_) (fun g12693 => ?_)
        ·refine rs 13 [] [] (by kernel_rfl) allP_nil ?_
         refine rf [(2, iS i), (11, .own 14 0 r12681.2.length), (13, .own 17 0 r12683.2.length), (113, bS true)] [(0, .row 31 (Enc.cells (ix t i))), (1, .row 31 (Enc.cells (ix t (IntKind.i64.wrap (i + 1))))), (2, .dead), (14, .row 23 (fl r12681.2)), (15, .row 26 (Enc.cells r12681.1)), (17, .row 23 (fl r12683.2)), (18, .row 26 (Enc.cells r12683.1))] 19 (by kernel_rfl) ?_
         exact hK12691 () _ _ _ trivial (leSt_m [(0, 0), (1, 1), (14, 14), (15, 15), (17, 17), (18, 18)] [] (by first | ((try simp only [g12692, g12693]) <;> simp only [push_cast, leL_flD, renL_flD, leL_flP, renL_flP, leC_famP, leC_famP0, flP_0, ren_famP, noN_eq, lenP_same, lenP_one, lenP_app, lenP_set, lenP_famP, Nat.le_refl, List.length_set, leC_mpP, leC_mpP1, mapLe_eq, mapLe1_eq, ren_mpP, ren_mpP1, seval]; done) | ((try simp only [g12692]); (try simp only [g12693]); simp only [push_cast, leL_flD, renL_flD, leL_flP, renL_flP, leC_famP, leC_famP0, flP_0, ren_famP, noN_eq, lenP_same, lenP_one, lenP_app, lenP_set, lenP_famP, Nat.le_refl, List.length_set, leC_mpP, leC_mpP1, mapLe_eq, mapLe1_eq, ren_mpP, ren_mpP1, seval]; done) | (exfalso; clear h; simp_all; done)) (by first | ((try simp only [g12692, g12693]) <;> simp only [push_cast, leL_flD, renL_flD, leL_flP, renL_flP, leC_famP, leC_famP0, flP_0, ren_famP, noN_eq, lenP_same, lenP_one, lenP_app, lenP_set, lenP_famP, Nat.le_refl, List.length_set, leC_mpP, leC_mpP1, mapLe_eq, mapLe1_eq, ren_mpP, ren_mpP1, seval]; done) | ((try simp only [g12692]); (try simp only [g12693]); simp only [push_cast, leL_flD, renL_flD, leL_flP, renL_flP, leC_famP, leC_famP0, flP_0, ren_famP, noN_eq, lenP_same, lenP_one, lenP_app, lenP_set, lenP_famP, Nat.le_refl, List.length_set, leC_mpP, leC_mpP1, mapLe_eq, mapLe1_eq, ren_mpP, ren_mpP1, seval]; done) | (exfalso; clear h; simp_all; done)) rfl rfl rfl)
        ·refine rs 7 [] [] (by kernel_rfl) allP_nil ?_
         refine run_split 107 (((r12681.2.length : Nat) : Int) != ((t.length : Nat) : Int)) (.inl (by kernel_rfl)) (fun g12694 => ?_) (fun g12694 => ?_)
         ·refine rn 16 [(0, .sl t.length (fl t)), (2, iS i), (11, .own 14 0 r12681.2.length), (13, .own 17 0 r12683.2.length), (107, bS true)] [(0, .row 31 (Enc.cells (ix t i))), (1, .row 31 (Enc.cells (ix t (IntKind.i64.wrap (i + 1))))), (2, .dead), (14, .row 23 (fl r12681.2)), (15, .row 26 (Enc.cells r12681.1)), (17, .row 23 (fl r12683.2)), (18, .row 26 (Enc.cells r12683.1))] 19 (by kernel_rfl) ?_
          refine rs 6 [] [] (by kernel_rfl) allP_nil ?_
          refine rf [(2, iS i), (11, .own 14 0 r12681.2.length), (13, .own 17 0 r12683.2.length), (113, bS true)] [(0, .row 31 (Enc.cells (ix t i))), (1, .row 31 (Enc.cells (ix t (IntKind.i64.wrap (i + 1))))), (2, .dead), (14, .row 23 (fl r12681.2)), (15, .row 26 (Enc.cells r12681.1)), (17, .row 23 (fl r12683.2)), (18, .row 26 (Enc.cells r12683.1))] 19 (by kernel_rfl) ?_
          exact hK12691 () _ _ _ trivial (leSt_m [(0, 0), (1, 1), (14, 14), (15, 15), (17, 17), (18, 18)] [] (by first | ((try simp only [g12692, g12693, g12694]) <;> simp only [push_cast, leL_flD, renL_flD, leL_flP, renL_flP, leC_famP, leC_famP0, flP_0, ren_famP, noN_eq, lenP_same, lenP_one, lenP_app, lenP_set, lenP_famP, Nat.le_refl, List.length_set, leC_mpP, leC_mpP1, mapLe_eq, mapLe1_eq, ren_mpP, ren_mpP1, seval]; done) | ((try simp only [g12692]); (try simp only [g12693]); (try simp only [g12694]); simp only [push_cast, leL_flD, renL_flD, leL_flP, renL_flP, leC_famP, leC_famP0, flP_0, ren_famP, noN_eq, lenP_same, lenP_one, lenP_app, lenP_set, lenP_famP, Nat.le_refl, List.length_set, leC_mpP, leC_mpP1, mapLe_eq, mapLe1_eq, ren_mpP, ren_mpP1, seval]; done) | (exfalso; clear h; simp_all; done)) (by first | ((try simp only [g12692, g12693, g12694]) <;> simp only [push_cast, leL_flD, renL_flD, leL_flP, renL_flP, leC_famP, leC_famP0, flP_0, ren_famP, noN_eq, lenP_same, lenP_one, lenP_app, lenP_set, lenP_famP, Nat.le_refl, List.length_set, leC_mpP, leC_mpP1, mapLe_eq, mapLe1_eq, ren_mpP, ren_mpP1, seval]; done) | ((try simp only [g12692]); (try simp only [g12693]); (try simp only [g12694]); simp only [push_cast, leL_flD, renL_flD, leL_flP, renL_flP, leC_famP, leC_famP0, flP_0, ren_famP, noN_eq, lenP_same, lenP_one, lenP_app, lenP_set, lenP_famP, Nat.le_refl, List.length_set, leC_mpP, leC_mpP1, mapLe_eq, mapLe1_eq, ren_mpP, ren_mpP1, seval]; done) | (exfalso; clear h; simp_all; done)) rfl rfl rfl)
         ·refine rn 16 [(0, .sl t.length (fl t)), (2, iS i), (11, .own 14 0 r12681.2.length), (13, .own 17 0 r12683.2.length), (107, bS false)] [(0, .row 31 (Enc.cells (ix t i))), (1, .row 31 (Enc.cells (ix t (IntKind.i64.wrap (i + 1))))), (2, .dead), (14, .row 23 (fl r12681.2)), (15, .row 26 (Enc.cells r12681.1)), (17, .row 23 (fl r12683.2)), (18, .row 26 (Enc.cells r12683.1))] 19 (by kernel_rfl) ?_
          refine rs 6 [] [] (by kernel_rfl) allP_nil ?_
          refine rf [(2, iS i), (11, .own 14 0 r12681.2.length), (13, .own 17 0 r12683.2.length), (113, bS (((r12683.2.length : Nat) : Int) != ((t.length : Nat) : Int)))] [(0, .row 31 (Enc.cells (ix t i))), (1, .row 31 (Enc.cells (ix t (IntKind.i64.wrap (i + 1))))), (2, .dead), (14, .row 23 (fl r12681.2)), (15, .row 26 (Enc.cells r12681.1)), (17, .row 23 (fl r12683.2)), (18, .row 26 (Enc.cells r12683.1))] 19 (by kernel_rfl) ?_
          exact hK12691 () _ _ _ trivial (leSt_m [(0, 0), (1, 1), (14, 14), (15, 15), (17, 17), (18, 18)] [] (by first | ((try simp only [g12692, g12693, g12694]) <;> simp only [push_cast, leL_flD, renL_flD, leL_flP, renL_flP, leC_famP, leC_famP0, flP_0, ren_famP, noN_eq, lenP_same, lenP_one, lenP_app, lenP_set, lenP_famP, Nat.le_refl, List.length_set, leC_mpP, leC_mpP1, mapLe_eq, mapLe1_eq, ren_mpP, ren_mpP1, seval]; done) | ((try simp only [g12692]); (try simp only [g12693]); (try simp only [g12694]); simp only [push_cast, leL_flD, renL_flD, leL_flP, renL_flP, leC_famP, leC_famP0, flP_0, ren_famP, noN_eq, lenP_same, lenP_one, lenP_app, lenP_set, lenP_famP, Nat.le_refl, List.length_set, leC_mpP, leC_mpP1, mapLe_eq, mapLe1_eq, ren_mpP, ren_mpP1, seval]; done) | (exfalso; clear h; simp_all; done)) (by first | ((try simp only [g12692, g12693, g12694]) <;> simp only [push_cast, leL_flD, renL_flD, leL_flP, renL_flP, leC_famP, leC_famP0, flP_0, ren_famP, noN_eq, lenP_same, lenP_one, lenP_app, lenP_set, lenP_famP, Nat.le_refl, List.length_set, leC_mpP, leC_mpP1, mapLe_eq, mapLe1_eq, ren_mpP, ren_mpP1, seval]; done) | ((try simp only [g12692]); (try simp only [g12693]); (try simp only [g12694]); simp only [push_cast, leL_flD, renL_flD, leL_flP, renL_flP, leC_famP, leC_famP0, flP_0, ren_famP, noN_eq, lenP_same, lenP_one, lenP_app, lenP_set, lenP_famP, Nat.le_refl, List.length_set, leC_mpP, leC_mpP1, mapLe_eq, mapLe1_eq, ren_mpP, ren_mpP1, seval]; done) | (exfalso; clear h; simp_all; done)) rfl rfl rfl)
      ·dsimp only
       refine cond_sx h (by kernel_rfl) (fun g12713 h => ?_) (fun g12713 h => ?_)
       ·refine seq_np ?_
        refine reg_f ?_
        refine rs 1 [] [] (by kernel_rfl) allP_nil ?_
        refine rf [(6, bS false)] [(0, .row 31 (Enc.cells (ix t i))), (1, .row 31 (Enc.cells (ix t (IntKind.i64.wrap (i + 1))))), (14, .row 23 (fl r12681.2)), (15, .row 26 (Enc.cells r12681.1)), (17, .row 23 (fl r12683.2)), (18, .row 26 (Enc.cells r12683.1))] 19 (by kernel_rfl) ?_
        refine wk_id ?_
        obtain rfl := Option.some.inj h
        refine ret_at (bS false) (by kernel_rfl) ?_
        exact ret_e [] [] (by simp only [push_cast, leL_flD, renL_flD, leL_flP, renL_flP, leC_famP, leC_famP0, flP_0, ren_famP, noN_eq, lenP_same, lenP_one, lenP_app, lenP_set, lenP_famP, Nat.le_refl, List.length_set, leC_mpP, leC_mpP1, mapLe_eq, mapLe1_eq, ren_mpP, ren_mpP1, seval]) (by simp only [push_cast, leL_flD, renL_flD, leL_flP, renL_flP, leC_famP, leC_famP0, flP_0, ren_famP, noN_eq, lenP_same, lenP_one, lenP_app, lenP_set, lenP_famP, Nat.le_refl, List.length_set, leC_mpP, leC_mpP1, mapLe_eq, mapLe1_eq, ren_mpP, ren_mpP1, seval]) rfl rfl rfl
       ·refine wk_id ?_
        refine chk_sx h (fun g12704 h => ?_)
        refine chk_sx h (fun g12706 h => ?_)
        refine chk_sx h (fun g12708 h => ?_)
        refine chk_sx h (fun g12710 h => ?_)
        refine seq_np ?_
        refine reg_t ?_
        have k12703 : 0 ≤ (IntKind.i64.wrap (i + 1)) ∧ (IntKind.i64.wrap (i + 1)) < ((r12683.2.length : Nat) : Int) := by first | simpa only [Bool.and_eq_true, decide_eq_true_eq, bne_iff_ne, ne_eq] using g12704 | (simp at g12704 ⊢; omega)
        have k12705 : 0 ≤ i ∧ i < ((r12683.2.length : Nat) : Int) := by first | simpa only [Bool.and_eq_true, decide_eq_true_eq, bne_iff_ne, ne_eq] using g12706 | (simp at g12706 ⊢; omega)
        have k12707 : 0 ≤ i ∧ i < ((r12683.2.length : Nat) : Int) := by first | simpa only [Bool.and_eq_true, decide_eq_true_eq, bne_iff_ne, ne_eq] using g12708 | (simp at g12708 ⊢; omega)
        refine rs 16 [none, none, none, none, none, none, none, none, some ⟨.ptr 17 (0 + ((IntKind.i64.wrap (i + 1))).toNat * 1), [], 27, [17]⟩, some ⟨.sl (ix r12683.2 (IntKind.i64.wrap (i + 1))).length (fl (ix r12683.2 (IntKind.i64.wrap (i + 1)))), [], 28, [17]⟩, none, none, some ⟨.ptr 17 (0 + (i).toNat * 1), [], 31, [17]⟩, some ⟨.sl (ix r12683.2 i).length (fl (ix r12683.2 i)), [], 32, [17]⟩, some ⟨.ptr 17 (0 + (i).toNat * 1), [], 33, [17]⟩, some ⟨.any, [(17, .row 23 (fl (r12683.2.set i.toNat (ix r12683.2 (IntKind.i64.wrap (i + 1))))))], 34, [17]⟩] _ (by kernel_rfl) (allP_cons (ob_st (P := Try.prog) r12683.2 i 1 0 (0 + (i).toNat * 1) k12707 rfl [.sl (ix r12683.2 (IntKind.i64.wrap (i + 1))).length (fl (ix r12683.2 (IntKind.i64.wrap (i + 1))))] (ix r12683.2 (IntKind.i64.wrap (i + 1))) (Nat.le_of_ble_eq_true rfl) (by first | rfl | omega) rfl 17 34 23 23 (by kernel_rfl) rfl) (allP_cons (ob_ix_o 17 r12683.2.length 0 1 33 i k12707) (allP_cons (ob_ld r12683.2 i 1 0 (0 + (i).toNat * 1) k12705 rfl (by decide) (by first | rfl | omega) (dflS Try.prog 23) (.sl (ix r12683.2 i).length (fl (ix r12683.2 i))) rfl 32 [17]) (allP_cons (ob_ix_o 17 r12683.2.length 0 1 31 i k12705) (allP_cons (ob_ld r12683.2 (IntKind.i64.wrap (i + 1)) 1 0 (0 + ((IntKind.i64.wrap (i + 1))).toNat * 1) k12703 rfl (by decide) (by first | rfl | omega) (dflS Try.prog 23) (.sl (ix r12683.2 (IntKind.i64.wrap (i + 1))).length (fl (ix r12683.2 (IntKind.i64.wrap (i + 1))))) rfl 28 [17]) (allP_cons (ob_ix_o 17 r12683.2.length 0 1 27 (IntKind.i64.wrap (i + 1)) k12703) allP_nil)))))) ?_
        refine run_eqF 13 (.own 17 0 r12683.2.length) (.own 17 0 (r12683.2.set i.toNat (ix r12683.2 (IntKind.i64.wrap (i + 1)))).length) (congrArg (fun nq => (.own 17 0 nq : SV)) (show r12683.2.length = (r12683.2.set i.toNat (ix r12683.2 (IntKind.i64.wrap (i + 1)))).length from (List.length_set ..).symm)) (by kernel_rfl) ?_
        refine run_eqF 116 (.own 17 0 r12683.2.length) (.own 17 0 (r12683.2.set i.toNat (ix r12683.2 (IntKind.i64.wrap (i + 1)))).length) (congrArg (fun nq => (.own 17 0 nq : SV)) (show r12683.2.length = (r12683.2.set i.toNat (ix r12683.2 (IntKind.i64.wrap (i + 1)))).length from (List.length_set ..).symm)) (by kernel_rfl) ?_
        have k12709 : 0 ≤ (IntKind.i64.wrap (i + 1)) ∧ (IntKind.i64.wrap (i + 1)) < (((r12683.2.set i.toNat (ix r12683.2 (IntKind.i64.wrap (i + 1)))).length : Nat) : Int) := by first | simpa only [Bool.and_eq_true, decide_eq_true_eq, bne_iff_ne, ne_eq] using g12710 | (simp at g12710 ⊢; omega)
        refine rs 2 [some ⟨.ptr 17 (0 + ((IntKind.i64.wrap (i + 1))).toNat * 1), [], 35, [17]⟩, some ⟨.any, [(17, .row 23 (fl ((r12683.2.set i.toNat (ix r12683.2 (IntKind.i64.wrap (i + 1)))).set (IntKind.i64.wrap (i + 1)).toNat (ix r12683.2 i))))], 36, [17]⟩] _ (by kernel_rfl) (allP_cons (ob_st (P := Try.prog) (r12683.2.set i.toNat (ix r12683.2 (IntKind.i64.wrap (i + 1)))) (IntKind.i64.wrap (i + 1)) 1 0 (0 + ((IntKind.i64.wrap (i + 1))).toNat * 1) k12709 rfl [.sl (ix r12683.2 i).length (fl (ix r12683.2 i))] (ix r12683.2 i) (Nat.le_of_ble_eq_true rfl) (by first | rfl | omega) rfl 17 36 23 23 (by kernel_rfl) rfl) (allP_cons (ob_ix_o 17 (r12683.2.set i.toNat (ix r12683.2 (IntKind.i64.wrap (i + 1)))).length 0 1 35 (IntKind.i64.wrap (i + 1)) k12709) allP_nil)) ?_
        refine run_eqF 13 (.own 17 0 (r12683.2.set i.toNat (ix r12683.2 (IntKind.i64.wrap (i + 1)))).length) (.own 17 0 ((r12683.2.set i.toNat (ix r12683.2 (IntKind.i64.wrap (i + 1)))).set (IntKind.i64.wrap (i + 1)).toNat (ix r12683.2 i)).length) (congrArg (fun nq => (.own 17 0 nq : SV)) (show (r12683.2.set i.toNat (ix r12683.2 (IntKind.i64.wrap (i + 1)))).length = ((r12683.2.set i.toNat (ix r12683.2 (IntKind.i64.wrap (i + 1)))).set (IntKind.i64.wrap (i + 1)).toNat (ix r12683.2 i)).length from (List.length_set ..).symm)) (by kernel_rfl) ?_
        refine rt [(11, .own 14 0 r12681.2.length), (13, .own 17 0 ((r12683.2.set i.toNat (ix r12683.2 (IntKind.i64.wrap (i + 1)))).set (IntKind.i64.wrap (i + 1)).toNat (ix r12683.2 i)).length)] [(0, .row 31 (Enc.cells (ix t i))), (1, .row 31 (Enc.cells (ix t (IntKind.i64.wrap (i + 1))))), (14, .row 23 (fl r12681.2)), (15, .row 26 (Enc.cells r12681.1)), (17, .row 23 (fl ((r12683.2.set i.toNat (ix r12683.2 (IntKind.i64.wrap (i + 1)))).set (IntKind.i64.wrap (i + 1)).toNat (ix r12683.2 i)))), (18, .row 26 (Enc.cells r12683.1))] 37 follows (by kernel_rfl) ?_
        refine wk_id ?_
        refine seq_np ?_
        refine reg_f ?_
        refine rs 2 [] [] (by kernel_rfl) allP_nil ?_
        obtain ⟨r12712, hr12712, h⟩ := bind_sx h
        refine call_x (taskmillref_Lists_spec r12681.2 ((r12683.2.set i.toNat (ix r12683.2 (IntKind.i64.wrap (i + 1)))).set (IntKind.i64.wrap (i + 1)).toNat (ix r12683.2 i)) r12712 hr12712) (args := [.own 14 0 r12681.2.length, .own 17 0 ((r12683.2.set i.toNat (ix r12683.2 (IntKind.i64.wrap (i + 1)))).set (IntKind.i64.wrap (i + 1)).toNat (ix r12683.2 i)).length]) (dst := (some 132)) (by kernel_rfl) [(0, .row 31 (Enc.cells (ix t i))), (1, .row 31 (Enc.cells (ix t (IntKind.i64.wrap (i + 1))))), (14, .row 23 (fl r12681.2)), (15, .row 26 (Enc.cells r12681.1)), (17, .row 23 (fl ((r12683.2.set i.toNat (ix r12683.2 (IntKind.i64.wrap (i + 1)))).set (IntKind.i64.wrap (i + 1)).toNat (ix r12683.2 i)))), (18, .row 26 (Enc.cells r12683.1))] 37 (by kernel_rfl) [] [14, 17] (bS r12712) [] (by simp only [push_cast, leL_flD, renL_flD, leL_flP, renL_flP, leC_famP, leC_famP0, flP_0, ren_famP, noN_eq, lenP_same, lenP_one, lenP_app, lenP_set, lenP_famP, Nat.le_refl, List.length_set, leC_mpP, leC_mpP1, mapLe_eq, mapLe1_eq, ren_mpP, ren_mpP1, seval]) (by simp only [push_cast, leL_flD, renL_flD, leL_flP, renL_flP, leC_famP, leC_famP0, flP_0, ren_famP, noN_eq, lenP_same, lenP_one, lenP_app, lenP_set, lenP_famP, Nat.le_refl, List.length_set, leC_mpP, leC_mpP1, mapLe_eq, mapLe1_eq, ren_mpP, ren_mpP1, seval]) (by kernel_rfl) (.inr ⟨by simp only [push_cast, leL_flD, renL_flD, leL_flP, renL_flP, leC_famP, leC_famP0, flP_0, ren_famP, noN_eq, lenP_same, lenP_one, lenP_app, lenP_set, lenP_famP, Nat.le_refl, List.length_set, leC_mpP, leC_mpP1, mapLe_eq, mapLe1_eq, ren_mpP, ren_mpP1, seval], by simp only [push_cast, leL_flD, renL_flD, leL_flP, renL_flP, leC_famP, leC_famP0, flP_0, ren_famP, noN_eq, lenP_same, lenP_one, lenP_app, lenP_set, lenP_famP, Nat.le_refl, List.length_set, leC_mpP, leC_mpP1, mapLe_eq, mapLe1_eq, ren_mpP, ren_mpP1, seval]⟩) (by simp only [push_cast, leL_flD, renL_flD, leL_flP, renL_flP, leC_famP, leC_famP0, flP_0, ren_famP, noN_eq, lenP_same, lenP_one, lenP_app, lenP_set, lenP_famP, Nat.le_refl, List.length_set, leC_mpP, leC_mpP1, mapLe_eq, mapLe1_eq, ren_mpP, ren_mpP1, seval]) (by simp only [push_cast, leL_flD, renL_flD, leL_flP, renL_flP, leC_famP, leC_famP0, flP_0, ren_famP, noN_eq, lenP_same, lenP_one, lenP_app, lenP_set, lenP_famP, Nat.le_refl, List.length_set, leC_mpP, leC_mpP1, mapLe_eq, mapLe1_eq, ren_mpP, ren_mpP1, seval]) ?_
        refine rs 1 [] [] (by kernel_rfl) allP_nil ?_
        refine rf [(6, bS r12712)] [(0, .row 31 (Enc.cells (ix t i))), (1, .row 31 (Enc.cells (ix t (IntKind.i64.wrap (i + 1))))), (14, .row 23 (fl r12681.2)), (15, .row 26 (Enc.cells r12681.1)), (17, .row 23 (fl ((r12683.2.set i.toNat (ix r12683.2 (IntKind.i64.wrap (i + 1)))).set (IntKind.i64.wrap (i + 1)).toNat (ix r12683.2 i)))), (18, .row 26 (Enc.cells r12683.1))] 37 (by kernel_rfl) ?_
        refine wk_id ?_
        obtain rfl := Option.some.inj h
        refine ret_at (bS r12712) (by kernel_rfl) ?_
        exact ret_e [] [] (by simp only [push_cast, leL_flD, renL_flD, leL_flP, renL_flP, leC_famP, leC_famP0, flP_0, ren_famP, noN_eq, lenP_same, lenP_one, lenP_app, lenP_set, lenP_famP, Nat.le_refl, List.length_set, leC_mpP, leC_mpP1, mapLe_eq, mapLe1_eq, ren_mpP, ren_mpP1, seval]) (by simp only [push_cast, leL_flD, renL_flD, leL_flP, renL_flP, leC_famP, leC_famP0, flP_0, ren_famP, noN_eq, lenP_same, lenP_one, lenP_app, lenP_set, lenP_famP, Nat.le_refl, List.length_set, leC_mpP, leC_mpP1, mapLe_eq, mapLe1_eq, ren_mpP, ren_mpP1, seval]) rfl rfl rfl

end Go.Proofs.Ytelegonboeacaaa
