/-
 What laws of the chapter order compute, and lemmas on it.
 No conditions.
-/
import Derived.Test.YtelegonboeacaaaorderWOrderClocks2
set_option linter.unusedSimpArgs false
set_option linter.unusedVariables false
namespace Go.Proofs.Ytelegonboeacaaa
open Go Go.Sx
attribute [local irreducible] Wk RunAt
attribute [local bitvec_to_nat] leL_flD renL_flD leL_flP renL_flP leC_famP leC_famP0 flP_0 ren_famP noN_eq lenP_same lenP_one lenP_app lenP_set lenP_famP Nat.le_refl List.length_set leC_mpP leC_mpP1 mapLe_eq mapLe1_eq ren_mpP ren_mpP1
set_option maxRecDepth 100000 in
set_option maxHeartbeats 200000000 in
theorem order_Stamps_spec (trace:(List GEvent)) (pipes:(List Int)) (r:(List (VArr 65))) (h:order_Stamps trace pipes = some r):SpecW Try.prog 33 [.sl trace.length (fl trace),.sl pipes.length (fl pipes)] [] 0 (fun x h n=>x = .own 0 0 r.length∧h = [(0,.row 62 (fl r))]∧n = 1):=by
 unfold order_Stamps at h
 refine spec_of (draw_ok _) Try.func33 rfl (by decide) rfl (by kernel_rfl) ?_
 refine seq_np ?_
 refine reg_f ?_
 refine rk 1 ?_
 refine rf [(0,.sl trace.length (fl trace)),(1,.sl pipes.length (fl pipes))] [] 0 (by kernel_rfl) ?_
 refine wk_id ?_
 refine chk_sx h (fun g2012 h=>?_)
 refine seq_np ?_
 refine reg_f ?_
 refine run_opG (some 9) _ ⟨.mp 0,[(0,.map [])],1,[]⟩ [(.s 1 0,.fam (famP 83 ([]:List (VArr 65)))),(.t 0,.map (mpP 1 ([]:List Int)))] 1 [0] [] (by kernel_rfl) (ob_ok trivial rfl rfl) (ghost_M0 83 (VArr 65) (by kernel_rfl) (by kernel_rfl)) (by kernel_rfl) ?_
 have k2011:0≤(pipes.length:Int)∧(pipes.length:Int)≤4611686018427387904∧(600:Int) * (pipes.length:Int)≤140737488355328:=by first | simpa only [Bool.and_eq_true,decide_eq_true_eq,bne_iff_ne,ne_eq] using g2012 | (simp at g2012 ⊢; omega)
 refine rk 2 ?_
 refine run_opG (some 12) _ ⟨.own 2 0 (List.replicate ((pipes.length:Int)).toNat (default:pipe)).length,[(2,.row 93 (flN dpipe (nA (List.replicate 3 none) (List.replicate 3 none) (-1)) 0 (List.replicate ((pipes.length:Int)).toNat (default:pipe))))],3,[]⟩ [((.s 5 0),.fam (famD dpipe 2 (List.replicate ((pipes.length:Int)).toNat (default:pipe)))),(2,.row 93 (flD dpipe [3,4,5] (List.replicate ((pipes.length:Int)).toNat (default:pipe)))),((.s 4 0),.fam (famD dpipe 1 (List.replicate ((pipes.length:Int)).toNat (default:pipe)))),(2,.row 93 (flN dpipe (nA [(some 3),(some 4),none] [(some (.s 3 (-1))),(some (.s 4 (-1))),none] (-1)) 0 (List.replicate ((pipes.length:Int)).toNat (default:pipe)))),((.s 3 0),.fam (famD dpipe 0 (List.replicate ((pipes.length:Int)).toNat (default:pipe)))),(2,.row 93 (flN dpipe (nA [(some 3),none,none] [(some (.s 3 (-1))),none,none] (-1)) 0 (List.replicate ((pipes.length:Int)).toNat (default:pipe))))] 3 [2,2,2] [] (by kernel_rfl) (ob_mkN (P:=Try.prog) dpipe (pipes.length:Int) 93 600 (by kernel_rfl) [.v (.slice none 0 0),.v (.slice none 0 0),.v (.slice none 0 0),iS (default:(VArr 65)).c0,iS (default:(VArr 65)).c1,iS (default:(VArr 65)).c2,iS (default:(VArr 65)).c3,iS (default:(VArr 65)).c4,iS (default:(VArr 65)).c5,iS (default:(VArr 65)).c6,iS (default:(VArr 65)).c7,iS (default:(VArr 65)).c8,iS (default:(VArr 65)).c9,iS (default:(VArr 65)).c10,iS (default:(VArr 65)).c11,iS (default:(VArr 65)).c12,iS (default:(VArr 65)).c13,iS (default:(VArr 65)).c14,iS (default:(VArr 65)).c15,iS (default:(VArr 65)).c16,iS (default:(VArr 65)).c17,iS (default:(VArr 65)).c18,iS (default:(VArr 65)).c19,iS (default:(VArr 65)).c20,iS (default:(VArr 65)).c21,iS (default:(VArr 65)).c22,iS (default:(VArr 65)).c23,iS (default:(VArr 65)).c24,iS (default:(VArr 65)).c25,iS (default:(VArr 65)).c26,iS (default:(VArr 65)).c27,iS (default:(VArr 65)).c28,iS (default:(VArr 65)).c29,iS (default:(VArr 65)).c30,iS (default:(VArr 65)).c31,iS (default:(VArr 65)).c32,iS (default:(VArr 65)).c33,iS (default:(VArr 65)).c34,iS (default:(VArr 65)).c35,iS (default:(VArr 65)).c36,iS (default:(VArr 65)).c37,iS (default:(VArr 65)).c38,iS (default:(VArr 65)).c39,iS (default:(VArr 65)).c40,iS (default:(VArr 65)).c41,iS (default:(VArr 65)).c42,iS (default:(VArr 65)).c43,iS (default:(VArr 65)).c44,iS (default:(VArr 65)).c45,iS (default:(VArr 65)).c46,iS (default:(VArr 65)).c47,iS (default:(VArr 65)).c48,iS (default:(VArr 65)).c49,iS (default:(VArr 65)).c50,iS (default:(VArr 65)).c51,iS (default:(VArr 65)).c52,iS (default:(VArr 65)).c53,iS (default:(VArr 65)).c54,iS (default:(VArr 65)).c55,iS (default:(VArr 65)).c56,iS (default:(VArr 65)).c57,iS (default:(VArr 65)).c58,iS (default:(VArr 65)).c59,iS (default:(VArr 65)).c60,iS (default:(VArr 65)).c61,iS (default:(VArr 65)).c62,iS (default:(VArr 65)).c63,iS (default:(VArr 65)).c64,bS false] rfl 69 rfl (by decide) k2011 3 2) (Ghost.cat (q1:=2) (q2:=1) (r1:=[2,2]) (r2:=[2]) (u1:=[((.s 4 0),.fam (famD dpipe 1 (List.replicate ((pipes.length:Int)).toNat (default:pipe)))),(2,.row 93 (flN dpipe (nA [(some 3),(some 4),none] [(some (.s 3 (-1))),(some (.s 4 (-1))),none] (-1)) 0 (List.replicate ((pipes.length:Int)).toNat (default:pipe)))),((.s 3 0),.fam (famD dpipe 0 (List.replicate ((pipes.length:Int)).toNat (default:pipe)))),(2,.row 93 (flN dpipe (nA [(some 3),none,none] [(some (.s 3 (-1))),none,none] (-1)) 0 (List.replicate ((pipes.length:Int)).toNat (default:pipe))))]) (u2:=[((.s 5 0),.fam (famD dpipe 2 (List.replicate ((pipes.length:Int)).toNat (default:pipe)))),(2,.row 93 (flD dpipe [3,4,5] (List.replicate ((pipes.length:Int)).toNat (default:pipe))))]) (Ghost.cat (q1:=1) (q2:=1) (r1:=[2]) (r2:=[2]) (u1:=[((.s 3 0),.fam (famD dpipe 0 (List.replicate ((pipes.length:Int)).toNat (default:pipe)))),(2,.row 93 (flN dpipe (nA [(some 3),none,none] [(some (.s 3 (-1))),none,none] (-1)) 0 (List.replicate ((pipes.length:Int)).toNat (default:pipe))))]) (u2:=[((.s 4 0),.fam (famD dpipe 1 (List.replicate ((pipes.length:Int)).toNat (default:pipe)))),(2,.row 93 (flN dpipe (nA [(some 3),(some 4),none] [(some (.s 3 (-1))),(some (.s 4 (-1))),none] (-1)) 0 (List.replicate ((pipes.length:Int)).toNat (default:pipe))))]) (ghost_A 3 dpipe (List.replicate ((pipes.length:Int)).toNat (default:pipe)) 2 93 [none,none,none] [none,none,none] (-1) (flN dpipe (nA [(some 3),none,none] [(some (.s 3 (-1))),none,none] (-1)) 0 (List.replicate ((pipes.length:Int)).toNat (default:pipe))) 0 none none (by kernel_rfl) rfl (by kernel_rfl) (offN_rep _ rfl _) (S_rep (fun a=>nilLeaf dpipe 0 a) _)) (ghost_A 4 dpipe (List.replicate ((pipes.length:Int)).toNat (default:pipe)) 2 93 [(some 3),none,none] [(some (.s 3 (-1))),none,none] (-1) (flN dpipe (nA [(some 3),(some 4),none] [(some (.s 3 (-1))),(some (.s 4 (-1))),none] (-1)) 0 (List.replicate ((pipes.length:Int)).toNat (default:pipe))) 1 none none (by kernel_rfl) rfl (by kernel_rfl) (offN_rep _ rfl _) (S_rep (fun a=>nilLeaf dpipe 1 a) _)) rfl rfl rfl rfl) (ghost_A 5 dpipe (List.replicate ((pipes.length:Int)).toNat (default:pipe)) 2 93 [(some 3),(some 4),none] [(some (.s 3 (-1))),(some (.s 4 (-1))),none] (-1) (flD dpipe [3,4,5] (List.replicate ((pipes.length:Int)).toNat (default:pipe))) 2 none none (by kernel_rfl) (flN_done dpipe [3,4,5] (-1) (List.replicate ((pipes.length:Int)).toNat (default:pipe)) rfl) (by kernel_rfl) (offN_rep _ rfl _) (S_rep (fun a=>nilLeaf dpipe 2 a) _)) rfl rfl rfl rfl) (by kernel_rfl) ?_
 refine rk 1 ?_
 refine run_opG (some 14) _ ⟨.mp 6,[(6,.map [])],7,[]⟩ [(.s 7 0,.fam (famP 98 ([]:List guard))),(.t 6,.map (mpP 7 ([]:List Int)))] 1 [6] [] (by kernel_rfl) (ob_ok trivial rfl rfl) (ghost_M0 98 guard (by kernel_rfl) (by kernel_rfl)) (by kernel_rfl) ?_
 refine rn 6 [(0,.sl trace.length (fl trace)),(9,.mp 0),(12,.own 2 0 (List.replicate ((pipes.length:Int)).toNat (default:pipe)).length),(13,.sl pipes.length (fl pipes)),(14,.mp 6)] [(0,.map (mpP 1 ([]:List Int))),((.s 1 0),.fam (famP 83 ([]:List (VArr 65)))),(2,.row 93 (flD dpipe [3,4,5] (List.replicate ((pipes.length:Int)).toNat (default:pipe)))),((.s 3 0),.fam (famD dpipe 0 (List.replicate ((pipes.length:Int)).toNat (default:pipe)))),((.s 4 0),.fam (famD dpipe 1 (List.replicate ((pipes.length:Int)).toNat (default:pipe)))),((.s 5 0),.fam (famD dpipe 2 (List.replicate ((pipes.length:Int)).toNat (default:pipe)))),(6,.map (mpP 7 ([]:List Int))),((.s 7 0),.fam (famP 98 ([]:List guard)))] 8 (by kernel_rfl) ?_
 refine run_opG (some 15) _ ⟨.mp 8,[(8,.map [])],9,[]⟩ [(.s 9 0,.fam (famP 83 ([]:List (VArr 65)))),(.t 8,.map (mpP 9 ([]:List Int)))] 1 [8] [] (by kernel_rfl) (ob_ok trivial rfl rfl) (ghost_M0 83 (VArr 65) (by kernel_rfl) (by kernel_rfl)) (by kernel_rfl) ?_
 refine rk 3 ?_
 refine rf [(0,.sl trace.length (fl trace)),(5,.ptr 10 0)] [(0,.map (mpP 1 ([]:List Int))),((.s 1 0),.fam (famP 83 ([]:List (VArr 65)))),(2,.row 93 (flD dpipe [3,4,5] (List.replicate ((pipes.length:Int)).toNat (default:pipe)))),((.s 3 0),.fam (famD dpipe 0 (List.replicate ((pipes.length:Int)).toNat (default:pipe)))),((.s 4 0),.fam (famD dpipe 1 (List.replicate ((pipes.length:Int)).toNat (default:pipe)))),((.s 5 0),.fam (famD dpipe 2 (List.replicate ((pipes.length:Int)).toNat (default:pipe)))),(6,.map (mpP 7 ([]:List Int))),((.s 7 0),.fam (famP 98 ([]:List guard))),(8,.map (mpP 9 ([]:List Int))),((.s 9 0),.fam (famP 83 ([]:List (VArr 65)))),(10,.row 82 [.mp 0,.own 2 0 (List.replicate ((pipes.length:Int)).toNat (default:pipe)).length,.sl pipes.length (fl pipes),.mp 6,.mp 8])] 11 (by kernel_rfl) ?_
 refine wk_id ?_
 refine seq_np ?_
 refine reg_f ?_
 refine rk 1 ?_
 refine rf [(0,.sl trace.length (fl trace)),(5,.ptr 10 0),(6,.v (.slice none 0 0))] [(0,.map (mpP 1 ([]:List Int))),((.s 1 0),.fam (famP 83 ([]:List (VArr 65)))),(2,.row 93 (flD dpipe [3,4,5] (List.replicate ((pipes.length:Int)).toNat (default:pipe)))),((.s 3 0),.fam (famD dpipe 0 (List.replicate ((pipes.length:Int)).toNat (default:pipe)))),((.s 4 0),.fam (famD dpipe 1 (List.replicate ((pipes.length:Int)).toNat (default:pipe)))),((.s 5 0),.fam (famD dpipe 2 (List.replicate ((pipes.length:Int)).toNat (default:pipe)))),(6,.map (mpP 7 ([]:List Int))),((.s 7 0),.fam (famP 98 ([]:List guard))),(8,.map (mpP 9 ([]:List Int))),((.s 9 0),.fam (famP 83 ([]:List (VArr 65)))),(10,.row 82 [.mp 0,.own 2 0 (List.replicate ((pipes.length:Int)).toNat (default:pipe)).length,.sl pipes.length (fl pipes),.mp 6,.mp 8])] 11 (by kernel_rfl) ?_
 refine wk_id ?_
 refine seq_np ?_
 refine seq_np ?_
 refine reg_f ?_
 refine rk 3 ?_
 refine rf [(5,.ptr 10 0),(6,.v (.slice none 0 0)),(18,.sl trace.length (fl trace)),(19,iS (trace.length:Int)),(20,iS 0)] [(0,.map (mpP 1 ([]:List Int))),((.s 1 0),.fam (famP 83 ([]:List (VArr 65)))),(2,.row 93 (flD dpipe [3,4,5] (List.replicate ((pipes.length:Int)).toNat (default:pipe)))),((.s 3 0),.fam (famD dpipe 0 (List.replicate ((pipes.length:Int)).toNat (default:pipe)))),((.s 4 0),.fam (famD dpipe 1 (List.replicate ((pipes.length:Int)).toNat (default:pipe)))),((.s 5 0),.fam (famD dpipe 2 (List.replicate ((pipes.length:Int)).toNat (default:pipe)))),(6,.map (mpP 7 ([]:List Int))),((.s 7 0),.fam (famP 98 ([]:List guard))),(8,.map (mpP 9 ([]:List Int))),((.s 9 0),.fam (famP 83 ([]:List (VArr 65)))),(10,.row 82 [.mp 0,.own 2 0 (List.replicate ((pipes.length:Int)).toNat (default:pipe)).length,.sl pipes.length (fl pipes),.mp 6,.mp 8])] 11 (by kernel_rfl) ?_
 refine wk_id ?_
 refine block_np ?_
 refine loop_sx (S:=Int×(List Int)×(List (VArr 65))×(List Int)×(List pipe)×(List Int)×(List Int)×(List (VArr 65))×(List guard)×(List (VArr 65))) (fun a=>([(5,.ptr 0 0),(6,.own 1 0 a.2.2.1.length),(18,.sl trace.length (fl trace)),(19,iS (trace.length:Int)),(20,iS a.1)],[(0,.row 82 [.mp 2,.own 3 0 a.2.2.2.2.1.length,.sl a.2.1.length (fl a.2.1),.mp 4,.mp 5]),(1,.row 62 (fl a.2.2.1)),(2,.map (mpP 6 a.2.2.2.1)),(3,.row 93 (flD dpipe [7,8,9] a.2.2.2.2.1)),(4,.map (mpP 10 a.2.2.2.2.2.1)),(5,.map (mpP 11 a.2.2.2.2.2.2.1)),((.s 6 0),.fam (famP 83 a.2.2.2.2.2.2.2.1)),((.s 7 0),.fam (famD dpipe 0 a.2.2.2.2.1)),((.s 8 0),.fam (famD dpipe 1 a.2.2.2.2.1)),((.s 9 0),.fam (famD dpipe 2 a.2.2.2.2.1)),((.s 10 0),.fam (famP 98 a.2.2.2.2.2.2.2.2.1)),((.s 11 0),.fam (famP 83 a.2.2.2.2.2.2.2.2.2))],12)) h (leSt_m [(0,10),(2,0),(3,2),(4,6),(5,8),((.s 6 0),(.s 1 0)),((.s 7 0),(.s 3 0)),((.s 8 0),(.s 4 0)),((.s 9 0),(.s 5 0)),((.s 10 0),(.s 7 0)),((.s 11 0),(.s 9 0))] [] (by simp only [bitvec_to_nat,push_cast,List.length_nil,lenP_famP,seval]) (by simp only [bitvec_to_nat,push_cast,List.length_nil,lenP_famP,seval]) rfl rfl rfl) ?_
 rintro ⟨t20q7,c0_caps7,c1q7,c2q7,c3q7,c4q7,c5q7,c6q7,c10q7,c11q7⟩ o2 R2 h hr2 hn2 hx2 ht2
 try dsimp only at h hn2 ⊢
 unfold order_Stamps_l1 at h
 try dsimp only at h
 refine chk_sx h (fun g2163 h=>?_)
 have k2162:c2q7.length = c6q7.length:=of_decide_eq_true g2163
 refine chk_sx h (fun g2165 h=>?_)
 have k2164:c4q7.length = c10q7.length:=of_decide_eq_true g2165
 refine chk_sx h (fun g2167 h=>?_)
 have k2166:c5q7.length = c11q7.length:=of_decide_eq_true g2167
 refine seq_np ?_
 refine reg_f ?_
 refine rk 1 ?_
 refine rf [(5,.ptr 0 0),(6,.own 1 0 c1q7.length),(18,.sl trace.length (fl trace)),(19,iS (trace.length:Int)),(20,iS t20q7),(21,bS (decide (t20q7 < (trace.length:Int))))] [(0,.row 82 [.mp 2,.own 3 0 c3q7.length,.sl c0_caps7.length (fl c0_caps7),.mp 4,.mp 5]),(1,.row 62 (fl c1q7)),(2,.map (mpP 6 c2q7)),(3,.row 93 (flD dpipe [7,8,9] c3q7)),(4,.map (mpP 10 c4q7)),(5,.map (mpP 11 c5q7)),((.s 6 0),.fam (famP 83 c6q7)),((.s 7 0),.fam (famD dpipe 0 c3q7)),((.s 8 0),.fam (famD dpipe 1 c3q7)),((.s 9 0),.fam (famD dpipe 2 c3q7)),((.s 10 0),.fam (famP 98 c10q7)),((.s 11 0),.fam (famP 83 c11q7))] 12 (by kernel_rfl) ?_
 refine wk_id ?_
 refine seq_np ?_
 refine cond_sx h (by kernel_rfl) (fun g2217 h=>?_) (fun g2217 h=>?_)
 ·refine wk_id ?_
  refine seq_np ?_
  refine block_np ?_
  refine chk_sx h (fun g2196 h=>?_)
  refine seq_np ?_
  refine reg_f ?_
  have k2195:0≤t20q7∧t20q7 < (trace.length:Int):=by first | simpa only [Bool.and_eq_true,decide_eq_true_eq,bne_iff_ne,ne_eq] using g2196 | (simp at g2196 ⊢; omega)
  refine rs 4 [some ⟨.iptr (fl trace) ((t20q7).toNat * 4),[],12,[]⟩,some ⟨.agg (Enc.cells (ix trace t20q7)),[],12,[]⟩] _ (by kernel_rfl) (allP_cons (ob_ldw trace t20q7 4 ((t20q7).toNat * 4) k2195 rfl (by first | rfl | omega) (Enc.cells (ix trace t20q7)) rfl 12 []) (allP_cons (ob_ix_l trace 4 12 t20q7 k2195) allP_nil)) ?_
  refine rf [(5,.ptr 0 0),(6,.own 1 0 c1q7.length),(8,.ptr 12 0),(18,.sl trace.length (fl trace)),(19,iS (trace.length:Int)),(20,iS t20q7)] [(0,.row 82 [.mp 2,.own 3 0 c3q7.length,.sl c0_caps7.length (fl c0_caps7),.mp 4,.mp 5]),(1,.row 62 (fl c1q7)),(2,.map (mpP 6 c2q7)),(3,.row 93 (flD dpipe [7,8,9] c3q7)),(4,.map (mpP 10 c4q7)),(5,.map (mpP 11 c5q7)),((.s 6 0),.fam (famP 83 c6q7)),((.s 7 0),.fam (famD dpipe 0 c3q7)),((.s 8 0),.fam (famD dpipe 1 c3q7)),((.s 9 0),.fam (famD dpipe 2 c3q7)),((.s 10 0),.fam (famP 98 c10q7)),((.s 11 0),.fam (famP 83 c11q7)),(12,.row 31 (Enc.cells (ix trace t20q7)))] 13 (by kernel_rfl) ?_
  refine wk_id ?_
  refine reg_f ?_
  refine rk 3 ?_
  obtain ⟨r2207,hr2207,h⟩:=bind_sx h
  refine call_x (order_watch_see_spec (ix trace t20q7) c0_caps7 c2q7 c3q7 c4q7 c5q7 c6q7 c10q7 c11q7 r2207 hr2207) (args:=[.ptr 0 0,.agg (Enc.cells (ix trace t20q7))]) (dst:=(some 27)) (by kernel_rfl) [(0,.row 82 [.mp 2,.own 3 0 c3q7.length,.sl c0_caps7.length (fl c0_caps7),.mp 4,.mp 5]),(1,.row 62 (fl c1q7)),(2,.map (mpP 6 c2q7)),(3,.row 93 (flD dpipe [7,8,9] c3q7)),(4,.map (mpP 10 c4q7)),(5,.map (mpP 11 c5q7)),((.s 6 0),.fam (famP 83 c6q7)),((.s 7 0),.fam (famD dpipe 0 c3q7)),((.s 8 0),.fam (famD dpipe 1 c3q7)),((.s 9 0),.fam (famD dpipe 2 c3q7)),((.s 10 0),.fam (famP 98 c10q7)),((.s 11 0),.fam (famP 83 c11q7)),(12,.row 31 (Enc.cells (ix trace t20q7)))] 13 (by kernel_rfl) [(0,0),(1,2),((.s 2 0),(.s 6 0)),(3,3),((.s 4 0),(.s 7 0)),((.s 5 0),(.s 8 0)),((.s 6 0),(.s 9 0)),(7,4),((.s 8 0),(.s 10 0)),(9,5),((.s 10 0),(.s 11 0))] [] (.agg (Enc.cells r2207.1)) [(0,.row 82 [.mp 2,.own 3 0 r2207.2.2.2.1.length,.sl r2207.2.1.length (fl r2207.2.1),.mp 4,.mp 5]),(2,.map (mpP 6 r2207.2.2.1)),((.s 6 0),.fam (famP 83 r2207.2.2.2.2.2.2.1)),(3,.row 93 (flD dpipe [24,25,26] r2207.2.2.2.1)),((.s 7 0),.dead),((.s 8 0),.dead),((.s 9 0),.dead),(4,.map (mpP 10 r2207.2.2.2.2.1)),((.s 10 0),.fam (famP 98 r2207.2.2.2.2.2.2.2.1)),(5,.map (mpP 11 r2207.2.2.2.2.2.1)),((.s 11 0),.fam (famP 83 r2207.2.2.2.2.2.2.2.2)),((.s 24 0),.fam (famD dpipe 0 r2207.2.2.2.1)),((.s 25 0),.fam (famD dpipe 1 r2207.2.2.2.1)),((.s 26 0),.fam (famD dpipe 2 r2207.2.2.2.1)),(0,.dead),(2,.dead),((.s 6 0),.dead),(3,.dead),((.s 7 0),.dead),((.s 8 0),.dead),((.s 9 0),.dead),(4,.dead),((.s 10 0),.dead),(5,.dead),((.s 11 0),.dead)] (by simp only [bitvec_to_nat,push_cast,k2162,lenP_famP,k2164,lenP_famP,k2166,lenP_famP,seval]) (by simp only [bitvec_to_nat,push_cast,k2162,lenP_famP,k2164,lenP_famP,k2166,lenP_famP,seval]) (by kernel_rfl) (.inl rfl) (by first | (simp only [bitvec_to_nat,push_cast,k2162,lenP_famP,k2164,lenP_famP,k2166,lenP_famP,seval]; done) | (simp only [bitvec_to_nat,push_cast,k2162,lenP_famP,k2164,lenP_famP,k2166,lenP_famP,seval]; kernel_rfl) | kernel_rfl) (by first | (simp only [bitvec_to_nat,push_cast,k2162,lenP_famP,k2164,lenP_famP,k2166,lenP_famP,seval]; done) | (simp only [bitvec_to_nat,push_cast,k2162,lenP_famP,k2164,lenP_famP,k2166,lenP_famP,seval]; kernel_rfl) | kernel_rfl) ?_ (hfam:=(And.intro trivial (And.intro trivial (And.intro (famP_fam (t:=83) (xs:=c6q7) (by kernel_rfl) (by kernel_rfl)) (And.intro trivial (And.intro (fun _=>Or.inl rfl) (And.intro (fun _=>Or.inl rfl) (And.intro (fun _=>Or.inl rfl) (And.intro trivial (And.intro (famP_fam (t:=98) (xs:=c10q7) (by kernel_rfl) (by kernel_rfl)) (And.intro trivial (And.intro (famP_fam (t:=83) (xs:=c11q7) (by kernel_rfl) (by kernel_rfl)) trivial))))))))))))
  refine chk_sx h (fun g2210 h=>?_)
  have k2209:r2207.2.2.1.length = r2207.2.2.2.2.2.2.1.length:=of_decide_eq_true g2210
  refine chk_sx h (fun g2212 h=>?_)
  have k2211:r2207.2.2.2.2.1.length = r2207.2.2.2.2.2.2.2.1.length:=of_decide_eq_true g2212
  refine chk_sx h (fun g2214 h=>?_)
  have k2213:r2207.2.2.2.2.2.1.length = r2207.2.2.2.2.2.2.2.2.length:=of_decide_eq_true g2214
  refine chk_sx h (fun g2216 h=>?_)
  have k2215:(c1q7++([r2207.1]:List (VArr 65))).length * 520≤140737488355328:=by first | simpa only [Bool.and_eq_true,decide_eq_true_eq,bne_iff_ne,ne_eq] using g2216 | (simp at g2216 ⊢; omega)
  refine rs 3 [none,some ⟨.own 28 0 (c1q7++([r2207.1]:List (VArr 65))).length,[(28,.row 62 (fl (c1q7++([r2207.1]:List (VArr 65))))),(1,.dead)],29,[1,27]⟩] _ (by kernel_rfl) (allP_cons (ob_app (P:=Try.prog) c1q7 ([r2207.1]:List (VArr 65)) 65 520 rfl (appCells (fl ([r2207.1]:List (VArr 65))) 0 (([r2207.1]:List (VArr 65)).length * 65)) ([r2207.1]:List (VArr 65)).length (app_own ([r2207.1]:List (VArr 65)) 65 rfl) rfl (0+([r2207.1]:List (VArr 65)).length * 65≤(fl ([r2207.1]:List (VArr 65))).length) (app_own_le ([r2207.1]:List (VArr 65)) 65 rfl) 62 (by kernel_rfl) (by decide) k2215 1 28 [27]) allP_nil) ?_
  refine rf [(5,.ptr 0 0),(6,.own 28 0 (c1q7++([r2207.1]:List (VArr 65))).length),(18,.sl trace.length (fl trace)),(19,iS (trace.length:Int)),(20,iS t20q7)] [(0,.row 82 [.mp 2,.own 3 0 r2207.2.2.2.1.length,.sl r2207.2.1.length (fl r2207.2.1),.mp 4,.mp 5]),(1,.dead),(2,.map (mpP 6 r2207.2.2.1)),(3,.row 93 (flD dpipe [24,25,26] r2207.2.2.2.1)),(4,.map (mpP 10 r2207.2.2.2.2.1)),(5,.map (mpP 11 r2207.2.2.2.2.2.1)),((.s 6 0),.fam (famP 83 r2207.2.2.2.2.2.2.1)),((.s 7 0),.dead),((.s 8 0),.dead),((.s 9 0),.dead),((.s 10 0),.fam (famP 98 r2207.2.2.2.2.2.2.2.1)),((.s 11 0),.fam (famP 83 r2207.2.2.2.2.2.2.2.2)),(12,.row 31 (Enc.cells (ix trace t20q7))),((.s 24 0),.fam (famD dpipe 0 r2207.2.2.2.1)),((.s 25 0),.fam (famD dpipe 1 r2207.2.2.2.1)),((.s 26 0),.fam (famD dpipe 2 r2207.2.2.2.1)),(27,.row 62 (fl ([r2207.1]:List (VArr 65)))),(28,.row 62 (fl (c1q7++([r2207.1]:List (VArr 65)))))] 29 (by kernel_rfl) ?_
  refine wk_id ?_
  refine wk_id ?_
  refine reg_f ?_
  refine rk 2 ?_
  refine rf [(5,.ptr 0 0),(6,.own 28 0 (c1q7++([r2207.1]:List (VArr 65))).length),(18,.sl trace.length (fl trace)),(19,iS (trace.length:Int)),(20,iS (IntKind.i64.wrap (t20q7+1)))] [(0,.row 82 [.mp 2,.own 3 0 r2207.2.2.2.1.length,.sl r2207.2.1.length (fl r2207.2.1),.mp 4,.mp 5]),(1,.dead),(2,.map (mpP 6 r2207.2.2.1)),(3,.row 93 (flD dpipe [24,25,26] r2207.2.2.2.1)),(4,.map (mpP 10 r2207.2.2.2.2.1)),(5,.map (mpP 11 r2207.2.2.2.2.2.1)),((.s 6 0),.fam (famP 83 r2207.2.2.2.2.2.2.1)),((.s 7 0),.dead),((.s 8 0),.dead),((.s 9 0),.dead),((.s 10 0),.fam (famP 98 r2207.2.2.2.2.2.2.2.1)),((.s 11 0),.fam (famP 83 r2207.2.2.2.2.2.2.2.2)),(12,.row 31 (Enc.cells (ix trace t20q7))),((.s 24 0),.fam (famD dpipe 0 r2207.2.2.2.1)),((.s 25 0),.fam (famD dpipe 1 r2207.2.2.2.1)),((.s 26 0),.fam (famD dpipe 2 r2207.2.2.2.1)),(27,.row 62 (fl ([r2207.1]:List (VArr 65)))),(28,.row 62 (fl (c1q7++([r2207.1]:List (VArr 65)))))] 29 (by kernel_rfl) ?_
  exact hn2 ((IntKind.i64.wrap (t20q7+1)),r2207.2.1,(c1q7++([r2207.1]:List (VArr 65))),r2207.2.2.1,r2207.2.2.2.1,r2207.2.2.2.2.1,r2207.2.2.2.2.2.1,r2207.2.2.2.2.2.2.1,r2207.2.2.2.2.2.2.2.1,r2207.2.2.2.2.2.2.2.2) _ _ _ (Option.some.inj h).symm (leSt_m [(0,0),(1,28),(2,2),(3,3),(4,4),(5,5),((.s 6 0),(.s 6 0)),((.s 7 0),(.s 24 0)),((.s 8 0),(.s 25 0)),((.s 9 0),(.s 26 0)),((.s 10 0),(.s 10 0)),((.s 11 0),(.s 11 0))] [] (by simp only [bitvec_to_nat,push_cast,k2209,lenP_famP,k2211,k2213,seval]) (by simp only [bitvec_to_nat,push_cast,k2209,lenP_famP,k2211,k2213,seval]) rfl rfl rfl)
 ·change R2 (.exit 0) _ _ _
  refine ex_cast hx2 (id:=0) ?_
  obtain ⟨r0,h,e0⟩:=map_sx h
  have e1:=hr2 r0 e0.symm
  subst r0
  refine wk_id ?_
  refine wk_id ?_
  refine seq_np ?_
  refine reg_f ?_
  refine rk 2 ?_
  refine rf [(4,.own 1 0 c1q7.length)] [(0,.row 82 [.mp 2,.own 3 0 c3q7.length,.sl c0_caps7.length (fl c0_caps7),.mp 4,.mp 5]),(1,.row 62 (fl c1q7)),(2,.map (mpP 6 c2q7)),(3,.row 93 (flD dpipe [7,8,9] c3q7)),(4,.map (mpP 10 c4q7)),(5,.map (mpP 11 c5q7)),((.s 6 0),.fam (famP 83 c6q7)),((.s 7 0),.fam (famD dpipe 0 c3q7)),((.s 8 0),.fam (famD dpipe 1 c3q7)),((.s 9 0),.fam (famD dpipe 2 c3q7)),((.s 10 0),.fam (famP 98 c10q7)),((.s 11 0),.fam (famP 83 c11q7))] 12 (by kernel_rfl) ?_
  refine wk_id ?_
  obtain rfl:=Option.some.inj h
  refine ret_at (.own 1 0 c1q7.length) (by kernel_rfl) ?_
  exact ret_e [(0,1)] [] (by simp only [bitvec_to_nat,push_cast,seval]) (by simp only [bitvec_to_nat,push_cast,seval]) rfl rfl rfl

set_option maxRecDepth 100000 in
set_option maxHeartbeats 200000000 in
theorem order_Ahead_spec (e:GEvent) (own:(VArr 65)) (other:(VArr 65)) (r:Bool) (h:order_Ahead e own other = some r):SpecW Try.prog 34 [.agg (Enc.cells e),.agg (Enc.cells own),.agg (Enc.cells other)] [] 0 (fun x h n=>x = bS r∧h = []∧n = 0):=by
 unfold order_Ahead at h
 refine spec_of (draw_ok _) Try.func34 rfl (by decide) rfl (by kernel_rfl) ?_
 refine seq_np ?_
 refine reg_f ?_
 refine rk 4 ?_
 refine rf [(3,.ptr 0 0),(4,.ptr 1 0),(5,.ptr 2 0)] [(0,.row 31 (Enc.cells e)),(1,.row 62 (Enc.cells own)),(2,.row 62 (Enc.cells other))] 3 (by kernel_rfl) ?_
 refine wk_id ?_
 refine chk_sx h (fun g2231 h=>?_)
 refine seq_np ?_
 refine reg_t ?_
 have k2230:0≤e.Task∧e.Task < ((65:Nat):Int):=by first | simpa only [Bool.and_eq_true,decide_eq_true_eq,bne_iff_ne,ne_eq] using g2231 | (simp at g2231 ⊢; omega)
 refine rs 10 [none,none,some ⟨.ptr 1 (0+(e.Task).toNat * 1),[],5,[]⟩,some ⟨iS (own.get e.Task),[],6,[1]⟩,none,none,some ⟨.ptr 2 (0+(e.Task).toNat * 1),[],9,[]⟩,some ⟨iS (other.get e.Task),[],10,[2]⟩] _ (by kernel_rfl) (allP_cons (ob_lda ([]:List SV) ([]:List SV) other e.Task (0+(e.Task).toNat * 1) k2230 rfl (dflS Try.prog 3) 10 [2]) (allP_cons (ob_ixa 2 0 65 1 e.Task 9 k2230) (allP_cons (ob_lda ([]:List SV) ([]:List SV) own e.Task (0+(e.Task).toNat * 1) k2230 rfl (dflS Try.prog 3) 6 [1]) (allP_cons (ob_ixa 1 0 65 1 e.Task 5 k2230) allP_nil)))) ?_
 refine rt [(6,bS (decide ((own.get e.Task)≤(other.get e.Task))))] [(0,.row 31 (Enc.cells e)),(1,.row 62 (Enc.cells own)),(2,.row 62 (Enc.cells other))] 13 follows (by kernel_rfl) ?_
 refine wk_id ?_
 obtain rfl:=Option.some.inj h
 refine ret_at (bS (decide ((own.get e.Task)≤(other.get e.Task)))) (by kernel_rfl) ?_
 exact ret_e [] [] (by simp only [bitvec_to_nat,push_cast,seval]) (by simp only [bitvec_to_nat,push_cast,seval]) rfl rfl rfl

set_option maxRecDepth 100000 in
set_option maxHeartbeats 200000000 in
theorem order_Before_spec (trace:(List GEvent)) (pipes:(List Int)) (i:Int) (k:Int) (r:Bool×Fault) (h:order_Before trace pipes i k = some r):SpecW Try.prog 12 [.sl trace.length (fl trace),.sl pipes.length (fl pipes),iS i,iS k] [] 0 (fun x h n=>x = .tup [bS r.1,.agg (Enc.cells r.2)]∧h = []∧n = 0):=by
 unfold order_Before at h
 refine spec_of (draw_ok _) Try.func12 rfl (by decide) rfl (by kernel_rfl) ?_
 refine seq_np ?_
 refine reg_f ?_
 refine rk 2 ?_
 refine rf [(0,.sl trace.length (fl trace)),(1,.sl pipes.length (fl pipes)),(2,iS i),(3,iS k),(9,.ptr 0 0)] [(0,.row 26 [iS 0,iS 0])] 1 (by kernel_rfl) ?_
 refine wk_id ?_
 refine seq_np ?_
 refine seq_np ?_
 refine reg_f ?_
 refine rk 2 ?_
 obtain ⟨r2238,hr2238,h⟩:=bind_sx h
 refine run_call 15 [.sl trace.length (fl trace),.sl pipes.length (fl pipes)] (some 14) (by kernel_rfl) ?_
 refine call_0 (order_Check_spec trace pipes r2238 hr2238) (by simp only [bitvec_to_nat,push_cast,seval]) (by simp only [bitvec_to_nat,push_cast,seval]) ?_
 refine back_f ?_
 refine rk 2 ?_
 refine rf [(0,.sl trace.length (fl trace)),(1,.sl pipes.length (fl pipes)),(2,iS i),(3,iS k),(9,.ptr 0 0),(10,.ptr 1 0)] [(0,.row 26 [iS 0,iS 0]),(1,.row 26 (Enc.cells r2238))] 2 (by kernel_rfl) ?_
 refine wk_id ?_
 refine seq_np ?_
 refine reg_f ?_
 refine rk 3 ?_
 refine rf [(0,.sl trace.length (fl trace)),(1,.sl pipes.length (fl pipes)),(2,iS i),(3,iS k),(9,.ptr 0 0),(10,.ptr 1 0),(17,bS (r2238.Code != 0))] [(0,.row 26 [iS 0,iS 0]),(1,.row 26 (Enc.cells r2238))] 2 (by kernel_rfl) ?_
 refine wk_id ?_
 refine cond_sx h (by kernel_rfl) (fun g2268 h=>?_) (fun g2268 h=>?_)
 ·refine seq_np ?_
  refine reg_t ?_
  refine rk 3 ?_
  refine rt [(8,bS false),(9,.ptr 0 0)] [(0,.row 26 (Enc.cells r2238)),(1,.row 26 (Enc.cells r2238))] 5 follows (by kernel_rfl) ?_
  refine wk_id ?_
  obtain rfl:=Option.some.inj h
  refine ret_at (.tup [bS false,.agg (Enc.cells r2238)]) (by kernel_rfl) ?_
  exact ret_e [] [] (by simp only [bitvec_to_nat,push_cast,seval]) (by simp only [bitvec_to_nat,push_cast,seval]) rfl rfl rfl
 ·refine wk_id ?_
  refine seq_np ?_
  refine seq_cut (A:=Unit) (fun _=>([(0,.sl trace.length (fl trace)),(1,.sl pipes.length (fl pipes)),(2,iS i),(3,iS k),(9,.ptr 0 0),(30,bS ((decide ((min i k) < 0)) || (decide ((trace.length:Int)≤(max i k)))))],[(0,.row 26 [iS 0,iS 0]),(1,.row 26 (Enc.cells r2238))],2)) (fun _=>True) (fun K2243 hK2243=>?_) (fun _ _=>?_)
  ·refine reg_f ?_
   refine rk 5 ?_
   refine run_split 23 (decide ((min i k) < 0)) (.inl (by kernel_rfl)) (fun g2244=>?_) (fun g2244=>?_)
   ·refine rk 7 ?_
    refine rf [(0,.sl trace.length (fl trace)),(1,.sl pipes.length (fl pipes)),(2,iS i),(3,iS k),(9,.ptr 0 0),(30,bS true)] [(0,.row 26 [iS 0,iS 0]),(1,.row 26 (Enc.cells r2238))] 2 (by kernel_rfl) ?_
    exact hK2243 () _ _ _ trivial (leSt_m [(0,0),(1,1)] [] (by (try simp only [g2244]) <;> simp only [bitvec_to_nat,push_cast,seval]) (by (try simp only [g2244]) <;> simp only [bitvec_to_nat,push_cast,seval]) rfl rfl rfl)
   ·refine rk 7 ?_
    refine rf [(0,.sl trace.length (fl trace)),(1,.sl pipes.length (fl pipes)),(2,iS i),(3,iS k),(9,.ptr 0 0),(30,bS (decide ((trace.length:Int)≤(max i k))))] [(0,.row 26 [iS 0,iS 0]),(1,.row 26 (Enc.cells r2238))] 2 (by kernel_rfl) ?_
    exact hK2243 () _ _ _ trivial (leSt_m [(0,0),(1,1)] [] (by (try simp only [g2244]) <;> simp only [bitvec_to_nat,push_cast,seval]) (by (try simp only [g2244]) <;> simp only [bitvec_to_nat,push_cast,seval]) rfl rfl rfl)
  ·dsimp only
   refine cond_sx h (by kernel_rfl) (fun g2267 h=>?_) (fun g2267 h=>?_)
   ·refine seq_np ?_
    refine reg_f ?_
    obtain ⟨r2246,hr2246,h⟩:=bind_sx h
    refine run_call 32 [iS 3,iS (-1)] (some 31) (by kernel_rfl) ?_
    refine call_0 (order_fault_spec 3 (-1) r2246 hr2246) (by simp only [bitvec_to_nat,push_cast,seval]) (by simp only [bitvec_to_nat,push_cast,seval]) ?_
    refine back_f ?_
    refine rk 2 ?_
    refine rf [(8,bS false),(9,.ptr 0 0)] [(0,.row 26 (Enc.cells r2246)),(1,.row 26 (Enc.cells r2238))] 2 (by kernel_rfl) ?_
    refine wk_id ?_
    obtain rfl:=Option.some.inj h
    refine ret_at (.tup [bS false,.agg (Enc.cells r2246)]) (by kernel_rfl) ?_
    exact ret_e [] [] (by simp only [bitvec_to_nat,push_cast,seval]) (by simp only [bitvec_to_nat,push_cast,seval]) rfl rfl rfl
   ·refine wk_id ?_
    refine seq_np ?_
    refine reg_f ?_
    refine rk 2 ?_
    obtain ⟨r2248,hr2248,h⟩:=bind_sx h
    refine call_x (order_Stamps_spec trace pipes r2248 hr2248) (args:=[.sl trace.length (fl trace),.sl pipes.length (fl pipes)]) (dst:=(some 34)) (by kernel_rfl) [(0,.row 26 [iS 0,iS 0]),(1,.row 26 (Enc.cells r2238))] 2 (by kernel_rfl) [] [] (.own 2 0 r2248.length) [(2,.row 62 (fl r2248))] (by simp only [bitvec_to_nat,push_cast,seval]) (by simp only [bitvec_to_nat,push_cast,seval]) (by kernel_rfl) (.inl rfl) (by simp only [bitvec_to_nat,push_cast,seval]) (by simp only [bitvec_to_nat,push_cast,seval]) ?_
    refine rk 1 ?_
    refine rf [(0,.sl trace.length (fl trace)),(2,iS i),(3,iS k),(9,.ptr 0 0),(11,.own 2 0 r2248.length)] [(0,.row 26 [iS 0,iS 0]),(1,.row 26 (Enc.cells r2238)),(2,.row 62 (fl r2248))] 3 (by kernel_rfl) ?_
    refine wk_id ?_
    refine seq_cut (A:=Bool) (fun a=>([(8,bS a),(9,.ptr 0 0)],[(0,.row 26 [iS 0,iS 0])],1)) (fun a=>(order_Before_j1 a) = some r) (fun K2258 hK2258=>?_) ?_
    ·refine reg_t ?_
     refine rk 4 ?_
     refine run_br h 38 (.inl (by kernel_rfl)) (fun g2259 h=>?_) (fun g2259 h=>?_)
     ·refine chk_sx h (fun g2261 h=>?_)
      have k2260:0≤i∧i < (trace.length:Int):=by first | simpa only [Bool.and_eq_true,decide_eq_true_eq,bne_iff_ne,ne_eq] using g2261 | (simp at g2261 ⊢; omega)
      refine chk_sx h (fun g2263 h=>?_)
      have k2262:0≤i∧i < (r2248.length:Int):=by first | simpa only [Bool.and_eq_true,decide_eq_true_eq,bne_iff_ne,ne_eq] using g2263 | (simp at g2263 ⊢; omega)
      refine chk_sx h (fun g2265 h=>?_)
      have k2264:0≤k∧k < (r2248.length:Int):=by first | simpa only [Bool.and_eq_true,decide_eq_true_eq,bne_iff_ne,ne_eq] using g2265 | (simp at g2265 ⊢; omega)
      refine rs 12 [none,none,some ⟨.iptr (fl trace) ((i).toNat * 4),[],9,[]⟩,some ⟨.agg (Enc.cells (ix trace i)),[],10,[]⟩,none,none,some ⟨.ptr 2 (0+(i).toNat * 65),[],13,[2]⟩,some ⟨.agg (Enc.cells (ix r2248 i)),[],14,[2]⟩,none,none,some ⟨.ptr 2 (0+(k).toNat * 65),[],17,[2]⟩,some ⟨.agg (Enc.cells (ix r2248 k)),[],18,[2]⟩] _ (by kernel_rfl) (allP_cons (ob_ldw r2248 k 65 (0+(k).toNat * 65) k2264 rfl (by first | rfl | omega) (Enc.cells (ix r2248 k)) rfl 18 [2]) (allP_cons (ob_ix_o 2 r2248.length 0 65 17 k k2264) (allP_cons (ob_ldw r2248 i 65 (0+(i).toNat * 65) k2262 rfl (by first | rfl | omega) (Enc.cells (ix r2248 i)) rfl 14 [2]) (allP_cons (ob_ix_o 2 r2248.length 0 65 13 i k2262) (allP_cons (ob_ldw trace i 4 ((i).toNat * 4) k2260 rfl (by first | rfl | omega) (Enc.cells (ix trace i)) rfl 10 []) (allP_cons (ob_ix_l trace 4 9 i k2260) allP_nil)))))) ?_
      obtain ⟨r2266,hr2266,h⟩:=bind_sx h
      refine run_call 34 [.agg (Enc.cells (ix trace i)),.agg (Enc.cells (ix r2248 i)),.agg (Enc.cells (ix r2248 k))] (some 51) (by kernel_rfl) ?_
      refine callE_0 (order_Ahead_spec (ix trace i) (ix r2248 i) (ix r2248 k) r2266 hr2266) (by simp only [bitvec_to_nat,push_cast,seval]) (by simp only [bitvec_to_nat,push_cast,seval]) ?_
      refine back_t ?_
      refine rk 4 ?_
      refine rt [(8,bS r2266),(9,.ptr 0 0)] [(0,.row 26 [iS 0,iS 0]),(1,.row 26 (Enc.cells r2238)),(2,.row 62 (fl r2248))] 24 follows (by kernel_rfl) ?_
      exact hK2258 (r2266) _ _ _ h (leSt_m [(0,0)] [] (by (try simp only [g2259]) <;> simp only [bitvec_to_nat,push_cast,seval]) (by (try simp only [g2259]) <;> simp only [bitvec_to_nat,push_cast,seval]) rfl rfl rfl)
     ·refine rk 17 ?_
      refine rt [(8,bS false),(9,.ptr 0 0)] [(0,.row 26 [iS 0,iS 0]),(1,.row 26 (Enc.cells r2238)),(2,.row 62 (fl r2248))] 24 follows (by kernel_rfl) ?_
      exact hK2258 (false) _ _ _ h (leSt_m [(0,0)] [] (by (try simp only [g2259]) <;> simp only [bitvec_to_nat,push_cast,seval]) (by (try simp only [g2259]) <;> simp only [bitvec_to_nat,push_cast,seval]) rfl rfl rfl)
    ·rintro t8q1 h
     try dsimp only at h ⊢
     unfold order_Before_j1 at h
     obtain rfl:=Option.some.inj h
     refine ret_at (.tup [bS t8q1,.agg [iS 0,iS 0]]) (by kernel_rfl) ?_
     exact ret_e [] [] (by simp only [bitvec_to_nat,push_cast,seval]) (by simp only [bitvec_to_nat,push_cast,seval]) rfl rfl rfl

set_option maxRecDepth 100000 in
set_option maxHeartbeats 200000000 in
theorem taskmilllaw_ownTrace_spec (l:(List GEvent)) (r:(List GEvent)) (h:taskmilllaw_ownTrace l = some r):SpecW Try.prog 13 [.sl l.length (fl l)] [] 0 (fun x h n=>x = .own 0 0 r.length∧h = [(0,.row 31 (fl r))]∧n = 1):=by
 unfold taskmilllaw_ownTrace at h
 refine spec_of (draw_ok _) Try.func13 rfl (by decide) rfl (by kernel_rfl) ?_
 refine seq_np ?_
 refine reg_f ?_
 refine rk 1 ?_
 refine rf [(0,.sl l.length (fl l))] [] 0 (by kernel_rfl) ?_
 refine wk_id ?_
 refine chk_sx h (fun g3146 h=>?_)
 refine seq_np ?_
 refine reg_f ?_
 have k3145:l.length * 32≤140737488355328:=by first | simpa only [Bool.and_eq_true,decide_eq_true_eq,bne_iff_ne,ne_eq] using g3146 | (simp at g3146 ⊢; omega)
 refine rs 3 [none,some ⟨.own 0 0 l.length,[(0,.row 31 (fl l))],1,[]⟩] _ (by kernel_rfl) (allP_cons (ob_app0 (P:=Try.prog) l 4 32 rfl (fl l) l.length rfl rfl ((fl l).length = l.length * 4) (app_sl l 4 rfl) 31 (by kernel_rfl) (by decide) k3145 0 []) allP_nil) ?_
 refine rf [(2,.own 0 0 l.length)] [(0,.row 31 (fl l))] 1 (by kernel_rfl) ?_
 refine wk_id ?_
 obtain rfl:=Option.some.inj h
 refine ret_at (.own 0 0 l.length) (by kernel_rfl) ?_
 exact ret_e [(0,0)] [] (by simp only [bitvec_to_nat,push_cast,seval]) (by simp only [bitvec_to_nat,push_cast,seval]) rfl rfl rfl

set_option maxRecDepth 100000 in
set_option maxHeartbeats 200000000 in
theorem taskmilllaw_own_spec (l:(List Int)) (r:(List Int)) (h:taskmilllaw_own l = some r):SpecW Try.prog 14 [.sl l.length (fl l)] [] 0 (fun x h n=>x = .own 0 0 r.length∧h = [(0,.row 3 (fl r))]∧n = 1):=by
 unfold taskmilllaw_own at h
 refine spec_of (draw_ok _) Try.func14 rfl (by decide) rfl (by kernel_rfl) ?_
 refine seq_np ?_
 refine reg_f ?_
 refine rk 1 ?_
 refine rf [(0,.sl l.length (fl l))] [] 0 (by kernel_rfl) ?_
 refine wk_id ?_
 refine chk_sx h (fun g3153 h=>?_)
 refine seq_np ?_
 refine reg_f ?_
 have k3152:l.length * 8≤140737488355328:=by first | simpa only [Bool.and_eq_true,decide_eq_true_eq,bne_iff_ne,ne_eq] using g3153 | (simp at g3153 ⊢; omega)
 refine rs 3 [none,some ⟨.own 0 0 l.length,[(0,.row 3 (fl l))],1,[]⟩] _ (by kernel_rfl) (allP_cons (ob_app0 (P:=Try.prog) l 1 8 rfl (fl l) l.length rfl rfl ((fl l).length = l.length * 1) (app_sl l 1 rfl) 3 (by kernel_rfl) (by decide) k3152 0 []) allP_nil) ?_
 refine rf [(2,.own 0 0 l.length)] [(0,.row 3 (fl l))] 1 (by kernel_rfl) ?_
 refine wk_id ?_
 obtain rfl:=Option.some.inj h
 refine ret_at (.own 0 0 l.length) (by kernel_rfl) ?_
 exact ret_e [(0,0)] [] (by simp only [bitvec_to_nat,push_cast,seval]) (by simp only [bitvec_to_nat,push_cast,seval]) rfl rfl rfl

set_option maxRecDepth 100000 in
set_option maxHeartbeats 200000000 in
theorem slices_Clone_int_spec (s:(List Int)) (r:(List Int)) (h:slices_Clone_int s = some r):SpecW Try.prog 35 [.sl s.length (fl s)] [] 0 (fun x h n=>x = .own 0 0 r.length∧h = [(0,.row 3 (fl r))]∧n = 1):=by
 unfold slices_Clone_int at h
 refine spec_of (draw_ok _) Try.func35 rfl (by decide) rfl (by kernel_rfl) ?_
 refine seq_np ?_
 refine reg_f ?_
 refine rk 1 ?_
 refine rf [(0,.sl s.length (fl s))] [] 0 (by kernel_rfl) ?_
 refine wk_id ?_
 refine seq_np ?_
 refine seq_np ?_
 refine reg_f ?_
 refine rk 1 ?_
 refine run_nil s.length (some 4) (by kernel_rfl) (fun g3189=>?_) ?_
 ·obtain rfl:s = []:=List.eq_nil_of_length_eq_zero g3189
  replace h:(some ([])) = some r:=by simpa using h
  refine rf [(0,.sl ([]:List Int).length (fl ([]:List Int))),(4,bS true)] [] 0 (by kernel_rfl) ?_
  refine wk_id ?_
  refine cond_t (by kernel_rfl) ?_
  refine seq_np ?_
  refine reg_f ?_
  refine rk 1 ?_
  refine rf [(2,.v (.slice none 0 0))] [] 0 (by kernel_rfl) ?_
  refine wk_id ?_
  obtain rfl:=Option.some.inj h
  refine ret_at (.v (.slice none 0 0)) (by kernel_rfl) ?_
  exact ret_e [] [] (by simp only [bitvec_to_nat,push_cast,seval]) (by simp only [bitvec_to_nat,push_cast,seval]) rfl rfl rfl
 ·refine rf [(0,.sl s.length (fl s)),(4,bS false)] [] 0 (by kernel_rfl) ?_
  refine wk_id ?_
  refine cond_f (by kernel_rfl) ?_
  refine wk_id ?_
  refine chk_sx h (fun g3188 h=>?_)
  refine seq_np ?_
  refine reg_f ?_
  refine run_mk0 Int (some 5) 3 (by kernel_rfl) ?_
  have k3187:(([]:List Int)++s).length * 8≤140737488355328:=by first | simpa only [Bool.and_eq_true,decide_eq_true_eq,bne_iff_ne,ne_eq] using g3188 | (simp at g3188 ⊢; omega)
  refine rs 3 [none,some ⟨.own 1 0 (([]:List Int)++s).length,[(1,.row 3 (fl (([]:List Int)++s))),(0,.dead)],2,[0]⟩] _ (by kernel_rfl) (allP_cons (ob_app (P:=Try.prog) ([]:List Int) s 1 8 rfl (fl s) s.length rfl rfl ((fl s).length = s.length * 1) (app_sl s 1 rfl) 3 (by kernel_rfl) (by decide) k3187 0 1 []) allP_nil) ?_
  refine rf [(2,.own 1 0 (([]:List Int)++s).length)] [(0,.dead),(1,.row 3 (fl (([]:List Int)++s)))] 2 (by kernel_rfl) ?_
  refine wk_id ?_
  obtain rfl:=Option.some.inj h
  refine ret_at (.own 1 0 (([]:List Int)++s).length) (by kernel_rfl) ?_
  exact ret_e [(0,1)] [] (by simp only [bitvec_to_nat,push_cast,seval]) (by simp only [bitvec_to_nat,push_cast,seval]) rfl rfl rfl

set_option maxRecDepth 100000 in
set_option maxHeartbeats 200000000 in
theorem order_Clocks_spec (trace:(List GEvent)) (pipes:(List Int)) (r:Fault×(List (List Int))) (h:order_Clocks trace pipes = some r):SpecW Try.prog 16 [.sl trace.length (fl trace),.sl pipes.length (fl pipes)] [] 0 (fun x h n=>x = .tup [.own 0 0 r.2.length,.agg (Enc.cells r.1)]∧h = [(0,.row 23 (fl r.2))]∧n = 1):=by
 unfold order_Clocks at h
 refine spec_of (draw_ok _) Try.func16 rfl (by decide) rfl (by kernel_rfl) ?_
 refine seq_np ?_
 refine reg_f ?_
 refine rk 2 ?_
 refine rf [(0,.sl trace.length (fl trace)),(1,.sl pipes.length (fl pipes)),(5,.ptr 0 0)] [(0,.row 26 [iS 0,iS 0])] 1 (by kernel_rfl) ?_
 refine wk_id ?_
 refine seq_np ?_
 refine seq_np ?_
 refine reg_f ?_
 refine rk 2 ?_
 obtain ⟨r3213,hr3213,h⟩:=bind_sx h
 refine run_call 15 [.sl trace.length (fl trace),.sl pipes.length (fl pipes)] (some 15) (by kernel_rfl) ?_
 refine call_0 (order_Check_spec trace pipes r3213 hr3213) (by simp only [bitvec_to_nat,push_cast,seval]) (by simp only [bitvec_to_nat,push_cast,seval]) ?_
 refine back_f ?_
 refine rk 2 ?_
 refine rf [(0,.sl trace.length (fl trace)),(1,.sl pipes.length (fl pipes)),(5,.ptr 0 0),(6,.ptr 1 0)] [(0,.row 26 [iS 0,iS 0]),(1,.row 26 (Enc.cells r3213))] 2 (by kernel_rfl) ?_
 refine wk_id ?_
 refine seq_np ?_
 refine reg_f ?_
 refine rk 3 ?_
 refine rf [(0,.sl trace.length (fl trace)),(1,.sl pipes.length (fl pipes)),(5,.ptr 0 0),(6,.ptr 1 0),(18,bS (r3213.Code != 0))] [(0,.row 26 [iS 0,iS 0]),(1,.row 26 (Enc.cells r3213))] 2 (by kernel_rfl) ?_
 refine wk_id ?_
 refine cond_sx h (by kernel_rfl) (fun g3382 h=>?_) (fun g3382 h=>?_)
 ·refine seq_np ?_
  refine reg_t ?_
  refine rk 3 ?_
  refine rt [(4,.v (.slice none 0 0)),(5,.ptr 0 0)] [(0,.row 26 (Enc.cells r3213)),(1,.row 26 (Enc.cells r3213))] 5 follows (by kernel_rfl) ?_
  refine wk_id ?_
  obtain rfl:=Option.some.inj h
  refine ret_at (.tup [.v (.slice none 0 0),.agg (Enc.cells r3213)]) (by kernel_rfl) ?_
  exact ret_e [] [] (by simp only [bitvec_to_nat,push_cast,seval]) (by simp only [bitvec_to_nat,push_cast,seval]) rfl rfl rfl
 ·refine wk_id ?_
  refine seq_np ?_
  refine reg_f ?_
  refine rk 1 ?_
  refine rf [(0,.sl trace.length (fl trace)),(1,.sl pipes.length (fl pipes)),(5,.ptr 0 0),(7,iS 0)] [(0,.row 26 [iS 0,iS 0]),(1,.row 26 (Enc.cells r3213))] 2 (by kernel_rfl) ?_
  refine wk_id ?_
  refine seq_np ?_
  refine seq_np ?_
  refine reg_f ?_
  refine rk 3 ?_
  refine rf [(0,.sl trace.length (fl trace)),(1,.sl pipes.length (fl pipes)),(5,.ptr 0 0),(7,iS 0),(20,.sl trace.length (fl trace)),(21,iS (trace.length:Int)),(22,iS 0)] [(0,.row 26 [iS 0,iS 0]),(1,.row 26 (Enc.cells r3213))] 2 (by kernel_rfl) ?_
  refine wk_id ?_
  refine block_np ?_
  refine loop_sx (S:=Int×Int) (fun a=>([(0,.sl trace.length (fl trace)),(1,.sl pipes.length (fl pipes)),(5,.ptr 0 0),(7,iS a.1),(20,.sl trace.length (fl trace)),(21,iS (trace.length:Int)),(22,iS a.2)],[(0,.row 26 [iS 0,iS 0])],1)) h (leSt_m [(0,0)] [] (by simp only [bitvec_to_nat,push_cast,seval]) (by simp only [bitvec_to_nat,push_cast,seval]) rfl rfl rfl) ?_
  rintro ⟨most18,t22q7⟩ o3 R3 h hr3 hn3 hx3 ht3
  try dsimp only at h hn3 ⊢
  unfold order_Clocks_l2 at h
  try dsimp only at h
  refine seq_np ?_
  refine reg_f ?_
  refine rk 1 ?_
  refine rf [(0,.sl trace.length (fl trace)),(1,.sl pipes.length (fl pipes)),(5,.ptr 0 0),(7,iS most18),(20,.sl trace.length (fl trace)),(21,iS (trace.length:Int)),(22,iS t22q7),(23,bS (decide (t22q7 < (trace.length:Int))))] [(0,.row 26 [iS 0,iS 0])] 1 (by kernel_rfl) ?_
  refine wk_id ?_
  refine seq_np ?_
  refine cond_sx h (by kernel_rfl) (fun g3381 h=>?_) (fun g3381 h=>?_)
  ·refine wk_id ?_
   refine seq_np ?_
   refine block_cut (A:=Int) (fun a=>([(0,.sl trace.length (fl trace)),(1,.sl pipes.length (fl pipes)),(5,.ptr 0 0),(7,iS a),(20,.sl trace.length (fl trace)),(21,iS (trace.length:Int)),(22,iS t22q7)],[(0,.row 26 [iS 0,iS 0])],1)) (fun a=>(order_Clocks_j1 trace pipes t22q7 a) = some o3) (fun K3275 hK3275=>?_) ?_
   ·refine chk_sx h (fun g3279 h=>?_)
    refine seq_np ?_
    refine reg_f ?_
    have k3278:0≤t22q7∧t22q7 < (trace.length:Int):=by first | simpa only [Bool.and_eq_true,decide_eq_true_eq,bne_iff_ne,ne_eq] using g3279 | (simp at g3279 ⊢; omega)
    refine rs 4 [some ⟨.iptr (fl trace) ((t22q7).toNat * 4),[],1,[]⟩,some ⟨.agg (Enc.cells (ix trace t22q7)),[],1,[]⟩] _ (by kernel_rfl) (allP_cons (ob_ldw trace t22q7 4 ((t22q7).toNat * 4) k3278 rfl (by first | rfl | omega) (Enc.cells (ix trace t22q7)) rfl 1 []) (allP_cons (ob_ix_l trace 4 1 t22q7 k3278) allP_nil)) ?_
    refine rf [(0,.sl trace.length (fl trace)),(1,.sl pipes.length (fl pipes)),(5,.ptr 0 0),(7,iS most18),(9,.ptr 1 0),(20,.sl trace.length (fl trace)),(21,iS (trace.length:Int)),(22,iS t22q7)] [(0,.row 26 [iS 0,iS 0]),(1,.row 31 (Enc.cells (ix trace t22q7)))] 2 (by kernel_rfl) ?_
    refine wk_id ?_
    refine seq_np ?_
    refine reg_f ?_
    refine rk 5 ?_
    refine rf [(0,.sl trace.length (fl trace)),(1,.sl pipes.length (fl pipes)),(5,.ptr 0 0),(7,iS (max most18 (ix trace t22q7).Task)),(9,.ptr 1 0),(20,.sl trace.length (fl trace)),(21,iS (trace.length:Int)),(22,iS t22q7)] [(0,.row 26 [iS 0,iS 0]),(1,.row 31 (Enc.cells (ix trace t22q7)))] 2 (by kernel_rfl) ?_
    refine wk_id ?_
    refine seq_np ?_
    refine reg_f ?_
    refine rk 3 ?_
    refine rf [(0,.sl trace.length (fl trace)),(1,.sl pipes.length (fl pipes)),(5,.ptr 0 0),(7,iS (max most18 (ix trace t22q7).Task)),(9,.ptr 1 0),(20,.sl trace.length (fl trace)),(21,iS (trace.length:Int)),(22,iS t22q7),(32,bS ((ix trace t22q7).Op == 11))] [(0,.row 26 [iS 0,iS 0]),(1,.row 31 (Enc.cells (ix trace t22q7)))] 2 (by kernel_rfl) ?_
    refine wk_id ?_
    refine cond_sx h (by kernel_rfl) (fun g3280 h=>?_) (fun g3280 h=>?_)
    ·refine reg_f ?_
     refine rk 5 ?_
     refine rf [(0,.sl trace.length (fl trace)),(1,.sl pipes.length (fl pipes)),(5,.ptr 0 0),(7,iS (max (max most18 (ix trace t22q7).Task) (ix trace t22q7).Value)),(20,.sl trace.length (fl trace)),(21,iS (trace.length:Int)),(22,iS t22q7)] [(0,.row 26 [iS 0,iS 0]),(1,.row 31 (Enc.cells (ix trace t22q7)))] 2 (by kernel_rfl) ?_
     exact hK3275 ((max (max most18 (ix trace t22q7).Task) (ix trace t22q7).Value)) _ _ _ h (leSt_m [(0,0)] [] (by simp only [bitvec_to_nat,push_cast,seval]) (by simp only [bitvec_to_nat,push_cast,seval]) rfl rfl rfl)
    ·exact hK3275 ((max most18 (ix trace t22q7).Task)) _ _ _ h (leSt_m [(0,0)] [] (by simp only [bitvec_to_nat,push_cast,seval]) (by simp only [bitvec_to_nat,push_cast,seval]) rfl rfl rfl)
   ·rintro most20 h
    try dsimp only at h ⊢
    unfold order_Clocks_j1 at h
    refine wk_id ?_
    refine reg_f ?_
    refine rk 2 ?_
    refine rf [(0,.sl trace.length (fl trace)),(1,.sl pipes.length (fl pipes)),(5,.ptr 0 0),(7,iS most20),(20,.sl trace.length (fl trace)),(21,iS (trace.length:Int)),(22,iS (IntKind.i64.wrap (t22q7+1)))] [(0,.row 26 [iS 0,iS 0])] 1 (by kernel_rfl) ?_
    exact hn3 (most20,(IntKind.i64.wrap (t22q7+1))) _ _ _ (Option.some.inj h).symm (leSt_m [(0,0)] [] (by simp only [bitvec_to_nat,push_cast,seval]) (by simp only [bitvec_to_nat,push_cast,seval]) rfl rfl rfl)
  ·change R3 (.exit 0) _ _ _
   refine ex_cast hx3 (id:=0) ?_
   obtain ⟨r0,h,e0⟩:=map_sx h
   have e1:=hr3 r0 e0.symm
   subst r0
   refine wk_id ?_
   refine wk_id ?_
   refine seq_np ?_
   refine reg_f ?_
   refine rk 1 ?_
   refine rf [(0,.sl trace.length (fl trace)),(1,.sl pipes.length (fl pipes)),(5,.ptr 0 0),(7,iS most18),(10,.v (.slice none 0 0))] [(0,.row 26 [iS 0,iS 0])] 1 (by kernel_rfl) ?_
   refine wk_id ?_
   refine seq_np ?_
   refine seq_np ?_
   refine reg_f ?_
   refine rk 2 ?_
   obtain ⟨r3308,hr3308,h⟩:=bind_sx h
   refine call_x (order_Stamps_spec trace pipes r3308 hr3308) (args:=[.sl trace.length (fl trace),.sl pipes.length (fl pipes)]) (dst:=(some 40)) (by kernel_rfl) [(0,.row 26 [iS 0,iS 0])] 1 (by kernel_rfl) [] [] (.own 1 0 r3308.length) [(1,.row 62 (fl r3308))] (by simp only [bitvec_to_nat,push_cast,seval]) (by simp only [bitvec_to_nat,push_cast,seval]) (by kernel_rfl) (.inl rfl) (by simp only [bitvec_to_nat,push_cast,seval]) (by simp only [bitvec_to_nat,push_cast,seval]) ?_
   refine rk 2 ?_
   refine rf [(5,.ptr 0 0),(7,iS most18),(10,.v (.slice none 0 0)),(40,.own 1 0 r3308.length),(41,iS (r3308.length:Int)),(42,iS 0)] [(0,.row 26 [iS 0,iS 0]),(1,.row 62 (fl r3308))] 2 (by kernel_rfl) ?_
   refine wk_id ?_
   refine block_np ?_
   refine loop_sx (S:=Int×Int×(List (List Int))×(List (VArr 65))) (fun a=>([(5,.ptr 0 0),(7,iS most18),(10,.own 1 0 a.2.2.1.length),(40,.own 2 0 a.2.2.2.length),(41,iS a.1),(42,iS a.2.1)],[(0,.row 26 [iS 0,iS 0]),(1,.row 23 (fl a.2.2.1)),(2,.row 62 (fl a.2.2.2))],3)) h (leSt_m [(0,0),(2,1)] [] (by simp only [bitvec_to_nat,push_cast,seval]) (by simp only [bitvec_to_nat,push_cast,seval]) rfl rfl rfl) ?_
   rintro ⟨t41q11,t42q7,c1q11,c2q7⟩ o4 R4 h hr4 hn4 hx4 ht4
   try dsimp only at h hn4 ⊢
   unfold order_Clocks_l1 at h
   try dsimp only at h
   refine seq_np ?_
   refine reg_f ?_
   refine rk 1 ?_
   refine rf [(5,.ptr 0 0),(7,iS most18),(10,.own 1 0 c1q11.length),(40,.own 2 0 c2q7.length),(41,iS t41q11),(42,iS t42q7),(43,bS (decide (t42q7 < t41q11)))] [(0,.row 26 [iS 0,iS 0]),(1,.row 23 (fl c1q11)),(2,.row 62 (fl c2q7))] 3 (by kernel_rfl) ?_
   refine wk_id ?_
   refine seq_np ?_
   refine cond_sx h (by kernel_rfl) (fun g3380 h=>?_) (fun g3380 h=>?_)
   ·refine wk_id ?_
    refine seq_np ?_
    refine block_np ?_
    refine chk_sx h (fun g3369 h=>?_)
    refine seq_np ?_
    refine reg_f ?_
    have k3368:0≤t42q7∧t42q7 < (c2q7.length:Int):=by first | simpa only [Bool.and_eq_true,decide_eq_true_eq,bne_iff_ne,ne_eq] using g3369 | (simp at g3369 ⊢; omega)
    refine rs 4 [some ⟨.ptr 2 (0+(t42q7).toNat * 65),[],3,[2]⟩,some ⟨.agg (Enc.cells (ix c2q7 t42q7)),[],3,[2]⟩] _ (by kernel_rfl) (allP_cons (ob_ldw c2q7 t42q7 65 (0+(t42q7).toNat * 65) k3368 rfl (by first | rfl | omega) (Enc.cells (ix c2q7 t42q7)) rfl 3 [2]) (allP_cons (ob_ix_o 2 c2q7.length 0 65 3 t42q7 k3368) allP_nil)) ?_
    refine rf [(5,.ptr 0 0),(7,iS most18),(10,.own 1 0 c1q11.length),(12,.ptr 3 0),(40,.own 2 0 c2q7.length),(41,iS t41q11),(42,iS t42q7)] [(0,.row 26 [iS 0,iS 0]),(1,.row 23 (fl c1q11)),(2,.row 62 (fl c2q7)),(3,.row 62 (Enc.cells (ix c2q7 t42q7)))] 4 (by kernel_rfl) ?_
    refine wk_id ?_
    refine chk_sx h (fun g3376 h=>?_)
    refine reg_f ?_
    have k3375:0≤(1:Int)∧(1:Int)≤(IntKind.i64.wrap (most18+1))∧(IntKind.i64.wrap (most18+1))≤((65:Nat):Int):=by first | simpa only [Bool.and_eq_true,decide_eq_true_eq,bne_iff_ne,ne_eq] using g3376 | (simp at g3376 ⊢; omega)
    refine rk 3 ?_
    refine run_cutA (n:=65) (ix c2q7 t42q7) (some 49) 3 62 (1:Int) (IntKind.i64.wrap (most18+1)) (by kernel_rfl) k3375 rfl ?_
    obtain ⟨r3377,hr3377,h⟩:=bind_sx h
    refine call_x (SpecW.frz (slices_Clone_int_spec ((ix c2q7 t42q7).cut (1:Int) (IntKind.i64.wrap (most18+1))) r3377 hr3377)) (args:=[.sl ((ix c2q7 t42q7).cut (1:Int) (IntKind.i64.wrap (most18+1))).length (fl ((ix c2q7 t42q7).cut (1:Int) (IntKind.i64.wrap (most18+1))))]) (dst:=(some 50)) (by kernel_rfl) [(0,.row 26 [iS 0,iS 0]),(1,.row 23 (fl c1q11)),(2,.row 62 (fl c2q7)),(3,.dead)] 4 (by kernel_rfl) [] [] (.sl r3377.length (fl r3377)) [(4,.dead)] (by simp only [bitvec_to_nat,push_cast,seval]) (by simp only [bitvec_to_nat,push_cast,seval]) (by kernel_rfl) (.inl rfl) (by simp only [bitvec_to_nat,push_cast,seval]) (by simp only [bitvec_to_nat,push_cast,seval]) ?_
    refine chk_sx h (fun g3379 h=>?_)
    have k3378:(c1q11++([r3377]:List (List Int))).length * 24≤140737488355328:=by first | simpa only [Bool.and_eq_true,decide_eq_true_eq,bne_iff_ne,ne_eq] using g3379 | (simp at g3379 ⊢; omega)
    refine rs 3 [none,some ⟨.own 6 0 (c1q11++([r3377]:List (List Int))).length,[(6,.row 23 (fl (c1q11++([r3377]:List (List Int))))),(1,.dead)],7,[1,5]⟩] _ (by kernel_rfl) (allP_cons (ob_app (P:=Try.prog) c1q11 ([r3377]:List (List Int)) 1 24 rfl (appCells (fl ([r3377]:List (List Int))) 0 (([r3377]:List (List Int)).length * 1)) ([r3377]:List (List Int)).length (app_own ([r3377]:List (List Int)) 1 rfl) rfl (0+([r3377]:List (List Int)).length * 1≤(fl ([r3377]:List (List Int))).length) (app_own_le ([r3377]:List (List Int)) 1 rfl) 23 (by kernel_rfl) (by decide) k3378 1 6 [5]) allP_nil) ?_
    refine rf [(5,.ptr 0 0),(7,iS most18),(10,.own 6 0 (c1q11++([r3377]:List (List Int))).length),(40,.own 2 0 c2q7.length),(41,iS t41q11),(42,iS t42q7)] [(0,.row 26 [iS 0,iS 0]),(1,.dead),(2,.row 62 (fl c2q7)),(3,.dead),(4,.dead),(5,.row 23 (fl ([r3377]:List (List Int)))),(6,.row 23 (fl (c1q11++([r3377]:List (List Int)))))] 7 (by kernel_rfl) ?_
    refine wk_id ?_
    refine wk_id ?_
    refine reg_f ?_
    refine rk 2 ?_
    refine rf [(5,.ptr 0 0),(7,iS most18),(10,.own 6 0 (c1q11++([r3377]:List (List Int))).length),(40,.own 2 0 c2q7.length),(41,iS t41q11),(42,iS (IntKind.i64.wrap (t42q7+1)))] [(0,.row 26 [iS 0,iS 0]),(1,.dead),(2,.row 62 (fl c2q7)),(3,.dead),(4,.dead),(5,.row 23 (fl ([r3377]:List (List Int)))),(6,.row 23 (fl (c1q11++([r3377]:List (List Int)))))] 7 (by kernel_rfl) ?_
    exact hn4 (t41q11,(IntKind.i64.wrap (t42q7+1)),(c1q11++([r3377]:List (List Int))),c2q7) _ _ _ (Option.some.inj h).symm (leSt_m [(0,0),(1,6),(2,2)] [] (by simp only [bitvec_to_nat,push_cast,seval]) (by simp only [bitvec_to_nat,push_cast,seval]) rfl rfl rfl)
   ·change R4 (.exit 2) _ _ _
    refine ex_cast hx4 (id:=2) ?_
    obtain ⟨r0,h,e0⟩:=map_sx h
    have e1:=hr4 r0 e0.symm
    subst r0
    refine wk_id ?_
    refine wk_id ?_
    refine seq_np ?_
    refine reg_f ?_
    refine rk 4 ?_
    refine rf [(4,.own 1 0 c1q11.length),(5,.ptr 0 0)] [(0,.row 26 [iS 0,iS 0]),(1,.row 23 (fl c1q11)),(2,.row 62 (fl c2q7))] 3 (by kernel_rfl) ?_
    refine wk_id ?_
    obtain rfl:=Option.some.inj h
    refine ret_at (.tup [.own 1 0 c1q11.length,.agg [iS 0,iS 0]]) (by kernel_rfl) ?_
    exact ret_e [(0,1)] [] (by simp only [bitvec_to_nat,push_cast,seval]) (by simp only [bitvec_to_nat,push_cast,seval]) rfl rfl rfl

set_option maxRecDepth 100000 in
set_option maxHeartbeats 200000000 in
theorem taskmillref_SameTrace_spec (xa:(List GEvent)) (b:(List GEvent)) (r:Bool) (h:taskmillref_SameTrace xa b = some r):SpecW Try.prog 17 [.sl xa.length (fl xa),.sl b.length (fl b)] [] 0 (fun x h n=>x = bS r∧h = []∧n = 0):=by
 unfold taskmillref_SameTrace at h
 refine spec_of (draw_ok _) Try.func17 rfl (by decide) rfl (by kernel_rfl) ?_
 refine seq_np ?_
 refine reg_f ?_
 refine rk 1 ?_
 refine rf [(0,.sl xa.length (fl xa)),(1,.sl b.length (fl b))] [] 0 (by kernel_rfl) ?_
 refine wk_id ?_
 refine seq_np ?_
 refine seq_np ?_
 refine reg_f ?_
 refine rk 5 ?_
 refine rf [(0,.sl xa.length (fl xa)),(1,.sl b.length (fl b)),(10,bS ((xa.length:Int) != (b.length:Int)))] [] 0 (by kernel_rfl) ?_
 refine wk_id ?_
 refine cond_sx h (by kernel_rfl) (fun g3481 h=>?_) (fun g3481 h=>?_)
 ·refine seq_np ?_
  refine reg_f ?_
  refine rk 1 ?_
  refine rf [(4,bS false)] [] 0 (by kernel_rfl) ?_
  refine wk_id ?_
  obtain rfl:=Option.some.inj h
  refine ret_at (bS false) (by kernel_rfl) ?_
  exact ret_e [] [] (by simp only [bitvec_to_nat,push_cast,seval]) (by simp only [bitvec_to_nat,push_cast,seval]) rfl rfl rfl
 ·refine wk_id ?_
  refine seq_np ?_
  refine seq_np ?_
  refine reg_f ?_
  refine rk 1 ?_
  refine rf [(0,.sl xa.length (fl xa)),(1,.sl b.length (fl b)),(5,iS 0)] [] 0 (by kernel_rfl) ?_
  refine wk_id ?_
  refine block_np ?_
  refine loop_sx (S:=Int) (fun a=>([(0,.sl xa.length (fl xa)),(1,.sl b.length (fl b)),(5,iS a)],[],0)) h (leSt_m [] [] (by simp only [bitvec_to_nat,push_cast,seval]) (by simp only [bitvec_to_nat,push_cast,seval]) rfl rfl rfl) ?_
  rintro i7 o2 R2 h hr2 hn2 hx2 ht2
  try dsimp only at h hn2 ⊢
  unfold taskmillref_SameTrace_l1 at h
  try dsimp only at h
  refine seq_np ?_
  refine seq_np ?_
  refine reg_f ?_
  refine rk 4 ?_
  refine rf [(0,.sl xa.length (fl xa)),(1,.sl b.length (fl b)),(5,iS i7),(14,bS (decide (i7 < (xa.length:Int))))] [] 0 (by kernel_rfl) ?_
  refine wk_id ?_
  refine cond_sx h (by kernel_rfl) (fun g3480 h=>?_) (fun g3480 h=>?_)
  ·refine wk_id ?_
   refine seq_np ?_
   refine block_np ?_
   refine chk_sx h (fun g3476 h=>?_)
   refine chk_sx h (fun g3478 h=>?_)
   refine seq_np ?_
   refine reg_t ?_
   have k3475:0≤i7∧i7 < (xa.length:Int):=by first | simpa only [Bool.and_eq_true,decide_eq_true_eq,bne_iff_ne,ne_eq] using g3476 | (simp at g3476 ⊢; omega)
   have k3477:0≤i7∧i7 < (b.length:Int):=by first | simpa only [Bool.and_eq_true,decide_eq_true_eq,bne_iff_ne,ne_eq] using g3478 | (simp at g3478 ⊢; omega)
   refine rs 9 [none,none,some ⟨.iptr (fl xa) ((i7).toNat * 4),[],2,[]⟩,some ⟨.agg (Enc.cells (ix xa i7)),[],3,[]⟩,none,none,some ⟨.iptr (fl b) ((i7).toNat * 4),[],6,[]⟩,some ⟨.agg (Enc.cells (ix b i7)),[],7,[]⟩] _ (by kernel_rfl) (allP_cons (ob_ldw b i7 4 ((i7).toNat * 4) k3477 rfl (by first | rfl | omega) (Enc.cells (ix b i7)) rfl 7 []) (allP_cons (ob_ix_l b 4 6 i7 k3477) (allP_cons (ob_ldw xa i7 4 ((i7).toNat * 4) k3475 rfl (by first | rfl | omega) (Enc.cells (ix xa i7)) rfl 3 []) (allP_cons (ob_ix_l xa 4 2 i7 k3475) allP_nil)))) ?_
   refine rt [(0,.sl xa.length (fl xa)),(1,.sl b.length (fl b)),(5,iS i7),(25,bS (!(((ix xa i7).Task == (ix b i7).Task) && (((ix xa i7).Op == (ix b i7).Op) && (((ix xa i7).Obj == (ix b i7).Obj) && (((ix xa i7).Value == (ix b i7).Value) && true))))))] [] 9 follows (by kernel_rfl) ?_
   refine wk_id ?_
   refine cond_sx h (by kernel_rfl) (fun g3479 h=>?_) (fun g3479 h=>?_)
   ·refine seq_np ?_
    refine reg_f ?_
    refine rk 1 ?_
    refine rf [(4,bS false)] [] 9 (by kernel_rfl) ?_
    refine wk_id ?_
    refine rt_cast ht2 ?_
    obtain ⟨r0,h,e0⟩:=map_sx h
    have e1:=hr2 r0 e0.symm
    subst r0
    obtain rfl:=Option.some.inj h
    refine ret_at (bS false) (by kernel_rfl) ?_
    exact ret_e [] [] (by simp only [bitvec_to_nat,push_cast,seval]) (by simp only [bitvec_to_nat,push_cast,seval]) rfl rfl rfl
   ·refine wk_id ?_
    refine wk_id ?_
    refine reg_f ?_
    refine rk 3 ?_
    refine rf [(0,.sl xa.length (fl xa)),(1,.sl b.length (fl b)),(5,iS (IntKind.i64.wrap (i7+1)))] [] 9 (by kernel_rfl) ?_
    exact hn2 ((IntKind.i64.wrap (i7+1))) _ _ _ (Option.some.inj h).symm (leSt_m [] [] (by simp only [bitvec_to_nat,push_cast,seval]) (by simp only [bitvec_to_nat,push_cast,seval]) rfl rfl rfl)
  ·change R2 (.exit 0) _ _ _
   refine ex_cast hx2 (id:=0) ?_
   obtain ⟨r0,h,e0⟩:=map_sx h
   have e1:=hr2 r0 e0.symm
   subst r0
   refine wk_id ?_
   refine wk_id ?_
   refine seq_np ?_
   refine reg_f ?_
   refine rk 1 ?_
   refine rf [(4,bS true)] [] 0 (by kernel_rfl) ?_
   refine wk_id ?_
   obtain rfl:=Option.some.inj h
   refine ret_at (bS true) (by kernel_rfl) ?_
   exact ret_e [] [] (by simp only [bitvec_to_nat,push_cast,seval]) (by simp only [bitvec_to_nat,push_cast,seval]) rfl rfl rfl

set_option maxRecDepth 100000 in
set_option maxHeartbeats 200000000 in
theorem taskmillref_Ints_spec (xa:(List Int)) (b:(List Int)) (r:Bool) (h:taskmillref_Ints xa b = some r):SpecW Try.prog 18 [.sl xa.length (fl xa),.sl b.length (fl b)] [] 0 (fun x h n=>x = bS r∧h = []∧n = 0):=by
 unfold taskmillref_Ints at h
 refine spec_of (draw_ok _) Try.func18 rfl (by decide) rfl (by kernel_rfl) ?_
 refine seq_np ?_
 refine reg_f ?_
 refine rk 1 ?_
 refine rf [(0,.sl xa.length (fl xa)),(1,.sl b.length (fl b))] [] 0 (by kernel_rfl) ?_
 refine wk_id ?_
 refine seq_np ?_
 refine seq_np ?_
 refine reg_f ?_
 refine rk 5 ?_
 refine rf [(0,.sl xa.length (fl xa)),(1,.sl b.length (fl b)),(10,bS ((xa.length:Int) != (b.length:Int)))] [] 0 (by kernel_rfl) ?_
 refine wk_id ?_
 refine cond_sx h (by kernel_rfl) (fun g3577 h=>?_) (fun g3577 h=>?_)
 ·refine seq_np ?_
  refine reg_f ?_
  refine rk 1 ?_
  refine rf [(4,bS false)] [] 0 (by kernel_rfl) ?_
  refine wk_id ?_
  obtain rfl:=Option.some.inj h
  refine ret_at (bS false) (by kernel_rfl) ?_
  exact ret_e [] [] (by simp only [bitvec_to_nat,push_cast,seval]) (by simp only [bitvec_to_nat,push_cast,seval]) rfl rfl rfl
 ·refine wk_id ?_
  refine seq_np ?_
  refine seq_np ?_
  refine reg_f ?_
  refine rk 1 ?_
  refine rf [(0,.sl xa.length (fl xa)),(1,.sl b.length (fl b)),(5,iS 0)] [] 0 (by kernel_rfl) ?_
  refine wk_id ?_
  refine block_np ?_
  refine loop_sx (S:=Int) (fun a=>([(0,.sl xa.length (fl xa)),(1,.sl b.length (fl b)),(5,iS a)],[],0)) h (leSt_m [] [] (by simp only [bitvec_to_nat,push_cast,seval]) (by simp only [bitvec_to_nat,push_cast,seval]) rfl rfl rfl) ?_
  rintro i7 o2 R2 h hr2 hn2 hx2 ht2
  try dsimp only at h hn2 ⊢
  unfold taskmillref_Ints_l1 at h
  try dsimp only at h
  refine seq_np ?_
  refine seq_np ?_
  refine reg_f ?_
  refine rk 4 ?_
  refine rf [(0,.sl xa.length (fl xa)),(1,.sl b.length (fl b)),(5,iS i7),(14,bS (decide (i7 < (xa.length:Int))))] [] 0 (by kernel_rfl) ?_
  refine wk_id ?_
  refine cond_sx h (by kernel_rfl) (fun g3576 h=>?_) (fun g3576 h=>?_)
  ·refine wk_id ?_
   refine seq_np ?_
   refine block_np ?_
   refine chk_sx h (fun g3572 h=>?_)
   refine chk_sx h (fun g3574 h=>?_)
   refine seq_np ?_
   refine reg_t ?_
   have k3571:0≤i7∧i7 < (xa.length:Int):=by first | simpa only [Bool.and_eq_true,decide_eq_true_eq,bne_iff_ne,ne_eq] using g3572 | (simp at g3572 ⊢; omega)
   have k3573:0≤i7∧i7 < (b.length:Int):=by first | simpa only [Bool.and_eq_true,decide_eq_true_eq,bne_iff_ne,ne_eq] using g3574 | (simp at g3574 ⊢; omega)
   refine rs 9 [none,none,some ⟨.iptr (fl xa) ((i7).toNat * 1),[],2,[]⟩,some ⟨iS (ix xa i7),[],3,[]⟩,none,none,some ⟨.iptr (fl b) ((i7).toNat * 1),[],6,[]⟩,some ⟨iS (ix b i7),[],7,[]⟩] _ (by kernel_rfl) (allP_cons (ob_ld b i7 1 0 ((i7).toNat * 1) k3573 rfl (by decide) (by first | rfl | omega) (dflS Try.prog 3) (iS (ix b i7)) rfl 7 []) (allP_cons (ob_ix_l b 1 6 i7 k3573) (allP_cons (ob_ld xa i7 1 0 ((i7).toNat * 1) k3571 rfl (by decide) (by first | rfl | omega) (dflS Try.prog 3) (iS (ix xa i7)) rfl 3 []) (allP_cons (ob_ix_l xa 1 2 i7 k3571) allP_nil)))) ?_
   refine rt [(0,.sl xa.length (fl xa)),(1,.sl b.length (fl b)),(5,iS i7),(25,bS ((ix xa i7) != (ix b i7)))] [] 9 follows (by kernel_rfl) ?_
   refine wk_id ?_
   refine cond_sx h (by kernel_rfl) (fun g3575 h=>?_) (fun g3575 h=>?_)
   ·refine seq_np ?_
    refine reg_f ?_
    refine rk 1 ?_
    refine rf [(4,bS false)] [] 9 (by kernel_rfl) ?_
    refine wk_id ?_
    refine rt_cast ht2 ?_
    obtain ⟨r0,h,e0⟩:=map_sx h
    have e1:=hr2 r0 e0.symm
    subst r0
    obtain rfl:=Option.some.inj h
    refine ret_at (bS false) (by kernel_rfl) ?_
    exact ret_e [] [] (by simp only [bitvec_to_nat,push_cast,seval]) (by simp only [bitvec_to_nat,push_cast,seval]) rfl rfl rfl
   ·refine wk_id ?_
    refine wk_id ?_
    refine reg_f ?_
    refine rk 3 ?_
    refine rf [(0,.sl xa.length (fl xa)),(1,.sl b.length (fl b)),(5,iS (IntKind.i64.wrap (i7+1)))] [] 9 (by kernel_rfl) ?_
    exact hn2 ((IntKind.i64.wrap (i7+1))) _ _ _ (Option.some.inj h).symm (leSt_m [] [] (by simp only [bitvec_to_nat,push_cast,seval]) (by simp only [bitvec_to_nat,push_cast,seval]) rfl rfl rfl)
  ·change R2 (.exit 0) _ _ _
   refine ex_cast hx2 (id:=0) ?_
   obtain ⟨r0,h,e0⟩:=map_sx h
   have e1:=hr2 r0 e0.symm
   subst r0
   refine wk_id ?_
   refine wk_id ?_
   refine seq_np ?_
   refine reg_f ?_
   refine rk 1 ?_
   refine rf [(4,bS true)] [] 0 (by kernel_rfl) ?_
   refine wk_id ?_
   obtain rfl:=Option.some.inj h
   refine ret_at (bS true) (by kernel_rfl) ?_
   exact ret_e [] [] (by simp only [bitvec_to_nat,push_cast,seval]) (by simp only [bitvec_to_nat,push_cast,seval]) rfl rfl rfl

set_option maxRecDepth 100000 in
set_option maxHeartbeats 200000000 in
theorem taskmillref_nextOf_spec (t:(List GEvent)) (task:Int) (i:Int) (r:Int) (h:taskmillref_nextOf t task i = some r):SpecW Try.prog 46 [.sl t.length (fl t),iS task,iS i] [] 0 (fun x h n=>x = iS r∧h = []∧n = 0):=by
 unfold taskmillref_nextOf at h
 refine spec_of (draw_ok _) Try.func46 rfl (by decide) rfl (by kernel_rfl) ?_
 refine seq_np ?_
 refine reg_f ?_
 refine rk 1 ?_
 refine rf [(0,.sl t.length (fl t)),(1,iS task),(2,iS i)] [] 0 (by kernel_rfl) ?_
 refine wk_id ?_
 refine seq_np ?_
 refine seq_np ?_
 refine reg_f ?_
 refine rk 3 ?_
 refine rf [(0,.sl t.length (fl t)),(1,iS task),(7,iS (IntKind.i64.wrap (i+1)))] [] 0 (by kernel_rfl) ?_
 refine wk_id ?_
 refine block_np ?_
 refine loop_sx (S:=Int) (fun a=>([(0,.sl t.length (fl t)),(1,iS task),(7,iS a)],[],0)) h (leSt_m [] [] (by simp only [bitvec_to_nat,push_cast,seval]) (by simp only [bitvec_to_nat,push_cast,seval]) rfl rfl rfl) ?_
 rintro k7 o2 R2 h hr2 hn2 hx2 ht2
 try dsimp only at h hn2 ⊢
 unfold taskmillref_nextOf_l1 at h
 try dsimp only at h
 refine seq_np ?_
 refine seq_np ?_
 refine reg_f ?_
 refine rk 4 ?_
 refine rf [(0,.sl t.length (fl t)),(1,iS task),(7,iS k7),(13,bS (decide (k7 < (t.length:Int))))] [] 0 (by kernel_rfl) ?_
 refine wk_id ?_
 refine cond_sx h (by kernel_rfl) (fun g3660 h=>?_) (fun g3660 h=>?_)
 ·refine wk_id ?_
  refine seq_np ?_
  refine block_np ?_
  refine chk_sx h (fun g3658 h=>?_)
  refine seq_np ?_
  refine reg_f ?_
  have k3657:0≤k7∧k7 < (t.length:Int):=by first | simpa only [Bool.and_eq_true,decide_eq_true_eq,bne_iff_ne,ne_eq] using g3658 | (simp at g3658 ⊢; omega)
  refine rs 7 [none,none,some ⟨.iptr (fl t) ((k7).toNat * 4),[],0,[]⟩,none,some ⟨iS (ix t k7).Task,[],0,[]⟩] _ (by kernel_rfl) (allP_cons (ob_ld t k7 4 0 (((k7).toNat * 4)+0) k3657 rfl (by decide) (by first | rfl | omega) (dflS Try.prog 3) (iS (ix t k7).Task) rfl 0 []) (allP_cons (ob_ix_l t 4 0 k7 k3657) allP_nil)) ?_
  refine rf [(0,.sl t.length (fl t)),(1,iS task),(7,iS k7),(22,bS ((ix t k7).Task == task))] [] 0 (by kernel_rfl) ?_
  refine wk_id ?_
  refine cond_sx h (by kernel_rfl) (fun g3659 h=>?_) (fun g3659 h=>?_)
  ·refine seq_np ?_
   refine reg_f ?_
   refine rk 2 ?_
   refine rf [(6,iS k7)] [] 0 (by kernel_rfl) ?_
   refine wk_id ?_
   refine rt_cast ht2 ?_
   obtain ⟨r0,h,e0⟩:=map_sx h
   have e1:=hr2 r0 e0.symm
   subst r0
   obtain rfl:=Option.some.inj h
   refine ret_at (iS k7) (by kernel_rfl) ?_
   exact ret_e [] [] (by simp only [bitvec_to_nat,push_cast,seval]) (by simp only [bitvec_to_nat,push_cast,seval]) rfl rfl rfl
  ·refine wk_id ?_
   refine wk_id ?_
   refine reg_f ?_
   refine rk 3 ?_
   refine rf [(0,.sl t.length (fl t)),(1,iS task),(7,iS (IntKind.i64.wrap (k7+1)))] [] 0 (by kernel_rfl) ?_
   exact hn2 ((IntKind.i64.wrap (k7+1))) _ _ _ (Option.some.inj h).symm (leSt_m [] [] (by simp only [bitvec_to_nat,push_cast,seval]) (by simp only [bitvec_to_nat,push_cast,seval]) rfl rfl rfl)
 ·change R2 (.exit 0) _ _ _
  refine ex_cast hx2 (id:=0) ?_
  obtain ⟨r0,h,e0⟩:=map_sx h
  have e1:=hr2 r0 e0.symm
  subst r0
  refine wk_id ?_
  refine wk_id ?_
  refine seq_np ?_
  refine reg_f ?_
  refine rk 1 ?_
  refine rf [(6,iS (-1))] [] 0 (by kernel_rfl) ?_
  refine wk_id ?_
  obtain rfl:=Option.some.inj h
  refine ret_at (iS (-1)) (by kernel_rfl) ?_
  exact ret_e [] [] (by simp only [bitvec_to_nat,push_cast,seval]) (by simp only [bitvec_to_nat,push_cast,seval]) rfl rfl rfl

set_option maxRecDepth 100000 in
set_option maxHeartbeats 200000000 in
theorem taskmillref_Edges_1_1_spec (xa:Int) (b:Int) (c1:(List (List Int))) (r:(List (List Int))) (h:taskmillref_Edges_1_1 xa b c1 = some r):SpecW Try.prog 45 [iS xa,iS b,.ptr 0 0] [(0,.row 35 [.own 1 0 c1.length]),(1,.row 23 (flD dLListInt [2] c1)),((.s 2 0),.fam (famD dLListInt 0 c1))] 3 (fun x h n=>x = .tup []∧h = [(0,.row 35 [.own 1 0 r.length]),(1,.row 23 (flD dLListInt [3] r)),((.s 2 0),.dead),((.s 3 0),.fam (famD dLListInt 0 r))]∧n = 4):=by
 unfold taskmillref_Edges_1_1 at h
 refine spec_of (draw_ok _) Try.func45 rfl (by decide) rfl (by kernel_rfl) ?_
 refine seq_np ?_
 refine reg_f ?_
 refine rk 3 ?_
 refine rf [(0,iS xa),(1,iS b),(2,.ptr 0 0),(7,bS (decide (xa < b)))] [(0,.row 35 [.own 1 0 c1.length]),(1,.row 23 (flD dLListInt [2] c1)),((.s 2 0),.fam (famD dLListInt 0 c1))] 3 (by kernel_rfl) ?_
 refine wk_id ?_
 refine cond_sx h (by kernel_rfl) (fun g3683 h=>?_) (fun g3683 h=>?_)
 ·refine chk_sx h (fun g3678 h=>?_)
  refine chk_sx h (fun g3680 h=>?_)
  refine chk_sx h (fun g3682 h=>?_)
  refine reg_t ?_
  have k3677:0≤xa∧xa < (c1.length:Int):=by first | simpa only [Bool.and_eq_true,decide_eq_true_eq,bne_iff_ne,ne_eq] using g3678 | (simp at g3678 ⊢; omega)
  have k3679:((ixD c1 xa)++([b]:List Int)).length * 8≤140737488355328:=by first | simpa only [Bool.and_eq_true,decide_eq_true_eq,bne_iff_ne,ne_eq] using g3680 | (simp at g3680 ⊢; omega)
  have k3681:0≤xa∧xa < (c1.length:Int):=by first | simpa only [Bool.and_eq_true,decide_eq_true_eq,bne_iff_ne,ne_eq] using g3682 | (simp at g3682 ⊢; omega)
  refine rs 10 [none,none,none,none,some ⟨.ptr 1 (0+(xa).toNat * 1),[],7,[1]⟩,some ⟨.own (.s 2 xa) 0 (ixD c1 xa).length,[],8,[1]⟩,none,none,some ⟨.own 12 0 ((ixD c1 xa)++([b]:List Int)).length,[(12,.row 3 (fl ((ixD c1 xa)++([b]:List Int)))),((.s 2 0),.fam (upI (famD dLListInt 0 c1) xa (.dead)))],13,[(.s 2 0),10]⟩,some ⟨.ptr 1 (0+(xa).toNat * 1),[],14,[1]⟩] _ (by kernel_rfl) (allP_cons (ob_ix_o 1 c1.length 0 1 14 xa k3681) (allP_cons (ob_appM (P:=Try.prog) dLListInt 0 c1 xa 2 (ixD c1 xa) ([b]:List Int) 1 8 rfl (appCells (fl ([b]:List Int)) 0 (([b]:List Int).length * 1)) ([b]:List Int).length (app_own ([b]:List Int) 1 rfl) rfl (0+([b]:List Int).length * 1≤(fl ([b]:List Int)).length) (app_own_le ([b]:List Int) 1 rfl) 3 (by kernel_rfl) (by decide) k3679 12 [10]) (allP_cons (ob_ldD dLListInt [2] c1 xa 1 0 (0+(xa).toNat * 1) k3677 rfl (by decide) (by first | rfl | omega) (dflS Try.prog 23) (.own (.s 2 xa) 0 (ixD c1 xa).length) rfl 8 [1]) (allP_cons (ob_ix_o 1 c1.length 0 1 7 xa k3677) allP_nil)))) ?_
  refine run_opGb none _ ⟨.any,[(1,.row 23 (flN dLListInt (nA [(some 2)] [(some (Nm.t 12))] xa) 0 (c1.set xa.toNat (((ixD c1 xa)++([b]:List Int)):(List Int)))))],15,[1]⟩ [((.s 15 0),.fam (famD dLListInt 0 (c1.set xa.toNat (((ixD c1 xa)++([b]:List Int)):(List Int))))),(1,.row 23 (flD dLListInt [15] (c1.set xa.toNat (((ixD c1 xa)++([b]:List Int)):(List Int))))),((.s 2 0),.dead),(12,.dead)] 1 [1,(.s 2 0),12] [(.s 2 0),12] (by kernel_rfl) (ob_stN (P:=Try.prog) dLListInt [2] [(some (Nm.t 12))] c1 xa 1 0 (0+(xa).toNat * 1) k3681 rfl [.own 12 0 ((ixD c1 xa)++([b]:List Int)).length] (((ixD c1 xa)++([b]:List Int)):(List Int)) (Nat.le_of_ble_eq_true rfl) (by first | rfl | omega) rfl rfl 1 15 23 23 (by kernel_rfl) rfl) (ghost_A 15 dLListInt (c1.set xa.toNat (((ixD c1 xa)++([b]:List Int)):(List Int))) 1 23 [(some 2)] [(some (Nm.t 12))] xa (flD dLListInt [15] (c1.set xa.toNat (((ixD c1 xa)++([b]:List Int)):(List Int)))) 0 (some 2) (some 12) (by kernel_rfl) (flN_done dLListInt [15] xa (c1.set xa.toNat (((ixD c1 xa)++([b]:List Int)):(List Int))) rfl) (by kernel_rfl) ⟨_,(by kernel_rfl),(off_hole c1 xa (((ixD c1 xa)++([b]:List Int)):(List Int)) k3681 (.dead))⟩ (S_set (fun a=>getH _ (.t 12) = chD dLListInt 0 a) k3681 rfl)) (by kernel_rfl) (And.intro (born_fam (upI (famD dLListInt 0 c1) xa (.dead)) (by kernel_rfl)) (And.intro (by kernel_rfl) trivial)) ?_
  refine run_eqH 0 (.row 35 [.own 1 0 c1.length]) (.row 35 [.own 1 0 (c1.set xa.toNat (((ixD c1 xa)++([b]:List Int)):(List Int))).length]) (congrArg (fun nq=>(.row 35 [.own 1 0 nq]:Chunk)) (show c1.length = (c1.set xa.toNat (((ixD c1 xa)++([b]:List Int)):(List Int))).length from (List.length_set ..).symm)) (by kernel_rfl) ?_
  refine rt [] [(0,.row 35 [.own 1 0 (c1.set xa.toNat (((ixD c1 xa)++([b]:List Int)):(List Int))).length]),(1,.row 23 (flD dLListInt [15] (c1.set xa.toNat (((ixD c1 xa)++([b]:List Int)):(List Int))))),((.s 2 0),.dead),(10,.row 3 (fl ([b]:List Int))),(12,.dead),((.s 15 0),.fam (famD dLListInt 0 (c1.set xa.toNat (((ixD c1 xa)++([b]:List Int)):(List Int)))))] 17 follows (by kernel_rfl) ?_
  obtain rfl:=Option.some.inj h
  refine ret_an (.tup []) (by kernel_rfl) ?_
  exact ret_e [(0,0),(1,1),((.s 3 0),(.s 15 0))] [] (by simp only [bitvec_to_nat,push_cast,seval]) (by simp only [bitvec_to_nat,push_cast,seval]) rfl rfl rfl
 ·obtain rfl:=Option.some.inj h
  refine ret_an (.tup []) (by kernel_rfl) ?_
  exact ret_e [(0,0),(1,1),((.s 3 0),(.s 2 0))] [] (by simp only [bitvec_to_nat,push_cast,seval]) (by simp only [bitvec_to_nat,push_cast,seval]) rfl rfl rfl

set_option maxRecDepth 100000 in
set_option maxHeartbeats 200000000 in
theorem taskmillref_Edges_spec (t:(List GEvent)) (pipes:(List Int)) (r:(List (List Int))) (h:taskmillref_Edges t pipes = some r):SpecW Try.prog 36 [.sl t.length (fl t),.sl pipes.length (fl pipes)] [] 0 (fun x h n=>x = .own 0 0 r.length∧h = [(0,.row 23 (flD dLListInt [1] r)),((.s 1 0),.fam (famD dLListInt 0 r))]∧n = 2):=by
 unfold taskmillref_Edges at h
 refine spec_of (draw_ok _) Try.func36 rfl (by decide) rfl (by kernel_rfl) ?_
 refine seq_np ?_
 refine reg_f ?_
 refine rk 1 ?_
 refine rf [(0,.sl t.length (fl t)),(1,.sl pipes.length (fl pipes))] [] 0 (by kernel_rfl) ?_
 refine wk_id ?_
 refine chk_sx h (fun g4573 h=>?_)
 refine seq_np ?_
 refine reg_f ?_
 have k4572:0≤(t.length:Int)∧(t.length:Int)≤4611686018427387904∧(24:Int) * (t.length:Int)≤140737488355328:=by first | simpa only [Bool.and_eq_true,decide_eq_true_eq,bne_iff_ne,ne_eq] using g4573 | (simp at g4573 ⊢; omega)
 refine rk 2 ?_
 refine run_opG (some 17) _ ⟨.own 0 0 (List.replicate ((t.length:Int)).toNat (default:(List Int))).length,[(0,.row 23 (flN dLListInt (nA (List.replicate 1 none) (List.replicate 1 none) (-1)) 0 (List.replicate ((t.length:Int)).toNat (default:(List Int)))))],1,[]⟩ [((.s 1 0),.fam (famD dLListInt 0 (List.replicate ((t.length:Int)).toNat (default:(List Int))))),(0,.row 23 (flD dLListInt [1] (List.replicate ((t.length:Int)).toNat (default:(List Int)))))] 1 [0] [] (by kernel_rfl) (ob_mkN (P:=Try.prog) dLListInt (t.length:Int) 23 24 (by kernel_rfl) [.v (.slice none 0 0)] rfl 1 rfl (by decide) k4572 1 0) (ghost_A 1 dLListInt (List.replicate ((t.length:Int)).toNat (default:(List Int))) 0 23 [none] [none] (-1) (flD dLListInt [1] (List.replicate ((t.length:Int)).toNat (default:(List Int)))) 0 none none (by kernel_rfl) (flN_done dLListInt [1] (-1) (List.replicate ((t.length:Int)).toNat (default:(List Int))) rfl) (by kernel_rfl) (offN_rep _ rfl _) (S_rep (fun a=>nilLeaf dLListInt 0 a) _)) (by kernel_rfl) ?_
 refine rk 2 ?_
 refine rf [(0,.sl t.length (fl t)),(1,.sl pipes.length (fl pipes)),(5,.ptr 2 0)] [(0,.row 23 (flD dLListInt [1] (List.replicate ((t.length:Int)).toNat (default:(List Int))))),((.s 1 0),.fam (famD dLListInt 0 (List.replicate ((t.length:Int)).toNat (default:(List Int))))),(2,.row 35 [.own 0 0 (List.replicate ((t.length:Int)).toNat (default:(List Int))).length])] 3 (by kernel_rfl) ?_
 refine wk_id ?_
 refine seq_np ?_
 refine reg_f ?_
 refine rk 2 ?_
 refine rf [(0,.sl t.length (fl t)),(1,.sl pipes.length (fl pipes)),(5,.ptr 2 0),(6,.clo 45 [.ptr 2 0])] [(0,.row 23 (flD dLListInt [1] (List.replicate ((t.length:Int)).toNat (default:(List Int))))),((.s 1 0),.fam (famD dLListInt 0 (List.replicate ((t.length:Int)).toNat (default:(List Int))))),(2,.row 35 [.own 0 0 (List.replicate ((t.length:Int)).toNat (default:(List Int))).length])] 3 (by kernel_rfl) ?_
 refine wk_id ?_
 refine seq_np ?_
 refine seq_np ?_
 refine reg_f ?_
 refine rk 1 ?_
 refine rf [(0,.sl t.length (fl t)),(1,.sl pipes.length (fl pipes)),(5,.ptr 2 0),(6,.clo 45 [.ptr 2 0]),(7,iS 0)] [(0,.row 23 (flD dLListInt [1] (List.replicate ((t.length:Int)).toNat (default:(List Int))))),((.s 1 0),.fam (famD dLListInt 0 (List.replicate ((t.length:Int)).toNat (default:(List Int))))),(2,.row 35 [.own 0 0 (List.replicate ((t.length:Int)).toNat (default:(List Int))).length])] 3 (by kernel_rfl) ?_
 refine wk_id ?_
 refine block_np ?_
 refine loop_sx (S:=Int×(List (List Int))) (fun a=>([(0,.sl t.length (fl t)),(1,.sl pipes.length (fl pipes)),(5,.ptr 0 0),(6,.clo 45 [.ptr 0 0]),(7,iS a.1)],[(0,.row 35 [.own 1 0 a.2.length]),(1,.row 23 (flD dLListInt [2] a.2)),((.s 2 0),.fam (famD dLListInt 0 a.2))],3)) h (leSt_m [(0,2),(1,0),((.s 2 0),(.s 1 0))] [] (by simp only [bitvec_to_nat,push_cast,seval]) (by simp only [bitvec_to_nat,push_cast,seval]) rfl rfl rfl) ?_
 rintro ⟨i16,c1q141⟩ o6 R6 h hr6 hn6 hx6 ht6
 try dsimp only at h hn6 ⊢
 unfold taskmillref_Edges_l5 at h
 try dsimp only at h
 refine seq_np ?_
 refine seq_np ?_
 refine reg_f ?_
 refine rk 4 ?_
 refine rf [(0,.sl t.length (fl t)),(1,.sl pipes.length (fl pipes)),(5,.ptr 0 0),(6,.clo 45 [.ptr 0 0]),(7,iS i16),(22,bS (decide (i16 < (t.length:Int))))] [(0,.row 35 [.own 1 0 c1q141.length]),(1,.row 23 (flD dLListInt [2] c1q141)),((.s 2 0),.fam (famD dLListInt 0 c1q141))] 3 (by kernel_rfl) ?_
 refine wk_id ?_
 refine cond_sx h (by kernel_rfl) (fun g8461 h=>?_) (fun g8461 h=>?_)
 ·refine wk_id ?_
  refine seq_np ?_
  refine block_np ?_
  refine chk_sx h (fun g5712 h=>?_)
  refine seq_np ?_
  refine reg_f ?_
  have k5711:0≤i16∧i16 < (t.length:Int):=by first | simpa only [Bool.and_eq_true,decide_eq_true_eq,bne_iff_ne,ne_eq] using g5712 | (simp at g5712 ⊢; omega)
  refine rs 9 [none,none,none,none,none,some ⟨.iptr (fl t) ((i16).toNat * 4),[],3,[]⟩,none,some ⟨iS (ix t i16).Task,[],3,[]⟩] _ (by kernel_rfl) (allP_cons (ob_ld t i16 4 0 (((i16).toNat * 4)+0) k5711 rfl (by decide) (by first | rfl | omega) (dflS Try.prog 3) (iS (ix t i16).Task) rfl 3 []) (allP_cons (ob_ix_l t 4 3 i16 k5711) allP_nil)) ?_
  obtain ⟨r5713,hr5713,h⟩:=bind_sx h
  refine run_call 46 [.sl t.length (fl t),iS (ix t i16).Task,iS i16] (some 34) (by kernel_rfl) ?_
  refine call_0 (taskmillref_nextOf_spec t (ix t i16).Task i16 r5713 hr5713) (by simp only [bitvec_to_nat,push_cast,seval]) (by simp only [bitvec_to_nat,push_cast,seval]) ?_
  refine back_f ?_
  obtain ⟨r5714,hr5714,h⟩:=bind_sx h
  refine call_x (taskmillref_Edges_1_1_spec i16 r5713 c1q141 r5714 hr5714) (args:=[iS i16,iS r5713,.ptr 0 0]) (dst:=(some 35)) (by kernel_rfl) [(0,.row 35 [.own 1 0 c1q141.length]),(1,.row 23 (flD dLListInt [2] c1q141)),((.s 2 0),.fam (famD dLListInt 0 c1q141))] 3 (by kernel_rfl) [(0,0),(1,1),((.s 2 0),(.s 2 0))] [] (.tup []) [(0,.row 35 [.own 1 0 r5714.length]),(1,.row 23 (flD dLListInt [6] r5714)),((.s 2 0),.dead),((.s 6 0),.fam (famD dLListInt 0 r5714)),(0,.dead),(1,.dead),((.s 2 0),.dead)] (by simp only [bitvec_to_nat,push_cast,seval]) (by simp only [bitvec_to_nat,push_cast,seval]) (by kernel_rfl) (.inl rfl) (by first | (simp only [bitvec_to_nat,push_cast,seval]; done) | (simp only [bitvec_to_nat,push_cast,seval]; kernel_rfl) | kernel_rfl) (by first | (simp only [bitvec_to_nat,push_cast,seval]; done) | (simp only [bitvec_to_nat,push_cast,seval]; kernel_rfl) | kernel_rfl) ?_ (hfam:=(And.intro trivial (And.intro trivial (And.intro (fun _=>Or.inl rfl) trivial))))
  refine rf [(0,.sl t.length (fl t)),(1,.sl pipes.length (fl pipes)),(5,.ptr 0 0),(6,.clo 45 [.ptr 0 0]),(7,iS i16)] [(0,.row 35 [.own 1 0 r5714.length]),(1,.row 23 (flD dLListInt [6] r5714)),((.s 2 0),.dead),((.s 6 0),.fam (famD dLListInt 0 r5714))] 7 (by kernel_rfl) ?_
  refine wk_id ?_
  refine seq_cut (A:=(List (List Int))) (fun a=>([(0,.sl t.length (fl t)),(1,.sl pipes.length (fl pipes)),(5,.ptr 0 0),(6,.clo 45 [.ptr 0 0]),(7,iS i16)],[(0,.row 35 [.own 1 0 a.length]),(1,.row 23 (flD dLListInt [2] a)),((.s 2 0),.fam (famD dLListInt 0 a))],3)) (fun a=>(taskmillref_Edges_j3 t pipes i16 a) = some o6) (fun K5725 hK5725=>?_) ?_
  ·refine chk_sx h (fun g5729 h=>?_)
   refine seq_np ?_
   refine reg_f ?_
   have k5728:0≤i16∧i16 < (t.length:Int):=by first | simpa only [Bool.and_eq_true,decide_eq_true_eq,bne_iff_ne,ne_eq] using g5729 | (simp at g5729 ⊢; omega)
   refine rs 6 [none,none,some ⟨.iptr (fl t) ((i16).toNat * 4),[],7,[]⟩,none,some ⟨iS (ix t i16).Op,[],7,[]⟩] _ (by kernel_rfl) (allP_cons (ob_ld t i16 4 1 (((i16).toNat * 4)+1) k5728 rfl (by decide) (by first | rfl | omega) (dflS Try.prog 3) (iS (ix t i16).Op) rfl 7 []) (allP_cons (ob_ix_l t 4 7 i16 k5728) allP_nil)) ?_
   refine rf [(0,.sl t.length (fl t)),(1,.sl pipes.length (fl pipes)),(5,.ptr 0 0),(6,.clo 45 [.ptr 0 0]),(7,iS i16),(41,bS ((ix t i16).Op == 11))] [(0,.row 35 [.own 1 0 r5714.length]),(1,.row 23 (flD dLListInt [6] r5714)),((.s 2 0),.dead),((.s 6 0),.fam (famD dLListInt 0 r5714))] 7 (by kernel_rfl) ?_
   refine wk_id ?_
   refine cond_sx h (by kernel_rfl) (fun g5740 h=>?_) (fun g5740 h=>?_)
   ·refine chk_sx h (fun g5736 h=>?_)
    refine reg_f ?_
    have k5735:0≤i16∧i16 < (t.length:Int):=by first | simpa only [Bool.and_eq_true,decide_eq_true_eq,bne_iff_ne,ne_eq] using g5736 | (simp at g5736 ⊢; omega)
    refine rs 9 [none,none,none,none,none,some ⟨.iptr (fl t) ((i16).toNat * 4),[],7,[]⟩,none,some ⟨iS (ix t i16).Value,[],7,[]⟩] _ (by kernel_rfl) (allP_cons (ob_ld t i16 4 3 (((i16).toNat * 4)+3) k5735 rfl (by decide) (by first | rfl | omega) (dflS Try.prog 3) (iS (ix t i16).Value) rfl 7 []) (allP_cons (ob_ix_l t 4 7 i16 k5735) allP_nil)) ?_
    obtain ⟨r5737,hr5737,h⟩:=bind_sx h
    refine run_call 46 [.sl t.length (fl t),iS (ix t i16).Value,iS i16] (some 51) (by kernel_rfl) ?_
    refine call_0 (taskmillref_nextOf_spec t (ix t i16).Value i16 r5737 hr5737) (by simp only [bitvec_to_nat,push_cast,seval]) (by simp only [bitvec_to_nat,push_cast,seval]) ?_
    refine back_f ?_
    obtain ⟨r5738,hr5738,h⟩:=bind_sx h
    refine call_x (taskmillref_Edges_1_1_spec i16 r5737 r5714 r5738 hr5738) (args:=[iS i16,iS r5737,.ptr 0 0]) (dst:=(some 52)) (by kernel_rfl) [(0,.row 35 [.own 1 0 r5714.length]),(1,.row 23 (flD dLListInt [6] r5714)),((.s 2 0),.dead),((.s 6 0),.fam (famD dLListInt 0 r5714))] 7 (by kernel_rfl) [(0,0),(1,1),((.s 2 0),(.s 6 0))] [] (.tup []) [(0,.row 35 [.own 1 0 r5738.length]),(1,.row 23 (flD dLListInt [10] r5738)),((.s 6 0),.dead),((.s 10 0),.fam (famD dLListInt 0 r5738)),(0,.dead),(1,.dead),((.s 6 0),.dead)] (by simp only [bitvec_to_nat,push_cast,seval]) (by simp only [bitvec_to_nat,push_cast,seval]) (by kernel_rfl) (.inl rfl) (by first | (simp only [bitvec_to_nat,push_cast,seval]; done) | (simp only [bitvec_to_nat,push_cast,seval]; kernel_rfl) | kernel_rfl) (by first | (simp only [bitvec_to_nat,push_cast,seval]; done) | (simp only [bitvec_to_nat,push_cast,seval]; kernel_rfl) | kernel_rfl) ?_ (hfam:=(And.intro trivial (And.intro trivial (And.intro (fun _=>Or.inl rfl) trivial))))
    refine rf [(0,.sl t.length (fl t)),(1,.sl pipes.length (fl pipes)),(5,.ptr 0 0),(6,.clo 45 [.ptr 0 0]),(7,iS i16)] [(0,.row 35 [.own 1 0 r5738.length]),(1,.row 23 (flD dLListInt [10] r5738)),((.s 2 0),.dead),((.s 6 0),.dead),((.s 10 0),.fam (famD dLListInt 0 r5738))] 11 (by kernel_rfl) ?_
    exact hK5725 (r5738) _ _ _ h (leSt_m [(0,0),(1,1),((.s 2 0),(.s 10 0))] [] (by simp only [bitvec_to_nat,push_cast,seval]) (by simp only [bitvec_to_nat,push_cast,seval]) rfl rfl rfl)
   ·exact hK5725 (r5714) _ _ _ h (leSt_m [(0,0),(1,1),((.s 2 0),(.s 6 0))] [] (by simp only [bitvec_to_nat,push_cast,seval]) (by simp only [bitvec_to_nat,push_cast,seval]) rfl rfl rfl)
  ·rintro c1q160 h
   try dsimp only at h ⊢
   unfold taskmillref_Edges_j3 at h
   refine seq_np ?_
   refine reg_f ?_
   refine rk 3 ?_
   refine rf [(0,.sl t.length (fl t)),(1,.sl pipes.length (fl pipes)),(5,.ptr 0 0),(6,.clo 45 [.ptr 0 0]),(7,iS i16),(8,iS (IntKind.i64.wrap (i16+1)))] [(0,.row 35 [.own 1 0 c1q160.length]),(1,.row 23 (flD dLListInt [2] c1q160)),((.s 2 0),.fam (famD dLListInt 0 c1q160))] 3 (by kernel_rfl) ?_
   refine wk_id ?_
   refine block_np ?_
   refine loop_sx (S:=Int×(List (List Int))) (fun a=>([(0,.sl t.length (fl t)),(1,.sl pipes.length (fl pipes)),(5,.ptr 0 0),(6,.clo 45 [.ptr 0 0]),(7,iS i16),(8,iS a.1)],[(0,.row 35 [.own 1 0 a.2.length]),(1,.row 23 (flD dLListInt [2] a.2)),((.s 2 0),.fam (famD dLListInt 0 a.2))],3)) h (leSt_m [(0,0),(1,1),((.s 2 0),(.s 2 0))] [] (by simp only [bitvec_to_nat,push_cast,seval]) (by simp only [bitvec_to_nat,push_cast,seval]) rfl rfl rfl) ?_
   rintro ⟨k35,c1q174⟩ o7 R7 h hr7 hn7 hx7 ht7
   try dsimp only at h hn7 ⊢
   unfold taskmillref_Edges_l1 at h
   try dsimp only at h
   refine seq_np ?_
   refine seq_np ?_
   refine reg_f ?_
   refine rk 4 ?_
   refine rf [(0,.sl t.length (fl t)),(1,.sl pipes.length (fl pipes)),(5,.ptr 0 0),(6,.clo 45 [.ptr 0 0]),(7,iS i16),(8,iS k35),(58,bS (decide (k35 < (t.length:Int))))] [(0,.row 35 [.own 1 0 c1q174.length]),(1,.row 23 (flD dLListInt [2] c1q174)),((.s 2 0),.fam (famD dLListInt 0 c1q174))] 3 (by kernel_rfl) ?_
   refine wk_id ?_
   refine cond_sx h (by kernel_rfl) (fun g6040 h=>?_) (fun g6040 h=>?_)
   ·refine wk_id ?_
    refine seq_np ?_
    refine block_cut (A:=(List (List Int))) (fun a=>([(0,.sl t.length (fl t)),(1,.sl pipes.length (fl pipes)),(5,.ptr 0 0),(6,.clo 45 [.ptr 0 0]),(7,iS i16),(8,iS k35)],[(0,.row 35 [.own 1 0 a.length]),(1,.row 23 (flD dLListInt [2] a)),((.s 2 0),.fam (famD dLListInt 0 a))],3)) (fun a=>(taskmillref_Edges_j1 t pipes i16 k35 a) = some o7) (fun K5965 hK5965=>?_) ?_
    ·refine seq_np ?_
     refine chk_sx h (fun g5976 h=>?_)
     refine chk_sx h (fun g5978 h=>?_)
     refine seq_np ?_
     refine reg_t ?_
     have k5975:0≤k35∧k35 < (t.length:Int):=by first | simpa only [Bool.and_eq_true,decide_eq_true_eq,bne_iff_ne,ne_eq] using g5976 | (simp at g5976 ⊢; omega)
     have k5977:0≤i16∧i16 < (t.length:Int):=by first | simpa only [Bool.and_eq_true,decide_eq_true_eq,bne_iff_ne,ne_eq] using g5978 | (simp at g5978 ⊢; omega)
     refine rs 11 [none,none,some ⟨.iptr (fl t) ((k35).toNat * 4),[],5,[]⟩,none,some ⟨iS (ix t k35).Obj,[],7,[]⟩,none,none,some ⟨.iptr (fl t) ((i16).toNat * 4),[],10,[]⟩,none,some ⟨iS (ix t i16).Obj,[],12,[]⟩] _ (by kernel_rfl) (allP_cons (ob_ld t i16 4 2 (((i16).toNat * 4)+2) k5977 rfl (by decide) (by first | rfl | omega) (dflS Try.prog 3) (iS (ix t i16).Obj) rfl 12 []) (allP_cons (ob_ix_l t 4 10 i16 k5977) (allP_cons (ob_ld t k35 4 2 (((k35).toNat * 4)+2) k5975 rfl (by decide) (by first | rfl | omega) (dflS Try.prog 3) (iS (ix t k35).Obj) rfl 7 []) (allP_cons (ob_ix_l t 4 5 k35 k5975) allP_nil)))) ?_
     refine rt [(0,.sl t.length (fl t)),(1,.sl pipes.length (fl pipes)),(5,.ptr 0 0),(6,.clo 45 [.ptr 0 0]),(7,iS i16),(8,iS k35),(71,bS ((ix t k35).Obj != (ix t i16).Obj))] [(0,.row 35 [.own 1 0 c1q174.length]),(1,.row 23 (flD dLListInt [2] c1q174)),((.s 2 0),.fam (famD dLListInt 0 c1q174))] 14 follows (by kernel_rfl) ?_
     refine wk_id ?_
     refine cond_sx h (by kernel_rfl) (fun g6039 h=>?_) (fun g6039 h=>?_)
     ·exact hK5965 (c1q174) _ _ _ h (leSt_m [(0,0),(1,1),((.s 2 0),(.s 2 0))] [] (by simp only [bitvec_to_nat,push_cast,seval]) (by simp only [bitvec_to_nat,push_cast,seval]) rfl rfl rfl)
     ·refine wk_id ?_
      refine seq_cut (A:=(List (List Int))) (fun a=>([(0,.sl t.length (fl t)),(1,.sl pipes.length (fl pipes)),(5,.ptr 0 0),(6,.clo 45 [.ptr 0 0]),(7,iS i16),(8,iS k35)],[(0,.row 35 [.own 1 0 a.length]),(1,.row 23 (flD dLListInt [2] a)),((.s 2 0),.fam (famD dLListInt 0 a))],3)) (fun a=>(taskmillref_Edges_j2 t pipes i16 k35 a) = some o7) (fun K5994 hK5994=>?_) ?_
      ·refine chk_sx h (fun g6008 h=>?_)
       refine chk_sx h (fun g6011 h=>?_)
       refine chk_sx h (fun g6014 h=>?_)
       refine chk_sx h (fun g6017 h=>?_)
       refine seq_cut (A:=Unit) (fun _=>([(0,.sl t.length (fl t)),(1,.sl pipes.length (fl pipes)),(5,.ptr 0 0),(6,.clo 45 [.ptr 0 0]),(7,iS i16),(8,iS k35),(101,bS (((ix t i16).Op == 18) && (((ix t k35).Op == 17) && (((ix t i16).Value == 1) || ((ix t k35).Value == 1)))))],[(0,.row 35 [.own 1 0 c1q174.length]),(1,.row 23 (flD dLListInt [2] c1q174)),((.s 2 0),.fam (famD dLListInt 0 c1q174))],14)) (fun _=>True) (fun K6006 hK6006=>?_) (fun _ _=>?_)
       ·refine reg_f ?_
        have k6007:0≤i16∧i16 < (t.length:Int):=by first | simpa only [Bool.and_eq_true,decide_eq_true_eq,bne_iff_ne,ne_eq] using g6008 | (simp at g6008 ⊢; omega)
        refine rs 7 [none,none,some ⟨.iptr (fl t) ((i16).toNat * 4),[],14,[]⟩,none,some ⟨iS (ix t i16).Op,[],14,[]⟩] _ (by kernel_rfl) (allP_cons (ob_ld t i16 4 1 (((i16).toNat * 4)+1) k6007 rfl (by decide) (by first | rfl | omega) (dflS Try.prog 3) (iS (ix t i16).Op) rfl 14 []) (allP_cons (ob_ix_l t 4 14 i16 k6007) allP_nil)) ?_
        refine run_split 78 ((ix t i16).Op == 18) (.inl (by kernel_rfl)) (fun g6009=>?_) (fun g6009=>?_)
        ·have k6010:0≤k35∧k35 < (t.length:Int):=by have e:=or_use g6011 (by first | ((try simp only [g6009]) <;> rfl) | ((try simp only [g6009]); rfl) | (exfalso; clear h; simp_all; done)); first | simpa only [Bool.and_eq_true,decide_eq_true_eq,bne_iff_ne,ne_eq] using e | (simp at e ⊢; omega)
         refine rs 8 [none,none,some ⟨.iptr (fl t) ((k35).toNat * 4),[],14,[]⟩,none,some ⟨iS (ix t k35).Op,[],14,[]⟩] _ (by kernel_rfl) (allP_cons (ob_ld t k35 4 1 (((k35).toNat * 4)+1) k6010 rfl (by decide) (by first | rfl | omega) (dflS Try.prog 3) (iS (ix t k35).Op) rfl 14 []) (allP_cons (ob_ix_l t 4 14 k35 k6010) allP_nil)) ?_
         refine run_split 86 ((ix t k35).Op == 17) (.inl (by kernel_rfl)) (fun g6012=>?_) (fun g6012=>?_)
         ·have k6013:0≤i16∧i16 < (t.length:Int):=by have e:=or_use g6014 (by first | ((try simp only [g6009,g6012]) <;> rfl) | ((try simp only [g6009]); (try simp only [g6012]); rfl) | (exfalso; clear h; simp_all; done)); first | simpa only [Bool.and_eq_true,decide_eq_true_eq,bne_iff_ne,ne_eq] using e | (simp at e ⊢; omega)
          refine rs 7 [none,none,some ⟨.iptr (fl t) ((i16).toNat * 4),[],14,[]⟩,none,some ⟨iS (ix t i16).Value,[],14,[]⟩] _ (by kernel_rfl) (allP_cons (ob_ld t i16 4 3 (((i16).toNat * 4)+3) k6013 rfl (by decide) (by first | rfl | omega) (dflS Try.prog 3) (iS (ix t i16).Value) rfl 14 []) (allP_cons (ob_ix_l t 4 14 i16 k6013) allP_nil)) ?_
          refine run_split 93 ((ix t i16).Value == 1) (.inr (by kernel_rfl)) (fun g6015=>?_) (fun g6015=>?_)
          ·refine rn 22 [(0,.sl t.length (fl t)),(1,.sl pipes.length (fl pipes)),(5,.ptr 0 0),(6,.clo 45 [.ptr 0 0]),(7,iS i16),(8,iS k35),(86,bS true),(93,.gd true (bS true))] [(0,.row 35 [.own 1 0 c1q174.length]),(1,.row 23 (flD dLListInt [2] c1q174)),((.s 2 0),.fam (famD dLListInt 0 c1q174))] 14 (by kernel_rfl) ?_
           refine rk 8 ?_
           refine rf [(0,.sl t.length (fl t)),(1,.sl pipes.length (fl pipes)),(5,.ptr 0 0),(6,.clo 45 [.ptr 0 0]),(7,iS i16),(8,iS k35),(101,bS true)] [(0,.row 35 [.own 1 0 c1q174.length]),(1,.row 23 (flD dLListInt [2] c1q174)),((.s 2 0),.fam (famD dLListInt 0 c1q174))] 14 (by kernel_rfl) ?_
           exact hK6006 () _ _ _ trivial (leSt_m [(0,0),(1,1),((.s 2 0),(.s 2 0))] [] (by first | ((try simp only [g6009,g6012,g6015]) <;> simp only [bitvec_to_nat,push_cast,seval]; done) | ((try simp only [g6009]); (try simp only [g6012]); (try simp only [g6015]); simp only [bitvec_to_nat,push_cast,seval]; done) | (exfalso; clear h; simp_all; done)) (by first | ((try simp only [g6009,g6012,g6015]) <;> simp only [bitvec_to_nat,push_cast,seval]; done) | ((try simp only [g6009]); (try simp only [g6012]); (try simp only [g6015]); simp only [bitvec_to_nat,push_cast,seval]; done) | (exfalso; clear h; simp_all; done)) rfl rfl rfl)
          ·refine rn 22 [(0,.sl t.length (fl t)),(1,.sl pipes.length (fl pipes)),(5,.ptr 0 0),(6,.clo 45 [.ptr 0 0]),(7,iS i16),(8,iS k35),(86,bS true),(93,.gd true (bS false))] [(0,.row 35 [.own 1 0 c1q174.length]),(1,.row 23 (flD dLListInt [2] c1q174)),((.s 2 0),.fam (famD dLListInt 0 c1q174))] 14 (by kernel_rfl) ?_
           have k6016:0≤k35∧k35 < (t.length:Int):=by have e:=or_use g6017 (by first | ((try simp only [g6009,g6012,g6015]) <;> rfl) | ((try simp only [g6009]); (try simp only [g6012]); (try simp only [g6015]); rfl) | (exfalso; clear h; simp_all; done)); first | simpa only [Bool.and_eq_true,decide_eq_true_eq,bne_iff_ne,ne_eq] using e | (simp at e ⊢; omega)
           refine rs 8 [none,none,some ⟨.iptr (fl t) ((k35).toNat * 4),[],14,[]⟩,none,some ⟨iS (ix t k35).Value,[],14,[]⟩] _ (by kernel_rfl) (allP_cons (ob_ld t k35 4 3 (((k35).toNat * 4)+3) k6016 rfl (by decide) (by first | rfl | omega) (dflS Try.prog 3) (iS (ix t k35).Value) rfl 14 []) (allP_cons (ob_ix_l t 4 14 k35 k6016) allP_nil)) ?_
           refine rf [(0,.sl t.length (fl t)),(1,.sl pipes.length (fl pipes)),(5,.ptr 0 0),(6,.clo 45 [.ptr 0 0]),(7,iS i16),(8,iS k35),(101,bS ((ix t k35).Value == 1))] [(0,.row 35 [.own 1 0 c1q174.length]),(1,.row 23 (flD dLListInt [2] c1q174)),((.s 2 0),.fam (famD dLListInt 0 c1q174))] 14 (by kernel_rfl) ?_
           exact hK6006 () _ _ _ trivial (leSt_m [(0,0),(1,1),((.s 2 0),(.s 2 0))] [] (by first | ((try simp only [g6009,g6012,g6015]) <;> simp only [bitvec_to_nat,push_cast,seval]; done) | ((try simp only [g6009]); (try simp only [g6012]); (try simp only [g6015]); simp only [bitvec_to_nat,push_cast,seval]; done) | (exfalso; clear h; simp_all; done)) (by first | ((try simp only [g6009,g6012,g6015]) <;> simp only [bitvec_to_nat,push_cast,seval]; done) | ((try simp only [g6009]); (try simp only [g6012]); (try simp only [g6015]); simp only [bitvec_to_nat,push_cast,seval]; done) | (exfalso; clear h; simp_all; done)) rfl rfl rfl)
         ·refine rk 15 ?_
          refine rf [(0,.sl t.length (fl t)),(1,.sl pipes.length (fl pipes)),(5,.ptr 0 0),(6,.clo 45 [.ptr 0 0]),(7,iS i16),(8,iS k35),(101,bS false)] [(0,.row 35 [.own 1 0 c1q174.length]),(1,.row 23 (flD dLListInt [2] c1q174)),((.s 2 0),.fam (famD dLListInt 0 c1q174))] 14 (by kernel_rfl) ?_
          exact hK6006 () _ _ _ trivial (leSt_m [(0,0),(1,1),((.s 2 0),(.s 2 0))] [] (by first | ((try simp only [g6009,g6012]) <;> simp only [bitvec_to_nat,push_cast,seval]; done) | ((try simp only [g6009]); (try simp only [g6012]); simp only [bitvec_to_nat,push_cast,seval]; done) | (exfalso; clear h; simp_all; done)) (by first | ((try simp only [g6009,g6012]) <;> simp only [bitvec_to_nat,push_cast,seval]; done) | ((try simp only [g6009]); (try simp only [g6012]); simp only [bitvec_to_nat,push_cast,seval]; done) | (exfalso; clear h; simp_all; done)) rfl rfl rfl)
        ·refine rk 23 ?_
         refine rf [(0,.sl t.length (fl t)),(1,.sl pipes.length (fl pipes)),(5,.ptr 0 0),(6,.clo 45 [.ptr 0 0]),(7,iS i16),(8,iS k35),(101,bS false)] [(0,.row 35 [.own 1 0 c1q174.length]),(1,.row 23 (flD dLListInt [2] c1q174)),((.s 2 0),.fam (famD dLListInt 0 c1q174))] 14 (by kernel_rfl) ?_
         exact hK6006 () _ _ _ trivial (leSt_m [(0,0),(1,1),((.s 2 0),(.s 2 0))] [] (by (try simp only [g6009]) <;> simp only [bitvec_to_nat,push_cast,seval]) (by (try simp only [g6009]) <;> simp only [bitvec_to_nat,push_cast,seval]) rfl rfl rfl)
       ·dsimp only
        refine cond_sx h (by kernel_rfl) (fun g6022 h=>?_) (fun g6022 h=>?_)
        ·refine reg_f ?_
         refine rk 3 ?_
         obtain ⟨r6020,hr6020,h⟩:=bind_sx h
         refine call_x (taskmillref_Edges_1_1_spec i16 k35 c1q174 r6020 hr6020) (args:=[iS i16,iS k35,.ptr 0 0]) (dst:=(some 105)) (by kernel_rfl) [(0,.row 35 [.own 1 0 c1q174.length]),(1,.row 23 (flD dLListInt [2] c1q174)),((.s 2 0),.fam (famD dLListInt 0 c1q174))] 14 (by kernel_rfl) [(0,0),(1,1),((.s 2 0),(.s 2 0))] [] (.tup []) [(0,.row 35 [.own 1 0 r6020.length]),(1,.row 23 (flD dLListInt [17] r6020)),((.s 2 0),.dead),((.s 17 0),.fam (famD dLListInt 0 r6020)),(0,.dead),(1,.dead),((.s 2 0),.dead)] (by simp only [bitvec_to_nat,push_cast,seval]) (by simp only [bitvec_to_nat,push_cast,seval]) (by kernel_rfl) (.inl rfl) (by first | (simp only [bitvec_to_nat,push_cast,seval]; done) | (simp only [bitvec_to_nat,push_cast,seval]; kernel_rfl) | kernel_rfl) (by first | (simp only [bitvec_to_nat,push_cast,seval]; done) | (simp only [bitvec_to_nat,push_cast,seval]; kernel_rfl) | kernel_rfl) ?_ (hfam:=(And.intro trivial (And.intro trivial (And.intro (fun _=>Or.inl rfl) trivial))))
         refine rf [(0,.sl t.length (fl t)),(1,.sl pipes.length (fl pipes)),(5,.ptr 0 0),(6,.clo 45 [.ptr 0 0]),(7,iS i16),(8,iS k35)] [(0,.row 35 [.own 1 0 r6020.length]),(1,.row 23 (flD dLListInt [17] r6020)),((.s 2 0),.dead),((.s 17 0),.fam (famD dLListInt 0 r6020))] 18 (by kernel_rfl) ?_
         exact hK5994 (r6020) _ _ _ h (leSt_m [(0,0),(1,1),((.s 2 0),(.s 17 0))] [] (by simp only [bitvec_to_nat,push_cast,seval]) (by simp only [bitvec_to_nat,push_cast,seval]) rfl rfl rfl)
        ·exact hK5994 (c1q174) _ _ _ h (leSt_m [(0,0),(1,1),((.s 2 0),(.s 2 0))] [] (by simp only [bitvec_to_nat,push_cast,seval]) (by simp only [bitvec_to_nat,push_cast,seval]) rfl rfl rfl)
      ·rintro c1q179 h
       try dsimp only at h ⊢
       unfold taskmillref_Edges_j2 at h
       refine chk_sx h (fun g6030 h=>?_)
       refine chk_sx h (fun g6033 h=>?_)
       refine seq_cut (A:=Unit) (fun _=>([(0,.sl t.length (fl t)),(1,.sl pipes.length (fl pipes)),(5,.ptr 0 0),(6,.clo 45 [.ptr 0 0]),(7,iS i16),(8,iS k35),(119,bS (((ix t i16).Op == 19) && ((ix t k35).Op == 20)))],[(0,.row 35 [.own 1 0 c1q179.length]),(1,.row 23 (flD dLListInt [2] c1q179)),((.s 2 0),.fam (famD dLListInt 0 c1q179))],3)) (fun _=>True) (fun K6028 hK6028=>?_) (fun _ _=>?_)
       ·refine reg_f ?_
        have k6029:0≤i16∧i16 < (t.length:Int):=by first | simpa only [Bool.and_eq_true,decide_eq_true_eq,bne_iff_ne,ne_eq] using g6030 | (simp at g6030 ⊢; omega)
        refine rs 7 [none,none,some ⟨.iptr (fl t) ((i16).toNat * 4),[],3,[]⟩,none,some ⟨iS (ix t i16).Op,[],3,[]⟩] _ (by kernel_rfl) (allP_cons (ob_ld t i16 4 1 (((i16).toNat * 4)+1) k6029 rfl (by decide) (by first | rfl | omega) (dflS Try.prog 3) (iS (ix t i16).Op) rfl 3 []) (allP_cons (ob_ix_l t 4 3 i16 k6029) allP_nil)) ?_
        refine run_split 112 ((ix t i16).Op == 19) (.inl (by kernel_rfl)) (fun g6031=>?_) (fun g6031=>?_)
        ·have k6032:0≤k35∧k35 < (t.length:Int):=by have e:=or_use g6033 (by first | ((try simp only [g6031]) <;> rfl) | ((try simp only [g6031]); rfl) | (exfalso; clear h; simp_all; done)); first | simpa only [Bool.and_eq_true,decide_eq_true_eq,bne_iff_ne,ne_eq] using e | (simp at e ⊢; omega)
         refine rs 7 [none,none,some ⟨.iptr (fl t) ((k35).toNat * 4),[],3,[]⟩,none,some ⟨iS (ix t k35).Op,[],3,[]⟩] _ (by kernel_rfl) (allP_cons (ob_ld t k35 4 1 (((k35).toNat * 4)+1) k6032 rfl (by decide) (by first | rfl | omega) (dflS Try.prog 3) (iS (ix t k35).Op) rfl 3 []) (allP_cons (ob_ix_l t 4 3 k35 k6032) allP_nil)) ?_
         refine rf [(0,.sl t.length (fl t)),(1,.sl pipes.length (fl pipes)),(5,.ptr 0 0),(6,.clo 45 [.ptr 0 0]),(7,iS i16),(8,iS k35),(119,bS ((ix t k35).Op == 20))] [(0,.row 35 [.own 1 0 c1q179.length]),(1,.row 23 (flD dLListInt [2] c1q179)),((.s 2 0),.fam (famD dLListInt 0 c1q179))] 3 (by kernel_rfl) ?_
         exact hK6028 () _ _ _ trivial (leSt_m [(0,0),(1,1),((.s 2 0),(.s 2 0))] [] (by (try simp only [g6031]) <;> simp only [bitvec_to_nat,push_cast,seval]) (by (try simp only [g6031]) <;> simp only [bitvec_to_nat,push_cast,seval]) rfl rfl rfl)
        ·refine rk 7 ?_
         refine rf [(0,.sl t.length (fl t)),(1,.sl pipes.length (fl pipes)),(5,.ptr 0 0),(6,.clo 45 [.ptr 0 0]),(7,iS i16),(8,iS k35),(119,bS false)] [(0,.row 35 [.own 1 0 c1q179.length]),(1,.row 23 (flD dLListInt [2] c1q179)),((.s 2 0),.fam (famD dLListInt 0 c1q179))] 3 (by kernel_rfl) ?_
         exact hK6028 () _ _ _ trivial (leSt_m [(0,0),(1,1),((.s 2 0),(.s 2 0))] [] (by (try simp only [g6031]) <;> simp only [bitvec_to_nat,push_cast,seval]) (by (try simp only [g6031]) <;> simp only [bitvec_to_nat,push_cast,seval]) rfl rfl rfl)
       ·dsimp only
        refine cond_sx h (by kernel_rfl) (fun g6038 h=>?_) (fun g6038 h=>?_)
        ·refine reg_f ?_
         refine rk 3 ?_
         obtain ⟨r6036,hr6036,h⟩:=bind_sx h
         refine call_x (taskmillref_Edges_1_1_spec i16 k35 c1q179 r6036 hr6036) (args:=[iS i16,iS k35,.ptr 0 0]) (dst:=(some 123)) (by kernel_rfl) [(0,.row 35 [.own 1 0 c1q179.length]),(1,.row 23 (flD dLListInt [2] c1q179)),((.s 2 0),.fam (famD dLListInt 0 c1q179))] 3 (by kernel_rfl) [(0,0),(1,1),((.s 2 0),(.s 2 0))] [] (.tup []) [(0,.row 35 [.own 1 0 r6036.length]),(1,.row 23 (flD dLListInt [6] r6036)),((.s 2 0),.dead),((.s 6 0),.fam (famD dLListInt 0 r6036)),(0,.dead),(1,.dead),((.s 2 0),.dead)] (by simp only [bitvec_to_nat,push_cast,seval]) (by simp only [bitvec_to_nat,push_cast,seval]) (by kernel_rfl) (.inl rfl) (by first | (simp only [bitvec_to_nat,push_cast,seval]; done) | (simp only [bitvec_to_nat,push_cast,seval]; kernel_rfl) | kernel_rfl) (by first | (simp only [bitvec_to_nat,push_cast,seval]; done) | (simp only [bitvec_to_nat,push_cast,seval]; kernel_rfl) | kernel_rfl) ?_ (hfam:=(And.intro trivial (And.intro trivial (And.intro (fun _=>Or.inl rfl) trivial))))
         refine rf [(0,.sl t.length (fl t)),(1,.sl pipes.length (fl pipes)),(5,.ptr 0 0),(6,.clo 45 [.ptr 0 0]),(7,iS i16),(8,iS k35)] [(0,.row 35 [.own 1 0 r6036.length]),(1,.row 23 (flD dLListInt [6] r6036)),((.s 2 0),.dead),((.s 6 0),.fam (famD dLListInt 0 r6036))] 7 (by kernel_rfl) ?_
         exact hK5965 (r6036) _ _ _ h (leSt_m [(0,0),(1,1),((.s 2 0),(.s 6 0))] [] (by simp only [bitvec_to_nat,push_cast,seval]) (by simp only [bitvec_to_nat,push_cast,seval]) rfl rfl rfl)
        ·exact hK5965 (c1q179) _ _ _ h (leSt_m [(0,0),(1,1),((.s 2 0),(.s 2 0))] [] (by simp only [bitvec_to_nat,push_cast,seval]) (by simp only [bitvec_to_nat,push_cast,seval]) rfl rfl rfl)
    ·rintro c1q178 h
     try dsimp only at h ⊢
     unfold taskmillref_Edges_j1 at h
     refine wk_id ?_
     refine reg_f ?_
     refine rk 3 ?_
     refine rf [(0,.sl t.length (fl t)),(1,.sl pipes.length (fl pipes)),(5,.ptr 0 0),(6,.clo 45 [.ptr 0 0]),(7,iS i16),(8,iS (IntKind.i64.wrap (k35+1)))] [(0,.row 35 [.own 1 0 c1q178.length]),(1,.row 23 (flD dLListInt [2] c1q178)),((.s 2 0),.fam (famD dLListInt 0 c1q178))] 3 (by kernel_rfl) ?_
     exact hn7 ((IntKind.i64.wrap (k35+1)),c1q178) _ _ _ (Option.some.inj h).symm (leSt_m [(0,0),(1,1),((.s 2 0),(.s 2 0))] [] (by simp only [bitvec_to_nat,push_cast,seval]) (by simp only [bitvec_to_nat,push_cast,seval]) rfl rfl rfl)
   ·change R7 (.exit 2) _ _ _
    refine ex_cast hx7 (id:=2) ?_
    obtain ⟨r0,h,e0⟩:=map_sx h
    have e1:=hr7 r0 e0.symm
    subst r0
    refine wk_id ?_
    refine wk_id ?_
    refine wk_id ?_
    refine reg_f ?_
    refine rk 3 ?_
    refine rf [(0,.sl t.length (fl t)),(1,.sl pipes.length (fl pipes)),(5,.ptr 0 0),(6,.clo 45 [.ptr 0 0]),(7,iS (IntKind.i64.wrap (i16+1)))] [(0,.row 35 [.own 1 0 c1q174.length]),(1,.row 23 (flD dLListInt [2] c1q174)),((.s 2 0),.fam (famD dLListInt 0 c1q174))] 3 (by kernel_rfl) ?_
    exact hn6 ((IntKind.i64.wrap (i16+1)),c1q174) _ _ _ (Option.some.inj h).symm (leSt_m [(0,0),(1,1),((.s 2 0),(.s 2 0))] [] (by simp only [bitvec_to_nat,push_cast,seval]) (by simp only [bitvec_to_nat,push_cast,seval]) rfl rfl rfl)
 ·change R6 (.exit 0) _ _ _
  refine ex_cast hx6 (id:=0) ?_
  obtain ⟨r0,h,e0⟩:=map_sx h
  have e1:=hr6 r0 e0.symm
  subst r0
  refine wk_id ?_
  refine wk_id ?_
  refine seq_np ?_
  refine seq_np ?_
  refine reg_f ?_
  refine rk 1 ?_
  refine rf [(0,.sl t.length (fl t)),(1,.sl pipes.length (fl pipes)),(5,.ptr 0 0),(6,.clo 45 [.ptr 0 0]),(9,iS 0)] [(0,.row 35 [.own 1 0 c1q141.length]),(1,.row 23 (flD dLListInt [2] c1q141)),((.s 2 0),.fam (famD dLListInt 0 c1q141))] 3 (by kernel_rfl) ?_
  refine wk_id ?_
  refine block_np ?_
  refine loop_sx (S:=Int×(List (List Int))) (fun a=>([(0,.sl t.length (fl t)),(1,.sl pipes.length (fl pipes)),(5,.ptr 0 0),(6,.clo 45 [.ptr 0 0]),(9,iS a.1)],[(0,.row 35 [.own 1 0 a.2.length]),(1,.row 23 (flD dLListInt [2] a.2)),((.s 2 0),.fam (famD dLListInt 0 a.2))],3)) h (leSt_m [(0,0),(1,1),((.s 2 0),(.s 2 0))] [] (by simp only [bitvec_to_nat,push_cast,seval]) (by simp only [bitvec_to_nat,push_cast,seval]) rfl rfl rfl) ?_
  rintro ⟨p7,c1q273⟩ o8 R8 h hr8 hn8 hx8 ht8
  try dsimp only at h hn8 ⊢
  unfold taskmillref_Edges_l4 at h
  try dsimp only at h
  refine seq_np ?_
  refine seq_np ?_
  refine reg_f ?_
  refine rk 4 ?_
  refine rf [(0,.sl t.length (fl t)),(1,.sl pipes.length (fl pipes)),(5,.ptr 0 0),(6,.clo 45 [.ptr 0 0]),(9,iS p7),(127,bS (decide (p7 < (pipes.length:Int))))] [(0,.row 35 [.own 1 0 c1q273.length]),(1,.row 23 (flD dLListInt [2] c1q273)),((.s 2 0),.fam (famD dLListInt 0 c1q273))] 3 (by kernel_rfl) ?_
  refine wk_id ?_
  refine cond_sx h (by kernel_rfl) (fun g8460 h=>?_) (fun g8460 h=>?_)
  ·refine wk_id ?_
   refine seq_np ?_
   refine block_np ?_
   refine seq_np ?_
   refine reg_f ?_
   refine rk 2 ?_
   refine rf [(0,.sl t.length (fl t)),(1,.sl pipes.length (fl pipes)),(5,.ptr 0 0),(6,.clo 45 [.ptr 0 0]),(9,iS p7),(10,.v (.slice none 0 0)),(11,.v (.slice none 0 0))] [(0,.row 35 [.own 1 0 c1q273.length]),(1,.row 23 (flD dLListInt [2] c1q273)),((.s 2 0),.fam (famD dLListInt 0 c1q273))] 3 (by kernel_rfl) ?_
   refine wk_id ?_
   refine seq_np ?_
   refine reg_f ?_
   refine rk 1 ?_
   refine rf [(0,.sl t.length (fl t)),(1,.sl pipes.length (fl pipes)),(5,.ptr 0 0),(6,.clo 45 [.ptr 0 0]),(9,iS p7),(10,.v (.slice none 0 0)),(11,.v (.slice none 0 0)),(12,iS (-1))] [(0,.row 35 [.own 1 0 c1q273.length]),(1,.row 23 (flD dLListInt [2] c1q273)),((.s 2 0),.fam (famD dLListInt 0 c1q273))] 3 (by kernel_rfl) ?_
   refine wk_id ?_
   refine seq_np ?_
   refine seq_np ?_
   refine reg_f ?_
   refine rk 1 ?_
   refine rf [(0,.sl t.length (fl t)),(1,.sl pipes.length (fl pipes)),(5,.ptr 0 0),(6,.clo 45 [.ptr 0 0]),(9,iS p7),(10,.v (.slice none 0 0)),(11,.v (.slice none 0 0)),(12,iS (-1)),(13,iS 0)] [(0,.row 35 [.own 1 0 c1q273.length]),(1,.row 23 (flD dLListInt [2] c1q273)),((.s 2 0),.fam (famD dLListInt 0 c1q273))] 3 (by kernel_rfl) ?_
   refine wk_id ?_
   refine block_np ?_
   refine loop_sx (S:=Int×Int×(List Int)×(List Int)×(List (List Int))) (fun a=>([(0,.sl t.length (fl t)),(1,.sl pipes.length (fl pipes)),(5,.ptr 0 0),(6,.clo 45 [.ptr 0 0]),(9,iS p7),(10,.own 1 0 a.2.2.1.length),(11,.own 2 0 a.2.2.2.1.length),(12,iS a.1),(13,iS a.2.1)],[(0,.row 35 [.own 3 0 a.2.2.2.2.length]),(1,.row 3 (fl a.2.2.1)),(2,.row 3 (fl a.2.2.2.1)),(3,.row 23 (flD dLListInt [4] a.2.2.2.2)),((.s 4 0),.fam (famD dLListInt 0 a.2.2.2.2))],5)) h (leSt_m [(0,0),(3,1),((.s 4 0),(.s 2 0))] [] (by simp only [bitvec_to_nat,push_cast,seval]) (by simp only [bitvec_to_nat,push_cast,seval]) rfl rfl rfl) ?_
   rintro ⟨shut173,i55,c1q326,c2q125,c3q190⟩ o9 R9 h hr9 hn9 hx9 ht9
   try dsimp only at h hn9 ⊢
   unfold taskmillref_Edges_l3 at h
   try dsimp only at h
   refine seq_np ?_
   refine seq_np ?_
   refine reg_f ?_
   refine rk 4 ?_
   refine rf [(0,.sl t.length (fl t)),(1,.sl pipes.length (fl pipes)),(5,.ptr 0 0),(6,.clo 45 [.ptr 0 0]),(9,iS p7),(10,.own 1 0 c1q326.length),(11,.own 2 0 c2q125.length),(12,iS shut173),(13,iS i55),(133,bS (decide (i55 < (t.length:Int))))] [(0,.row 35 [.own 3 0 c3q190.length]),(1,.row 3 (fl c1q326)),(2,.row 3 (fl c2q125)),(3,.row 23 (flD dLListInt [4] c3q190)),((.s 4 0),.fam (famD dLListInt 0 c3q190))] 5 (by kernel_rfl) ?_
   refine wk_id ?_
   refine cond_sx h (by kernel_rfl) (fun g8459 h=>?_) (fun g8459 h=>?_)
   ·refine wk_id ?_
    refine seq_np ?_
    refine block_cut (A:=Int×(List Int)×(List Int)×(List (List Int))) (fun a=>([(0,.sl t.length (fl t)),(1,.sl pipes.length (fl pipes)),(5,.ptr 0 0),(6,.clo 45 [.ptr 0 0]),(9,iS p7),(10,.own 1 0 a.2.1.length),(11,.own 2 0 a.2.2.1.length),(12,iS a.1),(13,iS i55)],[(0,.row 35 [.own 3 0 a.2.2.2.length]),(1,.row 3 (fl a.2.1)),(2,.row 3 (fl a.2.2.1)),(3,.row 23 (flD dLListInt [4] a.2.2.2)),((.s 4 0),.fam (famD dLListInt 0 a.2.2.2))],5)) (fun a=>(taskmillref_Edges_j4 t pipes p7 i55 a.1 a.2.1 a.2.2.1 a.2.2.2) = some o9) (fun K8129 hK8129=>?_) ?_
    ·refine seq_np ?_
     refine chk_sx h (fun g8136 h=>?_)
     refine seq_np ?_
     refine reg_f ?_
     have k8135:0≤i55∧i55 < (t.length:Int):=by first | simpa only [Bool.and_eq_true,decide_eq_true_eq,bne_iff_ne,ne_eq] using g8136 | (simp at g8136 ⊢; omega)
     refine rs 7 [none,none,some ⟨.iptr (fl t) ((i55).toNat * 4),[],5,[]⟩,none,some ⟨iS (ix t i55).Obj,[],5,[]⟩] _ (by kernel_rfl) (allP_cons (ob_ld t i55 4 2 (((i55).toNat * 4)+2) k8135 rfl (by decide) (by first | rfl | omega) (dflS Try.prog 3) (iS (ix t i55).Obj) rfl 5 []) (allP_cons (ob_ix_l t 4 5 i55 k8135) allP_nil)) ?_
     refine rf [(0,.sl t.length (fl t)),(1,.sl pipes.length (fl pipes)),(5,.ptr 0 0),(6,.clo 45 [.ptr 0 0]),(9,iS p7),(10,.own 1 0 c1q326.length),(11,.own 2 0 c2q125.length),(12,iS shut173),(13,iS i55),(142,bS ((ix t i55).Obj != p7))] [(0,.row 35 [.own 3 0 c3q190.length]),(1,.row 3 (fl c1q326)),(2,.row 3 (fl c2q125)),(3,.row 23 (flD dLListInt [4] c3q190)),((.s 4 0),.fam (famD dLListInt 0 c3q190))] 5 (by kernel_rfl) ?_
     refine wk_id ?_
     refine cond_sx h (by kernel_rfl) (fun g8158 h=>?_) (fun g8158 h=>?_)
     ·exact hK8129 (shut173,c1q326,c2q125,c3q190) _ _ _ h (leSt_m [(0,0),(1,1),(2,2),(3,3),((.s 4 0),(.s 4 0))] [] (by simp only [bitvec_to_nat,push_cast,seval]) (by simp only [bitvec_to_nat,push_cast,seval]) rfl rfl rfl)
     ·refine wk_id ?_
      refine chk_sx h (fun g8140 h=>?_)
      refine seq_np ?_
      refine reg_f ?_
      have k8139:0≤i55∧i55 < (t.length:Int):=by first | simpa only [Bool.and_eq_true,decide_eq_true_eq,bne_iff_ne,ne_eq] using g8140 | (simp at g8140 ⊢; omega)
      refine rs 5 [none,none,some ⟨.iptr (fl t) ((i55).toNat * 4),[],5,[]⟩,none,some ⟨iS (ix t i55).Op,[],5,[]⟩] _ (by kernel_rfl) (allP_cons (ob_ld t i55 4 1 (((i55).toNat * 4)+1) k8139 rfl (by decide) (by first | rfl | omega) (dflS Try.prog 3) (iS (ix t i55).Op) rfl 5 []) (allP_cons (ob_ix_l t 4 5 i55 k8139) allP_nil)) ?_
      refine rf [(0,.sl t.length (fl t)),(1,.sl pipes.length (fl pipes)),(5,.ptr 0 0),(6,.clo 45 [.ptr 0 0]),(9,iS p7),(10,.own 1 0 c1q326.length),(11,.own 2 0 c2q125.length),(12,iS shut173),(13,iS i55),(147,iS (ix t i55).Op)] [(0,.row 35 [.own 3 0 c3q190.length]),(1,.row 3 (fl c1q326)),(2,.row 3 (fl c2q125)),(3,.row 23 (flD dLListInt [4] c3q190)),((.s 4 0),.fam (famD dLListInt 0 c3q190))] 5 (by kernel_rfl) ?_
      refine wk_id ?_
      refine block_np ?_
      refine seq_np ?_
      refine reg_f ?_
      refine rk 2 ?_
      refine rf [(0,.sl t.length (fl t)),(1,.sl pipes.length (fl pipes)),(5,.ptr 0 0),(6,.clo 45 [.ptr 0 0]),(9,iS p7),(10,.own 1 0 c1q326.length),(11,.own 2 0 c2q125.length),(12,iS shut173),(13,iS i55),(147,iS (ix t i55).Op),(148,bS ((ix t i55).Op == 14))] [(0,.row 35 [.own 3 0 c3q190.length]),(1,.row 3 (fl c1q326)),(2,.row 3 (fl c2q125)),(3,.row 23 (flD dLListInt [4] c3q190)),((.s 4 0),.fam (famD dLListInt 0 c3q190))] 5 (by kernel_rfl) ?_
      refine wk_id ?_
      refine cond_sx h (by kernel_rfl) (fun g8157 h=>?_) (fun g8157 h=>?_)
      ·refine chk_sx h (fun g8144 h=>?_)
       refine reg_f ?_
       have k8143:(c1q326++([i55]:List Int)).length * 8≤140737488355328:=by first | simpa only [Bool.and_eq_true,decide_eq_true_eq,bne_iff_ne,ne_eq] using g8144 | (simp at g8144 ⊢; omega)
       refine rs 5 [none,none,none,some ⟨.own 6 0 (c1q326++([i55]:List Int)).length,[(6,.row 3 (fl (c1q326++([i55]:List Int)))),(1,.dead)],7,[1,5]⟩] _ (by kernel_rfl) (allP_cons (ob_app (P:=Try.prog) c1q326 ([i55]:List Int) 1 8 rfl (appCells (fl ([i55]:List Int)) 0 (([i55]:List Int).length * 1)) ([i55]:List Int).length (app_own ([i55]:List Int) 1 rfl) rfl (0+([i55]:List Int).length * 1≤(fl ([i55]:List Int)).length) (app_own_le ([i55]:List Int) 1 rfl) 3 (by kernel_rfl) (by decide) k8143 1 6 [5]) allP_nil) ?_
       refine rf [(0,.sl t.length (fl t)),(1,.sl pipes.length (fl pipes)),(5,.ptr 0 0),(6,.clo 45 [.ptr 0 0]),(9,iS p7),(10,.own 6 0 (c1q326++([i55]:List Int)).length),(11,.own 2 0 c2q125.length),(12,iS shut173),(13,iS i55)] [(0,.row 35 [.own 3 0 c3q190.length]),(1,.dead),(2,.row 3 (fl c2q125)),(3,.row 23 (flD dLListInt [4] c3q190)),((.s 4 0),.fam (famD dLListInt 0 c3q190)),(5,.row 3 (fl ([i55]:List Int))),(6,.row 3 (fl (c1q326++([i55]:List Int))))] 7 (by kernel_rfl) ?_
       refine wk_id ?_
       exact hK8129 (shut173,(c1q326++([i55]:List Int)),c2q125,c3q190) _ _ _ h (leSt_m [(0,0),(1,6),(2,2),(3,3),((.s 4 0),(.s 4 0))] [] (by simp only [bitvec_to_nat,push_cast,seval]) (by simp only [bitvec_to_nat,push_cast,seval]) rfl rfl rfl)
      ·refine seq_np ?_
       refine reg_f ?_
       refine rk 2 ?_
       refine rf [(0,.sl t.length (fl t)),(1,.sl pipes.length (fl pipes)),(5,.ptr 0 0),(6,.clo 45 [.ptr 0 0]),(9,iS p7),(10,.own 1 0 c1q326.length),(11,.own 2 0 c2q125.length),(12,iS shut173),(13,iS i55),(147,iS (ix t i55).Op),(154,bS ((ix t i55).Op == 16))] [(0,.row 35 [.own 3 0 c3q190.length]),(1,.row 3 (fl c1q326)),(2,.row 3 (fl c2q125)),(3,.row 23 (flD dLListInt [4] c3q190)),((.s 4 0),.fam (famD dLListInt 0 c3q190))] 5 (by kernel_rfl) ?_
       refine wk_id ?_
       refine cond_sx h (by kernel_rfl) (fun g8156 h=>?_) (fun g8156 h=>?_)
       ·refine reg_f ?_
        refine rk 2 ?_
        refine rf [(0,.sl t.length (fl t)),(1,.sl pipes.length (fl pipes)),(5,.ptr 0 0),(6,.clo 45 [.ptr 0 0]),(9,iS p7),(10,.own 1 0 c1q326.length),(11,.own 2 0 c2q125.length),(12,iS i55),(13,iS i55)] [(0,.row 35 [.own 3 0 c3q190.length]),(1,.row 3 (fl c1q326)),(2,.row 3 (fl c2q125)),(3,.row 23 (flD dLListInt [4] c3q190)),((.s 4 0),.fam (famD dLListInt 0 c3q190))] 5 (by kernel_rfl) ?_
        refine wk_id ?_
        exact hK8129 (i55,c1q326,c2q125,c3q190) _ _ _ h (leSt_m [(0,0),(1,1),(2,2),(3,3),((.s 4 0),(.s 4 0))] [] (by simp only [bitvec_to_nat,push_cast,seval]) (by simp only [bitvec_to_nat,push_cast,seval]) rfl rfl rfl)
       ·refine seq_np ?_
        refine reg_f ?_
        refine rk 2 ?_
        refine rf [(0,.sl t.length (fl t)),(1,.sl pipes.length (fl pipes)),(5,.ptr 0 0),(6,.clo 45 [.ptr 0 0]),(9,iS p7),(10,.own 1 0 c1q326.length),(11,.own 2 0 c2q125.length),(12,iS shut173),(13,iS i55),(157,bS ((ix t i55).Op == 15))] [(0,.row 35 [.own 3 0 c3q190.length]),(1,.row 3 (fl c1q326)),(2,.row 3 (fl c2q125)),(3,.row 23 (flD dLListInt [4] c3q190)),((.s 4 0),.fam (famD dLListInt 0 c3q190))] 5 (by kernel_rfl) ?_
        refine wk_id ?_
        refine cond_sx h (by kernel_rfl) (fun g8155 h=>?_) (fun g8155 h=>?_)
        ·refine seq_np ?_
         refine reg_f ?_
         refine rk 5 ?_
         refine rf [(0,.sl t.length (fl t)),(1,.sl pipes.length (fl pipes)),(5,.ptr 0 0),(6,.clo 45 [.ptr 0 0]),(9,iS p7),(10,.own 1 0 c1q326.length),(11,.own 2 0 c2q125.length),(12,iS shut173),(13,iS i55),(163,bS ((c2q125.length:Int) == (c1q326.length:Int)))] [(0,.row 35 [.own 3 0 c3q190.length]),(1,.row 3 (fl c1q326)),(2,.row 3 (fl c2q125)),(3,.row 23 (flD dLListInt [4] c3q190)),((.s 4 0),.fam (famD dLListInt 0 c3q190))] 5 (by kernel_rfl) ?_
         refine wk_id ?_
         refine cond_sx h (by kernel_rfl) (fun g8154 h=>?_) (fun g8154 h=>?_)
         ·refine seq_np ?_
          refine reg_f ?_
          refine rk 2 ?_
          refine rf [(0,.sl t.length (fl t)),(1,.sl pipes.length (fl pipes)),(5,.ptr 0 0),(6,.clo 45 [.ptr 0 0]),(9,iS p7),(10,.own 1 0 c1q326.length),(11,.own 2 0 c2q125.length),(12,iS shut173),(13,iS i55),(165,bS (decide ((0:Int)≤shut173)))] [(0,.row 35 [.own 3 0 c3q190.length]),(1,.row 3 (fl c1q326)),(2,.row 3 (fl c2q125)),(3,.row 23 (flD dLListInt [4] c3q190)),((.s 4 0),.fam (famD dLListInt 0 c3q190))] 5 (by kernel_rfl) ?_
          refine wk_id ?_
          refine cond_sx h (by kernel_rfl) (fun g8149 h=>?_) (fun g8149 h=>?_)
          ·refine reg_f ?_
           refine rk 3 ?_
           obtain ⟨r8147,hr8147,h⟩:=bind_sx h
           refine call_x (taskmillref_Edges_1_1_spec shut173 i55 c3q190 r8147 hr8147) (args:=[iS shut173,iS i55,.ptr 0 0]) (dst:=(some 169)) (by kernel_rfl) [(0,.row 35 [.own 3 0 c3q190.length]),(1,.row 3 (fl c1q326)),(2,.row 3 (fl c2q125)),(3,.row 23 (flD dLListInt [4] c3q190)),((.s 4 0),.fam (famD dLListInt 0 c3q190))] 5 (by kernel_rfl) [(0,0),(1,3),((.s 2 0),(.s 4 0))] [] (.tup []) [(0,.row 35 [.own 3 0 r8147.length]),(3,.row 23 (flD dLListInt [8] r8147)),((.s 4 0),.dead),((.s 8 0),.fam (famD dLListInt 0 r8147)),(0,.dead),(3,.dead),((.s 4 0),.dead)] (by simp only [bitvec_to_nat,push_cast,seval]) (by simp only [bitvec_to_nat,push_cast,seval]) (by kernel_rfl) (.inl rfl) (by first | (simp only [bitvec_to_nat,push_cast,seval]; done) | (simp only [bitvec_to_nat,push_cast,seval]; kernel_rfl) | kernel_rfl) (by first | (simp only [bitvec_to_nat,push_cast,seval]; done) | (simp only [bitvec_to_nat,push_cast,seval]; kernel_rfl) | kernel_rfl) ?_ (hfam:=(And.intro trivial (And.intro trivial (And.intro (fun _=>Or.inl rfl) trivial))))
           refine rf [(0,.sl t.length (fl t)),(1,.sl pipes.length (fl pipes)),(5,.ptr 0 0),(6,.clo 45 [.ptr 0 0]),(9,iS p7),(10,.own 1 0 c1q326.length),(11,.own 2 0 c2q125.length),(12,iS shut173),(13,iS i55)] [(0,.row 35 [.own 3 0 r8147.length]),(1,.row 3 (fl c1q326)),(2,.row 3 (fl c2q125)),(3,.row 23 (flD dLListInt [8] r8147)),((.s 4 0),.dead),((.s 8 0),.fam (famD dLListInt 0 r8147))] 9 (by kernel_rfl) ?_
           refine wk_id ?_
           exact hK8129 (shut173,c1q326,c2q125,r8147) _ _ _ h (leSt_m [(0,0),(1,1),(2,2),(3,3),((.s 4 0),(.s 8 0))] [] (by simp only [bitvec_to_nat,push_cast,seval]) (by simp only [bitvec_to_nat,push_cast,seval]) rfl rfl rfl)
          ·refine wk_id ?_
           exact hK8129 (shut173,c1q326,c2q125,c3q190) _ _ _ h (leSt_m [(0,0),(1,1),(2,2),(3,3),((.s 4 0),(.s 4 0))] [] (by simp only [bitvec_to_nat,push_cast,seval]) (by simp only [bitvec_to_nat,push_cast,seval]) rfl rfl rfl)
         ·refine chk_sx h (fun g8153 h=>?_)
          refine reg_f ?_
          have k8152:(c2q125++([i55]:List Int)).length * 8≤140737488355328:=by first | simpa only [Bool.and_eq_true,decide_eq_true_eq,bne_iff_ne,ne_eq] using g8153 | (simp at g8153 ⊢; omega)
          refine rs 5 [none,none,none,some ⟨.own 6 0 (c2q125++([i55]:List Int)).length,[(6,.row 3 (fl (c2q125++([i55]:List Int)))),(2,.dead)],7,[2,5]⟩] _ (by kernel_rfl) (allP_cons (ob_app (P:=Try.prog) c2q125 ([i55]:List Int) 1 8 rfl (appCells (fl ([i55]:List Int)) 0 (([i55]:List Int).length * 1)) ([i55]:List Int).length (app_own ([i55]:List Int) 1 rfl) rfl (0+([i55]:List Int).length * 1≤(fl ([i55]:List Int)).length) (app_own_le ([i55]:List Int) 1 rfl) 3 (by kernel_rfl) (by decide) k8152 2 6 [5]) allP_nil) ?_
          refine rf [(0,.sl t.length (fl t)),(1,.sl pipes.length (fl pipes)),(5,.ptr 0 0),(6,.clo 45 [.ptr 0 0]),(9,iS p7),(10,.own 1 0 c1q326.length),(11,.own 6 0 (c2q125++([i55]:List Int)).length),(12,iS shut173),(13,iS i55)] [(0,.row 35 [.own 3 0 c3q190.length]),(1,.row 3 (fl c1q326)),(2,.dead),(3,.row 23 (flD dLListInt [4] c3q190)),((.s 4 0),.fam (famD dLListInt 0 c3q190)),(5,.row 3 (fl ([i55]:List Int))),(6,.row 3 (fl (c2q125++([i55]:List Int))))] 7 (by kernel_rfl) ?_
          refine wk_id ?_
          exact hK8129 (shut173,c1q326,(c2q125++([i55]:List Int)),c3q190) _ _ _ h (leSt_m [(0,0),(1,1),(2,6),(3,3),((.s 4 0),(.s 4 0))] [] (by simp only [bitvec_to_nat,push_cast,seval]) (by simp only [bitvec_to_nat,push_cast,seval]) rfl rfl rfl)
        ·refine wk_id ?_
         exact hK8129 (shut173,c1q326,c2q125,c3q190) _ _ _ h (leSt_m [(0,0),(1,1),(2,2),(3,3),((.s 4 0),(.s 4 0))] [] (by simp only [bitvec_to_nat,push_cast,seval]) (by simp only [bitvec_to_nat,push_cast,seval]) rfl rfl rfl)
    ·rintro ⟨shut177,c1q330,c2q129,c3q194⟩ h
     try dsimp only at h ⊢
     unfold taskmillref_Edges_j4 at h
     refine wk_id ?_
     refine reg_f ?_
     refine rk 3 ?_
     refine rf [(0,.sl t.length (fl t)),(1,.sl pipes.length (fl pipes)),(5,.ptr 0 0),(6,.clo 45 [.ptr 0 0]),(9,iS p7),(10,.own 1 0 c1q330.length),(11,.own 2 0 c2q129.length),(12,iS shut177),(13,iS (IntKind.i64.wrap (i55+1)))] [(0,.row 35 [.own 3 0 c3q194.length]),(1,.row 3 (fl c1q330)),(2,.row 3 (fl c2q129)),(3,.row 23 (flD dLListInt [4] c3q194)),((.s 4 0),.fam (famD dLListInt 0 c3q194))] 5 (by kernel_rfl) ?_
     exact hn9 (shut177,(IntKind.i64.wrap (i55+1)),c1q330,c2q129,c3q194) _ _ _ (Option.some.inj h).symm (leSt_m [(0,0),(1,1),(2,2),(3,3),((.s 4 0),(.s 4 0))] [] (by simp only [bitvec_to_nat,push_cast,seval]) (by simp only [bitvec_to_nat,push_cast,seval]) rfl rfl rfl)
   ·change R9 (.exit 6) _ _ _
    refine ex_cast hx9 (id:=6) ?_
    obtain ⟨r0,h,e0⟩:=map_sx h
    have e1:=hr9 r0 e0.symm
    subst r0
    refine wk_id ?_
    refine wk_id ?_
    refine seq_np ?_
    refine reg_f ?_
    refine rk 1 ?_
    refine rf [(0,.sl t.length (fl t)),(1,.sl pipes.length (fl pipes)),(5,.ptr 0 0),(6,.clo 45 [.ptr 0 0]),(9,iS p7),(10,.own 1 0 c1q326.length),(11,.own 2 0 c2q125.length),(14,iS 0)] [(0,.row 35 [.own 3 0 c3q190.length]),(1,.row 3 (fl c1q326)),(2,.row 3 (fl c2q125)),(3,.row 23 (flD dLListInt [4] c3q190)),((.s 4 0),.fam (famD dLListInt 0 c3q190))] 5 (by kernel_rfl) ?_
    refine wk_id ?_
    refine block_np ?_
    refine loop_sx (S:=Int×(List (List Int))) (fun a=>([(0,.sl t.length (fl t)),(1,.sl pipes.length (fl pipes)),(5,.ptr 0 0),(6,.clo 45 [.ptr 0 0]),(9,iS p7),(10,.own 1 0 c1q326.length),(11,.own 2 0 c2q125.length),(14,iS a.1)],[(0,.row 35 [.own 3 0 a.2.length]),(1,.row 3 (fl c1q326)),(2,.row 3 (fl c2q125)),(3,.row 23 (flD dLListInt [4] a.2)),((.s 4 0),.fam (famD dLListInt 0 a.2))],5)) h (leSt_m [(0,0),(1,1),(2,2),(3,3),((.s 4 0),(.s 4 0))] [] (by simp only [bitvec_to_nat,push_cast,seval]) (by simp only [bitvec_to_nat,push_cast,seval]) rfl rfl rfl) ?_
    rintro ⟨k59,c3q203⟩ o10 R10 h hr10 hn10 hx10 ht10
    try dsimp only at h hn10 ⊢
    unfold taskmillref_Edges_l2 at h
    try dsimp only at h
    refine seq_np ?_
    refine seq_np ?_
    refine reg_f ?_
    refine rk 4 ?_
    refine rf [(0,.sl t.length (fl t)),(1,.sl pipes.length (fl pipes)),(5,.ptr 0 0),(6,.clo 45 [.ptr 0 0]),(9,iS p7),(10,.own 1 0 c1q326.length),(11,.own 2 0 c2q125.length),(14,iS k59),(177,bS (decide (k59 < (c2q125.length:Int))))] [(0,.row 35 [.own 3 0 c3q203.length]),(1,.row 3 (fl c1q326)),(2,.row 3 (fl c2q125)),(3,.row 23 (flD dLListInt [4] c3q203)),((.s 4 0),.fam (famD dLListInt 0 c3q203))] 5 (by kernel_rfl) ?_
    refine wk_id ?_
    refine cond_sx h (by kernel_rfl) (fun g8458 h=>?_) (fun g8458 h=>?_)
    ·refine wk_id ?_
     refine seq_np ?_
     refine block_cut (A:=(List (List Int))) (fun a=>([(0,.sl t.length (fl t)),(1,.sl pipes.length (fl pipes)),(5,.ptr 0 0),(6,.clo 45 [.ptr 0 0]),(9,iS p7),(10,.own 1 0 c1q326.length),(11,.own 2 0 c2q125.length),(14,iS k59)],[(0,.row 35 [.own 3 0 a.length]),(1,.row 3 (fl c1q326)),(2,.row 3 (fl c2q125)),(3,.row 23 (flD dLListInt [4] a)),((.s 4 0),.fam (famD dLListInt 0 a))],5)) (fun a=>(taskmillref_Edges_j5 t pipes p7 c1q326 c2q125 k59 a) = some o10) (fun K8397 hK8397=>?_) ?_
     ·refine chk_sx h (fun g8405 h=>?_)
      refine chk_sx h (fun g8407 h=>?_)
      refine seq_np ?_
      refine reg_t ?_
      have k8404:0≤k59∧k59 < (c1q326.length:Int):=by first | simpa only [Bool.and_eq_true,decide_eq_true_eq,bne_iff_ne,ne_eq] using g8405 | (simp at g8405 ⊢; omega)
      have k8406:0≤k59∧k59 < (c2q125.length:Int):=by first | simpa only [Bool.and_eq_true,decide_eq_true_eq,bne_iff_ne,ne_eq] using g8407 | (simp at g8407 ⊢; omega)
      refine rs 9 [none,none,none,some ⟨.ptr 1 (0+(k59).toNat * 1),[],8,[1]⟩,some ⟨iS (ix c1q326 k59),[],9,[1]⟩,none,none,some ⟨.ptr 2 (0+(k59).toNat * 1),[],12,[2]⟩,some ⟨iS (ix c2q125 k59),[],13,[2]⟩] _ (by kernel_rfl) (allP_cons (ob_ld c2q125 k59 1 0 (0+(k59).toNat * 1) k8406 rfl (by decide) (by first | rfl | omega) (dflS Try.prog 3) (iS (ix c2q125 k59)) rfl 13 [2]) (allP_cons (ob_ix_o 2 c2q125.length 0 1 12 k59 k8406) (allP_cons (ob_ld c1q326 k59 1 0 (0+(k59).toNat * 1) k8404 rfl (by decide) (by first | rfl | omega) (dflS Try.prog 3) (iS (ix c1q326 k59)) rfl 9 [1]) (allP_cons (ob_ix_o 1 c1q326.length 0 1 8 k59 k8404) allP_nil)))) ?_
      obtain ⟨r8408,hr8408,h⟩:=bind_sx h
      refine call_x (taskmillref_Edges_1_1_spec (ix c1q326 k59) (ix c2q125 k59) c3q203 r8408 hr8408) (args:=[iS (ix c1q326 k59),iS (ix c2q125 k59),.ptr 0 0]) (dst:=(some 189)) (by kernel_rfl) [(0,.row 35 [.own 3 0 c3q203.length]),(1,.row 3 (fl c1q326)),(2,.row 3 (fl c2q125)),(3,.row 23 (flD dLListInt [4] c3q203)),((.s 4 0),.fam (famD dLListInt 0 c3q203))] 14 (by kernel_rfl) [(0,0),(1,3),((.s 2 0),(.s 4 0))] [] (.tup []) [(0,.row 35 [.own 3 0 r8408.length]),(3,.row 23 (flD dLListInt [17] r8408)),((.s 4 0),.dead),((.s 17 0),.fam (famD dLListInt 0 r8408)),(0,.dead),(3,.dead),((.s 4 0),.dead)] (by simp only [bitvec_to_nat,push_cast,seval]) (by simp only [bitvec_to_nat,push_cast,seval]) (by kernel_rfl) (.inl rfl) (by first | (simp only [bitvec_to_nat,push_cast,seval]; done) | (simp only [bitvec_to_nat,push_cast,seval]; kernel_rfl) | kernel_rfl) (by first | (simp only [bitvec_to_nat,push_cast,seval]; done) | (simp only [bitvec_to_nat,push_cast,seval]; kernel_rfl) | kernel_rfl) ?_ (hfam:=(And.intro trivial (And.intro trivial (And.intro (fun _=>Or.inl rfl) trivial))))
      refine rt [(0,.sl t.length (fl t)),(1,.sl pipes.length (fl pipes)),(5,.ptr 0 0),(6,.clo 45 [.ptr 0 0]),(9,iS p7),(10,.own 1 0 c1q326.length),(11,.own 2 0 c2q125.length),(14,iS k59)] [(0,.row 35 [.own 3 0 r8408.length]),(1,.row 3 (fl c1q326)),(2,.row 3 (fl c2q125)),(3,.row 23 (flD dLListInt [17] r8408)),((.s 4 0),.dead),((.s 17 0),.fam (famD dLListInt 0 r8408))] 19 follows (by kernel_rfl) ?_
      refine wk_id ?_
      refine chk_sx h (fun g8413 h=>?_)
      refine seq_np ?_
      refine reg_f ?_
      have k8412:0≤p7∧p7 < (pipes.length:Int):=by first | simpa only [Bool.and_eq_true,decide_eq_true_eq,bne_iff_ne,ne_eq] using g8413 | (simp at g8413 ⊢; omega)
      refine rs 5 [none,none,some ⟨.iptr (fl pipes) ((p7).toNat * 1),[],19,[]⟩,some ⟨iS (ix pipes p7),[],19,[]⟩] _ (by kernel_rfl) (allP_cons (ob_ld pipes p7 1 0 ((p7).toNat * 1) k8412 rfl (by decide) (by first | rfl | omega) (dflS Try.prog 3) (iS (ix pipes p7)) rfl 19 []) (allP_cons (ob_ix_l pipes 1 19 p7 k8412) allP_nil)) ?_
      refine rf [(0,.sl t.length (fl t)),(1,.sl pipes.length (fl pipes)),(5,.ptr 0 0),(6,.clo 45 [.ptr 0 0]),(9,iS p7),(10,.own 1 0 c1q326.length),(11,.own 2 0 c2q125.length),(14,iS k59),(194,bS ((ix pipes p7) == 0))] [(0,.row 35 [.own 3 0 r8408.length]),(1,.row 3 (fl c1q326)),(2,.row 3 (fl c2q125)),(3,.row 23 (flD dLListInt [17] r8408)),((.s 4 0),.dead),((.s 17 0),.fam (famD dLListInt 0 r8408))] 19 (by kernel_rfl) ?_
      refine wk_id ?_
      refine cond_sx h (by kernel_rfl) (fun g8457 h=>?_) (fun g8457 h=>?_)
      ·refine chk_sx h (fun g8426 h=>?_)
       refine chk_sx h (fun g8428 h=>?_)
       refine chk_sx h (fun g8430 h=>?_)
       refine chk_sx h (fun g8432 h=>?_)
       refine reg_t ?_
       have k8425:0≤k59∧k59 < (c2q125.length:Int):=by first | simpa only [Bool.and_eq_true,decide_eq_true_eq,bne_iff_ne,ne_eq] using g8426 | (simp at g8426 ⊢; omega)
       have k8427:0≤k59∧k59 < (c1q326.length:Int):=by first | simpa only [Bool.and_eq_true,decide_eq_true_eq,bne_iff_ne,ne_eq] using g8428 | (simp at g8428 ⊢; omega)
       have k8429:0≤(ix c1q326 k59)∧(ix c1q326 k59) < (t.length:Int):=by first | simpa only [Bool.and_eq_true,decide_eq_true_eq,bne_iff_ne,ne_eq] using g8430 | (simp at g8430 ⊢; omega)
       have k8431:0≤k59∧k59 < (c2q125.length:Int):=by first | simpa only [Bool.and_eq_true,decide_eq_true_eq,bne_iff_ne,ne_eq] using g8432 | (simp at g8432 ⊢; omega)
       refine rs 18 [none,none,none,some ⟨.ptr 2 (0+(k59).toNat * 1),[],22,[2]⟩,some ⟨iS (ix c2q125 k59),[],23,[2]⟩,none,none,none,none,some ⟨.ptr 1 (0+(k59).toNat * 1),[],28,[1]⟩,some ⟨iS (ix c1q326 k59),[],29,[1]⟩,some ⟨.iptr (fl t) (((ix c1q326 k59)).toNat * 4),[],30,[]⟩,none,some ⟨iS (ix t (ix c1q326 k59)).Task,[],32,[]⟩,none,none,some ⟨.ptr 2 (0+(k59).toNat * 1),[],35,[2]⟩,some ⟨iS (ix c2q125 k59),[],36,[2]⟩] _ (by kernel_rfl) (allP_cons (ob_ld c2q125 k59 1 0 (0+(k59).toNat * 1) k8431 rfl (by decide) (by first | rfl | omega) (dflS Try.prog 3) (iS (ix c2q125 k59)) rfl 36 [2]) (allP_cons (ob_ix_o 2 c2q125.length 0 1 35 k59 k8431) (allP_cons (ob_ld t (ix c1q326 k59) 4 0 ((((ix c1q326 k59)).toNat * 4)+0) k8429 rfl (by decide) (by first | rfl | omega) (dflS Try.prog 3) (iS (ix t (ix c1q326 k59)).Task) rfl 32 []) (allP_cons (ob_ix_l t 4 30 (ix c1q326 k59) k8429) (allP_cons (ob_ld c1q326 k59 1 0 (0+(k59).toNat * 1) k8427 rfl (by decide) (by first | rfl | omega) (dflS Try.prog 3) (iS (ix c1q326 k59)) rfl 29 [1]) (allP_cons (ob_ix_o 1 c1q326.length 0 1 28 k59 k8427) (allP_cons (ob_ld c2q125 k59 1 0 (0+(k59).toNat * 1) k8425 rfl (by decide) (by first | rfl | omega) (dflS Try.prog 3) (iS (ix c2q125 k59)) rfl 23 [2]) (allP_cons (ob_ix_o 2 c2q125.length 0 1 22 k59 k8425) allP_nil)))))))) ?_
       obtain ⟨r8433,hr8433,h⟩:=bind_sx h
       refine run_call 46 [.sl t.length (fl t),iS (ix t (ix c1q326 k59)).Task,iS (ix c2q125 k59)] (some 213) (by kernel_rfl) ?_
       refine callE_0 (taskmillref_nextOf_spec t (ix t (ix c1q326 k59)).Task (ix c2q125 k59) r8433 hr8433) (by simp only [bitvec_to_nat,push_cast,seval]) (by simp only [bitvec_to_nat,push_cast,seval]) ?_
       refine back_t ?_
       obtain ⟨r8434,hr8434,h⟩:=bind_sx h
       refine call_x (taskmillref_Edges_1_1_spec (ix c2q125 k59) r8433 r8408 r8434 hr8434) (args:=[iS (ix c2q125 k59),iS r8433,.ptr 0 0]) (dst:=(some 214)) (by kernel_rfl) [(0,.row 35 [.own 3 0 r8408.length]),(1,.row 3 (fl c1q326)),(2,.row 3 (fl c2q125)),(3,.row 23 (flD dLListInt [17] r8408)),((.s 4 0),.dead),((.s 17 0),.fam (famD dLListInt 0 r8408))] 38 (by kernel_rfl) [(0,0),(1,3),((.s 2 0),(.s 17 0))] [] (.tup []) [(0,.row 35 [.own 3 0 r8434.length]),(3,.row 23 (flD dLListInt [41] r8434)),((.s 17 0),.dead),((.s 41 0),.fam (famD dLListInt 0 r8434)),(0,.dead),(3,.dead),((.s 17 0),.dead)] (by simp only [bitvec_to_nat,push_cast,seval]) (by simp only [bitvec_to_nat,push_cast,seval]) (by kernel_rfl) (.inl rfl) (by first | (simp only [bitvec_to_nat,push_cast,seval]; done) | (simp only [bitvec_to_nat,push_cast,seval]; kernel_rfl) | kernel_rfl) (by first | (simp only [bitvec_to_nat,push_cast,seval]; done) | (simp only [bitvec_to_nat,push_cast,seval]; kernel_rfl) | kernel_rfl) ?_ (hfam:=(And.intro trivial (And.intro trivial (And.intro (fun _=>Or.inl rfl) trivial))))
       refine rt [(0,.sl t.length (fl t)),(1,.sl pipes.length (fl pipes)),(5,.ptr 0 0),(6,.clo 45 [.ptr 0 0]),(9,iS p7),(10,.own 1 0 c1q326.length),(11,.own 2 0 c2q125.length),(14,iS k59)] [(0,.row 35 [.own 3 0 r8434.length]),(1,.row 3 (fl c1q326)),(2,.row 3 (fl c2q125)),(3,.row 23 (flD dLListInt [41] r8434)),((.s 4 0),.dead),((.s 17 0),.dead),((.s 41 0),.fam (famD dLListInt 0 r8434))] 43 follows (by kernel_rfl) ?_
       exact hK8397 (r8434) _ _ _ h (leSt_m [(0,0),(1,1),(2,2),(3,3),((.s 4 0),(.s 41 0))] [] (by simp only [bitvec_to_nat,push_cast,seval]) (by simp only [bitvec_to_nat,push_cast,seval]) rfl rfl rfl)
      ·refine chk_sx h (fun g8439 h=>?_)
       refine seq_np ?_
       refine reg_f ?_
       have k8438:0≤p7∧p7 < (pipes.length:Int):=by first | simpa only [Bool.and_eq_true,decide_eq_true_eq,bne_iff_ne,ne_eq] using g8439 | (simp at g8439 ⊢; omega)
       refine rs 9 [none,none,none,some ⟨.iptr (fl pipes) ((p7).toNat * 1),[],19,[]⟩,some ⟨iS (ix pipes p7),[],19,[]⟩] _ (by kernel_rfl) (allP_cons (ob_ld pipes p7 1 0 ((p7).toNat * 1) k8438 rfl (by decide) (by first | rfl | omega) (dflS Try.prog 3) (iS (ix pipes p7)) rfl 19 []) (allP_cons (ob_ix_l pipes 1 19 p7 k8438) allP_nil)) ?_
       refine rf [(0,.sl t.length (fl t)),(1,.sl pipes.length (fl pipes)),(5,.ptr 0 0),(6,.clo 45 [.ptr 0 0]),(9,iS p7),(10,.own 1 0 c1q326.length),(11,.own 2 0 c2q125.length),(14,iS k59),(223,bS (decide ((IntKind.i64.wrap (k59+(ix pipes p7))) < (c1q326.length:Int))))] [(0,.row 35 [.own 3 0 r8408.length]),(1,.row 3 (fl c1q326)),(2,.row 3 (fl c2q125)),(3,.row 23 (flD dLListInt [17] r8408)),((.s 4 0),.dead),((.s 17 0),.fam (famD dLListInt 0 r8408))] 19 (by kernel_rfl) ?_
       refine wk_id ?_
       refine cond_sx h (by kernel_rfl) (fun g8456 h=>?_) (fun g8456 h=>?_)
       ·refine chk_sx h (fun g8449 h=>?_)
        refine chk_sx h (fun g8451 h=>?_)
        refine chk_sx h (fun g8453 h=>?_)
        refine reg_t ?_
        have k8448:0≤k59∧k59 < (c2q125.length:Int):=by first | simpa only [Bool.and_eq_true,decide_eq_true_eq,bne_iff_ne,ne_eq] using g8449 | (simp at g8449 ⊢; omega)
        have k8450:0≤p7∧p7 < (pipes.length:Int):=by first | simpa only [Bool.and_eq_true,decide_eq_true_eq,bne_iff_ne,ne_eq] using g8451 | (simp at g8451 ⊢; omega)
        have k8452:0≤(IntKind.i64.wrap (k59+(ix pipes p7)))∧(IntKind.i64.wrap (k59+(ix pipes p7))) < (c1q326.length:Int):=by first | simpa only [Bool.and_eq_true,decide_eq_true_eq,bne_iff_ne,ne_eq] using g8453 | (simp at g8453 ⊢; omega)
        refine rs 14 [none,none,none,some ⟨.ptr 2 (0+(k59).toNat * 1),[],22,[2]⟩,some ⟨iS (ix c2q125 k59),[],23,[2]⟩,none,none,none,none,some ⟨.iptr (fl pipes) ((p7).toNat * 1),[],28,[]⟩,some ⟨iS (ix pipes p7),[],29,[]⟩,none,some ⟨.ptr 1 (0+((IntKind.i64.wrap (k59+(ix pipes p7)))).toNat * 1),[],31,[1]⟩,some ⟨iS (ix c1q326 (IntKind.i64.wrap (k59+(ix pipes p7)))),[],32,[1]⟩] _ (by kernel_rfl) (allP_cons (ob_ld c1q326 (IntKind.i64.wrap (k59+(ix pipes p7))) 1 0 (0+((IntKind.i64.wrap (k59+(ix pipes p7)))).toNat * 1) k8452 rfl (by decide) (by first | rfl | omega) (dflS Try.prog 3) (iS (ix c1q326 (IntKind.i64.wrap (k59+(ix pipes p7))))) rfl 32 [1]) (allP_cons (ob_ix_o 1 c1q326.length 0 1 31 (IntKind.i64.wrap (k59+(ix pipes p7))) k8452) (allP_cons (ob_ld pipes p7 1 0 ((p7).toNat * 1) k8450 rfl (by decide) (by first | rfl | omega) (dflS Try.prog 3) (iS (ix pipes p7)) rfl 29 []) (allP_cons (ob_ix_l pipes 1 28 p7 k8450) (allP_cons (ob_ld c2q125 k59 1 0 (0+(k59).toNat * 1) k8448 rfl (by decide) (by first | rfl | omega) (dflS Try.prog 3) (iS (ix c2q125 k59)) rfl 23 [2]) (allP_cons (ob_ix_o 2 c2q125.length 0 1 22 k59 k8448) allP_nil)))))) ?_
        obtain ⟨r8454,hr8454,h⟩:=bind_sx h
        refine call_x (taskmillref_Edges_1_1_spec (ix c2q125 k59) (ix c1q326 (IntKind.i64.wrap (k59+(ix pipes p7)))) r8408 r8454 hr8454) (args:=[iS (ix c2q125 k59),iS (ix c1q326 (IntKind.i64.wrap (k59+(ix pipes p7)))),.ptr 0 0]) (dst:=(some 238)) (by kernel_rfl) [(0,.row 35 [.own 3 0 r8408.length]),(1,.row 3 (fl c1q326)),(2,.row 3 (fl c2q125)),(3,.row 23 (flD dLListInt [17] r8408)),((.s 4 0),.dead),((.s 17 0),.fam (famD dLListInt 0 r8408))] 33 (by kernel_rfl) [(0,0),(1,3),((.s 2 0),(.s 17 0))] [] (.tup []) [(0,.row 35 [.own 3 0 r8454.length]),(3,.row 23 (flD dLListInt [36] r8454)),((.s 17 0),.dead),((.s 36 0),.fam (famD dLListInt 0 r8454)),(0,.dead),(3,.dead),((.s 17 0),.dead)] (by simp only [bitvec_to_nat,push_cast,seval]) (by simp only [bitvec_to_nat,push_cast,seval]) (by kernel_rfl) (.inl rfl) (by first | (simp only [bitvec_to_nat,push_cast,seval]; done) | (simp only [bitvec_to_nat,push_cast,seval]; kernel_rfl) | kernel_rfl) (by first | (simp only [bitvec_to_nat,push_cast,seval]; done) | (simp only [bitvec_to_nat,push_cast,seval]; kernel_rfl) | kernel_rfl) ?_ (hfam:=(And.intro trivial (And.intro trivial (And.intro (fun _=>Or.inl rfl) trivial))))
        refine rt [(0,.sl t.length (fl t)),(1,.sl pipes.length (fl pipes)),(5,.ptr 0 0),(6,.clo 45 [.ptr 0 0]),(9,iS p7),(10,.own 1 0 c1q326.length),(11,.own 2 0 c2q125.length),(14,iS k59)] [(0,.row 35 [.own 3 0 r8454.length]),(1,.row 3 (fl c1q326)),(2,.row 3 (fl c2q125)),(3,.row 23 (flD dLListInt [36] r8454)),((.s 4 0),.dead),((.s 17 0),.dead),((.s 36 0),.fam (famD dLListInt 0 r8454))] 38 follows (by kernel_rfl) ?_
        exact hK8397 (r8454) _ _ _ h (leSt_m [(0,0),(1,1),(2,2),(3,3),((.s 4 0),(.s 36 0))] [] (by simp only [bitvec_to_nat,push_cast,seval]) (by simp only [bitvec_to_nat,push_cast,seval]) rfl rfl rfl)
       ·exact hK8397 (r8408) _ _ _ h (leSt_m [(0,0),(1,1),(2,2),(3,3),((.s 4 0),(.s 17 0))] [] (by simp only [bitvec_to_nat,push_cast,seval]) (by simp only [bitvec_to_nat,push_cast,seval]) rfl rfl rfl)
     ·rintro c3q205 h
      try dsimp only at h ⊢
      unfold taskmillref_Edges_j5 at h
      refine wk_id ?_
      refine reg_f ?_
      refine rk 3 ?_
      refine rf [(0,.sl t.length (fl t)),(1,.sl pipes.length (fl pipes)),(5,.ptr 0 0),(6,.clo 45 [.ptr 0 0]),(9,iS p7),(10,.own 1 0 c1q326.length),(11,.own 2 0 c2q125.length),(14,iS (IntKind.i64.wrap (k59+1)))] [(0,.row 35 [.own 3 0 c3q205.length]),(1,.row 3 (fl c1q326)),(2,.row 3 (fl c2q125)),(3,.row 23 (flD dLListInt [4] c3q205)),((.s 4 0),.fam (famD dLListInt 0 c3q205))] 5 (by kernel_rfl) ?_
      exact hn10 ((IntKind.i64.wrap (k59+1)),c3q205) _ _ _ (Option.some.inj h).symm (leSt_m [(0,0),(1,1),(2,2),(3,3),((.s 4 0),(.s 4 0))] [] (by simp only [bitvec_to_nat,push_cast,seval]) (by simp only [bitvec_to_nat,push_cast,seval]) rfl rfl rfl)
    ·change R10 (.exit 9) _ _ _
     refine ex_cast hx10 (id:=9) ?_
     obtain ⟨r0,h,e0⟩:=map_sx h
     have e1:=hr10 r0 e0.symm
     subst r0
     refine wk_id ?_
     refine wk_id ?_
     refine wk_id ?_
     refine reg_f ?_
     refine rk 3 ?_
     refine rf [(0,.sl t.length (fl t)),(1,.sl pipes.length (fl pipes)),(5,.ptr 0 0),(6,.clo 45 [.ptr 0 0]),(9,iS (IntKind.i64.wrap (p7+1)))] [(0,.row 35 [.own 3 0 c3q203.length]),(1,.row 3 (fl c1q326)),(2,.row 3 (fl c2q125)),(3,.row 23 (flD dLListInt [4] c3q203)),((.s 4 0),.fam (famD dLListInt 0 c3q203))] 5 (by kernel_rfl) ?_
     exact hn8 ((IntKind.i64.wrap (p7+1)),c3q203) _ _ _ (Option.some.inj h).symm (leSt_m [(0,0),(1,3),((.s 2 0),(.s 4 0))] [] (by simp only [bitvec_to_nat,push_cast,seval]) (by simp only [bitvec_to_nat,push_cast,seval]) rfl rfl rfl)
  ·change R8 (.exit 4) _ _ _
   refine ex_cast hx8 (id:=4) ?_
   obtain ⟨r0,h,e0⟩:=map_sx h
   have e1:=hr8 r0 e0.symm
   subst r0
   refine wk_id ?_
   refine wk_id ?_
   refine seq_np ?_
   refine reg_f ?_
   refine rk 2 ?_
   refine rf [(4,.own 1 0 c1q273.length)] [(0,.row 35 [.own 1 0 c1q273.length]),(1,.row 23 (flD dLListInt [2] c1q273)),((.s 2 0),.fam (famD dLListInt 0 c1q273))] 3 (by kernel_rfl) ?_
   refine wk_id ?_
   obtain rfl:=Option.some.inj h
   refine ret_at (.own 1 0 c1q273.length) (by kernel_rfl) ?_
   exact ret_e [(0,1),((.s 1 0),(.s 2 0))] [] (by simp only [bitvec_to_nat,push_cast,seval]) (by simp only [bitvec_to_nat,push_cast,seval]) rfl rfl rfl

set_option maxRecDepth 100000 in
set_option maxHeartbeats 200000000 in
theorem taskmillref_Reach_spec (t:(List GEvent)) (pipes:(List Int)) (r:(List (List Bool))) (h:taskmillref_Reach t pipes = some r):SpecW Try.prog 20 [.sl t.length (fl t),.sl pipes.length (fl pipes)] [] 0 (fun x h n=>x = .own 0 0 r.length∧h = [(0,.row 43 (flD dLListBool [1] r)),((.s 1 0),.fam (famD dLListBool 0 r))]∧n = 2):=by
 unfold taskmillref_Reach at h
 refine spec_of (draw_ok _) Try.func20 rfl (by decide) rfl (by kernel_rfl) ?_
 refine seq_np ?_
 refine reg_f ?_
 refine rk 1 ?_
 refine rf [(0,.sl t.length (fl t)),(1,.sl pipes.length (fl pipes))] [] 0 (by kernel_rfl) ?_
 refine wk_id ?_
 refine seq_np ?_
 refine reg_f ?_
 refine rk 2 ?_
 obtain ⟨r8921,hr8921,h⟩:=bind_sx h
 refine call_x (taskmillref_Edges_spec t pipes r8921 hr8921) (args:=[.sl t.length (fl t),.sl pipes.length (fl pipes)]) (dst:=(some 14)) (by kernel_rfl) [] 0 (by kernel_rfl) [] [] (.own 0 0 r8921.length) [(0,.row 23 (flD dLListInt [1] r8921)),((.s 1 0),.fam (famD dLListInt 0 r8921))] (by simp only [bitvec_to_nat,push_cast,seval]) (by simp only [bitvec_to_nat,push_cast,seval]) (by kernel_rfl) (.inl rfl) (by first | (simp only [bitvec_to_nat,push_cast,seval]; done) | (simp only [bitvec_to_nat,push_cast,seval]; kernel_rfl) | kernel_rfl) (by first | (simp only [bitvec_to_nat,push_cast,seval]; done) | (simp only [bitvec_to_nat,push_cast,seval]; kernel_rfl) | kernel_rfl) ?_
 refine rk 1 ?_
 refine rf [(0,.sl t.length (fl t)),(5,.own 0 0 r8921.length)] [(0,.row 23 (flD dLListInt [1] r8921)),((.s 1 0),.fam (famD dLListInt 0 r8921))] 2 (by kernel_rfl) ?_
 refine wk_id ?_
 refine chk_sx h (fun g8925 h=>?_)
 refine seq_np ?_
 refine reg_f ?_
 have k8924:0≤(t.length:Int)∧(t.length:Int)≤4611686018427387904∧(24:Int) * (t.length:Int)≤140737488355328:=by first | simpa only [Bool.and_eq_true,decide_eq_true_eq,bne_iff_ne,ne_eq] using g8925 | (simp at g8925 ⊢; omega)
 refine rk 2 ?_
 refine run_opG (some 17) _ ⟨.own 2 0 (List.replicate ((t.length:Int)).toNat (default:(List Bool))).length,[(2,.row 43 (flN dLListBool (nA (List.replicate 1 none) (List.replicate 1 none) (-1)) 0 (List.replicate ((t.length:Int)).toNat (default:(List Bool)))))],3,[]⟩ [((.s 3 0),.fam (famD dLListBool 0 (List.replicate ((t.length:Int)).toNat (default:(List Bool))))),(2,.row 43 (flD dLListBool [3] (List.replicate ((t.length:Int)).toNat (default:(List Bool)))))] 1 [2] [] (by kernel_rfl) (ob_mkN (P:=Try.prog) dLListBool (t.length:Int) 43 24 (by kernel_rfl) [.v (.slice none 0 0)] rfl 1 rfl (by decide) k8924 1 2) (ghost_A 3 dLListBool (List.replicate ((t.length:Int)).toNat (default:(List Bool))) 2 43 [none] [none] (-1) (flD dLListBool [3] (List.replicate ((t.length:Int)).toNat (default:(List Bool)))) 0 none none (by kernel_rfl) (flN_done dLListBool [3] (-1) (List.replicate ((t.length:Int)).toNat (default:(List Bool))) rfl) (by kernel_rfl) (offN_rep _ rfl _) (S_rep (fun a=>nilLeaf dLListBool 0 a) _)) (by kernel_rfl) ?_
 refine rk 1 ?_
 refine rf [(0,.sl t.length (fl t)),(5,.own 0 0 r8921.length),(6,.own 2 0 (List.replicate ((t.length:Int)).toNat (default:(List Bool))).length)] [(0,.row 23 (flD dLListInt [1] r8921)),((.s 1 0),.fam (famD dLListInt 0 r8921)),(2,.row 43 (flD dLListBool [3] (List.replicate ((t.length:Int)).toNat (default:(List Bool))))),((.s 3 0),.fam (famD dLListBool 0 (List.replicate ((t.length:Int)).toNat (default:(List Bool)))))] 4 (by kernel_rfl) ?_
 refine wk_id ?_
 refine seq_np ?_
 refine seq_np ?_
 refine reg_f ?_
 refine rk 1 ?_
 refine rf [(0,.sl t.length (fl t)),(5,.own 0 0 r8921.length),(6,.own 2 0 (List.replicate ((t.length:Int)).toNat (default:(List Bool))).length),(7,iS 0)] [(0,.row 23 (flD dLListInt [1] r8921)),((.s 1 0),.fam (famD dLListInt 0 r8921)),(2,.row 43 (flD dLListBool [3] (List.replicate ((t.length:Int)).toNat (default:(List Bool))))),((.s 3 0),.fam (famD dLListBool 0 (List.replicate ((t.length:Int)).toNat (default:(List Bool)))))] 4 (by kernel_rfl) ?_
 refine wk_id ?_
 refine block_np ?_
 refine loop_sx (S:=Int×(List (List Int))×(List (List Bool))) (fun a=>([(0,.sl t.length (fl t)),(5,.own 0 0 a.2.1.length),(6,.own 1 0 a.2.2.length),(7,iS a.1)],[(0,.row 23 (flD dLListInt [2] a.2.1)),(1,.row 43 (flD dLListBool [3] a.2.2)),((.s 2 0),.fam (famD dLListInt 0 a.2.1)),((.s 3 0),.fam (famD dLListBool 0 a.2.2))],4)) h (leSt_m [(0,0),(1,2),((.s 2 0),(.s 1 0)),((.s 3 0),(.s 3 0))] [] (by simp only [bitvec_to_nat,push_cast,seval]) (by simp only [bitvec_to_nat,push_cast,seval]) rfl rfl rfl) ?_
 rintro ⟨k7,c0q12,c1q45⟩ o5 R5 h hr5 hn5 hx5 ht5
 try dsimp only at h hn5 ⊢
 unfold taskmillref_Reach_l4 at h
 try dsimp only at h
 refine seq_np ?_
 refine seq_np ?_
 refine reg_f ?_
 refine rk 4 ?_
 refine rf [(0,.sl t.length (fl t)),(5,.own 0 0 c0q12.length),(6,.own 1 0 c1q45.length),(7,iS k7),(21,bS (decide (k7 < (t.length:Int))))] [(0,.row 23 (flD dLListInt [2] c0q12)),(1,.row 43 (flD dLListBool [3] c1q45)),((.s 2 0),.fam (famD dLListInt 0 c0q12)),((.s 3 0),.fam (famD dLListBool 0 c1q45))] 4 (by kernel_rfl) ?_
 refine wk_id ?_
 refine cond_sx h (by kernel_rfl) (fun g11143 h=>?_) (fun g11143 h=>?_)
 ·refine wk_id ?_
  refine seq_np ?_
  refine block_np ?_
  refine chk_sx h (fun g8983 h=>?_)
  refine chk_sx h (fun g8985 h=>?_)
  refine reg_f ?_
  have k8982:0≤(t.length:Int)∧(t.length:Int)≤4611686018427387904∧(1:Int) * (t.length:Int)≤140737488355328:=by first | simpa only [Bool.and_eq_true,decide_eq_true_eq,bne_iff_ne,ne_eq] using g8983 | (simp at g8983 ⊢; omega)
  have k8984:0≤k7∧k7 < (c1q45.length:Int):=by first | simpa only [Bool.and_eq_true,decide_eq_true_eq,bne_iff_ne,ne_eq] using g8985 | (simp at g8985 ⊢; omega)
  refine rs 6 [none,none,none,none,some ⟨.own 4 0 (List.replicate ((t.length:Int)).toNat (default:Bool)).length,[(4,.row 4 (fl (List.replicate ((t.length:Int)).toNat (default:Bool))))],5,[]⟩,some ⟨.ptr 1 (0+(k7).toNat * 1),[],5,[1]⟩] _ (by kernel_rfl) (allP_cons (ob_ix_o 1 c1q45.length 0 1 5 k7 k8984) (allP_cons (ob_mk (P:=Try.prog) (α:=Bool) (t.length:Int) 4 1 (by kernel_rfl) [bS false] rfl 1 rfl (by decide) k8982 4) allP_nil)) ?_
  refine run_opG none _ ⟨.any,[(1,.row 43 (flN dLListBool (nA [(some 3)] [(some (Nm.t 4))] k7) 0 (c1q45.set k7.toNat ((List.replicate ((t.length:Int)).toNat (default:Bool)):(List Bool)))))],5,[1]⟩ [((.s 5 0),.fam (famD dLListBool 0 (c1q45.set k7.toNat ((List.replicate ((t.length:Int)).toNat (default:Bool)):(List Bool))))),(1,.row 43 (flD dLListBool [5] (c1q45.set k7.toNat ((List.replicate ((t.length:Int)).toNat (default:Bool)):(List Bool))))),((.s 3 0),.dead),(4,.dead)] 1 [1,(.s 3 0),4] [(.s 3 0),4] (by kernel_rfl) (ob_stN (P:=Try.prog) dLListBool [3] [(some (Nm.t 4))] c1q45 k7 1 0 (0+(k7).toNat * 1) k8984 rfl [.own 4 0 (List.replicate ((t.length:Int)).toNat (default:Bool)).length] ((List.replicate ((t.length:Int)).toNat (default:Bool)):(List Bool)) (Nat.le_of_ble_eq_true rfl) (by first | rfl | omega) rfl rfl 1 5 43 43 (by kernel_rfl) rfl) (ghost_A 5 dLListBool (c1q45.set k7.toNat ((List.replicate ((t.length:Int)).toNat (default:Bool)):(List Bool))) 1 43 [(some 3)] [(some (Nm.t 4))] k7 (flD dLListBool [5] (c1q45.set k7.toNat ((List.replicate ((t.length:Int)).toNat (default:Bool)):(List Bool)))) 0 (some 3) (some 4) (by kernel_rfl) (flN_done dLListBool [5] k7 (c1q45.set k7.toNat ((List.replicate ((t.length:Int)).toNat (default:Bool)):(List Bool))) rfl) (by kernel_rfl) ⟨_,(by kernel_rfl),(off_set c1q45 k7 ((List.replicate ((t.length:Int)).toNat (default:Bool)):(List Bool)) k8984)⟩ (S_set (fun a=>getH _ (.t 4) = chD dLListBool 0 a) k8984 rfl)) (by kernel_rfl) ?_
  refine run_eqF 6 (.own 1 0 c1q45.length) (.own 1 0 (c1q45.set k7.toNat ((List.replicate ((t.length:Int)).toNat (default:Bool)):(List Bool))).length) (congrArg (fun nq=>(.own 1 0 nq:SV)) (show c1q45.length = (c1q45.set k7.toNat ((List.replicate ((t.length:Int)).toNat (default:Bool)):(List Bool))).length from (List.length_set ..).symm)) (by kernel_rfl) ?_
  refine rf [(0,.sl t.length (fl t)),(5,.own 0 0 c0q12.length),(6,.own 1 0 (c1q45.set k7.toNat ((List.replicate ((t.length:Int)).toNat (default:Bool)):(List Bool))).length),(7,iS k7)] [(0,.row 23 (flD dLListInt [2] c0q12)),(1,.row 43 (flD dLListBool [5] (c1q45.set k7.toNat ((List.replicate ((t.length:Int)).toNat (default:Bool)):(List Bool))))),((.s 2 0),.fam (famD dLListInt 0 c0q12)),((.s 3 0),.dead),(4,.dead),((.s 5 0),.fam (famD dLListBool 0 (c1q45.set k7.toNat ((List.replicate ((t.length:Int)).toNat (default:Bool)):(List Bool)))))] 6 (by kernel_rfl) ?_
  refine wk_id ?_
  refine wk_id ?_
  refine reg_f ?_
  refine rk 3 ?_
  refine rf [(0,.sl t.length (fl t)),(5,.own 0 0 c0q12.length),(6,.own 1 0 (c1q45.set k7.toNat ((List.replicate ((t.length:Int)).toNat (default:Bool)):(List Bool))).length),(7,iS (IntKind.i64.wrap (k7+1)))] [(0,.row 23 (flD dLListInt [2] c0q12)),(1,.row 43 (flD dLListBool [5] (c1q45.set k7.toNat ((List.replicate ((t.length:Int)).toNat (default:Bool)):(List Bool))))),((.s 2 0),.fam (famD dLListInt 0 c0q12)),((.s 3 0),.dead),(4,.dead),((.s 5 0),.fam (famD dLListBool 0 (c1q45.set k7.toNat ((List.replicate ((t.length:Int)).toNat (default:Bool)):(List Bool)))))] 6 (by kernel_rfl) ?_
  exact hn5 ((IntKind.i64.wrap (k7+1)),c0q12,(c1q45.set k7.toNat ((List.replicate ((t.length:Int)).toNat (default:Bool)):(List Bool)))) _ _ _ (Option.some.inj h).symm (leSt_m [(0,0),(1,1),((.s 2 0),(.s 2 0)),((.s 3 0),(.s 5 0))] [] (by simp only [bitvec_to_nat,push_cast,seval]) (by simp only [bitvec_to_nat,push_cast,seval]) rfl rfl rfl)
 ·change R5 (.exit 0) _ _ _
  refine ex_cast hx5 (id:=0) ?_
  obtain ⟨r0,h,e0⟩:=map_sx h
  have e1:=hr5 r0 e0.symm
  subst r0
  refine wk_id ?_
  refine wk_id ?_
  refine seq_np ?_
  refine seq_np ?_
  refine reg_f ?_
  refine rk 1 ?_
  refine rf [(0,.sl t.length (fl t)),(5,.own 0 0 c0q12.length),(6,.own 1 0 c1q45.length),(8,iS 0)] [(0,.row 23 (flD dLListInt [2] c0q12)),(1,.row 43 (flD dLListBool [3] c1q45)),((.s 2 0),.fam (famD dLListInt 0 c0q12)),((.s 3 0),.fam (famD dLListBool 0 c1q45))] 4 (by kernel_rfl) ?_
  refine wk_id ?_
  refine block_np ?_
  refine loop_sx (S:=Int×(List (List Bool))) (fun a=>([(0,.sl t.length (fl t)),(5,.own 0 0 c0q12.length),(6,.own 1 0 a.2.length),(8,iS a.1)],[(0,.row 23 (flD dLListInt [2] c0q12)),(1,.row 43 (flD dLListBool [3] a.2)),((.s 2 0),.fam (famD dLListInt 0 c0q12)),((.s 3 0),.fam (famD dLListBool 0 a.2))],4)) h (leSt_m [(0,0),(1,1),((.s 2 0),(.s 2 0)),((.s 3 0),(.s 3 0))] [] (by simp only [bitvec_to_nat,push_cast,seval]) (by simp only [bitvec_to_nat,push_cast,seval]) rfl rfl rfl) ?_
  rintro ⟨i7,c1q142⟩ o6 R6 h hr6 hn6 hx6 ht6
  try dsimp only at h hn6 ⊢
  unfold taskmillref_Reach_l3 at h
  try dsimp only at h
  refine seq_np ?_
  refine seq_np ?_
  refine reg_f ?_
  refine rk 4 ?_
  refine rf [(0,.sl t.length (fl t)),(5,.own 0 0 c0q12.length),(6,.own 1 0 c1q142.length),(8,iS i7),(33,bS (decide (i7 < (t.length:Int))))] [(0,.row 23 (flD dLListInt [2] c0q12)),(1,.row 43 (flD dLListBool [3] c1q142)),((.s 2 0),.fam (famD dLListInt 0 c0q12)),((.s 3 0),.fam (famD dLListBool 0 c1q142))] 4 (by kernel_rfl) ?_
  refine wk_id ?_
  refine cond_sx h (by kernel_rfl) (fun g11142 h=>?_) (fun g11142 h=>?_)
  ·refine wk_id ?_
   refine seq_np ?_
   refine block_np ?_
   refine seq_np ?_
   refine reg_f ?_
   refine rk 1 ?_
   refine rf [(0,.sl t.length (fl t)),(5,.own 0 0 c0q12.length),(6,.own 1 0 c1q142.length),(8,iS i7),(9,iS 0)] [(0,.row 23 (flD dLListInt [2] c0q12)),(1,.row 43 (flD dLListBool [3] c1q142)),((.s 2 0),.fam (famD dLListInt 0 c0q12)),((.s 3 0),.fam (famD dLListBool 0 c1q142))] 4 (by kernel_rfl) ?_
   refine wk_id ?_
   refine block_np ?_
   refine loop_sx (S:=Int×(List (List Bool))) (fun a=>([(0,.sl t.length (fl t)),(5,.own 0 0 c0q12.length),(6,.own 1 0 a.2.length),(8,iS i7),(9,iS a.1)],[(0,.row 23 (flD dLListInt [2] c0q12)),(1,.row 43 (flD dLListBool [3] a.2)),((.s 2 0),.fam (famD dLListInt 0 c0q12)),((.s 3 0),.fam (famD dLListBool 0 a.2))],4)) h (leSt_m [(0,0),(1,1),((.s 2 0),(.s 2 0)),((.s 3 0),(.s 3 0))] [] (by simp only [bitvec_to_nat,push_cast,seval]) (by simp only [bitvec_to_nat,push_cast,seval]) rfl rfl rfl) ?_
   rintro ⟨x29,c1q205⟩ o7 R7 h hr7 hn7 hx7 ht7
   try dsimp only at h hn7 ⊢
   unfold taskmillref_Reach_l2 at h
   try dsimp only at h
   refine seq_np ?_
   refine chk_sx h (fun g10840 h=>?_)
   refine seq_np ?_
   refine reg_f ?_
   have k10839:0≤i7∧i7 < (c0q12.length:Int):=by first | simpa only [Bool.and_eq_true,decide_eq_true_eq,bne_iff_ne,ne_eq] using g10840 | (simp at g10840 ⊢; omega)
   refine rs 7 [none,none,none,some ⟨.ptr 0 (0+(i7).toNat * 1),[],4,[0]⟩,some ⟨.own (.s 2 i7) 0 (ixD c0q12 i7).length,[],4,[0]⟩] _ (by kernel_rfl) (allP_cons (ob_ldD dLListInt [2] c0q12 i7 1 0 (0+(i7).toNat * 1) k10839 rfl (by decide) (by first | rfl | omega) (dflS Try.prog 23) (.own (.s 2 i7) 0 (ixD c0q12 i7).length) rfl 4 [0]) (allP_cons (ob_ix_o 0 c0q12.length 0 1 4 i7 k10839) allP_nil)) ?_
   refine rf [(0,.sl t.length (fl t)),(5,.own 0 0 c0q12.length),(6,.own 1 0 c1q205.length),(8,iS i7),(9,iS x29),(42,bS (decide (x29 < (((ixD c0q12 i7).length:Nat):Int))))] [(0,.row 23 (flD dLListInt [2] c0q12)),(1,.row 43 (flD dLListBool [3] c1q205)),((.s 2 0),.fam (famD dLListInt 0 c0q12)),((.s 3 0),.fam (famD dLListBool 0 c1q205))] 4 (by kernel_rfl) ?_
   refine wk_id ?_
   refine cond_sx h (by kernel_rfl) (fun g11141 h=>?_) (fun g11141 h=>?_)
   ·refine wk_id ?_
    refine seq_np ?_
    refine block_np ?_
    refine chk_sx h (fun g10972 h=>?_)
    refine chk_sx h (fun g10974 h=>?_)
    refine seq_np ?_
    refine reg_f ?_
    have k10971:0≤i7∧i7 < (c0q12.length:Int):=by first | simpa only [Bool.and_eq_true,decide_eq_true_eq,bne_iff_ne,ne_eq] using g10972 | (simp at g10972 ⊢; omega)
    have k10973:0≤x29∧x29 < (((ixD c0q12 i7).length:Nat):Int):=by first | simpa only [Bool.and_eq_true,decide_eq_true_eq,bne_iff_ne,ne_eq] using g10974 | (simp at g10974 ⊢; omega)
    refine rs 8 [none,none,some ⟨.ptr 0 (0+(i7).toNat * 1),[],4,[0]⟩,some ⟨.own (.s 2 i7) 0 (ixD c0q12 i7).length,[],4,[0]⟩,none,some ⟨.ptr (.s 2 i7) (0+(x29).toNat * 1),[],4,[(.s 2 0)]⟩,some ⟨iS (ix (ixD c0q12 i7) x29),[],4,[(.s 2 0)]⟩] _ (by kernel_rfl) (allP_cons (ob_ld (ixD c0q12 i7) x29 1 0 (0+(x29).toNat * 1) k10973 rfl (by decide) (by first | rfl | omega) (dflS Try.prog 3) (iS (ix (ixD c0q12 i7) x29)) rfl 4 [(.s 2 0)]) (allP_cons (ob_ix_o (.s 2 i7) (ixD c0q12 i7).length 0 1 4 x29 k10973) (allP_cons (ob_ldD dLListInt [2] c0q12 i7 1 0 (0+(i7).toNat * 1) k10971 rfl (by decide) (by first | rfl | omega) (dflS Try.prog 23) (.own (.s 2 i7) 0 (ixD c0q12 i7).length) rfl 4 [0]) (allP_cons (ob_ix_o 0 c0q12.length 0 1 4 i7 k10971) allP_nil)))) ?_
    refine rf [(0,.sl t.length (fl t)),(5,.own 0 0 c0q12.length),(6,.own 1 0 c1q205.length),(8,iS i7),(9,iS x29),(10,iS (ix (ixD c0q12 i7) x29))] [(0,.row 23 (flD dLListInt [2] c0q12)),(1,.row 43 (flD dLListBool [3] c1q205)),((.s 2 0),.fam (famD dLListInt 0 c0q12)),((.s 3 0),.fam (famD dLListBool 0 c1q205))] 4 (by kernel_rfl) ?_
    refine wk_id ?_
    refine chk_sx h (fun g10980 h=>?_)
    refine chk_sx h (fun g10982 h=>?_)
    refine seq_np ?_
    refine reg_f ?_
    have k10979:0≤(ix (ixD c0q12 i7) x29)∧(ix (ixD c0q12 i7) x29) < (c1q205.length:Int):=by first | simpa only [Bool.and_eq_true,decide_eq_true_eq,bne_iff_ne,ne_eq] using g10980 | (simp at g10980 ⊢; omega)
    have k10981:0≤i7∧i7 < (((ixD c1q205 (ix (ixD c0q12 i7) x29)).length:Nat):Int):=by first | simpa only [Bool.and_eq_true,decide_eq_true_eq,bne_iff_ne,ne_eq] using g10982 | (simp at g10982 ⊢; omega)
    refine rs 7 [none,none,some ⟨.ptr 1 (0+((ix (ixD c0q12 i7) x29)).toNat * 1),[],4,[1]⟩,some ⟨.own (.s 3 (ix (ixD c0q12 i7) x29)) 0 (ixD c1q205 (ix (ixD c0q12 i7) x29)).length,[],4,[1]⟩,none,some ⟨.ptr (.s 3 (ix (ixD c0q12 i7) x29)) (0+(i7).toNat * 1),[],4,[(.s 3 0)]⟩,some ⟨.any,[((.s 3 0),.fam (famD dLListBool 0 (c1q205.set (ix (ixD c0q12 i7) x29).toNat ((ixD c1q205 (ix (ixD c0q12 i7) x29)).set i7.toNat true))))],4,[(.s 3 0)]⟩] _ (by kernel_rfl) (allP_cons (ob_stM (P:=Try.prog) dLListBool 0 c1q205 (ix (ixD c0q12 i7) x29) k10979 ((ixD c1q205 (ix (ixD c0q12 i7) x29)).set i7.toNat true) (ixD c1q205 (ix (ixD c0q12 i7) x29)) i7 1 0 (0+(i7).toNat * 1) k10981 rfl [bS true] true (Nat.le_of_ble_eq_true rfl) (by first | rfl | omega) rfl 4 (by first | rfl | simp only [chD]; rfl) 3 4 4 (by kernel_rfl) rfl) (allP_cons (ob_ix_o (.s 3 (ix (ixD c0q12 i7) x29)) (ixD c1q205 (ix (ixD c0q12 i7) x29)).length 0 1 4 i7 k10981) (allP_cons (ob_ldD dLListBool [3] c1q205 (ix (ixD c0q12 i7) x29) 1 0 (0+((ix (ixD c0q12 i7) x29)).toNat * 1) k10979 rfl (by decide) (by first | rfl | omega) (dflS Try.prog 43) (.own (.s 3 (ix (ixD c0q12 i7) x29)) 0 (ixD c1q205 (ix (ixD c0q12 i7) x29)).length) rfl 4 [1]) (allP_cons (ob_ix_o 1 c1q205.length 0 1 4 (ix (ixD c0q12 i7) x29) k10979) allP_nil)))) ?_
    refine run_eqH 1 (.row 43 (flD dLListBool [3] c1q205)) (.row 43 (flD dLListBool [3] (c1q205.set (ix (ixD c0q12 i7) x29).toNat ((ixD c1q205 (ix (ixD c0q12 i7) x29)).set i7.toNat true)))) (congrArg (Chunk.row 43) (flD_same k10979 ((ixD c1q205 (ix (ixD c0q12 i7) x29)).set i7.toNat true) (by first | rfl | simp only [dcs,dLListBool,List.length_set]))) (by kernel_rfl) ?_
    refine run_eqF 6 (.own 1 0 c1q205.length) (.own 1 0 (c1q205.set (ix (ixD c0q12 i7) x29).toNat ((ixD c1q205 (ix (ixD c0q12 i7) x29)).set i7.toNat true)).length) (congrArg (fun nq=>(.own 1 0 nq:SV)) (show c1q205.length = (c1q205.set (ix (ixD c0q12 i7) x29).toNat ((ixD c1q205 (ix (ixD c0q12 i7) x29)).set i7.toNat true)).length from (List.length_set ..).symm)) (by kernel_rfl) ?_
    refine rf [(0,.sl t.length (fl t)),(5,.own 0 0 c0q12.length),(6,.own 1 0 (c1q205.set (ix (ixD c0q12 i7) x29).toNat ((ixD c1q205 (ix (ixD c0q12 i7) x29)).set i7.toNat true)).length),(8,iS i7),(9,iS x29),(10,iS (ix (ixD c0q12 i7) x29))] [(0,.row 23 (flD dLListInt [2] c0q12)),(1,.row 43 (flD dLListBool [3] (c1q205.set (ix (ixD c0q12 i7) x29).toNat ((ixD c1q205 (ix (ixD c0q12 i7) x29)).set i7.toNat true)))),((.s 2 0),.fam (famD dLListInt 0 c0q12)),((.s 3 0),.fam (famD dLListBool 0 (c1q205.set (ix (ixD c0q12 i7) x29).toNat ((ixD c1q205 (ix (ixD c0q12 i7) x29)).set i7.toNat true))))] 4 (by kernel_rfl) ?_
    refine wk_id ?_
    refine seq_np ?_
    refine reg_f ?_
    refine rk 1 ?_
    refine rf [(0,.sl t.length (fl t)),(5,.own 0 0 c0q12.length),(6,.own 1 0 (c1q205.set (ix (ixD c0q12 i7) x29).toNat ((ixD c1q205 (ix (ixD c0q12 i7) x29)).set i7.toNat true)).length),(8,iS i7),(9,iS x29),(10,iS (ix (ixD c0q12 i7) x29)),(11,iS 0)] [(0,.row 23 (flD dLListInt [2] c0q12)),(1,.row 43 (flD dLListBool [3] (c1q205.set (ix (ixD c0q12 i7) x29).toNat ((ixD c1q205 (ix (ixD c0q12 i7) x29)).set i7.toNat true)))),((.s 2 0),.fam (famD dLListInt 0 c0q12)),((.s 3 0),.fam (famD dLListBool 0 (c1q205.set (ix (ixD c0q12 i7) x29).toNat ((ixD c1q205 (ix (ixD c0q12 i7) x29)).set i7.toNat true))))] 4 (by kernel_rfl) ?_
    refine wk_id ?_
    refine block_np ?_
    refine loop_sx (S:=Int×(List (List Bool))) (fun a=>([(0,.sl t.length (fl t)),(5,.own 0 0 c0q12.length),(6,.own 1 0 a.2.length),(8,iS i7),(9,iS x29),(10,iS (ix (ixD c0q12 i7) x29)),(11,iS a.1)],[(0,.row 23 (flD dLListInt [2] c0q12)),(1,.row 43 (flD dLListBool [3] a.2)),((.s 2 0),.fam (famD dLListInt 0 c0q12)),((.s 3 0),.fam (famD dLListBool 0 a.2))],4)) h (leSt_m [(0,0),(1,1),((.s 2 0),(.s 2 0)),((.s 3 0),(.s 3 0))] [] (by simp only [bitvec_to_nat,push_cast,seval]) (by simp only [bitvec_to_nat,push_cast,seval]) rfl rfl rfl) ?_
    rintro ⟨j71,c1q224⟩ o8 R8 h hr8 hn8 hx8 ht8
    try dsimp only at h hn8 ⊢
    unfold taskmillref_Reach_l1 at h
    try dsimp only at h
    refine seq_np ?_
    refine seq_np ?_
    refine reg_f ?_
    refine rk 3 ?_
    refine rf [(0,.sl t.length (fl t)),(5,.own 0 0 c0q12.length),(6,.own 1 0 c1q224.length),(8,iS i7),(9,iS x29),(10,iS (ix (ixD c0q12 i7) x29)),(11,iS j71),(60,bS (decide (j71 < i7)))] [(0,.row 23 (flD dLListInt [2] c0q12)),(1,.row 43 (flD dLListBool [3] c1q224)),((.s 2 0),.fam (famD dLListInt 0 c0q12)),((.s 3 0),.fam (famD dLListBool 0 c1q224))] 4 (by kernel_rfl) ?_
    refine wk_id ?_
    refine cond_sx h (by kernel_rfl) (fun g11140 h=>?_) (fun g11140 h=>?_)
    ·refine wk_id ?_
     refine seq_np ?_
     refine block_cut (A:=(List (List Bool))) (fun a=>([(0,.sl t.length (fl t)),(5,.own 0 0 c0q12.length),(6,.own 1 0 a.length),(8,iS i7),(9,iS x29),(10,iS (ix (ixD c0q12 i7) x29)),(11,iS j71)],[(0,.row 23 (flD dLListInt [2] c0q12)),(1,.row 43 (flD dLListBool [3] a)),((.s 2 0),.fam (famD dLListInt 0 c0q12)),((.s 3 0),.fam (famD dLListBool 0 a))],4)) (fun a=>(taskmillref_Reach_j1 t c0q12 i7 x29 j71 a) = some o8) (fun K11109 hK11109=>?_) ?_
     ·refine chk_sx h (fun g11126 h=>?_)
      refine chk_sx h (fun g11128 h=>?_)
      refine chk_sx h (fun g11130 h=>?_)
      refine reg_t ?_
      have k11125:0≤(ix (ixD c0q12 i7) x29)∧(ix (ixD c0q12 i7) x29) < (c1q224.length:Int):=by first | simpa only [Bool.and_eq_true,decide_eq_true_eq,bne_iff_ne,ne_eq] using g11126 | (simp at g11126 ⊢; omega)
      have k11127:0≤(ix (ixD c0q12 i7) x29)∧(ix (ixD c0q12 i7) x29) < (c1q224.length:Int):=by first | simpa only [Bool.and_eq_true,decide_eq_true_eq,bne_iff_ne,ne_eq] using g11128 | (simp at g11128 ⊢; omega)
      have k11129:0≤j71∧j71 < (((ixD c1q224 (ix (ixD c0q12 i7) x29)).length:Nat):Int):=by first | simpa only [Bool.and_eq_true,decide_eq_true_eq,bne_iff_ne,ne_eq] using g11130 | (simp at g11130 ⊢; omega)
      refine rs 13 [none,none,some ⟨.ptr 1 (0+((ix (ixD c0q12 i7) x29)).toNat * 1),[],6,[1]⟩,some ⟨.own (.s 3 (ix (ixD c0q12 i7) x29)) 0 (ixD c1q224 (ix (ixD c0q12 i7) x29)).length,[],7,[1]⟩,none,none,none,some ⟨.ptr 1 (0+((ix (ixD c0q12 i7) x29)).toNat * 1),[],11,[1]⟩,some ⟨.own (.s 3 (ix (ixD c0q12 i7) x29)) 0 (ixD c1q224 (ix (ixD c0q12 i7) x29)).length,[],12,[1]⟩,none,some ⟨.ptr (.s 3 (ix (ixD c0q12 i7) x29)) (0+(j71).toNat * 1),[],14,[(.s 3 0)]⟩,some ⟨bS (ix (ixD c1q224 (ix (ixD c0q12 i7) x29)) j71),[],15,[(.s 3 0)]⟩] _ (by kernel_rfl) (allP_cons (ob_ld (ixD c1q224 (ix (ixD c0q12 i7) x29)) j71 1 0 (0+(j71).toNat * 1) k11129 rfl (by decide) (by first | rfl | omega) (dflS Try.prog 4) (bS (ix (ixD c1q224 (ix (ixD c0q12 i7) x29)) j71)) rfl 15 [(.s 3 0)]) (allP_cons (ob_ix_o (.s 3 (ix (ixD c0q12 i7) x29)) (ixD c1q224 (ix (ixD c0q12 i7) x29)).length 0 1 14 j71 k11129) (allP_cons (ob_ldD dLListBool [3] c1q224 (ix (ixD c0q12 i7) x29) 1 0 (0+((ix (ixD c0q12 i7) x29)).toNat * 1) k11127 rfl (by decide) (by first | rfl | omega) (dflS Try.prog 43) (.own (.s 3 (ix (ixD c0q12 i7) x29)) 0 (ixD c1q224 (ix (ixD c0q12 i7) x29)).length) rfl 12 [1]) (allP_cons (ob_ix_o 1 c1q224.length 0 1 11 (ix (ixD c0q12 i7) x29) k11127) (allP_cons (ob_ldD dLListBool [3] c1q224 (ix (ixD c0q12 i7) x29) 1 0 (0+((ix (ixD c0q12 i7) x29)).toNat * 1) k11125 rfl (by decide) (by first | rfl | omega) (dflS Try.prog 43) (.own (.s 3 (ix (ixD c0q12 i7) x29)) 0 (ixD c1q224 (ix (ixD c0q12 i7) x29)).length) rfl 7 [1]) (allP_cons (ob_ix_o 1 c1q224.length 0 1 6 (ix (ixD c0q12 i7) x29) k11125) allP_nil)))))) ?_
      refine run_br h 75 (.inl (by kernel_rfl)) (fun g11131 h=>?_) (fun g11131 h=>?_)
      ·refine chk_sx h (fun g11133 h=>?_)
       have k11132:0≤j71∧j71 < (((ixD c1q224 (ix (ixD c0q12 i7) x29)).length:Nat):Int):=by first | simpa only [Bool.and_eq_true,decide_eq_true_eq,bne_iff_ne,ne_eq] using g11133 | (simp at g11133 ⊢; omega)
       refine rs 10 [none,none,none,none,none,none,none,none,some ⟨.ptr (.s 3 (ix (ixD c0q12 i7) x29)) (0+(j71).toNat * 1),[],25,[(.s 3 0)]⟩,some ⟨.any,[((.s 3 0),.fam (famD dLListBool 0 (c1q224.set (ix (ixD c0q12 i7) x29).toNat ((ixD c1q224 (ix (ixD c0q12 i7) x29)).set j71.toNat true))))],26,[(.s 3 0)]⟩] _ (by kernel_rfl) (allP_cons (ob_stM (P:=Try.prog) dLListBool 0 c1q224 (ix (ixD c0q12 i7) x29) k11127 ((ixD c1q224 (ix (ixD c0q12 i7) x29)).set j71.toNat true) (ixD c1q224 (ix (ixD c0q12 i7) x29)) j71 1 0 (0+(j71).toNat * 1) k11132 rfl [bS true] true (Nat.le_of_ble_eq_true rfl) (by first | rfl | omega) rfl 4 (by first | rfl | simp only [chD]; rfl) 3 26 4 (by kernel_rfl) rfl) (allP_cons (ob_ix_o (.s 3 (ix (ixD c0q12 i7) x29)) (ixD c1q224 (ix (ixD c0q12 i7) x29)).length 0 1 25 j71 k11132) allP_nil)) ?_
       refine run_eqH 1 (.row 43 (flD dLListBool [3] c1q224)) (.row 43 (flD dLListBool [3] (c1q224.set (ix (ixD c0q12 i7) x29).toNat ((ixD c1q224 (ix (ixD c0q12 i7) x29)).set j71.toNat true)))) (congrArg (Chunk.row 43) (flD_same k11127 ((ixD c1q224 (ix (ixD c0q12 i7) x29)).set j71.toNat true) (by first | rfl | simp only [dcs,dLListBool,List.length_set]))) (by kernel_rfl) ?_
       refine run_eqF 6 (.own 1 0 c1q224.length) (.own 1 0 (c1q224.set (ix (ixD c0q12 i7) x29).toNat ((ixD c1q224 (ix (ixD c0q12 i7) x29)).set j71.toNat true)).length) (congrArg (fun nq=>(.own 1 0 nq:SV)) (show c1q224.length = (c1q224.set (ix (ixD c0q12 i7) x29).toNat ((ixD c1q224 (ix (ixD c0q12 i7) x29)).set j71.toNat true)).length from (List.length_set ..).symm)) (by kernel_rfl) ?_
       refine rt [(0,.sl t.length (fl t)),(5,.own 0 0 c0q12.length),(6,.own 1 0 (c1q224.set (ix (ixD c0q12 i7) x29).toNat ((ixD c1q224 (ix (ixD c0q12 i7) x29)).set j71.toNat true)).length),(8,iS i7),(9,iS x29),(10,iS (ix (ixD c0q12 i7) x29)),(11,iS j71)] [(0,.row 23 (flD dLListInt [2] c0q12)),(1,.row 43 (flD dLListBool [3] (c1q224.set (ix (ixD c0q12 i7) x29).toNat ((ixD c1q224 (ix (ixD c0q12 i7) x29)).set j71.toNat true)))),((.s 2 0),.fam (famD dLListInt 0 c0q12)),((.s 3 0),.fam (famD dLListBool 0 (c1q224.set (ix (ixD c0q12 i7) x29).toNat ((ixD c1q224 (ix (ixD c0q12 i7) x29)).set j71.toNat true))))] 27 follows (by kernel_rfl) ?_
       exact hK11109 ((c1q224.set (ix (ixD c0q12 i7) x29).toNat ((ixD c1q224 (ix (ixD c0q12 i7) x29)).set j71.toNat true))) _ _ _ h (leSt_m [(0,0),(1,1),((.s 2 0),(.s 2 0)),((.s 3 0),(.s 3 0))] [] (by (try simp only [g11131]) <;> simp only [bitvec_to_nat,push_cast,seval]) (by (try simp only [g11131]) <;> simp only [bitvec_to_nat,push_cast,seval]) rfl rfl rfl)
      ·refine chk_sx h (fun g11135 h=>?_)
       have k11134:0≤i7∧i7 < (c1q224.length:Int):=by first | simpa only [Bool.and_eq_true,decide_eq_true_eq,bne_iff_ne,ne_eq] using g11135 | (simp at g11135 ⊢; omega)
       refine chk_sx h (fun g11137 h=>?_)
       have k11136:0≤j71∧j71 < (((ixD c1q224 i7).length:Nat):Int):=by first | simpa only [Bool.and_eq_true,decide_eq_true_eq,bne_iff_ne,ne_eq] using g11137 | (simp at g11137 ⊢; omega)
       refine chk_sx h (fun g11139 h=>?_)
       have k11138:0≤j71∧j71 < (((ixD c1q224 (ix (ixD c0q12 i7) x29)).length:Nat):Int):=by first | simpa only [Bool.and_eq_true,decide_eq_true_eq,bne_iff_ne,ne_eq] using g11139 | (simp at g11139 ⊢; omega)
       refine rs 10 [none,none,some ⟨.ptr 1 (0+(i7).toNat * 1),[],19,[1]⟩,some ⟨.own (.s 3 i7) 0 (ixD c1q224 i7).length,[],20,[1]⟩,none,some ⟨.ptr (.s 3 i7) (0+(j71).toNat * 1),[],22,[(.s 3 0)]⟩,some ⟨bS (ix (ixD c1q224 i7) j71),[],23,[(.s 3 0)]⟩,none,some ⟨.ptr (.s 3 (ix (ixD c0q12 i7) x29)) (0+(j71).toNat * 1),[],25,[(.s 3 0)]⟩,some ⟨.any,[((.s 3 0),.fam (famD dLListBool 0 (c1q224.set (ix (ixD c0q12 i7) x29).toNat ((ixD c1q224 (ix (ixD c0q12 i7) x29)).set j71.toNat (ix (ixD c1q224 i7) j71)))))],26,[(.s 3 0)]⟩] _ (by kernel_rfl) (allP_cons (ob_stM (P:=Try.prog) dLListBool 0 c1q224 (ix (ixD c0q12 i7) x29) k11127 ((ixD c1q224 (ix (ixD c0q12 i7) x29)).set j71.toNat (ix (ixD c1q224 i7) j71)) (ixD c1q224 (ix (ixD c0q12 i7) x29)) j71 1 0 (0+(j71).toNat * 1) k11138 rfl [bS (ix (ixD c1q224 i7) j71)] (ix (ixD c1q224 i7) j71) (Nat.le_of_ble_eq_true rfl) (by first | rfl | omega) rfl 4 (by first | rfl | simp only [chD]; rfl) 3 26 4 (by kernel_rfl) rfl) (allP_cons (ob_ix_o (.s 3 (ix (ixD c0q12 i7) x29)) (ixD c1q224 (ix (ixD c0q12 i7) x29)).length 0 1 25 j71 k11138) (allP_cons (ob_ld (ixD c1q224 i7) j71 1 0 (0+(j71).toNat * 1) k11136 rfl (by decide) (by first | rfl | omega) (dflS Try.prog 4) (bS (ix (ixD c1q224 i7) j71)) rfl 23 [(.s 3 0)]) (allP_cons (ob_ix_o (.s 3 i7) (ixD c1q224 i7).length 0 1 22 j71 k11136) (allP_cons (ob_ldD dLListBool [3] c1q224 i7 1 0 (0+(i7).toNat * 1) k11134 rfl (by decide) (by first | rfl | omega) (dflS Try.prog 43) (.own (.s 3 i7) 0 (ixD c1q224 i7).length) rfl 20 [1]) (allP_cons (ob_ix_o 1 c1q224.length 0 1 19 i7 k11134) allP_nil)))))) ?_
       refine run_eqH 1 (.row 43 (flD dLListBool [3] c1q224)) (.row 43 (flD dLListBool [3] (c1q224.set (ix (ixD c0q12 i7) x29).toNat ((ixD c1q224 (ix (ixD c0q12 i7) x29)).set j71.toNat (ix (ixD c1q224 i7) j71))))) (congrArg (Chunk.row 43) (flD_same k11127 ((ixD c1q224 (ix (ixD c0q12 i7) x29)).set j71.toNat (ix (ixD c1q224 i7) j71)) (by first | rfl | simp only [dcs,dLListBool,List.length_set]))) (by kernel_rfl) ?_
       refine run_eqF 6 (.own 1 0 c1q224.length) (.own 1 0 (c1q224.set (ix (ixD c0q12 i7) x29).toNat ((ixD c1q224 (ix (ixD c0q12 i7) x29)).set j71.toNat (ix (ixD c1q224 i7) j71))).length) (congrArg (fun nq=>(.own 1 0 nq:SV)) (show c1q224.length = (c1q224.set (ix (ixD c0q12 i7) x29).toNat ((ixD c1q224 (ix (ixD c0q12 i7) x29)).set j71.toNat (ix (ixD c1q224 i7) j71))).length from (List.length_set ..).symm)) (by kernel_rfl) ?_
       refine rt [(0,.sl t.length (fl t)),(5,.own 0 0 c0q12.length),(6,.own 1 0 (c1q224.set (ix (ixD c0q12 i7) x29).toNat ((ixD c1q224 (ix (ixD c0q12 i7) x29)).set j71.toNat (ix (ixD c1q224 i7) j71))).length),(8,iS i7),(9,iS x29),(10,iS (ix (ixD c0q12 i7) x29)),(11,iS j71)] [(0,.row 23 (flD dLListInt [2] c0q12)),(1,.row 43 (flD dLListBool [3] (c1q224.set (ix (ixD c0q12 i7) x29).toNat ((ixD c1q224 (ix (ixD c0q12 i7) x29)).set j71.toNat (ix (ixD c1q224 i7) j71))))),((.s 2 0),.fam (famD dLListInt 0 c0q12)),((.s 3 0),.fam (famD dLListBool 0 (c1q224.set (ix (ixD c0q12 i7) x29).toNat ((ixD c1q224 (ix (ixD c0q12 i7) x29)).set j71.toNat (ix (ixD c1q224 i7) j71)))))] 27 follows (by kernel_rfl) ?_
       exact hK11109 ((c1q224.set (ix (ixD c0q12 i7) x29).toNat ((ixD c1q224 (ix (ixD c0q12 i7) x29)).set j71.toNat (ix (ixD c1q224 i7) j71)))) _ _ _ h (leSt_m [(0,0),(1,1),((.s 2 0),(.s 2 0)),((.s 3 0),(.s 3 0))] [] (by (try simp only [g11131]) <;> simp only [bitvec_to_nat,push_cast,seval]) (by (try simp only [g11131]) <;> simp only [bitvec_to_nat,push_cast,seval]) rfl rfl rfl)
     ·rintro c1q226 h
      try dsimp only at h ⊢
      unfold taskmillref_Reach_j1 at h
      refine wk_id ?_
      refine reg_f ?_
      refine rk 3 ?_
      refine rf [(0,.sl t.length (fl t)),(5,.own 0 0 c0q12.length),(6,.own 1 0 c1q226.length),(8,iS i7),(9,iS x29),(10,iS (ix (ixD c0q12 i7) x29)),(11,iS (IntKind.i64.wrap (j71+1)))] [(0,.row 23 (flD dLListInt [2] c0q12)),(1,.row 43 (flD dLListBool [3] c1q226)),((.s 2 0),.fam (famD dLListInt 0 c0q12)),((.s 3 0),.fam (famD dLListBool 0 c1q226))] 4 (by kernel_rfl) ?_
      exact hn8 ((IntKind.i64.wrap (j71+1)),c1q226) _ _ _ (Option.some.inj h).symm (leSt_m [(0,0),(1,1),((.s 2 0),(.s 2 0)),((.s 3 0),(.s 3 0))] [] (by simp only [bitvec_to_nat,push_cast,seval]) (by simp only [bitvec_to_nat,push_cast,seval]) rfl rfl rfl)
    ·change R8 (.exit 6) _ _ _
     refine ex_cast hx8 (id:=6) ?_
     obtain ⟨r0,h,e0⟩:=map_sx h
     have e1:=hr8 r0 e0.symm
     subst r0
     refine wk_id ?_
     refine wk_id ?_
     refine wk_id ?_
     refine reg_f ?_
     refine rk 3 ?_
     refine rf [(0,.sl t.length (fl t)),(5,.own 0 0 c0q12.length),(6,.own 1 0 c1q224.length),(8,iS i7),(9,iS (IntKind.i64.wrap (x29+1)))] [(0,.row 23 (flD dLListInt [2] c0q12)),(1,.row 43 (flD dLListBool [3] c1q224)),((.s 2 0),.fam (famD dLListInt 0 c0q12)),((.s 3 0),.fam (famD dLListBool 0 c1q224))] 4 (by kernel_rfl) ?_
     exact hn7 ((IntKind.i64.wrap (x29+1)),c1q224) _ _ _ (Option.some.inj h).symm (leSt_m [(0,0),(1,1),((.s 2 0),(.s 2 0)),((.s 3 0),(.s 3 0))] [] (by simp only [bitvec_to_nat,push_cast,seval]) (by simp only [bitvec_to_nat,push_cast,seval]) rfl rfl rfl)
   ·change R7 (.exit 4) _ _ _
    refine ex_cast hx7 (id:=4) ?_
    obtain ⟨r0,h,e0⟩:=map_sx h
    have e1:=hr7 r0 e0.symm
    subst r0
    refine wk_id ?_
    refine wk_id ?_
    refine wk_id ?_
    refine reg_f ?_
    refine rk 3 ?_
    refine rf [(0,.sl t.length (fl t)),(5,.own 0 0 c0q12.length),(6,.own 1 0 c1q205.length),(8,iS (IntKind.i64.wrap (i7+1)))] [(0,.row 23 (flD dLListInt [2] c0q12)),(1,.row 43 (flD dLListBool [3] c1q205)),((.s 2 0),.fam (famD dLListInt 0 c0q12)),((.s 3 0),.fam (famD dLListBool 0 c1q205))] 4 (by kernel_rfl) ?_
    exact hn6 ((IntKind.i64.wrap (i7+1)),c1q205) _ _ _ (Option.some.inj h).symm (leSt_m [(0,0),(1,1),((.s 2 0),(.s 2 0)),((.s 3 0),(.s 3 0))] [] (by simp only [bitvec_to_nat,push_cast,seval]) (by simp only [bitvec_to_nat,push_cast,seval]) rfl rfl rfl)
  ·change R6 (.exit 2) _ _ _
   refine ex_cast hx6 (id:=2) ?_
   obtain ⟨r0,h,e0⟩:=map_sx h
   have e1:=hr6 r0 e0.symm
   subst r0
   refine wk_id ?_
   refine wk_id ?_
   refine seq_np ?_
   refine reg_f ?_
   refine rk 2 ?_
   refine rf [(4,.own 1 0 c1q142.length)] [(0,.row 23 (flD dLListInt [2] c0q12)),(1,.row 43 (flD dLListBool [3] c1q142)),((.s 2 0),.fam (famD dLListInt 0 c0q12)),((.s 3 0),.fam (famD dLListBool 0 c1q142))] 4 (by kernel_rfl) ?_
   refine wk_id ?_
   obtain rfl:=Option.some.inj h
   refine ret_at (.own 1 0 c1q142.length) (by kernel_rfl) ?_
   exact ret_e [(0,1),((.s 1 0),(.s 3 0))] [] (by simp only [bitvec_to_nat,push_cast,seval]) (by simp only [bitvec_to_nat,push_cast,seval]) rfl rfl rfl

end Go.Proofs.Ytelegonboeacaaa
