/-
 What laws of the chapter buddy compute, and lemmas on it.
 No conditions.
-/
import Derived.Test.YtpeaimfdeonpgaabuddyWBuddyWhole1
set_option linter.unusedSimpArgs false
set_option linter.unusedVariables false
set_option linter.unusedSectionVars false
namespace Go.Proofs.Ytpeaimfdeonpgaa
open Go Go.Sx
attribute [local irreducible] Wk RunAt
attribute [local bitvec_to_nat] leL_flD renL_flD leL_flP renL_flP leC_famP leC_famP0 flP_0 ren_famP noN_eq lenP_same lenP_one lenP_app lenP_set lenP_famP Nat.le_refl List.length_set leC_mpP leC_mpP1 mapLe_eq mapLe1_eq ren_mpP ren_mpP1
set_option maxRecDepth 100000 in
set_option maxHeartbeats 200000000 in
theorem buddy_Give_spec (s:Space) (start:Int) (r:Int×Fault×(List GBlock)×(List GBlock)) (h:buddy_Give s start = some r):SpecW Try.prog 17 [.agg (Enc.cells s),iS start] [] 0 (fun x h n=>x = .tup [.agg [iS r.1,.own 0 0 r.2.2.1.length,.own 1 0 r.2.2.2.length],.agg (Enc.cells r.2.1)]∧h = [(0,.row 38 (fl r.2.2.1)),(1,.row 38 (fl r.2.2.2))]∧n = 2):=by
 unfold buddy_Give at h
 refine spec_of (draw_ok _) Try.func17 rfl (by decide) rfl (by kernel_rfl) ?_
 refine seq_np ?_
 refine reg_f ?_
 refine rk 3 ?_
 refine rf [(1,iS start),(2,.ptr 0 0),(4,.ptr 1 0),(5,.ptr 2 0)] [(0,.row 24 (Enc.cells s)),(1,.row 24 [iS 0,.v (.slice none 0 0),.v (.slice none 0 0)]),(2,.row 29 [iS 0,iS 0])] 3 (by kernel_rfl) ?_
 refine wk_id ?_
 refine seq_np ?_
 refine seq_np ?_
 refine reg_f ?_
 refine rk 1 ?_
 obtain ⟨r4886,hr4886,h⟩:=bind_sx h
 refine run_call 10 [.agg (Enc.cells s)] (some 13) (by kernel_rfl) ?_
 refine call_0 (buddy_Check_spec s r4886 hr4886) (by simp only [push_cast,seval]) (by simp only [push_cast,seval]) ?_
 refine back_f ?_
 refine rk 2 ?_
 refine rf [(1,iS start),(2,.ptr 0 0),(4,.ptr 1 0),(5,.ptr 2 0),(6,.ptr 3 0)] [(0,.row 24 (Enc.cells s)),(1,.row 24 [iS 0,.v (.slice none 0 0),.v (.slice none 0 0)]),(2,.row 29 [iS 0,iS 0]),(3,.row 29 (Enc.cells r4886))] 4 (by kernel_rfl) ?_
 refine wk_id ?_
 refine seq_np ?_
 refine reg_f ?_
 refine rk 3 ?_
 refine rf [(1,iS start),(2,.ptr 0 0),(4,.ptr 1 0),(5,.ptr 2 0),(6,.ptr 3 0),(16,bS (r4886.Code != 0))] [(0,.row 24 (Enc.cells s)),(1,.row 24 [iS 0,.v (.slice none 0 0),.v (.slice none 0 0)]),(2,.row 29 [iS 0,iS 0]),(3,.row 29 (Enc.cells r4886))] 4 (by kernel_rfl) ?_
 refine wk_id ?_
 refine cond_sx h (by kernel_rfl) (fun g4978 h=>?_) (fun g4978 h=>?_)
 ·refine seq_np ?_
  refine reg_t ?_
  refine rk 4 ?_
  refine rt [(4,.ptr 1 0),(5,.ptr 2 0)] [(0,.row 24 (Enc.cells s)),(1,.row 24 [iS 0,.v (.slice none 0 0),.v (.slice none 0 0)]),(2,.row 29 (Enc.cells r4886)),(3,.row 29 (Enc.cells r4886))] 8 follows (by kernel_rfl) ?_
  refine wk_id ?_
  obtain rfl:=Option.some.inj h
  refine ret_at (.tup [.agg [iS 0,.v (.slice none 0 0),.v (.slice none 0 0)],.agg (Enc.cells r4886)]) (by kernel_rfl) ?_
  exact ret_e [] [] (by simp only [push_cast,seval]) (by simp only [push_cast,seval]) rfl rfl rfl
 ·refine wk_id ?_
  refine seq_np ?_
  refine reg_f ?_
  refine rk 4 ?_
  obtain ⟨r4888,hr4888,h⟩:=bind_sx h
  refine run_call 39 [.sl s.Used.length (fl s.Used),.agg [iS start,iS 0],.v (.func (.func 26) #[] #[])] (some 24) (by kernel_rfl) ?_
  refine call_0 (slices_BinarySearchFunc_Block_spec s.Used (GBlock.mk start 0) r4888 hr4888) (by simp only [push_cast,seval]) (by simp only [push_cast,seval]) ?_
  refine back_f ?_
  refine rk 5 ?_
  refine rf [(2,.ptr 0 0),(4,.ptr 1 0),(5,.ptr 2 0),(7,iS r4888.1),(8,bS r4888.2)] [(0,.row 24 (Enc.cells s)),(1,.row 24 [iS 0,.v (.slice none 0 0),.v (.slice none 0 0)]),(2,.row 29 [iS 0,iS 0]),(3,.row 29 (Enc.cells r4886))] 4 (by kernel_rfl) ?_
  refine wk_id ?_
  refine seq_np ?_
  refine seq_np ?_
  refine reg_f ?_
  refine rk 2 ?_
  refine rf [(2,.ptr 0 0),(4,.ptr 1 0),(5,.ptr 2 0),(7,iS r4888.1),(28,bS (!r4888.2))] [(0,.row 24 (Enc.cells s)),(1,.row 24 [iS 0,.v (.slice none 0 0),.v (.slice none 0 0)]),(2,.row 29 [iS 0,iS 0]),(3,.row 29 (Enc.cells r4886))] 4 (by kernel_rfl) ?_
  refine wk_id ?_
  refine cond_sx h (by kernel_rfl) (fun g4977 h=>?_) (fun g4977 h=>?_)
  ·refine seq_np ?_
   refine reg_f ?_
   refine rk 1 ?_
   obtain ⟨r4892,hr4892,h⟩:=bind_sx h
   refine run_call 21 [iS 6,iS 0] (some 30) (by kernel_rfl) ?_
   refine call_0 (buddy_fault_spec 6 0 r4892 hr4892) (by simp only [push_cast,seval]) (by simp only [push_cast,seval]) ?_
   refine back_f ?_
   refine rk 2 ?_
   refine rf [(4,.ptr 1 0),(5,.ptr 2 0)] [(0,.row 24 (Enc.cells s)),(1,.row 24 [iS 0,.v (.slice none 0 0),.v (.slice none 0 0)]),(2,.row 29 (Enc.cells r4892)),(3,.row 29 (Enc.cells r4886))] 4 (by kernel_rfl) ?_
   refine wk_id ?_
   obtain rfl:=Option.some.inj h
   refine ret_at (.tup [.agg [iS 0,.v (.slice none 0 0),.v (.slice none 0 0)],.agg (Enc.cells r4892)]) (by kernel_rfl) ?_
   exact ret_e [] [] (by simp only [push_cast,seval]) (by simp only [push_cast,seval]) rfl rfl rfl
  ·refine wk_id ?_
   refine seq_np ?_
   refine reg_f ?_
   refine rk 1 ?_
   obtain ⟨r4894,hr4894,h⟩:=bind_sx h
   refine call_x (buddy_copied_spec s r4894 hr4894) (args:=[.agg (Enc.cells s)]) (dst:=(some 32)) (by kernel_rfl) [(0,.row 24 (Enc.cells s)),(1,.row 24 [iS 0,.v (.slice none 0 0),.v (.slice none 0 0)]),(2,.row 29 [iS 0,iS 0]),(3,.row 29 (Enc.cells r4886))] 4 (by kernel_rfl) [] [] (.agg [iS r4894.1,.own 4 0 r4894.2.1.length,.own 5 0 r4894.2.2.length]) [(4,.row 38 (fl r4894.2.1)),(5,.row 38 (fl r4894.2.2))] (by simp only [push_cast,seval]) (by simp only [push_cast,seval]) (by kernel_rfl) (.inl rfl) (by simp only [push_cast,seval]) (by simp only [push_cast,seval]) ?_
   refine rk 2 ?_
   refine rf [(2,.ptr 0 0),(4,.ptr 1 0),(5,.ptr 2 0),(7,iS r4888.1),(9,.ptr 6 0)] [(0,.row 24 (Enc.cells s)),(1,.row 24 [iS 0,.v (.slice none 0 0),.v (.slice none 0 0)]),(2,.row 29 [iS 0,iS 0]),(3,.row 29 (Enc.cells r4886)),(4,.row 38 (fl r4894.2.1)),(5,.row 38 (fl r4894.2.2)),(6,.row 24 [iS r4894.1,.own 4 0 r4894.2.1.length,.own 5 0 r4894.2.2.length])] 7 (by kernel_rfl) ?_
   refine wk_id ?_
   refine chk_sx h (fun g4898 h=>?_)
   refine seq_np ?_
   refine reg_f ?_
   have k4897:0≤r4888.1∧r4888.1 < (r4894.2.1.length:Int):=by first | simpa only [Bool.and_eq_true,decide_eq_true_eq,bne_iff_ne,ne_eq] using g4898 | (simp at g4898 ⊢; omega) | simp
   refine rs 7 [none,none,none,some ⟨.ptr 4 (0+(r4888.1).toNat * 2),[],7,[4]⟩,some ⟨.agg (Enc.cells (ix r4894.2.1 r4888.1)),[],7,[4]⟩] _ (by kernel_rfl) (allP_cons (ob_ldw r4894.2.1 r4888.1 2 (0+(r4888.1).toNat * 2) k4897 rfl (by first | rfl | omega) (Enc.cells (ix r4894.2.1 r4888.1)) rfl 7 [4]) (allP_cons (ob_ix_o 4 r4894.2.1.length 0 2 7 r4888.1 k4897) allP_nil)) ?_
   refine rf [(2,.ptr 0 0),(4,.ptr 1 0),(5,.ptr 2 0),(7,iS r4888.1),(9,.ptr 6 0),(10,.ptr 7 0)] [(0,.row 24 (Enc.cells s)),(1,.row 24 [iS 0,.v (.slice none 0 0),.v (.slice none 0 0)]),(2,.row 29 [iS 0,iS 0]),(3,.row 29 (Enc.cells r4886)),(4,.row 38 (fl r4894.2.1)),(5,.row 38 (fl r4894.2.2)),(6,.row 24 [iS r4894.1,.own 4 0 r4894.2.1.length,.own 5 0 r4894.2.2.length]),(7,.row 38 (Enc.cells (ix r4894.2.1 r4888.1)))] 8 (by kernel_rfl) ?_
   refine wk_id ?_
   refine seq_np ?_
   refine reg_f ?_
   refine rk 5 ?_
   obtain ⟨r4901,hr4901,h⟩:=bind_sx h
   refine call_x (slices_Delete_Block_1_spec r4888.1 (IntKind.i64.wrap (r4888.1+1)) r4894.2.1 r4901 hr4901) (args:=[.own 4 0 r4894.2.1.length,iS r4888.1,iS (IntKind.i64.wrap (r4888.1+1))]) (dst:=(some 43)) (by kernel_rfl) [(0,.row 24 (Enc.cells s)),(1,.row 24 [iS 0,.v (.slice none 0 0),.v (.slice none 0 0)]),(2,.row 29 [iS 0,iS 0]),(3,.row 29 (Enc.cells r4886)),(4,.row 38 (fl r4894.2.1)),(5,.row 38 (fl r4894.2.2)),(6,.row 24 [iS r4894.1,.own 4 0 r4894.2.1.length,.own 5 0 r4894.2.2.length]),(7,.row 38 (Enc.cells (ix r4894.2.1 r4888.1)))] 8 (by kernel_rfl) [(0,4)] [] (.own 4 0 r4901.length) [(4,.row 38 (fl r4901)),(4,.dead)] (by simp only [push_cast,seval]) (by simp only [push_cast,seval]) (by kernel_rfl) (.inl rfl) (by simp only [push_cast,seval]) (by simp only [push_cast,seval]) ?_
   refine rk 2 ?_
   refine rf [(2,.ptr 0 0),(4,.ptr 1 0),(5,.ptr 2 0),(9,.ptr 6 0),(10,.ptr 7 0)] [(0,.row 24 (Enc.cells s)),(1,.row 24 [iS 0,.v (.slice none 0 0),.v (.slice none 0 0)]),(2,.row 29 [iS 0,iS 0]),(3,.row 29 (Enc.cells r4886)),(4,.row 38 (fl r4901)),(5,.row 38 (fl r4894.2.2)),(6,.row 24 [iS r4894.1,.own 4 0 r4901.length,.own 5 0 r4894.2.2.length]),(7,.row 38 (Enc.cells (ix r4894.2.1 r4888.1)))] 9 (by kernel_rfl) ?_
   refine wk_id ?_
   refine seq_np ?_
   refine block_cut (A:=Int×GBlock×(List GBlock)×(List GBlock)) (fun a=>([(4,.ptr 0 0),(5,.ptr 1 0),(9,.ptr 2 0),(10,.ptr 3 0)],[(0,.row 24 [iS 0,.v (.slice none 0 0),.v (.slice none 0 0)]),(1,.row 29 [iS 0,iS 0]),(2,.row 24 [iS a.1,.own 4 0 a.2.2.1.length,.own 5 0 a.2.2.2.length]),(3,.row 38 (Enc.cells a.2.1)),(4,.row 38 (fl a.2.2.1)),(5,.row 38 (fl a.2.2.2))],6)) (fun a=>(buddy_Give_j1 a.1 a.2.1 a.2.2.1 a.2.2.2) = some r) (fun K4944 hK4944=>?_) ?_
   ·refine loop_sx (S:=Int×GBlock×(List GBlock)×(List GBlock)) (fun a=>([(2,.ptr 0 0),(4,.ptr 1 0),(5,.ptr 2 0),(9,.ptr 3 0),(10,.ptr 4 0)],[(0,.row 24 (Enc.cells s)),(1,.row 24 [iS 0,.v (.slice none 0 0),.v (.slice none 0 0)]),(2,.row 29 [iS 0,iS 0]),(3,.row 24 [iS a.1,.own 5 0 a.2.2.1.length,.own 6 0 a.2.2.2.length]),(4,.row 38 (Enc.cells a.2.1)),(5,.row 38 (fl a.2.2.1)),(6,.row 38 (fl a.2.2.2))],7)) h (leSt_m [(0,0),(1,1),(2,2),(3,6),(4,7),(5,4),(6,5)] [] (by simp only [push_cast,seval]) (by simp only [push_cast,seval]) rfl rfl rfl) ?_
    rintro ⟨c3_Bits7,c4q10,c5q10,c6q7⟩ o2 R2 h hr2 hn2 hx2 ht2
    try dsimp only at h hn2 ⊢
    unfold buddy_Give_l1 at h
    try dsimp only at h
    refine seq_np ?_
    refine chk_sx h (fun g4961 h=>?_)
    refine seq_np ?_
    refine reg_t ?_
    have k4960:0≤s.Bits:=by first | simpa only [Bool.and_eq_true,decide_eq_true_eq,bne_iff_ne,ne_eq] using g4961 | (simp at g4961 ⊢; omega) | simp
    refine rs 6 [none,none,none,none,some ⟨iS (IntKind.i64.wrap ((1:Int) * 2 ^ (min (s.Bits).toNat (IntKind.i64).bits))),[],11,[]⟩] _ (by kernel_rfl) (allP_cons (ob_p (v:=iS (IntKind.i64.wrap ((1:Int) * 2 ^ (min (s.Bits).toNat (IntKind.i64).bits)))) (nx:=11) (r:=[]) k4960) allP_nil) ?_
    refine rt [(2,.ptr 0 0),(4,.ptr 1 0),(5,.ptr 2 0),(9,.ptr 3 0),(10,.ptr 4 0),(50,bS (decide (c4q10.Size < (IntKind.i64.wrap ((1:Int) * 2 ^ (min (s.Bits).toNat (IntKind.i64).bits))))))] [(0,.row 24 (Enc.cells s)),(1,.row 24 [iS 0,.v (.slice none 0 0),.v (.slice none 0 0)]),(2,.row 29 [iS 0,iS 0]),(3,.row 24 [iS c3_Bits7,.own 5 0 c5q10.length,.own 6 0 c6q7.length]),(4,.row 38 (Enc.cells c4q10)),(5,.row 38 (fl c5q10)),(6,.row 38 (fl c6q7))] 13 follows (by kernel_rfl) ?_
    refine wk_id ?_
    refine cond_sx h (by kernel_rfl) (fun g4974 h=>?_) (fun g4974 h=>?_)
    ·refine wk_id ?_
     refine block_np ?_
     refine seq_np ?_
     refine reg_t ?_
     refine rk 3 ?_
     obtain ⟨r4964,hr4964,h⟩:=bind_sx h
     refine run_call 30 [.agg (Enc.cells c4q10)] (some 54) (by kernel_rfl) ?_
     refine callE_0 (buddy_mate_spec c4q10 r4964 hr4964) (by simp only [push_cast,seval]) (by simp only [push_cast,seval]) ?_
     refine back_t ?_
     obtain ⟨r4965,hr4965,h⟩:=bind_sx h
     refine call_x (slices_Index_Block_spec c6q7 r4964 r4965 hr4965) (args:=[.own 6 0 c6q7.length,.agg (Enc.cells r4964)]) (dst:=(some 55)) (by kernel_rfl) [(0,.row 24 (Enc.cells s)),(1,.row 24 [iS 0,.v (.slice none 0 0),.v (.slice none 0 0)]),(2,.row 29 [iS 0,iS 0]),(3,.row 24 [iS c3_Bits7,.own 5 0 c5q10.length,.own 6 0 c6q7.length]),(4,.row 38 (Enc.cells c4q10)),(5,.row 38 (fl c5q10)),(6,.row 38 (fl c6q7))] 17 (by kernel_rfl) [] [6] (iS r4965) [] (by simp only [push_cast,seval]) (by simp only [push_cast,seval]) (by kernel_rfl) (.inr ⟨by simp only [push_cast,seval],by simp only [push_cast,seval]⟩) (by simp only [push_cast,seval]) (by simp only [push_cast,seval]) ?_
     refine rk 1 ?_
     refine rt [(2,.ptr 0 0),(4,.ptr 1 0),(5,.ptr 2 0),(9,.ptr 3 0),(10,.ptr 4 0),(11,iS r4965)] [(0,.row 24 (Enc.cells s)),(1,.row 24 [iS 0,.v (.slice none 0 0),.v (.slice none 0 0)]),(2,.row 29 [iS 0,iS 0]),(3,.row 24 [iS c3_Bits7,.own 5 0 c5q10.length,.own 6 0 c6q7.length]),(4,.row 38 (Enc.cells c4q10)),(5,.row 38 (fl c5q10)),(6,.row 38 (fl c6q7))] 19 follows (by kernel_rfl) ?_
     refine wk_id ?_
     refine seq_np ?_
     refine seq_np ?_
     refine reg_f ?_
     refine rk 2 ?_
     refine rf [(2,.ptr 0 0),(4,.ptr 1 0),(5,.ptr 2 0),(9,.ptr 3 0),(10,.ptr 4 0),(11,iS r4965),(57,bS (decide (r4965 < 0)))] [(0,.row 24 (Enc.cells s)),(1,.row 24 [iS 0,.v (.slice none 0 0),.v (.slice none 0 0)]),(2,.row 29 [iS 0,iS 0]),(3,.row 24 [iS c3_Bits7,.own 5 0 c5q10.length,.own 6 0 c6q7.length]),(4,.row 38 (Enc.cells c4q10)),(5,.row 38 (fl c5q10)),(6,.row 38 (fl c6q7))] 19 (by kernel_rfl) ?_
     refine wk_id ?_
     refine cond_sx h (by kernel_rfl) (fun g4973 h=>?_) (fun g4973 h=>?_)
     ·change R2 (.exit 0) _ _ _
      refine ex_cast hx2 (id:=0) ?_
      obtain ⟨r0,h,e0⟩:=map_sx h
      have e1:=hr2 r0 e0.symm
      subst r0
      exact hK4944 (c3_Bits7,c4q10,c5q10,c6q7) _ _ _ h (leSt_m [(0,1),(1,2),(2,3),(3,4),(4,5),(5,6)] [] (by simp only [push_cast,seval]) (by simp only [push_cast,seval]) rfl rfl rfl)
     ·refine wk_id ?_
      refine seq_np ?_
      refine reg_f ?_
      refine rk 5 ?_
      obtain ⟨r4969,hr4969,h⟩:=bind_sx h
      refine call_x (slices_Delete_Block_1_spec r4965 (IntKind.i64.wrap (r4965+1)) c6q7 r4969 hr4969) (args:=[.own 6 0 c6q7.length,iS r4965,iS (IntKind.i64.wrap (r4965+1))]) (dst:=(some 63)) (by kernel_rfl) [(0,.row 24 (Enc.cells s)),(1,.row 24 [iS 0,.v (.slice none 0 0),.v (.slice none 0 0)]),(2,.row 29 [iS 0,iS 0]),(3,.row 24 [iS c3_Bits7,.own 5 0 c5q10.length,.own 6 0 c6q7.length]),(4,.row 38 (Enc.cells c4q10)),(5,.row 38 (fl c5q10)),(6,.row 38 (fl c6q7))] 19 (by kernel_rfl) [(0,6)] [] (.own 6 0 r4969.length) [(6,.row 38 (fl r4969)),(6,.dead)] (by simp only [push_cast,seval]) (by simp only [push_cast,seval]) (by kernel_rfl) (.inl rfl) (by simp only [push_cast,seval]) (by simp only [push_cast,seval]) ?_
      refine rk 2 ?_
      refine rf [(2,.ptr 0 0),(4,.ptr 1 0),(5,.ptr 2 0),(9,.ptr 3 0),(10,.ptr 4 0)] [(0,.row 24 (Enc.cells s)),(1,.row 24 [iS 0,.v (.slice none 0 0),.v (.slice none 0 0)]),(2,.row 29 [iS 0,iS 0]),(3,.row 24 [iS c3_Bits7,.own 5 0 c5q10.length,.own 6 0 r4969.length]),(4,.row 38 (Enc.cells c4q10)),(5,.row 38 (fl c5q10)),(6,.row 38 (fl r4969))] 20 (by kernel_rfl) ?_
      refine wk_id ?_
      refine reg_t ?_
      refine rk 3 ?_
      obtain ⟨r4972,hr4972,h⟩:=bind_sx h
      refine run_call 30 [.agg (Enc.cells c4q10)] (some 68) (by kernel_rfl) ?_
      refine callE_0 (buddy_mate_spec c4q10 r4972 hr4972) (by simp only [push_cast,seval]) (by simp only [push_cast,seval]) ?_
      refine back_t ?_
      refine rk 7 ?_
      refine rt [(2,.ptr 0 0),(4,.ptr 1 0),(5,.ptr 2 0),(9,.ptr 3 0),(10,.ptr 4 0)] [(0,.row 24 (Enc.cells s)),(1,.row 24 [iS 0,.v (.slice none 0 0),.v (.slice none 0 0)]),(2,.row 29 [iS 0,iS 0]),(3,.row 24 [iS c3_Bits7,.own 5 0 c5q10.length,.own 6 0 r4969.length]),(4,.row 38 [iS (min c4q10.Start r4972.Start),iS (IntKind.i64.wrap ((2:Int) * c4q10.Size))]),(5,.row 38 (fl c5q10)),(6,.row 38 (fl r4969))] 31 follows (by kernel_rfl) ?_
      refine wk_id ?_
      exact hn2 (c3_Bits7,(GBlock.mk (min c4q10.Start r4972.Start) (IntKind.i64.wrap ((2:Int) * c4q10.Size))),c5q10,r4969) _ _ _ (Option.some.inj h).symm (leSt_m [(0,0),(1,1),(2,2),(3,3),(4,4),(5,5),(6,6)] [] (by simp only [push_cast,seval]) (by simp only [push_cast,seval]) rfl rfl rfl)
    ·change R2 (.exit 0) _ _ _
     refine ex_cast hx2 (id:=0) ?_
     obtain ⟨r0,h,e0⟩:=map_sx h
     have e1:=hr2 r0 e0.symm
     subst r0
     exact hK4944 (c3_Bits7,c4q10,c5q10,c6q7) _ _ _ h (leSt_m [(0,1),(1,2),(2,3),(3,4),(4,5),(5,6)] [] (by simp only [push_cast,seval]) (by simp only [push_cast,seval]) rfl rfl rfl)
   ·rintro ⟨c2_Bits2,c3q2,c4q8,c5q8⟩ h
    try dsimp only at h ⊢
    unfold buddy_Give_j1 at h
    refine wk_id ?_
    refine seq_np ?_
    refine reg_f ?_
    refine rk 3 ?_
    obtain ⟨r4976,hr4976,h⟩:=bind_sx h
    refine call_x (buddy_put_1_spec c3q2 c5q8 r4976 hr4976) (args:=[.own 5 0 c5q8.length,.agg (Enc.cells c3q2)]) (dst:=(some 78)) (by kernel_rfl) [(0,.row 24 [iS 0,.v (.slice none 0 0),.v (.slice none 0 0)]),(1,.row 29 [iS 0,iS 0]),(2,.row 24 [iS c2_Bits2,.own 4 0 c4q8.length,.own 5 0 c5q8.length]),(3,.row 38 (Enc.cells c3q2)),(4,.row 38 (fl c4q8)),(5,.row 38 (fl c5q8))] 6 (by kernel_rfl) [(0,5)] [] (.own 7 0 r4976.length) [(5,.dead),(7,.row 38 (fl r4976)),(5,.dead)] (by simp only [push_cast,seval]) (by simp only [push_cast,seval]) (by kernel_rfl) (.inl rfl) (by simp only [push_cast,seval]) (by simp only [push_cast,seval]) ?_
    refine rk 2 ?_
    refine rf [(4,.ptr 0 0),(5,.ptr 1 0),(9,.ptr 2 0)] [(0,.row 24 [iS 0,.v (.slice none 0 0),.v (.slice none 0 0)]),(1,.row 29 [iS 0,iS 0]),(2,.row 24 [iS c2_Bits2,.own 4 0 c4q8.length,.own 7 0 r4976.length]),(3,.row 38 (Enc.cells c3q2)),(4,.row 38 (fl c4q8)),(5,.dead),(7,.row 38 (fl r4976))] 8 (by kernel_rfl) ?_
    refine wk_id ?_
    refine seq_np ?_
    refine reg_f ?_
    refine rk 4 ?_
    refine rf [(4,.ptr 0 0),(5,.ptr 1 0)] [(0,.row 24 [iS c2_Bits2,.own 4 0 c4q8.length,.own 7 0 r4976.length]),(1,.row 29 [iS 0,iS 0]),(2,.row 24 [iS c2_Bits2,.own 4 0 c4q8.length,.own 7 0 r4976.length]),(3,.row 38 (Enc.cells c3q2)),(4,.row 38 (fl c4q8)),(5,.dead),(7,.row 38 (fl r4976))] 8 (by kernel_rfl) ?_
    refine wk_id ?_
    obtain rfl:=Option.some.inj h
    refine ret_at (.tup [.agg [iS c2_Bits2,.own 4 0 c4q8.length,.own 7 0 r4976.length],.agg [iS 0,iS 0]]) (by kernel_rfl) ?_
    exact ret_e [(0,4),(1,7)] [] (by simp only [push_cast,seval]) (by simp only [push_cast,seval]) rfl rfl rfl

set_option maxRecDepth 100000 in
set_option maxHeartbeats 200000000 in
theorem taskmilllaw_BuddyWhole_spec (bits:Int) (moves:(List Int)) (r:Bool) (h:taskmilllaw_BuddyWhole bits moves = some r):SpecW Try.prog 6 [iS bits,.sl moves.length (fl moves)] [] 0 (fun x h n=>x = bS r∧h = []∧n = 0):=by
 unfold taskmilllaw_BuddyWhole at h
 refine spec_of (draw_ok _) Try.func6 rfl (by decide) rfl (by kernel_rfl) ?_
 refine seq_np ?_
 refine reg_f ?_
 refine rk 1 ?_
 refine rf [(0,iS bits),(1,.sl moves.length (fl moves))] [] 0 (by kernel_rfl) ?_
 refine wk_id ?_
 refine seq_np ?_
 refine seq_np ?_
 refine reg_f ?_
 obtain ⟨r5516,hr5516,h⟩:=bind_sx h
 refine run_call 7 [] (some 18) (by kernel_rfl) ?_
 refine call_0 (taskmilllaw_buddyBegun_spec r5516 hr5516) (by simp only [push_cast,seval]) (by simp only [push_cast,seval]) ?_
 refine back_f ?_
 refine rk 1 ?_
 refine rf [(0,iS bits),(1,.sl moves.length (fl moves)),(19,bS (!r5516))] [] 0 (by kernel_rfl) ?_
 refine wk_id ?_
 refine cond_sx h (by kernel_rfl) (fun g6269 h=>?_) (fun g6269 h=>?_)
 ·refine seq_np ?_
  refine reg_f ?_
  refine rk 1 ?_
  refine rf [(4,bS false)] [] 0 (by kernel_rfl) ?_
  refine wk_id ?_
  obtain rfl:=Option.some.inj h
  refine ret_at (bS false) (by kernel_rfl) ?_
  exact ret_e [] [] (by simp only [push_cast,seval]) (by simp only [push_cast,seval]) rfl rfl rfl
 ·refine wk_id ?_
  refine seq_np ?_
  refine seq_cut (A:=Unit) (fun _=>([(0,iS bits),(1,.sl moves.length (fl moves)),(30,bS ((decide (bits < 0)) || ((decide ((20:Int) < bits)) || (decide ((200:Int) < (moves.length:Int))))))],[],0)) (fun _=>True) (fun K5522 hK5522=>?_) (fun _ _=>?_)
  ·refine reg_f ?_
   refine rk 3 ?_
   refine run_split 22 (decide (bits < 0)) (.inl (by kernel_rfl)) (fun g5523=>?_) (fun g5523=>?_)
   ·refine rk 8 ?_
    refine rf [(0,iS bits),(1,.sl moves.length (fl moves)),(30,bS true)] [] 0 (by kernel_rfl) ?_
    exact hK5522 () _ _ _ trivial (leSt_m [] [] (by (try simp only [g5523]) <;> simp only [push_cast,seval]) (by (try simp only [g5523]) <;> simp only [push_cast,seval]) rfl rfl rfl)
   ·refine rk 4 ?_
    refine run_split 26 (decide ((20:Int) < bits)) (.inl (by kernel_rfl)) (fun g5524=>?_) (fun g5524=>?_)
    ·refine rk 4 ?_
     refine rf [(0,iS bits),(1,.sl moves.length (fl moves)),(30,bS true)] [] 0 (by kernel_rfl) ?_
     exact hK5522 () _ _ _ trivial (leSt_m [] [] (by first | ((try simp only [g5523,g5524]) <;> simp only [push_cast,seval]; done) | ((try simp only [g5523]); (try simp only [g5524]); simp only [push_cast,seval]; done) | (exfalso; clear h; simp_all; done)) (by first | ((try simp only [g5523,g5524]) <;> simp only [push_cast,seval]; done) | ((try simp only [g5523]); (try simp only [g5524]); simp only [push_cast,seval]; done) | (exfalso; clear h; simp_all; done)) rfl rfl rfl)
    ·refine rk 4 ?_
     refine rf [(0,iS bits),(1,.sl moves.length (fl moves)),(30,bS (decide ((200:Int) < (moves.length:Int))))] [] 0 (by kernel_rfl) ?_
     exact hK5522 () _ _ _ trivial (leSt_m [] [] (by first | ((try simp only [g5523,g5524]) <;> simp only [push_cast,seval]; done) | ((try simp only [g5523]); (try simp only [g5524]); simp only [push_cast,seval]; done) | (exfalso; clear h; simp_all; done)) (by first | ((try simp only [g5523,g5524]) <;> simp only [push_cast,seval]; done) | ((try simp only [g5523]); (try simp only [g5524]); simp only [push_cast,seval]; done) | (exfalso; clear h; simp_all; done)) rfl rfl rfl)
  ·dsimp only
   refine cond_sx h (by kernel_rfl) (fun g6268 h=>?_) (fun g6268 h=>?_)
   ·refine seq_np ?_
    refine reg_f ?_
    refine rk 1 ?_
    refine rf [(4,bS true)] [] 0 (by kernel_rfl) ?_
    refine wk_id ?_
    obtain rfl:=Option.some.inj h
    refine ret_at (bS true) (by kernel_rfl) ?_
    exact ret_e [] [] (by simp only [push_cast,seval]) (by simp only [push_cast,seval]) rfl rfl rfl
   ·refine wk_id ?_
    refine seq_np ?_
    refine reg_f ?_
    refine rk 1 ?_
    obtain ⟨r5526,hr5526,h⟩:=bind_sx h
    refine call_x (buddy_New_spec bits r5526 hr5526) (args:=[iS bits]) (dst:=(some 33)) (by kernel_rfl) [] 0 (by kernel_rfl) [] [] (.tup [.agg [iS r5526.1,.v (.slice none 0 0),.own 0 0 r5526.2.2.length],.agg (Enc.cells r5526.2.1)]) [(0,.row 38 (fl r5526.2.2))] (by simp only [push_cast,seval]) (by simp only [push_cast,seval]) (by kernel_rfl) (.inl rfl) (by simp only [push_cast,seval]) (by simp only [push_cast,seval]) ?_
    refine rk 7 ?_
    refine rf [(0,iS bits),(1,.sl moves.length (fl moves)),(5,.ptr 1 0),(6,.ptr 2 0)] [(0,.row 38 (fl r5526.2.2)),(1,.row 24 [iS r5526.1,.v (.slice none 0 0),.own 0 0 r5526.2.2.length]),(2,.row 29 (Enc.cells r5526.2.1))] 3 (by kernel_rfl) ?_
    refine wk_id ?_
    refine seq_np ?_
    refine seq_np ?_
    refine reg_f ?_
    refine rk 3 ?_
    refine rf [(0,iS bits),(1,.sl moves.length (fl moves)),(5,.ptr 1 0),(38,bS (r5526.2.1.Code != 0))] [(0,.row 38 (fl r5526.2.2)),(1,.row 24 [iS r5526.1,.v (.slice none 0 0),.own 0 0 r5526.2.2.length]),(2,.row 29 (Enc.cells r5526.2.1))] 3 (by kernel_rfl) ?_
    refine wk_id ?_
    refine cond_sx h (by kernel_rfl) (fun g6267 h=>?_) (fun g6267 h=>?_)
    ·refine seq_np ?_
     refine reg_f ?_
     refine rk 1 ?_
     refine rf [(4,bS false)] [(0,.row 38 (fl r5526.2.2)),(1,.row 24 [iS r5526.1,.v (.slice none 0 0),.own 0 0 r5526.2.2.length]),(2,.row 29 (Enc.cells r5526.2.1))] 3 (by kernel_rfl) ?_
     refine wk_id ?_
     obtain rfl:=Option.some.inj h
     refine ret_at (bS false) (by kernel_rfl) ?_
     exact ret_e [] [] (by simp only [push_cast,seval]) (by simp only [push_cast,seval]) rfl rfl rfl
    ·refine wk_id ?_
     refine seq_np ?_
     refine seq_np ?_
     refine reg_f ?_
     refine rk 1 ?_
     refine rf [(0,iS bits),(1,.sl moves.length (fl moves)),(5,.ptr 1 0),(7,iS 0)] [(0,.row 38 (fl r5526.2.2)),(1,.row 24 [iS r5526.1,.v (.slice none 0 0),.own 0 0 r5526.2.2.length]),(2,.row 29 (Enc.cells r5526.2.1))] 3 (by kernel_rfl) ?_
     refine wk_id ?_
     refine block_np ?_
     refine loop_sx (S:=Int×Int×(List GBlock)×(List GBlock)) (fun a=>([(0,iS bits),(1,.sl moves.length (fl moves)),(5,.ptr 0 0),(7,iS a.1)],[(0,.row 24 [iS a.2.1,.own 1 0 a.2.2.1.length,.own 2 0 a.2.2.2.length]),(1,.row 38 (fl a.2.2.1)),(2,.row 38 (fl a.2.2.2))],3)) h (leSt_m [(0,1),(2,0)] [] (by simp only [push_cast,seval]) (by simp only [push_cast,seval]) rfl rfl rfl) ?_
     rintro ⟨i7,c0_Bits35,c1q35,c2q31⟩ o4 R4 h hr4 hn4 hx4 ht4
     try dsimp only at h hn4 ⊢
     unfold taskmilllaw_BuddyWhole_l3 at h
     try dsimp only at h
     refine seq_np ?_
     refine seq_np ?_
     refine reg_f ?_
     refine rk 4 ?_
     refine rf [(0,iS bits),(1,.sl moves.length (fl moves)),(5,.ptr 0 0),(7,iS i7),(42,bS (decide (i7 < (moves.length:Int))))] [(0,.row 24 [iS c0_Bits35,.own 1 0 c1q35.length,.own 2 0 c2q31.length]),(1,.row 38 (fl c1q35)),(2,.row 38 (fl c2q31))] 3 (by kernel_rfl) ?_
     refine wk_id ?_
     refine cond_sx h (by kernel_rfl) (fun g6266 h=>?_) (fun g6266 h=>?_)
     ·refine wk_id ?_
      refine seq_np ?_
      refine block_cut (A:=Int×(List GBlock)×(List GBlock)) (fun a=>([(0,iS bits),(1,.sl moves.length (fl moves)),(5,.ptr 0 0),(7,iS i7)],[(0,.row 24 [iS a.1,.own 1 0 a.2.1.length,.own 2 0 a.2.2.length]),(1,.row 38 (fl a.2.1)),(2,.row 38 (fl a.2.2))],3)) (fun a=>(taskmilllaw_BuddyWhole_j1 bits moves i7 a.1 a.2.1 a.2.2) = some o4) (fun K6018 hK6018=>?_) ?_
      ·refine seq_cut (A:=Int×(List GBlock)×(List GBlock)) (fun a=>([(0,iS bits),(1,.sl moves.length (fl moves)),(5,.ptr 0 0),(7,iS i7)],[(0,.row 24 [iS a.1,.own 1 0 a.2.1.length,.own 2 0 a.2.2.length]),(1,.row 38 (fl a.2.1)),(2,.row 38 (fl a.2.2))],3)) (fun a=>(taskmilllaw_BuddyWhole_j2 bits moves i7 a.1 a.2.1 a.2.2) = some o4) (fun K6064 hK6064=>?_) ?_
       ·refine chk_sx h (fun g6068 h=>?_)
        refine seq_np ?_
        refine reg_f ?_
        have k6067:0≤i7∧i7 < (moves.length:Int):=by first | simpa only [Bool.and_eq_true,decide_eq_true_eq,bne_iff_ne,ne_eq] using g6068 | (simp at g6068 ⊢; omega) | simp
        refine rs 5 [none,none,some ⟨.iptr (fl moves) ((i7).toNat * 1),[],3,[]⟩,some ⟨iS (ix moves i7),[],3,[]⟩] _ (by kernel_rfl) (allP_cons (ob_ld moves i7 1 0 ((i7).toNat * 1) k6067 rfl (by decide) (by first | rfl | omega) (dflS Try.prog 3) (iS (ix moves i7)) rfl 3 []) (allP_cons (ob_ix_l moves 1 3 i7 k6067) allP_nil)) ?_
        refine rf [(0,iS bits),(1,.sl moves.length (fl moves)),(5,.ptr 0 0),(7,iS i7),(49,bS (decide ((0:Int) < (ix moves i7))))] [(0,.row 24 [iS c0_Bits35,.own 1 0 c1q35.length,.own 2 0 c2q31.length]),(1,.row 38 (fl c1q35)),(2,.row 38 (fl c2q31))] 3 (by kernel_rfl) ?_
        refine wk_id ?_
        refine cond_sx h (by kernel_rfl) (fun g6191 h=>?_) (fun g6191 h=>?_)
        ·refine chk_sx h (fun g6073 h=>?_)
         refine seq_np ?_
         refine reg_t ?_
         have k6072:0≤i7∧i7 < (moves.length:Int):=by first | simpa only [Bool.and_eq_true,decide_eq_true_eq,bne_iff_ne,ne_eq] using g6073 | (simp at g6073 ⊢; omega) | simp
         refine rs 5 [none,none,none,some ⟨.iptr (fl moves) ((i7).toNat * 1),[],6,[]⟩,some ⟨iS (ix moves i7),[],7,[]⟩] _ (by kernel_rfl) (allP_cons (ob_ld moves i7 1 0 ((i7).toNat * 1) k6072 rfl (by decide) (by first | rfl | omega) (dflS Try.prog 3) (iS (ix moves i7)) rfl 7 []) (allP_cons (ob_ix_l moves 1 6 i7 k6072) allP_nil)) ?_
         obtain ⟨r6074,hr6074,h⟩:=bind_sx h
         refine call_x (buddy_Take_spec (Space.mk c0_Bits35 c1q35 c2q31) (ix moves i7) r6074 hr6074) (args:=[.agg [iS c0_Bits35,.own 1 0 c1q35.length,.own 2 0 c2q31.length],iS (ix moves i7)]) (dst:=(some 56)) (by kernel_rfl) [(0,.row 24 [iS c0_Bits35,.own 1 0 c1q35.length,.own 2 0 c2q31.length]),(1,.row 38 (fl c1q35)),(2,.row 38 (fl c2q31))] 8 (by kernel_rfl) [] [1,2] (.tup [.agg [iS r6074.1,.own 8 0 r6074.2.2.2.1.length,.own 9 0 r6074.2.2.2.2.length],iS r6074.2.1,.agg (Enc.cells r6074.2.2.1)]) [(8,.row 38 (fl r6074.2.2.2.1)),(9,.row 38 (fl r6074.2.2.2.2))] (by simp only [push_cast,seval]) (by simp only [push_cast,seval]) (by kernel_rfl) (.inr ⟨by simp only [push_cast,seval],by simp only [push_cast,seval]⟩) (by simp only [push_cast,seval]) (by simp only [push_cast,seval]) ?_
         refine rk 9 ?_
         refine rt [(0,iS bits),(1,.sl moves.length (fl moves)),(5,.ptr 0 0),(7,iS i7),(8,.ptr 15 0),(9,iS r6074.2.1),(10,.ptr 17 0)] [(0,.row 24 [iS c0_Bits35,.own 1 0 c1q35.length,.own 2 0 c2q31.length]),(1,.row 38 (fl c1q35)),(2,.row 38 (fl c2q31)),(8,.row 38 (fl r6074.2.2.2.1)),(9,.row 38 (fl r6074.2.2.2.2)),(15,.row 24 [iS r6074.1,.own 8 0 r6074.2.2.2.1.length,.own 9 0 r6074.2.2.2.2.length]),(17,.row 29 (Enc.cells r6074.2.2.1))] 22 follows (by kernel_rfl) ?_
         refine wk_id ?_
         refine seq_np ?_
         refine seq_np ?_
         refine reg_f ?_
         refine rk 3 ?_
         refine rf [(0,iS bits),(1,.sl moves.length (fl moves)),(5,.ptr 0 0),(7,iS i7),(8,.ptr 15 0),(9,iS r6074.2.1),(62,bS (r6074.2.2.1.Code != 0))] [(0,.row 24 [iS c0_Bits35,.own 1 0 c1q35.length,.own 2 0 c2q31.length]),(1,.row 38 (fl c1q35)),(2,.row 38 (fl c2q31)),(8,.row 38 (fl r6074.2.2.2.1)),(9,.row 38 (fl r6074.2.2.2.2)),(15,.row 24 [iS r6074.1,.own 8 0 r6074.2.2.2.1.length,.own 9 0 r6074.2.2.2.2.length]),(17,.row 29 (Enc.cells r6074.2.2.1))] 22 (by kernel_rfl) ?_
         refine wk_id ?_
         refine cond_sx h (by kernel_rfl) (fun g6177 h=>?_) (fun g6177 h=>?_)
         ·exact hK6018 (c0_Bits35,c1q35,c2q31) _ _ _ h (leSt_m [(0,0),(1,1),(2,2)] [] (by simp only [push_cast,seval]) (by simp only [push_cast,seval]) rfl rfl rfl)
         ·refine wk_id ?_
          refine seq_np ?_
          refine reg_f ?_
          refine rk 1 ?_
          refine rf [(0,iS bits),(1,.sl moves.length (fl moves)),(5,.ptr 0 0),(7,iS i7),(8,.ptr 15 0),(9,iS r6074.2.1),(11,iS (-1))] [(0,.row 24 [iS c0_Bits35,.own 1 0 c1q35.length,.own 2 0 c2q31.length]),(1,.row 38 (fl c1q35)),(2,.row 38 (fl c2q31)),(8,.row 38 (fl r6074.2.2.2.1)),(9,.row 38 (fl r6074.2.2.2.2)),(15,.row 24 [iS r6074.1,.own 8 0 r6074.2.2.2.1.length,.own 9 0 r6074.2.2.2.2.length]),(17,.row 29 (Enc.cells r6074.2.2.1))] 22 (by kernel_rfl) ?_
          refine wk_id ?_
          refine seq_np ?_
          refine seq_np ?_
          refine reg_f ?_
          refine rk 1 ?_
          refine rf [(0,iS bits),(1,.sl moves.length (fl moves)),(5,.ptr 0 0),(7,iS i7),(8,.ptr 15 0),(9,iS r6074.2.1),(11,iS (-1)),(12,iS 0)] [(0,.row 24 [iS c0_Bits35,.own 1 0 c1q35.length,.own 2 0 c2q31.length]),(1,.row 38 (fl c1q35)),(2,.row 38 (fl c2q31)),(8,.row 38 (fl r6074.2.2.2.1)),(9,.row 38 (fl r6074.2.2.2.2)),(15,.row 24 [iS r6074.1,.own 8 0 r6074.2.2.2.1.length,.own 9 0 r6074.2.2.2.2.length]),(17,.row 29 (Enc.cells r6074.2.2.1))] 22 (by kernel_rfl) ?_
          refine wk_id ?_
          refine block_np ?_
          refine loop_sx (S:=Int×Int×Int×Int×(List GBlock)×(List GBlock)) (fun a=>([(0,iS bits),(1,.sl moves.length (fl moves)),(5,.ptr 0 0),(7,iS i7),(8,.ptr 1 0),(9,iS a.1),(11,iS a.2.1),(12,iS a.2.2.1)],[(0,.row 24 [iS c0_Bits35,.own 2 0 c1q35.length,.own 3 0 c2q31.length]),(1,.row 24 [iS a.2.2.2.1,.own 4 0 a.2.2.2.2.1.length,.own 5 0 a.2.2.2.2.2.length]),(2,.row 38 (fl c1q35)),(3,.row 38 (fl c2q31)),(4,.row 38 (fl a.2.2.2.2.1)),(5,.row 38 (fl a.2.2.2.2.2))],6)) h (leSt_m [(0,0),(1,15),(2,1),(3,2),(4,8),(5,9)] [] (by simp only [push_cast,seval]) (by simp only [push_cast,seval]) rfl rfl rfl) ?_
          rintro ⟨xat50,k83,j33,c1_Bits50,c4q50,c5q38⟩ o5 R5 h hr5 hn5 hx5 ht5
          try dsimp only at h hn5 ⊢
          unfold taskmilllaw_BuddyWhole_l1 at h
          try dsimp only at h
          refine seq_np ?_
          refine seq_np ?_
          refine reg_f ?_
          refine rk 5 ?_
          refine rf [(0,iS bits),(1,.sl moves.length (fl moves)),(5,.ptr 0 0),(7,iS i7),(8,.ptr 1 0),(9,iS xat50),(11,iS k83),(12,iS j33),(67,bS (decide (j33 < (c4q50.length:Int))))] [(0,.row 24 [iS c0_Bits35,.own 2 0 c1q35.length,.own 3 0 c2q31.length]),(1,.row 24 [iS c1_Bits50,.own 4 0 c4q50.length,.own 5 0 c5q38.length]),(2,.row 38 (fl c1q35)),(3,.row 38 (fl c2q31)),(4,.row 38 (fl c4q50)),(5,.row 38 (fl c5q38))] 6 (by kernel_rfl) ?_
          refine wk_id ?_
          refine cond_sx h (by kernel_rfl) (fun g6176 h=>?_) (fun g6176 h=>?_)
          ·refine wk_id ?_
           refine seq_np ?_
           refine block_cut (A:=Int) (fun a=>([(0,iS bits),(1,.sl moves.length (fl moves)),(5,.ptr 0 0),(7,iS i7),(8,.ptr 1 0),(9,iS xat50),(11,iS a),(12,iS j33)],[(0,.row 24 [iS c0_Bits35,.own 2 0 c1q35.length,.own 3 0 c2q31.length]),(1,.row 24 [iS c1_Bits50,.own 4 0 c4q50.length,.own 5 0 c5q38.length]),(2,.row 38 (fl c1q35)),(3,.row 38 (fl c2q31)),(4,.row 38 (fl c4q50)),(5,.row 38 (fl c5q38))],6)) (fun a=>(taskmilllaw_BuddyWhole_j3 bits moves i7 c0_Bits35 c1q35 c2q31 xat50 j33 c1_Bits50 c4q50 c5q38 a) = some o5) (fun K6137 hK6137=>?_) ?_
           ·refine chk_sx h (fun g6141 h=>?_)
            refine seq_np ?_
            refine reg_f ?_
            have k6140:0≤j33∧j33 < (c4q50.length:Int):=by first | simpa only [Bool.and_eq_true,decide_eq_true_eq,bne_iff_ne,ne_eq] using g6141 | (simp at g6141 ⊢; omega) | simp
            refine rs 8 [none,none,none,some ⟨.ptr 4 (0+(j33).toNat * 2),[],6,[4]⟩,none,some ⟨iS (ix c4q50 j33).Start,[],6,[4]⟩] _ (by kernel_rfl) (allP_cons (ob_ld c4q50 j33 2 0 ((0+(j33).toNat * 2)+0) k6140 rfl (by decide) (by first | rfl | omega) (dflS Try.prog 3) (iS (ix c4q50 j33).Start) rfl 6 [4]) (allP_cons (ob_ix_o 4 c4q50.length 0 2 6 j33 k6140) allP_nil)) ?_
            refine rf [(0,iS bits),(1,.sl moves.length (fl moves)),(5,.ptr 0 0),(7,iS i7),(8,.ptr 1 0),(9,iS xat50),(11,iS k83),(12,iS j33),(77,bS ((ix c4q50 j33).Start == xat50))] [(0,.row 24 [iS c0_Bits35,.own 2 0 c1q35.length,.own 3 0 c2q31.length]),(1,.row 24 [iS c1_Bits50,.own 4 0 c4q50.length,.own 5 0 c5q38.length]),(2,.row 38 (fl c1q35)),(3,.row 38 (fl c2q31)),(4,.row 38 (fl c4q50)),(5,.row 38 (fl c5q38))] 6 (by kernel_rfl) ?_
            refine wk_id ?_
            refine cond_sx h (by kernel_rfl) (fun g6142 h=>?_) (fun g6142 h=>?_)
            ·refine reg_f ?_
             refine rk 2 ?_
             refine rf [(0,iS bits),(1,.sl moves.length (fl moves)),(5,.ptr 0 0),(7,iS i7),(8,.ptr 1 0),(9,iS xat50),(11,iS j33),(12,iS j33)] [(0,.row 24 [iS c0_Bits35,.own 2 0 c1q35.length,.own 3 0 c2q31.length]),(1,.row 24 [iS c1_Bits50,.own 4 0 c4q50.length,.own 5 0 c5q38.length]),(2,.row 38 (fl c1q35)),(3,.row 38 (fl c2q31)),(4,.row 38 (fl c4q50)),(5,.row 38 (fl c5q38))] 6 (by kernel_rfl) ?_
             exact hK6137 (j33) _ _ _ h (leSt_m [(0,0),(1,1),(2,2),(3,3),(4,4),(5,5)] [] (by simp only [push_cast,seval]) (by simp only [push_cast,seval]) rfl rfl rfl)
            ·exact hK6137 (k83) _ _ _ h (leSt_m [(0,0),(1,1),(2,2),(3,3),(4,4),(5,5)] [] (by simp only [push_cast,seval]) (by simp only [push_cast,seval]) rfl rfl rfl)
           ·rintro k85 h
            try dsimp only at h ⊢
            unfold taskmilllaw_BuddyWhole_j3 at h
            refine wk_id ?_
            refine reg_f ?_
            refine rk 3 ?_
            refine rf [(0,iS bits),(1,.sl moves.length (fl moves)),(5,.ptr 0 0),(7,iS i7),(8,.ptr 1 0),(9,iS xat50),(11,iS k85),(12,iS (IntKind.i64.wrap (j33+1)))] [(0,.row 24 [iS c0_Bits35,.own 2 0 c1q35.length,.own 3 0 c2q31.length]),(1,.row 24 [iS c1_Bits50,.own 4 0 c4q50.length,.own 5 0 c5q38.length]),(2,.row 38 (fl c1q35)),(3,.row 38 (fl c2q31)),(4,.row 38 (fl c4q50)),(5,.row 38 (fl c5q38))] 6 (by kernel_rfl) ?_
            exact hn5 (xat50,k85,(IntKind.i64.wrap (j33+1)),c1_Bits50,c4q50,c5q38) _ _ _ (Option.some.inj h).symm (leSt_m [(0,0),(1,1),(2,2),(3,3),(4,4),(5,5)] [] (by simp only [push_cast,seval]) (by simp only [push_cast,seval]) rfl rfl rfl)
          ·change R5 (.exit 2) _ _ _
           refine ex_cast hx5 (id:=2) ?_
           obtain ⟨r0,h,e0⟩:=map_sx h
           have e1:=hr5 r0 e0.symm
           subst r0
           refine wk_id ?_
           refine wk_id ?_
           refine seq_np ?_
           refine chk_sx h (fun g6167 h=>?_)
           refine chk_sx h (fun g6169 h=>?_)
           refine chk_sx h (fun g6172 h=>?_)
           refine chk_sx h (fun g6174 h=>?_)
           refine seq_cut (A:=Unit) (fun _=>([(0,iS bits),(1,.sl moves.length (fl moves)),(5,.ptr 0 0),(7,iS i7),(8,.ptr 1 0),(107,bS ((decide (k83 < 0)) || ((decide ((ix c4q50 k83).Size < (ix moves i7))) || (decide ((IntKind.i64.wrap ((2:Int) * (ix moves i7)))≤(ix c4q50 k83).Size)))))],[(0,.row 24 [iS c0_Bits35,.own 2 0 c1q35.length,.own 3 0 c2q31.length]),(1,.row 24 [iS c1_Bits50,.own 4 0 c4q50.length,.own 5 0 c5q38.length]),(2,.row 38 (fl c1q35)),(3,.row 38 (fl c2q31)),(4,.row 38 (fl c4q50)),(5,.row 38 (fl c5q38))],35)) (fun _=>True) (fun K6164 hK6164=>?_) (fun _ _=>?_)
           ·refine reg_t ?_
            refine rk 3 ?_
            refine run_split 81 (decide (k83 < 0)) (.inl (by kernel_rfl)) (fun g6165=>?_) (fun g6165=>?_)
            ·refine rk 26 ?_
             refine rt [(0,iS bits),(1,.sl moves.length (fl moves)),(5,.ptr 0 0),(7,iS i7),(8,.ptr 1 0),(107,bS true)] [(0,.row 24 [iS c0_Bits35,.own 2 0 c1q35.length,.own 3 0 c2q31.length]),(1,.row 24 [iS c1_Bits50,.own 4 0 c4q50.length,.own 5 0 c5q38.length]),(2,.row 38 (fl c1q35)),(3,.row 38 (fl c2q31)),(4,.row 38 (fl c4q50)),(5,.row 38 (fl c5q38))] 35 follows (by kernel_rfl) ?_
             exact hK6164 () _ _ _ trivial (leSt_m [(0,0),(1,1),(2,2),(3,3),(4,4),(5,5)] [] (by (try simp only [g6165]) <;> simp only [push_cast,seval]) (by (try simp only [g6165]) <;> simp only [push_cast,seval]) rfl rfl rfl)
            ·have k6166:0≤k83∧k83 < (c4q50.length:Int):=by have e:=or_use g6167 (by first | ((try simp only [g6165]) <;> rfl) | ((try simp only [g6165]); rfl) | (exfalso; clear h; simp_all; done)); first | simpa only [Bool.and_eq_true,decide_eq_true_eq,bne_iff_ne,ne_eq] using e | (simp at e ⊢; omega)
             have k6168:0≤i7∧i7 < (moves.length:Int):=by have e:=or_use g6169 (by first | ((try simp only [g6165]) <;> rfl) | ((try simp only [g6165]); rfl) | (exfalso; clear h; simp_all; done)); first | simpa only [Bool.and_eq_true,decide_eq_true_eq,bne_iff_ne,ne_eq] using e | (simp at e ⊢; omega)
             refine rs 13 [none,none,none,some ⟨.ptr 4 (0+(k83).toNat * 2),[],12,[4]⟩,none,some ⟨iS (ix c4q50 k83).Size,[],14,[4]⟩,none,none,some ⟨.iptr (fl moves) ((i7).toNat * 1),[],17,[]⟩,some ⟨iS (ix moves i7),[],18,[]⟩] _ (by kernel_rfl) (allP_cons (ob_ld moves i7 1 0 ((i7).toNat * 1) k6168 rfl (by decide) (by first | rfl | omega) (dflS Try.prog 3) (iS (ix moves i7)) rfl 18 []) (allP_cons (ob_ix_l moves 1 17 i7 k6168) (allP_cons (ob_ld c4q50 k83 2 1 ((0+(k83).toNat * 2)+1) k6166 rfl (by decide) (by first | rfl | omega) (dflS Try.prog 3) (iS (ix c4q50 k83).Size) rfl 14 [4]) (allP_cons (ob_ix_o 4 c4q50.length 0 2 12 k83 k6166) allP_nil)))) ?_
             refine run_split 94 (decide ((ix c4q50 k83).Size < (ix moves i7))) (.inl (by kernel_rfl)) (fun g6170=>?_) (fun g6170=>?_)
             ·refine rk 13 ?_
              refine rt [(0,iS bits),(1,.sl moves.length (fl moves)),(5,.ptr 0 0),(7,iS i7),(8,.ptr 1 0),(107,bS true)] [(0,.row 24 [iS c0_Bits35,.own 2 0 c1q35.length,.own 3 0 c2q31.length]),(1,.row 24 [iS c1_Bits50,.own 4 0 c4q50.length,.own 5 0 c5q38.length]),(2,.row 38 (fl c1q35)),(3,.row 38 (fl c2q31)),(4,.row 38 (fl c4q50)),(5,.row 38 (fl c5q38))] 35 follows (by kernel_rfl) ?_
              exact hK6164 () _ _ _ trivial (leSt_m [(0,0),(1,1),(2,2),(3,3),(4,4),(5,5)] [] (by first | ((try simp only [g6165,g6170]) <;> simp only [push_cast,seval]; done) | ((try simp only [g6165]); (try simp only [g6170]); simp only [push_cast,seval]; done) | (exfalso; clear h; simp_all; done)) (by first | ((try simp only [g6165,g6170]) <;> simp only [push_cast,seval]; done) | ((try simp only [g6165]); (try simp only [g6170]); simp only [push_cast,seval]; done) | (exfalso; clear h; simp_all; done)) rfl rfl rfl)
             ·have k6171:0≤k83∧k83 < (c4q50.length:Int):=by have e:=or_use g6172 (by first | ((try simp only [g6165,g6170]) <;> rfl) | ((try simp only [g6165]); (try simp only [g6170]); rfl) | (exfalso; clear h; simp_all; done)); first | simpa only [Bool.and_eq_true,decide_eq_true_eq,bne_iff_ne,ne_eq] using e | (simp at e ⊢; omega)
              have k6173:0≤i7∧i7 < (moves.length:Int):=by have e:=or_use g6174 (by first | ((try simp only [g6165,g6170]) <;> rfl) | ((try simp only [g6165]); (try simp only [g6170]); rfl) | (exfalso; clear h; simp_all; done)); first | simpa only [Bool.and_eq_true,decide_eq_true_eq,bne_iff_ne,ne_eq] using e | (simp at e ⊢; omega)
              refine rs 13 [none,none,none,some ⟨.ptr 4 (0+(k83).toNat * 2),[],25,[4]⟩,none,some ⟨iS (ix c4q50 k83).Size,[],27,[4]⟩,none,none,some ⟨.iptr (fl moves) ((i7).toNat * 1),[],30,[]⟩,some ⟨iS (ix moves i7),[],31,[]⟩] _ (by kernel_rfl) (allP_cons (ob_ld moves i7 1 0 ((i7).toNat * 1) k6173 rfl (by decide) (by first | rfl | omega) (dflS Try.prog 3) (iS (ix moves i7)) rfl 31 []) (allP_cons (ob_ix_l moves 1 30 i7 k6173) (allP_cons (ob_ld c4q50 k83 2 1 ((0+(k83).toNat * 2)+1) k6171 rfl (by decide) (by first | rfl | omega) (dflS Try.prog 3) (iS (ix c4q50 k83).Size) rfl 27 [4]) (allP_cons (ob_ix_o 4 c4q50.length 0 2 25 k83 k6171) allP_nil)))) ?_
              refine rt [(0,iS bits),(1,.sl moves.length (fl moves)),(5,.ptr 0 0),(7,iS i7),(8,.ptr 1 0),(107,bS (decide ((IntKind.i64.wrap ((2:Int) * (ix moves i7)))≤(ix c4q50 k83).Size)))] [(0,.row 24 [iS c0_Bits35,.own 2 0 c1q35.length,.own 3 0 c2q31.length]),(1,.row 24 [iS c1_Bits50,.own 4 0 c4q50.length,.own 5 0 c5q38.length]),(2,.row 38 (fl c1q35)),(3,.row 38 (fl c2q31)),(4,.row 38 (fl c4q50)),(5,.row 38 (fl c5q38))] 35 follows (by kernel_rfl) ?_
              exact hK6164 () _ _ _ trivial (leSt_m [(0,0),(1,1),(2,2),(3,3),(4,4),(5,5)] [] (by first | ((try simp only [g6165,g6170]) <;> simp only [push_cast,seval]; done) | ((try simp only [g6165]); (try simp only [g6170]); simp only [push_cast,seval]; done) | (exfalso; clear h; simp_all; done)) (by first | ((try simp only [g6165,g6170]) <;> simp only [push_cast,seval]; done) | ((try simp only [g6165]); (try simp only [g6170]); simp only [push_cast,seval]; done) | (exfalso; clear h; simp_all; done)) rfl rfl rfl)
           ·dsimp only
            refine cond_sx h (by kernel_rfl) (fun g6175 h=>?_) (fun g6175 h=>?_)
            ·refine seq_np ?_
             refine reg_f ?_
             refine rk 1 ?_
             refine rf [(4,bS false)] [(0,.row 24 [iS c0_Bits35,.own 2 0 c1q35.length,.own 3 0 c2q31.length]),(1,.row 24 [iS c1_Bits50,.own 4 0 c4q50.length,.own 5 0 c5q38.length]),(2,.row 38 (fl c1q35)),(3,.row 38 (fl c2q31)),(4,.row 38 (fl c4q50)),(5,.row 38 (fl c5q38))] 35 (by kernel_rfl) ?_
             refine wk_id ?_
             refine rt_cast ht4 ?_
             obtain ⟨r0,h,e0⟩:=map_sx h
             have e1:=hr4 r0 e0.symm
             subst r0
             obtain rfl:=Option.some.inj h
             refine ret_at (bS false) (by kernel_rfl) ?_
             exact ret_e [] [] (by simp only [push_cast,seval]) (by simp only [push_cast,seval]) rfl rfl rfl
            ·refine wk_id ?_
             refine reg_f ?_
             refine rk 2 ?_
             refine rf [(0,iS bits),(1,.sl moves.length (fl moves)),(5,.ptr 0 0),(7,iS i7)] [(0,.row 24 [iS c1_Bits50,.own 4 0 c4q50.length,.own 5 0 c5q38.length]),(1,.row 24 [iS c1_Bits50,.own 4 0 c4q50.length,.own 5 0 c5q38.length]),(2,.row 38 (fl c1q35)),(3,.row 38 (fl c2q31)),(4,.row 38 (fl c4q50)),(5,.row 38 (fl c5q38))] 35 (by kernel_rfl) ?_
             exact hK6064 (c1_Bits50,c4q50,c5q38) _ _ _ h (leSt_m [(0,0),(1,4),(2,5)] [] (by simp only [push_cast,seval]) (by simp only [push_cast,seval]) rfl rfl rfl)
        ·refine seq_np ?_
         refine reg_f ?_
         refine rk 4 ?_
         refine rf [(0,iS bits),(1,.sl moves.length (fl moves)),(5,.ptr 0 0),(7,iS i7),(112,bS (decide ((0:Int) < (c1q35.length:Int))))] [(0,.row 24 [iS c0_Bits35,.own 1 0 c1q35.length,.own 2 0 c2q31.length]),(1,.row 38 (fl c1q35)),(2,.row 38 (fl c2q31))] 3 (by kernel_rfl) ?_
         refine wk_id ?_
         refine cond_sx h (by kernel_rfl) (fun g6190 h=>?_) (fun g6190 h=>?_)
         ·refine chk_sx h (fun g6181 h=>?_)
          refine seq_np ?_
          refine reg_f ?_
          have k6180:(c1q35.length:Int)≠0:=by first | simpa only [Bool.and_eq_true,decide_eq_true_eq,bne_iff_ne,ne_eq] using g6181 | (simp at g6181 ⊢; omega) | simp
          refine rs 6 [none,none,none,none,some ⟨iS (Int.tmod i7 (c1q35.length:Int)),[],3,[]⟩] _ (by kernel_rfl) (allP_cons (ob_p (v:=iS (Int.tmod i7 (c1q35.length:Int))) (nx:=3) (r:=[]) k6180) allP_nil) ?_
          refine rf [(0,iS bits),(1,.sl moves.length (fl moves)),(5,.ptr 0 0),(7,iS i7),(13,iS (Int.tmod i7 (c1q35.length:Int)))] [(0,.row 24 [iS c0_Bits35,.own 1 0 c1q35.length,.own 2 0 c2q31.length]),(1,.row 38 (fl c1q35)),(2,.row 38 (fl c2q31))] 3 (by kernel_rfl) ?_
          refine wk_id ?_
          refine chk_sx h (fun g6186 h=>?_)
          refine seq_np ?_
          refine reg_t ?_
          have k6185:0≤(Int.tmod i7 (c1q35.length:Int))∧(Int.tmod i7 (c1q35.length:Int)) < (c1q35.length:Int):=by first | simpa only [Bool.and_eq_true,decide_eq_true_eq,bne_iff_ne,ne_eq] using g6186 | (simp at g6186 ⊢; omega) | simp
          refine rs 7 [none,none,none,none,some ⟨.ptr 1 (0+((Int.tmod i7 (c1q35.length:Int))).toNat * 2),[],7,[1]⟩,none,some ⟨iS (ix c1q35 (Int.tmod i7 (c1q35.length:Int))).Start,[],9,[1]⟩] _ (by kernel_rfl) (allP_cons (ob_ld c1q35 (Int.tmod i7 (c1q35.length:Int)) 2 0 ((0+((Int.tmod i7 (c1q35.length:Int))).toNat * 2)+0) k6185 rfl (by decide) (by first | rfl | omega) (dflS Try.prog 3) (iS (ix c1q35 (Int.tmod i7 (c1q35.length:Int))).Start) rfl 9 [1]) (allP_cons (ob_ix_o 1 c1q35.length 0 2 7 (Int.tmod i7 (c1q35.length:Int)) k6185) allP_nil)) ?_
          obtain ⟨r6187,hr6187,h⟩:=bind_sx h
          refine call_x (buddy_Give_spec (Space.mk c0_Bits35 c1q35 c2q31) (ix c1q35 (Int.tmod i7 (c1q35.length:Int))).Start r6187 hr6187) (args:=[.agg [iS c0_Bits35,.own 1 0 c1q35.length,.own 2 0 c2q31.length],iS (ix c1q35 (Int.tmod i7 (c1q35.length:Int))).Start]) (dst:=(some 126)) (by kernel_rfl) [(0,.row 24 [iS c0_Bits35,.own 1 0 c1q35.length,.own 2 0 c2q31.length]),(1,.row 38 (fl c1q35)),(2,.row 38 (fl c2q31))] 10 (by kernel_rfl) [] [1,2] (.tup [.agg [iS r6187.1,.own 10 0 r6187.2.2.1.length,.own 11 0 r6187.2.2.2.length],.agg (Enc.cells r6187.2.1)]) [(10,.row 38 (fl r6187.2.2.1)),(11,.row 38 (fl r6187.2.2.2))] (by simp only [push_cast,seval]) (by simp only [push_cast,seval]) (by kernel_rfl) (.inr ⟨by simp only [push_cast,seval],by simp only [push_cast,seval]⟩) (by simp only [push_cast,seval]) (by simp only [push_cast,seval]) ?_
          refine rk 7 ?_
          refine rt [(0,iS bits),(1,.sl moves.length (fl moves)),(5,.ptr 0 0),(7,iS i7),(14,.ptr 16 0),(15,.ptr 18 0)] [(0,.row 24 [iS c0_Bits35,.own 1 0 c1q35.length,.own 2 0 c2q31.length]),(1,.row 38 (fl c1q35)),(2,.row 38 (fl c2q31)),(10,.row 38 (fl r6187.2.2.1)),(11,.row 38 (fl r6187.2.2.2)),(16,.row 24 [iS r6187.1,.own 10 0 r6187.2.2.1.length,.own 11 0 r6187.2.2.2.length]),(18,.row 29 (Enc.cells r6187.2.1))] 22 follows (by kernel_rfl) ?_
          refine wk_id ?_
          refine seq_np ?_
          refine seq_np ?_
          refine reg_f ?_
          refine rk 3 ?_
          refine rf [(0,iS bits),(1,.sl moves.length (fl moves)),(5,.ptr 0 0),(7,iS i7),(14,.ptr 16 0),(131,bS (r6187.2.1.Code != 0))] [(0,.row 24 [iS c0_Bits35,.own 1 0 c1q35.length,.own 2 0 c2q31.length]),(1,.row 38 (fl c1q35)),(2,.row 38 (fl c2q31)),(10,.row 38 (fl r6187.2.2.1)),(11,.row 38 (fl r6187.2.2.2)),(16,.row 24 [iS r6187.1,.own 10 0 r6187.2.2.1.length,.own 11 0 r6187.2.2.2.length]),(18,.row 29 (Enc.cells r6187.2.1))] 22 (by kernel_rfl) ?_
          refine wk_id ?_
          refine cond_sx h (by kernel_rfl) (fun g6189 h=>?_) (fun g6189 h=>?_)
          ·refine seq_np ?_
           refine reg_f ?_
           refine rk 1 ?_
           refine rf [(4,bS false)] [(0,.row 24 [iS c0_Bits35,.own 1 0 c1q35.length,.own 2 0 c2q31.length]),(1,.row 38 (fl c1q35)),(2,.row 38 (fl c2q31)),(10,.row 38 (fl r6187.2.2.1)),(11,.row 38 (fl r6187.2.2.2)),(16,.row 24 [iS r6187.1,.own 10 0 r6187.2.2.1.length,.own 11 0 r6187.2.2.2.length]),(18,.row 29 (Enc.cells r6187.2.1))] 22 (by kernel_rfl) ?_
           refine wk_id ?_
           refine rt_cast ht4 ?_
           obtain ⟨r0,h,e0⟩:=map_sx h
           have e1:=hr4 r0 e0.symm
           subst r0
           obtain rfl:=Option.some.inj h
           refine ret_at (bS false) (by kernel_rfl) ?_
           exact ret_e [] [] (by simp only [push_cast,seval]) (by simp only [push_cast,seval]) rfl rfl rfl
          ·refine wk_id ?_
           refine reg_f ?_
           refine rk 2 ?_
           refine rf [(0,iS bits),(1,.sl moves.length (fl moves)),(5,.ptr 0 0),(7,iS i7)] [(0,.row 24 [iS r6187.1,.own 10 0 r6187.2.2.1.length,.own 11 0 r6187.2.2.2.length]),(1,.row 38 (fl c1q35)),(2,.row 38 (fl c2q31)),(10,.row 38 (fl r6187.2.2.1)),(11,.row 38 (fl r6187.2.2.2)),(16,.row 24 [iS r6187.1,.own 10 0 r6187.2.2.1.length,.own 11 0 r6187.2.2.2.length]),(18,.row 29 (Enc.cells r6187.2.1))] 22 (by kernel_rfl) ?_
           exact hK6064 (r6187.1,r6187.2.2.1,r6187.2.2.2) _ _ _ h (leSt_m [(0,0),(1,10),(2,11)] [] (by simp only [push_cast,seval]) (by simp only [push_cast,seval]) rfl rfl rfl)
         ·exact hK6064 (c0_Bits35,c1q35,c2q31) _ _ _ h (leSt_m [(0,0),(1,1),(2,2)] [] (by simp only [push_cast,seval]) (by simp only [push_cast,seval]) rfl rfl rfl)
       ·rintro ⟨c0_Bits40,c1q40,c2q36⟩ h
        try dsimp only at h ⊢
        unfold taskmilllaw_BuddyWhole_j2 at h
        refine seq_np ?_
        refine reg_f ?_
        refine rk 1 ?_
        obtain ⟨r6193,hr6193,h⟩:=bind_sx h
        refine call_x (taskmillref_SpaceFault_spec (Space.mk c0_Bits40 c1q40 c2q36) r6193 hr6193) (args:=[.agg [iS c0_Bits40,.own 1 0 c1q40.length,.own 2 0 c2q36.length]]) (dst:=(some 134)) (by kernel_rfl) [(0,.row 24 [iS c0_Bits40,.own 1 0 c1q40.length,.own 2 0 c2q36.length]),(1,.row 38 (fl c1q40)),(2,.row 38 (fl c2q36))] 3 (by kernel_rfl) [] [1,2] (.agg (Enc.cells r6193)) [] (by simp only [push_cast,seval]) (by simp only [push_cast,seval]) (by kernel_rfl) (.inr ⟨by simp only [push_cast,seval],by simp only [push_cast,seval]⟩) (by simp only [push_cast,seval]) (by simp only [push_cast,seval]) ?_
        refine rk 2 ?_
        refine rf [(0,iS bits),(1,.sl moves.length (fl moves)),(5,.ptr 0 0),(7,iS i7),(136,bS (r6193.Code != 0))] [(0,.row 24 [iS c0_Bits40,.own 1 0 c1q40.length,.own 2 0 c2q36.length]),(1,.row 38 (fl c1q40)),(2,.row 38 (fl c2q36))] 3 (by kernel_rfl) ?_
        refine wk_id ?_
        refine cond_sx h (by kernel_rfl) (fun g6194 h=>?_) (fun g6194 h=>?_)
        ·refine seq_np ?_
         refine reg_f ?_
         refine rk 1 ?_
         refine rf [(4,bS false)] [(0,.row 24 [iS c0_Bits40,.own 1 0 c1q40.length,.own 2 0 c2q36.length]),(1,.row 38 (fl c1q40)),(2,.row 38 (fl c2q36))] 3 (by kernel_rfl) ?_
         refine wk_id ?_
         refine rt_cast ht4 ?_
         obtain ⟨r0,h,e0⟩:=map_sx h
         have e1:=hr4 r0 e0.symm
         subst r0
         obtain rfl:=Option.some.inj h
         refine ret_at (bS false) (by kernel_rfl) ?_
         exact ret_e [] [] (by simp only [push_cast,seval]) (by simp only [push_cast,seval]) rfl rfl rfl
        ·exact hK6018 (c0_Bits40,c1q40,c2q36) _ _ _ h (leSt_m [(0,0),(1,1),(2,2)] [] (by simp only [push_cast,seval]) (by simp only [push_cast,seval]) rfl rfl rfl)
      ·rintro ⟨c0_Bits39,c1q39,c2q35⟩ h
       try dsimp only at h ⊢
       unfold taskmilllaw_BuddyWhole_j1 at h
       refine wk_id ?_
       refine reg_f ?_
       refine rk 3 ?_
       refine rf [(0,iS bits),(1,.sl moves.length (fl moves)),(5,.ptr 0 0),(7,iS (IntKind.i64.wrap (i7+1)))] [(0,.row 24 [iS c0_Bits39,.own 1 0 c1q39.length,.own 2 0 c2q35.length]),(1,.row 38 (fl c1q39)),(2,.row 38 (fl c2q35))] 3 (by kernel_rfl) ?_
       exact hn4 ((IntKind.i64.wrap (i7+1)),c0_Bits39,c1q39,c2q35) _ _ _ (Option.some.inj h).symm (leSt_m [(0,0),(1,1),(2,2)] [] (by simp only [push_cast,seval]) (by simp only [push_cast,seval]) rfl rfl rfl)
     ·change R4 (.exit 0) _ _ _
      refine ex_cast hx4 (id:=0) ?_
      obtain ⟨r0,h,e0⟩:=map_sx h
      have e1:=hr4 r0 e0.symm
      subst r0
      refine wk_id ?_
      refine wk_id ?_
      refine seq_np ?_
      refine block_np ?_
      refine loop_sx (S:=Int×(List GBlock)×(List GBlock)) (fun a=>([(0,iS bits),(5,.ptr 0 0)],[(0,.row 24 [iS a.1,.own 1 0 a.2.1.length,.own 2 0 a.2.2.length]),(1,.row 38 (fl a.2.1)),(2,.row 38 (fl a.2.2))],3)) h (leSt_m [(0,0),(1,1),(2,2)] [] (by simp only [push_cast,seval]) (by simp only [push_cast,seval]) rfl rfl rfl) ?_
      rintro ⟨c0_Bits46,c1q46,c2q42⟩ o6 R6 h hr6 hn6 hx6 ht6
      try dsimp only at h hn6 ⊢
      unfold taskmilllaw_BuddyWhole_l2 at h
      try dsimp only at h
      refine seq_np ?_
      refine seq_np ?_
      refine reg_f ?_
      refine rk 4 ?_
      refine rf [(0,iS bits),(5,.ptr 0 0),(140,bS (decide ((0:Int) < (c1q46.length:Int))))] [(0,.row 24 [iS c0_Bits46,.own 1 0 c1q46.length,.own 2 0 c2q42.length]),(1,.row 38 (fl c1q46)),(2,.row 38 (fl c2q42))] 3 (by kernel_rfl) ?_
      refine wk_id ?_
      refine cond_sx h (by kernel_rfl) (fun g6265 h=>?_) (fun g6265 h=>?_)
      ·refine wk_id ?_
       refine block_np ?_
       refine chk_sx h (fun g6251 h=>?_)
       refine seq_np ?_
       refine reg_t ?_
       have k6250:0≤(IntKind.i64.wrap (Int.tdiv (c1q46.length:Int) 2))∧(IntKind.i64.wrap (Int.tdiv (c1q46.length:Int) 2)) < (c1q46.length:Int):=by first | simpa only [Bool.and_eq_true,decide_eq_true_eq,bne_iff_ne,ne_eq] using g6251 | (simp at g6251 ⊢; omega) | simp
       refine rs 10 [none,none,none,none,none,none,none,some ⟨.ptr 1 (0+((IntKind.i64.wrap (Int.tdiv (c1q46.length:Int) 2))).toNat * 2),[],10,[1]⟩,none,some ⟨iS (ix c1q46 (IntKind.i64.wrap (Int.tdiv (c1q46.length:Int) 2))).Start,[],12,[1]⟩] _ (by kernel_rfl) (allP_cons (ob_ld c1q46 (IntKind.i64.wrap (Int.tdiv (c1q46.length:Int) 2)) 2 0 ((0+((IntKind.i64.wrap (Int.tdiv (c1q46.length:Int) 2))).toNat * 2)+0) k6250 rfl (by decide) (by first | rfl | omega) (dflS Try.prog 3) (iS (ix c1q46 (IntKind.i64.wrap (Int.tdiv (c1q46.length:Int) 2))).Start) rfl 12 [1]) (allP_cons (ob_ix_o 1 c1q46.length 0 2 10 (IntKind.i64.wrap (Int.tdiv (c1q46.length:Int) 2)) k6250) allP_nil)) ?_
       obtain ⟨r6252,hr6252,h⟩:=bind_sx h
       refine call_x (buddy_Give_spec (Space.mk c0_Bits46 c1q46 c2q42) (ix c1q46 (IntKind.i64.wrap (Int.tdiv (c1q46.length:Int) 2))).Start r6252 hr6252) (args:=[.agg [iS c0_Bits46,.own 1 0 c1q46.length,.own 2 0 c2q42.length],iS (ix c1q46 (IntKind.i64.wrap (Int.tdiv (c1q46.length:Int) 2))).Start]) (dst:=(some 152)) (by kernel_rfl) [(0,.row 24 [iS c0_Bits46,.own 1 0 c1q46.length,.own 2 0 c2q42.length]),(1,.row 38 (fl c1q46)),(2,.row 38 (fl c2q42))] 13 (by kernel_rfl) [] [1,2] (.tup [.agg [iS r6252.1,.own 13 0 r6252.2.2.1.length,.own 14 0 r6252.2.2.2.length],.agg (Enc.cells r6252.2.1)]) [(13,.row 38 (fl r6252.2.2.1)),(14,.row 38 (fl r6252.2.2.2))] (by simp only [push_cast,seval]) (by simp only [push_cast,seval]) (by kernel_rfl) (.inr ⟨by simp only [push_cast,seval],by simp only [push_cast,seval]⟩) (by simp only [push_cast,seval]) (by simp only [push_cast,seval]) ?_
       refine rk 7 ?_
       refine rt [(0,iS bits),(5,.ptr 0 0),(16,.ptr 19 0),(17,.ptr 21 0)] [(0,.row 24 [iS c0_Bits46,.own 1 0 c1q46.length,.own 2 0 c2q42.length]),(1,.row 38 (fl c1q46)),(2,.row 38 (fl c2q42)),(13,.row 38 (fl r6252.2.2.1)),(14,.row 38 (fl r6252.2.2.2)),(19,.row 24 [iS r6252.1,.own 13 0 r6252.2.2.1.length,.own 14 0 r6252.2.2.2.length]),(21,.row 29 (Enc.cells r6252.2.1))] 25 follows (by kernel_rfl) ?_
       refine wk_id ?_
       refine seq_np ?_
       refine seq_cut (A:=Unit) (fun _=>([(0,iS bits),(5,.ptr 0 0),(16,.ptr 19 0),(167,bS ((r6252.2.1.Code != 0) || ((r6252.2.2.1.length:Int) != (IntKind.i64.wrap ((c1q46.length:Int) - 1)))))],[(0,.row 24 [iS c0_Bits46,.own 1 0 c1q46.length,.own 2 0 c2q42.length]),(1,.row 38 (fl c1q46)),(2,.row 38 (fl c2q42)),(13,.row 38 (fl r6252.2.2.1)),(14,.row 38 (fl r6252.2.2.2)),(19,.row 24 [iS r6252.1,.own 13 0 r6252.2.2.1.length,.own 14 0 r6252.2.2.2.length]),(21,.row 29 (Enc.cells r6252.2.1))],25)) (fun _=>True) (fun K6256 hK6256=>?_) (fun _ _=>?_)
       ·refine reg_f ?_
        refine rk 4 ?_
        refine run_split 158 (r6252.2.1.Code != 0) (.inl (by kernel_rfl)) (fun g6257=>?_) (fun g6257=>?_)
        ·refine rk 9 ?_
         refine rf [(0,iS bits),(5,.ptr 0 0),(16,.ptr 19 0),(167,bS true)] [(0,.row 24 [iS c0_Bits46,.own 1 0 c1q46.length,.own 2 0 c2q42.length]),(1,.row 38 (fl c1q46)),(2,.row 38 (fl c2q42)),(13,.row 38 (fl r6252.2.2.1)),(14,.row 38 (fl r6252.2.2.2)),(19,.row 24 [iS r6252.1,.own 13 0 r6252.2.2.1.length,.own 14 0 r6252.2.2.2.length]),(21,.row 29 (Enc.cells r6252.2.1))] 25 (by kernel_rfl) ?_
         exact hK6256 () _ _ _ trivial (leSt_m [(0,0),(1,1),(2,2),(13,13),(14,14),(19,19),(21,21)] [] (by (try simp only [g6257]) <;> simp only [push_cast,seval]) (by (try simp only [g6257]) <;> simp only [push_cast,seval]) rfl rfl rfl)
        ·refine rk 9 ?_
         refine rf [(0,iS bits),(5,.ptr 0 0),(16,.ptr 19 0),(167,bS ((r6252.2.2.1.length:Int) != (IntKind.i64.wrap ((c1q46.length:Int) - 1))))] [(0,.row 24 [iS c0_Bits46,.own 1 0 c1q46.length,.own 2 0 c2q42.length]),(1,.row 38 (fl c1q46)),(2,.row 38 (fl c2q42)),(13,.row 38 (fl r6252.2.2.1)),(14,.row 38 (fl r6252.2.2.2)),(19,.row 24 [iS r6252.1,.own 13 0 r6252.2.2.1.length,.own 14 0 r6252.2.2.2.length]),(21,.row 29 (Enc.cells r6252.2.1))] 25 (by kernel_rfl) ?_
         exact hK6256 () _ _ _ trivial (leSt_m [(0,0),(1,1),(2,2),(13,13),(14,14),(19,19),(21,21)] [] (by (try simp only [g6257]) <;> simp only [push_cast,seval]) (by (try simp only [g6257]) <;> simp only [push_cast,seval]) rfl rfl rfl)
       ·dsimp only
        refine cond_sx h (by kernel_rfl) (fun g6258 h=>?_) (fun g6258 h=>?_)
        ·refine seq_np ?_
         refine reg_f ?_
         refine rk 1 ?_
         refine rf [(4,bS false)] [(0,.row 24 [iS c0_Bits46,.own 1 0 c1q46.length,.own 2 0 c2q42.length]),(1,.row 38 (fl c1q46)),(2,.row 38 (fl c2q42)),(13,.row 38 (fl r6252.2.2.1)),(14,.row 38 (fl r6252.2.2.2)),(19,.row 24 [iS r6252.1,.own 13 0 r6252.2.2.1.length,.own 14 0 r6252.2.2.2.length]),(21,.row 29 (Enc.cells r6252.2.1))] 25 (by kernel_rfl) ?_
         refine wk_id ?_
         refine rt_cast ht6 ?_
         obtain ⟨r0,h,e0⟩:=map_sx h
         have e1:=hr6 r0 e0.symm
         subst r0
         obtain rfl:=Option.some.inj h
         refine ret_at (bS false) (by kernel_rfl) ?_
         exact ret_e [] [] (by simp only [push_cast,seval]) (by simp only [push_cast,seval]) rfl rfl rfl
        ·refine wk_id ?_
         refine reg_f ?_
         refine rk 2 ?_
         refine rf [(0,iS bits),(5,.ptr 0 0)] [(0,.row 24 [iS r6252.1,.own 13 0 r6252.2.2.1.length,.own 14 0 r6252.2.2.2.length]),(1,.row 38 (fl c1q46)),(2,.row 38 (fl c2q42)),(13,.row 38 (fl r6252.2.2.1)),(14,.row 38 (fl r6252.2.2.2)),(19,.row 24 [iS r6252.1,.own 13 0 r6252.2.2.1.length,.own 14 0 r6252.2.2.2.length]),(21,.row 29 (Enc.cells r6252.2.1))] 25 (by kernel_rfl) ?_
         refine wk_id ?_
         exact hn6 (r6252.1,r6252.2.2.1,r6252.2.2.2) _ _ _ (Option.some.inj h).symm (leSt_m [(0,0),(1,13),(2,14)] [] (by simp only [push_cast,seval]) (by simp only [push_cast,seval]) rfl rfl rfl)
      ·change R6 (.exit 4) _ _ _
       refine ex_cast hx6 (id:=4) ?_
       obtain ⟨r0,h,e0⟩:=map_sx h
       have e1:=hr6 r0 e0.symm
       subst r0
       refine wk_id ?_
       refine wk_id ?_
       refine chk_sx h (fun g6263 h=>?_)
       refine seq_np ?_
       refine reg_t ?_
       have k6262:0≤bits:=by first | simpa only [Bool.and_eq_true,decide_eq_true_eq,bne_iff_ne,ne_eq] using g6263 | (simp at g6263 ⊢; omega) | simp
       refine rs 7 [none,none,none,some ⟨iS (IntKind.i64.wrap ((1:Int) * 2 ^ (min (bits).toNat (IntKind.i64).bits))),[],6,[]⟩] _ (by kernel_rfl) (allP_cons (ob_p (v:=iS (IntKind.i64.wrap ((1:Int) * 2 ^ (min (bits).toNat (IntKind.i64).bits)))) (nx:=6) (r:=[]) k6262) allP_nil) ?_
       obtain ⟨r6264,hr6264,h⟩:=bind_sx h
       refine call_x (taskmillref_SameSpace_spec (Space.mk c0_Bits46 c1q46 c2q42) (Space.mk bits [] ([(GBlock.mk 0 (IntKind.i64.wrap ((1:Int) * 2 ^ (min (bits).toNat (IntKind.i64).bits))))]:List GBlock)) r6264 hr6264) (args:=[.agg [iS c0_Bits46,.own 1 0 c1q46.length,.own 2 0 c2q42.length],.agg [iS bits,.v (.slice none 0 0),.own 8 0 ([(GBlock.mk 0 (IntKind.i64.wrap ((1:Int) * 2 ^ (min (bits).toNat (IntKind.i64).bits))))]:List GBlock).length]]) (dst:=(some 176)) (by kernel_rfl) [(0,.row 24 [iS c0_Bits46,.own 1 0 c1q46.length,.own 2 0 c2q42.length]),(1,.row 38 (fl c1q46)),(2,.row 38 (fl c2q42)),(8,.row 38 (fl ([(GBlock.mk 0 (IntKind.i64.wrap ((1:Int) * 2 ^ (min (bits).toNat (IntKind.i64).bits))))]:List GBlock)))] 11 (by kernel_rfl) [] [1,2,8] (bS r6264) [] (by simp only [push_cast,seval]) (by simp only [push_cast,seval]) (by kernel_rfl) (.inr ⟨by simp only [push_cast,seval],by simp only [push_cast,seval]⟩) (by simp only [push_cast,seval]) (by simp only [push_cast,seval]) ?_
       refine rk 1 ?_
       refine rt [(4,bS r6264)] [(0,.row 24 [iS c0_Bits46,.own 1 0 c1q46.length,.own 2 0 c2q42.length]),(1,.row 38 (fl c1q46)),(2,.row 38 (fl c2q42)),(8,.row 38 (fl ([(GBlock.mk 0 (IntKind.i64.wrap ((1:Int) * 2 ^ (min (bits).toNat (IntKind.i64).bits))))]:List GBlock)))] 13 follows (by kernel_rfl) ?_
       refine wk_id ?_
       obtain rfl:=Option.some.inj h
       refine ret_at (bS r6264) (by kernel_rfl) ?_
       exact ret_e [] [] (by simp only [push_cast,seval]) (by simp only [push_cast,seval]) rfl rfl rfl

end Go.Proofs.Ytpeaimfdeonpgaa
