/-
 What laws of the chapter buddy compute, and lemmas on it.
 No conditions.
-/
import Derived.Test.YtpeaimfdeonpgaabuddyWBuddyGivesUpto1
set_option linter.unusedSimpArgs false
set_option linter.unusedVariables false
set_option linter.unusedSectionVars false
namespace Go.Proofs.Ytpeaimfdeonpgaa
open Go Go.Sx
attribute [local irreducible] Wk RunAt
attribute [local bitvec_to_nat] leL_flD renL_flD leL_flP renL_flP leC_famP leC_famP0 flP_0 ren_famP noN_eq lenP_same lenP_one lenP_app lenP_set lenP_famP Nat.le_refl List.length_set leC_mpP leC_mpP1 mapLe_eq mapLe1_eq ren_mpP ren_mpP1
set_option maxRecDepth 100000 in
set_option maxHeartbeats 200000000 in
theorem taskmillref_SameSpace_spec (xa:Space) (b:Space) (r:Bool) (h:taskmillref_SameSpace xa b = some r):SpecW Try.prog 14 [.agg (Enc.cells xa),.agg (Enc.cells b)] [] 0 (fun x h n=>x = bS r∧h = []∧n = 0):=by
 unfold taskmillref_SameSpace at h
 refine spec_of (draw_ok _) Try.func14 rfl (by decide) rfl (by kernel_rfl) ?_
 refine seq_np ?_
 refine reg_f ?_
 refine rk 3 ?_
 refine rf [(2,.ptr 0 0),(3,.ptr 1 0)] [(0,.row 24 (Enc.cells xa)),(1,.row 24 (Enc.cells b))] 2 (by kernel_rfl) ?_
 refine wk_id ?_
 refine seq_cut (A:=Bool) (fun a=>([(4,bS a)],[],0)) (fun a=>(taskmillref_SameSpace_j1 a) = some r) (fun K3611 hK3611=>?_) ?_
 ·refine reg_f ?_
  refine rk 6 ?_
  refine run_br h 10 (.inl (by kernel_rfl)) (fun g3612 h=>?_) (fun g3612 h=>?_)
  ·refine rk 4 ?_
   obtain ⟨r3613,hr3613,h⟩:=bind_sx h
   refine run_call 19 [.sl xa.Used.length (fl xa.Used),.sl b.Used.length (fl b.Used)] (some 15) (by kernel_rfl) ?_
   refine call_0 (taskmillref_SameBlocks_spec xa.Used b.Used r3613 hr3613) (by simp only [push_cast,seval]) (by simp only [push_cast,seval]) ?_
   refine back_f ?_
   refine rk 2 ?_
   refine run_br h 17 (.inl (by kernel_rfl)) (fun g3614 h=>?_) (fun g3614 h=>?_)
   ·refine rn 13 [(2,.ptr 0 0),(3,.ptr 1 0),(17,bS true)] [(0,.row 24 (Enc.cells xa)),(1,.row 24 (Enc.cells b))] 2 (by kernel_rfl) ?_
    refine rk 4 ?_
    obtain ⟨r3615,hr3615,h⟩:=bind_sx h
    refine run_call 19 [.sl xa.Free.length (fl xa.Free),.sl b.Free.length (fl b.Free)] (some 22) (by kernel_rfl) ?_
    refine call_0 (taskmillref_SameBlocks_spec xa.Free b.Free r3615 hr3615) (by simp only [push_cast,seval]) (by simp only [push_cast,seval]) ?_
    refine back_f ?_
    refine rk 2 ?_
    refine rf [(4,bS r3615)] [(0,.row 24 (Enc.cells xa)),(1,.row 24 (Enc.cells b))] 2 (by kernel_rfl) ?_
    exact hK3611 (r3615) _ _ _ h (leSt_m [] [] (by first | ((try simp only [g3612,g3614]) <;> simp only [push_cast,seval]; done) | ((try simp only [g3612]); (try simp only [g3614]); simp only [push_cast,seval]; done) | (exfalso; clear h; simp_all; done)) (by first | ((try simp only [g3612,g3614]) <;> simp only [push_cast,seval]; done) | ((try simp only [g3612]); (try simp only [g3614]); simp only [push_cast,seval]; done) | (exfalso; clear h; simp_all; done)) rfl rfl rfl)
   ·refine rn 13 [(2,.ptr 0 0),(3,.ptr 1 0),(17,bS false)] [(0,.row 24 (Enc.cells xa)),(1,.row 24 (Enc.cells b))] 2 (by kernel_rfl) ?_
    refine rk 7 ?_
    refine rf [(4,bS false)] [(0,.row 24 (Enc.cells xa)),(1,.row 24 (Enc.cells b))] 2 (by kernel_rfl) ?_
    exact hK3611 (false) _ _ _ h (leSt_m [] [] (by first | ((try simp only [g3612,g3614]) <;> simp only [push_cast,seval]; done) | ((try simp only [g3612]); (try simp only [g3614]); simp only [push_cast,seval]; done) | (exfalso; clear h; simp_all; done)) (by first | ((try simp only [g3612,g3614]) <;> simp only [push_cast,seval]; done) | ((try simp only [g3612]); (try simp only [g3614]); simp only [push_cast,seval]; done) | (exfalso; clear h; simp_all; done)) rfl rfl rfl)
  ·refine rk 14 ?_
   refine rf [(4,bS false)] [(0,.row 24 (Enc.cells xa)),(1,.row 24 (Enc.cells b))] 2 (by kernel_rfl) ?_
   exact hK3611 (false) _ _ _ h (leSt_m [] [] (by (try simp only [g3612]) <;> simp only [push_cast,seval]) (by (try simp only [g3612]) <;> simp only [push_cast,seval]) rfl rfl rfl)
 ·rintro t4q1 h
  try dsimp only at h ⊢
  unfold taskmillref_SameSpace_j1 at h
  obtain rfl:=Option.some.inj h
  refine ret_at (bS t4q1) (by kernel_rfl) ?_
  exact ret_e [] [] (by simp only [push_cast,seval]) (by simp only [push_cast,seval]) rfl rfl rfl

set_option maxRecDepth 100000 in
set_option maxHeartbeats 200000000 in
theorem taskmillref_NoBlock_spec (l:(List GBlock)) (b:GBlock) (r:(List GBlock)) (h:taskmillref_NoBlock l b = some r):SpecW Try.prog 37 [.sl l.length (fl l),.agg (Enc.cells b)] [] 0 (fun x h n=>x = .own 0 0 r.length∧h = [(0,.row 38 (fl r))]∧n = 1):=by
 unfold taskmillref_NoBlock at h
 refine spec_of (draw_ok _) Try.func37 rfl (by decide) rfl (by kernel_rfl) ?_
 refine seq_np ?_
 refine reg_f ?_
 refine rk 2 ?_
 refine rf [(0,.sl l.length (fl l)),(3,.ptr 0 0)] [(0,.row 38 (Enc.cells b))] 1 (by kernel_rfl) ?_
 refine wk_id ?_
 refine seq_np ?_
 refine reg_f ?_
 refine rk 1 ?_
 refine rf [(0,.sl l.length (fl l)),(3,.ptr 0 0),(5,.v (.slice none 0 0))] [(0,.row 38 (Enc.cells b))] 1 (by kernel_rfl) ?_
 refine wk_id ?_
 refine seq_np ?_
 refine seq_np ?_
 refine reg_f ?_
 refine rk 1 ?_
 refine rf [(0,.sl l.length (fl l)),(3,.ptr 0 0),(5,.v (.slice none 0 0)),(6,iS 0)] [(0,.row 38 (Enc.cells b))] 1 (by kernel_rfl) ?_
 refine wk_id ?_
 refine block_np ?_
 refine loop_sx (S:=Int×(List GBlock)) (fun a=>([(0,.sl l.length (fl l)),(3,.ptr 0 0),(5,.own 1 0 a.2.length),(6,iS a.1)],[(0,.row 38 (Enc.cells b)),(1,.row 38 (fl a.2))],2)) h (leSt_m [(0,0)] [] (by simp only [push_cast,seval]) (by simp only [push_cast,seval]) rfl rfl rfl) ?_
 rintro ⟨i7,c1q18⟩ o2 R2 h hr2 hn2 hx2 ht2
 try dsimp only at h hn2 ⊢
 unfold taskmillref_NoBlock_l1 at h
 try dsimp only at h
 refine seq_np ?_
 refine seq_np ?_
 refine reg_f ?_
 refine rk 4 ?_
 refine rf [(0,.sl l.length (fl l)),(3,.ptr 0 0),(5,.own 1 0 c1q18.length),(6,iS i7),(10,bS (decide (i7 < (l.length:Int))))] [(0,.row 38 (Enc.cells b)),(1,.row 38 (fl c1q18))] 2 (by kernel_rfl) ?_
 refine wk_id ?_
 refine cond_sx h (by kernel_rfl) (fun g3797 h=>?_) (fun g3797 h=>?_)
 ·refine wk_id ?_
  refine seq_np ?_
  refine block_cut (A:=(List GBlock)) (fun a=>([(0,.sl l.length (fl l)),(3,.ptr 0 0),(5,.own 1 0 a.length),(6,iS i7)],[(0,.row 38 (Enc.cells b)),(1,.row 38 (fl a))],2)) (fun a=>(taskmillref_NoBlock_j1 l b i7 a) = some o2) (fun K3783 hK3783=>?_) ?_
  ·refine chk_sx h (fun g3787 h=>?_)
   refine seq_np ?_
   refine reg_t ?_
   have k3786:0≤i7∧i7 < (l.length:Int):=by first | simpa only [Bool.and_eq_true,decide_eq_true_eq,bne_iff_ne,ne_eq] using g3787 | (simp at g3787 ⊢; omega) | simp
   refine rs 6 [none,none,some ⟨.iptr (fl l) ((i7).toNat * 2),[],4,[]⟩,some ⟨.agg (Enc.cells (ix l i7)),[],5,[]⟩] _ (by kernel_rfl) (allP_cons (ob_ldw l i7 2 ((i7).toNat * 2) k3786 rfl (by first | rfl | omega) (Enc.cells (ix l i7)) rfl 5 []) (allP_cons (ob_ix_l l 2 4 i7 k3786) allP_nil)) ?_
   refine rt [(0,.sl l.length (fl l)),(3,.ptr 0 0),(5,.own 1 0 c1q18.length),(6,iS i7),(18,bS (!(((ix l i7).Start == b.Start) && (((ix l i7).Size == b.Size) && true))))] [(0,.row 38 (Enc.cells b)),(1,.row 38 (fl c1q18))] 8 follows (by kernel_rfl) ?_
   refine wk_id ?_
   refine cond_sx h (by kernel_rfl) (fun g3796 h=>?_) (fun g3796 h=>?_)
   ·refine chk_sx h (fun g3793 h=>?_)
    refine chk_sx h (fun g3795 h=>?_)
    refine reg_f ?_
    have k3792:0≤i7∧i7 < (l.length:Int):=by first | simpa only [Bool.and_eq_true,decide_eq_true_eq,bne_iff_ne,ne_eq] using g3793 | (simp at g3793 ⊢; omega) | simp
    have k3794:(c1q18++([(ix l i7)]:List GBlock)).length * 16≤140737488355328:=by first | simpa only [Bool.and_eq_true,decide_eq_true_eq,bne_iff_ne,ne_eq] using g3795 | (simp at g3795 ⊢; omega) | simp
    refine rs 8 [none,none,none,some ⟨.iptr (fl l) ((i7).toNat * 2),[],8,[]⟩,some ⟨.agg (Enc.cells (ix l i7)),[],8,[]⟩,none,some ⟨.own 9 0 (c1q18++([(ix l i7)]:List GBlock)).length,[(9,.row 38 (fl (c1q18++([(ix l i7)]:List GBlock)))),(1,.dead)],10,[1,8]⟩] _ (by kernel_rfl) (allP_cons (ob_app (P:=Try.prog) c1q18 ([(ix l i7)]:List GBlock) 2 16 rfl (appCells (fl ([(ix l i7)]:List GBlock)) 0 (([(ix l i7)]:List GBlock).length * 2)) ([(ix l i7)]:List GBlock).length (app_own ([(ix l i7)]:List GBlock) 2 rfl) rfl (0+([(ix l i7)]:List GBlock).length * 2≤(fl ([(ix l i7)]:List GBlock)).length) (app_own_le ([(ix l i7)]:List GBlock) 2 rfl) 38 (by kernel_rfl) (by decide) k3794 1 9 [8]) (allP_cons (ob_ldw l i7 2 ((i7).toNat * 2) k3792 rfl (by first | rfl | omega) (Enc.cells (ix l i7)) rfl 8 []) (allP_cons (ob_ix_l l 2 8 i7 k3792) allP_nil))) ?_
    refine rf [(0,.sl l.length (fl l)),(3,.ptr 0 0),(5,.own 9 0 (c1q18++([(ix l i7)]:List GBlock)).length),(6,iS i7)] [(0,.row 38 (Enc.cells b)),(1,.dead),(8,.row 38 (fl ([(ix l i7)]:List GBlock))),(9,.row 38 (fl (c1q18++([(ix l i7)]:List GBlock))))] 10 (by kernel_rfl) ?_
    exact hK3783 ((c1q18++([(ix l i7)]:List GBlock))) _ _ _ h (leSt_m [(0,0),(1,9)] [] (by simp only [push_cast,seval]) (by simp only [push_cast,seval]) rfl rfl rfl)
   ·exact hK3783 (c1q18) _ _ _ h (leSt_m [(0,0),(1,1)] [] (by simp only [push_cast,seval]) (by simp only [push_cast,seval]) rfl rfl rfl)
  ·rintro c1q20 h
   try dsimp only at h ⊢
   unfold taskmillref_NoBlock_j1 at h
   refine wk_id ?_
   refine reg_f ?_
   refine rk 3 ?_
   refine rf [(0,.sl l.length (fl l)),(3,.ptr 0 0),(5,.own 1 0 c1q20.length),(6,iS (IntKind.i64.wrap (i7+1)))] [(0,.row 38 (Enc.cells b)),(1,.row 38 (fl c1q20))] 2 (by kernel_rfl) ?_
   exact hn2 ((IntKind.i64.wrap (i7+1)),c1q20) _ _ _ (Option.some.inj h).symm (leSt_m [(0,0),(1,1)] [] (by simp only [push_cast,seval]) (by simp only [push_cast,seval]) rfl rfl rfl)
 ·change R2 (.exit 0) _ _ _
  refine ex_cast hx2 (id:=0) ?_
  obtain ⟨r0,h,e0⟩:=map_sx h
  have e1:=hr2 r0 e0.symm
  subst r0
  refine wk_id ?_
  refine wk_id ?_
  refine seq_np ?_
  refine reg_f ?_
  refine rk 2 ?_
  refine rf [(4,.own 1 0 c1q18.length)] [(0,.row 38 (Enc.cells b)),(1,.row 38 (fl c1q18))] 2 (by kernel_rfl) ?_
  refine wk_id ?_
  obtain rfl:=Option.some.inj h
  refine ret_at (.own 1 0 c1q18.length) (by kernel_rfl) ?_
  exact ret_e [(0,1)] [] (by simp only [push_cast,seval]) (by simp only [push_cast,seval]) rfl rfl rfl

set_option maxRecDepth 100000 in
set_option maxHeartbeats 200000000 in
theorem taskmillref_WithBlock_spec (l:(List GBlock)) (b:GBlock) (r:(List GBlock)) (h:taskmillref_WithBlock l b = some r):SpecW Try.prog 38 [.sl l.length (fl l),.agg (Enc.cells b)] [] 0 (fun x h n=>x = .own 0 0 r.length∧h = [(0,.row 38 (fl r))]∧n = 1):=by
 unfold taskmillref_WithBlock at h
 refine spec_of (draw_ok _) Try.func38 rfl (by decide) rfl (by kernel_rfl) ?_
 refine seq_np ?_
 refine reg_f ?_
 refine rk 2 ?_
 refine rf [(0,.sl l.length (fl l)),(3,.ptr 0 0)] [(0,.row 38 (Enc.cells b))] 1 (by kernel_rfl) ?_
 refine wk_id ?_
 refine seq_np ?_
 refine reg_f ?_
 refine rk 1 ?_
 refine rf [(0,.sl l.length (fl l)),(3,.ptr 0 0),(5,.v (.slice none 0 0))] [(0,.row 38 (Enc.cells b))] 1 (by kernel_rfl) ?_
 refine wk_id ?_
 refine seq_np ?_
 refine reg_f ?_
 refine rk 1 ?_
 refine rf [(0,.sl l.length (fl l)),(3,.ptr 0 0),(5,.v (.slice none 0 0)),(6,bS false)] [(0,.row 38 (Enc.cells b))] 1 (by kernel_rfl) ?_
 refine wk_id ?_
 refine seq_np ?_
 refine seq_np ?_
 refine reg_f ?_
 refine rk 1 ?_
 refine rf [(0,.sl l.length (fl l)),(3,.ptr 0 0),(5,.v (.slice none 0 0)),(6,bS false),(7,iS 0)] [(0,.row 38 (Enc.cells b))] 1 (by kernel_rfl) ?_
 refine wk_id ?_
 refine block_np ?_
 refine loop_sx (S:=Bool×Int×(List GBlock)) (fun a=>([(0,.sl l.length (fl l)),(3,.ptr 0 0),(5,.own 1 0 a.2.2.length),(6,bS a.1),(7,iS a.2.1)],[(0,.row 38 (Enc.cells b)),(1,.row 38 (fl a.2.2))],2)) h (leSt_m [(0,0)] [] (by simp only [push_cast,seval]) (by simp only [push_cast,seval]) rfl rfl rfl) ?_
 rintro ⟨put18,i7,c1q18⟩ o2 R2 h hr2 hn2 hx2 ht2
 try dsimp only at h hn2 ⊢
 unfold taskmillref_WithBlock_l1 at h
 try dsimp only at h
 refine seq_np ?_
 refine seq_np ?_
 refine reg_f ?_
 refine rk 4 ?_
 refine rf [(0,.sl l.length (fl l)),(3,.ptr 0 0),(5,.own 1 0 c1q18.length),(6,bS put18),(7,iS i7),(11,bS (decide (i7 < (l.length:Int))))] [(0,.row 38 (Enc.cells b)),(1,.row 38 (fl c1q18))] 2 (by kernel_rfl) ?_
 refine wk_id ?_
 refine cond_sx h (by kernel_rfl) (fun g4011 h=>?_) (fun g4011 h=>?_)
 ·refine wk_id ?_
  refine seq_np ?_
  refine block_np ?_
  refine seq_cut (A:=Bool×(List GBlock)) (fun a=>([(0,.sl l.length (fl l)),(3,.ptr 0 0),(5,.own 1 0 a.2.length),(6,bS a.1),(7,iS i7)],[(0,.row 38 (Enc.cells b)),(1,.row 38 (fl a.2))],2)) (fun a=>(taskmillref_WithBlock_j1 l b i7 a.1 a.2) = some o2) (fun K3980 hK3980=>?_) ?_
  ·refine chk_sx h (fun g3987 h=>?_)
   refine seq_cut (A:=Unit) (fun _=>([(0,.sl l.length (fl l)),(3,.ptr 0 0),(5,.own 1 0 c1q18.length),(6,bS put18),(7,iS i7),(25,bS ((!put18) && (decide (b.Start < (ix l i7).Start))))],[(0,.row 38 (Enc.cells b)),(1,.row 38 (fl c1q18))],14)) (fun _=>True) (fun K3984 hK3984=>?_) (fun _ _=>?_)
   ·refine reg_t ?_
    refine rk 3 ?_
    refine run_split 16 (!put18) (.inl (by kernel_rfl)) (fun g3985=>?_) (fun g3985=>?_)
    ·have k3986:0≤i7∧i7 < (l.length:Int):=by have e:=or_use g3987 (by first | ((try simp only [g3985]) <;> rfl) | ((try simp only [g3985]); rfl) | (exfalso; clear h; simp_all; done)); first | simpa only [Bool.and_eq_true,decide_eq_true_eq,bne_iff_ne,ne_eq] using e | (simp at e ⊢; omega)
     refine rs 9 [none,none,some ⟨.iptr (fl l) ((i7).toNat * 2),[],7,[]⟩,none,some ⟨iS (ix l i7).Start,[],9,[]⟩] _ (by kernel_rfl) (allP_cons (ob_ld l i7 2 0 (((i7).toNat * 2)+0) k3986 rfl (by decide) (by first | rfl | omega) (dflS Try.prog 3) (iS (ix l i7).Start) rfl 9 []) (allP_cons (ob_ix_l l 2 7 i7 k3986) allP_nil)) ?_
     refine rt [(0,.sl l.length (fl l)),(3,.ptr 0 0),(5,.own 1 0 c1q18.length),(6,bS put18),(7,iS i7),(25,bS (decide (b.Start < (ix l i7).Start)))] [(0,.row 38 (Enc.cells b)),(1,.row 38 (fl c1q18))] 14 follows (by kernel_rfl) ?_
     exact hK3984 () _ _ _ trivial (leSt_m [(0,0),(1,1)] [] (by (try simp only [g3985]) <;> simp only [push_cast,seval]) (by (try simp only [g3985]) <;> simp only [push_cast,seval]) rfl rfl rfl)
    ·refine rk 9 ?_
     refine rt [(0,.sl l.length (fl l)),(3,.ptr 0 0),(5,.own 1 0 c1q18.length),(6,bS put18),(7,iS i7),(25,bS false)] [(0,.row 38 (Enc.cells b)),(1,.row 38 (fl c1q18))] 14 follows (by kernel_rfl) ?_
     exact hK3984 () _ _ _ trivial (leSt_m [(0,0),(1,1)] [] (by (try simp only [g3985]) <;> simp only [push_cast,seval]) (by (try simp only [g3985]) <;> simp only [push_cast,seval]) rfl rfl rfl)
   ·dsimp only
    refine cond_sx h (by kernel_rfl) (fun g3992 h=>?_) (fun g3992 h=>?_)
    ·refine chk_sx h (fun g3991 h=>?_)
     refine seq_np ?_
     refine reg_f ?_
     have k3990:(c1q18++([b]:List GBlock)).length * 16≤140737488355328:=by first | simpa only [Bool.and_eq_true,decide_eq_true_eq,bne_iff_ne,ne_eq] using g3991 | (simp at g3991 ⊢; omega) | simp
     refine rs 5 [none,none,none,some ⟨.own 15 0 (c1q18++([b]:List GBlock)).length,[(15,.row 38 (fl (c1q18++([b]:List GBlock)))),(1,.dead)],16,[1,14]⟩] _ (by kernel_rfl) (allP_cons (ob_app (P:=Try.prog) c1q18 ([b]:List GBlock) 2 16 rfl (appCells (fl ([b]:List GBlock)) 0 (([b]:List GBlock).length * 2)) ([b]:List GBlock).length (app_own ([b]:List GBlock) 2 rfl) rfl (0+([b]:List GBlock).length * 2≤(fl ([b]:List GBlock)).length) (app_own_le ([b]:List GBlock) 2 rfl) 38 (by kernel_rfl) (by decide) k3990 1 15 [14]) allP_nil) ?_
     refine rf [(0,.sl l.length (fl l)),(3,.ptr 0 0),(5,.own 15 0 (c1q18++([b]:List GBlock)).length),(7,iS i7)] [(0,.row 38 (Enc.cells b)),(1,.dead),(14,.row 38 (fl ([b]:List GBlock))),(15,.row 38 (fl (c1q18++([b]:List GBlock))))] 16 (by kernel_rfl) ?_
     refine wk_id ?_
     refine reg_f ?_
     refine rk 1 ?_
     refine rf [(0,.sl l.length (fl l)),(3,.ptr 0 0),(5,.own 15 0 (c1q18++([b]:List GBlock)).length),(6,bS true),(7,iS i7)] [(0,.row 38 (Enc.cells b)),(1,.dead),(14,.row 38 (fl ([b]:List GBlock))),(15,.row 38 (fl (c1q18++([b]:List GBlock))))] 16 (by kernel_rfl) ?_
     exact hK3980 (true,(c1q18++([b]:List GBlock))) _ _ _ h (leSt_m [(0,0),(1,15)] [] (by simp only [push_cast,seval]) (by simp only [push_cast,seval]) rfl rfl rfl)
    ·exact hK3980 (put18,c1q18) _ _ _ h (leSt_m [(0,0),(1,1)] [] (by simp only [push_cast,seval]) (by simp only [push_cast,seval]) rfl rfl rfl)
  ·rintro ⟨put21,c1q21⟩ h
   try dsimp only at h ⊢
   unfold taskmillref_WithBlock_j1 at h
   refine chk_sx h (fun g3998 h=>?_)
   refine chk_sx h (fun g4000 h=>?_)
   refine reg_f ?_
   have k3997:0≤i7∧i7 < (l.length:Int):=by first | simpa only [Bool.and_eq_true,decide_eq_true_eq,bne_iff_ne,ne_eq] using g3998 | (simp at g3998 ⊢; omega) | simp
   have k3999:(c1q21++([(ix l i7)]:List GBlock)).length * 16≤140737488355328:=by first | simpa only [Bool.and_eq_true,decide_eq_true_eq,bne_iff_ne,ne_eq] using g4000 | (simp at g4000 ⊢; omega) | simp
   refine rs 8 [none,none,none,some ⟨.iptr (fl l) ((i7).toNat * 2),[],2,[]⟩,some ⟨.agg (Enc.cells (ix l i7)),[],2,[]⟩,none,some ⟨.own 3 0 (c1q21++([(ix l i7)]:List GBlock)).length,[(3,.row 38 (fl (c1q21++([(ix l i7)]:List GBlock)))),(1,.dead)],4,[1,2]⟩] _ (by kernel_rfl) (allP_cons (ob_app (P:=Try.prog) c1q21 ([(ix l i7)]:List GBlock) 2 16 rfl (appCells (fl ([(ix l i7)]:List GBlock)) 0 (([(ix l i7)]:List GBlock).length * 2)) ([(ix l i7)]:List GBlock).length (app_own ([(ix l i7)]:List GBlock) 2 rfl) rfl (0+([(ix l i7)]:List GBlock).length * 2≤(fl ([(ix l i7)]:List GBlock)).length) (app_own_le ([(ix l i7)]:List GBlock) 2 rfl) 38 (by kernel_rfl) (by decide) k3999 1 3 [2]) (allP_cons (ob_ldw l i7 2 ((i7).toNat * 2) k3997 rfl (by first | rfl | omega) (Enc.cells (ix l i7)) rfl 2 []) (allP_cons (ob_ix_l l 2 2 i7 k3997) allP_nil))) ?_
   refine rf [(0,.sl l.length (fl l)),(3,.ptr 0 0),(5,.own 3 0 (c1q21++([(ix l i7)]:List GBlock)).length),(6,bS put21),(7,iS i7)] [(0,.row 38 (Enc.cells b)),(1,.dead),(2,.row 38 (fl ([(ix l i7)]:List GBlock))),(3,.row 38 (fl (c1q21++([(ix l i7)]:List GBlock))))] 4 (by kernel_rfl) ?_
   refine wk_id ?_
   refine wk_id ?_
   refine reg_f ?_
   refine rk 3 ?_
   refine rf [(0,.sl l.length (fl l)),(3,.ptr 0 0),(5,.own 3 0 (c1q21++([(ix l i7)]:List GBlock)).length),(6,bS put21),(7,iS (IntKind.i64.wrap (i7+1)))] [(0,.row 38 (Enc.cells b)),(1,.dead),(2,.row 38 (fl ([(ix l i7)]:List GBlock))),(3,.row 38 (fl (c1q21++([(ix l i7)]:List GBlock))))] 4 (by kernel_rfl) ?_
   exact hn2 (put21,(IntKind.i64.wrap (i7+1)),(c1q21++([(ix l i7)]:List GBlock))) _ _ _ (Option.some.inj h).symm (leSt_m [(0,0),(1,3)] [] (by simp only [push_cast,seval]) (by simp only [push_cast,seval]) rfl rfl rfl)
 ·change R2 (.exit 0) _ _ _
  refine ex_cast hx2 (id:=0) ?_
  obtain ⟨r0,h,e0⟩:=map_sx h
  have e1:=hr2 r0 e0.symm
  subst r0
  refine wk_id ?_
  refine wk_id ?_
  refine seq_cut (A:=(List GBlock)) (fun a=>([(5,.own 0 0 a.length)],[(0,.row 38 (fl a))],1)) (fun a=>(taskmillref_WithBlock_j2 a) = some r) (fun K4005 hK4005=>?_) ?_
  ·refine seq_np ?_
   refine reg_f ?_
   refine rk 2 ?_
   refine rf [(3,.ptr 0 0),(5,.own 1 0 c1q18.length),(38,bS (!put18))] [(0,.row 38 (Enc.cells b)),(1,.row 38 (fl c1q18))] 2 (by kernel_rfl) ?_
   refine wk_id ?_
   refine cond_sx h (by kernel_rfl) (fun g4010 h=>?_) (fun g4010 h=>?_)
   ·refine chk_sx h (fun g4009 h=>?_)
    refine reg_f ?_
    have k4008:(c1q18++([b]:List GBlock)).length * 16≤140737488355328:=by first | simpa only [Bool.and_eq_true,decide_eq_true_eq,bne_iff_ne,ne_eq] using g4009 | (simp at g4009 ⊢; omega) | simp
    refine rs 5 [none,none,none,some ⟨.own 3 0 (c1q18++([b]:List GBlock)).length,[(3,.row 38 (fl (c1q18++([b]:List GBlock)))),(1,.dead)],4,[1,2]⟩] _ (by kernel_rfl) (allP_cons (ob_app (P:=Try.prog) c1q18 ([b]:List GBlock) 2 16 rfl (appCells (fl ([b]:List GBlock)) 0 (([b]:List GBlock).length * 2)) ([b]:List GBlock).length (app_own ([b]:List GBlock) 2 rfl) rfl (0+([b]:List GBlock).length * 2≤(fl ([b]:List GBlock)).length) (app_own_le ([b]:List GBlock) 2 rfl) 38 (by kernel_rfl) (by decide) k4008 1 3 [2]) allP_nil) ?_
    refine rf [(5,.own 3 0 (c1q18++([b]:List GBlock)).length)] [(0,.row 38 (Enc.cells b)),(1,.dead),(2,.row 38 (fl ([b]:List GBlock))),(3,.row 38 (fl (c1q18++([b]:List GBlock))))] 4 (by kernel_rfl) ?_
    exact hK4005 ((c1q18++([b]:List GBlock))) _ _ _ h (leSt_m [(0,3)] [] (by simp only [push_cast,seval]) (by simp only [push_cast,seval]) rfl rfl rfl)
   ·exact hK4005 (c1q18) _ _ _ h (leSt_m [(0,1)] [] (by simp only [push_cast,seval]) (by simp only [push_cast,seval]) rfl rfl rfl)
  ·rintro c0q2 h
   try dsimp only at h ⊢
   unfold taskmillref_WithBlock_j2 at h
   refine seq_np ?_
   refine reg_f ?_
   refine rk 2 ?_
   refine rf [(4,.own 0 0 c0q2.length)] [(0,.row 38 (fl c0q2))] 1 (by kernel_rfl) ?_
   refine wk_id ?_
   obtain rfl:=Option.some.inj h
   refine ret_at (.own 0 0 c0q2.length) (by kernel_rfl) ?_
   exact ret_e [(0,0)] [] (by simp only [push_cast,seval]) (by simp only [push_cast,seval]) rfl rfl rfl

set_option maxRecDepth 100000 in
set_option maxHeartbeats 200000000 in
theorem buddy_Give_spec (s:Space) (start:Int) (r:Int×Fault×(List GBlock)×(List GBlock)) (h:buddy_Give s start = some r):SpecW Try.prog 17 [.agg (Enc.cells s),iS start] [] 0 (fun x h n=>x = .tup [.agg [iS r.1,.own 0 0 r.2.2.1.length,.own 1 0 r.2.2.2.length],.agg (Enc.cells r.2.1)]∧h = [(0,.row 38 (fl r.2.2.1)),(1,.row 38 (fl r.2.2.2))]∧n = 2):=by
 unfold buddy_Give at h
 refine spec_of (draw_ok _) Try.func17 rfl (by decide) rfl (by kernel_rfl) ?_
 refine seq_np ?_
 refine reg_f ?_
 refine rk 3 ?_
 refine rf [(1,iS start),(2,.ptr 0 0),(4,.ptr 1 0),(5,.ptr 2 0)] [(0,.row 24 (Enc.cells s)),(1,.row 24 [iS 0,.v (.slice none 0 0),.v (.slice none 0 0)]),(2,.row 29 [iS 0,iS 0])] 3 (by kernel_rfl) ?_
 refine wk_id ?_
 refine seq_np ?_
 refine seq_np ?_
 refine reg_f ?_
 refine rk 1 ?_
 obtain ⟨r4886,hr4886,h⟩:=bind_sx h
 refine run_call 10 [.agg (Enc.cells s)] (some 13) (by kernel_rfl) ?_
 refine call_0 (buddy_Check_spec s r4886 hr4886) (by simp only [push_cast,seval]) (by simp only [push_cast,seval]) ?_
 refine back_f ?_
 refine rk 2 ?_
 refine rf [(1,iS start),(2,.ptr 0 0),(4,.ptr 1 0),(5,.ptr 2 0),(6,.ptr 3 0)] [(0,.row 24 (Enc.cells s)),(1,.row 24 [iS 0,.v (.slice none 0 0),.v (.slice none 0 0)]),(2,.row 29 [iS 0,iS 0]),(3,.row 29 (Enc.cells r4886))] 4 (by kernel_rfl) ?_
 refine wk_id ?_
 refine seq_np ?_
 refine reg_f ?_
 refine rk 3 ?_
 refine rf [(1,iS start),(2,.ptr 0 0),(4,.ptr 1 0),(5,.ptr 2 0),(6,.ptr 3 0),(16,bS (r4886.Code != 0))] [(0,.row 24 (Enc.cells s)),(1,.row 24 [iS 0,.v (.slice none 0 0),.v (.slice none 0 0)]),(2,.row 29 [iS 0,iS 0]),(3,.row 29 (Enc.cells r4886))] 4 (by kernel_rfl) ?_
 refine wk_id ?_
 refine cond_sx h (by kernel_rfl) (fun g4978 h=>?_) (fun g4978 h=>?_)
 ·refine seq_np ?_
  refine reg_t ?_
  refine rk 4 ?_
  refine rt [(4,.ptr 1 0),(5,.ptr 2 0)] [(0,.row 24 (Enc.cells s)),(1,.row 24 [iS 0,.v (.slice none 0 0),.v (.slice none 0 0)]),(2,.row 29 (Enc.cells r4886)),(3,.row 29 (Enc.cells r4886))] 8 follows (by kernel_rfl) ?_
  refine wk_id ?_
  obtain rfl:=Option.some.inj h
  refine ret_at (.tup [.agg [iS 0,.v (.slice none 0 0),.v (.slice none 0 0)],.agg (Enc.cells r4886)]) (by kernel_rfl) ?_
  exact ret_e [] [] (by simp only [push_cast,seval]) (by simp only [push_cast,seval]) rfl rfl rfl
 ·refine wk_id ?_
  refine seq_np ?_
  refine reg_f ?_
  refine rk 4 ?_
  obtain ⟨r4888,hr4888,h⟩:=bind_sx h
  refine run_call 39 [.sl s.Used.length (fl s.Used),.agg [iS start,iS 0],.v (.func (.func 26) #[] #[])] (some 24) (by kernel_rfl) ?_
  refine call_0 (slices_BinarySearchFunc_Block_spec s.Used (GBlock.mk start 0) r4888 hr4888) (by simp only [push_cast,seval]) (by simp only [push_cast,seval]) ?_
  refine back_f ?_
  refine rk 5 ?_
  refine rf [(2,.ptr 0 0),(4,.ptr 1 0),(5,.ptr 2 0),(7,iS r4888.1),(8,bS r4888.2)] [(0,.row 24 (Enc.cells s)),(1,.row 24 [iS 0,.v (.slice none 0 0),.v (.slice none 0 0)]),(2,.row 29 [iS 0,iS 0]),(3,.row 29 (Enc.cells r4886))] 4 (by kernel_rfl) ?_
  refine wk_id ?_
  refine seq_np ?_
  refine seq_np ?_
  refine reg_f ?_
  refine rk 2 ?_
  refine rf [(2,.ptr 0 0),(4,.ptr 1 0),(5,.ptr 2 0),(7,iS r4888.1),(28,bS (!r4888.2))] [(0,.row 24 (Enc.cells s)),(1,.row 24 [iS 0,.v (.slice none 0 0),.v (.slice none 0 0)]),(2,.row 29 [iS 0,iS 0]),(3,.row 29 (Enc.cells r4886))] 4 (by kernel_rfl) ?_
  refine wk_id ?_
  refine cond_sx h (by kernel_rfl) (fun g4977 h=>?_) (fun g4977 h=>?_)
  ·refine seq_np ?_
   refine reg_f ?_
   refine rk 1 ?_
   obtain ⟨r4892,hr4892,h⟩:=bind_sx h
   refine run_call 21 [iS 6,iS 0] (some 30) (by kernel_rfl) ?_
   refine call_0 (buddy_fault_spec 6 0 r4892 hr4892) (by simp only [push_cast,seval]) (by simp only [push_cast,seval]) ?_
   refine back_f ?_
   refine rk 2 ?_
   refine rf [(4,.ptr 1 0),(5,.ptr 2 0)] [(0,.row 24 (Enc.cells s)),(1,.row 24 [iS 0,.v (.slice none 0 0),.v (.slice none 0 0)]),(2,.row 29 (Enc.cells r4892)),(3,.row 29 (Enc.cells r4886))] 4 (by kernel_rfl) ?_
   refine wk_id ?_
   obtain rfl:=Option.some.inj h
   refine ret_at (.tup [.agg [iS 0,.v (.slice none 0 0),.v (.slice none 0 0)],.agg (Enc.cells r4892)]) (by kernel_rfl) ?_
   exact ret_e [] [] (by simp only [push_cast,seval]) (by simp only [push_cast,seval]) rfl rfl rfl
  ·refine wk_id ?_
   refine seq_np ?_
   refine reg_f ?_
   refine rk 1 ?_
   obtain ⟨r4894,hr4894,h⟩:=bind_sx h
   refine call_x (buddy_copied_spec s r4894 hr4894) (args:=[.agg (Enc.cells s)]) (dst:=(some 32)) (by kernel_rfl) [(0,.row 24 (Enc.cells s)),(1,.row 24 [iS 0,.v (.slice none 0 0),.v (.slice none 0 0)]),(2,.row 29 [iS 0,iS 0]),(3,.row 29 (Enc.cells r4886))] 4 (by kernel_rfl) [] [] (.agg [iS r4894.1,.own 4 0 r4894.2.1.length,.own 5 0 r4894.2.2.length]) [(4,.row 38 (fl r4894.2.1)),(5,.row 38 (fl r4894.2.2))] (by simp only [push_cast,seval]) (by simp only [push_cast,seval]) (by kernel_rfl) (.inl rfl) (by simp only [push_cast,seval]) (by simp only [push_cast,seval]) ?_
   refine rk 2 ?_
   refine rf [(2,.ptr 0 0),(4,.ptr 1 0),(5,.ptr 2 0),(7,iS r4888.1),(9,.ptr 6 0)] [(0,.row 24 (Enc.cells s)),(1,.row 24 [iS 0,.v (.slice none 0 0),.v (.slice none 0 0)]),(2,.row 29 [iS 0,iS 0]),(3,.row 29 (Enc.cells r4886)),(4,.row 38 (fl r4894.2.1)),(5,.row 38 (fl r4894.2.2)),(6,.row 24 [iS r4894.1,.own 4 0 r4894.2.1.length,.own 5 0 r4894.2.2.length])] 7 (by kernel_rfl) ?_
   refine wk_id ?_
   refine chk_sx h (fun g4898 h=>?_)
   refine seq_np ?_
   refine reg_f ?_
   have k4897:0≤r4888.1∧r4888.1 < (r4894.2.1.length:Int):=by first | simpa only [Bool.and_eq_true,decide_eq_true_eq,bne_iff_ne,ne_eq] using g4898 | (simp at g4898 ⊢; omega) | simp
   refine rs 7 [none,none,none,some ⟨.ptr 4 (0+(r4888.1).toNat * 2),[],7,[4]⟩,some ⟨.agg (Enc.cells (ix r4894.2.1 r4888.1)),[],7,[4]⟩] _ (by kernel_rfl) (allP_cons (ob_ldw r4894.2.1 r4888.1 2 (0+(r4888.1).toNat * 2) k4897 rfl (by first | rfl | omega) (Enc.cells (ix r4894.2.1 r4888.1)) rfl 7 [4]) (allP_cons (ob_ix_o 4 r4894.2.1.length 0 2 7 r4888.1 k4897) allP_nil)) ?_
   refine rf [(2,.ptr 0 0),(4,.ptr 1 0),(5,.ptr 2 0),(7,iS r4888.1),(9,.ptr 6 0),(10,.ptr 7 0)] [(0,.row 24 (Enc.cells s)),(1,.row 24 [iS 0,.v (.slice none 0 0),.v (.slice none 0 0)]),(2,.row 29 [iS 0,iS 0]),(3,.row 29 (Enc.cells r4886)),(4,.row 38 (fl r4894.2.1)),(5,.row 38 (fl r4894.2.2)),(6,.row 24 [iS r4894.1,.own 4 0 r4894.2.1.length,.own 5 0 r4894.2.2.length]),(7,.row 38 (Enc.cells (ix r4894.2.1 r4888.1)))] 8 (by kernel_rfl) ?_
   refine wk_id ?_
   refine seq_np ?_
   refine reg_f ?_
   refine rk 5 ?_
   obtain ⟨r4901,hr4901,h⟩:=bind_sx h
   refine call_x (slices_Delete_Block_1_spec r4888.1 (IntKind.i64.wrap (r4888.1+1)) r4894.2.1 r4901 hr4901) (args:=[.own 4 0 r4894.2.1.length,iS r4888.1,iS (IntKind.i64.wrap (r4888.1+1))]) (dst:=(some 43)) (by kernel_rfl) [(0,.row 24 (Enc.cells s)),(1,.row 24 [iS 0,.v (.slice none 0 0),.v (.slice none 0 0)]),(2,.row 29 [iS 0,iS 0]),(3,.row 29 (Enc.cells r4886)),(4,.row 38 (fl r4894.2.1)),(5,.row 38 (fl r4894.2.2)),(6,.row 24 [iS r4894.1,.own 4 0 r4894.2.1.length,.own 5 0 r4894.2.2.length]),(7,.row 38 (Enc.cells (ix r4894.2.1 r4888.1)))] 8 (by kernel_rfl) [(0,4)] [] (.own 4 0 r4901.length) [(4,.row 38 (fl r4901)),(4,.dead)] (by simp only [push_cast,seval]) (by simp only [push_cast,seval]) (by kernel_rfl) (.inl rfl) (by simp only [push_cast,seval]) (by simp only [push_cast,seval]) ?_
   refine rk 2 ?_
   refine rf [(2,.ptr 0 0),(4,.ptr 1 0),(5,.ptr 2 0),(9,.ptr 6 0),(10,.ptr 7 0)] [(0,.row 24 (Enc.cells s)),(1,.row 24 [iS 0,.v (.slice none 0 0),.v (.slice none 0 0)]),(2,.row 29 [iS 0,iS 0]),(3,.row 29 (Enc.cells r4886)),(4,.row 38 (fl r4901)),(5,.row 38 (fl r4894.2.2)),(6,.row 24 [iS r4894.1,.own 4 0 r4901.length,.own 5 0 r4894.2.2.length]),(7,.row 38 (Enc.cells (ix r4894.2.1 r4888.1)))] 9 (by kernel_rfl) ?_
   refine wk_id ?_
   refine seq_np ?_
   refine block_cut (A:=Int×GBlock×(List GBlock)×(List GBlock)) (fun a=>([(4,.ptr 0 0),(5,.ptr 1 0),(9,.ptr 2 0),(10,.ptr 3 0)],[(0,.row 24 [iS 0,.v (.slice none 0 0),.v (.slice none 0 0)]),(1,.row 29 [iS 0,iS 0]),(2,.row 24 [iS a.1,.own 4 0 a.2.2.1.length,.own 5 0 a.2.2.2.length]),(3,.row 38 (Enc.cells a.2.1)),(4,.row 38 (fl a.2.2.1)),(5,.row 38 (fl a.2.2.2))],6)) (fun a=>(buddy_Give_j1 a.1 a.2.1 a.2.2.1 a.2.2.2) = some r) (fun K4944 hK4944=>?_) ?_
   ·refine loop_sx (S:=Int×GBlock×(List GBlock)×(List GBlock)) (fun a=>([(2,.ptr 0 0),(4,.ptr 1 0),(5,.ptr 2 0),(9,.ptr 3 0),(10,.ptr 4 0)],[(0,.row 24 (Enc.cells s)),(1,.row 24 [iS 0,.v (.slice none 0 0),.v (.slice none 0 0)]),(2,.row 29 [iS 0,iS 0]),(3,.row 24 [iS a.1,.own 5 0 a.2.2.1.length,.own 6 0 a.2.2.2.length]),(4,.row 38 (Enc.cells a.2.1)),(5,.row 38 (fl a.2.2.1)),(6,.row 38 (fl a.2.2.2))],7)) h (leSt_m [(0,0),(1,1),(2,2),(3,6),(4,7),(5,4),(6,5)] [] (by simp only [push_cast,seval]) (by simp only [push_cast,seval]) rfl rfl rfl) ?_
    rintro ⟨c3_Bits7,c4q10,c5q10,c6q7⟩ o2 R2 h hr2 hn2 hx2 ht2
    try dsimp only at h hn2 ⊢
    unfold buddy_Give_l1 at h
    try dsimp only at h
    refine seq_np ?_
    refine chk_sx h (fun g4961 h=>?_)
    refine seq_np ?_
    refine reg_t ?_
    have k4960:0≤s.Bits:=by first | simpa only [Bool.and_eq_true,decide_eq_true_eq,bne_iff_ne,ne_eq] using g4961 | (simp at g4961 ⊢; omega) | simp
    refine rs 6 [none,none,none,none,some ⟨iS (IntKind.i64.wrap ((1:Int) * 2 ^ (min (s.Bits).toNat (IntKind.i64).bits))),[],11,[]⟩] _ (by kernel_rfl) (allP_cons (ob_p (v:=iS (IntKind.i64.wrap ((1:Int) * 2 ^ (min (s.Bits).toNat (IntKind.i64).bits)))) (nx:=11) (r:=[]) k4960) allP_nil) ?_
    refine rt [(2,.ptr 0 0),(4,.ptr 1 0),(5,.ptr 2 0),(9,.ptr 3 0),(10,.ptr 4 0),(50,bS (decide (c4q10.Size < (IntKind.i64.wrap ((1:Int) * 2 ^ (min (s.Bits).toNat (IntKind.i64).bits))))))] [(0,.row 24 (Enc.cells s)),(1,.row 24 [iS 0,.v (.slice none 0 0),.v (.slice none 0 0)]),(2,.row 29 [iS 0,iS 0]),(3,.row 24 [iS c3_Bits7,.own 5 0 c5q10.length,.own 6 0 c6q7.length]),(4,.row 38 (Enc.cells c4q10)),(5,.row 38 (fl c5q10)),(6,.row 38 (fl c6q7))] 13 follows (by kernel_rfl) ?_
    refine wk_id ?_
    refine cond_sx h (by kernel_rfl) (fun g4974 h=>?_) (fun g4974 h=>?_)
    ·refine wk_id ?_
     refine block_np ?_
     refine seq_np ?_
     refine reg_t ?_
     refine rk 3 ?_
     obtain ⟨r4964,hr4964,h⟩:=bind_sx h
     refine run_call 30 [.agg (Enc.cells c4q10)] (some 54) (by kernel_rfl) ?_
     refine callE_0 (buddy_mate_spec c4q10 r4964 hr4964) (by simp only [push_cast,seval]) (by simp only [push_cast,seval]) ?_
     refine back_t ?_
     obtain ⟨r4965,hr4965,h⟩:=bind_sx h
     refine call_x (slices_Index_Block_spec c6q7 r4964 r4965 hr4965) (args:=[.own 6 0 c6q7.length,.agg (Enc.cells r4964)]) (dst:=(some 55)) (by kernel_rfl) [(0,.row 24 (Enc.cells s)),(1,.row 24 [iS 0,.v (.slice none 0 0),.v (.slice none 0 0)]),(2,.row 29 [iS 0,iS 0]),(3,.row 24 [iS c3_Bits7,.own 5 0 c5q10.length,.own 6 0 c6q7.length]),(4,.row 38 (Enc.cells c4q10)),(5,.row 38 (fl c5q10)),(6,.row 38 (fl c6q7))] 17 (by kernel_rfl) [] [6] (iS r4965) [] (by simp only [push_cast,seval]) (by simp only [push_cast,seval]) (by kernel_rfl) (.inr ⟨by simp only [push_cast,seval],by simp only [push_cast,seval]⟩) (by simp only [push_cast,seval]) (by simp only [push_cast,seval]) ?_
     refine rk 1 ?_
     refine rt [(2,.ptr 0 0),(4,.ptr 1 0),(5,.ptr 2 0),(9,.ptr 3 0),(10,.ptr 4 0),(11,iS r4965)] [(0,.row 24 (Enc.cells s)),(1,.row 24 [iS 0,.v (.slice none 0 0),.v (.slice none 0 0)]),(2,.row 29 [iS 0,iS 0]),(3,.row 24 [iS c3_Bits7,.own 5 0 c5q10.length,.own 6 0 c6q7.length]),(4,.row 38 (Enc.cells c4q10)),(5,.row 38 (fl c5q10)),(6,.row 38 (fl c6q7))] 19 follows (by kernel_rfl) ?_
     refine wk_id ?_
     refine seq_np ?_
     refine seq_np ?_
     refine reg_f ?_
     refine rk 2 ?_
     refine rf [(2,.ptr 0 0),(4,.ptr 1 0),(5,.ptr 2 0),(9,.ptr 3 0),(10,.ptr 4 0),(11,iS r4965),(57,bS (decide (r4965 < 0)))] [(0,.row 24 (Enc.cells s)),(1,.row 24 [iS 0,.v (.slice none 0 0),.v (.slice none 0 0)]),(2,.row 29 [iS 0,iS 0]),(3,.row 24 [iS c3_Bits7,.own 5 0 c5q10.length,.own 6 0 c6q7.length]),(4,.row 38 (Enc.cells c4q10)),(5,.row 38 (fl c5q10)),(6,.row 38 (fl c6q7))] 19 (by kernel_rfl) ?_
     refine wk_id ?_
     refine cond_sx h (by kernel_rfl) (fun g4973 h=>?_) (fun g4973 h=>?_)
     ·change R2 (.exit 0) _ _ _
      refine ex_cast hx2 (id:=0) ?_
      obtain ⟨r0,h,e0⟩:=map_sx h
      have e1:=hr2 r0 e0.symm
      subst r0
      exact hK4944 (c3_Bits7,c4q10,c5q10,c6q7) _ _ _ h (leSt_m [(0,1),(1,2),(2,3),(3,4),(4,5),(5,6)] [] (by simp only [push_cast,seval]) (by simp only [push_cast,seval]) rfl rfl rfl)
     ·refine wk_id ?_
      refine seq_np ?_
      refine reg_f ?_
      refine rk 5 ?_
      obtain ⟨r4969,hr4969,h⟩:=bind_sx h
      refine call_x (slices_Delete_Block_1_spec r4965 (IntKind.i64.wrap (r4965+1)) c6q7 r4969 hr4969) (args:=[.own 6 0 c6q7.length,iS r4965,iS (IntKind.i64.wrap (r4965+1))]) (dst:=(some 63)) (by kernel_rfl) [(0,.row 24 (Enc.cells s)),(1,.row 24 [iS 0,.v (.slice none 0 0),.v (.slice none 0 0)]),(2,.row 29 [iS 0,iS 0]),(3,.row 24 [iS c3_Bits7,.own 5 0 c5q10.length,.own 6 0 c6q7.length]),(4,.row 38 (Enc.cells c4q10)),(5,.row 38 (fl c5q10)),(6,.row 38 (fl c6q7))] 19 (by kernel_rfl) [(0,6)] [] (.own 6 0 r4969.length) [(6,.row 38 (fl r4969)),(6,.dead)] (by simp only [push_cast,seval]) (by simp only [push_cast,seval]) (by kernel_rfl) (.inl rfl) (by simp only [push_cast,seval]) (by simp only [push_cast,seval]) ?_
      refine rk 2 ?_
      refine rf [(2,.ptr 0 0),(4,.ptr 1 0),(5,.ptr 2 0),(9,.ptr 3 0),(10,.ptr 4 0)] [(0,.row 24 (Enc.cells s)),(1,.row 24 [iS 0,.v (.slice none 0 0),.v (.slice none 0 0)]),(2,.row 29 [iS 0,iS 0]),(3,.row 24 [iS c3_Bits7,.own 5 0 c5q10.length,.own 6 0 r4969.length]),(4,.row 38 (Enc.cells c4q10)),(5,.row 38 (fl c5q10)),(6,.row 38 (fl r4969))] 20 (by kernel_rfl) ?_
      refine wk_id ?_
      refine reg_t ?_
      refine rk 3 ?_
      obtain ⟨r4972,hr4972,h⟩:=bind_sx h
      refine run_call 30 [.agg (Enc.cells c4q10)] (some 68) (by kernel_rfl) ?_
      refine callE_0 (buddy_mate_spec c4q10 r4972 hr4972) (by simp only [push_cast,seval]) (by simp only [push_cast,seval]) ?_
      refine back_t ?_
      refine rk 7 ?_
      refine rt [(2,.ptr 0 0),(4,.ptr 1 0),(5,.ptr 2 0),(9,.ptr 3 0),(10,.ptr 4 0)] [(0,.row 24 (Enc.cells s)),(1,.row 24 [iS 0,.v (.slice none 0 0),.v (.slice none 0 0)]),(2,.row 29 [iS 0,iS 0]),(3,.row 24 [iS c3_Bits7,.own 5 0 c5q10.length,.own 6 0 r4969.length]),(4,.row 38 [iS (min c4q10.Start r4972.Start),iS (IntKind.i64.wrap ((2:Int) * c4q10.Size))]),(5,.row 38 (fl c5q10)),(6,.row 38 (fl r4969))] 31 follows (by kernel_rfl) ?_
      refine wk_id ?_
      exact hn2 (c3_Bits7,(GBlock.mk (min c4q10.Start r4972.Start) (IntKind.i64.wrap ((2:Int) * c4q10.Size))),c5q10,r4969) _ _ _ (Option.some.inj h).symm (leSt_m [(0,0),(1,1),(2,2),(3,3),(4,4),(5,5),(6,6)] [] (by simp only [push_cast,seval]) (by simp only [push_cast,seval]) rfl rfl rfl)
    ·change R2 (.exit 0) _ _ _
     refine ex_cast hx2 (id:=0) ?_
     obtain ⟨r0,h,e0⟩:=map_sx h
     have e1:=hr2 r0 e0.symm
     subst r0
     exact hK4944 (c3_Bits7,c4q10,c5q10,c6q7) _ _ _ h (leSt_m [(0,1),(1,2),(2,3),(3,4),(4,5),(5,6)] [] (by simp only [push_cast,seval]) (by simp only [push_cast,seval]) rfl rfl rfl)
   ·rintro ⟨c2_Bits2,c3q2,c4q8,c5q8⟩ h
    try dsimp only at h ⊢
    unfold buddy_Give_j1 at h
    refine wk_id ?_
    refine seq_np ?_
    refine reg_f ?_
    refine rk 3 ?_
    obtain ⟨r4976,hr4976,h⟩:=bind_sx h
    refine call_x (buddy_put_1_spec c3q2 c5q8 r4976 hr4976) (args:=[.own 5 0 c5q8.length,.agg (Enc.cells c3q2)]) (dst:=(some 78)) (by kernel_rfl) [(0,.row 24 [iS 0,.v (.slice none 0 0),.v (.slice none 0 0)]),(1,.row 29 [iS 0,iS 0]),(2,.row 24 [iS c2_Bits2,.own 4 0 c4q8.length,.own 5 0 c5q8.length]),(3,.row 38 (Enc.cells c3q2)),(4,.row 38 (fl c4q8)),(5,.row 38 (fl c5q8))] 6 (by kernel_rfl) [(0,5)] [] (.own 7 0 r4976.length) [(5,.dead),(7,.row 38 (fl r4976)),(5,.dead)] (by simp only [push_cast,seval]) (by simp only [push_cast,seval]) (by kernel_rfl) (.inl rfl) (by simp only [push_cast,seval]) (by simp only [push_cast,seval]) ?_
    refine rk 2 ?_
    refine rf [(4,.ptr 0 0),(5,.ptr 1 0),(9,.ptr 2 0)] [(0,.row 24 [iS 0,.v (.slice none 0 0),.v (.slice none 0 0)]),(1,.row 29 [iS 0,iS 0]),(2,.row 24 [iS c2_Bits2,.own 4 0 c4q8.length,.own 7 0 r4976.length]),(3,.row 38 (Enc.cells c3q2)),(4,.row 38 (fl c4q8)),(5,.dead),(7,.row 38 (fl r4976))] 8 (by kernel_rfl) ?_
    refine wk_id ?_
    refine seq_np ?_
    refine reg_f ?_
    refine rk 4 ?_
    refine rf [(4,.ptr 0 0),(5,.ptr 1 0)] [(0,.row 24 [iS c2_Bits2,.own 4 0 c4q8.length,.own 7 0 r4976.length]),(1,.row 29 [iS 0,iS 0]),(2,.row 24 [iS c2_Bits2,.own 4 0 c4q8.length,.own 7 0 r4976.length]),(3,.row 38 (Enc.cells c3q2)),(4,.row 38 (fl c4q8)),(5,.dead),(7,.row 38 (fl r4976))] 8 (by kernel_rfl) ?_
    refine wk_id ?_
    obtain rfl:=Option.some.inj h
    refine ret_at (.tup [.agg [iS c2_Bits2,.own 4 0 c4q8.length,.own 7 0 r4976.length],.agg [iS 0,iS 0]]) (by kernel_rfl) ?_
    exact ret_e [(0,4),(1,7)] [] (by simp only [push_cast,seval]) (by simp only [push_cast,seval]) rfl rfl rfl

set_option maxRecDepth 100000 in
set_option maxHeartbeats 200000000 in
theorem taskmillref_Returned_spec (s:Space) (b:GBlock) (r:Int×(List GBlock)×(List GBlock)) (h:taskmillref_Returned s b = some r):SpecW Try.prog 18 [.agg (Enc.cells s),.agg (Enc.cells b)] [] 0 (fun x h n=>x = .agg [iS r.1,.own 0 0 r.2.1.length,.own 1 0 r.2.2.length]∧h = [(0,.row 38 (fl r.2.1)),(1,.row 38 (fl r.2.2))]∧n = 2):=by
 unfold taskmillref_Returned at h
 refine spec_of (draw_ok _) Try.func18 rfl (by decide) rfl (by kernel_rfl) ?_
 refine seq_np ?_
 refine reg_f ?_
 refine rk 3 ?_
 refine rf [(2,.ptr 0 0),(3,.ptr 1 0),(4,.ptr 2 0)] [(0,.row 24 (Enc.cells s)),(1,.row 38 (Enc.cells b)),(2,.row 24 [iS 0,.v (.slice none 0 0),.v (.slice none 0 0)])] 3 (by kernel_rfl) ?_
 refine wk_id ?_
 refine seq_np ?_
 refine reg_f ?_
 refine rk 3 ?_
 obtain ⟨r5053,hr5053,h⟩:=bind_sx h
 refine call_x (taskmillref_NoBlock_spec s.Used b r5053 hr5053) (args:=[.sl s.Used.length (fl s.Used),.agg (Enc.cells b)]) (dst:=(some 9)) (by kernel_rfl) [(0,.row 24 (Enc.cells s)),(1,.row 38 (Enc.cells b)),(2,.row 24 [iS 0,.v (.slice none 0 0),.v (.slice none 0 0)])] 3 (by kernel_rfl) [] [] (.own 3 0 r5053.length) [(3,.row 38 (fl r5053))] (by simp only [push_cast,seval]) (by simp only [push_cast,seval]) (by kernel_rfl) (.inl rfl) (by simp only [push_cast,seval]) (by simp only [push_cast,seval]) ?_
 refine rk 2 ?_
 refine rf [(2,.ptr 0 0),(3,.ptr 1 0),(4,.ptr 2 0)] [(0,.row 24 [iS s.Bits,.own 3 0 r5053.length,.sl s.Free.length (fl s.Free)]),(1,.row 38 (Enc.cells b)),(2,.row 24 [iS 0,.v (.slice none 0 0),.v (.slice none 0 0)]),(3,.row 38 (fl r5053))] 4 (by kernel_rfl) ?_
 refine wk_id ?_
 refine seq_np ?_
 refine block_np ?_
 refine loop_sx (S:=(List GBlock)×GBlock×(List GBlock)) (fun a=>([(2,.ptr 0 0),(3,.ptr 1 0),(4,.ptr 2 0)],[(0,.row 24 [iS s.Bits,.own 3 0 a.2.2.length,.sl a.1.length (fl a.1)]),(1,.row 38 (Enc.cells a.2.1)),(2,.row 24 [iS 0,.v (.slice none 0 0),.v (.slice none 0 0)]),(3,.row 38 (fl a.2.2))],4)) h (leSt_m [(0,0),(1,1),(2,2),(3,3)] [] (by simp only [push_cast,seval]) (by simp only [push_cast,seval]) rfl rfl rfl) ?_
 rintro ⟨c0_Free7,c1q8,c3q11⟩ o2 R2 h hr2 hn2 hx2 ht2
 try dsimp only at h hn2 ⊢
 unfold taskmillref_Returned_l1 at h
 try dsimp only at h
 refine seq_np ?_
 refine chk_sx h (fun g5177 h=>?_)
 refine seq_cut (A:=Bool) (fun a=>([(2,.ptr 0 0),(3,.ptr 1 0),(4,.ptr 2 0),(24,bS a)],[(0,.row 24 [iS s.Bits,.own 3 0 c3q11.length,.sl c0_Free7.length (fl c0_Free7)]),(1,.row 38 (Enc.cells c1q8)),(2,.row 24 [iS 0,.v (.slice none 0 0),.v (.slice none 0 0)]),(3,.row 38 (fl c3q11))],4)) (fun a=>(taskmillref_Returned_j2 s c0_Free7 c1q8 c3q11 a) = some o2) (fun K5175 hK5175=>?_) ?_
 ·refine reg_t ?_
  have k5176:0≤s.Bits:=by first | simpa only [Bool.and_eq_true,decide_eq_true_eq,bne_iff_ne,ne_eq] using g5177 | (simp at g5177 ⊢; omega) | simp
  refine rs 7 [none,none,none,none,some ⟨iS (IntKind.i64.wrap ((1:Int) * 2 ^ (min (s.Bits).toNat (IntKind.i64).bits))),[],8,[]⟩] _ (by kernel_rfl) (allP_cons (ob_p (v:=iS (IntKind.i64.wrap ((1:Int) * 2 ^ (min (s.Bits).toNat (IntKind.i64).bits)))) (nx:=8) (r:=[]) k5176) allP_nil) ?_
  refine run_br h 17 (.inl (by kernel_rfl)) (fun g5178 h=>?_) (fun g5178 h=>?_)
  ·refine rk 3 ?_
   obtain ⟨r5179,hr5179,h⟩:=bind_sx h
   refine run_call 36 [.agg (Enc.cells c1q8)] (some 21) (by kernel_rfl) ?_
   refine callE_0 (taskmillref_MateOf_spec c1q8 r5179 hr5179) (by simp only [push_cast,seval]) (by simp only [push_cast,seval]) ?_
   refine back_t ?_
   obtain ⟨r5180,hr5180,h⟩:=bind_sx h
   refine run_call 35 [.sl c0_Free7.length (fl c0_Free7),.agg (Enc.cells r5179)] (some 22) (by kernel_rfl) ?_
   refine callE_0 (taskmillref_FindBlock_spec c0_Free7 r5179 r5180 hr5180) (by simp only [push_cast,seval]) (by simp only [push_cast,seval]) ?_
   refine back_t ?_
   refine rk 2 ?_
   refine rt [(2,.ptr 0 0),(3,.ptr 1 0),(4,.ptr 2 0),(24,bS (decide ((0:Int)≤r5180)))] [(0,.row 24 [iS s.Bits,.own 3 0 c3q11.length,.sl c0_Free7.length (fl c0_Free7)]),(1,.row 38 (Enc.cells c1q8)),(2,.row 24 [iS 0,.v (.slice none 0 0),.v (.slice none 0 0)]),(3,.row 38 (fl c3q11))] 18 follows (by kernel_rfl) ?_
   exact hK5175 ((decide ((0:Int)≤r5180))) _ _ _ h (leSt_m [(0,0),(1,1),(2,2),(3,3)] [] (by (try simp only [g5178]) <;> simp only [push_cast,seval]) (by (try simp only [g5178]) <;> simp only [push_cast,seval]) rfl rfl rfl)
  ·refine rk 7 ?_
   refine rt [(2,.ptr 0 0),(3,.ptr 1 0),(4,.ptr 2 0),(24,bS false)] [(0,.row 24 [iS s.Bits,.own 3 0 c3q11.length,.sl c0_Free7.length (fl c0_Free7)]),(1,.row 38 (Enc.cells c1q8)),(2,.row 24 [iS 0,.v (.slice none 0 0),.v (.slice none 0 0)]),(3,.row 38 (fl c3q11))] 18 follows (by kernel_rfl) ?_
   exact hK5175 (false) _ _ _ h (leSt_m [(0,0),(1,1),(2,2),(3,3)] [] (by (try simp only [g5178]) <;> simp only [push_cast,seval]) (by (try simp only [g5178]) <;> simp only [push_cast,seval]) rfl rfl rfl)
 ·rintro t24q12 h
  try dsimp only at h ⊢
  unfold taskmillref_Returned_j2 at h
  refine cond_sx h (by kernel_rfl) (fun g5191 h=>?_) (fun g5191 h=>?_)
  ·refine wk_id ?_
   refine block_np ?_
   refine seq_np ?_
   refine reg_f ?_
   refine rk 1 ?_
   obtain ⟨r5182,hr5182,h⟩:=bind_sx h
   refine run_call 36 [.agg (Enc.cells c1q8)] (some 26) (by kernel_rfl) ?_
   refine call_0 (taskmillref_MateOf_spec c1q8 r5182 hr5182) (by simp only [push_cast,seval]) (by simp only [push_cast,seval]) ?_
   refine back_f ?_
   refine rk 2 ?_
   refine rf [(2,.ptr 0 0),(3,.ptr 1 0),(4,.ptr 2 0),(5,.ptr 4 0)] [(0,.row 24 [iS s.Bits,.own 3 0 c3q11.length,.sl c0_Free7.length (fl c0_Free7)]),(1,.row 38 (Enc.cells c1q8)),(2,.row 24 [iS 0,.v (.slice none 0 0),.v (.slice none 0 0)]),(3,.row 38 (fl c3q11)),(4,.row 38 (Enc.cells r5182))] 5 (by kernel_rfl) ?_
   refine wk_id ?_
   refine seq_np ?_
   refine reg_f ?_
   refine rk 3 ?_
   obtain ⟨r5184,hr5184,h⟩:=bind_sx h
   refine call_x (taskmillref_NoBlock_spec c0_Free7 r5182 r5184 hr5184) (args:=[.sl c0_Free7.length (fl c0_Free7),.agg (Enc.cells r5182)]) (dst:=(some 30)) (by kernel_rfl) [(0,.row 24 [iS s.Bits,.own 3 0 c3q11.length,.sl c0_Free7.length (fl c0_Free7)]),(1,.row 38 (Enc.cells c1q8)),(2,.row 24 [iS 0,.v (.slice none 0 0),.v (.slice none 0 0)]),(3,.row 38 (fl c3q11)),(4,.row 38 (Enc.cells r5182))] 5 (by kernel_rfl) [] [] (.own 5 0 r5184.length) [(5,.row 38 (fl r5184))] (by simp only [push_cast,seval]) (by simp only [push_cast,seval]) (by kernel_rfl) (.inl rfl) (by simp only [push_cast,seval]) (by simp only [push_cast,seval]) ?_
   refine rk 2 ?_
   refine rf [(2,.ptr 0 0),(3,.ptr 1 0),(4,.ptr 2 0),(5,.ptr 4 0)] [(0,.row 24 [iS s.Bits,.own 3 0 c3q11.length,.own 5 0 r5184.length]),(1,.row 38 (Enc.cells c1q8)),(2,.row 24 [iS 0,.v (.slice none 0 0),.v (.slice none 0 0)]),(3,.row 38 (fl c3q11)),(4,.row 38 (Enc.cells r5182)),(5,.row 38 (fl r5184))] 6 (by kernel_rfl) ?_
   refine wk_id ?_
   refine seq_cut (A:=Int×(List GBlock)) (fun a=>([(2,.ptr 0 0),(3,.ptr 1 0),(4,.ptr 2 0)],[(0,.row 24 [iS s.Bits,.own 3 0 c3q11.length,.own 4 0 a.2.length]),(1,.row 38 [iS a.1,iS c1q8.Size]),(2,.row 24 [iS 0,.v (.slice none 0 0),.v (.slice none 0 0)]),(3,.row 38 (fl c3q11)),(4,.row 38 (fl a.2))],5)) (fun a=>(taskmillref_Returned_j1 s c1q8 c3q11 a.1 a.2) = some o2) (fun K5187 hK5187=>?_) ?_
   ·refine seq_np ?_
    refine reg_f ?_
    refine rk 5 ?_
    refine rf [(2,.ptr 0 0),(3,.ptr 1 0),(4,.ptr 2 0),(5,.ptr 4 0),(36,bS (decide (r5182.Start < c1q8.Start)))] [(0,.row 24 [iS s.Bits,.own 3 0 c3q11.length,.own 5 0 r5184.length]),(1,.row 38 (Enc.cells c1q8)),(2,.row 24 [iS 0,.v (.slice none 0 0),.v (.slice none 0 0)]),(3,.row 38 (fl c3q11)),(4,.row 38 (Enc.cells r5182)),(5,.row 38 (fl r5184))] 6 (by kernel_rfl) ?_
    refine wk_id ?_
    refine cond_sx h (by kernel_rfl) (fun g5188 h=>?_) (fun g5188 h=>?_)
    ·refine reg_f ?_
     refine rk 4 ?_
     refine rf [(2,.ptr 0 0),(3,.ptr 1 0),(4,.ptr 2 0)] [(0,.row 24 [iS s.Bits,.own 3 0 c3q11.length,.own 5 0 r5184.length]),(1,.row 38 [iS r5182.Start,iS c1q8.Size]),(2,.row 24 [iS 0,.v (.slice none 0 0),.v (.slice none 0 0)]),(3,.row 38 (fl c3q11)),(4,.row 38 (Enc.cells r5182)),(5,.row 38 (fl r5184))] 6 (by kernel_rfl) ?_
     exact hK5187 (r5182.Start,r5184) _ _ _ h (leSt_m [(0,0),(1,1),(2,2),(3,3),(4,5)] [] (by simp only [push_cast,seval]) (by simp only [push_cast,seval]) rfl rfl rfl)
    ·exact hK5187 (c1q8.Start,r5184) _ _ _ h (leSt_m [(0,0),(1,1),(2,2),(3,3),(4,5)] [] (by simp only [push_cast,seval]) (by simp only [push_cast,seval]) rfl rfl rfl)
   ·rintro ⟨c1_Start11,c4q11⟩ h
    try dsimp only at h ⊢
    unfold taskmillref_Returned_j1 at h
    refine reg_f ?_
    refine rk 5 ?_
    refine rf [(2,.ptr 0 0),(3,.ptr 1 0),(4,.ptr 2 0)] [(0,.row 24 [iS s.Bits,.own 3 0 c3q11.length,.own 4 0 c4q11.length]),(1,.row 38 [iS c1_Start11,iS (IntKind.i64.wrap ((2:Int) * c1q8.Size))]),(2,.row 24 [iS 0,.v (.slice none 0 0),.v (.slice none 0 0)]),(3,.row 38 (fl c3q11)),(4,.row 38 (fl c4q11))] 5 (by kernel_rfl) ?_
    refine wk_id ?_
    exact hn2 (c4q11,(GBlock.mk c1_Start11 (IntKind.i64.wrap ((2:Int) * c1q8.Size))),c3q11) _ _ _ (Option.some.inj h).symm (leSt_m [(0,0),(1,1),(2,2),(3,3)] [4] (by simp only [leS_frz,leS_cut,push_cast,seval]) (by simp only [leS_frz,leS_cut,push_cast,seval]) rfl rfl rfl)
  ·change R2 (.exit 0) _ _ _
   refine ex_cast hx2 (id:=0) ?_
   obtain ⟨r0,h,e0⟩:=map_sx h
   have e1:=hr2 r0 e0.symm
   subst r0
   refine wk_id ?_
   refine wk_id ?_
   refine seq_np ?_
   refine reg_f ?_
   refine rk 3 ?_
   obtain ⟨r5190,hr5190,h⟩:=bind_sx h
   refine call_x (taskmillref_WithBlock_spec c0_Free7 c1q8 r5190 hr5190) (args:=[.sl c0_Free7.length (fl c0_Free7),.agg (Enc.cells c1q8)]) (dst:=(some 47)) (by kernel_rfl) [(0,.row 24 [iS s.Bits,.own 3 0 c3q11.length,.sl c0_Free7.length (fl c0_Free7)]),(1,.row 38 (Enc.cells c1q8)),(2,.row 24 [iS 0,.v (.slice none 0 0),.v (.slice none 0 0)]),(3,.row 38 (fl c3q11))] 4 (by kernel_rfl) [] [] (.own 4 0 r5190.length) [(4,.row 38 (fl r5190))] (by simp only [push_cast,seval]) (by simp only [push_cast,seval]) (by kernel_rfl) (.inl rfl) (by simp only [push_cast,seval]) (by simp only [push_cast,seval]) ?_
   refine rk 2 ?_
   refine rf [(2,.ptr 0 0),(4,.ptr 2 0)] [(0,.row 24 [iS s.Bits,.own 3 0 c3q11.length,.own 4 0 r5190.length]),(1,.row 38 (Enc.cells c1q8)),(2,.row 24 [iS 0,.v (.slice none 0 0),.v (.slice none 0 0)]),(3,.row 38 (fl c3q11)),(4,.row 38 (fl r5190))] 5 (by kernel_rfl) ?_
   refine wk_id ?_
   refine seq_np ?_
   refine reg_f ?_
   refine rk 2 ?_
   refine rf [(4,.ptr 2 0)] [(0,.row 24 [iS s.Bits,.own 3 0 c3q11.length,.own 4 0 r5190.length]),(1,.row 38 (Enc.cells c1q8)),(2,.row 24 [iS s.Bits,.own 3 0 c3q11.length,.own 4 0 r5190.length]),(3,.row 38 (fl c3q11)),(4,.row 38 (fl r5190))] 5 (by kernel_rfl) ?_
   refine wk_id ?_
   obtain rfl:=Option.some.inj h
   refine ret_at (.agg [iS s.Bits,.own 3 0 c3q11.length,.own 4 0 r5190.length]) (by kernel_rfl) ?_
   exact ret_e [(0,3),(1,4)] [] (by simp only [push_cast,seval]) (by simp only [push_cast,seval]) rfl rfl rfl

set_option maxRecDepth 100000 in
set_option maxHeartbeats 200000000 in
theorem taskmilllaw_BuddyGives_spec (s:Space) (start:Int) (r:Bool) (h:taskmilllaw_BuddyGives s start = some r):SpecW Try.prog 4 [.agg (Enc.cells s),iS start] [] 0 (fun x h n=>x = bS r∧h = []∧n = 0):=by
 unfold taskmilllaw_BuddyGives at h
 refine spec_of (draw_ok _) Try.func4 rfl (by decide) rfl (by kernel_rfl) ?_
 refine seq_np ?_
 refine reg_f ?_
 refine rk 2 ?_
 refine rf [(1,iS start),(2,.ptr 0 0)] [(0,.row 24 (Enc.cells s))] 1 (by kernel_rfl) ?_
 refine wk_id ?_
 refine seq_np ?_
 refine seq_np ?_
 refine reg_f ?_
 obtain ⟨r5197,hr5197,h⟩:=bind_sx h
 refine run_call 7 [] (some 10) (by kernel_rfl) ?_
 refine call_0 (taskmilllaw_buddyBegun_spec r5197 hr5197) (by simp only [push_cast,seval]) (by simp only [push_cast,seval]) ?_
 refine back_f ?_
 refine rk 1 ?_
 refine rf [(1,iS start),(2,.ptr 0 0),(11,bS (!r5197))] [(0,.row 24 (Enc.cells s))] 1 (by kernel_rfl) ?_
 refine wk_id ?_
 refine cond_sx h (by kernel_rfl) (fun g5303 h=>?_) (fun g5303 h=>?_)
 ·refine seq_np ?_
  refine reg_f ?_
  refine rk 1 ?_
  refine rf [(4,bS false)] [(0,.row 24 (Enc.cells s))] 1 (by kernel_rfl) ?_
  refine wk_id ?_
  obtain rfl:=Option.some.inj h
  refine ret_at (bS false) (by kernel_rfl) ?_
  exact ret_e [] [] (by simp only [push_cast,seval]) (by simp only [push_cast,seval]) rfl rfl rfl
 ·refine wk_id ?_
  refine seq_np ?_
  refine seq_np ?_
  refine reg_f ?_
  refine rk 1 ?_
  obtain ⟨r5201,hr5201,h⟩:=bind_sx h
  refine run_call 8 [.agg (Enc.cells s)] (some 13) (by kernel_rfl) ?_
  refine call_0 (taskmilllaw_vastSpace_spec s r5201 hr5201) (by simp only [push_cast,seval]) (by simp only [push_cast,seval]) ?_
  refine back_f ?_
  refine rf [(1,iS start),(2,.ptr 0 0),(13,bS r5201)] [(0,.row 24 (Enc.cells s))] 1 (by kernel_rfl) ?_
  refine wk_id ?_
  refine cond_sx h (by kernel_rfl) (fun g5302 h=>?_) (fun g5302 h=>?_)
  ·refine seq_np ?_
   refine reg_f ?_
   refine rk 1 ?_
   refine rf [(4,bS true)] [(0,.row 24 (Enc.cells s))] 1 (by kernel_rfl) ?_
   refine wk_id ?_
   obtain rfl:=Option.some.inj h
   refine ret_at (bS true) (by kernel_rfl) ?_
   exact ret_e [] [] (by simp only [push_cast,seval]) (by simp only [push_cast,seval]) rfl rfl rfl
  ·refine wk_id ?_
   refine seq_np ?_
   refine reg_f ?_
   refine rk 1 ?_
   obtain ⟨r5204,hr5204,h⟩:=bind_sx h
   refine call_x (taskmilllaw_ownSpace_spec s r5204 hr5204) (args:=[.agg (Enc.cells s)]) (dst:=(some 16)) (by kernel_rfl) [(0,.row 24 (Enc.cells s))] 1 (by kernel_rfl) [] [] (.agg [iS r5204.1,.own 1 0 r5204.2.1.length,.own 2 0 r5204.2.2.length]) [(1,.row 38 (fl r5204.2.1)),(2,.row 38 (fl r5204.2.2))] (by simp only [push_cast,seval]) (by simp only [push_cast,seval]) (by kernel_rfl) (.inl rfl) (by simp only [push_cast,seval]) (by simp only [push_cast,seval]) ?_
   refine rk 1 ?_
   obtain ⟨r5205,hr5205,h⟩:=bind_sx h
   refine call_x (buddy_Give_spec (Space.mk r5204.1 r5204.2.1 r5204.2.2) start r5205 hr5205) (args:=[.agg [iS r5204.1,.own 1 0 r5204.2.1.length,.own 2 0 r5204.2.2.length],iS start]) (dst:=(some 18)) (by kernel_rfl) [(0,.row 24 (Enc.cells s)),(1,.row 38 (fl r5204.2.1)),(2,.row 38 (fl r5204.2.2))] 3 (by kernel_rfl) [] [1,2] (.tup [.agg [iS r5205.1,.own 3 0 r5205.2.2.1.length,.own 4 0 r5205.2.2.2.length],.agg (Enc.cells r5205.2.1)]) [(3,.row 38 (fl r5205.2.2.1)),(4,.row 38 (fl r5205.2.2.2))] (by simp only [push_cast,seval]) (by simp only [push_cast,seval]) (by kernel_rfl) (.inr ⟨by simp only [push_cast,seval],by simp only [push_cast,seval]⟩) (by simp only [push_cast,seval]) (by simp only [push_cast,seval]) ?_
   refine rk 7 ?_
   refine rf [(1,iS start),(2,.ptr 0 0),(5,.ptr 5 0),(6,.ptr 6 0)] [(0,.row 24 (Enc.cells s)),(1,.row 38 (fl r5204.2.1)),(2,.row 38 (fl r5204.2.2)),(3,.row 38 (fl r5205.2.2.1)),(4,.row 38 (fl r5205.2.2.2)),(5,.row 24 [iS r5205.1,.own 3 0 r5205.2.2.1.length,.own 4 0 r5205.2.2.2.length]),(6,.row 29 (Enc.cells r5205.2.1))] 7 (by kernel_rfl) ?_
   refine wk_id ?_
   refine seq_np ?_
   refine reg_f ?_
   refine rk 1 ?_
   obtain ⟨r5207,hr5207,h⟩:=bind_sx h
   refine run_call 13 [.agg (Enc.cells s)] (some 22) (by kernel_rfl) ?_
   refine call_0 (taskmillref_SpaceFault_spec s r5207 hr5207) (by simp only [push_cast,seval]) (by simp only [push_cast,seval]) ?_
   refine back_f ?_
   refine rk 2 ?_
   refine rf [(1,iS start),(2,.ptr 0 0),(5,.ptr 5 0),(6,.ptr 6 0),(7,.ptr 7 0)] [(0,.row 24 (Enc.cells s)),(1,.row 38 (fl r5204.2.1)),(2,.row 38 (fl r5204.2.2)),(3,.row 38 (fl r5205.2.2.1)),(4,.row 38 (fl r5205.2.2.2)),(5,.row 24 [iS r5205.1,.own 3 0 r5205.2.2.1.length,.own 4 0 r5205.2.2.2.length]),(6,.row 29 (Enc.cells r5205.2.1)),(7,.row 29 (Enc.cells r5207))] 8 (by kernel_rfl) ?_
   refine wk_id ?_
   refine seq_np ?_
   refine reg_f ?_
   refine rk 1 ?_
   refine rf [(1,iS start),(2,.ptr 0 0),(5,.ptr 5 0),(6,.ptr 6 0),(7,.ptr 7 0),(8,iS (-1))] [(0,.row 24 (Enc.cells s)),(1,.row 38 (fl r5204.2.1)),(2,.row 38 (fl r5204.2.2)),(3,.row 38 (fl r5205.2.2.1)),(4,.row 38 (fl r5205.2.2.2)),(5,.row 24 [iS r5205.1,.own 3 0 r5205.2.2.1.length,.own 4 0 r5205.2.2.2.length]),(6,.row 29 (Enc.cells r5205.2.1)),(7,.row 29 (Enc.cells r5207))] 8 (by kernel_rfl) ?_
   refine wk_id ?_
   refine seq_np ?_
   refine seq_np ?_
   refine reg_f ?_
   refine rk 1 ?_
   refine rf [(1,iS start),(2,.ptr 0 0),(5,.ptr 5 0),(6,.ptr 6 0),(7,.ptr 7 0),(8,iS (-1)),(9,iS 0)] [(0,.row 24 (Enc.cells s)),(1,.row 38 (fl r5204.2.1)),(2,.row 38 (fl r5204.2.2)),(3,.row 38 (fl r5205.2.2.1)),(4,.row 38 (fl r5205.2.2.2)),(5,.row 24 [iS r5205.1,.own 3 0 r5205.2.2.1.length,.own 4 0 r5205.2.2.2.length]),(6,.row 29 (Enc.cells r5205.2.1)),(7,.row 29 (Enc.cells r5207))] 8 (by kernel_rfl) ?_
   refine wk_id ?_
   refine block_np ?_
   refine loop_sx (S:=Int×Int×Int×Fault×Fault×(List GBlock)×(List GBlock)) (fun a=>([(1,iS start),(2,.ptr 0 0),(5,.ptr 1 0),(6,.ptr 2 0),(7,.ptr 3 0),(8,iS a.1),(9,iS a.2.1)],[(0,.row 24 (Enc.cells s)),(1,.row 24 [iS a.2.2.1,.own 4 0 a.2.2.2.2.2.1.length,.own 5 0 a.2.2.2.2.2.2.length]),(2,.row 29 (Enc.cells a.2.2.2.1)),(3,.row 29 (Enc.cells a.2.2.2.2.1)),(4,.row 38 (fl a.2.2.2.2.2.1)),(5,.row 38 (fl a.2.2.2.2.2.2))],6)) h (leSt_m [(0,0),(1,5),(2,6),(3,7),(4,3),(5,4)] [] (by simp only [push_cast,seval]) (by simp only [push_cast,seval]) rfl rfl rfl) ?_
   rintro ⟨k18,i7,c1_Bits11,c2q11,c3q12,c4q11,c5q11⟩ o2 R2 h hr2 hn2 hx2 ht2
   try dsimp only at h hn2 ⊢
   unfold taskmilllaw_BuddyGives_l1 at h
   try dsimp only at h
   refine seq_np ?_
   refine seq_np ?_
   refine reg_f ?_
   refine rk 5 ?_
   refine rf [(1,iS start),(2,.ptr 0 0),(5,.ptr 1 0),(6,.ptr 2 0),(7,.ptr 3 0),(8,iS k18),(9,iS i7),(27,bS (decide (i7 < (s.Used.length:Int))))] [(0,.row 24 (Enc.cells s)),(1,.row 24 [iS c1_Bits11,.own 4 0 c4q11.length,.own 5 0 c5q11.length]),(2,.row 29 (Enc.cells c2q11)),(3,.row 29 (Enc.cells c3q12)),(4,.row 38 (fl c4q11)),(5,.row 38 (fl c5q11))] 6 (by kernel_rfl) ?_
   refine wk_id ?_
   refine cond_sx h (by kernel_rfl) (fun g5301 h=>?_) (fun g5301 h=>?_)
   ·refine wk_id ?_
    refine seq_np ?_
    refine block_cut (A:=Int) (fun a=>([(1,iS start),(2,.ptr 0 0),(5,.ptr 1 0),(6,.ptr 2 0),(7,.ptr 3 0),(8,iS a),(9,iS i7)],[(0,.row 24 (Enc.cells s)),(1,.row 24 [iS c1_Bits11,.own 4 0 c4q11.length,.own 5 0 c5q11.length]),(2,.row 29 (Enc.cells c2q11)),(3,.row 29 (Enc.cells c3q12)),(4,.row 38 (fl c4q11)),(5,.row 38 (fl c5q11))],6)) (fun a=>(taskmilllaw_BuddyGives_j1 s start i7 c1_Bits11 c2q11 c3q12 c4q11 c5q11 a) = some o2) (fun K5269 hK5269=>?_) ?_
    ·refine chk_sx h (fun g5273 h=>?_)
     refine seq_np ?_
     refine reg_f ?_
     have k5272:0≤i7∧i7 < (s.Used.length:Int):=by first | simpa only [Bool.and_eq_true,decide_eq_true_eq,bne_iff_ne,ne_eq] using g5273 | (simp at g5273 ⊢; omega) | simp
     refine rs 8 [none,none,none,some ⟨.iptr (fl s.Used) ((i7).toNat * 2),[],6,[]⟩,none,some ⟨iS (ix s.Used i7).Start,[],6,[]⟩] _ (by kernel_rfl) (allP_cons (ob_ld s.Used i7 2 0 (((i7).toNat * 2)+0) k5272 rfl (by decide) (by first | rfl | omega) (dflS Try.prog 3) (iS (ix s.Used i7).Start) rfl 6 []) (allP_cons (ob_ix_l s.Used 2 6 i7 k5272) allP_nil)) ?_
     refine rf [(1,iS start),(2,.ptr 0 0),(5,.ptr 1 0),(6,.ptr 2 0),(7,.ptr 3 0),(8,iS k18),(9,iS i7),(37,bS ((ix s.Used i7).Start == start))] [(0,.row 24 (Enc.cells s)),(1,.row 24 [iS c1_Bits11,.own 4 0 c4q11.length,.own 5 0 c5q11.length]),(2,.row 29 (Enc.cells c2q11)),(3,.row 29 (Enc.cells c3q12)),(4,.row 38 (fl c4q11)),(5,.row 38 (fl c5q11))] 6 (by kernel_rfl) ?_
     refine wk_id ?_
     refine cond_sx h (by kernel_rfl) (fun g5274 h=>?_) (fun g5274 h=>?_)
     ·refine reg_f ?_
      refine rk 2 ?_
      refine rf [(1,iS start),(2,.ptr 0 0),(5,.ptr 1 0),(6,.ptr 2 0),(7,.ptr 3 0),(8,iS i7),(9,iS i7)] [(0,.row 24 (Enc.cells s)),(1,.row 24 [iS c1_Bits11,.own 4 0 c4q11.length,.own 5 0 c5q11.length]),(2,.row 29 (Enc.cells c2q11)),(3,.row 29 (Enc.cells c3q12)),(4,.row 38 (fl c4q11)),(5,.row 38 (fl c5q11))] 6 (by kernel_rfl) ?_
      exact hK5269 (i7) _ _ _ h (leSt_m [(0,0),(1,1),(2,2),(3,3),(4,4),(5,5)] [] (by simp only [push_cast,seval]) (by simp only [push_cast,seval]) rfl rfl rfl)
     ·exact hK5269 (k18) _ _ _ h (leSt_m [(0,0),(1,1),(2,2),(3,3),(4,4),(5,5)] [] (by simp only [push_cast,seval]) (by simp only [push_cast,seval]) rfl rfl rfl)
    ·rintro k20 h
     try dsimp only at h ⊢
     unfold taskmilllaw_BuddyGives_j1 at h
     refine wk_id ?_
     refine reg_f ?_
     refine rk 3 ?_
     refine rf [(1,iS start),(2,.ptr 0 0),(5,.ptr 1 0),(6,.ptr 2 0),(7,.ptr 3 0),(8,iS k20),(9,iS (IntKind.i64.wrap (i7+1)))] [(0,.row 24 (Enc.cells s)),(1,.row 24 [iS c1_Bits11,.own 4 0 c4q11.length,.own 5 0 c5q11.length]),(2,.row 29 (Enc.cells c2q11)),(3,.row 29 (Enc.cells c3q12)),(4,.row 38 (fl c4q11)),(5,.row 38 (fl c5q11))] 6 (by kernel_rfl) ?_
     exact hn2 (k20,(IntKind.i64.wrap (i7+1)),c1_Bits11,c2q11,c3q12,c4q11,c5q11) _ _ _ (Option.some.inj h).symm (leSt_m [(0,0),(1,1),(2,2),(3,3),(4,4),(5,5)] [] (by simp only [push_cast,seval]) (by simp only [push_cast,seval]) rfl rfl rfl)
   ·change R2 (.exit 0) _ _ _
    refine ex_cast hx2 (id:=0) ?_
    obtain ⟨r0,h,e0⟩:=map_sx h
    have e1:=hr2 r0 e0.symm
    subst r0
    refine wk_id ?_
    refine wk_id ?_
    refine seq_cut (A:=Fault) (fun a=>([(2,.ptr 0 0),(5,.ptr 1 0),(6,.ptr 2 0),(7,.ptr 3 0),(8,iS k18)],[(0,.row 24 (Enc.cells s)),(1,.row 24 [iS c1_Bits11,.own 4 0 c4q11.length,.own 5 0 c5q11.length]),(2,.row 29 (Enc.cells c2q11)),(3,.row 29 (Enc.cells a)),(4,.row 38 (fl c4q11)),(5,.row 38 (fl c5q11))],6)) (fun a=>(taskmilllaw_BuddyGives_j2 s k18 c1_Bits11 c2q11 c4q11 c5q11 a) = some r) (fun K5279 hK5279=>?_) ?_
    ·refine seq_cut (A:=Unit) (fun _=>([(2,.ptr 0 0),(5,.ptr 1 0),(6,.ptr 2 0),(7,.ptr 3 0),(8,iS k18),(45,bS ((c3q12.Code == 0) && (decide (k18 < 0))))],[(0,.row 24 (Enc.cells s)),(1,.row 24 [iS c1_Bits11,.own 4 0 c4q11.length,.own 5 0 c5q11.length]),(2,.row 29 (Enc.cells c2q11)),(3,.row 29 (Enc.cells c3q12)),(4,.row 38 (fl c4q11)),(5,.row 38 (fl c5q11))],6)) (fun _=>True) (fun K5281 hK5281=>?_) (fun _ _=>?_)
     ·refine reg_f ?_
      refine rk 4 ?_
      refine run_split 42 (c3q12.Code == 0) (.inl (by kernel_rfl)) (fun g5282=>?_) (fun g5282=>?_)
      ·refine rk 3 ?_
       refine rf [(2,.ptr 0 0),(5,.ptr 1 0),(6,.ptr 2 0),(7,.ptr 3 0),(8,iS k18),(45,bS (decide (k18 < 0)))] [(0,.row 24 (Enc.cells s)),(1,.row 24 [iS c1_Bits11,.own 4 0 c4q11.length,.own 5 0 c5q11.length]),(2,.row 29 (Enc.cells c2q11)),(3,.row 29 (Enc.cells c3q12)),(4,.row 38 (fl c4q11)),(5,.row 38 (fl c5q11))] 6 (by kernel_rfl) ?_
       exact hK5281 () _ _ _ trivial (leSt_m [(0,0),(1,1),(2,2),(3,3),(4,4),(5,5)] [] (by (try simp only [g5282]) <;> simp only [push_cast,seval]) (by (try simp only [g5282]) <;> simp only [push_cast,seval]) rfl rfl rfl)
      ·refine rk 3 ?_
       refine rf [(2,.ptr 0 0),(5,.ptr 1 0),(6,.ptr 2 0),(7,.ptr 3 0),(8,iS k18),(45,bS false)] [(0,.row 24 (Enc.cells s)),(1,.row 24 [iS c1_Bits11,.own 4 0 c4q11.length,.own 5 0 c5q11.length]),(2,.row 29 (Enc.cells c2q11)),(3,.row 29 (Enc.cells c3q12)),(4,.row 38 (fl c4q11)),(5,.row 38 (fl c5q11))] 6 (by kernel_rfl) ?_
       exact hK5281 () _ _ _ trivial (leSt_m [(0,0),(1,1),(2,2),(3,3),(4,4),(5,5)] [] (by (try simp only [g5282]) <;> simp only [push_cast,seval]) (by (try simp only [g5282]) <;> simp only [push_cast,seval]) rfl rfl rfl)
     ·dsimp only
      refine cond_sx h (by kernel_rfl) (fun g5285 h=>?_) (fun g5285 h=>?_)
      ·refine reg_f ?_
       obtain ⟨r5284,hr5284,h⟩:=bind_sx h
       refine run_call 15 [iS 6,iS 0] (some 46) (by kernel_rfl) ?_
       refine call_0 (taskmillref_F_spec 6 0 r5284 hr5284) (by simp only [push_cast,seval]) (by simp only [push_cast,seval]) ?_
       refine back_f ?_
       refine rk 1 ?_
       refine rf [(2,.ptr 0 0),(5,.ptr 1 0),(6,.ptr 2 0),(7,.ptr 3 0),(8,iS k18)] [(0,.row 24 (Enc.cells s)),(1,.row 24 [iS c1_Bits11,.own 4 0 c4q11.length,.own 5 0 c5q11.length]),(2,.row 29 (Enc.cells c2q11)),(3,.row 29 (Enc.cells r5284)),(4,.row 38 (fl c4q11)),(5,.row 38 (fl c5q11))] 6 (by kernel_rfl) ?_
       exact hK5279 (r5284) _ _ _ h (leSt_m [(0,0),(1,1),(2,2),(3,3),(4,4),(5,5)] [] (by simp only [push_cast,seval]) (by simp only [push_cast,seval]) rfl rfl rfl)
      ·exact hK5279 (c3q12) _ _ _ h (leSt_m [(0,0),(1,1),(2,2),(3,3),(4,4),(5,5)] [] (by simp only [push_cast,seval]) (by simp only [push_cast,seval]) rfl rfl rfl)
    ·rintro c3q13 h
     try dsimp only at h ⊢
     unfold taskmilllaw_BuddyGives_j2 at h
     refine seq_np ?_
     refine seq_np ?_
     refine reg_f ?_
     refine rk 3 ?_
     refine rf [(2,.ptr 0 0),(5,.ptr 1 0),(7,.ptr 3 0),(8,iS k18),(49,bS (!((c2q11.Code == c3q13.Code) && ((c2q11.At == c3q13.At) && true))))] [(0,.row 24 (Enc.cells s)),(1,.row 24 [iS c1_Bits11,.own 4 0 c4q11.length,.own 5 0 c5q11.length]),(2,.row 29 (Enc.cells c2q11)),(3,.row 29 (Enc.cells c3q13)),(4,.row 38 (fl c4q11)),(5,.row 38 (fl c5q11))] 6 (by kernel_rfl) ?_
     refine wk_id ?_
     refine cond_sx h (by kernel_rfl) (fun g5300 h=>?_) (fun g5300 h=>?_)
     ·refine seq_np ?_
      refine reg_f ?_
      refine rk 1 ?_
      refine rf [(4,bS false)] [(0,.row 24 (Enc.cells s)),(1,.row 24 [iS c1_Bits11,.own 4 0 c4q11.length,.own 5 0 c5q11.length]),(2,.row 29 (Enc.cells c2q11)),(3,.row 29 (Enc.cells c3q13)),(4,.row 38 (fl c4q11)),(5,.row 38 (fl c5q11))] 6 (by kernel_rfl) ?_
      refine wk_id ?_
      obtain rfl:=Option.some.inj h
      refine ret_at (bS false) (by kernel_rfl) ?_
      exact ret_e [] [] (by simp only [push_cast,seval]) (by simp only [push_cast,seval]) rfl rfl rfl
     ·refine wk_id ?_
      refine seq_np ?_
      refine seq_np ?_
      refine reg_f ?_
      refine rk 3 ?_
      refine rf [(2,.ptr 0 0),(5,.ptr 1 0),(8,iS k18),(52,bS (c3q13.Code != 0))] [(0,.row 24 (Enc.cells s)),(1,.row 24 [iS c1_Bits11,.own 4 0 c4q11.length,.own 5 0 c5q11.length]),(2,.row 29 (Enc.cells c2q11)),(3,.row 29 (Enc.cells c3q13)),(4,.row 38 (fl c4q11)),(5,.row 38 (fl c5q11))] 6 (by kernel_rfl) ?_
      refine wk_id ?_
      refine cond_sx h (by kernel_rfl) (fun g5299 h=>?_) (fun g5299 h=>?_)
      ·refine seq_np ?_
       refine reg_f ?_
       refine rk 2 ?_
       obtain ⟨r5290,hr5290,h⟩:=bind_sx h
       refine call_x (taskmillref_SameSpace_spec (Space.mk c1_Bits11 c4q11 c5q11) (Space.mk 0 [] []) r5290 hr5290) (args:=[.agg [iS c1_Bits11,.own 4 0 c4q11.length,.own 5 0 c5q11.length],.agg [iS 0,.v (.slice none 0 0),.v (.slice none 0 0)]]) (dst:=(some 55)) (by kernel_rfl) [(0,.row 24 (Enc.cells s)),(1,.row 24 [iS c1_Bits11,.own 4 0 c4q11.length,.own 5 0 c5q11.length]),(2,.row 29 (Enc.cells c2q11)),(3,.row 29 (Enc.cells c3q13)),(4,.row 38 (fl c4q11)),(5,.row 38 (fl c5q11))] 6 (by kernel_rfl) [] [4,5] (bS r5290) [] (by simp only [push_cast,seval]) (by simp only [push_cast,seval]) (by kernel_rfl) (.inr ⟨by simp only [push_cast,seval],by simp only [push_cast,seval]⟩) (by simp only [push_cast,seval]) (by simp only [push_cast,seval]) ?_
       refine rk 1 ?_
       refine rf [(4,bS r5290)] [(0,.row 24 (Enc.cells s)),(1,.row 24 [iS c1_Bits11,.own 4 0 c4q11.length,.own 5 0 c5q11.length]),(2,.row 29 (Enc.cells c2q11)),(3,.row 29 (Enc.cells c3q13)),(4,.row 38 (fl c4q11)),(5,.row 38 (fl c5q11))] 6 (by kernel_rfl) ?_
       refine wk_id ?_
       obtain rfl:=Option.some.inj h
       refine ret_at (bS r5290) (by kernel_rfl) ?_
       exact ret_e [] [] (by simp only [push_cast,seval]) (by simp only [push_cast,seval]) rfl rfl rfl
      ·refine wk_id ?_
       refine chk_sx h (fun g5296 h=>?_)
       refine seq_np ?_
       refine reg_t ?_
       have k5295:0≤k18∧k18 < (s.Used.length:Int):=by first | simpa only [Bool.and_eq_true,decide_eq_true_eq,bne_iff_ne,ne_eq] using g5296 | (simp at g5296 ⊢; omega) | simp
       refine rs 7 [none,none,none,none,none,some ⟨.iptr (fl s.Used) ((k18).toNat * 2),[],11,[]⟩,some ⟨.agg (Enc.cells (ix s.Used k18)),[],12,[]⟩] _ (by kernel_rfl) (allP_cons (ob_ldw s.Used k18 2 ((k18).toNat * 2) k5295 rfl (by first | rfl | omega) (Enc.cells (ix s.Used k18)) rfl 12 []) (allP_cons (ob_ix_l s.Used 2 11 k18 k5295) allP_nil)) ?_
       obtain ⟨r5297,hr5297,h⟩:=bind_sx h
       refine call_x (taskmillref_Returned_spec s (ix s.Used k18) r5297 hr5297) (args:=[.agg (Enc.cells s),.agg (Enc.cells (ix s.Used k18))]) (dst:=(some 63)) (by kernel_rfl) [(0,.row 24 (Enc.cells s)),(1,.row 24 [iS c1_Bits11,.own 4 0 c4q11.length,.own 5 0 c5q11.length]),(2,.row 29 (Enc.cells c2q11)),(3,.row 29 (Enc.cells c3q13)),(4,.row 38 (fl c4q11)),(5,.row 38 (fl c5q11))] 13 (by kernel_rfl) [] [] (.agg [iS r5297.1,.own 13 0 r5297.2.1.length,.own 14 0 r5297.2.2.length]) [(13,.row 38 (fl r5297.2.1)),(14,.row 38 (fl r5297.2.2))] (by simp only [push_cast,seval]) (by simp only [push_cast,seval]) (by kernel_rfl) (.inl rfl) (by simp only [push_cast,seval]) (by simp only [push_cast,seval]) ?_
       obtain ⟨r5298,hr5298,h⟩:=bind_sx h
       refine call_x (taskmillref_SameSpace_spec (Space.mk c1_Bits11 c4q11 c5q11) (Space.mk r5297.1 r5297.2.1 r5297.2.2) r5298 hr5298) (args:=[.agg [iS c1_Bits11,.own 4 0 c4q11.length,.own 5 0 c5q11.length],.agg [iS r5297.1,.own 13 0 r5297.2.1.length,.own 14 0 r5297.2.2.length]]) (dst:=(some 64)) (by kernel_rfl) [(0,.row 24 (Enc.cells s)),(1,.row 24 [iS c1_Bits11,.own 4 0 c4q11.length,.own 5 0 c5q11.length]),(2,.row 29 (Enc.cells c2q11)),(3,.row 29 (Enc.cells c3q13)),(4,.row 38 (fl c4q11)),(5,.row 38 (fl c5q11)),(13,.row 38 (fl r5297.2.1)),(14,.row 38 (fl r5297.2.2))] 16 (by kernel_rfl) [] [4,5,13,14] (bS r5298) [] (by simp only [push_cast,seval]) (by simp only [push_cast,seval]) (by kernel_rfl) (.inr ⟨by simp only [push_cast,seval],by simp only [push_cast,seval]⟩) (by simp only [push_cast,seval]) (by simp only [push_cast,seval]) ?_
       refine rk 1 ?_
       refine rt [(4,bS r5298)] [(0,.row 24 (Enc.cells s)),(1,.row 24 [iS c1_Bits11,.own 4 0 c4q11.length,.own 5 0 c5q11.length]),(2,.row 29 (Enc.cells c2q11)),(3,.row 29 (Enc.cells c3q13)),(4,.row 38 (fl c4q11)),(5,.row 38 (fl c5q11)),(13,.row 38 (fl r5297.2.1)),(14,.row 38 (fl r5297.2.2))] 18 follows (by kernel_rfl) ?_
       refine wk_id ?_
       obtain rfl:=Option.some.inj h
       refine ret_at (bS r5298) (by kernel_rfl) ?_
       exact ret_e [] [] (by simp only [push_cast,seval]) (by simp only [push_cast,seval]) rfl rfl rfl

end Go.Proofs.Ytpeaimfdeonpgaa
