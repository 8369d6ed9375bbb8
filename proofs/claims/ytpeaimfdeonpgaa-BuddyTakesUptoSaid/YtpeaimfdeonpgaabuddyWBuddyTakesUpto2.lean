/-
 What laws of the chapter buddy compute, and lemmas on it.
 No conditions.
-/
import Derived.Test.YtpeaimfdeonpgaabuddyWBuddyTakesUpto1
set_option linter.unusedSimpArgs false
set_option linter.unusedVariables false
set_option linter.unusedSectionVars false
namespace Go.Proofs.Ytpeaimfdeonpgaa
open Go Go.Sx
attribute [local irreducible] Wk RunAt
attribute [local bitvec_to_nat] leL_flD renL_flD leL_flP renL_flP leC_famP leC_famP0 flP_0 ren_famP noN_eq lenP_same lenP_one lenP_app lenP_set lenP_famP Nat.le_refl List.length_set leC_mpP leC_mpP1 mapLe_eq mapLe1_eq ren_mpP ren_mpP1
set_option maxRecDepth 100000 in
set_option maxHeartbeats 200000000 in
theorem taskmillref_SameSpace_spec (xa:Space) (b:Space) (r:Bool) (h:taskmillref_SameSpace xa b = some r):SpecW Try.prog 14 [.agg (Enc.cells xa),.agg (Enc.cells b)] [] 0 (fun x h n=>x = bS r∧h = []∧n = 0):=by
 unfold taskmillref_SameSpace at h
 refine spec_of (draw_ok _) Try.func14 rfl (by decide) rfl (by kernel_rfl) ?_
 refine seq_np ?_
 refine reg_f ?_
 refine rk 3 ?_
 refine rf [(2,.ptr 0 0),(3,.ptr 1 0)] [(0,.row 24 (Enc.cells xa)),(1,.row 24 (Enc.cells b))] 2 (by kernel_rfl) ?_
 refine wk_id ?_
 refine seq_cut (A:=Bool) (fun a=>([(4,bS a)],[],0)) (fun a=>(taskmillref_SameSpace_j1 a) = some r) (fun K3611 hK3611=>?_) ?_
 ·refine reg_f ?_
  refine rk 6 ?_
  refine run_br h 10 (.inl (by kernel_rfl)) (fun g3612 h=>?_) (fun g3612 h=>?_)
  ·refine rk 4 ?_
   obtain ⟨r3613,hr3613,h⟩:=bind_sx h
   refine run_call 19 [.sl xa.Used.length (fl xa.Used),.sl b.Used.length (fl b.Used)] (some 15) (by kernel_rfl) ?_
   refine call_0 (taskmillref_SameBlocks_spec xa.Used b.Used r3613 hr3613) (by simp only [push_cast,seval]) (by simp only [push_cast,seval]) ?_
   refine back_f ?_
   refine rk 2 ?_
   refine run_br h 17 (.inl (by kernel_rfl)) (fun g3614 h=>?_) (fun g3614 h=>?_)
   ·refine rn 13 [(2,.ptr 0 0),(3,.ptr 1 0),(17,bS true)] [(0,.row 24 (Enc.cells xa)),(1,.row 24 (Enc.cells b))] 2 (by kernel_rfl) ?_
    refine rk 4 ?_
    obtain ⟨r3615,hr3615,h⟩:=bind_sx h
    refine run_call 19 [.sl xa.Free.length (fl xa.Free),.sl b.Free.length (fl b.Free)] (some 22) (by kernel_rfl) ?_
    refine call_0 (taskmillref_SameBlocks_spec xa.Free b.Free r3615 hr3615) (by simp only [push_cast,seval]) (by simp only [push_cast,seval]) ?_
    refine back_f ?_
    refine rk 2 ?_
    refine rf [(4,bS r3615)] [(0,.row 24 (Enc.cells xa)),(1,.row 24 (Enc.cells b))] 2 (by kernel_rfl) ?_
    exact hK3611 (r3615) _ _ _ h (leSt_m [] [] (by first | ((try simp only [g3612,g3614]) <;> simp only [push_cast,seval]; done) | ((try simp only [g3612]); (try simp only [g3614]); simp only [push_cast,seval]; done) | (exfalso; clear h; simp_all; done)) (by first | ((try simp only [g3612,g3614]) <;> simp only [push_cast,seval]; done) | ((try simp only [g3612]); (try simp only [g3614]); simp only [push_cast,seval]; done) | (exfalso; clear h; simp_all; done)) rfl rfl rfl)
   ·refine rn 13 [(2,.ptr 0 0),(3,.ptr 1 0),(17,bS false)] [(0,.row 24 (Enc.cells xa)),(1,.row 24 (Enc.cells b))] 2 (by kernel_rfl) ?_
    refine rk 7 ?_
    refine rf [(4,bS false)] [(0,.row 24 (Enc.cells xa)),(1,.row 24 (Enc.cells b))] 2 (by kernel_rfl) ?_
    exact hK3611 (false) _ _ _ h (leSt_m [] [] (by first | ((try simp only [g3612,g3614]) <;> simp only [push_cast,seval]; done) | ((try simp only [g3612]); (try simp only [g3614]); simp only [push_cast,seval]; done) | (exfalso; clear h; simp_all; done)) (by first | ((try simp only [g3612,g3614]) <;> simp only [push_cast,seval]; done) | ((try simp only [g3612]); (try simp only [g3614]); simp only [push_cast,seval]; done) | (exfalso; clear h; simp_all; done)) rfl rfl rfl)
  ·refine rk 14 ?_
   refine rf [(4,bS false)] [(0,.row 24 (Enc.cells xa)),(1,.row 24 (Enc.cells b))] 2 (by kernel_rfl) ?_
   exact hK3611 (false) _ _ _ h (leSt_m [] [] (by (try simp only [g3612]) <;> simp only [push_cast,seval]) (by (try simp only [g3612]) <;> simp only [push_cast,seval]) rfl rfl rfl)
 ·rintro t4q1 h
  try dsimp only at h ⊢
  unfold taskmillref_SameSpace_j1 at h
  obtain rfl:=Option.some.inj h
  refine ret_at (bS t4q1) (by kernel_rfl) ?_
  exact ret_e [] [] (by simp only [push_cast,seval]) (by simp only [push_cast,seval]) rfl rfl rfl

set_option maxRecDepth 100000 in
set_option maxHeartbeats 200000000 in
theorem taskmillref_NoBlock_spec (l:(List GBlock)) (b:GBlock) (r:(List GBlock)) (h:taskmillref_NoBlock l b = some r):SpecW Try.prog 37 [.sl l.length (fl l),.agg (Enc.cells b)] [] 0 (fun x h n=>x = .own 0 0 r.length∧h = [(0,.row 38 (fl r))]∧n = 1):=by
 unfold taskmillref_NoBlock at h
 refine spec_of (draw_ok _) Try.func37 rfl (by decide) rfl (by kernel_rfl) ?_
 refine seq_np ?_
 refine reg_f ?_
 refine rk 2 ?_
 refine rf [(0,.sl l.length (fl l)),(3,.ptr 0 0)] [(0,.row 38 (Enc.cells b))] 1 (by kernel_rfl) ?_
 refine wk_id ?_
 refine seq_np ?_
 refine reg_f ?_
 refine rk 1 ?_
 refine rf [(0,.sl l.length (fl l)),(3,.ptr 0 0),(5,.v (.slice none 0 0))] [(0,.row 38 (Enc.cells b))] 1 (by kernel_rfl) ?_
 refine wk_id ?_
 refine seq_np ?_
 refine seq_np ?_
 refine reg_f ?_
 refine rk 1 ?_
 refine rf [(0,.sl l.length (fl l)),(3,.ptr 0 0),(5,.v (.slice none 0 0)),(6,iS 0)] [(0,.row 38 (Enc.cells b))] 1 (by kernel_rfl) ?_
 refine wk_id ?_
 refine block_np ?_
 refine loop_sx (S:=Int×(List GBlock)) (fun a=>([(0,.sl l.length (fl l)),(3,.ptr 0 0),(5,.own 1 0 a.2.length),(6,iS a.1)],[(0,.row 38 (Enc.cells b)),(1,.row 38 (fl a.2))],2)) h (leSt_m [(0,0)] [] (by simp only [push_cast,seval]) (by simp only [push_cast,seval]) rfl rfl rfl) ?_
 rintro ⟨i7,c1q18⟩ o2 R2 h hr2 hn2 hx2 ht2
 try dsimp only at h hn2 ⊢
 unfold taskmillref_NoBlock_l1 at h
 try dsimp only at h
 refine seq_np ?_
 refine seq_np ?_
 refine reg_f ?_
 refine rk 4 ?_
 refine rf [(0,.sl l.length (fl l)),(3,.ptr 0 0),(5,.own 1 0 c1q18.length),(6,iS i7),(10,bS (decide (i7 < (l.length:Int))))] [(0,.row 38 (Enc.cells b)),(1,.row 38 (fl c1q18))] 2 (by kernel_rfl) ?_
 refine wk_id ?_
 refine cond_sx h (by kernel_rfl) (fun g3797 h=>?_) (fun g3797 h=>?_)
 ·refine wk_id ?_
  refine seq_np ?_
  refine block_cut (A:=(List GBlock)) (fun a=>([(0,.sl l.length (fl l)),(3,.ptr 0 0),(5,.own 1 0 a.length),(6,iS i7)],[(0,.row 38 (Enc.cells b)),(1,.row 38 (fl a))],2)) (fun a=>(taskmillref_NoBlock_j1 l b i7 a) = some o2) (fun K3783 hK3783=>?_) ?_
  ·refine chk_sx h (fun g3787 h=>?_)
   refine seq_np ?_
   refine reg_t ?_
   have k3786:0≤i7∧i7 < (l.length:Int):=by first | simpa only [Bool.and_eq_true,decide_eq_true_eq,bne_iff_ne,ne_eq] using g3787 | (simp at g3787 ⊢; omega) | simp
   refine rs 6 [none,none,some ⟨.iptr (fl l) ((i7).toNat * 2),[],4,[]⟩,some ⟨.agg (Enc.cells (ix l i7)),[],5,[]⟩] _ (by kernel_rfl) (allP_cons (ob_ldw l i7 2 ((i7).toNat * 2) k3786 rfl (by first | rfl | omega) (Enc.cells (ix l i7)) rfl 5 []) (allP_cons (ob_ix_l l 2 4 i7 k3786) allP_nil)) ?_
   refine rt [(0,.sl l.length (fl l)),(3,.ptr 0 0),(5,.own 1 0 c1q18.length),(6,iS i7),(18,bS (!(((ix l i7).Start == b.Start) && (((ix l i7).Size == b.Size) && true))))] [(0,.row 38 (Enc.cells b)),(1,.row 38 (fl c1q18))] 8 follows (by kernel_rfl) ?_
   refine wk_id ?_
   refine cond_sx h (by kernel_rfl) (fun g3796 h=>?_) (fun g3796 h=>?_)
   ·refine chk_sx h (fun g3793 h=>?_)
    refine chk_sx h (fun g3795 h=>?_)
    refine reg_f ?_
    have k3792:0≤i7∧i7 < (l.length:Int):=by first | simpa only [Bool.and_eq_true,decide_eq_true_eq,bne_iff_ne,ne_eq] using g3793 | (simp at g3793 ⊢; omega) | simp
    have k3794:(c1q18++([(ix l i7)]:List GBlock)).length * 16≤140737488355328:=by first | simpa only [Bool.and_eq_true,decide_eq_true_eq,bne_iff_ne,ne_eq] using g3795 | (simp at g3795 ⊢; omega) | simp
    refine rs 8 [none,none,none,some ⟨.iptr (fl l) ((i7).toNat * 2),[],8,[]⟩,some ⟨.agg (Enc.cells (ix l i7)),[],8,[]⟩,none,some ⟨.own 9 0 (c1q18++([(ix l i7)]:List GBlock)).length,[(9,.row 38 (fl (c1q18++([(ix l i7)]:List GBlock)))),(1,.dead)],10,[1,8]⟩] _ (by kernel_rfl) (allP_cons (ob_app (P:=Try.prog) c1q18 ([(ix l i7)]:List GBlock) 2 16 rfl (appCells (fl ([(ix l i7)]:List GBlock)) 0 (([(ix l i7)]:List GBlock).length * 2)) ([(ix l i7)]:List GBlock).length (app_own ([(ix l i7)]:List GBlock) 2 rfl) rfl (0+([(ix l i7)]:List GBlock).length * 2≤(fl ([(ix l i7)]:List GBlock)).length) (app_own_le ([(ix l i7)]:List GBlock) 2 rfl) 38 (by kernel_rfl) (by decide) k3794 1 9 [8]) (allP_cons (ob_ldw l i7 2 ((i7).toNat * 2) k3792 rfl (by first | rfl | omega) (Enc.cells (ix l i7)) rfl 8 []) (allP_cons (ob_ix_l l 2 8 i7 k3792) allP_nil))) ?_
    refine rf [(0,.sl l.length (fl l)),(3,.ptr 0 0),(5,.own 9 0 (c1q18++([(ix l i7)]:List GBlock)).length),(6,iS i7)] [(0,.row 38 (Enc.cells b)),(1,.dead),(8,.row 38 (fl ([(ix l i7)]:List GBlock))),(9,.row 38 (fl (c1q18++([(ix l i7)]:List GBlock))))] 10 (by kernel_rfl) ?_
    exact hK3783 ((c1q18++([(ix l i7)]:List GBlock))) _ _ _ h (leSt_m [(0,0),(1,9)] [] (by simp only [push_cast,seval]) (by simp only [push_cast,seval]) rfl rfl rfl)
   ·exact hK3783 (c1q18) _ _ _ h (leSt_m [(0,0),(1,1)] [] (by simp only [push_cast,seval]) (by simp only [push_cast,seval]) rfl rfl rfl)
  ·rintro c1q20 h
   try dsimp only at h ⊢
   unfold taskmillref_NoBlock_j1 at h
   refine wk_id ?_
   refine reg_f ?_
   refine rk 3 ?_
   refine rf [(0,.sl l.length (fl l)),(3,.ptr 0 0),(5,.own 1 0 c1q20.length),(6,iS (IntKind.i64.wrap (i7+1)))] [(0,.row 38 (Enc.cells b)),(1,.row 38 (fl c1q20))] 2 (by kernel_rfl) ?_
   exact hn2 ((IntKind.i64.wrap (i7+1)),c1q20) _ _ _ (Option.some.inj h).symm (leSt_m [(0,0),(1,1)] [] (by simp only [push_cast,seval]) (by simp only [push_cast,seval]) rfl rfl rfl)
 ·change R2 (.exit 0) _ _ _
  refine ex_cast hx2 (id:=0) ?_
  obtain ⟨r0,h,e0⟩:=map_sx h
  have e1:=hr2 r0 e0.symm
  subst r0
  refine wk_id ?_
  refine wk_id ?_
  refine seq_np ?_
  refine reg_f ?_
  refine rk 2 ?_
  refine rf [(4,.own 1 0 c1q18.length)] [(0,.row 38 (Enc.cells b)),(1,.row 38 (fl c1q18))] 2 (by kernel_rfl) ?_
  refine wk_id ?_
  obtain rfl:=Option.some.inj h
  refine ret_at (.own 1 0 c1q18.length) (by kernel_rfl) ?_
  exact ret_e [(0,1)] [] (by simp only [push_cast,seval]) (by simp only [push_cast,seval]) rfl rfl rfl

set_option maxRecDepth 100000 in
set_option maxHeartbeats 200000000 in
theorem taskmillref_WithBlock_spec (l:(List GBlock)) (b:GBlock) (r:(List GBlock)) (h:taskmillref_WithBlock l b = some r):SpecW Try.prog 38 [.sl l.length (fl l),.agg (Enc.cells b)] [] 0 (fun x h n=>x = .own 0 0 r.length∧h = [(0,.row 38 (fl r))]∧n = 1):=by
 unfold taskmillref_WithBlock at h
 refine spec_of (draw_ok _) Try.func38 rfl (by decide) rfl (by kernel_rfl) ?_
 refine seq_np ?_
 refine reg_f ?_
 refine rk 2 ?_
 refine rf [(0,.sl l.length (fl l)),(3,.ptr 0 0)] [(0,.row 38 (Enc.cells b))] 1 (by kernel_rfl) ?_
 refine wk_id ?_
 refine seq_np ?_
 refine reg_f ?_
 refine rk 1 ?_
 refine rf [(0,.sl l.length (fl l)),(3,.ptr 0 0),(5,.v (.slice none 0 0))] [(0,.row 38 (Enc.cells b))] 1 (by kernel_rfl) ?_
 refine wk_id ?_
 refine seq_np ?_
 refine reg_f ?_
 refine rk 1 ?_
 refine rf [(0,.sl l.length (fl l)),(3,.ptr 0 0),(5,.v (.slice none 0 0)),(6,bS false)] [(0,.row 38 (Enc.cells b))] 1 (by kernel_rfl) ?_
 refine wk_id ?_
 refine seq_np ?_
 refine seq_np ?_
 refine reg_f ?_
 refine rk 1 ?_
 refine rf [(0,.sl l.length (fl l)),(3,.ptr 0 0),(5,.v (.slice none 0 0)),(6,bS false),(7,iS 0)] [(0,.row 38 (Enc.cells b))] 1 (by kernel_rfl) ?_
 refine wk_id ?_
 refine block_np ?_
 refine loop_sx (S:=Bool×Int×(List GBlock)) (fun a=>([(0,.sl l.length (fl l)),(3,.ptr 0 0),(5,.own 1 0 a.2.2.length),(6,bS a.1),(7,iS a.2.1)],[(0,.row 38 (Enc.cells b)),(1,.row 38 (fl a.2.2))],2)) h (leSt_m [(0,0)] [] (by simp only [push_cast,seval]) (by simp only [push_cast,seval]) rfl rfl rfl) ?_
 rintro ⟨put18,i7,c1q18⟩ o2 R2 h hr2 hn2 hx2 ht2
 try dsimp only at h hn2 ⊢
 unfold taskmillref_WithBlock_l1 at h
 try dsimp only at h
 refine seq_np ?_
 refine seq_np ?_
 refine reg_f ?_
 refine rk 4 ?_
 refine rf [(0,.sl l.length (fl l)),(3,.ptr 0 0),(5,.own 1 0 c1q18.length),(6,bS put18),(7,iS i7),(11,bS (decide (i7 < (l.length:Int))))] [(0,.row 38 (Enc.cells b)),(1,.row 38 (fl c1q18))] 2 (by kernel_rfl) ?_
 refine wk_id ?_
 refine cond_sx h (by kernel_rfl) (fun g4011 h=>?_) (fun g4011 h=>?_)
 ·refine wk_id ?_
  refine seq_np ?_
  refine block_np ?_
  refine seq_cut (A:=Bool×(List GBlock)) (fun a=>([(0,.sl l.length (fl l)),(3,.ptr 0 0),(5,.own 1 0 a.2.length),(6,bS a.1),(7,iS i7)],[(0,.row 38 (Enc.cells b)),(1,.row 38 (fl a.2))],2)) (fun a=>(taskmillref_WithBlock_j1 l b i7 a.1 a.2) = some o2) (fun K3980 hK3980=>?_) ?_
  ·refine chk_sx h (fun g3987 h=>?_)
   refine seq_cut (A:=Unit) (fun _=>([(0,.sl l.length (fl l)),(3,.ptr 0 0),(5,.own 1 0 c1q18.length),(6,bS put18),(7,iS i7),(25,bS ((!put18) && (decide (b.Start < (ix l i7).Start))))],[(0,.row 38 (Enc.cells b)),(1,.row 38 (fl c1q18))],14)) (fun _=>True) (fun K3984 hK3984=>?_) (fun _ _=>?_)
   ·refine reg_t ?_
    refine rk 3 ?_
    refine run_split 16 (!put18) (.inl (by kernel_rfl)) (fun g3985=>?_) (fun g3985=>?_)
    ·have k3986:0≤i7∧i7 < (l.length:Int):=by have e:=or_use g3987 (by first | ((try simp only [g3985]) <;> rfl) | ((try simp only [g3985]); rfl) | (exfalso; clear h; simp_all; done)); first | simpa only [Bool.and_eq_true,decide_eq_true_eq,bne_iff_ne,ne_eq] using e | (simp at e ⊢; omega)
     refine rs 9 [none,none,some ⟨.iptr (fl l) ((i7).toNat * 2),[],7,[]⟩,none,some ⟨iS (ix l i7).Start,[],9,[]⟩] _ (by kernel_rfl) (allP_cons (ob_ld l i7 2 0 (((i7).toNat * 2)+0) k3986 rfl (by decide) (by first | rfl | omega) (dflS Try.prog 3) (iS (ix l i7).Start) rfl 9 []) (allP_cons (ob_ix_l l 2 7 i7 k3986) allP_nil)) ?_
     refine rt [(0,.sl l.length (fl l)),(3,.ptr 0 0),(5,.own 1 0 c1q18.length),(6,bS put18),(7,iS i7),(25,bS (decide (b.Start < (ix l i7).Start)))] [(0,.row 38 (Enc.cells b)),(1,.row 38 (fl c1q18))] 14 follows (by kernel_rfl) ?_
     exact hK3984 () _ _ _ trivial (leSt_m [(0,0),(1,1)] [] (by (try simp only [g3985]) <;> simp only [push_cast,seval]) (by (try simp only [g3985]) <;> simp only [push_cast,seval]) rfl rfl rfl)
    ·refine rk 9 ?_
     refine rt [(0,.sl l.length (fl l)),(3,.ptr 0 0),(5,.own 1 0 c1q18.length),(6,bS put18),(7,iS i7),(25,bS false)] [(0,.row 38 (Enc.cells b)),(1,.row 38 (fl c1q18))] 14 follows (by kernel_rfl) ?_
     exact hK3984 () _ _ _ trivial (leSt_m [(0,0),(1,1)] [] (by (try simp only [g3985]) <;> simp only [push_cast,seval]) (by (try simp only [g3985]) <;> simp only [push_cast,seval]) rfl rfl rfl)
   ·dsimp only
    refine cond_sx h (by kernel_rfl) (fun g3992 h=>?_) (fun g3992 h=>?_)
    ·refine chk_sx h (fun g3991 h=>?_)
     refine seq_np ?_
     refine reg_f ?_
     have k3990:(c1q18++([b]:List GBlock)).length * 16≤140737488355328:=by first | simpa only [Bool.and_eq_true,decide_eq_true_eq,bne_iff_ne,ne_eq] using g3991 | (simp at g3991 ⊢; omega) | simp
     refine rs 5 [none,none,none,some ⟨.own 15 0 (c1q18++([b]:List GBlock)).length,[(15,.row 38 (fl (c1q18++([b]:List GBlock)))),(1,.dead)],16,[1,14]⟩] _ (by kernel_rfl) (allP_cons (ob_app (P:=Try.prog) c1q18 ([b]:List GBlock) 2 16 rfl (appCells (fl ([b]:List GBlock)) 0 (([b]:List GBlock).length * 2)) ([b]:List GBlock).length (app_own ([b]:List GBlock) 2 rfl) rfl (0+([b]:List GBlock).length * 2≤(fl ([b]:List GBlock)).length) (app_own_le ([b]:List GBlock) 2 rfl) 38 (by kernel_rfl) (by decide) k3990 1 15 [14]) allP_nil) ?_
     refine rf [(0,.sl l.length (fl l)),(3,.ptr 0 0),(5,.own 15 0 (c1q18++([b]:List GBlock)).length),(7,iS i7)] [(0,.row 38 (Enc.cells b)),(1,.dead),(14,.row 38 (fl ([b]:List GBlock))),(15,.row 38 (fl (c1q18++([b]:List GBlock))))] 16 (by kernel_rfl) ?_
     refine wk_id ?_
     refine reg_f ?_
     refine rk 1 ?_
     refine rf [(0,.sl l.length (fl l)),(3,.ptr 0 0),(5,.own 15 0 (c1q18++([b]:List GBlock)).length),(6,bS true),(7,iS i7)] [(0,.row 38 (Enc.cells b)),(1,.dead),(14,.row 38 (fl ([b]:List GBlock))),(15,.row 38 (fl (c1q18++([b]:List GBlock))))] 16 (by kernel_rfl) ?_
     exact hK3980 (true,(c1q18++([b]:List GBlock))) _ _ _ h (leSt_m [(0,0),(1,15)] [] (by simp only [push_cast,seval]) (by simp only [push_cast,seval]) rfl rfl rfl)
    ·exact hK3980 (put18,c1q18) _ _ _ h (leSt_m [(0,0),(1,1)] [] (by simp only [push_cast,seval]) (by simp only [push_cast,seval]) rfl rfl rfl)
  ·rintro ⟨put21,c1q21⟩ h
   try dsimp only at h ⊢
   unfold taskmillref_WithBlock_j1 at h
   refine chk_sx h (fun g3998 h=>?_)
   refine chk_sx h (fun g4000 h=>?_)
   refine reg_f ?_
   have k3997:0≤i7∧i7 < (l.length:Int):=by first | simpa only [Bool.and_eq_true,decide_eq_true_eq,bne_iff_ne,ne_eq] using g3998 | (simp at g3998 ⊢; omega) | simp
   have k3999:(c1q21++([(ix l i7)]:List GBlock)).length * 16≤140737488355328:=by first | simpa only [Bool.and_eq_true,decide_eq_true_eq,bne_iff_ne,ne_eq] using g4000 | (simp at g4000 ⊢; omega) | simp
   refine rs 8 [none,none,none,some ⟨.iptr (fl l) ((i7).toNat * 2),[],2,[]⟩,some ⟨.agg (Enc.cells (ix l i7)),[],2,[]⟩,none,some ⟨.own 3 0 (c1q21++([(ix l i7)]:List GBlock)).length,[(3,.row 38 (fl (c1q21++([(ix l i7)]:List GBlock)))),(1,.dead)],4,[1,2]⟩] _ (by kernel_rfl) (allP_cons (ob_app (P:=Try.prog) c1q21 ([(ix l i7)]:List GBlock) 2 16 rfl (appCells (fl ([(ix l i7)]:List GBlock)) 0 (([(ix l i7)]:List GBlock).length * 2)) ([(ix l i7)]:List GBlock).length (app_own ([(ix l i7)]:List GBlock) 2 rfl) rfl (0+([(ix l i7)]:List GBlock).length * 2≤(fl ([(ix l i7)]:List GBlock)).length) (app_own_le ([(ix l i7)]:List GBlock) 2 rfl) 38 (by kernel_rfl) (by decide) k3999 1 3 [2]) (allP_cons (ob_ldw l i7 2 ((i7).toNat * 2) k3997 rfl (by first | rfl | omega) (Enc.cells (ix l i7)) rfl 2 []) (allP_cons (ob_ix_l l 2 2 i7 k3997) allP_nil))) ?_
   refine rf [(0,.sl l.length (fl l)),(3,.ptr 0 0),(5,.own 3 0 (c1q21++([(ix l i7)]:List GBlock)).length),(6,bS put21),(7,iS i7)] [(0,.row 38 (Enc.cells b)),(1,.dead),(2,.row 38 (fl ([(ix l i7)]:List GBlock))),(3,.row 38 (fl (c1q21++([(ix l i7)]:List GBlock))))] 4 (by kernel_rfl) ?_
   refine wk_id ?_
   refine wk_id ?_
   refine reg_f ?_
   refine rk 3 ?_
   refine rf [(0,.sl l.length (fl l)),(3,.ptr 0 0),(5,.own 3 0 (c1q21++([(ix l i7)]:List GBlock)).length),(6,bS put21),(7,iS (IntKind.i64.wrap (i7+1)))] [(0,.row 38 (Enc.cells b)),(1,.dead),(2,.row 38 (fl ([(ix l i7)]:List GBlock))),(3,.row 38 (fl (c1q21++([(ix l i7)]:List GBlock))))] 4 (by kernel_rfl) ?_
   exact hn2 (put21,(IntKind.i64.wrap (i7+1)),(c1q21++([(ix l i7)]:List GBlock))) _ _ _ (Option.some.inj h).symm (leSt_m [(0,0),(1,3)] [] (by simp only [push_cast,seval]) (by simp only [push_cast,seval]) rfl rfl rfl)
 ·change R2 (.exit 0) _ _ _
  refine ex_cast hx2 (id:=0) ?_
  obtain ⟨r0,h,e0⟩:=map_sx h
  have e1:=hr2 r0 e0.symm
  subst r0
  refine wk_id ?_
  refine wk_id ?_
  refine seq_cut (A:=(List GBlock)) (fun a=>([(5,.own 0 0 a.length)],[(0,.row 38 (fl a))],1)) (fun a=>(taskmillref_WithBlock_j2 a) = some r) (fun K4005 hK4005=>?_) ?_
  ·refine seq_np ?_
   refine reg_f ?_
   refine rk 2 ?_
   refine rf [(3,.ptr 0 0),(5,.own 1 0 c1q18.length),(38,bS (!put18))] [(0,.row 38 (Enc.cells b)),(1,.row 38 (fl c1q18))] 2 (by kernel_rfl) ?_
   refine wk_id ?_
   refine cond_sx h (by kernel_rfl) (fun g4010 h=>?_) (fun g4010 h=>?_)
   ·refine chk_sx h (fun g4009 h=>?_)
    refine reg_f ?_
    have k4008:(c1q18++([b]:List GBlock)).length * 16≤140737488355328:=by first | simpa only [Bool.and_eq_true,decide_eq_true_eq,bne_iff_ne,ne_eq] using g4009 | (simp at g4009 ⊢; omega) | simp
    refine rs 5 [none,none,none,some ⟨.own 3 0 (c1q18++([b]:List GBlock)).length,[(3,.row 38 (fl (c1q18++([b]:List GBlock)))),(1,.dead)],4,[1,2]⟩] _ (by kernel_rfl) (allP_cons (ob_app (P:=Try.prog) c1q18 ([b]:List GBlock) 2 16 rfl (appCells (fl ([b]:List GBlock)) 0 (([b]:List GBlock).length * 2)) ([b]:List GBlock).length (app_own ([b]:List GBlock) 2 rfl) rfl (0+([b]:List GBlock).length * 2≤(fl ([b]:List GBlock)).length) (app_own_le ([b]:List GBlock) 2 rfl) 38 (by kernel_rfl) (by decide) k4008 1 3 [2]) allP_nil) ?_
    refine rf [(5,.own 3 0 (c1q18++([b]:List GBlock)).length)] [(0,.row 38 (Enc.cells b)),(1,.dead),(2,.row 38 (fl ([b]:List GBlock))),(3,.row 38 (fl (c1q18++([b]:List GBlock))))] 4 (by kernel_rfl) ?_
    exact hK4005 ((c1q18++([b]:List GBlock))) _ _ _ h (leSt_m [(0,3)] [] (by simp only [push_cast,seval]) (by simp only [push_cast,seval]) rfl rfl rfl)
   ·exact hK4005 (c1q18) _ _ _ h (leSt_m [(0,1)] [] (by simp only [push_cast,seval]) (by simp only [push_cast,seval]) rfl rfl rfl)
  ·rintro c0q2 h
   try dsimp only at h ⊢
   unfold taskmillref_WithBlock_j2 at h
   refine seq_np ?_
   refine reg_f ?_
   refine rk 2 ?_
   refine rf [(4,.own 0 0 c0q2.length)] [(0,.row 38 (fl c0q2))] 1 (by kernel_rfl) ?_
   refine wk_id ?_
   obtain rfl:=Option.some.inj h
   refine ret_at (.own 0 0 c0q2.length) (by kernel_rfl) ?_
   exact ret_e [(0,0)] [] (by simp only [push_cast,seval]) (by simp only [push_cast,seval]) rfl rfl rfl

set_option maxRecDepth 100000 in
set_option maxHeartbeats 200000000 in
theorem taskmillref_TakenOf_spec (s:Space) (n:Int) (r:Int×(List GBlock)×(List GBlock)×Int×Bool) (h:taskmillref_TakenOf s n = some r):SpecW Try.prog 16 [.agg (Enc.cells s),iS n] [] 0 (fun x h n=>x = .tup [.agg [iS r.1,.sl r.2.1.length (fl r.2.1),.sl r.2.2.1.length (fl r.2.2.1)],iS r.2.2.2.1,bS r.2.2.2.2]∧h = []∧n = 0):=by
 unfold taskmillref_TakenOf at h
 refine spec_of (draw_ok _) Try.func16 rfl (by decide) rfl (by kernel_rfl) ?_
 refine seq_np ?_
 refine reg_f ?_
 refine rk 4 ?_
 refine rf [(1,iS n),(2,.ptr 0 0),(4,.ptr 1 0)] [(0,.row 24 (Enc.cells s)),(1,.row 24 [iS 0,.v (.slice none 0 0),.v (.slice none 0 0)])] 2 (by kernel_rfl) ?_
 refine wk_id ?_
 refine seq_np ?_
 refine seq_np ?_
 refine reg_f ?_
 refine rk 1 ?_
 refine rf [(1,iS n),(2,.ptr 0 0),(4,.ptr 1 0),(7,iS 1)] [(0,.row 24 (Enc.cells s)),(1,.row 24 [iS 0,.v (.slice none 0 0),.v (.slice none 0 0)])] 2 (by kernel_rfl) ?_
 refine wk_id ?_
 refine block_np ?_
 refine loop_sx (S:=Int) (fun a=>([(1,iS n),(2,.ptr 0 0),(4,.ptr 1 0),(7,iS a)],[(0,.row 24 (Enc.cells s)),(1,.row 24 [iS 0,.v (.slice none 0 0),.v (.slice none 0 0)])],2)) h (leSt_m [(0,0),(1,1)] [] (by simp only [push_cast,seval]) (by simp only [push_cast,seval]) rfl rfl rfl) ?_
 rintro size7 o4 R4 h hr4 hn4 hx4 ht4
 try dsimp only at h hn4 ⊢
 unfold taskmillref_TakenOf_l3 at h
 try dsimp only at h
 refine seq_np ?_
 refine chk_sx h (fun g4518 h=>?_)
 refine seq_np ?_
 refine reg_f ?_
 have k4517:0≤s.Bits:=by first | simpa only [Bool.and_eq_true,decide_eq_true_eq,bne_iff_ne,ne_eq] using g4518 | (simp at g4518 ⊢; omega) | simp
 refine rs 5 [none,none,none,some ⟨iS (IntKind.i64.wrap ((1:Int) * 2 ^ (min (s.Bits).toNat (IntKind.i64).bits))),[],2,[]⟩] _ (by kernel_rfl) (allP_cons (ob_p (v:=iS (IntKind.i64.wrap ((1:Int) * 2 ^ (min (s.Bits).toNat (IntKind.i64).bits)))) (nx:=2) (r:=[]) k4517) allP_nil) ?_
 refine rf [(1,iS n),(2,.ptr 0 0),(4,.ptr 1 0),(7,iS size7),(14,bS (decide (size7≤(IntKind.i64.wrap ((1:Int) * 2 ^ (min (s.Bits).toNat (IntKind.i64).bits))))))] [(0,.row 24 (Enc.cells s)),(1,.row 24 [iS 0,.v (.slice none 0 0),.v (.slice none 0 0)])] 2 (by kernel_rfl) ?_
 refine wk_id ?_
 refine cond_sx h (by kernel_rfl) (fun g4693 h=>?_) (fun g4693 h=>?_)
 ·refine wk_id ?_
  refine seq_np ?_
  refine block_cut (A:=Unit) (fun a=>([(1,iS n),(2,.ptr 0 0),(4,.ptr 1 0),(7,iS size7)],[(0,.row 24 (Enc.cells s)),(1,.row 24 [iS 0,.v (.slice none 0 0),.v (.slice none 0 0)])],2)) (fun a=>(taskmillref_TakenOf_j1 s n size7) = some o4) (fun K4604 hK4604=>?_) ?_
  ·refine seq_np ?_
   refine seq_np ?_
   refine reg_f ?_
   refine rk 3 ?_
   refine rf [(1,iS n),(2,.ptr 0 0),(4,.ptr 1 0),(7,iS size7),(19,bS (decide (size7 < n)))] [(0,.row 24 (Enc.cells s)),(1,.row 24 [iS 0,.v (.slice none 0 0),.v (.slice none 0 0)])] 2 (by kernel_rfl) ?_
   refine wk_id ?_
   refine cond_sx h (by kernel_rfl) (fun g4692 h=>?_) (fun g4692 h=>?_)
   ·exact hK4604 () _ _ _ h (leSt_m [(0,0),(1,1)] [] (by simp only [push_cast,seval]) (by simp only [push_cast,seval]) rfl rfl rfl)
   ·refine wk_id ?_
    refine seq_np ?_
    refine reg_f ?_
    refine rk 1 ?_
    refine rf [(1,iS n),(2,.ptr 0 0),(4,.ptr 1 0),(7,iS size7),(8,iS 0)] [(0,.row 24 (Enc.cells s)),(1,.row 24 [iS 0,.v (.slice none 0 0),.v (.slice none 0 0)])] 2 (by kernel_rfl) ?_
    refine wk_id ?_
    refine block_np ?_
    refine loop_sx (S:=Int) (fun a=>([(1,iS n),(2,.ptr 0 0),(4,.ptr 1 0),(7,iS size7),(8,iS a)],[(0,.row 24 (Enc.cells s)),(1,.row 24 [iS 0,.v (.slice none 0 0),.v (.slice none 0 0)])],2)) h (leSt_m [(0,0),(1,1)] [] (by simp only [push_cast,seval]) (by simp only [push_cast,seval]) rfl rfl rfl) ?_
    rintro i27 o5 R5 h hr5 hn5 hx5 ht5
    try dsimp only at h hn5 ⊢
    unfold taskmillref_TakenOf_l2 at h
    try dsimp only at h
    refine seq_np ?_
    refine seq_np ?_
    refine reg_f ?_
    refine rk 5 ?_
    refine rf [(1,iS n),(2,.ptr 0 0),(4,.ptr 1 0),(7,iS size7),(8,iS i27),(24,bS (decide (i27 < (s.Free.length:Int))))] [(0,.row 24 (Enc.cells s)),(1,.row 24 [iS 0,.v (.slice none 0 0),.v (.slice none 0 0)])] 2 (by kernel_rfl) ?_
    refine wk_id ?_
    refine cond_sx h (by kernel_rfl) (fun g4691 h=>?_) (fun g4691 h=>?_)
    ·refine wk_id ?_
     refine seq_np ?_
     refine block_np ?_
     refine chk_sx h (fun g4661 h=>?_)
     refine seq_np ?_
     refine reg_f ?_
     have k4660:0≤i27∧i27 < (s.Free.length:Int):=by first | simpa only [Bool.and_eq_true,decide_eq_true_eq,bne_iff_ne,ne_eq] using g4661 | (simp at g4661 ⊢; omega) | simp
     refine rs 7 [none,none,none,some ⟨.iptr (fl s.Free) ((i27).toNat * 2),[],2,[]⟩,some ⟨.agg (Enc.cells (ix s.Free i27)),[],2,[]⟩] _ (by kernel_rfl) (allP_cons (ob_ldw s.Free i27 2 ((i27).toNat * 2) k4660 rfl (by first | rfl | omega) (Enc.cells (ix s.Free i27)) rfl 2 []) (allP_cons (ob_ix_l s.Free 2 2 i27 k4660) allP_nil)) ?_
     refine rf [(1,iS n),(2,.ptr 0 0),(4,.ptr 1 0),(7,iS size7),(8,iS i27),(9,.ptr 2 0)] [(0,.row 24 (Enc.cells s)),(1,.row 24 [iS 0,.v (.slice none 0 0),.v (.slice none 0 0)]),(2,.row 38 (Enc.cells (ix s.Free i27)))] 3 (by kernel_rfl) ?_
     refine wk_id ?_
     refine seq_np ?_
     refine seq_np ?_
     refine reg_f ?_
     refine rk 4 ?_
     refine rf [(1,iS n),(2,.ptr 0 0),(4,.ptr 1 0),(7,iS size7),(8,iS i27),(9,.ptr 2 0),(35,bS ((ix s.Free i27).Size != size7))] [(0,.row 24 (Enc.cells s)),(1,.row 24 [iS 0,.v (.slice none 0 0),.v (.slice none 0 0)]),(2,.row 38 (Enc.cells (ix s.Free i27)))] 3 (by kernel_rfl) ?_
     refine wk_id ?_
     refine cond_sx h (by kernel_rfl) (fun g4690 h=>?_) (fun g4690 h=>?_)
     ·refine wk_id ?_
      refine wk_id ?_
      refine reg_f ?_
      refine rk 3 ?_
      refine rf [(1,iS n),(2,.ptr 0 0),(4,.ptr 1 0),(7,iS size7),(8,iS (IntKind.i64.wrap (i27+1)))] [(0,.row 24 (Enc.cells s)),(1,.row 24 [iS 0,.v (.slice none 0 0),.v (.slice none 0 0)]),(2,.row 38 (Enc.cells (ix s.Free i27)))] 3 (by kernel_rfl) ?_
      exact hn5 ((IntKind.i64.wrap (i27+1))) _ _ _ (Option.some.inj h).symm (leSt_m [(0,0),(1,1)] [] (by simp only [push_cast,seval]) (by simp only [push_cast,seval]) rfl rfl rfl)
     ·refine wk_id ?_
      refine seq_np ?_
      refine reg_f ?_
      refine rk 3 ?_
      obtain ⟨r4664,hr4664,h⟩:=bind_sx h
      refine call_x (taskmillref_NoBlock_spec s.Free (ix s.Free i27) r4664 hr4664) (args:=[.sl s.Free.length (fl s.Free),.agg (Enc.cells (ix s.Free i27))]) (dst:=(some 39)) (by kernel_rfl) [(0,.row 24 (Enc.cells s)),(1,.row 24 [iS 0,.v (.slice none 0 0),.v (.slice none 0 0)]),(2,.row 38 (Enc.cells (ix s.Free i27)))] 3 (by kernel_rfl) [] [] (.own 3 0 r4664.length) [(3,.row 38 (fl r4664))] (by simp only [push_cast,seval]) (by simp only [push_cast,seval]) (by kernel_rfl) (.inl rfl) (by simp only [push_cast,seval]) (by simp only [push_cast,seval]) ?_
      refine rk 2 ?_
      refine rf [(1,iS n),(2,.ptr 0 0),(4,.ptr 1 0),(9,.ptr 2 0)] [(0,.row 24 [iS s.Bits,.sl s.Used.length (fl s.Used),.own 3 0 r4664.length]),(1,.row 24 [iS 0,.v (.slice none 0 0),.v (.slice none 0 0)]),(2,.row 38 (Enc.cells (ix s.Free i27))),(3,.row 38 (fl r4664))] 4 (by kernel_rfl) ?_
      refine wk_id ?_
      refine seq_np ?_
      refine block_np ?_
      refine loop_sx (S:=Int×(List GBlock)) (fun a=>([(1,iS n),(2,.ptr 0 0),(4,.ptr 1 0),(9,.ptr 2 0)],[(0,.row 24 [iS s.Bits,.sl s.Used.length (fl s.Used),.own 3 0 a.2.length]),(1,.row 24 [iS 0,.v (.slice none 0 0),.v (.slice none 0 0)]),(2,.row 38 [iS (ix s.Free i27).Start,iS a.1]),(3,.row 38 (fl a.2))],4)) h (leSt_m [(0,0),(1,1),(2,2),(3,3)] [] (by simp only [push_cast,seval]) (by simp only [push_cast,seval]) rfl rfl rfl) ?_
      rintro ⟨c2_Size91,c3q137⟩ o6 R6 h hr6 hn6 hx6 ht6
      try dsimp only at h hn6 ⊢
      unfold taskmillref_TakenOf_l1 at h
      try dsimp only at h
      refine seq_np ?_
      refine seq_np ?_
      refine reg_f ?_
      refine rk 5 ?_
      refine rf [(1,iS n),(2,.ptr 0 0),(4,.ptr 1 0),(9,.ptr 2 0),(45,bS (decide (n≤(IntKind.i64.wrap (Int.tdiv c2_Size91 2)))))] [(0,.row 24 [iS s.Bits,.sl s.Used.length (fl s.Used),.own 3 0 c3q137.length]),(1,.row 24 [iS 0,.v (.slice none 0 0),.v (.slice none 0 0)]),(2,.row 38 [iS (ix s.Free i27).Start,iS c2_Size91]),(3,.row 38 (fl c3q137))] 4 (by kernel_rfl) ?_
      refine wk_id ?_
      refine cond_sx h (by kernel_rfl) (fun g4689 h=>?_) (fun g4689 h=>?_)
      ·refine wk_id ?_
       refine block_np ?_
       refine seq_np ?_
       refine reg_f ?_
       refine rk 5 ?_
       refine rf [(1,iS n),(2,.ptr 0 0),(4,.ptr 1 0),(9,.ptr 2 0)] [(0,.row 24 [iS s.Bits,.sl s.Used.length (fl s.Used),.own 3 0 c3q137.length]),(1,.row 24 [iS 0,.v (.slice none 0 0),.v (.slice none 0 0)]),(2,.row 38 [iS (ix s.Free i27).Start,iS (IntKind.i64.wrap (Int.tdiv c2_Size91 2))]),(3,.row 38 (fl c3q137))] 4 (by kernel_rfl) ?_
       refine wk_id ?_
       refine reg_f ?_
       refine rk 10 ?_
       obtain ⟨r4686,hr4686,h⟩:=bind_sx h
       refine call_x (taskmillref_WithBlock_spec c3q137 (GBlock.mk (IntKind.i64.wrap ((ix s.Free i27).Start+(IntKind.i64.wrap (Int.tdiv c2_Size91 2)))) (IntKind.i64.wrap (Int.tdiv c2_Size91 2))) r4686 hr4686) (args:=[.own 3 0 c3q137.length,.agg [iS (IntKind.i64.wrap ((ix s.Free i27).Start+(IntKind.i64.wrap (Int.tdiv c2_Size91 2)))),iS (IntKind.i64.wrap (Int.tdiv c2_Size91 2))]]) (dst:=(some 60)) (by kernel_rfl) [(0,.row 24 [iS s.Bits,.sl s.Used.length (fl s.Used),.own 3 0 c3q137.length]),(1,.row 24 [iS 0,.v (.slice none 0 0),.v (.slice none 0 0)]),(2,.row 38 [iS (ix s.Free i27).Start,iS (IntKind.i64.wrap (Int.tdiv c2_Size91 2))]),(3,.row 38 (fl c3q137))] 4 (by kernel_rfl) [] [3] (.own 4 0 r4686.length) [(4,.row 38 (fl r4686))] (by simp only [push_cast,seval]) (by simp only [push_cast,seval]) (by kernel_rfl) (.inr ⟨by simp only [push_cast,seval],by simp only [push_cast,seval]⟩) (by simp only [push_cast,seval]) (by simp only [push_cast,seval]) ?_
       refine rk 2 ?_
       refine rf [(1,iS n),(2,.ptr 0 0),(4,.ptr 1 0),(9,.ptr 2 0)] [(0,.row 24 [iS s.Bits,.sl s.Used.length (fl s.Used),.own 4 0 r4686.length]),(1,.row 24 [iS 0,.v (.slice none 0 0),.v (.slice none 0 0)]),(2,.row 38 [iS (ix s.Free i27).Start,iS (IntKind.i64.wrap (Int.tdiv c2_Size91 2))]),(3,.row 38 (fl c3q137)),(4,.row 38 (fl r4686))] 5 (by kernel_rfl) ?_
       refine wk_id ?_
       exact hn6 ((IntKind.i64.wrap (Int.tdiv c2_Size91 2)),r4686) _ _ _ (Option.some.inj h).symm (leSt_m [(0,0),(1,1),(2,2),(3,4)] [] (by simp only [push_cast,seval]) (by simp only [push_cast,seval]) rfl rfl rfl)
      ·change R6 (.exit 4) _ _ _
       refine ex_cast hx6 (id:=4) ?_
       obtain ⟨r0,h,e0⟩:=map_sx h
       have e1:=hr6 r0 e0.symm
       subst r0
       refine wk_id ?_
       refine wk_id ?_
       refine seq_np ?_
       refine reg_f ?_
       refine rk 3 ?_
       obtain ⟨r4688,hr4688,h⟩:=bind_sx h
       refine call_x (taskmillref_WithBlock_spec s.Used (GBlock.mk (ix s.Free i27).Start c2_Size91) r4688 hr4688) (args:=[.sl s.Used.length (fl s.Used),.agg [iS (ix s.Free i27).Start,iS c2_Size91]]) (dst:=(some 65)) (by kernel_rfl) [(0,.row 24 [iS s.Bits,.sl s.Used.length (fl s.Used),.own 3 0 c3q137.length]),(1,.row 24 [iS 0,.v (.slice none 0 0),.v (.slice none 0 0)]),(2,.row 38 [iS (ix s.Free i27).Start,iS c2_Size91]),(3,.row 38 (fl c3q137))] 4 (by kernel_rfl) [] [] (.own 4 0 r4688.length) [(4,.row 38 (fl r4688))] (by simp only [push_cast,seval]) (by simp only [push_cast,seval]) (by kernel_rfl) (.inl rfl) (by simp only [push_cast,seval]) (by simp only [push_cast,seval]) ?_
       refine rk 2 ?_
       refine rf [(2,.ptr 0 0),(4,.ptr 1 0),(9,.ptr 2 0)] [(0,.row 24 [iS s.Bits,.own 4 0 r4688.length,.own 3 0 c3q137.length]),(1,.row 24 [iS 0,.v (.slice none 0 0),.v (.slice none 0 0)]),(2,.row 38 [iS (ix s.Free i27).Start,iS c2_Size91]),(3,.row 38 (fl c3q137)),(4,.row 38 (fl r4688))] 5 (by kernel_rfl) ?_
       refine wk_id ?_
       refine seq_np ?_
       refine reg_t ?_
       refine rk 6 ?_
       refine rt [(4,.ptr 1 0),(5,iS (ix s.Free i27).Start),(6,bS true)] [(0,.row 24 [iS s.Bits,.own 4 0 r4688.length,.own 3 0 c3q137.length]),(1,.row 24 [iS s.Bits,.own 4 0 r4688.length,.own 3 0 c3q137.length]),(2,.row 38 [iS (ix s.Free i27).Start,iS c2_Size91]),(3,.row 38 (fl c3q137)),(4,.row 38 (fl r4688))] 11 follows (by kernel_rfl) ?_
       refine wk_id ?_
       refine rt_cast ht5 ?_
       obtain ⟨r0,h,e0⟩:=map_sx h
       have e1:=hr5 r0 e0.symm
       subst r0
       refine rt_cast ht4 ?_
       obtain ⟨r0,h,e0⟩:=map_sx h
       have e1:=hr4 r0 e0.symm
       subst r0
       obtain rfl:=Option.some.inj h
       refine ret_at (.tup [.agg [iS s.Bits,.own 4 0 r4688.length,.own 3 0 c3q137.length],iS (ix s.Free i27).Start,bS true]) (by kernel_rfl) ?_
       exact ret_e [] [4,3] (by simp only [leS_frz,leS_cut,push_cast,seval]) (by simp only [leS_frz,leS_cut,push_cast,seval]) rfl rfl rfl
    ·change R5 (.exit 2) _ _ _
     refine ex_cast hx5 (id:=2) ?_
     obtain ⟨r0,h,e0⟩:=map_sx h
     have e1:=hr5 r0 e0.symm
     subst r0
     refine wk_id ?_
     exact hK4604 () _ _ _ h (leSt_m [(0,0),(1,1)] [] (by simp only [push_cast,seval]) (by simp only [push_cast,seval]) rfl rfl rfl)
  ·rintro _ h
   try dsimp only at h ⊢
   unfold taskmillref_TakenOf_j1 at h
   refine wk_id ?_
   refine reg_f ?_
   refine rk 3 ?_
   refine rf [(1,iS n),(2,.ptr 0 0),(4,.ptr 1 0),(7,iS (IntKind.i64.wrap (size7 * 2)))] [(0,.row 24 (Enc.cells s)),(1,.row 24 [iS 0,.v (.slice none 0 0),.v (.slice none 0 0)])] 2 (by kernel_rfl) ?_
   exact hn4 ((IntKind.i64.wrap (size7 * 2))) _ _ _ (Option.some.inj h).symm (leSt_m [(0,0),(1,1)] [] (by simp only [push_cast,seval]) (by simp only [push_cast,seval]) rfl rfl rfl)
 ·change R4 (.exit 0) _ _ _
  refine ex_cast hx4 (id:=0) ?_
  obtain ⟨r0,h,e0⟩:=map_sx h
  have e1:=hr4 r0 e0.symm
  subst r0
  refine wk_id ?_
  refine wk_id ?_
  refine seq_np ?_
  refine reg_f ?_
  refine rk 4 ?_
  refine rf [(4,.ptr 1 0),(5,iS 0),(6,bS false)] [(0,.row 24 (Enc.cells s)),(1,.row 24 (Enc.cells s))] 2 (by kernel_rfl) ?_
  refine wk_id ?_
  obtain rfl:=Option.some.inj h
  refine ret_at (.tup [.agg (Enc.cells s),iS 0,bS false]) (by kernel_rfl) ?_
  exact ret_e [] [] (by simp only [push_cast,seval]) (by simp only [push_cast,seval]) rfl rfl rfl

set_option maxRecDepth 100000 in
set_option maxHeartbeats 200000000 in
theorem taskmilllaw_BuddyTakes_spec (s:Space) (n:Int) (bits:Int) (r:Bool) (h:taskmilllaw_BuddyTakes s n bits = some r):SpecW Try.prog 3 [.agg (Enc.cells s),iS n,iS bits] [] 0 (fun x h n=>x = bS r∧h = []∧n = 0):=by
 unfold taskmilllaw_BuddyTakes at h
 refine spec_of (draw_ok _) Try.func3 rfl (by decide) rfl (by kernel_rfl) ?_
 refine seq_np ?_
 refine reg_f ?_
 refine rk 2 ?_
 refine rf [(1,iS n),(2,iS bits),(3,.ptr 0 0)] [(0,.row 24 (Enc.cells s))] 1 (by kernel_rfl) ?_
 refine wk_id ?_
 refine seq_np ?_
 refine seq_np ?_
 refine reg_f ?_
 obtain ⟨r4717,hr4717,h⟩:=bind_sx h
 refine run_call 7 [] (some 20) (by kernel_rfl) ?_
 refine call_0 (taskmilllaw_buddyBegun_spec r4717 hr4717) (by simp only [push_cast,seval]) (by simp only [push_cast,seval]) ?_
 refine back_f ?_
 refine rk 1 ?_
 refine rf [(1,iS n),(2,iS bits),(3,.ptr 0 0),(21,bS (!r4717))] [(0,.row 24 (Enc.cells s))] 1 (by kernel_rfl) ?_
 refine wk_id ?_
 refine cond_sx h (by kernel_rfl) (fun g4845 h=>?_) (fun g4845 h=>?_)
 ·refine seq_np ?_
  refine reg_f ?_
  refine rk 1 ?_
  refine rf [(6,bS false)] [(0,.row 24 (Enc.cells s))] 1 (by kernel_rfl) ?_
  refine wk_id ?_
  obtain rfl:=Option.some.inj h
  refine ret_at (bS false) (by kernel_rfl) ?_
  exact ret_e [] [] (by simp only [push_cast,seval]) (by simp only [push_cast,seval]) rfl rfl rfl
 ·refine wk_id ?_
  refine seq_np ?_
  refine seq_np ?_
  refine reg_f ?_
  refine rk 1 ?_
  obtain ⟨r4721,hr4721,h⟩:=bind_sx h
  refine run_call 8 [.agg (Enc.cells s)] (some 23) (by kernel_rfl) ?_
  refine call_0 (taskmilllaw_vastSpace_spec s r4721 hr4721) (by simp only [push_cast,seval]) (by simp only [push_cast,seval]) ?_
  refine back_f ?_
  refine rf [(1,iS n),(2,iS bits),(3,.ptr 0 0),(23,bS r4721)] [(0,.row 24 (Enc.cells s))] 1 (by kernel_rfl) ?_
  refine wk_id ?_
  refine cond_sx h (by kernel_rfl) (fun g4844 h=>?_) (fun g4844 h=>?_)
  ·refine seq_np ?_
   refine reg_f ?_
   refine rk 1 ?_
   refine rf [(6,bS true)] [(0,.row 24 (Enc.cells s))] 1 (by kernel_rfl) ?_
   refine wk_id ?_
   obtain rfl:=Option.some.inj h
   refine ret_at (bS true) (by kernel_rfl) ?_
   exact ret_e [] [] (by simp only [push_cast,seval]) (by simp only [push_cast,seval]) rfl rfl rfl
  ·refine wk_id ?_
   refine seq_np ?_
   refine reg_f ?_
   refine rk 1 ?_
   obtain ⟨r4723,hr4723,h⟩:=bind_sx h
   refine call_x (taskmilllaw_ownSpace_spec s r4723 hr4723) (args:=[.agg (Enc.cells s)]) (dst:=(some 25)) (by kernel_rfl) [(0,.row 24 (Enc.cells s))] 1 (by kernel_rfl) [] [] (.agg [iS r4723.1,.own 1 0 r4723.2.1.length,.own 2 0 r4723.2.2.length]) [(1,.row 38 (fl r4723.2.1)),(2,.row 38 (fl r4723.2.2))] (by simp only [push_cast,seval]) (by simp only [push_cast,seval]) (by kernel_rfl) (.inl rfl) (by simp only [push_cast,seval]) (by simp only [push_cast,seval]) ?_
   refine rk 2 ?_
   refine rf [(1,iS n),(2,iS bits),(3,.ptr 0 0),(7,.ptr 3 0)] [(0,.row 24 (Enc.cells s)),(1,.row 38 (fl r4723.2.1)),(2,.row 38 (fl r4723.2.2)),(3,.row 24 [iS r4723.1,.own 1 0 r4723.2.1.length,.own 2 0 r4723.2.2.length])] 4 (by kernel_rfl) ?_
   refine wk_id ?_
   refine seq_np ?_
   refine reg_f ?_
   refine rk 1 ?_
   obtain ⟨r4725,hr4725,h⟩:=bind_sx h
   refine call_x (buddy_Check_spec (Space.mk r4723.1 r4723.2.1 r4723.2.2) r4725 hr4725) (args:=[.agg [iS r4723.1,.own 1 0 r4723.2.1.length,.own 2 0 r4723.2.2.length]]) (dst:=(some 27)) (by kernel_rfl) [(0,.row 24 (Enc.cells s)),(1,.row 38 (fl r4723.2.1)),(2,.row 38 (fl r4723.2.2)),(3,.row 24 [iS r4723.1,.own 1 0 r4723.2.1.length,.own 2 0 r4723.2.2.length])] 4 (by kernel_rfl) [] [1,2] (.agg (Enc.cells r4725)) [] (by simp only [push_cast,seval]) (by simp only [push_cast,seval]) (by kernel_rfl) (.inr ⟨by simp only [push_cast,seval],by simp only [push_cast,seval]⟩) (by simp only [push_cast,seval]) (by simp only [push_cast,seval]) ?_
   refine rk 2 ?_
   refine rf [(1,iS n),(2,iS bits),(3,.ptr 0 0),(7,.ptr 3 0),(8,.ptr 4 0)] [(0,.row 24 (Enc.cells s)),(1,.row 38 (fl r4723.2.1)),(2,.row 38 (fl r4723.2.2)),(3,.row 24 [iS r4723.1,.own 1 0 r4723.2.1.length,.own 2 0 r4723.2.2.length]),(4,.row 29 (Enc.cells r4725))] 5 (by kernel_rfl) ?_
   refine wk_id ?_
   refine seq_np ?_
   refine reg_f ?_
   refine rk 2 ?_
   obtain ⟨r4727,hr4727,h⟩:=bind_sx h
   refine call_x (buddy_Take_spec (Space.mk r4723.1 r4723.2.1 r4723.2.2) n r4727 hr4727) (args:=[.agg [iS r4723.1,.own 1 0 r4723.2.1.length,.own 2 0 r4723.2.2.length],iS n]) (dst:=(some 31)) (by kernel_rfl) [(0,.row 24 (Enc.cells s)),(1,.row 38 (fl r4723.2.1)),(2,.row 38 (fl r4723.2.2)),(3,.row 24 [iS r4723.1,.own 1 0 r4723.2.1.length,.own 2 0 r4723.2.2.length]),(4,.row 29 (Enc.cells r4725))] 5 (by kernel_rfl) [] [1,2] (.tup [.agg [iS r4727.1,.own 5 0 r4727.2.2.2.1.length,.own 6 0 r4727.2.2.2.2.length],iS r4727.2.1,.agg (Enc.cells r4727.2.2.1)]) [(5,.row 38 (fl r4727.2.2.2.1)),(6,.row 38 (fl r4727.2.2.2.2))] (by simp only [push_cast,seval]) (by simp only [push_cast,seval]) (by kernel_rfl) (.inr ⟨by simp only [push_cast,seval],by simp only [push_cast,seval]⟩) (by simp only [push_cast,seval]) (by simp only [push_cast,seval]) ?_
   refine rk 9 ?_
   refine rf [(1,iS n),(2,iS bits),(3,.ptr 0 0),(7,.ptr 3 0),(8,.ptr 4 0),(9,.ptr 7 0),(10,iS r4727.2.1),(11,.ptr 8 0)] [(0,.row 24 (Enc.cells s)),(1,.row 38 (fl r4723.2.1)),(2,.row 38 (fl r4723.2.2)),(3,.row 24 [iS r4723.1,.own 1 0 r4723.2.1.length,.own 2 0 r4723.2.2.length]),(4,.row 29 (Enc.cells r4725)),(5,.row 38 (fl r4727.2.2.2.1)),(6,.row 38 (fl r4727.2.2.2.2)),(7,.row 24 [iS r4727.1,.own 5 0 r4727.2.2.2.1.length,.own 6 0 r4727.2.2.2.2.length]),(8,.row 29 (Enc.cells r4727.2.2.1))] 9 (by kernel_rfl) ?_
   refine wk_id ?_
   refine seq_np ?_
   refine reg_f ?_
   refine rk 1 ?_
   obtain ⟨r4729,hr4729,h⟩:=bind_sx h
   refine call_x (buddy_New_spec bits r4729 hr4729) (args:=[iS bits]) (dst:=(some 37)) (by kernel_rfl) [(0,.row 24 (Enc.cells s)),(1,.row 38 (fl r4723.2.1)),(2,.row 38 (fl r4723.2.2)),(3,.row 24 [iS r4723.1,.own 1 0 r4723.2.1.length,.own 2 0 r4723.2.2.length]),(4,.row 29 (Enc.cells r4725)),(5,.row 38 (fl r4727.2.2.2.1)),(6,.row 38 (fl r4727.2.2.2.2)),(7,.row 24 [iS r4727.1,.own 5 0 r4727.2.2.2.1.length,.own 6 0 r4727.2.2.2.2.length]),(8,.row 29 (Enc.cells r4727.2.2.1))] 9 (by kernel_rfl) [] [] (.tup [.agg [iS r4729.1,.v (.slice none 0 0),.own 9 0 r4729.2.2.length],.agg (Enc.cells r4729.2.1)]) [(9,.row 38 (fl r4729.2.2))] (by simp only [push_cast,seval]) (by simp only [push_cast,seval]) (by kernel_rfl) (.inl rfl) (by simp only [push_cast,seval]) (by simp only [push_cast,seval]) ?_
   refine rk 7 ?_
   refine rf [(1,iS n),(2,iS bits),(3,.ptr 0 0),(7,.ptr 3 0),(8,.ptr 4 0),(9,.ptr 7 0),(10,iS r4727.2.1),(11,.ptr 8 0),(12,.ptr 10 0),(13,.ptr 11 0)] [(0,.row 24 (Enc.cells s)),(1,.row 38 (fl r4723.2.1)),(2,.row 38 (fl r4723.2.2)),(3,.row 24 [iS r4723.1,.own 1 0 r4723.2.1.length,.own 2 0 r4723.2.2.length]),(4,.row 29 (Enc.cells r4725)),(5,.row 38 (fl r4727.2.2.2.1)),(6,.row 38 (fl r4727.2.2.2.2)),(7,.row 24 [iS r4727.1,.own 5 0 r4727.2.2.2.1.length,.own 6 0 r4727.2.2.2.2.length]),(8,.row 29 (Enc.cells r4727.2.2.1)),(9,.row 38 (fl r4729.2.2)),(10,.row 24 [iS r4729.1,.v (.slice none 0 0),.own 9 0 r4729.2.2.length]),(11,.row 29 (Enc.cells r4729.2.1))] 12 (by kernel_rfl) ?_
   refine wk_id ?_
   refine seq_np ?_
   refine reg_f ?_
   refine rk 1 ?_
   obtain ⟨r4731,hr4731,h⟩:=bind_sx h
   refine run_call 13 [.agg (Enc.cells s)] (some 41) (by kernel_rfl) ?_
   refine call_0 (taskmillref_SpaceFault_spec s r4731 hr4731) (by simp only [push_cast,seval]) (by simp only [push_cast,seval]) ?_
   refine back_f ?_
   refine rk 2 ?_
   refine rf [(1,iS n),(2,iS bits),(3,.ptr 0 0),(7,.ptr 3 0),(8,.ptr 4 0),(9,.ptr 7 0),(10,iS r4727.2.1),(11,.ptr 8 0),(12,.ptr 10 0),(13,.ptr 11 0),(14,.ptr 12 0)] [(0,.row 24 (Enc.cells s)),(1,.row 38 (fl r4723.2.1)),(2,.row 38 (fl r4723.2.2)),(3,.row 24 [iS r4723.1,.own 1 0 r4723.2.1.length,.own 2 0 r4723.2.2.length]),(4,.row 29 (Enc.cells r4725)),(5,.row 38 (fl r4727.2.2.2.1)),(6,.row 38 (fl r4727.2.2.2.2)),(7,.row 24 [iS r4727.1,.own 5 0 r4727.2.2.2.1.length,.own 6 0 r4727.2.2.2.2.length]),(8,.row 29 (Enc.cells r4727.2.2.1)),(9,.row 38 (fl r4729.2.2)),(10,.row 24 [iS r4729.1,.v (.slice none 0 0),.own 9 0 r4729.2.2.length]),(11,.row 29 (Enc.cells r4729.2.1)),(12,.row 29 (Enc.cells r4731))] 13 (by kernel_rfl) ?_
   refine wk_id ?_
   refine seq_np ?_
   refine seq_cut (A:=Int×Bool×Int×Fault×Int×Fault×Fault×(List GBlock)×(List GBlock)×(List GBlock)) (fun a=>([(1,iS n),(2,iS bits),(3,.ptr 0 0),(9,.ptr 1 0),(10,iS a.1),(11,.ptr 2 0),(12,.ptr 3 0),(13,.ptr 4 0),(14,.ptr 5 0),(50,bS a.2.1)],[(0,.row 24 (Enc.cells s)),(1,.row 24 [iS a.2.2.1,.own 6 0 a.2.2.2.2.2.2.2.1.length,.own 7 0 a.2.2.2.2.2.2.2.2.1.length]),(2,.row 29 (Enc.cells a.2.2.2.1)),(3,.row 24 [iS a.2.2.2.2.1,.v (.slice none 0 0),.own 8 0 a.2.2.2.2.2.2.2.2.2.length]),(4,.row 29 (Enc.cells a.2.2.2.2.2.1)),(5,.row 29 (Enc.cells a.2.2.2.2.2.2.1)),(6,.row 38 (fl a.2.2.2.2.2.2.2.1)),(7,.row 38 (fl a.2.2.2.2.2.2.2.2.1)),(8,.row 38 (fl a.2.2.2.2.2.2.2.2.2))],9)) (fun a=>(taskmilllaw_BuddyTakes_j9 s n bits a.1 a.2.1 a.2.2.1 a.2.2.2.1 a.2.2.2.2.1 a.2.2.2.2.2.1 a.2.2.2.2.2.2.1 a.2.2.2.2.2.2.2.1 a.2.2.2.2.2.2.2.2.1 a.2.2.2.2.2.2.2.2.2) = some r) (fun K4740 hK4740=>?_) ?_
   ·refine reg_f ?_
    refine rk 4 ?_
    refine run_br h 45 (.inl (by kernel_rfl)) (fun g4741 h=>?_) (fun g4741 h=>?_)
    ·refine rk 5 ?_
     refine rf [(1,iS n),(2,iS bits),(3,.ptr 0 0),(9,.ptr 7 0),(10,iS r4727.2.1),(11,.ptr 8 0),(12,.ptr 10 0),(13,.ptr 11 0),(14,.ptr 12 0),(50,bS true)] [(0,.row 24 (Enc.cells s)),(1,.row 38 (fl r4723.2.1)),(2,.row 38 (fl r4723.2.2)),(3,.row 24 [iS r4723.1,.own 1 0 r4723.2.1.length,.own 2 0 r4723.2.2.length]),(4,.row 29 (Enc.cells r4725)),(5,.row 38 (fl r4727.2.2.2.1)),(6,.row 38 (fl r4727.2.2.2.2)),(7,.row 24 [iS r4727.1,.own 5 0 r4727.2.2.2.1.length,.own 6 0 r4727.2.2.2.2.length]),(8,.row 29 (Enc.cells r4727.2.2.1)),(9,.row 38 (fl r4729.2.2)),(10,.row 24 [iS r4729.1,.v (.slice none 0 0),.own 9 0 r4729.2.2.length]),(11,.row 29 (Enc.cells r4729.2.1)),(12,.row 29 (Enc.cells r4731))] 13 (by kernel_rfl) ?_
     exact hK4740 (r4727.2.1,true,r4727.1,r4727.2.2.1,r4729.1,r4729.2.1,r4731,r4727.2.2.2.1,r4727.2.2.2.2,r4729.2.2) _ _ _ h (leSt_m [(0,0),(1,7),(2,8),(3,10),(4,11),(5,12),(6,5),(7,6),(8,9)] [] (by (try simp only [g4741]) <;> simp only [push_cast,seval]) (by (try simp only [g4741]) <;> simp only [push_cast,seval]) rfl rfl rfl)
    ·refine rk 2 ?_
     obtain ⟨r4742,hr4742,h⟩:=bind_sx h
     refine call_x (taskmillref_SameSpace_spec (Space.mk r4723.1 r4723.2.1 r4723.2.2) s r4742 hr4742) (args:=[.agg [iS r4723.1,.own 1 0 r4723.2.1.length,.own 2 0 r4723.2.2.length],.agg (Enc.cells s)]) (dst:=(some 48)) (by kernel_rfl) [(0,.row 24 (Enc.cells s)),(1,.row 38 (fl r4723.2.1)),(2,.row 38 (fl r4723.2.2)),(3,.row 24 [iS r4723.1,.own 1 0 r4723.2.1.length,.own 2 0 r4723.2.2.length]),(4,.row 29 (Enc.cells r4725)),(5,.row 38 (fl r4727.2.2.2.1)),(6,.row 38 (fl r4727.2.2.2.2)),(7,.row 24 [iS r4727.1,.own 5 0 r4727.2.2.2.1.length,.own 6 0 r4727.2.2.2.2.length]),(8,.row 29 (Enc.cells r4727.2.2.1)),(9,.row 38 (fl r4729.2.2)),(10,.row 24 [iS r4729.1,.v (.slice none 0 0),.own 9 0 r4729.2.2.length]),(11,.row 29 (Enc.cells r4729.2.1)),(12,.row 29 (Enc.cells r4731))] 13 (by kernel_rfl) [] [1,2] (bS r4742) [] (by simp only [push_cast,seval]) (by simp only [push_cast,seval]) (by kernel_rfl) (.inr ⟨by simp only [push_cast,seval],by simp only [push_cast,seval]⟩) (by simp only [push_cast,seval]) (by simp only [push_cast,seval]) ?_
     refine rk 2 ?_
     refine rf [(1,iS n),(2,iS bits),(3,.ptr 0 0),(9,.ptr 7 0),(10,iS r4727.2.1),(11,.ptr 8 0),(12,.ptr 10 0),(13,.ptr 11 0),(14,.ptr 12 0),(50,bS (!r4742))] [(0,.row 24 (Enc.cells s)),(1,.row 38 (fl r4723.2.1)),(2,.row 38 (fl r4723.2.2)),(3,.row 24 [iS r4723.1,.own 1 0 r4723.2.1.length,.own 2 0 r4723.2.2.length]),(4,.row 29 (Enc.cells r4725)),(5,.row 38 (fl r4727.2.2.2.1)),(6,.row 38 (fl r4727.2.2.2.2)),(7,.row 24 [iS r4727.1,.own 5 0 r4727.2.2.2.1.length,.own 6 0 r4727.2.2.2.2.length]),(8,.row 29 (Enc.cells r4727.2.2.1)),(9,.row 38 (fl r4729.2.2)),(10,.row 24 [iS r4729.1,.v (.slice none 0 0),.own 9 0 r4729.2.2.length]),(11,.row 29 (Enc.cells r4729.2.1)),(12,.row 29 (Enc.cells r4731))] 13 (by kernel_rfl) ?_
     exact hK4740 (r4727.2.1,(!r4742),r4727.1,r4727.2.2.1,r4729.1,r4729.2.1,r4731,r4727.2.2.2.1,r4727.2.2.2.2,r4729.2.2) _ _ _ h (leSt_m [(0,0),(1,7),(2,8),(3,10),(4,11),(5,12),(6,5),(7,6),(8,9)] [] (by (try simp only [g4741]) <;> simp only [push_cast,seval]) (by (try simp only [g4741]) <;> simp only [push_cast,seval]) rfl rfl rfl)
   ·rintro ⟨xat2,t50q2,c1_Bits2,c2q4,c3_Bits2,c4q3,c5q2,c6q2,c7q2,c8q2⟩ h
    try dsimp only at h ⊢
    unfold taskmilllaw_BuddyTakes_j9 at h
    refine cond_sx h (by kernel_rfl) (fun g4843 h=>?_) (fun g4843 h=>?_)
    ·refine seq_np ?_
     refine reg_f ?_
     refine rk 1 ?_
     refine rf [(6,bS false)] [(0,.row 24 (Enc.cells s)),(1,.row 24 [iS c1_Bits2,.own 6 0 c6q2.length,.own 7 0 c7q2.length]),(2,.row 29 (Enc.cells c2q4)),(3,.row 24 [iS c3_Bits2,.v (.slice none 0 0),.own 8 0 c8q2.length]),(4,.row 29 (Enc.cells c4q3)),(5,.row 29 (Enc.cells c5q2)),(6,.row 38 (fl c6q2)),(7,.row 38 (fl c7q2)),(8,.row 38 (fl c8q2))] 9 (by kernel_rfl) ?_
     refine wk_id ?_
     obtain rfl:=Option.some.inj h
     refine ret_at (bS false) (by kernel_rfl) ?_
     exact ret_e [] [] (by simp only [push_cast,seval]) (by simp only [push_cast,seval]) rfl rfl rfl
    ·refine wk_id ?_
     refine seq_cut (A:=Unit) (fun a=>([(1,iS n),(3,.ptr 0 0),(9,.ptr 1 0),(10,iS xat2),(11,.ptr 2 0),(14,.ptr 3 0)],[(0,.row 24 (Enc.cells s)),(1,.row 24 [iS c1_Bits2,.own 4 0 c6q2.length,.own 5 0 c7q2.length]),(2,.row 29 (Enc.cells c2q4)),(3,.row 29 (Enc.cells c5q2)),(4,.row 38 (fl c6q2)),(5,.row 38 (fl c7q2))],6)) (fun a=>(taskmilllaw_BuddyTakes_j6 s n xat2 c1_Bits2 c2q4 c5q2 c6q2 c7q2) = some r) (fun K4759 hK4759=>?_) ?_
     ·refine seq_cut (A:=Unit) (fun _=>([(1,iS n),(2,iS bits),(3,.ptr 0 0),(9,.ptr 1 0),(10,iS xat2),(11,.ptr 2 0),(12,.ptr 3 0),(13,.ptr 4 0),(14,.ptr 5 0),(56,bS ((decide (bits < 0)) || (decide ((30:Int) < bits))))],[(0,.row 24 (Enc.cells s)),(1,.row 24 [iS c1_Bits2,.own 6 0 c6q2.length,.own 7 0 c7q2.length]),(2,.row 29 (Enc.cells c2q4)),(3,.row 24 [iS c3_Bits2,.v (.slice none 0 0),.own 8 0 c8q2.length]),(4,.row 29 (Enc.cells c4q3)),(5,.row 29 (Enc.cells c5q2)),(6,.row 38 (fl c6q2)),(7,.row 38 (fl c7q2)),(8,.row 38 (fl c8q2))],9)) (fun _=>True) (fun K4761 hK4761=>?_) (fun _ _=>?_)
      ·refine reg_f ?_
       refine rk 3 ?_
       refine run_split 53 (decide (bits < 0)) (.inl (by kernel_rfl)) (fun g4762=>?_) (fun g4762=>?_)
       ·refine rk 3 ?_
        refine rf [(1,iS n),(2,iS bits),(3,.ptr 0 0),(9,.ptr 1 0),(10,iS xat2),(11,.ptr 2 0),(12,.ptr 3 0),(13,.ptr 4 0),(14,.ptr 5 0),(56,bS true)] [(0,.row 24 (Enc.cells s)),(1,.row 24 [iS c1_Bits2,.own 6 0 c6q2.length,.own 7 0 c7q2.length]),(2,.row 29 (Enc.cells c2q4)),(3,.row 24 [iS c3_Bits2,.v (.slice none 0 0),.own 8 0 c8q2.length]),(4,.row 29 (Enc.cells c4q3)),(5,.row 29 (Enc.cells c5q2)),(6,.row 38 (fl c6q2)),(7,.row 38 (fl c7q2)),(8,.row 38 (fl c8q2))] 9 (by kernel_rfl) ?_
        exact hK4761 () _ _ _ trivial (leSt_m [(0,0),(1,1),(2,2),(3,3),(4,4),(5,5),(6,6),(7,7),(8,8)] [] (by (try simp only [g4762]) <;> simp only [push_cast,seval]) (by (try simp only [g4762]) <;> simp only [push_cast,seval]) rfl rfl rfl)
       ·refine rk 3 ?_
        refine rf [(1,iS n),(2,iS bits),(3,.ptr 0 0),(9,.ptr 1 0),(10,iS xat2),(11,.ptr 2 0),(12,.ptr 3 0),(13,.ptr 4 0),(14,.ptr 5 0),(56,bS (decide ((30:Int) < bits)))] [(0,.row 24 (Enc.cells s)),(1,.row 24 [iS c1_Bits2,.own 6 0 c6q2.length,.own 7 0 c7q2.length]),(2,.row 29 (Enc.cells c2q4)),(3,.row 24 [iS c3_Bits2,.v (.slice none 0 0),.own 8 0 c8q2.length]),(4,.row 29 (Enc.cells c4q3)),(5,.row 29 (Enc.cells c5q2)),(6,.row 38 (fl c6q2)),(7,.row 38 (fl c7q2)),(8,.row 38 (fl c8q2))] 9 (by kernel_rfl) ?_
        exact hK4761 () _ _ _ trivial (leSt_m [(0,0),(1,1),(2,2),(3,3),(4,4),(5,5),(6,6),(7,7),(8,8)] [] (by (try simp only [g4762]) <;> simp only [push_cast,seval]) (by (try simp only [g4762]) <;> simp only [push_cast,seval]) rfl rfl rfl)
      ·dsimp only
       refine cond_sx h (by kernel_rfl) (fun g4783 h=>?_) (fun g4783 h=>?_)
       ·refine seq_cut (A:=Bool) (fun a=>([(1,iS n),(3,.ptr 0 0),(9,.ptr 1 0),(10,iS xat2),(11,.ptr 2 0),(14,.ptr 3 0),(65,bS a)],[(0,.row 24 (Enc.cells s)),(1,.row 24 [iS c1_Bits2,.own 4 0 c6q2.length,.own 5 0 c7q2.length]),(2,.row 29 (Enc.cells c2q4)),(3,.row 29 (Enc.cells c5q2)),(4,.row 38 (fl c6q2)),(5,.row 38 (fl c7q2))],6)) (fun a=>(taskmilllaw_BuddyTakes_j7 s n xat2 c1_Bits2 c2q4 c5q2 c6q2 c7q2 a) = some r) (fun K4767 hK4767=>?_) ?_
        ·refine reg_t ?_
         refine rk 1 ?_
         obtain ⟨r4768,hr4768,h⟩:=bind_sx h
         refine run_call 15 [iS 3,iS (-1)] (some 58) (by kernel_rfl) ?_
         refine callE_0 (taskmillref_F_spec 3 (-1) r4768 hr4768) (by simp only [push_cast,seval]) (by simp only [push_cast,seval]) ?_
         refine back_t ?_
         refine rk 2 ?_
         refine run_br h 60 (.inl (by kernel_rfl)) (fun g4769 h=>?_) (fun g4769 h=>?_)
         ·refine rk 5 ?_
          refine rt [(1,iS n),(3,.ptr 0 0),(9,.ptr 1 0),(10,iS xat2),(11,.ptr 2 0),(14,.ptr 5 0),(65,bS true)] [(0,.row 24 (Enc.cells s)),(1,.row 24 [iS c1_Bits2,.own 6 0 c6q2.length,.own 7 0 c7q2.length]),(2,.row 29 (Enc.cells c2q4)),(3,.row 24 [iS c3_Bits2,.v (.slice none 0 0),.own 8 0 c8q2.length]),(4,.row 29 (Enc.cells c4q3)),(5,.row 29 (Enc.cells c5q2)),(6,.row 38 (fl c6q2)),(7,.row 38 (fl c7q2)),(8,.row 38 (fl c8q2))] 18 follows (by kernel_rfl) ?_
          exact hK4767 (true) _ _ _ h (leSt_m [(0,0),(1,1),(2,2),(3,5),(4,6),(5,7)] [] (by (try simp only [g4769]) <;> simp only [push_cast,seval]) (by (try simp only [g4769]) <;> simp only [push_cast,seval]) rfl rfl rfl)
         ·refine rk 2 ?_
          obtain ⟨r4770,hr4770,h⟩:=bind_sx h
          refine call_x (taskmillref_SameSpace_spec (Space.mk c3_Bits2 [] c8q2) (Space.mk 0 [] []) r4770 hr4770) (args:=[.agg [iS c3_Bits2,.v (.slice none 0 0),.own 8 0 c8q2.length],.agg [iS 0,.v (.slice none 0 0),.v (.slice none 0 0)]]) (dst:=(some 63)) (by kernel_rfl) [(0,.row 24 (Enc.cells s)),(1,.row 24 [iS c1_Bits2,.own 6 0 c6q2.length,.own 7 0 c7q2.length]),(2,.row 29 (Enc.cells c2q4)),(3,.row 24 [iS c3_Bits2,.v (.slice none 0 0),.own 8 0 c8q2.length]),(4,.row 29 (Enc.cells c4q3)),(5,.row 29 (Enc.cells c5q2)),(6,.row 38 (fl c6q2)),(7,.row 38 (fl c7q2)),(8,.row 38 (fl c8q2))] 15 (by kernel_rfl) [] [8] (bS r4770) [] (by simp only [push_cast,seval]) (by simp only [push_cast,seval]) (by kernel_rfl) (.inr ⟨by simp only [push_cast,seval],by simp only [push_cast,seval]⟩) (by simp only [push_cast,seval]) (by simp only [push_cast,seval]) ?_
          refine rk 2 ?_
          refine rt [(1,iS n),(3,.ptr 0 0),(9,.ptr 1 0),(10,iS xat2),(11,.ptr 2 0),(14,.ptr 5 0),(65,bS (!r4770))] [(0,.row 24 (Enc.cells s)),(1,.row 24 [iS c1_Bits2,.own 6 0 c6q2.length,.own 7 0 c7q2.length]),(2,.row 29 (Enc.cells c2q4)),(3,.row 24 [iS c3_Bits2,.v (.slice none 0 0),.own 8 0 c8q2.length]),(4,.row 29 (Enc.cells c4q3)),(5,.row 29 (Enc.cells c5q2)),(6,.row 38 (fl c6q2)),(7,.row 38 (fl c7q2)),(8,.row 38 (fl c8q2))] 18 follows (by kernel_rfl) ?_
          exact hK4767 ((!r4770)) _ _ _ h (leSt_m [(0,0),(1,1),(2,2),(3,5),(4,6),(5,7)] [] (by (try simp only [g4769]) <;> simp only [push_cast,seval]) (by (try simp only [g4769]) <;> simp only [push_cast,seval]) rfl rfl rfl)
        ·rintro t65q2 h
         try dsimp only at h ⊢
         unfold taskmilllaw_BuddyTakes_j7 at h
         refine cond_sx h (by kernel_rfl) (fun g4771 h=>?_) (fun g4771 h=>?_)
         ·refine seq_np ?_
          refine reg_f ?_
          refine rk 1 ?_
          refine rf [(6,bS false)] [(0,.row 24 (Enc.cells s)),(1,.row 24 [iS c1_Bits2,.own 4 0 c6q2.length,.own 5 0 c7q2.length]),(2,.row 29 (Enc.cells c2q4)),(3,.row 29 (Enc.cells c5q2)),(4,.row 38 (fl c6q2)),(5,.row 38 (fl c7q2))] 6 (by kernel_rfl) ?_
          refine wk_id ?_
          obtain rfl:=Option.some.inj h
          refine ret_at (bS false) (by kernel_rfl) ?_
          exact ret_e [] [] (by simp only [push_cast,seval]) (by simp only [push_cast,seval]) rfl rfl rfl
         ·exact hK4759 () _ _ _ h (leSt_m [(0,0),(1,1),(2,2),(3,3),(4,4),(5,5)] [] (by simp only [push_cast,seval]) (by simp only [push_cast,seval]) rfl rfl rfl)
       ·refine seq_cut (A:=Bool) (fun a=>([(1,iS n),(3,.ptr 0 0),(9,.ptr 1 0),(10,iS xat2),(11,.ptr 2 0),(14,.ptr 3 0),(79,bS a)],[(0,.row 24 (Enc.cells s)),(1,.row 24 [iS c1_Bits2,.own 4 0 c6q2.length,.own 5 0 c7q2.length]),(2,.row 29 (Enc.cells c2q4)),(3,.row 29 (Enc.cells c5q2)),(4,.row 38 (fl c6q2)),(5,.row 38 (fl c7q2))],6)) (fun a=>(taskmilllaw_BuddyTakes_j8 s n xat2 c1_Bits2 c2q4 c5q2 c6q2 c7q2 a) = some r) (fun K4777 hK4777=>?_) ?_
        ·refine reg_t ?_
         refine rk 4 ?_
         refine run_br h 69 (.inl (by kernel_rfl)) (fun g4778 h=>?_) (fun g4778 h=>?_)
         ·refine rk 10 ?_
          refine rt [(1,iS n),(3,.ptr 0 0),(9,.ptr 1 0),(10,iS xat2),(11,.ptr 2 0),(14,.ptr 5 0),(79,bS true)] [(0,.row 24 (Enc.cells s)),(1,.row 24 [iS c1_Bits2,.own 6 0 c6q2.length,.own 7 0 c7q2.length]),(2,.row 29 (Enc.cells c2q4)),(3,.row 24 [iS c3_Bits2,.v (.slice none 0 0),.own 8 0 c8q2.length]),(4,.row 29 (Enc.cells c4q3)),(5,.row 29 (Enc.cells c5q2)),(6,.row 38 (fl c6q2)),(7,.row 38 (fl c7q2)),(8,.row 38 (fl c8q2))] 23 follows (by kernel_rfl) ?_
          exact hK4777 (true) _ _ _ h (leSt_m [(0,0),(1,1),(2,2),(3,5),(4,6),(5,7)] [] (by (try simp only [g4778]) <;> simp only [push_cast,seval]) (by (try simp only [g4778]) <;> simp only [push_cast,seval]) rfl rfl rfl)
         ·refine chk_sx h (fun g4780 h=>?_)
          have k4779:0≤bits:=by first | simpa only [Bool.and_eq_true,decide_eq_true_eq,bne_iff_ne,ne_eq] using g4780 | (simp at g4780 ⊢; omega) | simp
          refine rs 7 [none,none,none,some ⟨iS (IntKind.i64.wrap ((1:Int) * 2 ^ (min (bits).toNat (IntKind.i64).bits))),[],16,[]⟩] _ (by kernel_rfl) (allP_cons (ob_p (v:=iS (IntKind.i64.wrap ((1:Int) * 2 ^ (min (bits).toNat (IntKind.i64).bits)))) (nx:=16) (r:=[]) k4779) allP_nil) ?_
          obtain ⟨r4781,hr4781,h⟩:=bind_sx h
          refine call_x (taskmillref_SameSpace_spec (Space.mk c3_Bits2 [] c8q2) (Space.mk bits [] ([(GBlock.mk 0 (IntKind.i64.wrap ((1:Int) * 2 ^ (min (bits).toNat (IntKind.i64).bits))))]:List GBlock)) r4781 hr4781) (args:=[.agg [iS c3_Bits2,.v (.slice none 0 0),.own 8 0 c8q2.length],.agg [iS bits,.v (.slice none 0 0),.own 18 0 ([(GBlock.mk 0 (IntKind.i64.wrap ((1:Int) * 2 ^ (min (bits).toNat (IntKind.i64).bits))))]:List GBlock).length]]) (dst:=(some 77)) (by kernel_rfl) [(0,.row 24 (Enc.cells s)),(1,.row 24 [iS c1_Bits2,.own 6 0 c6q2.length,.own 7 0 c7q2.length]),(2,.row 29 (Enc.cells c2q4)),(3,.row 24 [iS c3_Bits2,.v (.slice none 0 0),.own 8 0 c8q2.length]),(4,.row 29 (Enc.cells c4q3)),(5,.row 29 (Enc.cells c5q2)),(6,.row 38 (fl c6q2)),(7,.row 38 (fl c7q2)),(8,.row 38 (fl c8q2)),(18,.row 38 (fl ([(GBlock.mk 0 (IntKind.i64.wrap ((1:Int) * 2 ^ (min (bits).toNat (IntKind.i64).bits))))]:List GBlock)))] 21 (by kernel_rfl) [] [8,18] (bS r4781) [] (by simp only [push_cast,seval]) (by simp only [push_cast,seval]) (by kernel_rfl) (.inr ⟨by simp only [push_cast,seval],by simp only [push_cast,seval]⟩) (by simp only [push_cast,seval]) (by simp only [push_cast,seval]) ?_
          refine rk 2 ?_
          refine rt [(1,iS n),(3,.ptr 0 0),(9,.ptr 1 0),(10,iS xat2),(11,.ptr 2 0),(14,.ptr 5 0),(79,bS (!r4781))] [(0,.row 24 (Enc.cells s)),(1,.row 24 [iS c1_Bits2,.own 6 0 c6q2.length,.own 7 0 c7q2.length]),(2,.row 29 (Enc.cells c2q4)),(3,.row 24 [iS c3_Bits2,.v (.slice none 0 0),.own 8 0 c8q2.length]),(4,.row 29 (Enc.cells c4q3)),(5,.row 29 (Enc.cells c5q2)),(6,.row 38 (fl c6q2)),(7,.row 38 (fl c7q2)),(8,.row 38 (fl c8q2)),(18,.row 38 (fl ([(GBlock.mk 0 (IntKind.i64.wrap ((1:Int) * 2 ^ (min (bits).toNat (IntKind.i64).bits))))]:List GBlock)))] 24 follows (by kernel_rfl) ?_
          exact hK4777 ((!r4781)) _ _ _ h (leSt_m [(0,0),(1,1),(2,2),(3,5),(4,6),(5,7)] [] (by (try simp only [g4778]) <;> simp only [push_cast,seval]) (by (try simp only [g4778]) <;> simp only [push_cast,seval]) rfl rfl rfl)
        ·rintro t79q2 h
         try dsimp only at h ⊢
         unfold taskmilllaw_BuddyTakes_j8 at h
         refine cond_sx h (by kernel_rfl) (fun g4782 h=>?_) (fun g4782 h=>?_)
         ·refine seq_np ?_
          refine reg_f ?_
          refine rk 1 ?_
          refine rf [(6,bS false)] [(0,.row 24 (Enc.cells s)),(1,.row 24 [iS c1_Bits2,.own 4 0 c6q2.length,.own 5 0 c7q2.length]),(2,.row 29 (Enc.cells c2q4)),(3,.row 29 (Enc.cells c5q2)),(4,.row 38 (fl c6q2)),(5,.row 38 (fl c7q2))] 6 (by kernel_rfl) ?_
          refine wk_id ?_
          obtain rfl:=Option.some.inj h
          refine ret_at (bS false) (by kernel_rfl) ?_
          exact ret_e [] [] (by simp only [push_cast,seval]) (by simp only [push_cast,seval]) rfl rfl rfl
         ·exact hK4759 () _ _ _ h (leSt_m [(0,0),(1,1),(2,2),(3,3),(4,4),(5,5)] [] (by simp only [push_cast,seval]) (by simp only [push_cast,seval]) rfl rfl rfl)
     ·rintro _ h
      try dsimp only at h ⊢
      unfold taskmilllaw_BuddyTakes_j6 at h
      refine seq_cut (A:=Fault) (fun a=>([(1,iS n),(3,.ptr 0 0),(9,.ptr 1 0),(10,iS xat2),(11,.ptr 2 0),(14,.ptr 3 0)],[(0,.row 24 (Enc.cells s)),(1,.row 24 [iS c1_Bits2,.own 4 0 c6q2.length,.own 5 0 c7q2.length]),(2,.row 29 (Enc.cells c2q4)),(3,.row 29 (Enc.cells a)),(4,.row 38 (fl c6q2)),(5,.row 38 (fl c7q2))],6)) (fun a=>(taskmilllaw_BuddyTakes_j5 s n xat2 c1_Bits2 c2q4 c6q2 c7q2 a) = some r) (fun K4789 hK4789=>?_) ?_
      ·refine seq_cut (A:=Unit) (fun _=>([(1,iS n),(3,.ptr 0 0),(9,.ptr 1 0),(10,iS xat2),(11,.ptr 2 0),(14,.ptr 3 0),(90,bS ((c5q2.Code == 0) && ((decide (n < 1)) || (decide ((1073741824:Int) < n)))))],[(0,.row 24 (Enc.cells s)),(1,.row 24 [iS c1_Bits2,.own 4 0 c6q2.length,.own 5 0 c7q2.length]),(2,.row 29 (Enc.cells c2q4)),(3,.row 29 (Enc.cells c5q2)),(4,.row 38 (fl c6q2)),(5,.row 38 (fl c7q2))],6)) (fun _=>True) (fun K4792 hK4792=>?_) (fun _ _=>?_)
       ·refine reg_f ?_
        refine rk 4 ?_
        refine run_split 83 (c5q2.Code == 0) (.inl (by kernel_rfl)) (fun g4793=>?_) (fun g4793=>?_)
        ·refine rk 3 ?_
         refine run_split 86 (decide (n < 1)) (.inr (by kernel_rfl)) (fun g4794=>?_) (fun g4794=>?_)
         ·refine rk 4 ?_
          refine rf [(1,iS n),(3,.ptr 0 0),(9,.ptr 1 0),(10,iS xat2),(11,.ptr 2 0),(14,.ptr 3 0),(90,bS true)] [(0,.row 24 (Enc.cells s)),(1,.row 24 [iS c1_Bits2,.own 4 0 c6q2.length,.own 5 0 c7q2.length]),(2,.row 29 (Enc.cells c2q4)),(3,.row 29 (Enc.cells c5q2)),(4,.row 38 (fl c6q2)),(5,.row 38 (fl c7q2))] 6 (by kernel_rfl) ?_
          exact hK4792 () _ _ _ trivial (leSt_m [(0,0),(1,1),(2,2),(3,3),(4,4),(5,5)] [] (by first | ((try simp only [g4793,g4794]) <;> simp only [push_cast,seval]; done) | ((try simp only [g4793]); (try simp only [g4794]); simp only [push_cast,seval]; done) | (exfalso; clear h; simp_all; done)) (by first | ((try simp only [g4793,g4794]) <;> simp only [push_cast,seval]; done) | ((try simp only [g4793]); (try simp only [g4794]); simp only [push_cast,seval]; done) | (exfalso; clear h; simp_all; done)) rfl rfl rfl)
         ·refine rk 4 ?_
          refine rf [(1,iS n),(3,.ptr 0 0),(9,.ptr 1 0),(10,iS xat2),(11,.ptr 2 0),(14,.ptr 3 0),(90,bS (decide ((1073741824:Int) < n)))] [(0,.row 24 (Enc.cells s)),(1,.row 24 [iS c1_Bits2,.own 4 0 c6q2.length,.own 5 0 c7q2.length]),(2,.row 29 (Enc.cells c2q4)),(3,.row 29 (Enc.cells c5q2)),(4,.row 38 (fl c6q2)),(5,.row 38 (fl c7q2))] 6 (by kernel_rfl) ?_
          exact hK4792 () _ _ _ trivial (leSt_m [(0,0),(1,1),(2,2),(3,3),(4,4),(5,5)] [] (by first | ((try simp only [g4793,g4794]) <;> simp only [push_cast,seval]; done) | ((try simp only [g4793]); (try simp only [g4794]); simp only [push_cast,seval]; done) | (exfalso; clear h; simp_all; done)) (by first | ((try simp only [g4793,g4794]) <;> simp only [push_cast,seval]; done) | ((try simp only [g4793]); (try simp only [g4794]); simp only [push_cast,seval]; done) | (exfalso; clear h; simp_all; done)) rfl rfl rfl)
        ·refine rk 7 ?_
         refine rf [(1,iS n),(3,.ptr 0 0),(9,.ptr 1 0),(10,iS xat2),(11,.ptr 2 0),(14,.ptr 3 0),(90,bS false)] [(0,.row 24 (Enc.cells s)),(1,.row 24 [iS c1_Bits2,.own 4 0 c6q2.length,.own 5 0 c7q2.length]),(2,.row 29 (Enc.cells c2q4)),(3,.row 29 (Enc.cells c5q2)),(4,.row 38 (fl c6q2)),(5,.row 38 (fl c7q2))] 6 (by kernel_rfl) ?_
         exact hK4792 () _ _ _ trivial (leSt_m [(0,0),(1,1),(2,2),(3,3),(4,4),(5,5)] [] (by (try simp only [g4793]) <;> simp only [push_cast,seval]) (by (try simp only [g4793]) <;> simp only [push_cast,seval]) rfl rfl rfl)
       ·dsimp only
        refine cond_sx h (by kernel_rfl) (fun g4797 h=>?_) (fun g4797 h=>?_)
        ·refine reg_f ?_
         obtain ⟨r4796,hr4796,h⟩:=bind_sx h
         refine run_call 15 [iS 3,iS (-1)] (some 91) (by kernel_rfl) ?_
         refine call_0 (taskmillref_F_spec 3 (-1) r4796 hr4796) (by simp only [push_cast,seval]) (by simp only [push_cast,seval]) ?_
         refine back_f ?_
         refine rk 1 ?_
         refine rf [(1,iS n),(3,.ptr 0 0),(9,.ptr 1 0),(10,iS xat2),(11,.ptr 2 0),(14,.ptr 3 0)] [(0,.row 24 (Enc.cells s)),(1,.row 24 [iS c1_Bits2,.own 4 0 c6q2.length,.own 5 0 c7q2.length]),(2,.row 29 (Enc.cells c2q4)),(3,.row 29 (Enc.cells r4796)),(4,.row 38 (fl c6q2)),(5,.row 38 (fl c7q2))] 6 (by kernel_rfl) ?_
         exact hK4789 (r4796) _ _ _ h (leSt_m [(0,0),(1,1),(2,2),(3,3),(4,4),(5,5)] [] (by simp only [push_cast,seval]) (by simp only [push_cast,seval]) rfl rfl rfl)
        ·exact hK4789 (c5q2) _ _ _ h (leSt_m [(0,0),(1,1),(2,2),(3,3),(4,4),(5,5)] [] (by simp only [push_cast,seval]) (by simp only [push_cast,seval]) rfl rfl rfl)
      ·rintro c3q2 h
       try dsimp only at h ⊢
       unfold taskmilllaw_BuddyTakes_j5 at h
       refine seq_np ?_
       refine reg_f ?_
       refine rk 1 ?_
       refine rf [(1,iS n),(3,.ptr 0 0),(9,.ptr 1 0),(10,iS xat2),(11,.ptr 2 0),(14,.ptr 3 0),(15,.ptr 6 0)] [(0,.row 24 (Enc.cells s)),(1,.row 24 [iS c1_Bits2,.own 4 0 c6q2.length,.own 5 0 c7q2.length]),(2,.row 29 (Enc.cells c2q4)),(3,.row 29 (Enc.cells c3q2)),(4,.row 38 (fl c6q2)),(5,.row 38 (fl c7q2)),(6,.row 24 [iS 0,.v (.slice none 0 0),.v (.slice none 0 0)])] 7 (by kernel_rfl) ?_
       refine wk_id ?_
       refine seq_np ?_
       refine reg_f ?_
       refine rk 1 ?_
       refine rf [(1,iS n),(3,.ptr 0 0),(9,.ptr 1 0),(10,iS xat2),(11,.ptr 2 0),(14,.ptr 3 0),(15,.ptr 6 0),(16,iS 0)] [(0,.row 24 (Enc.cells s)),(1,.row 24 [iS c1_Bits2,.own 4 0 c6q2.length,.own 5 0 c7q2.length]),(2,.row 29 (Enc.cells c2q4)),(3,.row 29 (Enc.cells c3q2)),(4,.row 38 (fl c6q2)),(5,.row 38 (fl c7q2)),(6,.row 24 [iS 0,.v (.slice none 0 0),.v (.slice none 0 0)])] 7 (by kernel_rfl) ?_
       refine wk_id ?_
       refine seq_cut (A:=Int×Fault×Space) (fun a=>([(9,.ptr 0 0),(10,iS xat2),(11,.ptr 1 0),(14,.ptr 2 0),(15,.ptr 3 0),(16,iS a.1)],[(0,.row 24 [iS c1_Bits2,.own 4 0 c6q2.length,.own 5 0 c7q2.length]),(1,.row 29 (Enc.cells c2q4)),(2,.row 29 (Enc.cells a.2.1)),(3,.row 24 (Enc.cells a.2.2)),(4,.row 38 (fl c6q2)),(5,.row 38 (fl c7q2))],6)) (fun a=>(taskmilllaw_BuddyTakes_j3 xat2 c1_Bits2 c2q4 c6q2 c7q2 a.1 a.2.1 a.2.2) = some r) (fun K4807 hK4807=>?_) ?_
       ·refine seq_np ?_
        refine reg_f ?_
        refine rk 3 ?_
        refine rf [(1,iS n),(3,.ptr 0 0),(9,.ptr 1 0),(10,iS xat2),(11,.ptr 2 0),(14,.ptr 3 0),(15,.ptr 6 0),(16,iS 0),(94,bS (c3q2.Code == 0))] [(0,.row 24 (Enc.cells s)),(1,.row 24 [iS c1_Bits2,.own 4 0 c6q2.length,.own 5 0 c7q2.length]),(2,.row 29 (Enc.cells c2q4)),(3,.row 29 (Enc.cells c3q2)),(4,.row 38 (fl c6q2)),(5,.row 38 (fl c7q2)),(6,.row 24 [iS 0,.v (.slice none 0 0),.v (.slice none 0 0)])] 7 (by kernel_rfl) ?_
        refine wk_id ?_
        refine cond_sx h (by kernel_rfl) (fun g4822 h=>?_) (fun g4822 h=>?_)
        ·refine seq_np ?_
         refine reg_f ?_
         refine rk 2 ?_
         obtain ⟨r4809,hr4809,h⟩:=bind_sx h
         refine run_call 16 [.agg (Enc.cells s),iS n] (some 98) (by kernel_rfl) ?_
         refine call_0 (taskmillref_TakenOf_spec s n r4809 hr4809) (by simp only [push_cast,seval]) (by simp only [push_cast,seval]) ?_
         refine back_f ?_
         refine rk 8 ?_
         refine rf [(9,.ptr 1 0),(10,iS xat2),(11,.ptr 2 0),(14,.ptr 3 0),(15,.ptr 6 0),(17,.ptr 7 0),(18,iS r4809.2.2.2.1),(19,bS r4809.2.2.2.2)] [(0,.row 24 (Enc.cells s)),(1,.row 24 [iS c1_Bits2,.own 4 0 c6q2.length,.own 5 0 c7q2.length]),(2,.row 29 (Enc.cells c2q4)),(3,.row 29 (Enc.cells c3q2)),(4,.row 38 (fl c6q2)),(5,.row 38 (fl c7q2)),(6,.row 24 [iS 0,.v (.slice none 0 0),.v (.slice none 0 0)]),(7,.row 24 [iS r4809.1,.sl r4809.2.1.length (fl r4809.2.1),.sl r4809.2.2.1.length (fl r4809.2.2.1)])] 8 (by kernel_rfl) ?_
         refine wk_id ?_
         refine seq_cut (A:=Int×Fault×Space) (fun a=>([(9,.ptr 0 0),(10,iS xat2),(11,.ptr 1 0),(14,.ptr 2 0),(15,.ptr 3 0),(17,.ptr 4 0),(18,iS a.1)],[(0,.row 24 [iS c1_Bits2,.own 5 0 c6q2.length,.own 6 0 c7q2.length]),(1,.row 29 (Enc.cells c2q4)),(2,.row 29 (Enc.cells a.2.1)),(3,.row 24 [iS 0,.v (.slice none 0 0),.v (.slice none 0 0)]),(4,.row 24 (Enc.cells a.2.2)),(5,.row 38 (fl c6q2)),(6,.row 38 (fl c7q2))],7)) (fun a=>(taskmilllaw_BuddyTakes_j4 xat2 c1_Bits2 c2q4 c6q2 c7q2 a.1 a.2.1 a.2.2) = some r) (fun K4815 hK4815=>?_) ?_
         ·refine seq_np ?_
          refine reg_f ?_
          refine rk 2 ?_
          refine rf [(9,.ptr 1 0),(10,iS xat2),(11,.ptr 2 0),(14,.ptr 3 0),(15,.ptr 6 0),(17,.ptr 7 0),(18,iS r4809.2.2.2.1),(103,bS (!r4809.2.2.2.2))] [(0,.row 24 (Enc.cells s)),(1,.row 24 [iS c1_Bits2,.own 4 0 c6q2.length,.own 5 0 c7q2.length]),(2,.row 29 (Enc.cells c2q4)),(3,.row 29 (Enc.cells c3q2)),(4,.row 38 (fl c6q2)),(5,.row 38 (fl c7q2)),(6,.row 24 [iS 0,.v (.slice none 0 0),.v (.slice none 0 0)]),(7,.row 24 [iS r4809.1,.sl r4809.2.1.length (fl r4809.2.1),.sl r4809.2.2.1.length (fl r4809.2.2.1)])] 8 (by kernel_rfl) ?_
          refine wk_id ?_
          refine cond_sx h (by kernel_rfl) (fun g4821 h=>?_) (fun g4821 h=>?_)
          ·refine reg_f ?_
           obtain ⟨r4817,hr4817,h⟩:=bind_sx h
           refine run_call 15 [iS 6,iS 0] (some 104) (by kernel_rfl) ?_
           refine call_0 (taskmillref_F_spec 6 0 r4817 hr4817) (by simp only [push_cast,seval]) (by simp only [push_cast,seval]) ?_
           refine back_f ?_
           refine rk 1 ?_
           refine rf [(9,.ptr 1 0),(10,iS xat2),(11,.ptr 2 0),(14,.ptr 3 0),(15,.ptr 6 0),(17,.ptr 7 0),(18,iS r4809.2.2.2.1)] [(0,.row 24 (Enc.cells s)),(1,.row 24 [iS c1_Bits2,.own 4 0 c6q2.length,.own 5 0 c7q2.length]),(2,.row 29 (Enc.cells c2q4)),(3,.row 29 (Enc.cells r4817)),(4,.row 38 (fl c6q2)),(5,.row 38 (fl c7q2)),(6,.row 24 [iS 0,.v (.slice none 0 0),.v (.slice none 0 0)]),(7,.row 24 [iS r4809.1,.sl r4809.2.1.length (fl r4809.2.1),.sl r4809.2.2.1.length (fl r4809.2.2.1)])] 8 (by kernel_rfl) ?_
           exact hK4815 (r4809.2.2.2.1,r4817,(Space.mk r4809.1 r4809.2.1 r4809.2.2.1)) _ _ _ h (leSt_m [(0,1),(1,2),(2,3),(3,6),(4,7),(5,4),(6,5)] [] (by simp only [push_cast,seval]) (by simp only [push_cast,seval]) rfl rfl rfl)
          ·refine seq_np ?_
           refine reg_f ?_
           refine rk 8 ?_
           refine rf [(9,.ptr 1 0),(10,iS xat2),(11,.ptr 2 0),(14,.ptr 3 0),(15,.ptr 6 0),(17,.ptr 7 0),(18,iS r4809.2.2.2.1),(112,bS (decide ((5000:Int) < (IntKind.i64.wrap ((r4809.2.1.length:Int)+(r4809.2.2.1.length:Int))))))] [(0,.row 24 (Enc.cells s)),(1,.row 24 [iS c1_Bits2,.own 4 0 c6q2.length,.own 5 0 c7q2.length]),(2,.row 29 (Enc.cells c2q4)),(3,.row 29 (Enc.cells c3q2)),(4,.row 38 (fl c6q2)),(5,.row 38 (fl c7q2)),(6,.row 24 [iS 0,.v (.slice none 0 0),.v (.slice none 0 0)]),(7,.row 24 [iS r4809.1,.sl r4809.2.1.length (fl r4809.2.1),.sl r4809.2.2.1.length (fl r4809.2.2.1)])] 8 (by kernel_rfl) ?_
           refine wk_id ?_
           refine cond_sx h (by kernel_rfl) (fun g4820 h=>?_) (fun g4820 h=>?_)
           ·refine reg_f ?_
            obtain ⟨r4819,hr4819,h⟩:=bind_sx h
            refine run_call 15 [iS 9,iS 0] (some 113) (by kernel_rfl) ?_
            refine call_0 (taskmillref_F_spec 9 0 r4819 hr4819) (by simp only [push_cast,seval]) (by simp only [push_cast,seval]) ?_
            refine back_f ?_
            refine rk 1 ?_
            refine rf [(9,.ptr 1 0),(10,iS xat2),(11,.ptr 2 0),(14,.ptr 3 0),(15,.ptr 6 0),(17,.ptr 7 0),(18,iS r4809.2.2.2.1)] [(0,.row 24 (Enc.cells s)),(1,.row 24 [iS c1_Bits2,.own 4 0 c6q2.length,.own 5 0 c7q2.length]),(2,.row 29 (Enc.cells c2q4)),(3,.row 29 (Enc.cells r4819)),(4,.row 38 (fl c6q2)),(5,.row 38 (fl c7q2)),(6,.row 24 [iS 0,.v (.slice none 0 0),.v (.slice none 0 0)]),(7,.row 24 [iS r4809.1,.sl r4809.2.1.length (fl r4809.2.1),.sl r4809.2.2.1.length (fl r4809.2.2.1)])] 8 (by kernel_rfl) ?_
            exact hK4815 (r4809.2.2.2.1,r4819,(Space.mk r4809.1 r4809.2.1 r4809.2.2.1)) _ _ _ h (leSt_m [(0,1),(1,2),(2,3),(3,6),(4,7),(5,4),(6,5)] [] (by simp only [push_cast,seval]) (by simp only [push_cast,seval]) rfl rfl rfl)
           ·exact hK4815 (r4809.2.2.2.1,c3q2,(Space.mk r4809.1 r4809.2.1 r4809.2.2.1)) _ _ _ h (leSt_m [(0,1),(1,2),(2,3),(3,6),(4,7),(5,4),(6,5)] [] (by simp only [push_cast,seval]) (by simp only [push_cast,seval]) rfl rfl rfl)
         ·rintro ⟨k2,c2q7,c4q5⟩ h
          try dsimp only at h ⊢
          unfold taskmilllaw_BuddyTakes_j4 at h
          refine seq_np ?_
          refine reg_f ?_
          refine rk 2 ?_
          refine rf [(9,.ptr 0 0),(10,iS xat2),(11,.ptr 1 0),(14,.ptr 2 0),(15,.ptr 3 0),(18,iS k2)] [(0,.row 24 [iS c1_Bits2,.own 5 0 c6q2.length,.own 6 0 c7q2.length]),(1,.row 29 (Enc.cells c2q4)),(2,.row 29 (Enc.cells c2q7)),(3,.row 24 (Enc.cells c4q5)),(4,.row 24 (Enc.cells c4q5)),(5,.row 38 (fl c6q2)),(6,.row 38 (fl c7q2))] 7 (by kernel_rfl) ?_
          refine wk_id ?_
          refine reg_f ?_
          refine rk 2 ?_
          refine rf [(9,.ptr 0 0),(10,iS xat2),(11,.ptr 1 0),(14,.ptr 2 0),(15,.ptr 3 0),(16,iS k2)] [(0,.row 24 [iS c1_Bits2,.own 5 0 c6q2.length,.own 6 0 c7q2.length]),(1,.row 29 (Enc.cells c2q4)),(2,.row 29 (Enc.cells c2q7)),(3,.row 24 (Enc.cells c4q5)),(4,.row 24 (Enc.cells c4q5)),(5,.row 38 (fl c6q2)),(6,.row 38 (fl c7q2))] 7 (by kernel_rfl) ?_
          exact hK4807 (k2,c2q7,c4q5) _ _ _ h (leSt_m [(0,0),(1,1),(2,2),(3,3),(4,5),(5,6)] [] (by simp only [push_cast,seval]) (by simp only [push_cast,seval]) rfl rfl rfl)
        ·exact hK4807 (0,c3q2,(Space.mk 0 [] [])) _ _ _ h (leSt_m [(0,1),(1,2),(2,3),(3,6),(4,4),(5,5)] [] (by simp only [push_cast,seval]) (by simp only [push_cast,seval]) rfl rfl rfl)
       ·rintro ⟨start1,c2q6,c3q3⟩ h
        try dsimp only at h ⊢
        unfold taskmilllaw_BuddyTakes_j3 at h
        refine seq_np ?_
        refine seq_np ?_
        refine reg_f ?_
        refine rk 3 ?_
        refine rf [(9,.ptr 0 0),(10,iS xat2),(14,.ptr 2 0),(15,.ptr 3 0),(16,iS start1),(118,bS (!((c2q4.Code == c2q6.Code) && ((c2q4.At == c2q6.At) && true))))] [(0,.row 24 [iS c1_Bits2,.own 4 0 c6q2.length,.own 5 0 c7q2.length]),(1,.row 29 (Enc.cells c2q4)),(2,.row 29 (Enc.cells c2q6)),(3,.row 24 (Enc.cells c3q3)),(4,.row 38 (fl c6q2)),(5,.row 38 (fl c7q2))] 6 (by kernel_rfl) ?_
        refine wk_id ?_
        refine cond_sx h (by kernel_rfl) (fun g4842 h=>?_) (fun g4842 h=>?_)
        ·refine seq_np ?_
         refine reg_f ?_
         refine rk 1 ?_
         refine rf [(6,bS false)] [(0,.row 24 [iS c1_Bits2,.own 4 0 c6q2.length,.own 5 0 c7q2.length]),(1,.row 29 (Enc.cells c2q4)),(2,.row 29 (Enc.cells c2q6)),(3,.row 24 (Enc.cells c3q3)),(4,.row 38 (fl c6q2)),(5,.row 38 (fl c7q2))] 6 (by kernel_rfl) ?_
         refine wk_id ?_
         obtain rfl:=Option.some.inj h
         refine ret_at (bS false) (by kernel_rfl) ?_
         exact ret_e [] [] (by simp only [push_cast,seval]) (by simp only [push_cast,seval]) rfl rfl rfl
        ·refine wk_id ?_
         refine seq_np ?_
         refine seq_np ?_
         refine reg_f ?_
         refine rk 3 ?_
         refine rf [(9,.ptr 0 0),(10,iS xat2),(15,.ptr 3 0),(16,iS start1),(121,bS (c2q6.Code != 0))] [(0,.row 24 [iS c1_Bits2,.own 4 0 c6q2.length,.own 5 0 c7q2.length]),(1,.row 29 (Enc.cells c2q4)),(2,.row 29 (Enc.cells c2q6)),(3,.row 24 (Enc.cells c3q3)),(4,.row 38 (fl c6q2)),(5,.row 38 (fl c7q2))] 6 (by kernel_rfl) ?_
         refine wk_id ?_
         refine cond_sx h (by kernel_rfl) (fun g4841 h=>?_) (fun g4841 h=>?_)
         ·refine seq_cut (A:=Bool) (fun a=>([(6,bS a)],[],0)) (fun a=>(taskmilllaw_BuddyTakes_j1 a) = some r) (fun K4832 hK4832=>?_) ?_
          ·refine reg_f ?_
           refine rk 3 ?_
           refine run_br h 124 (.inl (by kernel_rfl)) (fun g4833 h=>?_) (fun g4833 h=>?_)
           ·refine rk 2 ?_
            obtain ⟨r4834,hr4834,h⟩:=bind_sx h
            refine call_x (taskmillref_SameSpace_spec (Space.mk c1_Bits2 c6q2 c7q2) (Space.mk 0 [] []) r4834 hr4834) (args:=[.agg [iS c1_Bits2,.own 4 0 c6q2.length,.own 5 0 c7q2.length],.agg [iS 0,.v (.slice none 0 0),.v (.slice none 0 0)]]) (dst:=(some 127)) (by kernel_rfl) [(0,.row 24 [iS c1_Bits2,.own 4 0 c6q2.length,.own 5 0 c7q2.length]),(1,.row 29 (Enc.cells c2q4)),(2,.row 29 (Enc.cells c2q6)),(3,.row 24 (Enc.cells c3q3)),(4,.row 38 (fl c6q2)),(5,.row 38 (fl c7q2))] 6 (by kernel_rfl) [] [4,5] (bS r4834) [] (by simp only [push_cast,seval]) (by simp only [push_cast,seval]) (by kernel_rfl) (.inr ⟨by simp only [push_cast,seval],by simp only [push_cast,seval]⟩) (by simp only [push_cast,seval]) (by simp only [push_cast,seval]) ?_
            refine rk 2 ?_
            refine rf [(6,bS r4834)] [(0,.row 24 [iS c1_Bits2,.own 4 0 c6q2.length,.own 5 0 c7q2.length]),(1,.row 29 (Enc.cells c2q4)),(2,.row 29 (Enc.cells c2q6)),(3,.row 24 (Enc.cells c3q3)),(4,.row 38 (fl c6q2)),(5,.row 38 (fl c7q2))] 6 (by kernel_rfl) ?_
            exact hK4832 (r4834) _ _ _ h (leSt_m [] [] (by (try simp only [g4833]) <;> simp only [push_cast,seval]) (by (try simp only [g4833]) <;> simp only [push_cast,seval]) rfl rfl rfl)
           ·refine rk 5 ?_
            refine rf [(6,bS false)] [(0,.row 24 [iS c1_Bits2,.own 4 0 c6q2.length,.own 5 0 c7q2.length]),(1,.row 29 (Enc.cells c2q4)),(2,.row 29 (Enc.cells c2q6)),(3,.row 24 (Enc.cells c3q3)),(4,.row 38 (fl c6q2)),(5,.row 38 (fl c7q2))] 6 (by kernel_rfl) ?_
            exact hK4832 (false) _ _ _ h (leSt_m [] [] (by (try simp only [g4833]) <;> simp only [push_cast,seval]) (by (try simp only [g4833]) <;> simp only [push_cast,seval]) rfl rfl rfl)
          ·rintro t6q3 h
           try dsimp only at h ⊢
           unfold taskmilllaw_BuddyTakes_j1 at h
           obtain rfl:=Option.some.inj h
           refine ret_at (bS t6q3) (by kernel_rfl) ?_
           exact ret_e [] [] (by simp only [push_cast,seval]) (by simp only [push_cast,seval]) rfl rfl rfl
         ·refine wk_id ?_
          refine seq_cut (A:=Bool) (fun a=>([(6,bS a)],[],0)) (fun a=>(taskmilllaw_BuddyTakes_j2 a) = some r) (fun K4838 hK4838=>?_) ?_
          ·refine reg_f ?_
           refine rk 4 ?_
           refine run_br h 132 (.inl (by kernel_rfl)) (fun g4839 h=>?_) (fun g4839 h=>?_)
           ·refine rk 2 ?_
            obtain ⟨r4840,hr4840,h⟩:=bind_sx h
            refine call_x (taskmillref_SameSpace_spec (Space.mk c1_Bits2 c6q2 c7q2) c3q3 r4840 hr4840) (args:=[.agg [iS c1_Bits2,.own 4 0 c6q2.length,.own 5 0 c7q2.length],.agg (Enc.cells c3q3)]) (dst:=(some 135)) (by kernel_rfl) [(0,.row 24 [iS c1_Bits2,.own 4 0 c6q2.length,.own 5 0 c7q2.length]),(1,.row 29 (Enc.cells c2q4)),(2,.row 29 (Enc.cells c2q6)),(3,.row 24 (Enc.cells c3q3)),(4,.row 38 (fl c6q2)),(5,.row 38 (fl c7q2))] 6 (by kernel_rfl) [] [4,5] (bS r4840) [] (by simp only [push_cast,seval]) (by simp only [push_cast,seval]) (by kernel_rfl) (.inr ⟨by simp only [push_cast,seval],by simp only [push_cast,seval]⟩) (by simp only [push_cast,seval]) (by simp only [push_cast,seval]) ?_
            refine rk 2 ?_
            refine rf [(6,bS r4840)] [(0,.row 24 [iS c1_Bits2,.own 4 0 c6q2.length,.own 5 0 c7q2.length]),(1,.row 29 (Enc.cells c2q4)),(2,.row 29 (Enc.cells c2q6)),(3,.row 24 (Enc.cells c3q3)),(4,.row 38 (fl c6q2)),(5,.row 38 (fl c7q2))] 6 (by kernel_rfl) ?_
            exact hK4838 (r4840) _ _ _ h (leSt_m [] [] (by (try simp only [g4839]) <;> simp only [push_cast,seval]) (by (try simp only [g4839]) <;> simp only [push_cast,seval]) rfl rfl rfl)
           ·refine rk 5 ?_
            refine rf [(6,bS false)] [(0,.row 24 [iS c1_Bits2,.own 4 0 c6q2.length,.own 5 0 c7q2.length]),(1,.row 29 (Enc.cells c2q4)),(2,.row 29 (Enc.cells c2q6)),(3,.row 24 (Enc.cells c3q3)),(4,.row 38 (fl c6q2)),(5,.row 38 (fl c7q2))] 6 (by kernel_rfl) ?_
            exact hK4838 (false) _ _ _ h (leSt_m [] [] (by (try simp only [g4839]) <;> simp only [push_cast,seval]) (by (try simp only [g4839]) <;> simp only [push_cast,seval]) rfl rfl rfl)
          ·rintro t6q4 h
           try dsimp only at h ⊢
           unfold taskmilllaw_BuddyTakes_j2 at h
           obtain rfl:=Option.some.inj h
           refine ret_at (bS t6q4) (by kernel_rfl) ?_
           exact ret_e [] [] (by simp only [push_cast,seval]) (by simp only [push_cast,seval]) rfl rfl rfl

end Go.Proofs.Ytpeaimfdeonpgaa
