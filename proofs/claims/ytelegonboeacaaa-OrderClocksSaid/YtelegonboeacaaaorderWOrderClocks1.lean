/-
 What laws of the chapter order compute, and lemmas on it.
 No conditions.
-/
import Derived.Test.YtelegonboeacaaaProg
import Derived.Test.YtelegonboeacaaaorderG
set_option linter.unusedSimpArgs false
set_option linter.unusedVariables false
namespace Go.Proofs.Ytelegonboeacaaa
open Go Go.Sx
attribute [local irreducible] Wk RunAt
theorem follows:Try.prog.follows .mixedOrders = true:=by kernel_rfl
attribute [local bitvec_to_nat] leL_flD renL_flD leL_flP renL_flP leC_famP leC_famP0 flP_0 ren_famP noN_eq lenP_same lenP_one lenP_app lenP_set lenP_famP Nat.le_refl List.length_set leC_mpP leC_mpP1 mapLe_eq mapLe1_eq ren_mpP ren_mpP1
theorem rk {P:Program} {fr:Fr} {hp:Hp} {nx:Nat} {ops:Array Oper} {d:Bool} {l:List Oper} {acc:List Nms} {K:Fr→Hp→Nat→Prop} (n:Nat) (k:RunAt P d ops (List.drop n l) (getSeg (evalS P d ops n l [] ⟨fr,hp,nx,acc,[]⟩)).fr (getSeg (evalS P d ops n l [] ⟨fr,hp,nx,acc,[]⟩)).hp (getSeg (evalS P d ops n l [] ⟨fr,hp,nx,acc,[]⟩)).nx (getSeg (evalS P d ops n l [] ⟨fr,hp,nx,acc,[]⟩)).acc K) (h:(evalS P d ops n l [] ⟨fr,hp,nx,acc,[]⟩).map (·.obs) = some []:=by kernel_rfl):RunAt P d ops l fr hp nx acc K:=rs n [] [] h allP_nil k
set_option maxRecDepth 100000 in
set_option maxHeartbeats 200000000 in
theorem taskmilllaw_orderBegun_spec (r:Bool) (h:taskmilllaw_orderBegun = some r):SpecW Try.prog 10 [] [] 0 (fun x h n=>x = bS r∧h = []∧n = 0):=by
 unfold taskmilllaw_orderBegun at h
 obtain rfl:=Option.some.inj h
 exact closed_call follows 10000 1000 (by kernel_rfl)

set_option maxRecDepth 100000 in
set_option maxHeartbeats 200000000 in
theorem taskmillref_F_spec (code:Int) (xat:Int) (r:Fault) (h:taskmillref_F code xat = some r):SpecW Try.prog 19 [iS code,iS xat] [] 0 (fun x h n=>x = .agg (Enc.cells r)∧h = []∧n = 0):=by
 unfold taskmillref_F at h
 refine spec_of (draw_ok _) Try.func19 rfl (by decide) rfl (by kernel_rfl) ?_
 refine seq_np ?_
 refine reg_f ?_
 refine rk 1 ?_
 refine rf [(0,iS code),(1,iS xat),(4,.ptr 0 0)] [(0,.row 26 [iS 0,iS 0])] 1 (by kernel_rfl) ?_
 refine wk_id ?_
 refine seq_np ?_
 refine reg_f ?_
 refine rk 4 ?_
 refine rf [(4,.ptr 0 0)] [(0,.row 26 [iS code,iS xat])] 1 (by kernel_rfl) ?_
 refine wk_id ?_
 obtain rfl:=Option.some.inj h
 refine ret_at (.agg [iS code,iS xat]) (by kernel_rfl) ?_
 exact ret_e [] [] (by simp only [push_cast,seval]) (by simp only [push_cast,seval]) rfl rfl rfl

set_option maxRecDepth 100000 in
set_option maxHeartbeats 200000000 in
theorem taskmillref_TraceFault_spec (t:(List GEvent)) (pipes:(List Int)) (r:Fault) (h:taskmillref_TraceFault t pipes = some r):SpecW Try.prog 11 [.sl t.length (fl t),.sl pipes.length (fl pipes)] [] 0 (fun x h n=>x = .agg (Enc.cells r)∧h = []∧n = 0):=by
 unfold taskmillref_TraceFault at h
 refine spec_of (draw_ok _) Try.func11 rfl (by decide) rfl (by kernel_rfl) ?_
 refine seq_np ?_
 refine reg_f ?_
 refine rk 1 ?_
 refine rf [(0,.sl t.length (fl t)),(1,.sl pipes.length (fl pipes)),(4,.ptr 0 0)] [(0,.row 26 [iS 0,iS 0])] 1 (by kernel_rfl) ?_
 refine wk_id ?_
 refine seq_np ?_
 refine seq_cut (A:=Unit) (fun _=>([(0,.sl t.length (fl t)),(1,.sl pipes.length (fl pipes)),(4,.ptr 0 0),(16,bS ((decide ((2000:Int) < (t.length:Int))) || (decide ((20:Int) < (pipes.length:Int)))))],[(0,.row 26 [iS 0,iS 0])],1)) (fun _=>True) (fun K98 hK98=>?_) (fun _ _=>?_)
 ·refine reg_f ?_
  refine rk 4 ?_
  refine run_split 12 (decide ((2000:Int) < (t.length:Int))) (.inl (by kernel_rfl)) (fun g99=>?_) (fun g99=>?_)
  ·refine rk 4 ?_
   refine rf [(0,.sl t.length (fl t)),(1,.sl pipes.length (fl pipes)),(4,.ptr 0 0),(16,bS true)] [(0,.row 26 [iS 0,iS 0])] 1 (by kernel_rfl) ?_
   exact hK98 () _ _ _ trivial (leSt_m [(0,0)] [] (by (try simp only [g99]) <;> simp only [push_cast,seval]) (by (try simp only [g99]) <;> simp only [push_cast,seval]) rfl rfl rfl)
  ·refine rk 4 ?_
   refine rf [(0,.sl t.length (fl t)),(1,.sl pipes.length (fl pipes)),(4,.ptr 0 0),(16,bS (decide ((20:Int) < (pipes.length:Int))))] [(0,.row 26 [iS 0,iS 0])] 1 (by kernel_rfl) ?_
   exact hK98 () _ _ _ trivial (leSt_m [(0,0)] [] (by (try simp only [g99]) <;> simp only [push_cast,seval]) (by (try simp only [g99]) <;> simp only [push_cast,seval]) rfl rfl rfl)
 ·dsimp only
  refine cond_sx h (by kernel_rfl) (fun g452 h=>?_) (fun g452 h=>?_)
  ·refine seq_np ?_
   refine reg_f ?_
   obtain ⟨r101,hr101,h⟩:=bind_sx h
   refine run_call 19 [iS 2,iS 0] (some 17) (by kernel_rfl) ?_
   refine call_0 (taskmillref_F_spec 2 0 r101 hr101) (by simp only [push_cast,seval]) (by simp only [push_cast,seval]) ?_
   refine back_f ?_
   refine rk 1 ?_
   refine rf [(4,.ptr 0 0)] [(0,.row 26 (Enc.cells r101))] 1 (by kernel_rfl) ?_
   refine wk_id ?_
   obtain rfl:=Option.some.inj h
   refine ret_at (.agg (Enc.cells r101)) (by kernel_rfl) ?_
   exact ret_e [] [] (by simp only [push_cast,seval]) (by simp only [push_cast,seval]) rfl rfl rfl
  ·refine wk_id ?_
   refine seq_np ?_
   refine seq_np ?_
   refine reg_f ?_
   refine rk 1 ?_
   refine rf [(0,.sl t.length (fl t)),(1,.sl pipes.length (fl pipes)),(4,.ptr 0 0),(5,iS 0)] [(0,.row 26 [iS 0,iS 0])] 1 (by kernel_rfl) ?_
   refine wk_id ?_
   refine block_np ?_
   refine loop_sx (S:=Int) (fun a=>([(0,.sl t.length (fl t)),(1,.sl pipes.length (fl pipes)),(4,.ptr 0 0),(5,iS a)],[(0,.row 26 [iS 0,iS 0])],1)) h (leSt_m [(0,0)] [] (by simp only [push_cast,seval]) (by simp only [push_cast,seval]) rfl rfl rfl) ?_
   rintro i9 o3 R3 h hr3 hn3 hx3 ht3
   try dsimp only at h hn3 ⊢
   unfold taskmillref_TraceFault_l2 at h
   try dsimp only at h
   refine seq_np ?_
   refine seq_np ?_
   refine reg_f ?_
   refine rk 4 ?_
   refine rf [(0,.sl t.length (fl t)),(1,.sl pipes.length (fl pipes)),(4,.ptr 0 0),(5,iS i9),(21,bS (decide (i9 < (pipes.length:Int))))] [(0,.row 26 [iS 0,iS 0])] 1 (by kernel_rfl) ?_
   refine wk_id ?_
   refine cond_sx h (by kernel_rfl) (fun g451 h=>?_) (fun g451 h=>?_)
   ·refine wk_id ?_
    refine seq_np ?_
    refine block_np ?_
    refine chk_sx h (fun g191 h=>?_)
    refine chk_sx h (fun g194 h=>?_)
    refine seq_cut (A:=Unit) (fun _=>([(0,.sl t.length (fl t)),(1,.sl pipes.length (fl pipes)),(4,.ptr 0 0),(5,iS i9),(35,bS ((decide ((ix pipes i9) < 0)) || (decide ((100:Int) < (ix pipes i9)))))],[(0,.row 26 [iS 0,iS 0])],1)) (fun _=>True) (fun K189 hK189=>?_) (fun _ _=>?_)
    ·refine reg_f ?_
     have k190:0≤i9∧i9 < (pipes.length:Int):=by first | simpa only [Bool.and_eq_true,decide_eq_true_eq,bne_iff_ne,ne_eq] using g191 | (simp at g191 ⊢; omega)
     refine rs 6 [none,none,some ⟨.iptr (fl pipes) ((i9).toNat * 1),[],1,[]⟩,some ⟨iS (ix pipes i9),[],1,[]⟩] _ (by kernel_rfl) (allP_cons (ob_ld pipes i9 1 0 ((i9).toNat * 1) k190 rfl (by decide) (by first | rfl | omega) (dflS Try.prog 3) (iS (ix pipes i9)) rfl 1 []) (allP_cons (ob_ix_l pipes 1 1 i9 k190) allP_nil)) ?_
     refine run_split 29 (decide ((ix pipes i9) < 0)) (.inl (by kernel_rfl)) (fun g192=>?_) (fun g192=>?_)
     ·refine rk 6 ?_
      refine rf [(0,.sl t.length (fl t)),(1,.sl pipes.length (fl pipes)),(4,.ptr 0 0),(5,iS i9),(35,bS true)] [(0,.row 26 [iS 0,iS 0])] 1 (by kernel_rfl) ?_
      exact hK189 () _ _ _ trivial (leSt_m [(0,0)] [] (by (try simp only [g192]) <;> simp only [push_cast,seval]) (by (try simp only [g192]) <;> simp only [push_cast,seval]) rfl rfl rfl)
     ·have k193:0≤i9∧i9 < (pipes.length:Int):=by have e:=or_use g194 (by first | ((try simp only [g192]) <;> rfl) | ((try simp only [g192]); rfl) | (exfalso; clear h; simp_all; done)); first | simpa only [Bool.and_eq_true,decide_eq_true_eq,bne_iff_ne,ne_eq] using e | (simp at e ⊢; omega)
      refine rs 6 [none,none,some ⟨.iptr (fl pipes) ((i9).toNat * 1),[],1,[]⟩,some ⟨iS (ix pipes i9),[],1,[]⟩] _ (by kernel_rfl) (allP_cons (ob_ld pipes i9 1 0 ((i9).toNat * 1) k193 rfl (by decide) (by first | rfl | omega) (dflS Try.prog 3) (iS (ix pipes i9)) rfl 1 []) (allP_cons (ob_ix_l pipes 1 1 i9 k193) allP_nil)) ?_
      refine rf [(0,.sl t.length (fl t)),(1,.sl pipes.length (fl pipes)),(4,.ptr 0 0),(5,iS i9),(35,bS (decide ((100:Int) < (ix pipes i9))))] [(0,.row 26 [iS 0,iS 0])] 1 (by kernel_rfl) ?_
      exact hK189 () _ _ _ trivial (leSt_m [(0,0)] [] (by (try simp only [g192]) <;> simp only [push_cast,seval]) (by (try simp only [g192]) <;> simp only [push_cast,seval]) rfl rfl rfl)
    ·dsimp only
     refine cond_sx h (by kernel_rfl) (fun g197 h=>?_) (fun g197 h=>?_)
     ·refine seq_np ?_
      refine reg_f ?_
      refine rk 1 ?_
      obtain ⟨r196,hr196,h⟩:=bind_sx h
      refine run_call 19 [iS 8,iS i9] (some 37) (by kernel_rfl) ?_
      refine call_0 (taskmillref_F_spec 8 i9 r196 hr196) (by simp only [push_cast,seval]) (by simp only [push_cast,seval]) ?_
      refine back_f ?_
      refine rk 1 ?_
      refine rf [(4,.ptr 0 0)] [(0,.row 26 (Enc.cells r196))] 1 (by kernel_rfl) ?_
      refine wk_id ?_
      refine rt_cast ht3 ?_
      obtain ⟨r0,h,e0⟩:=map_sx h
      have e1:=hr3 r0 e0.symm
      subst r0
      obtain rfl:=Option.some.inj h
      refine ret_at (.agg (Enc.cells r196)) (by kernel_rfl) ?_
      exact ret_e [] [] (by simp only [push_cast,seval]) (by simp only [push_cast,seval]) rfl rfl rfl
     ·refine wk_id ?_
      refine wk_id ?_
      refine reg_f ?_
      refine rk 3 ?_
      refine rf [(0,.sl t.length (fl t)),(1,.sl pipes.length (fl pipes)),(4,.ptr 0 0),(5,iS (IntKind.i64.wrap (i9+1)))] [(0,.row 26 [iS 0,iS 0])] 1 (by kernel_rfl) ?_
      exact hn3 ((IntKind.i64.wrap (i9+1))) _ _ _ (Option.some.inj h).symm (leSt_m [(0,0)] [] (by simp only [push_cast,seval]) (by simp only [push_cast,seval]) rfl rfl rfl)
   ·change R3 (.exit 0) _ _ _
    refine ex_cast hx3 (id:=0) ?_
    obtain ⟨r0,h,e0⟩:=map_sx h
    have e1:=hr3 r0 e0.symm
    subst r0
    refine wk_id ?_
    refine wk_id ?_
    refine seq_np ?_
    refine seq_np ?_
    refine reg_f ?_
    refine rk 1 ?_
    refine rf [(0,.sl t.length (fl t)),(1,.sl pipes.length (fl pipes)),(4,.ptr 0 0),(6,iS 0)] [(0,.row 26 [iS 0,iS 0])] 1 (by kernel_rfl) ?_
    refine wk_id ?_
    refine block_np ?_
    refine loop_sx (S:=Int) (fun a=>([(0,.sl t.length (fl t)),(1,.sl pipes.length (fl pipes)),(4,.ptr 0 0),(6,iS a)],[(0,.row 26 [iS 0,iS 0])],1)) h (leSt_m [(0,0)] [] (by simp only [push_cast,seval]) (by simp only [push_cast,seval]) rfl rfl rfl) ?_
    rintro i15 o4 R4 h hr4 hn4 hx4 ht4
    try dsimp only at h hn4 ⊢
    unfold taskmillref_TraceFault_l1 at h
    try dsimp only at h
    refine seq_np ?_
    refine seq_np ?_
    refine reg_f ?_
    refine rk 4 ?_
    refine rf [(0,.sl t.length (fl t)),(1,.sl pipes.length (fl pipes)),(4,.ptr 0 0),(6,iS i15),(41,bS (decide (i15 < (t.length:Int))))] [(0,.row 26 [iS 0,iS 0])] 1 (by kernel_rfl) ?_
    refine wk_id ?_
    refine cond_sx h (by kernel_rfl) (fun g450 h=>?_) (fun g450 h=>?_)
    ·refine wk_id ?_
     refine seq_np ?_
     refine block_np ?_
     refine chk_sx h (fun g403 h=>?_)
     refine seq_np ?_
     refine reg_f ?_
     have k402:0≤i15∧i15 < (t.length:Int):=by first | simpa only [Bool.and_eq_true,decide_eq_true_eq,bne_iff_ne,ne_eq] using g403 | (simp at g403 ⊢; omega)
     refine rs 6 [none,none,some ⟨.iptr (fl t) ((i15).toNat * 4),[],1,[]⟩,some ⟨.agg (Enc.cells (ix t i15)),[],1,[]⟩] _ (by kernel_rfl) (allP_cons (ob_ldw t i15 4 ((i15).toNat * 4) k402 rfl (by first | rfl | omega) (Enc.cells (ix t i15)) rfl 1 []) (allP_cons (ob_ix_l t 4 1 i15 k402) allP_nil)) ?_
     refine rf [(0,.sl t.length (fl t)),(1,.sl pipes.length (fl pipes)),(4,.ptr 0 0),(6,iS i15),(7,.ptr 1 0)] [(0,.row 26 [iS 0,iS 0]),(1,.row 31 (Enc.cells (ix t i15)))] 2 (by kernel_rfl) ?_
     refine wk_id ?_
     refine seq_np ?_
     refine seq_cut (A:=Unit) (fun _=>([(0,.sl t.length (fl t)),(1,.sl pipes.length (fl pipes)),(4,.ptr 0 0),(6,iS i15),(7,.ptr 1 0),(55,bS ((decide ((ix t i15).Task < 1)) || (decide ((64:Int) < (ix t i15).Task))))],[(0,.row 26 [iS 0,iS 0]),(1,.row 31 (Enc.cells (ix t i15)))],2)) (fun _=>True) (fun K408 hK408=>?_) (fun _ _=>?_)
     ·refine reg_f ?_
      refine rk 4 ?_
      refine run_split 51 (decide ((ix t i15).Task < 1)) (.inl (by kernel_rfl)) (fun g409=>?_) (fun g409=>?_)
      ·refine rk 4 ?_
       refine rf [(0,.sl t.length (fl t)),(1,.sl pipes.length (fl pipes)),(4,.ptr 0 0),(6,iS i15),(7,.ptr 1 0),(55,bS true)] [(0,.row 26 [iS 0,iS 0]),(1,.row 31 (Enc.cells (ix t i15)))] 2 (by kernel_rfl) ?_
       exact hK408 () _ _ _ trivial (leSt_m [(0,0),(1,1)] [] (by (try simp only [g409]) <;> simp only [push_cast,seval]) (by (try simp only [g409]) <;> simp only [push_cast,seval]) rfl rfl rfl)
      ·refine rk 4 ?_
       refine rf [(0,.sl t.length (fl t)),(1,.sl pipes.length (fl pipes)),(4,.ptr 0 0),(6,iS i15),(7,.ptr 1 0),(55,bS (decide ((64:Int) < (ix t i15).Task)))] [(0,.row 26 [iS 0,iS 0]),(1,.row 31 (Enc.cells (ix t i15)))] 2 (by kernel_rfl) ?_
       exact hK408 () _ _ _ trivial (leSt_m [(0,0),(1,1)] [] (by (try simp only [g409]) <;> simp only [push_cast,seval]) (by (try simp only [g409]) <;> simp only [push_cast,seval]) rfl rfl rfl)
     ·dsimp only
      refine cond_sx h (by kernel_rfl) (fun g449 h=>?_) (fun g449 h=>?_)
      ·refine seq_np ?_
       refine reg_f ?_
       refine rk 1 ?_
       obtain ⟨r411,hr411,h⟩:=bind_sx h
       refine run_call 19 [iS 3,iS i15] (some 57) (by kernel_rfl) ?_
       refine call_0 (taskmillref_F_spec 3 i15 r411 hr411) (by simp only [push_cast,seval]) (by simp only [push_cast,seval]) ?_
       refine back_f ?_
       refine rk 1 ?_
       refine rf [(4,.ptr 0 0)] [(0,.row 26 (Enc.cells r411)),(1,.row 31 (Enc.cells (ix t i15)))] 2 (by kernel_rfl) ?_
       refine wk_id ?_
       refine rt_cast ht4 ?_
       obtain ⟨r0,h,e0⟩:=map_sx h
       have e1:=hr4 r0 e0.symm
       subst r0
       obtain rfl:=Option.some.inj h
       refine ret_at (.agg (Enc.cells r411)) (by kernel_rfl) ?_
       exact ret_e [] [] (by simp only [push_cast,seval]) (by simp only [push_cast,seval]) rfl rfl rfl
      ·refine wk_id ?_
       refine seq_np ?_
       refine seq_cut (A:=Unit) (fun _=>([(0,.sl t.length (fl t)),(1,.sl pipes.length (fl pipes)),(4,.ptr 0 0),(6,iS i15),(7,.ptr 1 0),(65,bS ((decide ((ix t i15).Op < 8)) || (decide ((22:Int) < (ix t i15).Op))))],[(0,.row 26 [iS 0,iS 0]),(1,.row 31 (Enc.cells (ix t i15)))],2)) (fun _=>True) (fun K416 hK416=>?_) (fun _ _=>?_)
       ·refine reg_f ?_
        refine rk 4 ?_
        refine run_split 61 (decide ((ix t i15).Op < 8)) (.inl (by kernel_rfl)) (fun g417=>?_) (fun g417=>?_)
        ·refine rk 4 ?_
         refine rf [(0,.sl t.length (fl t)),(1,.sl pipes.length (fl pipes)),(4,.ptr 0 0),(6,iS i15),(7,.ptr 1 0),(65,bS true)] [(0,.row 26 [iS 0,iS 0]),(1,.row 31 (Enc.cells (ix t i15)))] 2 (by kernel_rfl) ?_
         exact hK416 () _ _ _ trivial (leSt_m [(0,0),(1,1)] [] (by (try simp only [g417]) <;> simp only [push_cast,seval]) (by (try simp only [g417]) <;> simp only [push_cast,seval]) rfl rfl rfl)
        ·refine rk 4 ?_
         refine rf [(0,.sl t.length (fl t)),(1,.sl pipes.length (fl pipes)),(4,.ptr 0 0),(6,iS i15),(7,.ptr 1 0),(65,bS (decide ((22:Int) < (ix t i15).Op)))] [(0,.row 26 [iS 0,iS 0]),(1,.row 31 (Enc.cells (ix t i15)))] 2 (by kernel_rfl) ?_
         exact hK416 () _ _ _ trivial (leSt_m [(0,0),(1,1)] [] (by (try simp only [g417]) <;> simp only [push_cast,seval]) (by (try simp only [g417]) <;> simp only [push_cast,seval]) rfl rfl rfl)
       ·dsimp only
        refine cond_sx h (by kernel_rfl) (fun g448 h=>?_) (fun g448 h=>?_)
        ·refine seq_np ?_
         refine reg_f ?_
         refine rk 1 ?_
         obtain ⟨r419,hr419,h⟩:=bind_sx h
         refine run_call 19 [iS 4,iS i15] (some 67) (by kernel_rfl) ?_
         refine call_0 (taskmillref_F_spec 4 i15 r419 hr419) (by simp only [push_cast,seval]) (by simp only [push_cast,seval]) ?_
         refine back_f ?_
         refine rk 1 ?_
         refine rf [(4,.ptr 0 0)] [(0,.row 26 (Enc.cells r419)),(1,.row 31 (Enc.cells (ix t i15)))] 2 (by kernel_rfl) ?_
         refine wk_id ?_
         refine rt_cast ht4 ?_
         obtain ⟨r0,h,e0⟩:=map_sx h
         have e1:=hr4 r0 e0.symm
         subst r0
         obtain rfl:=Option.some.inj h
         refine ret_at (.agg (Enc.cells r419)) (by kernel_rfl) ?_
         exact ret_e [] [] (by simp only [push_cast,seval]) (by simp only [push_cast,seval]) rfl rfl rfl
        ·refine wk_id ?_
         refine seq_cut (A:=Unit) (fun _=>([(0,.sl t.length (fl t)),(1,.sl pipes.length (fl pipes)),(4,.ptr 0 0),(6,iS i15),(7,.ptr 1 0),(8,bS (((ix t i15).Op == 14) || (((ix t i15).Op == 15) || ((ix t i15).Op == 16))))],[(0,.row 26 [iS 0,iS 0]),(1,.row 31 (Enc.cells (ix t i15)))],2)) (fun _=>True) (fun K422 hK422=>?_) (fun _ _=>?_)
         ·refine reg_f ?_
          refine rk 4 ?_
          refine run_split 71 ((ix t i15).Op == 14) (.inl (by kernel_rfl)) (fun g423=>?_) (fun g423=>?_)
          ·refine rk 10 ?_
           refine rf [(0,.sl t.length (fl t)),(1,.sl pipes.length (fl pipes)),(4,.ptr 0 0),(6,iS i15),(7,.ptr 1 0),(8,bS true)] [(0,.row 26 [iS 0,iS 0]),(1,.row 31 (Enc.cells (ix t i15)))] 2 (by kernel_rfl) ?_
           exact hK422 () _ _ _ trivial (leSt_m [(0,0),(1,1)] [] (by (try simp only [g423]) <;> simp only [push_cast,seval]) (by (try simp only [g423]) <;> simp only [push_cast,seval]) rfl rfl rfl)
          ·refine rk 5 ?_
           refine run_split 76 ((ix t i15).Op == 15) (.inl (by kernel_rfl)) (fun g424=>?_) (fun g424=>?_)
           ·refine rk 5 ?_
            refine rf [(0,.sl t.length (fl t)),(1,.sl pipes.length (fl pipes)),(4,.ptr 0 0),(6,iS i15),(7,.ptr 1 0),(8,bS true)] [(0,.row 26 [iS 0,iS 0]),(1,.row 31 (Enc.cells (ix t i15)))] 2 (by kernel_rfl) ?_
            exact hK422 () _ _ _ trivial (leSt_m [(0,0),(1,1)] [] (by first | ((try simp only [g423,g424]) <;> simp only [push_cast,seval]; done) | ((try simp only [g423]); (try simp only [g424]); simp only [push_cast,seval]; done) | (exfalso; clear h; simp_all; done)) (by first | ((try simp only [g423,g424]) <;> simp only [push_cast,seval]; done) | ((try simp only [g423]); (try simp only [g424]); simp only [push_cast,seval]; done) | (exfalso; clear h; simp_all; done)) rfl rfl rfl)
           ·refine rk 5 ?_
            refine rf [(0,.sl t.length (fl t)),(1,.sl pipes.length (fl pipes)),(4,.ptr 0 0),(6,iS i15),(7,.ptr 1 0),(8,bS ((ix t i15).Op == 16))] [(0,.row 26 [iS 0,iS 0]),(1,.row 31 (Enc.cells (ix t i15)))] 2 (by kernel_rfl) ?_
            exact hK422 () _ _ _ trivial (leSt_m [(0,0),(1,1)] [] (by first | ((try simp only [g423,g424]) <;> simp only [push_cast,seval]; done) | ((try simp only [g423]); (try simp only [g424]); simp only [push_cast,seval]; done) | (exfalso; clear h; simp_all; done)) (by first | ((try simp only [g423,g424]) <;> simp only [push_cast,seval]; done) | ((try simp only [g423]); (try simp only [g424]); simp only [push_cast,seval]; done) | (exfalso; clear h; simp_all; done)) rfl rfl rfl)
         ·dsimp only
          refine seq_np ?_
          refine seq_cut (A:=Unit) (fun _=>([(0,.sl t.length (fl t)),(1,.sl pipes.length (fl pipes)),(4,.ptr 0 0),(6,iS i15),(7,.ptr 1 0),(98,bS ((decide ((ix t i15).Obj < 0)) || ((decide ((20:Int) < (ix t i15).Obj)) || ((((ix t i15).Op == 14) || (((ix t i15).Op == 15) || ((ix t i15).Op == 16))) && (decide ((pipes.length:Int)≤(ix t i15).Obj))))))],[(0,.row 26 [iS 0,iS 0]),(1,.row 31 (Enc.cells (ix t i15)))],2)) (fun _=>True) (fun K433 hK433=>?_) (fun _ _=>?_)
          ·refine reg_f ?_
           refine rk 4 ?_
           refine run_split 84 (decide ((ix t i15).Obj < 0)) (.inl (by kernel_rfl)) (fun g434=>?_) (fun g434=>?_)
           ·refine rk 14 ?_
            refine rf [(0,.sl t.length (fl t)),(1,.sl pipes.length (fl pipes)),(4,.ptr 0 0),(6,iS i15),(7,.ptr 1 0),(98,bS true)] [(0,.row 26 [iS 0,iS 0]),(1,.row 31 (Enc.cells (ix t i15)))] 2 (by kernel_rfl) ?_
            exact hK433 () _ _ _ trivial (leSt_m [(0,0),(1,1)] [] (by (try simp only [g434]) <;> simp only [push_cast,seval]) (by (try simp only [g434]) <;> simp only [push_cast,seval]) rfl rfl rfl)
           ·refine rk 5 ?_
            refine run_split 89 (decide ((20:Int) < (ix t i15).Obj)) (.inl (by kernel_rfl)) (fun g435=>?_) (fun g435=>?_)
            ·refine rk 9 ?_
             refine rf [(0,.sl t.length (fl t)),(1,.sl pipes.length (fl pipes)),(4,.ptr 0 0),(6,iS i15),(7,.ptr 1 0),(98,bS true)] [(0,.row 26 [iS 0,iS 0]),(1,.row 31 (Enc.cells (ix t i15)))] 2 (by kernel_rfl) ?_
             exact hK433 () _ _ _ trivial (leSt_m [(0,0),(1,1)] [] (by first | ((try simp only [g434,g435]) <;> simp only [push_cast,seval]; done) | ((try simp only [g434]); (try simp only [g435]); simp only [push_cast,seval]; done) | (exfalso; clear h; simp_all; done)) (by first | ((try simp only [g434,g435]) <;> simp only [push_cast,seval]; done) | ((try simp only [g434]); (try simp only [g435]); simp only [push_cast,seval]; done) | (exfalso; clear h; simp_all; done)) rfl rfl rfl)
            ·refine rk 2 ?_
             refine run_split 91 (((ix t i15).Op == 14) || (((ix t i15).Op == 15) || ((ix t i15).Op == 16))) (.inr (by kernel_rfl)) (fun g436=>?_) (fun g436=>?_)
             ·refine rn 11 [(0,.sl t.length (fl t)),(1,.sl pipes.length (fl pipes)),(4,.ptr 0 0),(6,iS i15),(7,.ptr 1 0),(89,bS false),(91,.gd true (bS true))] [(0,.row 26 [iS 0,iS 0]),(1,.row 31 (Enc.cells (ix t i15)))] 2 (by kernel_rfl) ?_
              refine rk 7 ?_
              refine rf [(0,.sl t.length (fl t)),(1,.sl pipes.length (fl pipes)),(4,.ptr 0 0),(6,iS i15),(7,.ptr 1 0),(98,bS (decide ((pipes.length:Int)≤(ix t i15).Obj)))] [(0,.row 26 [iS 0,iS 0]),(1,.row 31 (Enc.cells (ix t i15)))] 2 (by kernel_rfl) ?_
              exact hK433 () _ _ _ trivial (leSt_m [(0,0),(1,1)] [] (by first | ((try simp only [g434,g435,g436]) <;> simp only [push_cast,seval]; done) | ((try simp only [g434]); (try simp only [g435]); (try simp only [g436]); simp only [push_cast,seval]; done) | (exfalso; clear h; simp_all; done)) (by first | ((try simp only [g434,g435,g436]) <;> simp only [push_cast,seval]; done) | ((try simp only [g434]); (try simp only [g435]); (try simp only [g436]); simp only [push_cast,seval]; done) | (exfalso; clear h; simp_all; done)) rfl rfl rfl)
             ·refine rn 11 [(0,.sl t.length (fl t)),(1,.sl pipes.length (fl pipes)),(4,.ptr 0 0),(6,iS i15),(7,.ptr 1 0),(89,bS false),(91,.gd true (bS false))] [(0,.row 26 [iS 0,iS 0]),(1,.row 31 (Enc.cells (ix t i15)))] 2 (by kernel_rfl) ?_
              refine rk 7 ?_
              refine rf [(0,.sl t.length (fl t)),(1,.sl pipes.length (fl pipes)),(4,.ptr 0 0),(6,iS i15),(7,.ptr 1 0),(98,bS false)] [(0,.row 26 [iS 0,iS 0]),(1,.row 31 (Enc.cells (ix t i15)))] 2 (by kernel_rfl) ?_
              exact hK433 () _ _ _ trivial (leSt_m [(0,0),(1,1)] [] (by first | ((try simp only [g434,g435,g436]) <;> simp only [push_cast,seval]; done) | ((try simp only [g434]); (try simp only [g435]); (try simp only [g436]); simp only [push_cast,seval]; done) | (exfalso; clear h; simp_all; done)) (by first | ((try simp only [g434,g435,g436]) <;> simp only [push_cast,seval]; done) | ((try simp only [g434]); (try simp only [g435]); (try simp only [g436]); simp only [push_cast,seval]; done) | (exfalso; clear h; simp_all; done)) rfl rfl rfl)
          ·dsimp only
           refine cond_sx h (by kernel_rfl) (fun g447 h=>?_) (fun g447 h=>?_)
           ·refine seq_np ?_
            refine reg_f ?_
            refine rk 1 ?_
            obtain ⟨r438,hr438,h⟩:=bind_sx h
            refine run_call 19 [iS 5,iS i15] (some 100) (by kernel_rfl) ?_
            refine call_0 (taskmillref_F_spec 5 i15 r438 hr438) (by simp only [push_cast,seval]) (by simp only [push_cast,seval]) ?_
            refine back_f ?_
            refine rk 1 ?_
            refine rf [(4,.ptr 0 0)] [(0,.row 26 (Enc.cells r438)),(1,.row 31 (Enc.cells (ix t i15)))] 2 (by kernel_rfl) ?_
            refine wk_id ?_
            refine rt_cast ht4 ?_
            obtain ⟨r0,h,e0⟩:=map_sx h
            have e1:=hr4 r0 e0.symm
            subst r0
            obtain rfl:=Option.some.inj h
            refine ret_at (.agg (Enc.cells r438)) (by kernel_rfl) ?_
            exact ret_e [] [] (by simp only [push_cast,seval]) (by simp only [push_cast,seval]) rfl rfl rfl
           ·refine wk_id ?_
            refine seq_cut (A:=Unit) (fun _=>([(0,.sl t.length (fl t)),(1,.sl pipes.length (fl pipes)),(4,.ptr 0 0),(6,iS i15),(113,bS (((ix t i15).Op == 11) && ((decide ((ix t i15).Value < 1)) || (decide ((64:Int) < (ix t i15).Value)))))],[(0,.row 26 [iS 0,iS 0]),(1,.row 31 (Enc.cells (ix t i15)))],2)) (fun _=>True) (fun K441 hK441=>?_) (fun _ _=>?_)
            ·refine reg_f ?_
             refine rk 4 ?_
             refine run_split 104 ((ix t i15).Op == 11) (.inl (by kernel_rfl)) (fun g442=>?_) (fun g442=>?_)
             ·refine rk 4 ?_
              refine run_split 108 (decide ((ix t i15).Value < 1)) (.inr (by kernel_rfl)) (fun g443=>?_) (fun g443=>?_)
              ·refine rk 5 ?_
               refine rf [(0,.sl t.length (fl t)),(1,.sl pipes.length (fl pipes)),(4,.ptr 0 0),(6,iS i15),(113,bS true)] [(0,.row 26 [iS 0,iS 0]),(1,.row 31 (Enc.cells (ix t i15)))] 2 (by kernel_rfl) ?_
               exact hK441 () _ _ _ trivial (leSt_m [(0,0),(1,1)] [] (by first | ((try simp only [g442,g443]) <;> simp only [push_cast,seval]; done) | ((try simp only [g442]); (try simp only [g443]); simp only [push_cast,seval]; done) | (exfalso; clear h; simp_all; done)) (by first | ((try simp only [g442,g443]) <;> simp only [push_cast,seval]; done) | ((try simp only [g442]); (try simp only [g443]); simp only [push_cast,seval]; done) | (exfalso; clear h; simp_all; done)) rfl rfl rfl)
              ·refine rk 5 ?_
               refine rf [(0,.sl t.length (fl t)),(1,.sl pipes.length (fl pipes)),(4,.ptr 0 0),(6,iS i15),(113,bS (decide ((64:Int) < (ix t i15).Value)))] [(0,.row 26 [iS 0,iS 0]),(1,.row 31 (Enc.cells (ix t i15)))] 2 (by kernel_rfl) ?_
               exact hK441 () _ _ _ trivial (leSt_m [(0,0),(1,1)] [] (by first | ((try simp only [g442,g443]) <;> simp only [push_cast,seval]; done) | ((try simp only [g442]); (try simp only [g443]); simp only [push_cast,seval]; done) | (exfalso; clear h; simp_all; done)) (by first | ((try simp only [g442,g443]) <;> simp only [push_cast,seval]; done) | ((try simp only [g442]); (try simp only [g443]); simp only [push_cast,seval]; done) | (exfalso; clear h; simp_all; done)) rfl rfl rfl)
             ·refine rk 9 ?_
              refine rf [(0,.sl t.length (fl t)),(1,.sl pipes.length (fl pipes)),(4,.ptr 0 0),(6,iS i15),(113,bS false)] [(0,.row 26 [iS 0,iS 0]),(1,.row 31 (Enc.cells (ix t i15)))] 2 (by kernel_rfl) ?_
              exact hK441 () _ _ _ trivial (leSt_m [(0,0),(1,1)] [] (by (try simp only [g442]) <;> simp only [push_cast,seval]) (by (try simp only [g442]) <;> simp only [push_cast,seval]) rfl rfl rfl)
            ·dsimp only
             refine cond_sx h (by kernel_rfl) (fun g446 h=>?_) (fun g446 h=>?_)
             ·refine seq_np ?_
              refine reg_f ?_
              refine rk 1 ?_
              obtain ⟨r445,hr445,h⟩:=bind_sx h
              refine run_call 19 [iS 5,iS i15] (some 115) (by kernel_rfl) ?_
              refine call_0 (taskmillref_F_spec 5 i15 r445 hr445) (by simp only [push_cast,seval]) (by simp only [push_cast,seval]) ?_
              refine back_f ?_
              refine rk 1 ?_
              refine rf [(4,.ptr 0 0)] [(0,.row 26 (Enc.cells r445)),(1,.row 31 (Enc.cells (ix t i15)))] 2 (by kernel_rfl) ?_
              refine wk_id ?_
              refine rt_cast ht4 ?_
              obtain ⟨r0,h,e0⟩:=map_sx h
              have e1:=hr4 r0 e0.symm
              subst r0
              obtain rfl:=Option.some.inj h
              refine ret_at (.agg (Enc.cells r445)) (by kernel_rfl) ?_
              exact ret_e [] [] (by simp only [push_cast,seval]) (by simp only [push_cast,seval]) rfl rfl rfl
             ·refine wk_id ?_
              refine wk_id ?_
              refine reg_f ?_
              refine rk 3 ?_
              refine rf [(0,.sl t.length (fl t)),(1,.sl pipes.length (fl pipes)),(4,.ptr 0 0),(6,iS (IntKind.i64.wrap (i15+1)))] [(0,.row 26 [iS 0,iS 0]),(1,.row 31 (Enc.cells (ix t i15)))] 2 (by kernel_rfl) ?_
              exact hn4 ((IntKind.i64.wrap (i15+1))) _ _ _ (Option.some.inj h).symm (leSt_m [(0,0)] [] (by simp only [push_cast,seval]) (by simp only [push_cast,seval]) rfl rfl rfl)
    ·change R4 (.exit 2) _ _ _
     refine ex_cast hx4 (id:=2) ?_
     obtain ⟨r0,h,e0⟩:=map_sx h
     have e1:=hr4 r0 e0.symm
     subst r0
     refine wk_id ?_
     refine wk_id ?_
     refine seq_np ?_
     refine reg_f ?_
     refine rk 2 ?_
     refine rf [(4,.ptr 0 0)] [(0,.row 26 [iS 0,iS 0])] 1 (by kernel_rfl) ?_
     refine wk_id ?_
     obtain rfl:=Option.some.inj h
     refine ret_at (.agg [iS 0,iS 0]) (by kernel_rfl) ?_
     exact ret_e [] [] (by simp only [push_cast,seval]) (by simp only [push_cast,seval]) rfl rfl rfl

set_option maxRecDepth 100000 in
set_option maxHeartbeats 200000000 in
theorem order_fault_spec (code:Int) (xat:Int) (r:Fault) (h:order_fault code xat = some r):SpecW Try.prog 32 [iS code,iS xat] [] 0 (fun x h n=>x = .agg (Enc.cells r)∧h = []∧n = 0):=by
 unfold order_fault at h
 refine spec_of (draw_ok _) Try.func32 rfl (by decide) rfl (by kernel_rfl) ?_
 refine seq_np ?_
 refine reg_f ?_
 refine rk 1 ?_
 refine rf [(0,iS code),(1,iS xat),(4,.ptr 0 0)] [(0,.row 26 [iS 0,iS 0])] 1 (by kernel_rfl) ?_
 refine wk_id ?_
 refine seq_np ?_
 refine reg_f ?_
 refine rk 4 ?_
 refine rf [(4,.ptr 0 0)] [(0,.row 26 [iS code,iS xat])] 1 (by kernel_rfl) ?_
 refine wk_id ?_
 obtain rfl:=Option.some.inj h
 refine ret_at (.agg [iS code,iS xat]) (by kernel_rfl) ?_
 exact ret_e [] [] (by simp only [push_cast,seval]) (by simp only [push_cast,seval]) rfl rfl rfl

set_option maxRecDepth 100000 in
set_option maxHeartbeats 200000000 in
theorem order_Check_spec (trace:(List GEvent)) (pipes:(List Int)) (r:Fault) (h:order_Check trace pipes = some r):SpecW Try.prog 15 [.sl trace.length (fl trace),.sl pipes.length (fl pipes)] [] 0 (fun x h n=>x = .agg (Enc.cells r)∧h = []∧n = 0):=by
 unfold order_Check at h
 refine spec_of (draw_ok _) Try.func15 rfl (by decide) rfl (by kernel_rfl) ?_
 refine seq_np ?_
 refine reg_f ?_
 refine rk 1 ?_
 refine rf [(0,.sl trace.length (fl trace)),(1,.sl pipes.length (fl pipes)),(4,.ptr 0 0)] [(0,.row 26 [iS 0,iS 0])] 1 (by kernel_rfl) ?_
 refine wk_id ?_
 refine seq_np ?_
 refine seq_cut (A:=Unit) (fun _=>([(0,.sl trace.length (fl trace)),(1,.sl pipes.length (fl pipes)),(4,.ptr 0 0),(16,bS ((decide ((2000:Int) < (trace.length:Int))) || (decide ((20:Int) < (pipes.length:Int)))))],[(0,.row 26 [iS 0,iS 0])],1)) (fun _=>True) (fun K546 hK546=>?_) (fun _ _=>?_)
 ·refine reg_f ?_
  refine rk 4 ?_
  refine run_split 12 (decide ((2000:Int) < (trace.length:Int))) (.inl (by kernel_rfl)) (fun g547=>?_) (fun g547=>?_)
  ·refine rk 4 ?_
   refine rf [(0,.sl trace.length (fl trace)),(1,.sl pipes.length (fl pipes)),(4,.ptr 0 0),(16,bS true)] [(0,.row 26 [iS 0,iS 0])] 1 (by kernel_rfl) ?_
   exact hK546 () _ _ _ trivial (leSt_m [(0,0)] [] (by (try simp only [g547]) <;> simp only [push_cast,seval]) (by (try simp only [g547]) <;> simp only [push_cast,seval]) rfl rfl rfl)
  ·refine rk 4 ?_
   refine rf [(0,.sl trace.length (fl trace)),(1,.sl pipes.length (fl pipes)),(4,.ptr 0 0),(16,bS (decide ((20:Int) < (pipes.length:Int))))] [(0,.row 26 [iS 0,iS 0])] 1 (by kernel_rfl) ?_
   exact hK546 () _ _ _ trivial (leSt_m [(0,0)] [] (by (try simp only [g547]) <;> simp only [push_cast,seval]) (by (try simp only [g547]) <;> simp only [push_cast,seval]) rfl rfl rfl)
 ·dsimp only
  refine cond_sx h (by kernel_rfl) (fun g881 h=>?_) (fun g881 h=>?_)
  ·refine seq_np ?_
   refine reg_f ?_
   obtain ⟨r549,hr549,h⟩:=bind_sx h
   refine run_call 32 [iS 2,iS 0] (some 17) (by kernel_rfl) ?_
   refine call_0 (order_fault_spec 2 0 r549 hr549) (by simp only [push_cast,seval]) (by simp only [push_cast,seval]) ?_
   refine back_f ?_
   refine rk 1 ?_
   refine rf [(4,.ptr 0 0)] [(0,.row 26 (Enc.cells r549))] 1 (by kernel_rfl) ?_
   refine wk_id ?_
   obtain rfl:=Option.some.inj h
   refine ret_at (.agg (Enc.cells r549)) (by kernel_rfl) ?_
   exact ret_e [] [] (by simp only [push_cast,seval]) (by simp only [push_cast,seval]) rfl rfl rfl
  ·refine wk_id ?_
   refine seq_np ?_
   refine seq_np ?_
   refine reg_f ?_
   refine rk 3 ?_
   refine rf [(0,.sl trace.length (fl trace)),(1,.sl pipes.length (fl pipes)),(4,.ptr 0 0),(18,.sl pipes.length (fl pipes)),(19,iS (pipes.length:Int)),(20,iS 0)] [(0,.row 26 [iS 0,iS 0])] 1 (by kernel_rfl) ?_
   refine wk_id ?_
   refine block_np ?_
   refine loop_sx (S:=Int) (fun a=>([(0,.sl trace.length (fl trace)),(1,.sl pipes.length (fl pipes)),(4,.ptr 0 0),(18,.sl pipes.length (fl pipes)),(19,iS (pipes.length:Int)),(20,iS a)],[(0,.row 26 [iS 0,iS 0])],1)) h (leSt_m [(0,0)] [] (by simp only [push_cast,seval]) (by simp only [push_cast,seval]) rfl rfl rfl) ?_
   rintro t20q7 o3 R3 h hr3 hn3 hx3 ht3
   try dsimp only at h hn3 ⊢
   unfold order_Check_l2 at h
   try dsimp only at h
   refine seq_np ?_
   refine reg_f ?_
   refine rk 1 ?_
   refine rf [(0,.sl trace.length (fl trace)),(1,.sl pipes.length (fl pipes)),(4,.ptr 0 0),(18,.sl pipes.length (fl pipes)),(19,iS (pipes.length:Int)),(20,iS t20q7),(21,bS (decide (t20q7 < (pipes.length:Int))))] [(0,.row 26 [iS 0,iS 0])] 1 (by kernel_rfl) ?_
   refine wk_id ?_
   refine seq_np ?_
   refine cond_sx h (by kernel_rfl) (fun g880 h=>?_) (fun g880 h=>?_)
   ·refine wk_id ?_
    refine seq_np ?_
    refine block_np ?_
    refine chk_sx h (fun g615 h=>?_)
    refine seq_np ?_
    refine reg_f ?_
    have k614:0≤t20q7∧t20q7 < (pipes.length:Int):=by first | simpa only [Bool.and_eq_true,decide_eq_true_eq,bne_iff_ne,ne_eq] using g615 | (simp at g615 ⊢; omega)
    refine rs 5 [none,some ⟨.iptr (fl pipes) ((t20q7).toNat * 1),[],1,[]⟩,some ⟨iS (ix pipes t20q7),[],1,[]⟩] _ (by kernel_rfl) (allP_cons (ob_ld pipes t20q7 1 0 ((t20q7).toNat * 1) k614 rfl (by decide) (by first | rfl | omega) (dflS Try.prog 3) (iS (ix pipes t20q7)) rfl 1 []) (allP_cons (ob_ix_l pipes 1 1 t20q7 k614) allP_nil)) ?_
    refine rf [(0,.sl trace.length (fl trace)),(1,.sl pipes.length (fl pipes)),(4,.ptr 0 0),(5,iS t20q7),(6,iS (ix pipes t20q7)),(18,.sl pipes.length (fl pipes)),(19,iS (pipes.length:Int)),(20,iS t20q7)] [(0,.row 26 [iS 0,iS 0])] 1 (by kernel_rfl) ?_
    refine wk_id ?_
    refine seq_cut (A:=Unit) (fun _=>([(0,.sl trace.length (fl trace)),(1,.sl pipes.length (fl pipes)),(4,.ptr 0 0),(5,iS t20q7),(18,.sl pipes.length (fl pipes)),(19,iS (pipes.length:Int)),(20,iS t20q7),(30,bS ((decide ((ix pipes t20q7) < 0)) || (decide ((100:Int) < (ix pipes t20q7)))))],[(0,.row 26 [iS 0,iS 0])],1)) (fun _=>True) (fun K617 hK617=>?_) (fun _ _=>?_)
    ·refine reg_f ?_
     refine rk 3 ?_
     refine run_split 27 (decide ((ix pipes t20q7) < 0)) (.inl (by kernel_rfl)) (fun g618=>?_) (fun g618=>?_)
     ·refine rk 3 ?_
      refine rf [(0,.sl trace.length (fl trace)),(1,.sl pipes.length (fl pipes)),(4,.ptr 0 0),(5,iS t20q7),(18,.sl pipes.length (fl pipes)),(19,iS (pipes.length:Int)),(20,iS t20q7),(30,bS true)] [(0,.row 26 [iS 0,iS 0])] 1 (by kernel_rfl) ?_
      exact hK617 () _ _ _ trivial (leSt_m [(0,0)] [] (by (try simp only [g618]) <;> simp only [push_cast,seval]) (by (try simp only [g618]) <;> simp only [push_cast,seval]) rfl rfl rfl)
     ·refine rk 3 ?_
      refine rf [(0,.sl trace.length (fl trace)),(1,.sl pipes.length (fl pipes)),(4,.ptr 0 0),(5,iS t20q7),(18,.sl pipes.length (fl pipes)),(19,iS (pipes.length:Int)),(20,iS t20q7),(30,bS (decide ((100:Int) < (ix pipes t20q7))))] [(0,.row 26 [iS 0,iS 0])] 1 (by kernel_rfl) ?_
      exact hK617 () _ _ _ trivial (leSt_m [(0,0)] [] (by (try simp only [g618]) <;> simp only [push_cast,seval]) (by (try simp only [g618]) <;> simp only [push_cast,seval]) rfl rfl rfl)
    ·dsimp only
     refine cond_sx h (by kernel_rfl) (fun g621 h=>?_) (fun g621 h=>?_)
     ·refine seq_np ?_
      refine reg_f ?_
      refine rk 1 ?_
      obtain ⟨r620,hr620,h⟩:=bind_sx h
      refine run_call 32 [iS 8,iS t20q7] (some 32) (by kernel_rfl) ?_
      refine call_0 (order_fault_spec 8 t20q7 r620 hr620) (by simp only [push_cast,seval]) (by simp only [push_cast,seval]) ?_
      refine back_f ?_
      refine rk 1 ?_
      refine rf [(4,.ptr 0 0)] [(0,.row 26 (Enc.cells r620))] 1 (by kernel_rfl) ?_
      refine wk_id ?_
      refine rt_cast ht3 ?_
      obtain ⟨r0,h,e0⟩:=map_sx h
      have e1:=hr3 r0 e0.symm
      subst r0
      obtain rfl:=Option.some.inj h
      refine ret_at (.agg (Enc.cells r620)) (by kernel_rfl) ?_
      exact ret_e [] [] (by simp only [push_cast,seval]) (by simp only [push_cast,seval]) rfl rfl rfl
     ·refine wk_id ?_
      refine wk_id ?_
      refine reg_f ?_
      refine rk 2 ?_
      refine rf [(0,.sl trace.length (fl trace)),(1,.sl pipes.length (fl pipes)),(4,.ptr 0 0),(18,.sl pipes.length (fl pipes)),(19,iS (pipes.length:Int)),(20,iS (IntKind.i64.wrap (t20q7+1)))] [(0,.row 26 [iS 0,iS 0])] 1 (by kernel_rfl) ?_
      exact hn3 ((IntKind.i64.wrap (t20q7+1))) _ _ _ (Option.some.inj h).symm (leSt_m [(0,0)] [] (by simp only [push_cast,seval]) (by simp only [push_cast,seval]) rfl rfl rfl)
   ·change R3 (.exit 0) _ _ _
    refine ex_cast hx3 (id:=0) ?_
    obtain ⟨r0,h,e0⟩:=map_sx h
    have e1:=hr3 r0 e0.symm
    subst r0
    refine wk_id ?_
    refine wk_id ?_
    refine seq_np ?_
    refine seq_np ?_
    refine reg_f ?_
    refine rk 3 ?_
    refine rf [(1,.sl pipes.length (fl pipes)),(4,.ptr 0 0),(34,.sl trace.length (fl trace)),(35,iS (trace.length:Int)),(36,iS 0)] [(0,.row 26 [iS 0,iS 0])] 1 (by kernel_rfl) ?_
    refine wk_id ?_
    refine block_np ?_
    refine loop_sx (S:=Int) (fun a=>([(1,.sl pipes.length (fl pipes)),(4,.ptr 0 0),(34,.sl trace.length (fl trace)),(35,iS (trace.length:Int)),(36,iS a)],[(0,.row 26 [iS 0,iS 0])],1)) h (leSt_m [(0,0)] [] (by simp only [push_cast,seval]) (by simp only [push_cast,seval]) rfl rfl rfl) ?_
    rintro t36q7 o4 R4 h hr4 hn4 hx4 ht4
    try dsimp only at h hn4 ⊢
    unfold order_Check_l1 at h
    try dsimp only at h
    refine seq_np ?_
    refine reg_f ?_
    refine rk 1 ?_
    refine rf [(1,.sl pipes.length (fl pipes)),(4,.ptr 0 0),(34,.sl trace.length (fl trace)),(35,iS (trace.length:Int)),(36,iS t36q7),(37,bS (decide (t36q7 < (trace.length:Int))))] [(0,.row 26 [iS 0,iS 0])] 1 (by kernel_rfl) ?_
    refine wk_id ?_
    refine seq_np ?_
    refine cond_sx h (by kernel_rfl) (fun g879 h=>?_) (fun g879 h=>?_)
    ·refine wk_id ?_
     refine seq_np ?_
     refine block_np ?_
     refine chk_sx h (fun g827 h=>?_)
     refine seq_np ?_
     refine reg_f ?_
     have k826:0≤t36q7∧t36q7 < (trace.length:Int):=by first | simpa only [Bool.and_eq_true,decide_eq_true_eq,bne_iff_ne,ne_eq] using g827 | (simp at g827 ⊢; omega)
     refine rs 6 [none,some ⟨.iptr (fl trace) ((t36q7).toNat * 4),[],1,[]⟩,some ⟨.agg (Enc.cells (ix trace t36q7)),[],1,[]⟩] _ (by kernel_rfl) (allP_cons (ob_ldw trace t36q7 4 ((t36q7).toNat * 4) k826 rfl (by first | rfl | omega) (Enc.cells (ix trace t36q7)) rfl 1 []) (allP_cons (ob_ix_l trace 4 1 t36q7 k826) allP_nil)) ?_
     refine rf [(1,.sl pipes.length (fl pipes)),(4,.ptr 0 0),(7,iS t36q7),(8,.ptr 1 0),(34,.sl trace.length (fl trace)),(35,iS (trace.length:Int)),(36,iS t36q7)] [(0,.row 26 [iS 0,iS 0]),(1,.row 31 (Enc.cells (ix trace t36q7)))] 2 (by kernel_rfl) ?_
     refine wk_id ?_
     refine block_np ?_
     refine seq_cut (A:=Unit) (fun _=>([(1,.sl pipes.length (fl pipes)),(4,.ptr 0 0),(7,iS t36q7),(8,.ptr 1 0),(34,.sl trace.length (fl trace)),(35,iS (trace.length:Int)),(36,iS t36q7),(41,bS ((decide ((ix trace t36q7).Task < 1)) || (decide ((64:Int) < (ix trace t36q7).Task))))],[(0,.row 26 [iS 0,iS 0]),(1,.row 31 (Enc.cells (ix trace t36q7)))],2)) (fun _=>True) (fun K846 hK846=>?_) (fun _ _=>?_)
     ·refine reg_f ?_
      refine rk 4 ?_
      refine run_split 45 (decide ((ix trace t36q7).Task < 1)) (.inl (by kernel_rfl)) (fun g847=>?_) (fun g847=>?_)
      ·refine rk 5 ?_
       refine rf [(1,.sl pipes.length (fl pipes)),(4,.ptr 0 0),(7,iS t36q7),(8,.ptr 1 0),(34,.sl trace.length (fl trace)),(35,iS (trace.length:Int)),(36,iS t36q7),(41,bS true)] [(0,.row 26 [iS 0,iS 0]),(1,.row 31 (Enc.cells (ix trace t36q7)))] 2 (by kernel_rfl) ?_
       exact hK846 () _ _ _ trivial (leSt_m [(0,0),(1,1)] [] (by (try simp only [g847]) <;> simp only [push_cast,seval]) (by (try simp only [g847]) <;> simp only [push_cast,seval]) rfl rfl rfl)
      ·refine rk 5 ?_
       refine rf [(1,.sl pipes.length (fl pipes)),(4,.ptr 0 0),(7,iS t36q7),(8,.ptr 1 0),(34,.sl trace.length (fl trace)),(35,iS (trace.length:Int)),(36,iS t36q7),(41,bS (decide ((64:Int) < (ix trace t36q7).Task)))] [(0,.row 26 [iS 0,iS 0]),(1,.row 31 (Enc.cells (ix trace t36q7)))] 2 (by kernel_rfl) ?_
       exact hK846 () _ _ _ trivial (leSt_m [(0,0),(1,1)] [] (by (try simp only [g847]) <;> simp only [push_cast,seval]) (by (try simp only [g847]) <;> simp only [push_cast,seval]) rfl rfl rfl)
     ·dsimp only
      refine cond_sx h (by kernel_rfl) (fun g878 h=>?_) (fun g878 h=>?_)
      ·refine seq_np ?_
       refine reg_f ?_
       refine rk 1 ?_
       obtain ⟨r849,hr849,h⟩:=bind_sx h
       refine run_call 32 [iS 3,iS t36q7] (some 51) (by kernel_rfl) ?_
       refine call_0 (order_fault_spec 3 t36q7 r849 hr849) (by simp only [push_cast,seval]) (by simp only [push_cast,seval]) ?_
       refine back_f ?_
       refine rk 1 ?_
       refine rf [(4,.ptr 0 0)] [(0,.row 26 (Enc.cells r849)),(1,.row 31 (Enc.cells (ix trace t36q7)))] 2 (by kernel_rfl) ?_
       refine wk_id ?_
       refine rt_cast ht4 ?_
       obtain ⟨r0,h,e0⟩:=map_sx h
       have e1:=hr4 r0 e0.symm
       subst r0
       obtain rfl:=Option.some.inj h
       refine ret_at (.agg (Enc.cells r849)) (by kernel_rfl) ?_
       exact ret_e [] [] (by simp only [push_cast,seval]) (by simp only [push_cast,seval]) rfl rfl rfl
      ·refine seq_cut (A:=Unit) (fun _=>([(1,.sl pipes.length (fl pipes)),(4,.ptr 0 0),(7,iS t36q7),(8,.ptr 1 0),(34,.sl trace.length (fl trace)),(35,iS (trace.length:Int)),(36,iS t36q7),(52,bS ((decide ((ix trace t36q7).Op < 8)) || (decide ((22:Int) < (ix trace t36q7).Op))))],[(0,.row 26 [iS 0,iS 0]),(1,.row 31 (Enc.cells (ix trace t36q7)))],2)) (fun _=>True) (fun K851 hK851=>?_) (fun _ _=>?_)
       ·refine reg_f ?_
        refine rk 4 ?_
        refine run_split 56 (decide ((ix trace t36q7).Op < 8)) (.inl (by kernel_rfl)) (fun g852=>?_) (fun g852=>?_)
        ·refine rk 5 ?_
         refine rf [(1,.sl pipes.length (fl pipes)),(4,.ptr 0 0),(7,iS t36q7),(8,.ptr 1 0),(34,.sl trace.length (fl trace)),(35,iS (trace.length:Int)),(36,iS t36q7),(52,bS true)] [(0,.row 26 [iS 0,iS 0]),(1,.row 31 (Enc.cells (ix trace t36q7)))] 2 (by kernel_rfl) ?_
         exact hK851 () _ _ _ trivial (leSt_m [(0,0),(1,1)] [] (by (try simp only [g852]) <;> simp only [push_cast,seval]) (by (try simp only [g852]) <;> simp only [push_cast,seval]) rfl rfl rfl)
        ·refine rk 5 ?_
         refine rf [(1,.sl pipes.length (fl pipes)),(4,.ptr 0 0),(7,iS t36q7),(8,.ptr 1 0),(34,.sl trace.length (fl trace)),(35,iS (trace.length:Int)),(36,iS t36q7),(52,bS (decide ((22:Int) < (ix trace t36q7).Op)))] [(0,.row 26 [iS 0,iS 0]),(1,.row 31 (Enc.cells (ix trace t36q7)))] 2 (by kernel_rfl) ?_
         exact hK851 () _ _ _ trivial (leSt_m [(0,0),(1,1)] [] (by (try simp only [g852]) <;> simp only [push_cast,seval]) (by (try simp only [g852]) <;> simp only [push_cast,seval]) rfl rfl rfl)
       ·dsimp only
        refine cond_sx h (by kernel_rfl) (fun g877 h=>?_) (fun g877 h=>?_)
        ·refine seq_np ?_
         refine reg_f ?_
         refine rk 1 ?_
         obtain ⟨r854,hr854,h⟩:=bind_sx h
         refine run_call 32 [iS 4,iS t36q7] (some 62) (by kernel_rfl) ?_
         refine call_0 (order_fault_spec 4 t36q7 r854 hr854) (by simp only [push_cast,seval]) (by simp only [push_cast,seval]) ?_
         refine back_f ?_
         refine rk 1 ?_
         refine rf [(4,.ptr 0 0)] [(0,.row 26 (Enc.cells r854)),(1,.row 31 (Enc.cells (ix trace t36q7)))] 2 (by kernel_rfl) ?_
         refine wk_id ?_
         refine rt_cast ht4 ?_
         obtain ⟨r0,h,e0⟩:=map_sx h
         have e1:=hr4 r0 e0.symm
         subst r0
         obtain rfl:=Option.some.inj h
         refine ret_at (.agg (Enc.cells r854)) (by kernel_rfl) ?_
         exact ret_e [] [] (by simp only [push_cast,seval]) (by simp only [push_cast,seval]) rfl rfl rfl
        ·refine seq_cut (A:=Unit) (fun _=>([(1,.sl pipes.length (fl pipes)),(4,.ptr 0 0),(7,iS t36q7),(8,.ptr 1 0),(34,.sl trace.length (fl trace)),(35,iS (trace.length:Int)),(36,iS t36q7),(63,bS ((decide ((ix trace t36q7).Obj < 0)) || ((decide ((20:Int) < (ix trace t36q7).Obj)) || (bif ((ix trace t36q7).Op == 14) then (decide ((pipes.length:Int)≤(ix trace t36q7).Obj)) else (bif ((ix trace t36q7).Op == 15) then (decide ((pipes.length:Int)≤(ix trace t36q7).Obj)) else (((ix trace t36q7).Op == 16) && (decide ((pipes.length:Int)≤(ix trace t36q7).Obj))))))))],[(0,.row 26 [iS 0,iS 0]),(1,.row 31 (Enc.cells (ix trace t36q7)))],2)) (fun _=>True) (fun K860 hK860=>?_) (fun _ _=>?_)
         ·refine reg_f ?_
          refine rk 4 ?_
          refine run_split 67 (decide ((ix trace t36q7).Obj < 0)) (.inl (by kernel_rfl)) (fun g861=>?_) (fun g861=>?_)
          ·refine rk 27 ?_
           refine rf [(1,.sl pipes.length (fl pipes)),(4,.ptr 0 0),(7,iS t36q7),(8,.ptr 1 0),(34,.sl trace.length (fl trace)),(35,iS (trace.length:Int)),(36,iS t36q7),(63,bS true)] [(0,.row 26 [iS 0,iS 0]),(1,.row 31 (Enc.cells (ix trace t36q7)))] 2 (by kernel_rfl) ?_
           exact hK860 () _ _ _ trivial (leSt_m [(0,0),(1,1)] [] (by (try simp only [g861]) <;> simp only [push_cast,seval]) (by (try simp only [g861]) <;> simp only [push_cast,seval]) rfl rfl rfl)
          ·refine rk 5 ?_
           refine run_split 72 (decide ((20:Int) < (ix trace t36q7).Obj)) (.inl (by kernel_rfl)) (fun g862=>?_) (fun g862=>?_)
           ·refine rk 22 ?_
            refine rf [(1,.sl pipes.length (fl pipes)),(4,.ptr 0 0),(7,iS t36q7),(8,.ptr 1 0),(34,.sl trace.length (fl trace)),(35,iS (trace.length:Int)),(36,iS t36q7),(63,bS true)] [(0,.row 26 [iS 0,iS 0]),(1,.row 31 (Enc.cells (ix trace t36q7)))] 2 (by kernel_rfl) ?_
            exact hK860 () _ _ _ trivial (leSt_m [(0,0),(1,1)] [] (by first | ((try simp only [g861,g862]) <;> simp only [push_cast,seval]; done) | ((try simp only [g861]); (try simp only [g862]); simp only [push_cast,seval]; done) | (exfalso; clear h; simp_all; done)) (by first | ((try simp only [g861,g862]) <;> simp only [push_cast,seval]; done) | ((try simp only [g861]); (try simp only [g862]); simp only [push_cast,seval]; done) | (exfalso; clear h; simp_all; done)) rfl rfl rfl)
           ·refine rk 4 ?_
            refine run_split 76 ((ix trace t36q7).Op == 14) (.inr (by kernel_rfl)) (fun g863=>?_) (fun g863=>?_)
            ·refine rn 13 [(1,.sl pipes.length (fl pipes)),(4,.ptr 0 0),(7,iS t36q7),(8,.ptr 1 0),(34,.sl trace.length (fl trace)),(35,iS (trace.length:Int)),(36,iS t36q7),(72,bS false),(76,.gd true (bS true))] [(0,.row 26 [iS 0,iS 0]),(1,.row 31 (Enc.cells (ix trace t36q7)))] 2 (by kernel_rfl) ?_
             refine rk 18 ?_
             refine rf [(1,.sl pipes.length (fl pipes)),(4,.ptr 0 0),(7,iS t36q7),(8,.ptr 1 0),(34,.sl trace.length (fl trace)),(35,iS (trace.length:Int)),(36,iS t36q7),(63,bS (decide ((pipes.length:Int)≤(ix trace t36q7).Obj)))] [(0,.row 26 [iS 0,iS 0]),(1,.row 31 (Enc.cells (ix trace t36q7)))] 2 (by kernel_rfl) ?_
             exact hK860 () _ _ _ trivial (leSt_m [(0,0),(1,1)] [] (by first | ((try simp only [g861,g862,g863]) <;> simp only [push_cast,seval]; done) | ((try simp only [g861]); (try simp only [g862]); (try simp only [g863]); simp only [push_cast,seval]; done) | (exfalso; clear h; simp_all; done)) (by first | ((try simp only [g861,g862,g863]) <;> simp only [push_cast,seval]; done) | ((try simp only [g861]); (try simp only [g862]); (try simp only [g863]); simp only [push_cast,seval]; done) | (exfalso; clear h; simp_all; done)) rfl rfl rfl)
            ·refine rn 13 [(1,.sl pipes.length (fl pipes)),(4,.ptr 0 0),(7,iS t36q7),(8,.ptr 1 0),(34,.sl trace.length (fl trace)),(35,iS (trace.length:Int)),(36,iS t36q7),(72,bS false),(76,.gd true (bS false))] [(0,.row 26 [iS 0,iS 0]),(1,.row 31 (Enc.cells (ix trace t36q7)))] 2 (by kernel_rfl) ?_
             refine rk 5 ?_
             refine run_split 81 ((ix trace t36q7).Op == 15) (.inr (by kernel_rfl)) (fun g864=>?_) (fun g864=>?_)
             ·refine rk 13 ?_
              refine rf [(1,.sl pipes.length (fl pipes)),(4,.ptr 0 0),(7,iS t36q7),(8,.ptr 1 0),(34,.sl trace.length (fl trace)),(35,iS (trace.length:Int)),(36,iS t36q7),(63,bS (decide ((pipes.length:Int)≤(ix trace t36q7).Obj)))] [(0,.row 26 [iS 0,iS 0]),(1,.row 31 (Enc.cells (ix trace t36q7)))] 2 (by kernel_rfl) ?_
              exact hK860 () _ _ _ trivial (leSt_m [(0,0),(1,1)] [] (by first | ((try simp only [g861,g862,g863,g864]) <;> simp only [push_cast,seval]; done) | ((try simp only [g861]); (try simp only [g862]); (try simp only [g863]); (try simp only [g864]); simp only [push_cast,seval]; done) | (exfalso; clear h; simp_all; done)) (by first | ((try simp only [g861,g862,g863,g864]) <;> simp only [push_cast,seval]; done) | ((try simp only [g861]); (try simp only [g862]); (try simp only [g863]); (try simp only [g864]); simp only [push_cast,seval]; done) | (exfalso; clear h; simp_all; done)) rfl rfl rfl)
             ·refine rk 5 ?_
              refine run_split 86 ((ix trace t36q7).Op == 16) (.inr (by kernel_rfl)) (fun g865=>?_) (fun g865=>?_)
              ·refine rk 8 ?_
               refine rf [(1,.sl pipes.length (fl pipes)),(4,.ptr 0 0),(7,iS t36q7),(8,.ptr 1 0),(34,.sl trace.length (fl trace)),(35,iS (trace.length:Int)),(36,iS t36q7),(63,bS (decide ((pipes.length:Int)≤(ix trace t36q7).Obj)))] [(0,.row 26 [iS 0,iS 0]),(1,.row 31 (Enc.cells (ix trace t36q7)))] 2 (by kernel_rfl) ?_
               exact hK860 () _ _ _ trivial (leSt_m [(0,0),(1,1)] [] (by first | ((try simp only [g861,g862,g863,g864,g865]) <;> simp only [push_cast,seval]; done) | ((try simp only [g861]); (try simp only [g862]); (try simp only [g863]); (try simp only [g864]); (try simp only [g865]); simp only [push_cast,seval]; done) | (exfalso; clear h; simp_all; done)) (by first | ((try simp only [g861,g862,g863,g864,g865]) <;> simp only [push_cast,seval]; done) | ((try simp only [g861]); (try simp only [g862]); (try simp only [g863]); (try simp only [g864]); (try simp only [g865]); simp only [push_cast,seval]; done) | (exfalso; clear h; simp_all; done)) rfl rfl rfl)
              ·refine rk 8 ?_
               refine rf [(1,.sl pipes.length (fl pipes)),(4,.ptr 0 0),(7,iS t36q7),(8,.ptr 1 0),(34,.sl trace.length (fl trace)),(35,iS (trace.length:Int)),(36,iS t36q7),(63,bS false)] [(0,.row 26 [iS 0,iS 0]),(1,.row 31 (Enc.cells (ix trace t36q7)))] 2 (by kernel_rfl) ?_
               exact hK860 () _ _ _ trivial (leSt_m [(0,0),(1,1)] [] (by first | ((try simp only [g861,g862,g863,g864,g865]) <;> simp only [push_cast,seval]; done) | ((try simp only [g861]); (try simp only [g862]); (try simp only [g863]); (try simp only [g864]); (try simp only [g865]); simp only [push_cast,seval]; done) | (exfalso; clear h; simp_all; done)) (by first | ((try simp only [g861,g862,g863,g864,g865]) <;> simp only [push_cast,seval]; done) | ((try simp only [g861]); (try simp only [g862]); (try simp only [g863]); (try simp only [g864]); (try simp only [g865]); simp only [push_cast,seval]; done) | (exfalso; clear h; simp_all; done)) rfl rfl rfl)
         ·dsimp only
          refine cond_sx h (by kernel_rfl) (fun g876 h=>?_) (fun g876 h=>?_)
          ·refine seq_np ?_
           refine reg_f ?_
           refine rk 1 ?_
           obtain ⟨r867,hr867,h⟩:=bind_sx h
           refine run_call 32 [iS 5,iS t36q7] (some 95) (by kernel_rfl) ?_
           refine call_0 (order_fault_spec 5 t36q7 r867 hr867) (by simp only [push_cast,seval]) (by simp only [push_cast,seval]) ?_
           refine back_f ?_
           refine rk 1 ?_
           refine rf [(4,.ptr 0 0)] [(0,.row 26 (Enc.cells r867)),(1,.row 31 (Enc.cells (ix trace t36q7)))] 2 (by kernel_rfl) ?_
           refine wk_id ?_
           refine rt_cast ht4 ?_
           obtain ⟨r0,h,e0⟩:=map_sx h
           have e1:=hr4 r0 e0.symm
           subst r0
           obtain rfl:=Option.some.inj h
           refine ret_at (.agg (Enc.cells r867)) (by kernel_rfl) ?_
           exact ret_e [] [] (by simp only [push_cast,seval]) (by simp only [push_cast,seval]) rfl rfl rfl
          ·refine seq_cut (A:=Unit) (fun _=>([(1,.sl pipes.length (fl pipes)),(4,.ptr 0 0),(7,iS t36q7),(34,.sl trace.length (fl trace)),(35,iS (trace.length:Int)),(36,iS t36q7),(96,bS (((ix trace t36q7).Op == 11) && ((decide ((ix trace t36q7).Value < 1)) || (decide ((64:Int) < (ix trace t36q7).Value)))))],[(0,.row 26 [iS 0,iS 0]),(1,.row 31 (Enc.cells (ix trace t36q7)))],2)) (fun _=>True) (fun K870 hK870=>?_) (fun _ _=>?_)
           ·refine reg_f ?_
            refine rk 4 ?_
            refine run_split 100 ((ix trace t36q7).Op == 11) (.inl (by kernel_rfl)) (fun g871=>?_) (fun g871=>?_)
            ·refine rk 4 ?_
             refine run_split 104 (decide ((ix trace t36q7).Value < 1)) (.inr (by kernel_rfl)) (fun g872=>?_) (fun g872=>?_)
             ·refine rk 6 ?_
              refine rf [(1,.sl pipes.length (fl pipes)),(4,.ptr 0 0),(7,iS t36q7),(34,.sl trace.length (fl trace)),(35,iS (trace.length:Int)),(36,iS t36q7),(96,bS true)] [(0,.row 26 [iS 0,iS 0]),(1,.row 31 (Enc.cells (ix trace t36q7)))] 2 (by kernel_rfl) ?_
              exact hK870 () _ _ _ trivial (leSt_m [(0,0),(1,1)] [] (by first | ((try simp only [g871,g872]) <;> simp only [push_cast,seval]; done) | ((try simp only [g871]); (try simp only [g872]); simp only [push_cast,seval]; done) | (exfalso; clear h; simp_all; done)) (by first | ((try simp only [g871,g872]) <;> simp only [push_cast,seval]; done) | ((try simp only [g871]); (try simp only [g872]); simp only [push_cast,seval]; done) | (exfalso; clear h; simp_all; done)) rfl rfl rfl)
             ·refine rk 6 ?_
              refine rf [(1,.sl pipes.length (fl pipes)),(4,.ptr 0 0),(7,iS t36q7),(34,.sl trace.length (fl trace)),(35,iS (trace.length:Int)),(36,iS t36q7),(96,bS (decide ((64:Int) < (ix trace t36q7).Value)))] [(0,.row 26 [iS 0,iS 0]),(1,.row 31 (Enc.cells (ix trace t36q7)))] 2 (by kernel_rfl) ?_
              exact hK870 () _ _ _ trivial (leSt_m [(0,0),(1,1)] [] (by first | ((try simp only [g871,g872]) <;> simp only [push_cast,seval]; done) | ((try simp only [g871]); (try simp only [g872]); simp only [push_cast,seval]; done) | (exfalso; clear h; simp_all; done)) (by first | ((try simp only [g871,g872]) <;> simp only [push_cast,seval]; done) | ((try simp only [g871]); (try simp only [g872]); simp only [push_cast,seval]; done) | (exfalso; clear h; simp_all; done)) rfl rfl rfl)
            ·refine rk 10 ?_
             refine rf [(1,.sl pipes.length (fl pipes)),(4,.ptr 0 0),(7,iS t36q7),(34,.sl trace.length (fl trace)),(35,iS (trace.length:Int)),(36,iS t36q7),(96,bS false)] [(0,.row 26 [iS 0,iS 0]),(1,.row 31 (Enc.cells (ix trace t36q7)))] 2 (by kernel_rfl) ?_
             exact hK870 () _ _ _ trivial (leSt_m [(0,0),(1,1)] [] (by (try simp only [g871]) <;> simp only [push_cast,seval]) (by (try simp only [g871]) <;> simp only [push_cast,seval]) rfl rfl rfl)
           ·dsimp only
            refine cond_sx h (by kernel_rfl) (fun g875 h=>?_) (fun g875 h=>?_)
            ·refine seq_np ?_
             refine reg_f ?_
             refine rk 1 ?_
             obtain ⟨r874,hr874,h⟩:=bind_sx h
             refine run_call 32 [iS 5,iS t36q7] (some 111) (by kernel_rfl) ?_
             refine call_0 (order_fault_spec 5 t36q7 r874 hr874) (by simp only [push_cast,seval]) (by simp only [push_cast,seval]) ?_
             refine back_f ?_
             refine rk 1 ?_
             refine rf [(4,.ptr 0 0)] [(0,.row 26 (Enc.cells r874)),(1,.row 31 (Enc.cells (ix trace t36q7)))] 2 (by kernel_rfl) ?_
             refine wk_id ?_
             refine rt_cast ht4 ?_
             obtain ⟨r0,h,e0⟩:=map_sx h
             have e1:=hr4 r0 e0.symm
             subst r0
             obtain rfl:=Option.some.inj h
             refine ret_at (.agg (Enc.cells r874)) (by kernel_rfl) ?_
             exact ret_e [] [] (by simp only [push_cast,seval]) (by simp only [push_cast,seval]) rfl rfl rfl
            ·refine wk_id ?_
             refine wk_id ?_
             refine wk_id ?_
             refine reg_f ?_
             refine rk 2 ?_
             refine rf [(1,.sl pipes.length (fl pipes)),(4,.ptr 0 0),(34,.sl trace.length (fl trace)),(35,iS (trace.length:Int)),(36,iS (IntKind.i64.wrap (t36q7+1)))] [(0,.row 26 [iS 0,iS 0]),(1,.row 31 (Enc.cells (ix trace t36q7)))] 2 (by kernel_rfl) ?_
             exact hn4 ((IntKind.i64.wrap (t36q7+1))) _ _ _ (Option.some.inj h).symm (leSt_m [(0,0)] [] (by simp only [push_cast,seval]) (by simp only [push_cast,seval]) rfl rfl rfl)
    ·change R4 (.exit 2) _ _ _
     refine ex_cast hx4 (id:=2) ?_
     obtain ⟨r0,h,e0⟩:=map_sx h
     have e1:=hr4 r0 e0.symm
     subst r0
     refine wk_id ?_
     refine wk_id ?_
     refine seq_np ?_
     refine reg_f ?_
     refine rk 2 ?_
     refine rf [(4,.ptr 0 0)] [(0,.row 26 [iS 0,iS 0])] 1 (by kernel_rfl) ?_
     refine wk_id ?_
     obtain rfl:=Option.some.inj h
     refine ret_at (.agg [iS 0,iS 0]) (by kernel_rfl) ?_
     exact ret_e [] [] (by simp only [push_cast,seval]) (by simp only [push_cast,seval]) rfl rfl rfl

set_option maxRecDepth 100000 in
set_option maxHeartbeats 200000000 in
theorem order_at_stamp_spec (k:Int) (c0:(List Int)) (c1:(List (VArr 65))) (r:Int×(List Int)×(List (VArr 65))) (h:order_at_stamp k c0 c1 = some r):SpecW Try.prog 49 [.mp 0,iS k] [(0,.map (mpP 1 c0)),((.s 1 0),.fam (famP 83 c1))] 2 (fun x h n=>x = .ptr (.s 1 r.1) 0∧h = [(0,.map (mpP 1 r.2.1)),((.s 1 0),.fam (famP 83 r.2.2))]∧n = 2):=by
 unfold order_at_stamp at h
 refine spec_of (draw_ok _) Try.func49 rfl (by decide) rfl (by kernel_rfl) ?_
 refine chk_sx h (fun g903 h=>?_)
 have k902:c0.length = c1.length:=of_decide_eq_true g903
 refine seq_np ?_
 refine reg_f ?_
 refine rk 1 ?_
 refine rf [(0,.mp 0),(1,iS k)] [(0,.map (mpP 1 c0)),((.s 1 0),.fam (famP 83 c1))] 2 (by kernel_rfl) ?_
 refine wk_id ?_
 refine seq_cut (A:=(List Int)×(List (VArr 65))) (fun a=>([(0,.mp 0),(1,iS k)],[(0,.map (mpP 1 a.1)),((.s 1 0),.fam (famP 83 a.2))],2)) (fun a=>(order_at_stamp_j1 k a.1 a.2) = some r) (fun K916 hK916=>?_) ?_
 ·refine bsplit_sx h (fun g917 h=>?_) (fun g917 h=>?_)
  ·refine chk_sx h (fun g921 h=>?_)
   refine seq_np ?_
   refine reg_f ?_
   have k920:0≤(kAt c0 k)∧(kAt c0 k) < (c1.length:Int):=by first | simpa only [Bool.and_eq_true,decide_eq_true_eq,bne_iff_ne,ne_eq] using g921 | (simp at g921 ⊢; omega)
   refine rs 4 [none,none,some ⟨.ptr (.s 1 (kAt c0 k)) 0,[],2,[0]⟩] _ (by kernel_rfl) (allP_cons (ob_look0 (.int .i64) rfl (.pointer none) k (mpP 1 c0) (.ptr (.s 1 (kAt c0 k)) 0) (mpP_alike 1 c0 k) (mpP_look g917 _) 0 2) allP_nil) ?_
   refine rf [(0,.mp 0),(1,iS k),(8,bS false)] [(0,.map (mpP 1 c0)),((.s 1 0),.fam (famP 83 c1))] 2 (by kernel_rfl) ?_
   refine wk_id ?_
   refine cond_f (by kernel_rfl) ?_
   exact hK916 (c0,c1) _ _ _ h (leSt_m [(0,0),((.s 1 0),(.s 1 0))] [] (by simp only [bitvec_to_nat,push_cast,k902,lenP_famP,seval]) (by simp only [bitvec_to_nat,push_cast,k902,lenP_famP,seval]) rfl rfl rfl)
  ·refine seq_np ?_
   refine reg_f ?_
   refine rs 4 [none,none,some ⟨.v (.pointer none),[],2,[0]⟩] _ (by kernel_rfl) (allP_cons (ob_look0 (.int .i64) rfl (.pointer none) k (mpP 1 c0) (.v (.pointer none)) (mpP_alike 1 c0 k) (mpP_none g917 _) 0 2) allP_nil) ?_
   refine rf [(0,.mp 0),(1,iS k),(8,bS true)] [(0,.map (mpP 1 c0)),((.s 1 0),.fam (famP 83 c1))] 2 (by kernel_rfl) ?_
   refine wk_id ?_
   refine cond_t (by kernel_rfl) ?_
   refine reg_f ?_
   refine rs 4 [none,none,none,some ⟨.any,[(0,.map (mpP 1 c0++[(.int .i64 k,.ptr (.t 2) 0)]))],3,[0]⟩] _ (by kernel_rfl) (allP_cons (ob_mset0 (.int .i64) rfl k (.ptr (.t 2) 0) (mpP 1 c0) (mpP 1 c0++[(.int .i64 k,.ptr (.t 2) 0)]) (mpP_alike 1 c0 k) (mpP_new g917 _) 0 3) allP_nil) ?_
   refine rf [(0,.mp 0),(1,iS k)] [(0,.map (mpP 1 c0++[(.int .i64 k,.ptr (.t 2) 0)])),((.s 1 0),.fam (famP 83 c1)),(2,.row 83 (Enc.cells (default:(VArr 65))))] 3 (by kernel_rfl) ?_
   refine wk_gh2 [(0,.mp 0),(1,iS k)] [(0,.map (mpP 1 (c0++[k]))),((.s 1 0),.fam (famP 83 (c1++[((default:(VArr 65)):(VArr 65))]))),(2,.dead)] 3 (gh_MM (hp:=[(0,.map (mpP 1 c0++[(.int .i64 k,.ptr (.t 2) 0)])),((.s 1 0),.fam (famP 83 c1)),(2,.row 83 (Enc.cells (default:(VArr 65))))]) (t:=83) (xs:=c1) (y:=((default:(VArr 65)):(VArr 65))) (r:=0) (k:=2) (F:=1) (ks:=c0) (q:=k) (fr:=[(0,.mp 0),(1,iS k)]) [(0,.mp 0),(1,iS k)] [(0,.map (mpP 1 (c0++[k]))),((.s 1 0),.fam (famP 83 (c1++[((default:(VArr 65)):(VArr 65))]))),(2,.dead)] (by kernel_rfl) (by kernel_rfl) (by kernel_rfl) (by kernel_rfl) k902 (by kernel_rfl)) ?_
   exact hK916 ((c0++[k]),(c1++[((default:(VArr 65)):(VArr 65))])) _ _ _ h (leSt_m [(0,0),((.s 1 0),(.s 1 0))] [] (by simp only [bitvec_to_nat,push_cast,(show (c0++[k]).length = (c1++[((default:(VArr 65)):(VArr 65))]).length by rw [List.length_append,List.length_append,List.length_singleton,List.length_singleton,k902]),lenP_famP,seval]) (by simp only [bitvec_to_nat,push_cast,(show (c0++[k]).length = (c1++[((default:(VArr 65)):(VArr 65))]).length by rw [List.length_append,List.length_append,List.length_singleton,List.length_singleton,k902]),lenP_famP,seval]) rfl rfl rfl)
 ·rintro ⟨c0q3,c1q3⟩ h
  try dsimp only at h ⊢
  unfold order_at_stamp_j1 at h
  refine chk_sx h (fun g923 h=>?_)
  have k922:c0q3.length = c1q3.length:=of_decide_eq_true g923
  refine bsplit_sx h (fun g924 h=>?_) (fun g924 h=>?_)
  ·refine chk_sx h (fun g928 h=>?_)
   refine seq_np ?_
   refine reg_f ?_
   have k927:0≤(kAt c0q3 k)∧(kAt c0q3 k) < (c1q3.length:Int):=by first | simpa only [Bool.and_eq_true,decide_eq_true_eq,bne_iff_ne,ne_eq] using g928 | (simp at g928 ⊢; omega)
   refine rs 4 [none,none,some ⟨.ptr (.s 1 (kAt c0q3 k)) 0,[],2,[0]⟩] _ (by kernel_rfl) (allP_cons (ob_look0 (.int .i64) rfl (.pointer none) k (mpP 1 c0q3) (.ptr (.s 1 (kAt c0q3 k)) 0) (mpP_alike 1 c0q3 k) (mpP_look g924 _) 0 2) allP_nil) ?_
   refine rf [(4,.ptr (.s 1 (kAt c0q3 k)) 0)] [(0,.map (mpP 1 c0q3)),((.s 1 0),.fam (famP 83 c1q3))] 2 (by kernel_rfl) ?_
   refine wk_id ?_
   obtain rfl:=Option.some.inj h
   refine ret_at (.ptr (.s 1 (kAt c0q3 k)) 0) (by kernel_rfl) ?_
   exact ret_e [(0,0),((.s 1 0),(.s 1 0))] [] (by simp only [bitvec_to_nat,push_cast,famP_in (xs:=c1q3) (i:=(kAt c0q3 k)) k927,k922,lenP_famP,seval]) (by simp only [bitvec_to_nat,push_cast,famP_in (xs:=c1q3) (i:=(kAt c0q3 k)) k927,k922,lenP_famP,seval]) rfl rfl rfl
  ·refine seq_np ?_
   refine reg_f ?_
   cases h

set_option maxRecDepth 100000 in
set_option maxHeartbeats 200000000 in
theorem order_stamp_join_spec (si:Int) (t:(VArr 65)) (c0:(List (VArr 65))) (r:(List (VArr 65))) (h:order_stamp_join si t c0 = some r):SpecW Try.prog 50 [.ptr (.s 0 si) 0,.agg (Enc.cells t)] [((.s 0 0),.fam (famP 83 c0))] 1 (fun x h n=>x = .tup []∧h = [((.s 0 0),.fam (famP 83 r))]∧n = 1):=by
 unfold order_stamp_join at h
 refine spec_of (draw_ok _) Try.func50 rfl (by decide) rfl (by kernel_rfl) ?_
 refine chk_sx h (fun g939 h=>?_)
 have k938:0≤si∧si < (c0.length:Int):=of_decide_eq_true g939
 refine seq_np ?_
 refine reg_f ?_
 refine rk 1 ?_
 refine rf [(0,.ptr (.s 0 si) 0),(3,.ptr 1 0)] [((.s 0 0),.fam (famP 83 c0)),(1,.row 83 (Enc.cells t))] 2 (by kernel_rfl) ?_
 refine wk_id ?_
 refine seq_np ?_
 refine reg_f ?_
 refine rk 1 ?_
 refine rf [(0,.ptr (.s 0 si) 0),(3,.ptr 1 0),(5,iS 0)] [((.s 0 0),.fam (famP 83 c0)),(1,.row 83 (Enc.cells t))] 2 (by kernel_rfl) ?_
 refine wk_id ?_
 refine block_np ?_
 refine loop_sx (S:=Int×(List (VArr 65))) (fun a=>([(0,.ptr (.s 0 si) 0),(3,.ptr 1 0),(5,iS a.1)],[((.s 0 0),.fam (famP 83 a.2)),(1,.row 83 (Enc.cells t))],2)) h (leSt_m [((.s 0 0),(.s 0 0)),(1,1)] [] (by simp only [bitvec_to_nat,push_cast,famP_in (xs:=c0) (i:=si) k938,seval]) (by simp only [bitvec_to_nat,push_cast,famP_in (xs:=c0) (i:=si) k938,seval]) rfl rfl rfl) ?_
 rintro ⟨t5q3,c0q5⟩ o2 R2 h hr2 hn2 hx2 ht2
 try dsimp only at h hn2 ⊢
 unfold order_stamp_join_l1 at h
 try dsimp only at h
 refine chk_sx h (fun g962 h=>?_)
 have k961:0≤si∧si < (c0q5.length:Int):=of_decide_eq_true g962
 refine seq_np ?_
 refine reg_f ?_
 refine rk 1 ?_
 refine rf [(0,.ptr (.s 0 si) 0),(3,.ptr 1 0),(5,iS t5q3),(6,bS (decide (t5q3 < 65)))] [((.s 0 0),.fam (famP 83 c0q5)),(1,.row 83 (Enc.cells t))] 2 (by kernel_rfl) ?_
 refine wk_id ?_
 refine seq_np ?_
 refine cond_sx h (by kernel_rfl) (fun g972 h=>?_) (fun g972 h=>?_)
 ·refine wk_id ?_
  refine seq_np ?_
  refine block_np ?_
  refine seq_np ?_
  refine reg_f ?_
  refine rk 2 ?_
  refine rf [(0,.ptr (.s 0 si) 0),(3,.ptr 1 0),(4,iS t5q3),(5,iS t5q3)] [((.s 0 0),.fam (famP 83 c0q5)),(1,.row 83 (Enc.cells t))] 2 (by kernel_rfl) ?_
  refine wk_id ?_
  refine chk_sx h (fun g971 h=>?_)
  refine reg_t ?_
  have k970:0≤t5q3∧t5q3 < ((65:Nat):Int):=by first | simpa only [Bool.and_eq_true,decide_eq_true_eq,bne_iff_ne,ne_eq] using g971 | (simp at g971 ⊢; omega)
  refine rs 14 [none,none,none,none,none,some ⟨.ptr (.s 0 si) (0+(t5q3).toNat * 1),[],7,[]⟩,some ⟨iS ((ix c0q5 si).get t5q3),[],8,[(.s 0 0)]⟩,none,some ⟨.ptr 1 (0+(t5q3).toNat * 1),[],10,[]⟩,some ⟨iS (t.get t5q3),[],11,[1]⟩,none,none,some ⟨.ptr (.s 0 si) (0+(t5q3).toNat * 1),[],14,[]⟩,some ⟨.any,[((.s 0 0),.fam (famP 83 (c0q5.set si.toNat (((ix c0q5 si).set t5q3 (max ((ix c0q5 si).get t5q3) (t.get t5q3))):(VArr 65)))))],15,[(.s 0 0)]⟩] _ (by kernel_rfl) (allP_cons (ob_stP (P:=Try.prog) 83 c0q5 si k961 (0+(t5q3).toNat * 1) [iS (max ((ix c0q5 si).get t5q3) (t.get t5q3))] (((ix c0q5 si).set t5q3 (max ((ix c0q5 si).get t5q3) (t.get t5q3))):(VArr 65)) (by have:=(k970:0≤t5q3∧t5q3 < ((65:Nat):Int)); show (0+(t5q3).toNat * 1)+1≤65; omega) (arr_splice ([]:List SV) ([]:List SV) (ix c0q5 si) t5q3 (max ((ix c0q5 si).get t5q3) (t.get t5q3)) (0+(t5q3).toNat * 1) k970 rfl) 0 15 3 (by kernel_rfl) rfl) (allP_cons (ob_ixa (.s 0 si) 0 65 1 t5q3 14 k970) (allP_cons (ob_lda ([]:List SV) ([]:List SV) t t5q3 (0+(t5q3).toNat * 1) k970 rfl (dflS Try.prog 3) 11 [1]) (allP_cons (ob_ixa 1 0 65 1 t5q3 10 k970) (allP_cons (ob_memL (P:=Try.prog) 83 c0q5 si k961 3 (0+(t5q3).toNat * 1) 8 [(.s 0 0)] (ob_lda ([]:List SV) ([]:List SV) (ix c0q5 si) t5q3 (0+(t5q3).toNat * 1) k970 rfl (dflS Try.prog 3) 8 [(.s 0 0)])) (allP_cons (ob_ixa (.s 0 si) 0 65 1 t5q3 7 k970) allP_nil)))))) ?_
  refine rt [(0,.ptr (.s 0 si) 0),(3,.ptr 1 0),(5,iS t5q3)] [((.s 0 0),.fam (famP 83 (c0q5.set si.toNat (((ix c0q5 si).set t5q3 (max ((ix c0q5 si).get t5q3) (t.get t5q3))):(VArr 65))))),(1,.row 83 (Enc.cells t))] 16 follows (by kernel_rfl) ?_
  refine wk_id ?_
  refine wk_id ?_
  refine reg_f ?_
  refine rk 2 ?_
  refine rf [(0,.ptr (.s 0 si) 0),(3,.ptr 1 0),(5,iS (IntKind.i64.wrap (t5q3+1)))] [((.s 0 0),.fam (famP 83 (c0q5.set si.toNat (((ix c0q5 si).set t5q3 (max ((ix c0q5 si).get t5q3) (t.get t5q3))):(VArr 65))))),(1,.row 83 (Enc.cells t))] 16 (by kernel_rfl) ?_
  exact hn2 ((IntKind.i64.wrap (t5q3+1)),(c0q5.set si.toNat (((ix c0q5 si).set t5q3 (max ((ix c0q5 si).get t5q3) (t.get t5q3))):(VArr 65)))) _ _ _ (Option.some.inj h).symm (leSt_m [((.s 0 0),(.s 0 0)),(1,1)] [] (by simp only [bitvec_to_nat,push_cast,famP_in (xs:=(c0q5.set si.toNat (((ix c0q5 si).set t5q3 (max ((ix c0q5 si).get t5q3) (t.get t5q3))):(VArr 65)))) (i:=si) (by rw [List.length_set]; exact k961),seval]) (by simp only [bitvec_to_nat,push_cast,famP_in (xs:=(c0q5.set si.toNat (((ix c0q5 si).set t5q3 (max ((ix c0q5 si).get t5q3) (t.get t5q3))):(VArr 65)))) (i:=si) (by rw [List.length_set]; exact k961),seval]) rfl rfl rfl)
 ·change R2 (.exit 0) _ _ _
  refine ex_cast hx2 (id:=0) ?_
  obtain ⟨r0,h,e0⟩:=map_sx h
  have e1:=hr2 r0 e0.symm
  subst r0
  refine wk_id ?_
  obtain rfl:=Option.some.inj h
  refine ret_an (.tup []) (by kernel_rfl) ?_
  exact ret_e [((.s 0 0),(.s 0 0))] [] (by simp only [bitvec_to_nat,push_cast,seval]) (by simp only [bitvec_to_nat,push_cast,seval]) rfl rfl rfl

set_option maxRecDepth 100000 in
set_option maxHeartbeats 200000000 in
theorem order_at_stamp_1_spec (k:Int) (c0:(List Int)) (c1:(List (VArr 65))) (hK:(kHas c0 k) = true) (r:Int) (h:order_at_stamp_1 k c0 c1 = some r):SpecW Try.prog 49 [.mp 0,iS k] [(0,.map (mpP 1 c0)),((.s 1 0),.fam (famP 83 c1))] 2 (fun x h n=>x = .ptr (.s 1 r) 0∧h = [(0,.map (mpP 1 c0)),((.s 1 0),.fam (famP 83 c1))]∧n = 2):=by
 unfold order_at_stamp_1 at h
 refine spec_of (draw_ok _) Try.func49 rfl (by decide) rfl (by kernel_rfl) ?_
 refine chk_sx h (fun g1002 h=>?_)
 have k1001:c0.length = c1.length:=of_decide_eq_true g1002
 refine seq_np ?_
 refine reg_f ?_
 refine rk 1 ?_
 refine rf [(0,.mp 0),(1,iS k)] [(0,.map (mpP 1 c0)),((.s 1 0),.fam (famP 83 c1))] 2 (by kernel_rfl) ?_
 refine wk_id ?_
 refine seq_np ?_
 refine chk_sx h (fun g1010 h=>?_)
 refine seq_np ?_
 refine reg_f ?_
 have k1009:0≤(kAt c0 k)∧(kAt c0 k) < (c1.length:Int):=by first | simpa only [Bool.and_eq_true,decide_eq_true_eq,bne_iff_ne,ne_eq] using g1010 | (simp at g1010 ⊢; omega)
 refine rs 4 [none,none,some ⟨.ptr (.s 1 (kAt c0 k)) 0,[],2,[0]⟩] _ (by kernel_rfl) (allP_cons (ob_look0 (.int .i64) rfl (.pointer none) k (mpP 1 c0) (.ptr (.s 1 (kAt c0 k)) 0) (mpP_alike 1 c0 k) (mpP_look hK _) 0 2) allP_nil) ?_
 refine rf [(0,.mp 0),(1,iS k),(8,bS false)] [(0,.map (mpP 1 c0)),((.s 1 0),.fam (famP 83 c1))] 2 (by kernel_rfl) ?_
 refine wk_id ?_
 refine cond_f (by kernel_rfl) ?_
 refine wk_id ?_
 refine seq_np ?_
 refine reg_f ?_
 refine rs 4 [none,none,some ⟨.ptr (.s 1 (kAt c0 k)) 0,[],2,[0]⟩] _ (by kernel_rfl) (allP_cons (ob_look0 (.int .i64) rfl (.pointer none) k (mpP 1 c0) (.ptr (.s 1 (kAt c0 k)) 0) (mpP_alike 1 c0 k) (mpP_look hK _) 0 2) allP_nil) ?_
 refine rf [(4,.ptr (.s 1 (kAt c0 k)) 0)] [(0,.map (mpP 1 c0)),((.s 1 0),.fam (famP 83 c1))] 2 (by kernel_rfl) ?_
 refine wk_id ?_
 obtain rfl:=Option.some.inj h
 refine ret_at (.ptr (.s 1 (kAt c0 k)) 0) (by kernel_rfl) ?_
 exact ret_e [(0,0),((.s 1 0),(.s 1 0))] [] (by simp only [bitvec_to_nat,push_cast,famP_in (xs:=c1) (i:=(kAt c0 k)) k1009,k1001,lenP_famP,seval]) (by simp only [bitvec_to_nat,push_cast,famP_in (xs:=c1) (i:=(kAt c0 k)) k1009,k1001,lenP_famP,seval]) rfl rfl rfl

set_option maxRecDepth 100000 in
set_option maxHeartbeats 200000000 in
theorem order_at_stamp_2_spec (k:Int) (c0:(List Int)) (c1:(List (VArr 65))) (hK:(kHas c0 k) = false) (r:(VArr 65)×(List Int)) (h:order_at_stamp_2 k c0 c1 = some r):SpecW Try.prog 49 [.mp 0,iS k] [(0,.map (mpP 1 c0)),((.s 1 0),.fam (famP 83 c1))] 2 (fun x h n=>x = .ptr 2 0∧h = [(0,.map (mpP 1 r.2++[(.int .i64 k,.ptr (.t 2) 0)])),((.s 1 0),.fam (famP 83 c1)),(2,.row 83 (Enc.cells r.1))]∧n = 3):=by
 unfold order_at_stamp_2 at h
 refine spec_of (draw_ok _) Try.func49 rfl (by decide) rfl (by kernel_rfl) ?_
 refine chk_sx h (fun g1024 h=>?_)
 have k1023:c0.length = c1.length:=of_decide_eq_true g1024
 refine seq_np ?_
 refine reg_f ?_
 refine rk 1 ?_
 refine rf [(0,.mp 0),(1,iS k)] [(0,.map (mpP 1 c0)),((.s 1 0),.fam (famP 83 c1))] 2 (by kernel_rfl) ?_
 refine wk_id ?_
 refine seq_np ?_
 refine seq_np ?_
 refine reg_f ?_
 refine rs 4 [none,none,some ⟨.v (.pointer none),[],2,[0]⟩] _ (by kernel_rfl) (allP_cons (ob_look0 (.int .i64) rfl (.pointer none) k (mpP 1 c0) (.v (.pointer none)) (mpP_alike 1 c0 k) (mpP_none hK _) 0 2) allP_nil) ?_
 refine rf [(0,.mp 0),(1,iS k),(8,bS true)] [(0,.map (mpP 1 c0)),((.s 1 0),.fam (famP 83 c1))] 2 (by kernel_rfl) ?_
 refine wk_id ?_
 refine cond_t (by kernel_rfl) ?_
 refine reg_f ?_
 refine rs 4 [none,none,none,some ⟨.any,[(0,.map (mpP 1 c0++[(.int .i64 k,.ptr (.t 2) 0)]))],3,[0]⟩] _ (by kernel_rfl) (allP_cons (ob_mset0 (.int .i64) rfl k (.ptr (.t 2) 0) (mpP 1 c0) (mpP 1 c0++[(.int .i64 k,.ptr (.t 2) 0)]) (mpP_alike 1 c0 k) (mpP_new hK _) 0 3) allP_nil) ?_
 refine rf [(0,.mp 0),(1,iS k)] [(0,.map (mpP 1 c0++[(.int .i64 k,.ptr (.t 2) 0)])),((.s 1 0),.fam (famP 83 c1)),(2,.row 83 (Enc.cells (default:(VArr 65))))] 3 (by kernel_rfl) ?_
 refine wk_id ?_
 refine seq_np ?_
 refine reg_f ?_
 refine rs 4 [none,none,some ⟨.ptr 2 0,[],3,[0]⟩] _ (by kernel_rfl) (allP_cons (ob_look0 (.int .i64) rfl (.pointer none) k (mpP 1 c0++[(.int .i64 k,.ptr 2 0)]) (.ptr 2 0) (mpP_alike1 1 c0 k k _) (mpP_look1 hK _ _) 0 3) allP_nil) ?_
 refine rf [(4,.ptr 2 0)] [(0,.map (mpP 1 c0++[(.int .i64 k,.ptr (.t 2) 0)])),((.s 1 0),.fam (famP 83 c1)),(2,.row 83 (Enc.cells (default:(VArr 65))))] 3 (by kernel_rfl) ?_
 refine wk_id ?_
 obtain rfl:=Option.some.inj h
 refine ret_at (.ptr 2 0) (by kernel_rfl) ?_
 exact ret_e [(0,0),((.s 1 0),(.s 1 0)),(2,2)] [] (by simp only [bitvec_to_nat,push_cast,k1023,lenP_famP,seval]) (by simp only [bitvec_to_nat,push_cast,k1023,lenP_famP,seval]) rfl rfl rfl

set_option maxRecDepth 100000 in
set_option maxHeartbeats 200000000 in
theorem order_stamp_join_2_spec (t:(VArr 65)) (c0:(VArr 65)) (r:(VArr 65)) (h:order_stamp_join_2 t c0 = some r):SpecW Try.prog 50 [.ptr 0 0,.agg (Enc.cells t)] [(0,.row 83 (Enc.cells c0))] 1 (fun x h n=>x = .tup []∧h = [(0,.row 83 (Enc.cells r))]∧n = 1):=by
 unfold order_stamp_join_2 at h
 refine spec_of (draw_ok _) Try.func50 rfl (by decide) rfl (by kernel_rfl) ?_
 refine seq_np ?_
 refine reg_f ?_
 refine rk 1 ?_
 refine rf [(0,.ptr 0 0),(3,.ptr 1 0)] [(0,.row 83 (Enc.cells c0)),(1,.row 83 (Enc.cells t))] 2 (by kernel_rfl) ?_
 refine wk_id ?_
 refine seq_np ?_
 refine reg_f ?_
 refine rk 1 ?_
 refine rf [(0,.ptr 0 0),(3,.ptr 1 0),(5,iS 0)] [(0,.row 83 (Enc.cells c0)),(1,.row 83 (Enc.cells t))] 2 (by kernel_rfl) ?_
 refine wk_id ?_
 refine block_np ?_
 refine loop_sx (S:=Int×(VArr 65)) (fun a=>([(0,.ptr 0 0),(3,.ptr 1 0),(5,iS a.1)],[(0,.row 83 (Enc.cells a.2)),(1,.row 83 (Enc.cells t))],2)) h (leSt_m [(0,0),(1,1)] [] (by simp only [bitvec_to_nat,push_cast,seval]) (by simp only [bitvec_to_nat,push_cast,seval]) rfl rfl rfl) ?_
 rintro ⟨t5q3,c0q5⟩ o2 R2 h hr2 hn2 hx2 ht2
 try dsimp only at h hn2 ⊢
 unfold order_stamp_join_2_l1 at h
 try dsimp only at h
 refine seq_np ?_
 refine reg_f ?_
 refine rk 1 ?_
 refine rf [(0,.ptr 0 0),(3,.ptr 1 0),(5,iS t5q3),(6,bS (decide (t5q3 < 65)))] [(0,.row 83 (Enc.cells c0q5)),(1,.row 83 (Enc.cells t))] 2 (by kernel_rfl) ?_
 refine wk_id ?_
 refine seq_np ?_
 refine cond_sx h (by kernel_rfl) (fun g1048 h=>?_) (fun g1048 h=>?_)
 ·refine wk_id ?_
  refine seq_np ?_
  refine block_np ?_
  refine seq_np ?_
  refine reg_f ?_
  refine rk 2 ?_
  refine rf [(0,.ptr 0 0),(3,.ptr 1 0),(4,iS t5q3),(5,iS t5q3)] [(0,.row 83 (Enc.cells c0q5)),(1,.row 83 (Enc.cells t))] 2 (by kernel_rfl) ?_
  refine wk_id ?_
  refine chk_sx h (fun g1047 h=>?_)
  refine reg_t ?_
  have k1046:0≤t5q3∧t5q3 < ((65:Nat):Int):=by first | simpa only [Bool.and_eq_true,decide_eq_true_eq,bne_iff_ne,ne_eq] using g1047 | (simp at g1047 ⊢; omega)
  refine rs 14 [none,none,none,none,none,some ⟨.ptr 0 (0+(t5q3).toNat * 1),[],7,[]⟩,some ⟨iS (c0q5.get t5q3),[],8,[0]⟩,none,some ⟨.ptr 1 (0+(t5q3).toNat * 1),[],10,[]⟩,some ⟨iS (t.get t5q3),[],11,[1]⟩,none,none,some ⟨.ptr 0 (0+(t5q3).toNat * 1),[],14,[]⟩,some ⟨.any,[(0,.row 83 (Enc.cells (c0q5.set t5q3 (max (c0q5.get t5q3) (t.get t5q3)))))],15,[0]⟩] _ (by kernel_rfl) (allP_cons (ob_sta (P:=Try.prog) ([]:List SV) ([]:List SV) c0q5 t5q3 (max (c0q5.get t5q3) (t.get t5q3)) (0+(t5q3).toNat * 1) k1046 rfl 0 15 83 3 (by kernel_rfl)) (allP_cons (ob_ixa 0 0 65 1 t5q3 14 k1046) (allP_cons (ob_lda ([]:List SV) ([]:List SV) t t5q3 (0+(t5q3).toNat * 1) k1046 rfl (dflS Try.prog 3) 11 [1]) (allP_cons (ob_ixa 1 0 65 1 t5q3 10 k1046) (allP_cons (ob_lda ([]:List SV) ([]:List SV) c0q5 t5q3 (0+(t5q3).toNat * 1) k1046 rfl (dflS Try.prog 3) 8 [0]) (allP_cons (ob_ixa 0 0 65 1 t5q3 7 k1046) allP_nil)))))) ?_
  refine rt [(0,.ptr 0 0),(3,.ptr 1 0),(5,iS t5q3)] [(0,.row 83 (Enc.cells (c0q5.set t5q3 (max (c0q5.get t5q3) (t.get t5q3))))),(1,.row 83 (Enc.cells t))] 16 follows (by kernel_rfl) ?_
  refine wk_id ?_
  refine wk_id ?_
  refine reg_f ?_
  refine rk 2 ?_
  refine rf [(0,.ptr 0 0),(3,.ptr 1 0),(5,iS (IntKind.i64.wrap (t5q3+1)))] [(0,.row 83 (Enc.cells (c0q5.set t5q3 (max (c0q5.get t5q3) (t.get t5q3))))),(1,.row 83 (Enc.cells t))] 16 (by kernel_rfl) ?_
  exact hn2 ((IntKind.i64.wrap (t5q3+1)),(c0q5.set t5q3 (max (c0q5.get t5q3) (t.get t5q3)))) _ _ _ (Option.some.inj h).symm (leSt_m [(0,0),(1,1)] [] (by simp only [bitvec_to_nat,push_cast,seval]) (by simp only [bitvec_to_nat,push_cast,seval]) rfl rfl rfl)
 ·change R2 (.exit 0) _ _ _
  refine ex_cast hx2 (id:=0) ?_
  obtain ⟨r0,h,e0⟩:=map_sx h
  have e1:=hr2 r0 e0.symm
  subst r0
  refine wk_id ?_
  obtain rfl:=Option.some.inj h
  refine ret_an (.tup []) (by kernel_rfl) ?_
  exact ret_e [(0,0)] [] (by simp only [bitvec_to_nat,push_cast,seval]) (by simp only [bitvec_to_nat,push_cast,seval]) rfl rfl rfl

set_option maxRecDepth 100000 in
set_option maxHeartbeats 200000000 in
theorem order_at_guard_spec (k:Int) (c0:(List Int)) (c1:(List guard)) (r:Int×(List Int)×(List guard)) (h:order_at_guard k c0 c1 = some r):SpecW Try.prog 51 [.mp 0,iS k] [(0,.map (mpP 1 c0)),((.s 1 0),.fam (famP 98 c1))] 2 (fun x h n=>x = .ptr (.s 1 r.1) 0∧h = [(0,.map (mpP 1 r.2.1)),((.s 1 0),.fam (famP 98 r.2.2))]∧n = 2):=by
 unfold order_at_guard at h
 refine spec_of (draw_ok _) Try.func51 rfl (by decide) rfl (by kernel_rfl) ?_
 refine chk_sx h (fun g1082 h=>?_)
 have k1081:c0.length = c1.length:=of_decide_eq_true g1082
 refine seq_np ?_
 refine reg_f ?_
 refine rk 1 ?_
 refine rf [(0,.mp 0),(1,iS k)] [(0,.map (mpP 1 c0)),((.s 1 0),.fam (famP 98 c1))] 2 (by kernel_rfl) ?_
 refine wk_id ?_
 refine seq_cut (A:=(List Int)×(List guard)) (fun a=>([(0,.mp 0),(1,iS k)],[(0,.map (mpP 1 a.1)),((.s 1 0),.fam (famP 98 a.2))],2)) (fun a=>(order_at_guard_j1 k a.1 a.2) = some r) (fun K1095 hK1095=>?_) ?_
 ·refine bsplit_sx h (fun g1096 h=>?_) (fun g1096 h=>?_)
  ·refine chk_sx h (fun g1100 h=>?_)
   refine seq_np ?_
   refine reg_f ?_
   have k1099:0≤(kAt c0 k)∧(kAt c0 k) < (c1.length:Int):=by first | simpa only [Bool.and_eq_true,decide_eq_true_eq,bne_iff_ne,ne_eq] using g1100 | (simp at g1100 ⊢; omega)
   refine rs 4 [none,none,some ⟨.ptr (.s 1 (kAt c0 k)) 0,[],2,[0]⟩] _ (by kernel_rfl) (allP_cons (ob_look0 (.int .i64) rfl (.pointer none) k (mpP 1 c0) (.ptr (.s 1 (kAt c0 k)) 0) (mpP_alike 1 c0 k) (mpP_look g1096 _) 0 2) allP_nil) ?_
   refine rf [(0,.mp 0),(1,iS k),(8,bS false)] [(0,.map (mpP 1 c0)),((.s 1 0),.fam (famP 98 c1))] 2 (by kernel_rfl) ?_
   refine wk_id ?_
   refine cond_f (by kernel_rfl) ?_
   exact hK1095 (c0,c1) _ _ _ h (leSt_m [(0,0),((.s 1 0),(.s 1 0))] [] (by simp only [bitvec_to_nat,push_cast,k1081,lenP_famP,seval]) (by simp only [bitvec_to_nat,push_cast,k1081,lenP_famP,seval]) rfl rfl rfl)
  ·refine seq_np ?_
   refine reg_f ?_
   refine rs 4 [none,none,some ⟨.v (.pointer none),[],2,[0]⟩] _ (by kernel_rfl) (allP_cons (ob_look0 (.int .i64) rfl (.pointer none) k (mpP 1 c0) (.v (.pointer none)) (mpP_alike 1 c0 k) (mpP_none g1096 _) 0 2) allP_nil) ?_
   refine rf [(0,.mp 0),(1,iS k),(8,bS true)] [(0,.map (mpP 1 c0)),((.s 1 0),.fam (famP 98 c1))] 2 (by kernel_rfl) ?_
   refine wk_id ?_
   refine cond_t (by kernel_rfl) ?_
   refine reg_f ?_
   refine rs 4 [none,none,none,some ⟨.any,[(0,.map (mpP 1 c0++[(.int .i64 k,.ptr (.t 2) 0)]))],3,[0]⟩] _ (by kernel_rfl) (allP_cons (ob_mset0 (.int .i64) rfl k (.ptr (.t 2) 0) (mpP 1 c0) (mpP 1 c0++[(.int .i64 k,.ptr (.t 2) 0)]) (mpP_alike 1 c0 k) (mpP_new g1096 _) 0 3) allP_nil) ?_
   refine rf [(0,.mp 0),(1,iS k)] [(0,.map (mpP 1 c0++[(.int .i64 k,.ptr (.t 2) 0)])),((.s 1 0),.fam (famP 98 c1)),(2,.row 98 ((Enc.cells (default:(VArr 65))++(Enc.cells (default:(VArr 65))++[])):List SV))] 3 (by kernel_rfl) ?_
   refine wk_gh2 [(0,.mp 0),(1,iS k)] [(0,.map (mpP 1 (c0++[k]))),((.s 1 0),.fam (famP 98 (c1++[((guard.mk (default:(VArr 65)) (default:(VArr 65))):guard)]))),(2,.dead)] 3 (gh_MM (hp:=[(0,.map (mpP 1 c0++[(.int .i64 k,.ptr (.t 2) 0)])),((.s 1 0),.fam (famP 98 c1)),(2,.row 98 ((Enc.cells (default:(VArr 65))++(Enc.cells (default:(VArr 65))++[])):List SV))]) (t:=98) (xs:=c1) (y:=((guard.mk (default:(VArr 65)) (default:(VArr 65))):guard)) (r:=0) (k:=2) (F:=1) (ks:=c0) (q:=k) (fr:=[(0,.mp 0),(1,iS k)]) [(0,.mp 0),(1,iS k)] [(0,.map (mpP 1 (c0++[k]))),((.s 1 0),.fam (famP 98 (c1++[((guard.mk (default:(VArr 65)) (default:(VArr 65))):guard)]))),(2,.dead)] (by kernel_rfl) (by kernel_rfl) (by kernel_rfl) (by kernel_rfl) k1081 (by kernel_rfl)) ?_
   exact hK1095 ((c0++[k]),(c1++[((guard.mk (default:(VArr 65)) (default:(VArr 65))):guard)])) _ _ _ h (leSt_m [(0,0),((.s 1 0),(.s 1 0))] [] (by simp only [bitvec_to_nat,push_cast,(show (c0++[k]).length = (c1++[((guard.mk (default:(VArr 65)) (default:(VArr 65))):guard)]).length by rw [List.length_append,List.length_append,List.length_singleton,List.length_singleton,k1081]),lenP_famP,seval]) (by simp only [bitvec_to_nat,push_cast,(show (c0++[k]).length = (c1++[((guard.mk (default:(VArr 65)) (default:(VArr 65))):guard)]).length by rw [List.length_append,List.length_append,List.length_singleton,List.length_singleton,k1081]),lenP_famP,seval]) rfl rfl rfl)
 ·rintro ⟨c0q3,c1q3⟩ h
  try dsimp only at h ⊢
  unfold order_at_guard_j1 at h
  refine chk_sx h (fun g1102 h=>?_)
  have k1101:c0q3.length = c1q3.length:=of_decide_eq_true g1102
  refine bsplit_sx h (fun g1103 h=>?_) (fun g1103 h=>?_)
  ·refine chk_sx h (fun g1107 h=>?_)
   refine seq_np ?_
   refine reg_f ?_
   have k1106:0≤(kAt c0q3 k)∧(kAt c0q3 k) < (c1q3.length:Int):=by first | simpa only [Bool.and_eq_true,decide_eq_true_eq,bne_iff_ne,ne_eq] using g1107 | (simp at g1107 ⊢; omega)
   refine rs 4 [none,none,some ⟨.ptr (.s 1 (kAt c0q3 k)) 0,[],2,[0]⟩] _ (by kernel_rfl) (allP_cons (ob_look0 (.int .i64) rfl (.pointer none) k (mpP 1 c0q3) (.ptr (.s 1 (kAt c0q3 k)) 0) (mpP_alike 1 c0q3 k) (mpP_look g1103 _) 0 2) allP_nil) ?_
   refine rf [(4,.ptr (.s 1 (kAt c0q3 k)) 0)] [(0,.map (mpP 1 c0q3)),((.s 1 0),.fam (famP 98 c1q3))] 2 (by kernel_rfl) ?_
   refine wk_id ?_
   obtain rfl:=Option.some.inj h
   refine ret_at (.ptr (.s 1 (kAt c0q3 k)) 0) (by kernel_rfl) ?_
   exact ret_e [(0,0),((.s 1 0),(.s 1 0))] [] (by simp only [bitvec_to_nat,push_cast,famP_in (xs:=c1q3) (i:=(kAt c0q3 k)) k1106,k1101,lenP_famP,seval]) (by simp only [bitvec_to_nat,push_cast,famP_in (xs:=c1q3) (i:=(kAt c0q3 k)) k1106,k1101,lenP_famP,seval]) rfl rfl rfl
  ·refine seq_np ?_
   refine reg_f ?_
   cases h

set_option maxRecDepth 100000 in
set_option maxHeartbeats 200000000 in
theorem order_stamp_join_3_spec (si:Int) (t:(VArr 65)) (c0:(List guard)) (r:(List guard)) (h:order_stamp_join_3 si t c0 = some r):SpecW Try.prog 50 [.ptr (.s 0 si) 65,.agg (Enc.cells t)] [((.s 0 0),.fam (famP 98 c0))] 1 (fun x h n=>x = .tup []∧h = [((.s 0 0),.fam (famP 98 r))]∧n = 1):=by
 unfold order_stamp_join_3 at h
 refine spec_of (draw_ok _) Try.func50 rfl (by decide) rfl (by kernel_rfl) ?_
 refine chk_sx h (fun g1130 h=>?_)
 have k1129:0≤si∧si < (c0.length:Int):=of_decide_eq_true g1130
 refine seq_np ?_
 refine reg_f ?_
 refine rk 1 ?_
 refine rf [(0,.ptr (.s 0 si) 65),(3,.ptr 1 0)] [((.s 0 0),.fam (famP 98 c0)),(1,.row 83 (Enc.cells t))] 2 (by kernel_rfl) ?_
 refine wk_id ?_
 refine seq_np ?_
 refine reg_f ?_
 refine rk 1 ?_
 refine rf [(0,.ptr (.s 0 si) 65),(3,.ptr 1 0),(5,iS 0)] [((.s 0 0),.fam (famP 98 c0)),(1,.row 83 (Enc.cells t))] 2 (by kernel_rfl) ?_
 refine wk_id ?_
 refine block_np ?_
 refine loop_sx (S:=Int×(List guard)) (fun a=>([(0,.ptr (.s 0 si) 65),(3,.ptr 1 0),(5,iS a.1)],[((.s 0 0),.fam (famP 98 a.2)),(1,.row 83 (Enc.cells t))],2)) h (leSt_m [((.s 0 0),(.s 0 0)),(1,1)] [] (by simp only [bitvec_to_nat,push_cast,famP_in (xs:=c0) (i:=si) k1129,seval]) (by simp only [bitvec_to_nat,push_cast,famP_in (xs:=c0) (i:=si) k1129,seval]) rfl rfl rfl) ?_
 rintro ⟨t5q3,c0q5⟩ o2 R2 h hr2 hn2 hx2 ht2
 try dsimp only at h hn2 ⊢
 unfold order_stamp_join_3_l1 at h
 try dsimp only at h
 refine chk_sx h (fun g1153 h=>?_)
 have k1152:0≤si∧si < (c0q5.length:Int):=of_decide_eq_true g1153
 refine seq_np ?_
 refine reg_f ?_
 refine rk 1 ?_
 refine rf [(0,.ptr (.s 0 si) 65),(3,.ptr 1 0),(5,iS t5q3),(6,bS (decide (t5q3 < 65)))] [((.s 0 0),.fam (famP 98 c0q5)),(1,.row 83 (Enc.cells t))] 2 (by kernel_rfl) ?_
 refine wk_id ?_
 refine seq_np ?_
 refine cond_sx h (by kernel_rfl) (fun g1163 h=>?_) (fun g1163 h=>?_)
 ·refine wk_id ?_
  refine seq_np ?_
  refine block_np ?_
  refine seq_np ?_
  refine reg_f ?_
  refine rk 2 ?_
  refine rf [(0,.ptr (.s 0 si) 65),(3,.ptr 1 0),(4,iS t5q3),(5,iS t5q3)] [((.s 0 0),.fam (famP 98 c0q5)),(1,.row 83 (Enc.cells t))] 2 (by kernel_rfl) ?_
  refine wk_id ?_
  refine chk_sx h (fun g1162 h=>?_)
  refine reg_t ?_
  have k1161:0≤t5q3∧t5q3 < ((65:Nat):Int):=by first | simpa only [Bool.and_eq_true,decide_eq_true_eq,bne_iff_ne,ne_eq] using g1162 | (simp at g1162 ⊢; omega)
  refine rs 14 [none,none,none,none,none,some ⟨.ptr (.s 0 si) (65+(t5q3).toNat * 1),[],7,[]⟩,some ⟨iS ((ix c0q5 si).all.get t5q3),[],8,[(.s 0 0)]⟩,none,some ⟨.ptr 1 (0+(t5q3).toNat * 1),[],10,[]⟩,some ⟨iS (t.get t5q3),[],11,[1]⟩,none,none,some ⟨.ptr (.s 0 si) (65+(t5q3).toNat * 1),[],14,[]⟩,some ⟨.any,[((.s 0 0),.fam (famP 98 (c0q5.set si.toNat ((guard.mk (ix c0q5 si).writers ((ix c0q5 si).all.set t5q3 (max ((ix c0q5 si).all.get t5q3) (t.get t5q3)))):guard))))],15,[(.s 0 0)]⟩] _ (by kernel_rfl) (allP_cons (ob_stP (P:=Try.prog) 98 c0q5 si k1152 (65+(t5q3).toNat * 1) [iS (max ((ix c0q5 si).all.get t5q3) (t.get t5q3))] ((guard.mk (ix c0q5 si).writers ((ix c0q5 si).all.set t5q3 (max ((ix c0q5 si).all.get t5q3) (t.get t5q3)))):guard) (by have:=(k1161:0≤t5q3∧t5q3 < ((65:Nat):Int)); show (65+(t5q3).toNat * 1)+1≤130; omega) (arr_splice (Enc.cells (ix c0q5 si).writers:List SV) ([]:List SV) (ix c0q5 si).all t5q3 (max ((ix c0q5 si).all.get t5q3) (t.get t5q3)) (65+(t5q3).toNat * 1) k1161 rfl) 0 15 3 (by kernel_rfl) rfl) (allP_cons (ob_ixa (.s 0 si) 65 65 1 t5q3 14 k1161) (allP_cons (ob_lda ([]:List SV) ([]:List SV) t t5q3 (0+(t5q3).toNat * 1) k1161 rfl (dflS Try.prog 3) 11 [1]) (allP_cons (ob_ixa 1 0 65 1 t5q3 10 k1161) (allP_cons (ob_memL (P:=Try.prog) 98 c0q5 si k1152 3 (65+(t5q3).toNat * 1) 8 [(.s 0 0)] (ob_lda (Enc.cells (ix c0q5 si).writers:List SV) ([]:List SV) (ix c0q5 si).all t5q3 (65+(t5q3).toNat * 1) k1161 rfl (dflS Try.prog 3) 8 [(.s 0 0)])) (allP_cons (ob_ixa (.s 0 si) 65 65 1 t5q3 7 k1161) allP_nil)))))) ?_
  refine rt [(0,.ptr (.s 0 si) 65),(3,.ptr 1 0),(5,iS t5q3)] [((.s 0 0),.fam (famP 98 (c0q5.set si.toNat ((guard.mk (ix c0q5 si).writers ((ix c0q5 si).all.set t5q3 (max ((ix c0q5 si).all.get t5q3) (t.get t5q3)))):guard)))),(1,.row 83 (Enc.cells t))] 16 follows (by kernel_rfl) ?_
  refine wk_id ?_
  refine wk_id ?_
  refine reg_f ?_
  refine rk 2 ?_
  refine rf [(0,.ptr (.s 0 si) 65),(3,.ptr 1 0),(5,iS (IntKind.i64.wrap (t5q3+1)))] [((.s 0 0),.fam (famP 98 (c0q5.set si.toNat ((guard.mk (ix c0q5 si).writers ((ix c0q5 si).all.set t5q3 (max ((ix c0q5 si).all.get t5q3) (t.get t5q3)))):guard)))),(1,.row 83 (Enc.cells t))] 16 (by kernel_rfl) ?_
  exact hn2 ((IntKind.i64.wrap (t5q3+1)),(c0q5.set si.toNat ((guard.mk (ix c0q5 si).writers ((ix c0q5 si).all.set t5q3 (max ((ix c0q5 si).all.get t5q3) (t.get t5q3)))):guard))) _ _ _ (Option.some.inj h).symm (leSt_m [((.s 0 0),(.s 0 0)),(1,1)] [] (by simp only [bitvec_to_nat,push_cast,famP_in (xs:=(c0q5.set si.toNat ((guard.mk (ix c0q5 si).writers ((ix c0q5 si).all.set t5q3 (max ((ix c0q5 si).all.get t5q3) (t.get t5q3)))):guard))) (i:=si) (by rw [List.length_set]; exact k1152),seval]) (by simp only [bitvec_to_nat,push_cast,famP_in (xs:=(c0q5.set si.toNat ((guard.mk (ix c0q5 si).writers ((ix c0q5 si).all.set t5q3 (max ((ix c0q5 si).all.get t5q3) (t.get t5q3)))):guard))) (i:=si) (by rw [List.length_set]; exact k1152),seval]) rfl rfl rfl)
 ·change R2 (.exit 0) _ _ _
  refine ex_cast hx2 (id:=0) ?_
  obtain ⟨r0,h,e0⟩:=map_sx h
  have e1:=hr2 r0 e0.symm
  subst r0
  refine wk_id ?_
  obtain rfl:=Option.some.inj h
  refine ret_an (.tup []) (by kernel_rfl) ?_
  exact ret_e [((.s 0 0),(.s 0 0))] [] (by simp only [bitvec_to_nat,push_cast,seval]) (by simp only [bitvec_to_nat,push_cast,seval]) rfl rfl rfl

set_option maxRecDepth 100000 in
set_option maxHeartbeats 200000000 in
theorem order_stamp_join_4_spec (si:Int) (t:(VArr 65)) (c0:(List guard)) (r:(List guard)) (h:order_stamp_join_4 si t c0 = some r):SpecW Try.prog 50 [.ptr (.s 0 si) 0,.agg (Enc.cells t)] [((.s 0 0),.fam (famP 98 c0))] 1 (fun x h n=>x = .tup []∧h = [((.s 0 0),.fam (famP 98 r))]∧n = 1):=by
 unfold order_stamp_join_4 at h
 refine spec_of (draw_ok _) Try.func50 rfl (by decide) rfl (by kernel_rfl) ?_
 refine chk_sx h (fun g1170 h=>?_)
 have k1169:0≤si∧si < (c0.length:Int):=of_decide_eq_true g1170
 refine seq_np ?_
 refine reg_f ?_
 refine rk 1 ?_
 refine rf [(0,.ptr (.s 0 si) 0),(3,.ptr 1 0)] [((.s 0 0),.fam (famP 98 c0)),(1,.row 83 (Enc.cells t))] 2 (by kernel_rfl) ?_
 refine wk_id ?_
 refine seq_np ?_
 refine reg_f ?_
 refine rk 1 ?_
 refine rf [(0,.ptr (.s 0 si) 0),(3,.ptr 1 0),(5,iS 0)] [((.s 0 0),.fam (famP 98 c0)),(1,.row 83 (Enc.cells t))] 2 (by kernel_rfl) ?_
 refine wk_id ?_
 refine block_np ?_
 refine loop_sx (S:=Int×(List guard)) (fun a=>([(0,.ptr (.s 0 si) 0),(3,.ptr 1 0),(5,iS a.1)],[((.s 0 0),.fam (famP 98 a.2)),(1,.row 83 (Enc.cells t))],2)) h (leSt_m [((.s 0 0),(.s 0 0)),(1,1)] [] (by simp only [bitvec_to_nat,push_cast,famP_in (xs:=c0) (i:=si) k1169,seval]) (by simp only [bitvec_to_nat,push_cast,famP_in (xs:=c0) (i:=si) k1169,seval]) rfl rfl rfl) ?_
 rintro ⟨t5q3,c0q5⟩ o2 R2 h hr2 hn2 hx2 ht2
 try dsimp only at h hn2 ⊢
 unfold order_stamp_join_4_l1 at h
 try dsimp only at h
 refine chk_sx h (fun g1193 h=>?_)
 have k1192:0≤si∧si < (c0q5.length:Int):=of_decide_eq_true g1193
 refine seq_np ?_
 refine reg_f ?_
 refine rk 1 ?_
 refine rf [(0,.ptr (.s 0 si) 0),(3,.ptr 1 0),(5,iS t5q3),(6,bS (decide (t5q3 < 65)))] [((.s 0 0),.fam (famP 98 c0q5)),(1,.row 83 (Enc.cells t))] 2 (by kernel_rfl) ?_
 refine wk_id ?_
 refine seq_np ?_
 refine cond_sx h (by kernel_rfl) (fun g1203 h=>?_) (fun g1203 h=>?_)
 ·refine wk_id ?_
  refine seq_np ?_
  refine block_np ?_
  refine seq_np ?_
  refine reg_f ?_
  refine rk 2 ?_
  refine rf [(0,.ptr (.s 0 si) 0),(3,.ptr 1 0),(4,iS t5q3),(5,iS t5q3)] [((.s 0 0),.fam (famP 98 c0q5)),(1,.row 83 (Enc.cells t))] 2 (by kernel_rfl) ?_
  refine wk_id ?_
  refine chk_sx h (fun g1202 h=>?_)
  refine reg_t ?_
  have k1201:0≤t5q3∧t5q3 < ((65:Nat):Int):=by first | simpa only [Bool.and_eq_true,decide_eq_true_eq,bne_iff_ne,ne_eq] using g1202 | (simp at g1202 ⊢; omega)
  refine rs 14 [none,none,none,none,none,some ⟨.ptr (.s 0 si) (0+(t5q3).toNat * 1),[],7,[]⟩,some ⟨iS ((ix c0q5 si).writers.get t5q3),[],8,[(.s 0 0)]⟩,none,some ⟨.ptr 1 (0+(t5q3).toNat * 1),[],10,[]⟩,some ⟨iS (t.get t5q3),[],11,[1]⟩,none,none,some ⟨.ptr (.s 0 si) (0+(t5q3).toNat * 1),[],14,[]⟩,some ⟨.any,[((.s 0 0),.fam (famP 98 (c0q5.set si.toNat ((guard.mk ((ix c0q5 si).writers.set t5q3 (max ((ix c0q5 si).writers.get t5q3) (t.get t5q3))) (ix c0q5 si).all):guard))))],15,[(.s 0 0)]⟩] _ (by kernel_rfl) (allP_cons (ob_stP (P:=Try.prog) 98 c0q5 si k1192 (0+(t5q3).toNat * 1) [iS (max ((ix c0q5 si).writers.get t5q3) (t.get t5q3))] ((guard.mk ((ix c0q5 si).writers.set t5q3 (max ((ix c0q5 si).writers.get t5q3) (t.get t5q3))) (ix c0q5 si).all):guard) (by have:=(k1201:0≤t5q3∧t5q3 < ((65:Nat):Int)); show (0+(t5q3).toNat * 1)+1≤130; omega) (arr_splice ([]:List SV) ((Enc.cells (ix c0q5 si).all++[]):List SV) (ix c0q5 si).writers t5q3 (max ((ix c0q5 si).writers.get t5q3) (t.get t5q3)) (0+(t5q3).toNat * 1) k1201 rfl) 0 15 3 (by kernel_rfl) rfl) (allP_cons (ob_ixa (.s 0 si) 0 65 1 t5q3 14 k1201) (allP_cons (ob_lda ([]:List SV) ([]:List SV) t t5q3 (0+(t5q3).toNat * 1) k1201 rfl (dflS Try.prog 3) 11 [1]) (allP_cons (ob_ixa 1 0 65 1 t5q3 10 k1201) (allP_cons (ob_memL (P:=Try.prog) 98 c0q5 si k1192 3 (0+(t5q3).toNat * 1) 8 [(.s 0 0)] (ob_lda ([]:List SV) ((Enc.cells (ix c0q5 si).all++[]):List SV) (ix c0q5 si).writers t5q3 (0+(t5q3).toNat * 1) k1201 rfl (dflS Try.prog 3) 8 [(.s 0 0)])) (allP_cons (ob_ixa (.s 0 si) 0 65 1 t5q3 7 k1201) allP_nil)))))) ?_
  refine rt [(0,.ptr (.s 0 si) 0),(3,.ptr 1 0),(5,iS t5q3)] [((.s 0 0),.fam (famP 98 (c0q5.set si.toNat ((guard.mk ((ix c0q5 si).writers.set t5q3 (max ((ix c0q5 si).writers.get t5q3) (t.get t5q3))) (ix c0q5 si).all):guard)))),(1,.row 83 (Enc.cells t))] 16 follows (by kernel_rfl) ?_
  refine wk_id ?_
  refine wk_id ?_
  refine reg_f ?_
  refine rk 2 ?_
  refine rf [(0,.ptr (.s 0 si) 0),(3,.ptr 1 0),(5,iS (IntKind.i64.wrap (t5q3+1)))] [((.s 0 0),.fam (famP 98 (c0q5.set si.toNat ((guard.mk ((ix c0q5 si).writers.set t5q3 (max ((ix c0q5 si).writers.get t5q3) (t.get t5q3))) (ix c0q5 si).all):guard)))),(1,.row 83 (Enc.cells t))] 16 (by kernel_rfl) ?_
  exact hn2 ((IntKind.i64.wrap (t5q3+1)),(c0q5.set si.toNat ((guard.mk ((ix c0q5 si).writers.set t5q3 (max ((ix c0q5 si).writers.get t5q3) (t.get t5q3))) (ix c0q5 si).all):guard))) _ _ _ (Option.some.inj h).symm (leSt_m [((.s 0 0),(.s 0 0)),(1,1)] [] (by simp only [bitvec_to_nat,push_cast,famP_in (xs:=(c0q5.set si.toNat ((guard.mk ((ix c0q5 si).writers.set t5q3 (max ((ix c0q5 si).writers.get t5q3) (t.get t5q3))) (ix c0q5 si).all):guard))) (i:=si) (by rw [List.length_set]; exact k1192),seval]) (by simp only [bitvec_to_nat,push_cast,famP_in (xs:=(c0q5.set si.toNat ((guard.mk ((ix c0q5 si).writers.set t5q3 (max ((ix c0q5 si).writers.get t5q3) (t.get t5q3))) (ix c0q5 si).all):guard))) (i:=si) (by rw [List.length_set]; exact k1192),seval]) rfl rfl rfl)
 ·change R2 (.exit 0) _ _ _
  refine ex_cast hx2 (id:=0) ?_
  obtain ⟨r0,h,e0⟩:=map_sx h
  have e1:=hr2 r0 e0.symm
  subst r0
  refine wk_id ?_
  obtain rfl:=Option.some.inj h
  refine ret_an (.tup []) (by kernel_rfl) ?_
  exact ret_e [((.s 0 0),(.s 0 0))] [] (by simp only [bitvec_to_nat,push_cast,seval]) (by simp only [bitvec_to_nat,push_cast,seval]) rfl rfl rfl

end Go.Proofs.Ytelegonboeacaaa
