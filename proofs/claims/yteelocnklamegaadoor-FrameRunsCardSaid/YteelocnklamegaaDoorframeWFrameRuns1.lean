/-
 What laws of the chapter frame compute, and lemmas on it.
 No conditions.
-/
import Derived.Test.YteelocnklamegaaDoorProg
import Derived.Test.YteelocnklamegaaDoorframeG
set_option linter.unusedSimpArgs false
set_option linter.unusedVariables false
set_option linter.unusedSectionVars false
namespace Go.Proofs.YteelocnklamegaaDoor
open Go Go.Sx
attribute [local irreducible] Wk RunAt
theorem follows:Tryd.prog.follows .mixedOrders = true:=by kernel_rfl
attribute [local bitvec_to_nat] leL_flD renL_flD leL_flP renL_flP leC_famP leC_famP0 flP_0 ren_famP noN_eq lenP_same lenP_one lenP_app lenP_set lenP_famP Nat.le_refl List.length_set leC_mpP leC_mpP1 mapLe_eq mapLe1_eq ren_mpP ren_mpP1
theorem rk {P:Program} {fr:Fr} {hp:Hp} {nx:Nat} {ops:Array Oper} {d:Bool} {l:List Oper} {acc:List Nms} {K:Fr→Hp→Nat→Prop} (n:Nat) (k:RunAt P d ops (List.drop n l) (getSeg (evalS P d ops n l [] ⟨fr,hp,nx,acc,[]⟩)).fr (getSeg (evalS P d ops n l [] ⟨fr,hp,nx,acc,[]⟩)).hp (getSeg (evalS P d ops n l [] ⟨fr,hp,nx,acc,[]⟩)).nx (getSeg (evalS P d ops n l [] ⟨fr,hp,nx,acc,[]⟩)).acc K) (h:(evalS P d ops n l [] ⟨fr,hp,nx,acc,[]⟩).map (·.obs) = some []:=by kernel_rfl):RunAt P d ops l fr hp nx acc K:=rs n [] [] h allP_nil k
set_option maxRecDepth 100000 in
set_option maxHeartbeats 200000000 in
theorem frame_fault_spec (code:Int) (xat:Int) (r:Fault) (h:frame_fault code xat = some r):SpecW Tryd.prog 17 [iS code,iS xat] [] 0 (fun x h n=>x = .agg (Enc.cells r)∧h = []∧n = 0):=by
 unfold frame_fault at h
 refine spec_of (draw_ok _) Tryd.func17 rfl (by decide) rfl (by kernel_rfl) ?_
 refine seq_np ?_
 refine reg_f ?_
 refine rk 1 ?_
 refine rf [(0,iS code),(1,iS xat),(4,.ptr 0 0)] [(0,.row 26 [iS 0,iS 0])] 1 (by kernel_rfl) ?_
 refine wk_id ?_
 refine seq_np ?_
 refine reg_f ?_
 refine rk 4 ?_
 refine rf [(4,.ptr 0 0)] [(0,.row 26 [iS code,iS xat])] 1 (by kernel_rfl) ?_
 refine wk_id ?_
 obtain rfl:=Option.some.inj h
 refine ret_at (.agg [iS code,iS xat]) (by kernel_rfl) ?_
 exact ret_e [] [] (by simp only [push_cast,seval]) (by simp only [push_cast,seval]) rfl rfl rfl

set_option maxRecDepth 100000 in
set_option maxHeartbeats 200000000 in
theorem frame_Check_spec (funcs:(List (List Deed))) (r:Fault) (h:frame_Check funcs = some r):SpecW Tryd.prog 10 [.sl funcs.length (fl funcs)] [] 0 (fun x h n=>x = .agg (Enc.cells r)∧h = []∧n = 0):=by
 unfold frame_Check at h
 refine spec_of (draw_ok _) Tryd.func10 rfl (by decide) rfl (by kernel_rfl) ?_
 refine seq_np ?_
 refine reg_f ?_
 refine rk 1 ?_
 refine rf [(0,.sl funcs.length (fl funcs)),(2,.ptr 0 0)] [(0,.row 26 [iS 0,iS 0])] 1 (by kernel_rfl) ?_
 refine wk_id ?_
 refine seq_np ?_
 refine seq_cut (A:=Unit) (fun _=>([(0,.sl funcs.length (fl funcs)),(2,.ptr 0 0),(14,bS ((decide ((funcs.length:Int) < 1)) || (decide ((50:Int) < (funcs.length:Int)))))],[(0,.row 26 [iS 0,iS 0])],1)) (fun _=>True) (fun K234 hK234=>?_) (fun _ _=>?_)
 ·refine reg_f ?_
  refine rk 4 ?_
  refine run_split 10 (decide ((funcs.length:Int) < 1)) (.inl (by kernel_rfl)) (fun g235=>?_) (fun g235=>?_)
  ·refine rk 4 ?_
   refine rf [(0,.sl funcs.length (fl funcs)),(2,.ptr 0 0),(14,bS true)] [(0,.row 26 [iS 0,iS 0])] 1 (by kernel_rfl) ?_
   exact hK234 () _ _ _ trivial (leSt_m [(0,0)] [] (by (try simp only [g235]) <;> simp only [push_cast,seval]) (by (try simp only [g235]) <;> simp only [push_cast,seval]) rfl rfl rfl)
  ·refine rk 4 ?_
   refine rf [(0,.sl funcs.length (fl funcs)),(2,.ptr 0 0),(14,bS (decide ((50:Int) < (funcs.length:Int))))] [(0,.row 26 [iS 0,iS 0])] 1 (by kernel_rfl) ?_
   exact hK234 () _ _ _ trivial (leSt_m [(0,0)] [] (by (try simp only [g235]) <;> simp only [push_cast,seval]) (by (try simp only [g235]) <;> simp only [push_cast,seval]) rfl rfl rfl)
 ·dsimp only
  refine cond_sx h (by kernel_rfl) (fun g1213 h=>?_) (fun g1213 h=>?_)
  ·refine seq_np ?_
   refine reg_f ?_
   obtain ⟨r237,hr237,h⟩:=bind_sx h
   refine run_call 17 [iS 2,iS 0] (some 15) (by kernel_rfl) ?_
   refine call_0 (frame_fault_spec 2 0 r237 hr237) (by simp only [push_cast,seval]) (by simp only [push_cast,seval]) ?_
   refine back_f ?_
   refine rk 1 ?_
   refine rf [(2,.ptr 0 0)] [(0,.row 26 (Enc.cells r237))] 1 (by kernel_rfl) ?_
   refine wk_id ?_
   obtain rfl:=Option.some.inj h
   refine ret_at (.agg (Enc.cells r237)) (by kernel_rfl) ?_
   exact ret_e [] [] (by simp only [push_cast,seval]) (by simp only [push_cast,seval]) rfl rfl rfl
  ·refine wk_id ?_
   refine seq_np ?_
   refine seq_np ?_
   refine reg_f ?_
   refine rk 3 ?_
   refine rf [(0,.sl funcs.length (fl funcs)),(2,.ptr 0 0),(16,.sl funcs.length (fl funcs)),(17,iS (funcs.length:Int)),(18,iS 0)] [(0,.row 26 [iS 0,iS 0])] 1 (by kernel_rfl) ?_
   refine wk_id ?_
   refine block_np ?_
   refine loop_sx (S:=Int) (fun a=>([(0,.sl funcs.length (fl funcs)),(2,.ptr 0 0),(16,.sl funcs.length (fl funcs)),(17,iS (funcs.length:Int)),(18,iS a)],[(0,.row 26 [iS 0,iS 0])],1)) h (leSt_m [(0,0)] [] (by simp only [push_cast,seval]) (by simp only [push_cast,seval]) rfl rfl rfl) ?_
   rintro t18q7 o3 R3 h hr3 hn3 hx3 ht3
   try dsimp only at h hn3 ⊢
   unfold frame_Check_l2 at h
   try dsimp only at h
   refine seq_np ?_
   refine reg_f ?_
   refine rk 1 ?_
   refine rf [(0,.sl funcs.length (fl funcs)),(2,.ptr 0 0),(16,.sl funcs.length (fl funcs)),(17,iS (funcs.length:Int)),(18,iS t18q7),(19,bS (decide (t18q7 < (funcs.length:Int))))] [(0,.row 26 [iS 0,iS 0])] 1 (by kernel_rfl) ?_
   refine wk_id ?_
   refine seq_np ?_
   refine cond_sx h (by kernel_rfl) (fun g1212 h=>?_) (fun g1212 h=>?_)
   ·refine wk_id ?_
    refine seq_np ?_
    refine block_np ?_
    refine chk_sx h (fun g993 h=>?_)
    refine seq_np ?_
    refine reg_f ?_
    have k992:0≤t18q7∧t18q7 < (funcs.length:Int):=by first | simpa only [Bool.and_eq_true,decide_eq_true_eq,bne_iff_ne,ne_eq] using g993 | (simp at g993 ⊢; omega) | simp
    refine rs 5 [none,some ⟨.iptr (fl funcs) ((t18q7).toNat * 1),[],1,[]⟩,some ⟨.sl (ix funcs t18q7).length (fl (ix funcs t18q7)),[],1,[]⟩] _ (by kernel_rfl) (allP_cons (ob_ld funcs t18q7 1 0 ((t18q7).toNat * 1) k992 rfl (by decide) (by first | rfl | omega) (dflS Tryd.prog 36) (.sl (ix funcs t18q7).length (fl (ix funcs t18q7))) rfl 1 []) (allP_cons (ob_ix_l funcs 1 1 t18q7 k992) allP_nil)) ?_
    refine rf [(0,.sl funcs.length (fl funcs)),(2,.ptr 0 0),(3,iS t18q7),(4,.sl (ix funcs t18q7).length (fl (ix funcs t18q7))),(16,.sl funcs.length (fl funcs)),(17,iS (funcs.length:Int)),(18,iS t18q7)] [(0,.row 26 [iS 0,iS 0])] 1 (by kernel_rfl) ?_
    refine wk_id ?_
    refine seq_np ?_
    refine seq_np ?_
    refine reg_f ?_
    refine rk 3 ?_
    refine rf [(0,.sl funcs.length (fl funcs)),(2,.ptr 0 0),(3,iS t18q7),(4,.sl (ix funcs t18q7).length (fl (ix funcs t18q7))),(16,.sl funcs.length (fl funcs)),(17,iS (funcs.length:Int)),(18,iS t18q7),(25,bS (decide ((100:Int) < (((ix funcs t18q7).length:Nat):Int))))] [(0,.row 26 [iS 0,iS 0])] 1 (by kernel_rfl) ?_
    refine wk_id ?_
    refine cond_sx h (by kernel_rfl) (fun g1211 h=>?_) (fun g1211 h=>?_)
    ·refine seq_np ?_
     refine reg_f ?_
     refine rk 1 ?_
     obtain ⟨r997,hr997,h⟩:=bind_sx h
     refine run_call 17 [iS 8,iS t18q7] (some 27) (by kernel_rfl) ?_
     refine call_0 (frame_fault_spec 8 t18q7 r997 hr997) (by simp only [push_cast,seval]) (by simp only [push_cast,seval]) ?_
     refine back_f ?_
     refine rk 1 ?_
     refine rf [(2,.ptr 0 0)] [(0,.row 26 (Enc.cells r997))] 1 (by kernel_rfl) ?_
     refine wk_id ?_
     refine rt_cast ht3 ?_
     obtain ⟨r0,h,e0⟩:=map_sx h
     have e1:=hr3 r0 e0.symm
     subst r0
     obtain rfl:=Option.some.inj h
     refine ret_at (.agg (Enc.cells r997)) (by kernel_rfl) ?_
     exact ret_e [] [] (by simp only [push_cast,seval]) (by simp only [push_cast,seval]) rfl rfl rfl
    ·refine wk_id ?_
     refine seq_np ?_
     refine reg_f ?_
     refine rk 3 ?_
     refine rf [(0,.sl funcs.length (fl funcs)),(2,.ptr 0 0),(3,iS t18q7),(16,.sl funcs.length (fl funcs)),(17,iS (funcs.length:Int)),(18,iS t18q7),(28,.sl (ix funcs t18q7).length (fl (ix funcs t18q7))),(29,iS (((ix funcs t18q7).length:Nat):Int)),(30,iS 0)] [(0,.row 26 [iS 0,iS 0])] 1 (by kernel_rfl) ?_
     refine wk_id ?_
     refine block_np ?_
     refine loop_sx (S:=Int) (fun a=>([(0,.sl funcs.length (fl funcs)),(2,.ptr 0 0),(3,iS t18q7),(16,.sl funcs.length (fl funcs)),(17,iS (funcs.length:Int)),(18,iS t18q7),(28,.sl (ix funcs t18q7).length (fl (ix funcs t18q7))),(29,iS (((ix funcs t18q7).length:Nat):Int)),(30,iS a)],[(0,.row 26 [iS 0,iS 0])],1)) h (leSt_m [(0,0)] [] (by simp only [push_cast,seval]) (by simp only [push_cast,seval]) rfl rfl rfl) ?_
     rintro t30q29 o4 R4 h hr4 hn4 hx4 ht4
     try dsimp only at h hn4 ⊢
     unfold frame_Check_l1 at h
     try dsimp only at h
     refine seq_np ?_
     refine reg_f ?_
     refine rk 1 ?_
     refine rf [(0,.sl funcs.length (fl funcs)),(2,.ptr 0 0),(3,iS t18q7),(16,.sl funcs.length (fl funcs)),(17,iS (funcs.length:Int)),(18,iS t18q7),(28,.sl (ix funcs t18q7).length (fl (ix funcs t18q7))),(29,iS (((ix funcs t18q7).length:Nat):Int)),(30,iS t30q29),(31,bS (decide (t30q29 < (((ix funcs t18q7).length:Nat):Int))))] [(0,.row 26 [iS 0,iS 0])] 1 (by kernel_rfl) ?_
     refine wk_id ?_
     refine seq_np ?_
     refine cond_sx h (by kernel_rfl) (fun g1210 h=>?_) (fun g1210 h=>?_)
     ·refine wk_id ?_
      refine seq_np ?_
      refine block_np ?_
      refine chk_sx h (fun g1163 h=>?_)
      refine seq_np ?_
      refine reg_f ?_
      have k1162:0≤t30q29∧t30q29 < (((ix funcs t18q7).length:Nat):Int):=by first | simpa only [Bool.and_eq_true,decide_eq_true_eq,bne_iff_ne,ne_eq] using g1163 | (simp at g1163 ⊢; omega) | simp
      refine rs 4 [some ⟨.iptr (fl (ix funcs t18q7)) ((t30q29).toNat * 2),[],1,[]⟩,some ⟨.agg (Enc.cells (ix (ix funcs t18q7) t30q29)),[],1,[]⟩] _ (by kernel_rfl) (allP_cons (ob_ldw (ix funcs t18q7) t30q29 2 ((t30q29).toNat * 2) k1162 rfl (by first | rfl | omega) (Enc.cells (ix (ix funcs t18q7) t30q29)) rfl 1 []) (allP_cons (ob_ix_l (ix funcs t18q7) 2 1 t30q29 k1162) allP_nil)) ?_
      refine rf [(0,.sl funcs.length (fl funcs)),(2,.ptr 0 0),(3,iS t18q7),(6,.ptr 1 0),(16,.sl funcs.length (fl funcs)),(17,iS (funcs.length:Int)),(18,iS t18q7),(28,.sl (ix funcs t18q7).length (fl (ix funcs t18q7))),(29,iS (((ix funcs t18q7).length:Nat):Int)),(30,iS t30q29)] [(0,.row 26 [iS 0,iS 0]),(1,.row 38 (Enc.cells (ix (ix funcs t18q7) t30q29)))] 2 (by kernel_rfl) ?_
      refine wk_id ?_
      refine seq_np ?_
      refine reg_f ?_
      refine rk 2 ?_
      refine rf [(0,.sl funcs.length (fl funcs)),(2,.ptr 0 0),(3,iS t18q7),(6,.ptr 1 0),(16,.sl funcs.length (fl funcs)),(17,iS (funcs.length:Int)),(18,iS t18q7),(28,.sl (ix funcs t18q7).length (fl (ix funcs t18q7))),(29,iS (((ix funcs t18q7).length:Nat):Int)),(30,iS t30q29),(35,iS (ix (ix funcs t18q7) t30q29).Op)] [(0,.row 26 [iS 0,iS 0]),(1,.row 38 (Enc.cells (ix (ix funcs t18q7) t30q29)))] 2 (by kernel_rfl) ?_
      refine wk_id ?_
      refine block_cut (A:=Unit) (fun a=>([(0,.sl funcs.length (fl funcs)),(2,.ptr 0 0),(3,iS t18q7),(16,.sl funcs.length (fl funcs)),(17,iS (funcs.length:Int)),(18,iS t18q7),(28,.sl (ix funcs t18q7).length (fl (ix funcs t18q7))),(29,iS (((ix funcs t18q7).length:Nat):Int)),(30,iS t30q29)],[(0,.row 26 [iS 0,iS 0])],1)) (fun a=>(frame_Check_j1 funcs t18q7 t30q29) = some o4) (fun K1183 hK1183=>?_) ?_
      ·refine seq_cut (A:=Bool) (fun a=>([(0,.sl funcs.length (fl funcs)),(2,.ptr 0 0),(3,iS t18q7),(6,.ptr 1 0),(16,.sl funcs.length (fl funcs)),(17,iS (funcs.length:Int)),(18,iS t18q7),(28,.sl (ix funcs t18q7).length (fl (ix funcs t18q7))),(29,iS (((ix funcs t18q7).length:Nat):Int)),(30,iS t30q29),(35,iS (ix (ix funcs t18q7) t30q29).Op),(38,bS a)],[(0,.row 26 [iS 0,iS 0]),(1,.row 38 (Enc.cells (ix (ix funcs t18q7) t30q29)))],2)) (fun a=>(frame_Check_j4 funcs t18q7 t30q29 a) = some o4) (fun K1186 hK1186=>?_) ?_
       ·refine seq_np ?_
        refine reg_f ?_
        refine rk 2 ?_
        refine rf [(0,.sl funcs.length (fl funcs)),(2,.ptr 0 0),(3,iS t18q7),(6,.ptr 1 0),(16,.sl funcs.length (fl funcs)),(17,iS (funcs.length:Int)),(18,iS t18q7),(28,.sl (ix funcs t18q7).length (fl (ix funcs t18q7))),(29,iS (((ix funcs t18q7).length:Nat):Int)),(30,iS t30q29),(35,iS (ix (ix funcs t18q7) t30q29).Op),(38,bS ((ix (ix funcs t18q7) t30q29).Op == 1))] [(0,.row 26 [iS 0,iS 0]),(1,.row 38 (Enc.cells (ix (ix funcs t18q7) t30q29)))] 2 (by kernel_rfl) ?_
        refine wk_id ?_
        refine cond_sx h (by kernel_rfl) (fun g1187 h=>?_) (fun g1187 h=>?_)
        ·exact hK1186 (((ix (ix funcs t18q7) t30q29).Op == 1)) _ _ _ h (leSt_m [(0,0),(1,1)] [] (by simp only [push_cast,seval]) (by simp only [push_cast,seval]) rfl rfl rfl)
        ·refine reg_f ?_
         refine rk 2 ?_
         refine rf [(0,.sl funcs.length (fl funcs)),(2,.ptr 0 0),(3,iS t18q7),(6,.ptr 1 0),(16,.sl funcs.length (fl funcs)),(17,iS (funcs.length:Int)),(18,iS t18q7),(28,.sl (ix funcs t18q7).length (fl (ix funcs t18q7))),(29,iS (((ix funcs t18q7).length:Nat):Int)),(30,iS t30q29),(35,iS (ix (ix funcs t18q7) t30q29).Op),(38,bS ((ix (ix funcs t18q7) t30q29).Op == 2))] [(0,.row 26 [iS 0,iS 0]),(1,.row 38 (Enc.cells (ix (ix funcs t18q7) t30q29)))] 2 (by kernel_rfl) ?_
         exact hK1186 (((ix (ix funcs t18q7) t30q29).Op == 2)) _ _ _ h (leSt_m [(0,0),(1,1)] [] (by simp only [push_cast,seval]) (by simp only [push_cast,seval]) rfl rfl rfl)
       ·rintro t38q47 h
        try dsimp only at h ⊢
        unfold frame_Check_j4 at h
        refine cond_sx h (by kernel_rfl) (fun g1209 h=>?_) (fun g1209 h=>?_)
        ·refine seq_cut (A:=Unit) (fun _=>([(0,.sl funcs.length (fl funcs)),(2,.ptr 0 0),(3,iS t18q7),(16,.sl funcs.length (fl funcs)),(17,iS (funcs.length:Int)),(18,iS t18q7),(28,.sl (ix funcs t18q7).length (fl (ix funcs t18q7))),(29,iS (((ix funcs t18q7).length:Nat):Int)),(30,iS t30q29),(50,bS ((decide ((ix (ix funcs t18q7) t30q29).A < 0)) || (decide ((funcs.length:Int)≤(ix (ix funcs t18q7) t30q29).A))))],[(0,.row 26 [iS 0,iS 0]),(1,.row 38 (Enc.cells (ix (ix funcs t18q7) t30q29)))],2)) (fun _=>True) (fun K1189 hK1189=>?_) (fun _ _=>?_)
         ·refine reg_f ?_
          refine rk 4 ?_
          refine run_split 44 (decide ((ix (ix funcs t18q7) t30q29).A < 0)) (.inl (by kernel_rfl)) (fun g1190=>?_) (fun g1190=>?_)
          ·refine rk 6 ?_
           refine rf [(0,.sl funcs.length (fl funcs)),(2,.ptr 0 0),(3,iS t18q7),(16,.sl funcs.length (fl funcs)),(17,iS (funcs.length:Int)),(18,iS t18q7),(28,.sl (ix funcs t18q7).length (fl (ix funcs t18q7))),(29,iS (((ix funcs t18q7).length:Nat):Int)),(30,iS t30q29),(50,bS true)] [(0,.row 26 [iS 0,iS 0]),(1,.row 38 (Enc.cells (ix (ix funcs t18q7) t30q29)))] 2 (by kernel_rfl) ?_
           exact hK1189 () _ _ _ trivial (leSt_m [(0,0),(1,1)] [] (by (try simp only [g1190]) <;> simp only [push_cast,seval]) (by (try simp only [g1190]) <;> simp only [push_cast,seval]) rfl rfl rfl)
          ·refine rk 6 ?_
           refine rf [(0,.sl funcs.length (fl funcs)),(2,.ptr 0 0),(3,iS t18q7),(16,.sl funcs.length (fl funcs)),(17,iS (funcs.length:Int)),(18,iS t18q7),(28,.sl (ix funcs t18q7).length (fl (ix funcs t18q7))),(29,iS (((ix funcs t18q7).length:Nat):Int)),(30,iS t30q29),(50,bS (decide ((funcs.length:Int)≤(ix (ix funcs t18q7) t30q29).A)))] [(0,.row 26 [iS 0,iS 0]),(1,.row 38 (Enc.cells (ix (ix funcs t18q7) t30q29)))] 2 (by kernel_rfl) ?_
           exact hK1189 () _ _ _ trivial (leSt_m [(0,0),(1,1)] [] (by (try simp only [g1190]) <;> simp only [push_cast,seval]) (by (try simp only [g1190]) <;> simp only [push_cast,seval]) rfl rfl rfl)
         ·dsimp only
          refine cond_sx h (by kernel_rfl) (fun g1193 h=>?_) (fun g1193 h=>?_)
          ·refine seq_np ?_
           refine reg_f ?_
           refine rk 1 ?_
           obtain ⟨r1192,hr1192,h⟩:=bind_sx h
           refine run_call 17 [iS 3,iS t18q7] (some 52) (by kernel_rfl) ?_
           refine call_0 (frame_fault_spec 3 t18q7 r1192 hr1192) (by simp only [push_cast,seval]) (by simp only [push_cast,seval]) ?_
           refine back_f ?_
           refine rk 1 ?_
           refine rf [(2,.ptr 0 0)] [(0,.row 26 (Enc.cells r1192)),(1,.row 38 (Enc.cells (ix (ix funcs t18q7) t30q29)))] 2 (by kernel_rfl) ?_
           refine wk_id ?_
           refine rt_cast ht4 ?_
           obtain ⟨r0,h,e0⟩:=map_sx h
           have e1:=hr4 r0 e0.symm
           subst r0
           refine rt_cast ht3 ?_
           obtain ⟨r0,h,e0⟩:=map_sx h
           have e1:=hr3 r0 e0.symm
           subst r0
           obtain rfl:=Option.some.inj h
           refine ret_at (.agg (Enc.cells r1192)) (by kernel_rfl) ?_
           exact ret_e [] [] (by simp only [push_cast,seval]) (by simp only [push_cast,seval]) rfl rfl rfl
          ·exact hK1183 () _ _ _ h (leSt_m [(0,0)] [] (by simp only [push_cast,seval]) (by simp only [push_cast,seval]) rfl rfl rfl)
        ·refine seq_cut (A:=Bool) (fun a=>([(0,.sl funcs.length (fl funcs)),(2,.ptr 0 0),(3,iS t18q7),(6,.ptr 1 0),(16,.sl funcs.length (fl funcs)),(17,iS (funcs.length:Int)),(18,iS t18q7),(28,.sl (ix funcs t18q7).length (fl (ix funcs t18q7))),(29,iS (((ix funcs t18q7).length:Nat):Int)),(30,iS t30q29),(35,iS (ix (ix funcs t18q7) t30q29).Op),(53,bS a)],[(0,.row 26 [iS 0,iS 0]),(1,.row 38 (Enc.cells (ix (ix funcs t18q7) t30q29)))],2)) (fun a=>(frame_Check_j3 funcs t18q7 t30q29 a) = some o4) (fun K1196 hK1196=>?_) ?_
         ·refine seq_np ?_
          refine reg_f ?_
          refine rk 2 ?_
          refine rf [(0,.sl funcs.length (fl funcs)),(2,.ptr 0 0),(3,iS t18q7),(6,.ptr 1 0),(16,.sl funcs.length (fl funcs)),(17,iS (funcs.length:Int)),(18,iS t18q7),(28,.sl (ix funcs t18q7).length (fl (ix funcs t18q7))),(29,iS (((ix funcs t18q7).length:Nat):Int)),(30,iS t30q29),(35,iS (ix (ix funcs t18q7) t30q29).Op),(53,bS ((ix (ix funcs t18q7) t30q29).Op == 4))] [(0,.row 26 [iS 0,iS 0]),(1,.row 38 (Enc.cells (ix (ix funcs t18q7) t30q29)))] 2 (by kernel_rfl) ?_
          refine wk_id ?_
          refine cond_sx h (by kernel_rfl) (fun g1197 h=>?_) (fun g1197 h=>?_)
          ·exact hK1196 (((ix (ix funcs t18q7) t30q29).Op == 4)) _ _ _ h (leSt_m [(0,0),(1,1)] [] (by simp only [push_cast,seval]) (by simp only [push_cast,seval]) rfl rfl rfl)
          ·refine reg_f ?_
           refine rk 2 ?_
           refine rf [(0,.sl funcs.length (fl funcs)),(2,.ptr 0 0),(3,iS t18q7),(6,.ptr 1 0),(16,.sl funcs.length (fl funcs)),(17,iS (funcs.length:Int)),(18,iS t18q7),(28,.sl (ix funcs t18q7).length (fl (ix funcs t18q7))),(29,iS (((ix funcs t18q7).length:Nat):Int)),(30,iS t30q29),(35,iS (ix (ix funcs t18q7) t30q29).Op),(53,bS ((ix (ix funcs t18q7) t30q29).Op == 6))] [(0,.row 26 [iS 0,iS 0]),(1,.row 38 (Enc.cells (ix (ix funcs t18q7) t30q29)))] 2 (by kernel_rfl) ?_
           exact hK1196 (((ix (ix funcs t18q7) t30q29).Op == 6)) _ _ _ h (leSt_m [(0,0),(1,1)] [] (by simp only [push_cast,seval]) (by simp only [push_cast,seval]) rfl rfl rfl)
         ·rintro t53q47 h
          try dsimp only at h ⊢
          unfold frame_Check_j3 at h
          refine cond_sx h (by kernel_rfl) (fun g1208 h=>?_) (fun g1208 h=>?_)
          ·refine seq_np ?_
           refine reg_f ?_
           refine rk 3 ?_
           refine rf [(0,.sl funcs.length (fl funcs)),(2,.ptr 0 0),(3,iS t18q7),(16,.sl funcs.length (fl funcs)),(17,iS (funcs.length:Int)),(18,iS t18q7),(28,.sl (ix funcs t18q7).length (fl (ix funcs t18q7))),(29,iS (((ix funcs t18q7).length:Nat):Int)),(30,iS t30q29),(58,bS ((ix (ix funcs t18q7) t30q29).A != 0))] [(0,.row 26 [iS 0,iS 0]),(1,.row 38 (Enc.cells (ix (ix funcs t18q7) t30q29)))] 2 (by kernel_rfl) ?_
           refine wk_id ?_
           refine cond_sx h (by kernel_rfl) (fun g1200 h=>?_) (fun g1200 h=>?_)
           ·refine seq_np ?_
            refine reg_f ?_
            refine rk 1 ?_
            obtain ⟨r1199,hr1199,h⟩:=bind_sx h
            refine run_call 17 [iS 5,iS t18q7] (some 60) (by kernel_rfl) ?_
            refine call_0 (frame_fault_spec 5 t18q7 r1199 hr1199) (by simp only [push_cast,seval]) (by simp only [push_cast,seval]) ?_
            refine back_f ?_
            refine rk 1 ?_
            refine rf [(2,.ptr 0 0)] [(0,.row 26 (Enc.cells r1199)),(1,.row 38 (Enc.cells (ix (ix funcs t18q7) t30q29)))] 2 (by kernel_rfl) ?_
            refine wk_id ?_
            refine rt_cast ht4 ?_
            obtain ⟨r0,h,e0⟩:=map_sx h
            have e1:=hr4 r0 e0.symm
            subst r0
            refine rt_cast ht3 ?_
            obtain ⟨r0,h,e0⟩:=map_sx h
            have e1:=hr3 r0 e0.symm
            subst r0
            obtain rfl:=Option.some.inj h
            refine ret_at (.agg (Enc.cells r1199)) (by kernel_rfl) ?_
            exact ret_e [] [] (by simp only [push_cast,seval]) (by simp only [push_cast,seval]) rfl rfl rfl
           ·exact hK1183 () _ _ _ h (leSt_m [(0,0)] [] (by simp only [push_cast,seval]) (by simp only [push_cast,seval]) rfl rfl rfl)
          ·refine seq_cut (A:=Bool) (fun a=>([(0,.sl funcs.length (fl funcs)),(2,.ptr 0 0),(3,iS t18q7),(16,.sl funcs.length (fl funcs)),(17,iS (funcs.length:Int)),(18,iS t18q7),(28,.sl (ix funcs t18q7).length (fl (ix funcs t18q7))),(29,iS (((ix funcs t18q7).length:Nat):Int)),(30,iS t30q29),(61,bS a)],[(0,.row 26 [iS 0,iS 0])],1)) (fun a=>(frame_Check_j2 funcs t18q7 t30q29 a) = some o4) (fun K1203 hK1203=>?_) ?_
           ·refine seq_np ?_
            refine reg_f ?_
            refine rk 2 ?_
            refine rf [(0,.sl funcs.length (fl funcs)),(2,.ptr 0 0),(3,iS t18q7),(16,.sl funcs.length (fl funcs)),(17,iS (funcs.length:Int)),(18,iS t18q7),(28,.sl (ix funcs t18q7).length (fl (ix funcs t18q7))),(29,iS (((ix funcs t18q7).length:Nat):Int)),(30,iS t30q29),(35,iS (ix (ix funcs t18q7) t30q29).Op),(61,bS ((ix (ix funcs t18q7) t30q29).Op == 3))] [(0,.row 26 [iS 0,iS 0]),(1,.row 38 (Enc.cells (ix (ix funcs t18q7) t30q29)))] 2 (by kernel_rfl) ?_
            refine wk_id ?_
            refine cond_sx h (by kernel_rfl) (fun g1204 h=>?_) (fun g1204 h=>?_)
            ·exact hK1203 (((ix (ix funcs t18q7) t30q29).Op == 3)) _ _ _ h (leSt_m [(0,0)] [] (by simp only [push_cast,seval]) (by simp only [push_cast,seval]) rfl rfl rfl)
            ·refine reg_f ?_
             refine rk 2 ?_
             refine rf [(0,.sl funcs.length (fl funcs)),(2,.ptr 0 0),(3,iS t18q7),(16,.sl funcs.length (fl funcs)),(17,iS (funcs.length:Int)),(18,iS t18q7),(28,.sl (ix funcs t18q7).length (fl (ix funcs t18q7))),(29,iS (((ix funcs t18q7).length:Nat):Int)),(30,iS t30q29),(61,bS ((ix (ix funcs t18q7) t30q29).Op == 5))] [(0,.row 26 [iS 0,iS 0]),(1,.row 38 (Enc.cells (ix (ix funcs t18q7) t30q29)))] 2 (by kernel_rfl) ?_
             exact hK1203 (((ix (ix funcs t18q7) t30q29).Op == 5)) _ _ _ h (leSt_m [(0,0)] [] (by simp only [push_cast,seval]) (by simp only [push_cast,seval]) rfl rfl rfl)
           ·rintro t61q47 h
            try dsimp only at h ⊢
            unfold frame_Check_j2 at h
            refine cond_sx h (by kernel_rfl) (fun g1207 h=>?_) (fun g1207 h=>?_)
            ·exact hK1183 () _ _ _ h (leSt_m [(0,0)] [] (by simp only [push_cast,seval]) (by simp only [push_cast,seval]) rfl rfl rfl)
            ·refine seq_np ?_
             refine reg_f ?_
             refine rk 1 ?_
             obtain ⟨r1206,hr1206,h⟩:=bind_sx h
             refine run_call 17 [iS 4,iS t18q7] (some 37) (by kernel_rfl) ?_
             refine call_0 (frame_fault_spec 4 t18q7 r1206 hr1206) (by simp only [push_cast,seval]) (by simp only [push_cast,seval]) ?_
             refine back_f ?_
             refine rk 1 ?_
             refine rf [(2,.ptr 0 0)] [(0,.row 26 (Enc.cells r1206))] 1 (by kernel_rfl) ?_
             refine wk_id ?_
             refine rt_cast ht4 ?_
             obtain ⟨r0,h,e0⟩:=map_sx h
             have e1:=hr4 r0 e0.symm
             subst r0
             refine rt_cast ht3 ?_
             obtain ⟨r0,h,e0⟩:=map_sx h
             have e1:=hr3 r0 e0.symm
             subst r0
             obtain rfl:=Option.some.inj h
             refine ret_at (.agg (Enc.cells r1206)) (by kernel_rfl) ?_
             exact ret_e [] [] (by simp only [push_cast,seval]) (by simp only [push_cast,seval]) rfl rfl rfl
      ·rintro _ h
       try dsimp only at h ⊢
       unfold frame_Check_j1 at h
       refine wk_id ?_
       refine wk_id ?_
       refine reg_f ?_
       refine rk 2 ?_
       refine rf [(0,.sl funcs.length (fl funcs)),(2,.ptr 0 0),(3,iS t18q7),(16,.sl funcs.length (fl funcs)),(17,iS (funcs.length:Int)),(18,iS t18q7),(28,.sl (ix funcs t18q7).length (fl (ix funcs t18q7))),(29,iS (((ix funcs t18q7).length:Nat):Int)),(30,iS (IntKind.i64.wrap (t30q29+1)))] [(0,.row 26 [iS 0,iS 0])] 1 (by kernel_rfl) ?_
       exact hn4 ((IntKind.i64.wrap (t30q29+1))) _ _ _ (Option.some.inj h).symm (leSt_m [(0,0)] [] (by simp only [push_cast,seval]) (by simp only [push_cast,seval]) rfl rfl rfl)
     ·change R4 (.exit 2) _ _ _
      refine ex_cast hx4 (id:=2) ?_
      obtain ⟨r0,h,e0⟩:=map_sx h
      have e1:=hr4 r0 e0.symm
      subst r0
      refine wk_id ?_
      refine wk_id ?_
      refine wk_id ?_
      refine reg_f ?_
      refine rk 2 ?_
      refine rf [(0,.sl funcs.length (fl funcs)),(2,.ptr 0 0),(16,.sl funcs.length (fl funcs)),(17,iS (funcs.length:Int)),(18,iS (IntKind.i64.wrap (t18q7+1)))] [(0,.row 26 [iS 0,iS 0])] 1 (by kernel_rfl) ?_
      exact hn3 ((IntKind.i64.wrap (t18q7+1))) _ _ _ (Option.some.inj h).symm (leSt_m [(0,0)] [] (by simp only [push_cast,seval]) (by simp only [push_cast,seval]) rfl rfl rfl)
   ·change R3 (.exit 0) _ _ _
    refine ex_cast hx3 (id:=0) ?_
    obtain ⟨r0,h,e0⟩:=map_sx h
    have e1:=hr3 r0 e0.symm
    subst r0
    refine wk_id ?_
    refine wk_id ?_
    refine seq_np ?_
    refine reg_f ?_
    refine rk 2 ?_
    refine rf [(2,.ptr 0 0)] [(0,.row 26 [iS 0,iS 0])] 1 (by kernel_rfl) ?_
    refine wk_id ?_
    obtain rfl:=Option.some.inj h
    refine ret_at (.agg [iS 0,iS 0]) (by kernel_rfl) ?_
    exact ret_e [] [] (by simp only [push_cast,seval]) (by simp only [push_cast,seval]) rfl rfl rfl

set_option maxRecDepth 100000 in
set_option maxHeartbeats 200000000 in
theorem frame_player_body_spec (rcf:Int→(List (List Deed))→Int→Int→(List Int)→Option (Err×(List (List Deed))×Int×Int×(List Int))) (ih:∀ (f:Int) (c0_funcs:(List (List Deed))) (c0_fuel:Int) (c0_deep:Int) (c1:(List Int)) (r:Err×(List (List Deed))×Int×Int×(List Int)),rcf f c0_funcs c0_fuel c0_deep c1 = some r→SpecW Tryd.prog 18 [.ptr 0 0,iS f,.v (.pointer none)] [(0,.row 44 [.sl c0_funcs.length (fl c0_funcs),iS c0_fuel,iS c0_deep,.own 1 0 c1.length]),(1,.row 3 (fl c1))] 2 (fun x h n=>x = .er 48 91 0 r.1∧h = [(0,.row 44 [.sl r.2.1.length (fl r.2.1),iS r.2.2.1,iS r.2.2.2.1,.own 2 0 r.2.2.2.2.length]),(1,.dead),(2,.row 3 (fl r.2.2.2.2))]∧n = 3)) (f:Int) (c0_funcs:(List (List Deed))) (c0_fuel:Int) (c0_deep:Int) (c1:(List Int)) (r:Err×(List (List Deed))×Int×Int×(List Int)×(List Int)) (h:frame_player_body rcf f c0_funcs c0_fuel c0_deep c1 = some r):SpecW Tryd.prog 22 [.ptr 0 0,iS f,.ptr 2 0,.v (.pointer none)] [(0,.row 44 [.sl c0_funcs.length (fl c0_funcs),iS c0_fuel,iS c0_deep,.own 1 0 c1.length]),(1,.row 3 (fl c1)),(2,.row 29 [.v (.slice none 0 0)])] 3 (fun x h n=>x = .er 48 91 0 r.1∧h = [(0,.row 44 [.sl r.2.1.length (fl r.2.1),iS r.2.2.1,iS r.2.2.2.1,.own 3 0 r.2.2.2.2.1.length]),(1,.dead),(2,.row 29 [.own 4 0 r.2.2.2.2.2.length]),(3,.row 3 (fl r.2.2.2.2.1)),(4,.row 3 (fl r.2.2.2.2.2))]∧n = 5):=by
 unfold frame_player_body at h
 refine spec_of (draw_ok _) Tryd.func22 rfl (by decide) rfl (by kernel_rfl) ?_
 refine seq_np ?_
 refine reg_f ?_
 refine rk 1 ?_
 refine rf [(0,.ptr 0 0),(1,iS f),(2,.ptr 2 0),(3,.v (.pointer none))] [(0,.row 44 [.sl c0_funcs.length (fl c0_funcs),iS c0_fuel,iS c0_deep,.own 1 0 c1.length]),(1,.row 3 (fl c1)),(2,.row 29 [.v (.slice none 0 0)])] 3 (by kernel_rfl) ?_
 refine wk_id ?_
 refine seq_np ?_
 refine chk_sx h (fun g1629 h=>?_)
 refine seq_np ?_
 refine reg_f ?_
 have k1628:0≤f∧f < (c0_funcs.length:Int):=by first | simpa only [Bool.and_eq_true,decide_eq_true_eq,bne_iff_ne,ne_eq] using g1629 | (simp at g1629 ⊢; omega) | simp
 refine rs 9 [none,none,none,none,none,some ⟨.iptr (fl c0_funcs) ((f).toNat * 1),[],3,[]⟩,some ⟨.sl (ix c0_funcs f).length (fl (ix c0_funcs f)),[],3,[]⟩] _ (by kernel_rfl) (allP_cons (ob_ld c0_funcs f 1 0 ((f).toNat * 1) k1628 rfl (by decide) (by first | rfl | omega) (dflS Tryd.prog 36) (.sl (ix c0_funcs f).length (fl (ix c0_funcs f))) rfl 3 []) (allP_cons (ob_ix_l c0_funcs 1 3 f k1628) allP_nil)) ?_
 refine rf [(0,.ptr 0 0),(2,.ptr 2 0),(3,.v (.pointer none)),(19,.sl (ix c0_funcs f).length (fl (ix c0_funcs f))),(20,iS (((ix c0_funcs f).length:Nat):Int)),(21,iS 0)] [(0,.row 44 [.sl c0_funcs.length (fl c0_funcs),iS c0_fuel,iS c0_deep,.own 1 0 c1.length]),(1,.row 3 (fl c1)),(2,.row 29 [.v (.slice none 0 0)])] 3 (by kernel_rfl) ?_
 refine wk_id ?_
 refine block_np ?_
 refine loop_sx (S:=Int×(List (List Deed))×Int×Int×(List Int)×(List Int)) (fun a=>([(0,.ptr 0 0),(2,.ptr 2 0),(3,.v (.pointer none)),(19,.sl (ix c0_funcs f).length (fl (ix c0_funcs f))),(20,iS (((ix c0_funcs f).length:Nat):Int)),(21,iS a.1)],[(0,.row 44 [.sl a.2.1.length (fl a.2.1),iS a.2.2.1,iS a.2.2.2.1,.own 3 0 a.2.2.2.2.1.length]),(1,.dead),(2,.row 29 [.own 4 0 a.2.2.2.2.2.length]),(3,.row 3 (fl a.2.2.2.2.1)),(4,.row 3 (fl a.2.2.2.2.2))],5)) h (leSt_m [(0,0),(2,2),(3,1)] [] (by simp only [push_cast,seval]) (by simp only [push_cast,seval]) rfl rfl rfl) ?_
 rintro ⟨t21q7,c0_funcs20,c0_fuel20,c0_deep20,c3q19,c4q19⟩ o2 R2 h hr2 hn2 hx2 ht2
 try dsimp only at h hn2 ⊢
 unfold frame_player_body_l1 at h
 try dsimp only at h
 refine seq_np ?_
 refine reg_f ?_
 refine rk 1 ?_
 refine rf [(0,.ptr 0 0),(2,.ptr 2 0),(3,.v (.pointer none)),(19,.sl (ix c0_funcs f).length (fl (ix c0_funcs f))),(20,iS (((ix c0_funcs f).length:Nat):Int)),(21,iS t21q7),(22,bS (decide (t21q7 < (((ix c0_funcs f).length:Nat):Int))))] [(0,.row 44 [.sl c0_funcs20.length (fl c0_funcs20),iS c0_fuel20,iS c0_deep20,.own 3 0 c3q19.length]),(1,.dead),(2,.row 29 [.own 4 0 c4q19.length]),(3,.row 3 (fl c3q19)),(4,.row 3 (fl c4q19))] 5 (by kernel_rfl) ?_
 refine wk_id ?_
 refine seq_np ?_
 refine cond_sx h (by kernel_rfl) (fun g1814 h=>?_) (fun g1814 h=>?_)
 ·refine wk_id ?_
  refine seq_np ?_
  refine block_np ?_
  refine chk_sx h (fun g1774 h=>?_)
  refine seq_np ?_
  refine reg_f ?_
  have k1773:0≤t21q7∧t21q7 < (((ix c0_funcs f).length:Nat):Int):=by first | simpa only [Bool.and_eq_true,decide_eq_true_eq,bne_iff_ne,ne_eq] using g1774 | (simp at g1774 ⊢; omega) | simp
  refine rs 4 [some ⟨.iptr (fl (ix c0_funcs f)) ((t21q7).toNat * 2),[],5,[]⟩,some ⟨.agg (Enc.cells (ix (ix c0_funcs f) t21q7)),[],5,[]⟩] _ (by kernel_rfl) (allP_cons (ob_ldw (ix c0_funcs f) t21q7 2 ((t21q7).toNat * 2) k1773 rfl (by first | rfl | omega) (Enc.cells (ix (ix c0_funcs f) t21q7)) rfl 5 []) (allP_cons (ob_ix_l (ix c0_funcs f) 2 5 t21q7 k1773) allP_nil)) ?_
  refine rf [(0,.ptr 0 0),(2,.ptr 2 0),(3,.v (.pointer none)),(10,.ptr 5 0),(19,.sl (ix c0_funcs f).length (fl (ix c0_funcs f))),(20,iS (((ix c0_funcs f).length:Nat):Int)),(21,iS t21q7)] [(0,.row 44 [.sl c0_funcs20.length (fl c0_funcs20),iS c0_fuel20,iS c0_deep20,.own 3 0 c3q19.length]),(1,.dead),(2,.row 29 [.own 4 0 c4q19.length]),(3,.row 3 (fl c3q19)),(4,.row 3 (fl c4q19)),(5,.row 38 (Enc.cells (ix (ix c0_funcs f) t21q7)))] 6 (by kernel_rfl) ?_
  refine wk_id ?_
  refine seq_np ?_
  refine seq_np ?_
  refine reg_f ?_
  refine rk 5 ?_
  refine rf [(0,.ptr 0 0),(2,.ptr 2 0),(3,.v (.pointer none)),(10,.ptr 5 0),(19,.sl (ix c0_funcs f).length (fl (ix c0_funcs f))),(20,iS (((ix c0_funcs f).length:Nat):Int)),(21,iS t21q7),(29,bS (c0_fuel20 == 0))] [(0,.row 44 [.sl c0_funcs20.length (fl c0_funcs20),iS c0_fuel20,iS c0_deep20,.own 3 0 c3q19.length]),(1,.dead),(2,.row 29 [.own 4 0 c4q19.length]),(3,.row 3 (fl c3q19)),(4,.row 3 (fl c4q19)),(5,.row 38 (Enc.cells (ix (ix c0_funcs f) t21q7)))] 6 (by kernel_rfl) ?_
  refine wk_id ?_
  refine cond_sx h (by kernel_rfl) (fun g1813 h=>?_) (fun g1813 h=>?_)
  ·refine seq_np ?_
   refine reg_f ?_
   refine rk 2 ?_
   refine rf [(8,.er 48 91 0 Err.tired)] [(0,.row 44 [.sl c0_funcs20.length (fl c0_funcs20),iS c0_fuel20,iS c0_deep20,.own 3 0 c3q19.length]),(1,.dead),(2,.row 29 [.own 4 0 c4q19.length]),(3,.row 3 (fl c3q19)),(4,.row 3 (fl c4q19)),(5,.row 38 (Enc.cells (ix (ix c0_funcs f) t21q7)))] 6 (by kernel_rfl) ?_
   refine wk_id ?_
   refine rt_cast ht2 ?_
   obtain ⟨r0,h,e0⟩:=map_sx h
   have e1:=hr2 r0 e0.symm
   subst r0
   obtain rfl:=Option.some.inj h
   refine ret_at (.er 48 91 0 Err.tired) (by kernel_rfl) ?_
   exact ret_e [(0,0),(2,2),(3,3),(4,4)] [] (by simp only [push_cast,seval]) (by simp only [push_cast,seval]) rfl rfl rfl
  ·refine wk_id ?_
   refine seq_np ?_
   refine reg_f ?_
   refine rk 8 ?_
   refine rf [(0,.ptr 0 0),(2,.ptr 2 0),(3,.v (.pointer none)),(10,.ptr 5 0),(19,.sl (ix c0_funcs f).length (fl (ix c0_funcs f))),(20,iS (((ix c0_funcs f).length:Nat):Int)),(21,iS t21q7)] [(0,.row 44 [.sl c0_funcs20.length (fl c0_funcs20),iS (IntKind.i64.wrap (c0_fuel20 - 1)),iS c0_deep20,.own 3 0 c3q19.length]),(1,.dead),(2,.row 29 [.own 4 0 c4q19.length]),(3,.row 3 (fl c3q19)),(4,.row 3 (fl c4q19)),(5,.row 38 (Enc.cells (ix (ix c0_funcs f) t21q7)))] 6 (by kernel_rfl) ?_
   refine wk_id ?_
   refine seq_np ?_
   refine reg_f ?_
   refine rk 2 ?_
   refine rf [(0,.ptr 0 0),(2,.ptr 2 0),(3,.v (.pointer none)),(10,.ptr 5 0),(19,.sl (ix c0_funcs f).length (fl (ix c0_funcs f))),(20,iS (((ix c0_funcs f).length:Nat):Int)),(21,iS t21q7),(39,iS (ix (ix c0_funcs f) t21q7).Op)] [(0,.row 44 [.sl c0_funcs20.length (fl c0_funcs20),iS (IntKind.i64.wrap (c0_fuel20 - 1)),iS c0_deep20,.own 3 0 c3q19.length]),(1,.dead),(2,.row 29 [.own 4 0 c4q19.length]),(3,.row 3 (fl c3q19)),(4,.row 3 (fl c4q19)),(5,.row 38 (Enc.cells (ix (ix c0_funcs f) t21q7)))] 6 (by kernel_rfl) ?_
   refine wk_id ?_
   refine block_cut (A:=(List (List Deed))×Int×Int×(List Int)×(List Int)) (fun a=>([(0,.ptr 0 0),(2,.ptr 2 0),(3,.v (.pointer none)),(19,.sl (ix c0_funcs f).length (fl (ix c0_funcs f))),(20,iS (((ix c0_funcs f).length:Nat):Int)),(21,iS t21q7)],[(0,.row 44 [.sl a.1.length (fl a.1),iS a.2.1,iS a.2.2.1,.own 3 0 a.2.2.2.1.length]),(1,.dead),(2,.row 29 [.own 4 0 a.2.2.2.2.length]),(3,.row 3 (fl a.2.2.2.1)),(4,.row 3 (fl a.2.2.2.2))],5)) (fun a=>(frame_player_body_j1 f c0_funcs t21q7 a.1 a.2.1 a.2.2.1 a.2.2.2.1 a.2.2.2.2) = some o2) (fun K1791 hK1791=>?_) ?_
   ·refine seq_np ?_
    refine reg_f ?_
    refine rk 2 ?_
    refine rf [(0,.ptr 0 0),(2,.ptr 2 0),(3,.v (.pointer none)),(10,.ptr 5 0),(19,.sl (ix c0_funcs f).length (fl (ix c0_funcs f))),(20,iS (((ix c0_funcs f).length:Nat):Int)),(21,iS t21q7),(39,iS (ix (ix c0_funcs f) t21q7).Op),(40,bS ((ix (ix c0_funcs f) t21q7).Op == 1))] [(0,.row 44 [.sl c0_funcs20.length (fl c0_funcs20),iS (IntKind.i64.wrap (c0_fuel20 - 1)),iS c0_deep20,.own 3 0 c3q19.length]),(1,.dead),(2,.row 29 [.own 4 0 c4q19.length]),(3,.row 3 (fl c3q19)),(4,.row 3 (fl c4q19)),(5,.row 38 (Enc.cells (ix (ix c0_funcs f) t21q7)))] 6 (by kernel_rfl) ?_
    refine wk_id ?_
    refine cond_sx h (by kernel_rfl) (fun g1812 h=>?_) (fun g1812 h=>?_)
    ·refine seq_np ?_
     refine reg_f ?_
     refine rk 3 ?_
     obtain ⟨r1793,hr1793,h⟩:=bind_sx h
     refine call_x (ih (ix (ix c0_funcs f) t21q7).A c0_funcs20 (IntKind.i64.wrap (c0_fuel20 - 1)) c0_deep20 c3q19 r1793 hr1793) (args:=[.ptr 0 0,iS (ix (ix c0_funcs f) t21q7).A,.v (.pointer none)]) (dst:=(some 45)) (by kernel_rfl) [(0,.row 44 [.sl c0_funcs20.length (fl c0_funcs20),iS (IntKind.i64.wrap (c0_fuel20 - 1)),iS c0_deep20,.own 3 0 c3q19.length]),(1,.dead),(2,.row 29 [.own 4 0 c4q19.length]),(3,.row 3 (fl c3q19)),(4,.row 3 (fl c4q19)),(5,.row 38 (Enc.cells (ix (ix c0_funcs f) t21q7)))] 6 (by kernel_rfl) [(0,0),(1,3)] [] (.er 48 91 0 r1793.1) [(0,.row 44 [.sl r1793.2.1.length (fl r1793.2.1),iS r1793.2.2.1,iS r1793.2.2.2.1,.own 8 0 r1793.2.2.2.2.length]),(3,.dead),(8,.row 3 (fl r1793.2.2.2.2)),(0,.dead),(3,.dead)] (by simp only [push_cast,seval]) (by simp only [push_cast,seval]) (by kernel_rfl) (.inl rfl) (by simp only [push_cast,seval]) (by simp only [push_cast,seval]) ?_
     refine rk 1 ?_
     refine rf [(0,.ptr 0 0),(2,.ptr 2 0),(3,.v (.pointer none)),(11,.er 48 91 0 r1793.1),(19,.sl (ix c0_funcs f).length (fl (ix c0_funcs f))),(20,iS (((ix c0_funcs f).length:Nat):Int)),(21,iS t21q7)] [(0,.row 44 [.sl r1793.2.1.length (fl r1793.2.1),iS r1793.2.2.1,iS r1793.2.2.2.1,.own 8 0 r1793.2.2.2.2.length]),(1,.dead),(2,.row 29 [.own 4 0 c4q19.length]),(3,.dead),(4,.row 3 (fl c4q19)),(5,.row 38 (Enc.cells (ix (ix c0_funcs f) t21q7))),(8,.row 3 (fl r1793.2.2.2.2))] 9 (by kernel_rfl) ?_
     refine wk_id ?_
     refine seq_np ?_
     refine reg_f ?_
     refine rk 2 ?_
     refine rf [(0,.ptr 0 0),(2,.ptr 2 0),(3,.v (.pointer none)),(11,.er 48 91 0 r1793.1),(19,.sl (ix c0_funcs f).length (fl (ix c0_funcs f))),(20,iS (((ix c0_funcs f).length:Nat):Int)),(21,iS t21q7),(47,bS (!decide (r1793.1 = Err.nil)))] [(0,.row 44 [.sl r1793.2.1.length (fl r1793.2.1),iS r1793.2.2.1,iS r1793.2.2.2.1,.own 8 0 r1793.2.2.2.2.length]),(1,.dead),(2,.row 29 [.own 4 0 c4q19.length]),(3,.dead),(4,.row 3 (fl c4q19)),(5,.row 38 (Enc.cells (ix (ix c0_funcs f) t21q7))),(8,.row 3 (fl r1793.2.2.2.2))] 9 (by kernel_rfl) ?_
     refine wk_id ?_
     refine cond_sx h (by kernel_rfl) (fun g1794 h=>?_) (fun g1794 h=>?_)
     ·refine seq_np ?_
      refine reg_f ?_
      refine rk 2 ?_
      refine rf [(8,.er 48 91 0 r1793.1)] [(0,.row 44 [.sl r1793.2.1.length (fl r1793.2.1),iS r1793.2.2.1,iS r1793.2.2.2.1,.own 8 0 r1793.2.2.2.2.length]),(1,.dead),(2,.row 29 [.own 4 0 c4q19.length]),(3,.dead),(4,.row 3 (fl c4q19)),(5,.row 38 (Enc.cells (ix (ix c0_funcs f) t21q7))),(8,.row 3 (fl r1793.2.2.2.2))] 9 (by kernel_rfl) ?_
      refine wk_id ?_
      refine rt_cast ht2 ?_
      obtain ⟨r0,h,e0⟩:=map_sx h
      have e1:=hr2 r0 e0.symm
      subst r0
      obtain rfl:=Option.some.inj h
      refine ret_at (.er 48 91 0 r1793.1) (by kernel_rfl) ?_
      exact ret_e [(0,0),(2,2),(3,8),(4,4)] [] (by simp only [push_cast,seval]) (by simp only [push_cast,seval]) rfl rfl rfl
     ·exact hK1791 (r1793.2.1,r1793.2.2.1,r1793.2.2.2.1,r1793.2.2.2.2,c4q19) _ _ _ h (leSt_m [(0,0),(2,2),(3,8),(4,4)] [] (by simp only [push_cast,seval]) (by simp only [push_cast,seval]) rfl rfl rfl)
    ·refine seq_np ?_
     refine reg_f ?_
     refine rk 2 ?_
     refine rf [(0,.ptr 0 0),(2,.ptr 2 0),(3,.v (.pointer none)),(10,.ptr 5 0),(19,.sl (ix c0_funcs f).length (fl (ix c0_funcs f))),(20,iS (((ix c0_funcs f).length:Nat):Int)),(21,iS t21q7),(39,iS (ix (ix c0_funcs f) t21q7).Op),(49,bS ((ix (ix c0_funcs f) t21q7).Op == 2))] [(0,.row 44 [.sl c0_funcs20.length (fl c0_funcs20),iS (IntKind.i64.wrap (c0_fuel20 - 1)),iS c0_deep20,.own 3 0 c3q19.length]),(1,.dead),(2,.row 29 [.own 4 0 c4q19.length]),(3,.row 3 (fl c3q19)),(4,.row 3 (fl c4q19)),(5,.row 38 (Enc.cells (ix (ix c0_funcs f) t21q7)))] 6 (by kernel_rfl) ?_
     refine wk_id ?_
     refine cond_sx h (by kernel_rfl) (fun g1811 h=>?_) (fun g1811 h=>?_)
     ·refine chk_sx h (fun g1798 h=>?_)
      refine reg_t ?_
      have k1797:(c4q19++([(ix (ix c0_funcs f) t21q7).A]:List Int)).length * 8≤140737488355328:=by first | simpa only [Bool.and_eq_true,decide_eq_true_eq,bne_iff_ne,ne_eq] using g1798 | (simp at g1798 ⊢; omega) | simp
      refine rs 10 [none,none,none,none,none,none,none,some ⟨.own 14 0 (c4q19++([(ix (ix c0_funcs f) t21q7).A]:List Int)).length,[(14,.row 3 (fl (c4q19++([(ix (ix c0_funcs f) t21q7).A]:List Int)))),(4,.dead)],15,[4,12]⟩] _ (by kernel_rfl) (allP_cons (ob_app (P:=Tryd.prog) c4q19 ([(ix (ix c0_funcs f) t21q7).A]:List Int) 1 8 rfl (appCells (fl ([(ix (ix c0_funcs f) t21q7).A]:List Int)) 0 (([(ix (ix c0_funcs f) t21q7).A]:List Int).length * 1)) ([(ix (ix c0_funcs f) t21q7).A]:List Int).length (app_own ([(ix (ix c0_funcs f) t21q7).A]:List Int) 1 rfl) rfl (0+([(ix (ix c0_funcs f) t21q7).A]:List Int).length * 1≤(fl ([(ix (ix c0_funcs f) t21q7).A]:List Int)).length) (app_own_le ([(ix (ix c0_funcs f) t21q7).A]:List Int) 1 rfl) 3 (by kernel_rfl) (by decide) k1797 4 14 [12]) allP_nil) ?_
      refine rt [(0,.ptr 0 0),(2,.ptr 2 0),(3,.v (.pointer none)),(19,.sl (ix c0_funcs f).length (fl (ix c0_funcs f))),(20,iS (((ix c0_funcs f).length:Nat):Int)),(21,iS t21q7)] [(0,.row 44 [.sl c0_funcs20.length (fl c0_funcs20),iS (IntKind.i64.wrap (c0_fuel20 - 1)),iS c0_deep20,.own 3 0 c3q19.length]),(1,.dead),(2,.row 29 [.own 14 0 (c4q19++([(ix (ix c0_funcs f) t21q7).A]:List Int)).length]),(3,.row 3 (fl c3q19)),(4,.dead),(5,.row 38 (Enc.cells (ix (ix c0_funcs f) t21q7))),(12,.row 3 (fl ([(ix (ix c0_funcs f) t21q7).A]:List Int))),(14,.row 3 (fl (c4q19++([(ix (ix c0_funcs f) t21q7).A]:List Int))))] 18 follows (by kernel_rfl) ?_
      exact hK1791 (c0_funcs20,(IntKind.i64.wrap (c0_fuel20 - 1)),c0_deep20,c3q19,(c4q19++([(ix (ix c0_funcs f) t21q7).A]:List Int))) _ _ _ h (leSt_m [(0,0),(2,2),(3,3),(4,14)] [] (by simp only [push_cast,seval]) (by simp only [push_cast,seval]) rfl rfl rfl)
     ·refine seq_np ?_
      refine reg_f ?_
      refine rk 2 ?_
      refine rf [(0,.ptr 0 0),(2,.ptr 2 0),(3,.v (.pointer none)),(10,.ptr 5 0),(19,.sl (ix c0_funcs f).length (fl (ix c0_funcs f))),(20,iS (((ix c0_funcs f).length:Nat):Int)),(21,iS t21q7),(39,iS (ix (ix c0_funcs f) t21q7).Op),(60,bS ((ix (ix c0_funcs f) t21q7).Op == 3))] [(0,.row 44 [.sl c0_funcs20.length (fl c0_funcs20),iS (IntKind.i64.wrap (c0_fuel20 - 1)),iS c0_deep20,.own 3 0 c3q19.length]),(1,.dead),(2,.row 29 [.own 4 0 c4q19.length]),(3,.row 3 (fl c3q19)),(4,.row 3 (fl c4q19)),(5,.row 38 (Enc.cells (ix (ix c0_funcs f) t21q7)))] 6 (by kernel_rfl) ?_
      refine wk_id ?_
      refine cond_sx h (by kernel_rfl) (fun g1810 h=>?_) (fun g1810 h=>?_)
      ·refine seq_np ?_
       refine reg_f ?_
       refine rk 6 ?_
       refine rf [(8,.ifc 48 (.ptr 6 0))] [(0,.row 44 [.sl c0_funcs20.length (fl c0_funcs20),iS (IntKind.i64.wrap (c0_fuel20 - 1)),iS c0_deep20,.own 3 0 c3q19.length]),(1,.dead),(2,.row 29 [.own 4 0 c4q19.length]),(3,.row 3 (fl c3q19)),(4,.row 3 (fl c4q19)),(5,.row 38 (Enc.cells (ix (ix c0_funcs f) t21q7))),(6,.row 53 [iS (ix (ix c0_funcs f) t21q7).A])] 7 (by kernel_rfl) ?_
       refine wk_id ?_
       refine rt_cast ht2 ?_
       obtain ⟨r0,h,e0⟩:=map_sx h
       have e1:=hr2 r0 e0.symm
       subst r0
       obtain rfl:=Option.some.inj h
       refine ret_at (.ifc 48 (.ptr 6 0)) (by kernel_rfl) ?_
       exact ret_e [(0,0),(2,2),(3,3),(4,4)] [6] (by simp only [leS_frz,leS_cut,push_cast,seval]) (by simp only [leS_frz,leS_cut,push_cast,seval]) rfl rfl rfl
      ·refine seq_np ?_
       refine reg_f ?_
       refine rk 2 ?_
       refine rf [(0,.ptr 0 0),(2,.ptr 2 0),(3,.v (.pointer none)),(10,.ptr 5 0),(19,.sl (ix c0_funcs f).length (fl (ix c0_funcs f))),(20,iS (((ix c0_funcs f).length:Nat):Int)),(21,iS t21q7),(39,iS (ix (ix c0_funcs f) t21q7).Op),(67,bS ((ix (ix c0_funcs f) t21q7).Op == 4))] [(0,.row 44 [.sl c0_funcs20.length (fl c0_funcs20),iS (IntKind.i64.wrap (c0_fuel20 - 1)),iS c0_deep20,.own 3 0 c3q19.length]),(1,.dead),(2,.row 29 [.own 4 0 c4q19.length]),(3,.row 3 (fl c3q19)),(4,.row 3 (fl c4q19)),(5,.row 38 (Enc.cells (ix (ix c0_funcs f) t21q7)))] 6 (by kernel_rfl) ?_
       refine wk_id ?_
       refine cond_sx h (by kernel_rfl) (fun g1809 h=>?_) (fun g1809 h=>?_)
       ·refine seq_np ?_
        refine reg_f ?_
        refine rk 1 ?_
        refine rf [(0,.ptr 0 0),(2,.ptr 2 0),(3,.v (.pointer none)),(12,.ptr 6 0),(19,.sl (ix c0_funcs f).length (fl (ix c0_funcs f))),(20,iS (((ix c0_funcs f).length:Nat):Int)),(21,iS t21q7)] [(0,.row 44 [.sl c0_funcs20.length (fl c0_funcs20),iS (IntKind.i64.wrap (c0_fuel20 - 1)),iS c0_deep20,.own 3 0 c3q19.length]),(1,.dead),(2,.row 29 [.own 4 0 c4q19.length]),(3,.row 3 (fl c3q19)),(4,.row 3 (fl c4q19)),(5,.row 38 (Enc.cells (ix (ix c0_funcs f) t21q7))),(6,.row 48 [.v (.pointer none)])] 7 (by kernel_rfl) ?_
        refine wk_id ?_
        refine seq_np ?_
        refine reg_f ?_
        refine rk 9 ?_
        refine rf [(0,.ptr 0 0),(2,.ptr 2 0),(3,.v (.pointer none)),(12,.ptr 6 0),(19,.sl (ix c0_funcs f).length (fl (ix c0_funcs f))),(20,iS (((ix c0_funcs f).length:Nat):Int)),(21,iS t21q7),(77,bS false)] [(0,.row 44 [.sl c0_funcs20.length (fl c0_funcs20),iS (IntKind.i64.wrap (c0_fuel20 - 1)),iS c0_deep20,.own 3 0 c3q19.length]),(1,.dead),(2,.row 29 [.own 4 0 c4q19.length]),(3,.row 3 (fl c3q19)),(4,.row 3 (fl c4q19)),(5,.row 38 (Enc.cells (ix (ix c0_funcs f) t21q7))),(6,.row 48 [.v (.pointer none)])] 7 (by kernel_rfl) ?_
        refine wk_id ?_
        refine cond_f (by kernel_rfl) ?_
        refine chk_sx h (fun g1802 h=>?_)
        refine reg_f ?_
        have k1801:(c3q19++([(-1)]:List Int)).length * 8≤140737488355328:=by first | simpa only [Bool.and_eq_true,decide_eq_true_eq,bne_iff_ne,ne_eq] using g1802 | (simp at g1802 ⊢; omega) | simp
        refine rs 10 [none,none,none,none,none,none,some ⟨.own 8 0 (c3q19++([(-1)]:List Int)).length,[(8,.row 3 (fl (c3q19++([(-1)]:List Int)))),(3,.dead)],9,[3,7]⟩] _ (by kernel_rfl) (allP_cons (ob_app (P:=Tryd.prog) c3q19 ([(-1)]:List Int) 1 8 rfl (appCells (fl ([(-1)]:List Int)) 0 (([(-1)]:List Int).length * 1)) ([(-1)]:List Int).length (app_own ([(-1)]:List Int) 1 rfl) rfl (0+([(-1)]:List Int).length * 1≤(fl ([(-1)]:List Int)).length) (app_own_le ([(-1)]:List Int) 1 rfl) 3 (by kernel_rfl) (by decide) k1801 3 8 [7]) allP_nil) ?_
        refine rf [(0,.ptr 0 0),(2,.ptr 2 0),(3,.v (.pointer none)),(19,.sl (ix c0_funcs f).length (fl (ix c0_funcs f))),(20,iS (((ix c0_funcs f).length:Nat):Int)),(21,iS t21q7)] [(0,.row 44 [.sl c0_funcs20.length (fl c0_funcs20),iS (IntKind.i64.wrap (c0_fuel20 - 1)),iS c0_deep20,.own 8 0 (c3q19++([(-1)]:List Int)).length]),(1,.dead),(2,.row 29 [.own 4 0 c4q19.length]),(3,.dead),(4,.row 3 (fl c4q19)),(5,.row 38 (Enc.cells (ix (ix c0_funcs f) t21q7))),(6,.row 48 [.v (.pointer none)]),(7,.row 3 (fl ([(-1)]:List Int))),(8,.row 3 (fl (c3q19++([(-1)]:List Int))))] 9 (by kernel_rfl) ?_
        exact hK1791 (c0_funcs20,(IntKind.i64.wrap (c0_fuel20 - 1)),c0_deep20,(c3q19++([(-1)]:List Int)),c4q19) _ _ _ h (leSt_m [(0,0),(2,2),(3,8),(4,4)] [] (by simp only [push_cast,seval]) (by simp only [push_cast,seval]) rfl rfl rfl)
       ·refine seq_np ?_
        refine reg_f ?_
        refine rk 2 ?_
        refine rf [(0,.ptr 0 0),(2,.ptr 2 0),(3,.v (.pointer none)),(10,.ptr 5 0),(19,.sl (ix c0_funcs f).length (fl (ix c0_funcs f))),(20,iS (((ix c0_funcs f).length:Nat):Int)),(21,iS t21q7),(39,iS (ix (ix c0_funcs f) t21q7).Op),(102,bS ((ix (ix c0_funcs f) t21q7).Op == 5))] [(0,.row 44 [.sl c0_funcs20.length (fl c0_funcs20),iS (IntKind.i64.wrap (c0_fuel20 - 1)),iS c0_deep20,.own 3 0 c3q19.length]),(1,.dead),(2,.row 29 [.own 4 0 c4q19.length]),(3,.row 3 (fl c3q19)),(4,.row 3 (fl c4q19)),(5,.row 38 (Enc.cells (ix (ix c0_funcs f) t21q7)))] 6 (by kernel_rfl) ?_
        refine wk_id ?_
        refine cond_sx h (by kernel_rfl) (fun g1808 h=>?_) (fun g1808 h=>?_)
        ·refine chk_sx h (fun g1806 h=>?_)
         refine reg_t ?_
         have k1805:(c3q19++([(ix (ix c0_funcs f) t21q7).A]:List Int)).length * 8≤140737488355328:=by first | simpa only [Bool.and_eq_true,decide_eq_true_eq,bne_iff_ne,ne_eq] using g1806 | (simp at g1806 ⊢; omega) | simp
         refine rs 12 [none,none,none,none,none,none,none,none,some ⟨.own 15 0 (c3q19++([(ix (ix c0_funcs f) t21q7).A]:List Int)).length,[(15,.row 3 (fl (c3q19++([(ix (ix c0_funcs f) t21q7).A]:List Int)))),(3,.dead)],16,[3,13]⟩] _ (by kernel_rfl) (allP_cons (ob_app (P:=Tryd.prog) c3q19 ([(ix (ix c0_funcs f) t21q7).A]:List Int) 1 8 rfl (appCells (fl ([(ix (ix c0_funcs f) t21q7).A]:List Int)) 0 (([(ix (ix c0_funcs f) t21q7).A]:List Int).length * 1)) ([(ix (ix c0_funcs f) t21q7).A]:List Int).length (app_own ([(ix (ix c0_funcs f) t21q7).A]:List Int) 1 rfl) rfl (0+([(ix (ix c0_funcs f) t21q7).A]:List Int).length * 1≤(fl ([(ix (ix c0_funcs f) t21q7).A]:List Int)).length) (app_own_le ([(ix (ix c0_funcs f) t21q7).A]:List Int) 1 rfl) 3 (by kernel_rfl) (by decide) k1805 3 15 [13]) allP_nil) ?_
         refine rt [(0,.ptr 0 0),(2,.ptr 2 0),(3,.v (.pointer none)),(19,.sl (ix c0_funcs f).length (fl (ix c0_funcs f))),(20,iS (((ix c0_funcs f).length:Nat):Int)),(21,iS t21q7)] [(0,.row 44 [.sl c0_funcs20.length (fl c0_funcs20),iS (IntKind.i64.wrap (c0_fuel20 - 1)),iS c0_deep20,.own 15 0 (c3q19++([(ix (ix c0_funcs f) t21q7).A]:List Int)).length]),(1,.dead),(2,.row 29 [.own 4 0 c4q19.length]),(3,.dead),(4,.row 3 (fl c4q19)),(5,.row 38 (Enc.cells (ix (ix c0_funcs f) t21q7))),(13,.row 3 (fl ([(ix (ix c0_funcs f) t21q7).A]:List Int))),(15,.row 3 (fl (c3q19++([(ix (ix c0_funcs f) t21q7).A]:List Int))))] 20 follows (by kernel_rfl) ?_
         exact hK1791 (c0_funcs20,(IntKind.i64.wrap (c0_fuel20 - 1)),c0_deep20,(c3q19++([(ix (ix c0_funcs f) t21q7).A]:List Int)),c4q19) _ _ _ h (leSt_m [(0,0),(2,2),(3,15),(4,4)] [] (by simp only [push_cast,seval]) (by simp only [push_cast,seval]) rfl rfl rfl)
        ·refine seq_np ?_
         refine reg_f ?_
         refine rk 2 ?_
         refine rf [(0,.ptr 0 0),(2,.ptr 2 0),(3,.v (.pointer none)),(19,.sl (ix c0_funcs f).length (fl (ix c0_funcs f))),(20,iS (((ix c0_funcs f).length:Nat):Int)),(21,iS t21q7),(115,bS ((ix (ix c0_funcs f) t21q7).Op == 6))] [(0,.row 44 [.sl c0_funcs20.length (fl c0_funcs20),iS (IntKind.i64.wrap (c0_fuel20 - 1)),iS c0_deep20,.own 3 0 c3q19.length]),(1,.dead),(2,.row 29 [.own 4 0 c4q19.length]),(3,.row 3 (fl c3q19)),(4,.row 3 (fl c4q19)),(5,.row 38 (Enc.cells (ix (ix c0_funcs f) t21q7)))] 6 (by kernel_rfl) ?_
         refine wk_id ?_
         refine cond_sx h (by kernel_rfl) (fun g1807 h=>?_) (fun g1807 h=>?_)
         ·refine seq_np ?_
          refine reg_f ?_
          refine rk 1 ?_
          refine rf [(8,.v .nilIface)] [(0,.row 44 [.sl c0_funcs20.length (fl c0_funcs20),iS (IntKind.i64.wrap (c0_fuel20 - 1)),iS c0_deep20,.own 3 0 c3q19.length]),(1,.dead),(2,.row 29 [.own 4 0 c4q19.length]),(3,.row 3 (fl c3q19)),(4,.row 3 (fl c4q19)),(5,.row 38 (Enc.cells (ix (ix c0_funcs f) t21q7)))] 6 (by kernel_rfl) ?_
          refine wk_id ?_
          refine rt_cast ht2 ?_
          obtain ⟨r0,h,e0⟩:=map_sx h
          have e1:=hr2 r0 e0.symm
          subst r0
          obtain rfl:=Option.some.inj h
          refine ret_at (.v .nilIface) (by kernel_rfl) ?_
          exact ret_e [(0,0),(2,2),(3,3),(4,4)] [] (by simp only [push_cast,seval]) (by simp only [push_cast,seval]) rfl rfl rfl
         ·exact hK1791 (c0_funcs20,(IntKind.i64.wrap (c0_fuel20 - 1)),c0_deep20,c3q19,c4q19) _ _ _ h (leSt_m [(0,0),(2,2),(3,3),(4,4)] [] (by simp only [push_cast,seval]) (by simp only [push_cast,seval]) rfl rfl rfl)
   ·rintro ⟨c0_funcs23,c0_fuel23,c0_deep23,c3q22,c4q22⟩ h
    try dsimp only at h ⊢
    unfold frame_player_body_j1 at h
    refine wk_id ?_
    refine wk_id ?_
    refine reg_f ?_
    refine rk 2 ?_
    refine rf [(0,.ptr 0 0),(2,.ptr 2 0),(3,.v (.pointer none)),(19,.sl (ix c0_funcs f).length (fl (ix c0_funcs f))),(20,iS (((ix c0_funcs f).length:Nat):Int)),(21,iS (IntKind.i64.wrap (t21q7+1)))] [(0,.row 44 [.sl c0_funcs23.length (fl c0_funcs23),iS c0_fuel23,iS c0_deep23,.own 3 0 c3q22.length]),(1,.dead),(2,.row 29 [.own 4 0 c4q22.length]),(3,.row 3 (fl c3q22)),(4,.row 3 (fl c4q22))] 5 (by kernel_rfl) ?_
    exact hn2 ((IntKind.i64.wrap (t21q7+1)),c0_funcs23,c0_fuel23,c0_deep23,c3q22,c4q22) _ _ _ (Option.some.inj h).symm (leSt_m [(0,0),(2,2),(3,3),(4,4)] [] (by simp only [push_cast,seval]) (by simp only [push_cast,seval]) rfl rfl rfl)
 ·change R2 (.exit 0) _ _ _
  refine ex_cast hx2 (id:=0) ?_
  obtain ⟨r0,h,e0⟩:=map_sx h
  have e1:=hr2 r0 e0.symm
  subst r0
  refine wk_id ?_
  refine wk_id ?_
  refine seq_np ?_
  refine reg_f ?_
  refine rk 1 ?_
  refine rf [(8,.v .nilIface)] [(0,.row 44 [.sl c0_funcs20.length (fl c0_funcs20),iS c0_fuel20,iS c0_deep20,.own 3 0 c3q19.length]),(1,.dead),(2,.row 29 [.own 4 0 c4q19.length]),(3,.row 3 (fl c3q19)),(4,.row 3 (fl c4q19))] 5 (by kernel_rfl) ?_
  refine wk_id ?_
  obtain rfl:=Option.some.inj h
  refine ret_at (.v .nilIface) (by kernel_rfl) ?_
  exact ret_e [(0,0),(2,2),(3,3),(4,4)] [] (by simp only [push_cast,seval]) (by simp only [push_cast,seval]) rfl rfl rfl

set_option maxRecDepth 100000 in
set_option maxHeartbeats 200000000 in
theorem errors_Is_spec (err:Err) (target:Err) (r:Bool) (h:errors_Is err target = some r):SpecW Tryd.prog 19 [.er 48 91 0 err,.er 48 91 0 target] [] 0 (fun x h n=>x = bS r∧h = []∧n = 0):=by
 unfold errors_Is at h
 obtain ⟨h1,rfl⟩:=bif_some h
 obtain rfl:=h1
 exact fe_is_spec err

set_option maxRecDepth 100000 in
set_option maxHeartbeats 200000000 in
theorem errors_As_spec (err:Err) (hK0:(Err.isPan err) = true) (r:Unit) (h:errors_As err = some r):SpecW Tryd.prog 20 [.er 48 91 0 err,.ifc 51 (.ptr 0 0)] [(0,.row 48 [.v (.pointer none)])] 1 (fun x h n=>x = bS true∧h = [(0,.row 48 [.iptr [iS (Err.val err)] 0])]∧n = 1):=fe_as_hit_spec err hK0

set_option maxRecDepth 100000 in
set_option maxHeartbeats 200000000 in
theorem errors_As_1_spec (err:Err) (hK0:(Err.isPan err) = false) (r:Unit) (h:errors_As_1 err = some r):SpecW Tryd.prog 20 [.er 48 91 0 err,.ifc 51 (.ptr 0 0)] [(0,.row 48 [.v (.pointer none)])] 1 (fun x h n=>x = bS false∧h = [(0,.row 48 [.v (.pointer none)])]∧n = 1):=fe_as_miss_spec err hK0

set_option maxRecDepth 100000 in
set_option maxHeartbeats 200000000 in
theorem frame_player_body_1_spec (rcf:Int→(List (List Deed))→Int→Int→(List Int)→Option (Err×(List (List Deed))×Int×Int×(List Int))) (ih:∀ (f:Int) (c0_funcs:(List (List Deed))) (c0_fuel:Int) (c0_deep:Int) (c1:(List Int)) (r:Err×(List (List Deed))×Int×Int×(List Int)),rcf f c0_funcs c0_fuel c0_deep c1 = some r→SpecW Tryd.prog 18 [.ptr 0 0,iS f,.v (.pointer none)] [(0,.row 44 [.sl c0_funcs.length (fl c0_funcs),iS c0_fuel,iS c0_deep,.own 1 0 c1.length]),(1,.row 3 (fl c1))] 2 (fun x h n=>x = .er 48 91 0 r.1∧h = [(0,.row 44 [.sl r.2.1.length (fl r.2.1),iS r.2.2.1,iS r.2.2.2.1,.own 2 0 r.2.2.2.2.length]),(1,.dead),(2,.row 3 (fl r.2.2.2.2))]∧n = 3)) (f:Int) (c0_funcs:(List (List Deed))) (c0_fuel:Int) (c0_deep:Int) (c3:Err) (c1:(List Int)) (r:Err×(List (List Deed))×Int×Int×(List Int)×(List Int)×Err) (h:frame_player_body_1 rcf f c0_funcs c0_fuel c0_deep c3 c1 = some r):SpecW Tryd.prog 22 [.ptr 0 0,iS f,.ptr 2 0,.ptr 3 0] [(0,.row 44 [.sl c0_funcs.length (fl c0_funcs),iS c0_fuel,iS c0_deep,.own 1 0 c1.length]),(1,.row 3 (fl c1)),(2,.row 29 [.v (.slice none 0 0)]),(3,.row 46 [.er 48 91 0 c3])] 4 (fun x h n=>x = .er 48 91 0 r.1∧h = [(0,.row 44 [.sl r.2.1.length (fl r.2.1),iS r.2.2.1,iS r.2.2.2.1,.own 4 0 r.2.2.2.2.1.length]),(1,.dead),(2,.row 29 [.own 5 0 r.2.2.2.2.2.1.length]),(3,.row 46 [.er 48 91 0 r.2.2.2.2.2.2]),(4,.row 3 (fl r.2.2.2.2.1)),(5,.row 3 (fl r.2.2.2.2.2.1))]∧n = 6):=by
 unfold frame_player_body_1 at h
 refine spec_of (draw_ok _) Tryd.func22 rfl (by decide) rfl (by kernel_rfl) ?_
 refine seq_np ?_
 refine reg_f ?_
 refine rk 1 ?_
 refine rf [(0,.ptr 0 0),(1,iS f),(2,.ptr 2 0),(3,.ptr 3 0)] [(0,.row 44 [.sl c0_funcs.length (fl c0_funcs),iS c0_fuel,iS c0_deep,.own 1 0 c1.length]),(1,.row 3 (fl c1)),(2,.row 29 [.v (.slice none 0 0)]),(3,.row 46 [.er 48 91 0 c3])] 4 (by kernel_rfl) ?_
 refine wk_id ?_
 refine seq_np ?_
 refine chk_sx h (fun g2401 h=>?_)
 refine seq_np ?_
 refine reg_f ?_
 have k2400:0≤f∧f < (c0_funcs.length:Int):=by first | simpa only [Bool.and_eq_true,decide_eq_true_eq,bne_iff_ne,ne_eq] using g2401 | (simp at g2401 ⊢; omega) | simp
 refine rs 9 [none,none,none,none,none,some ⟨.iptr (fl c0_funcs) ((f).toNat * 1),[],4,[]⟩,some ⟨.sl (ix c0_funcs f).length (fl (ix c0_funcs f)),[],4,[]⟩] _ (by kernel_rfl) (allP_cons (ob_ld c0_funcs f 1 0 ((f).toNat * 1) k2400 rfl (by decide) (by first | rfl | omega) (dflS Tryd.prog 36) (.sl (ix c0_funcs f).length (fl (ix c0_funcs f))) rfl 4 []) (allP_cons (ob_ix_l c0_funcs 1 4 f k2400) allP_nil)) ?_
 refine rf [(0,.ptr 0 0),(2,.ptr 2 0),(3,.ptr 3 0),(19,.sl (ix c0_funcs f).length (fl (ix c0_funcs f))),(20,iS (((ix c0_funcs f).length:Nat):Int)),(21,iS 0)] [(0,.row 44 [.sl c0_funcs.length (fl c0_funcs),iS c0_fuel,iS c0_deep,.own 1 0 c1.length]),(1,.row 3 (fl c1)),(2,.row 29 [.v (.slice none 0 0)]),(3,.row 46 [.er 48 91 0 c3])] 4 (by kernel_rfl) ?_
 refine wk_id ?_
 refine block_np ?_
 refine loop_sx (S:=Int×(List (List Deed))×Int×Int×Err×(List Int)×(List Int)) (fun a=>([(0,.ptr 0 0),(2,.ptr 2 0),(3,.ptr 3 0),(19,.sl (ix c0_funcs f).length (fl (ix c0_funcs f))),(20,iS (((ix c0_funcs f).length:Nat):Int)),(21,iS a.1)],[(0,.row 44 [.sl a.2.1.length (fl a.2.1),iS a.2.2.1,iS a.2.2.2.1,.own 4 0 a.2.2.2.2.2.1.length]),(1,.dead),(2,.row 29 [.own 5 0 a.2.2.2.2.2.2.length]),(3,.row 46 [.er 48 91 0 a.2.2.2.2.1]),(4,.row 3 (fl a.2.2.2.2.2.1)),(5,.row 3 (fl a.2.2.2.2.2.2))],6)) h (leSt_m [(0,0),(2,2),(3,3),(4,1)] [] (by simp only [push_cast,seval]) (by simp only [push_cast,seval]) rfl rfl rfl) ?_
 rintro ⟨t21q7,c0_funcs20,c0_fuel20,c0_deep20,c3q20,c4q19,c5q19⟩ o2 R2 h hr2 hn2 hx2 ht2
 try dsimp only at h hn2 ⊢
 unfold frame_player_body_1_l1 at h
 try dsimp only at h
 refine seq_np ?_
 refine reg_f ?_
 refine rk 1 ?_
 refine rf [(0,.ptr 0 0),(2,.ptr 2 0),(3,.ptr 3 0),(19,.sl (ix c0_funcs f).length (fl (ix c0_funcs f))),(20,iS (((ix c0_funcs f).length:Nat):Int)),(21,iS t21q7),(22,bS (decide (t21q7 < (((ix c0_funcs f).length:Nat):Int))))] [(0,.row 44 [.sl c0_funcs20.length (fl c0_funcs20),iS c0_fuel20,iS c0_deep20,.own 4 0 c4q19.length]),(1,.dead),(2,.row 29 [.own 5 0 c5q19.length]),(3,.row 46 [.er 48 91 0 c3q20]),(4,.row 3 (fl c4q19)),(5,.row 3 (fl c5q19))] 6 (by kernel_rfl) ?_
 refine wk_id ?_
 refine seq_np ?_
 refine cond_sx h (by kernel_rfl) (fun g2635 h=>?_) (fun g2635 h=>?_)
 ·refine wk_id ?_
  refine seq_np ?_
  refine block_np ?_
  refine chk_sx h (fun g2581 h=>?_)
  refine seq_np ?_
  refine reg_f ?_
  have k2580:0≤t21q7∧t21q7 < (((ix c0_funcs f).length:Nat):Int):=by first | simpa only [Bool.and_eq_true,decide_eq_true_eq,bne_iff_ne,ne_eq] using g2581 | (simp at g2581 ⊢; omega) | simp
  refine rs 4 [some ⟨.iptr (fl (ix c0_funcs f)) ((t21q7).toNat * 2),[],6,[]⟩,some ⟨.agg (Enc.cells (ix (ix c0_funcs f) t21q7)),[],6,[]⟩] _ (by kernel_rfl) (allP_cons (ob_ldw (ix c0_funcs f) t21q7 2 ((t21q7).toNat * 2) k2580 rfl (by first | rfl | omega) (Enc.cells (ix (ix c0_funcs f) t21q7)) rfl 6 []) (allP_cons (ob_ix_l (ix c0_funcs f) 2 6 t21q7 k2580) allP_nil)) ?_
  refine rf [(0,.ptr 0 0),(2,.ptr 2 0),(3,.ptr 3 0),(10,.ptr 6 0),(19,.sl (ix c0_funcs f).length (fl (ix c0_funcs f))),(20,iS (((ix c0_funcs f).length:Nat):Int)),(21,iS t21q7)] [(0,.row 44 [.sl c0_funcs20.length (fl c0_funcs20),iS c0_fuel20,iS c0_deep20,.own 4 0 c4q19.length]),(1,.dead),(2,.row 29 [.own 5 0 c5q19.length]),(3,.row 46 [.er 48 91 0 c3q20]),(4,.row 3 (fl c4q19)),(5,.row 3 (fl c5q19)),(6,.row 38 (Enc.cells (ix (ix c0_funcs f) t21q7)))] 7 (by kernel_rfl) ?_
  refine wk_id ?_
  refine seq_np ?_
  refine seq_np ?_
  refine reg_f ?_
  refine rk 5 ?_
  refine rf [(0,.ptr 0 0),(2,.ptr 2 0),(3,.ptr 3 0),(10,.ptr 6 0),(19,.sl (ix c0_funcs f).length (fl (ix c0_funcs f))),(20,iS (((ix c0_funcs f).length:Nat):Int)),(21,iS t21q7),(29,bS (c0_fuel20 == 0))] [(0,.row 44 [.sl c0_funcs20.length (fl c0_funcs20),iS c0_fuel20,iS c0_deep20,.own 4 0 c4q19.length]),(1,.dead),(2,.row 29 [.own 5 0 c5q19.length]),(3,.row 46 [.er 48 91 0 c3q20]),(4,.row 3 (fl c4q19)),(5,.row 3 (fl c5q19)),(6,.row 38 (Enc.cells (ix (ix c0_funcs f) t21q7)))] 7 (by kernel_rfl) ?_
  refine wk_id ?_
  refine cond_sx h (by kernel_rfl) (fun g2634 h=>?_) (fun g2634 h=>?_)
  ·refine seq_np ?_
   refine reg_f ?_
   refine rk 2 ?_
   refine rf [(8,.er 48 91 0 Err.tired)] [(0,.row 44 [.sl c0_funcs20.length (fl c0_funcs20),iS c0_fuel20,iS c0_deep20,.own 4 0 c4q19.length]),(1,.dead),(2,.row 29 [.own 5 0 c5q19.length]),(3,.row 46 [.er 48 91 0 c3q20]),(4,.row 3 (fl c4q19)),(5,.row 3 (fl c5q19)),(6,.row 38 (Enc.cells (ix (ix c0_funcs f) t21q7)))] 7 (by kernel_rfl) ?_
   refine wk_id ?_
   refine rt_cast ht2 ?_
   obtain ⟨r0,h,e0⟩:=map_sx h
   have e1:=hr2 r0 e0.symm
   subst r0
   obtain rfl:=Option.some.inj h
   refine ret_at (.er 48 91 0 Err.tired) (by kernel_rfl) ?_
   exact ret_e [(0,0),(2,2),(3,3),(4,4),(5,5)] [] (by simp only [push_cast,seval]) (by simp only [push_cast,seval]) rfl rfl rfl
  ·refine wk_id ?_
   refine seq_np ?_
   refine reg_f ?_
   refine rk 8 ?_
   refine rf [(0,.ptr 0 0),(2,.ptr 2 0),(3,.ptr 3 0),(10,.ptr 6 0),(19,.sl (ix c0_funcs f).length (fl (ix c0_funcs f))),(20,iS (((ix c0_funcs f).length:Nat):Int)),(21,iS t21q7)] [(0,.row 44 [.sl c0_funcs20.length (fl c0_funcs20),iS (IntKind.i64.wrap (c0_fuel20 - 1)),iS c0_deep20,.own 4 0 c4q19.length]),(1,.dead),(2,.row 29 [.own 5 0 c5q19.length]),(3,.row 46 [.er 48 91 0 c3q20]),(4,.row 3 (fl c4q19)),(5,.row 3 (fl c5q19)),(6,.row 38 (Enc.cells (ix (ix c0_funcs f) t21q7)))] 7 (by kernel_rfl) ?_
   refine wk_id ?_
   refine seq_np ?_
   refine reg_f ?_
   refine rk 2 ?_
   refine rf [(0,.ptr 0 0),(2,.ptr 2 0),(3,.ptr 3 0),(10,.ptr 6 0),(19,.sl (ix c0_funcs f).length (fl (ix c0_funcs f))),(20,iS (((ix c0_funcs f).length:Nat):Int)),(21,iS t21q7),(39,iS (ix (ix c0_funcs f) t21q7).Op)] [(0,.row 44 [.sl c0_funcs20.length (fl c0_funcs20),iS (IntKind.i64.wrap (c0_fuel20 - 1)),iS c0_deep20,.own 4 0 c4q19.length]),(1,.dead),(2,.row 29 [.own 5 0 c5q19.length]),(3,.row 46 [.er 48 91 0 c3q20]),(4,.row 3 (fl c4q19)),(5,.row 3 (fl c5q19)),(6,.row 38 (Enc.cells (ix (ix c0_funcs f) t21q7)))] 7 (by kernel_rfl) ?_
   refine wk_id ?_
   refine block_cut (A:=(List (List Deed))×Int×Int×Err×(List Int)×(List Int)) (fun a=>([(0,.ptr 0 0),(2,.ptr 2 0),(3,.ptr 3 0),(19,.sl (ix c0_funcs f).length (fl (ix c0_funcs f))),(20,iS (((ix c0_funcs f).length:Nat):Int)),(21,iS t21q7)],[(0,.row 44 [.sl a.1.length (fl a.1),iS a.2.1,iS a.2.2.1,.own 4 0 a.2.2.2.2.1.length]),(1,.dead),(2,.row 29 [.own 5 0 a.2.2.2.2.2.length]),(3,.row 46 [.er 48 91 0 a.2.2.2.1]),(4,.row 3 (fl a.2.2.2.2.1)),(5,.row 3 (fl a.2.2.2.2.2))],6)) (fun a=>(frame_player_body_1_j1 f c0_funcs t21q7 a.1 a.2.1 a.2.2.1 a.2.2.2.1 a.2.2.2.2.1 a.2.2.2.2.2) = some o2) (fun K2603 hK2603=>?_) ?_
   ·refine seq_np ?_
    refine reg_f ?_
    refine rk 2 ?_
    refine rf [(0,.ptr 0 0),(2,.ptr 2 0),(3,.ptr 3 0),(10,.ptr 6 0),(19,.sl (ix c0_funcs f).length (fl (ix c0_funcs f))),(20,iS (((ix c0_funcs f).length:Nat):Int)),(21,iS t21q7),(39,iS (ix (ix c0_funcs f) t21q7).Op),(40,bS ((ix (ix c0_funcs f) t21q7).Op == 1))] [(0,.row 44 [.sl c0_funcs20.length (fl c0_funcs20),iS (IntKind.i64.wrap (c0_fuel20 - 1)),iS c0_deep20,.own 4 0 c4q19.length]),(1,.dead),(2,.row 29 [.own 5 0 c5q19.length]),(3,.row 46 [.er 48 91 0 c3q20]),(4,.row 3 (fl c4q19)),(5,.row 3 (fl c5q19)),(6,.row 38 (Enc.cells (ix (ix c0_funcs f) t21q7)))] 7 (by kernel_rfl) ?_
    refine wk_id ?_
    refine cond_sx h (by kernel_rfl) (fun g2633 h=>?_) (fun g2633 h=>?_)
    ·refine seq_np ?_
     refine reg_f ?_
     refine rk 3 ?_
     obtain ⟨r2605,hr2605,h⟩:=bind_sx h
     refine call_x (ih (ix (ix c0_funcs f) t21q7).A c0_funcs20 (IntKind.i64.wrap (c0_fuel20 - 1)) c0_deep20 c4q19 r2605 hr2605) (args:=[.ptr 0 0,iS (ix (ix c0_funcs f) t21q7).A,.v (.pointer none)]) (dst:=(some 45)) (by kernel_rfl) [(0,.row 44 [.sl c0_funcs20.length (fl c0_funcs20),iS (IntKind.i64.wrap (c0_fuel20 - 1)),iS c0_deep20,.own 4 0 c4q19.length]),(1,.dead),(2,.row 29 [.own 5 0 c5q19.length]),(3,.row 46 [.er 48 91 0 c3q20]),(4,.row 3 (fl c4q19)),(5,.row 3 (fl c5q19)),(6,.row 38 (Enc.cells (ix (ix c0_funcs f) t21q7)))] 7 (by kernel_rfl) [(0,0),(1,4)] [] (.er 48 91 0 r2605.1) [(0,.row 44 [.sl r2605.2.1.length (fl r2605.2.1),iS r2605.2.2.1,iS r2605.2.2.2.1,.own 9 0 r2605.2.2.2.2.length]),(4,.dead),(9,.row 3 (fl r2605.2.2.2.2)),(0,.dead),(4,.dead)] (by simp only [push_cast,seval]) (by simp only [push_cast,seval]) (by kernel_rfl) (.inl rfl) (by simp only [push_cast,seval]) (by simp only [push_cast,seval]) ?_
     refine rk 1 ?_
     refine rf [(0,.ptr 0 0),(2,.ptr 2 0),(3,.ptr 3 0),(11,.er 48 91 0 r2605.1),(19,.sl (ix c0_funcs f).length (fl (ix c0_funcs f))),(20,iS (((ix c0_funcs f).length:Nat):Int)),(21,iS t21q7)] [(0,.row 44 [.sl r2605.2.1.length (fl r2605.2.1),iS r2605.2.2.1,iS r2605.2.2.2.1,.own 9 0 r2605.2.2.2.2.length]),(1,.dead),(2,.row 29 [.own 5 0 c5q19.length]),(3,.row 46 [.er 48 91 0 c3q20]),(4,.dead),(5,.row 3 (fl c5q19)),(6,.row 38 (Enc.cells (ix (ix c0_funcs f) t21q7))),(9,.row 3 (fl r2605.2.2.2.2))] 10 (by kernel_rfl) ?_
     refine wk_id ?_
     refine seq_np ?_
     refine reg_f ?_
     refine rk 2 ?_
     refine rf [(0,.ptr 0 0),(2,.ptr 2 0),(3,.ptr 3 0),(11,.er 48 91 0 r2605.1),(19,.sl (ix c0_funcs f).length (fl (ix c0_funcs f))),(20,iS (((ix c0_funcs f).length:Nat):Int)),(21,iS t21q7),(47,bS (!decide (r2605.1 = Err.nil)))] [(0,.row 44 [.sl r2605.2.1.length (fl r2605.2.1),iS r2605.2.2.1,iS r2605.2.2.2.1,.own 9 0 r2605.2.2.2.2.length]),(1,.dead),(2,.row 29 [.own 5 0 c5q19.length]),(3,.row 46 [.er 48 91 0 c3q20]),(4,.dead),(5,.row 3 (fl c5q19)),(6,.row 38 (Enc.cells (ix (ix c0_funcs f) t21q7))),(9,.row 3 (fl r2605.2.2.2.2))] 10 (by kernel_rfl) ?_
     refine wk_id ?_
     refine cond_sx h (by kernel_rfl) (fun g2606 h=>?_) (fun g2606 h=>?_)
     ·refine seq_np ?_
      refine reg_f ?_
      refine rk 2 ?_
      refine rf [(8,.er 48 91 0 r2605.1)] [(0,.row 44 [.sl r2605.2.1.length (fl r2605.2.1),iS r2605.2.2.1,iS r2605.2.2.2.1,.own 9 0 r2605.2.2.2.2.length]),(1,.dead),(2,.row 29 [.own 5 0 c5q19.length]),(3,.row 46 [.er 48 91 0 c3q20]),(4,.dead),(5,.row 3 (fl c5q19)),(6,.row 38 (Enc.cells (ix (ix c0_funcs f) t21q7))),(9,.row 3 (fl r2605.2.2.2.2))] 10 (by kernel_rfl) ?_
      refine wk_id ?_
      refine rt_cast ht2 ?_
      obtain ⟨r0,h,e0⟩:=map_sx h
      have e1:=hr2 r0 e0.symm
      subst r0
      obtain rfl:=Option.some.inj h
      refine ret_at (.er 48 91 0 r2605.1) (by kernel_rfl) ?_
      exact ret_e [(0,0),(2,2),(3,3),(4,9),(5,5)] [] (by simp only [push_cast,seval]) (by simp only [push_cast,seval]) rfl rfl rfl
     ·exact hK2603 (r2605.2.1,r2605.2.2.1,r2605.2.2.2.1,c3q20,r2605.2.2.2.2,c5q19) _ _ _ h (leSt_m [(0,0),(2,2),(3,3),(4,9),(5,5)] [] (by simp only [push_cast,seval]) (by simp only [push_cast,seval]) rfl rfl rfl)
    ·refine seq_np ?_
     refine reg_f ?_
     refine rk 2 ?_
     refine rf [(0,.ptr 0 0),(2,.ptr 2 0),(3,.ptr 3 0),(10,.ptr 6 0),(19,.sl (ix c0_funcs f).length (fl (ix c0_funcs f))),(20,iS (((ix c0_funcs f).length:Nat):Int)),(21,iS t21q7),(39,iS (ix (ix c0_funcs f) t21q7).Op),(49,bS ((ix (ix c0_funcs f) t21q7).Op == 2))] [(0,.row 44 [.sl c0_funcs20.length (fl c0_funcs20),iS (IntKind.i64.wrap (c0_fuel20 - 1)),iS c0_deep20,.own 4 0 c4q19.length]),(1,.dead),(2,.row 29 [.own 5 0 c5q19.length]),(3,.row 46 [.er 48 91 0 c3q20]),(4,.row 3 (fl c4q19)),(5,.row 3 (fl c5q19)),(6,.row 38 (Enc.cells (ix (ix c0_funcs f) t21q7)))] 7 (by kernel_rfl) ?_
     refine wk_id ?_
     refine cond_sx h (by kernel_rfl) (fun g2632 h=>?_) (fun g2632 h=>?_)
     ·refine chk_sx h (fun g2610 h=>?_)
      refine reg_t ?_
      have k2609:(c5q19++([(ix (ix c0_funcs f) t21q7).A]:List Int)).length * 8≤140737488355328:=by first | simpa only [Bool.and_eq_true,decide_eq_true_eq,bne_iff_ne,ne_eq] using g2610 | (simp at g2610 ⊢; omega) | simp
      refine rs 10 [none,none,none,none,none,none,none,some ⟨.own 15 0 (c5q19++([(ix (ix c0_funcs f) t21q7).A]:List Int)).length,[(15,.row 3 (fl (c5q19++([(ix (ix c0_funcs f) t21q7).A]:List Int)))),(5,.dead)],16,[5,13]⟩] _ (by kernel_rfl) (allP_cons (ob_app (P:=Tryd.prog) c5q19 ([(ix (ix c0_funcs f) t21q7).A]:List Int) 1 8 rfl (appCells (fl ([(ix (ix c0_funcs f) t21q7).A]:List Int)) 0 (([(ix (ix c0_funcs f) t21q7).A]:List Int).length * 1)) ([(ix (ix c0_funcs f) t21q7).A]:List Int).length (app_own ([(ix (ix c0_funcs f) t21q7).A]:List Int) 1 rfl) rfl (0+([(ix (ix c0_funcs f) t21q7).A]:List Int).length * 1≤(fl ([(ix (ix c0_funcs f) t21q7).A]:List Int)).length) (app_own_le ([(ix (ix c0_funcs f) t21q7).A]:List Int) 1 rfl) 3 (by kernel_rfl) (by decide) k2609 5 15 [13]) allP_nil) ?_
      refine rt [(0,.ptr 0 0),(2,.ptr 2 0),(3,.ptr 3 0),(19,.sl (ix c0_funcs f).length (fl (ix c0_funcs f))),(20,iS (((ix c0_funcs f).length:Nat):Int)),(21,iS t21q7)] [(0,.row 44 [.sl c0_funcs20.length (fl c0_funcs20),iS (IntKind.i64.wrap (c0_fuel20 - 1)),iS c0_deep20,.own 4 0 c4q19.length]),(1,.dead),(2,.row 29 [.own 15 0 (c5q19++([(ix (ix c0_funcs f) t21q7).A]:List Int)).length]),(3,.row 46 [.er 48 91 0 c3q20]),(4,.row 3 (fl c4q19)),(5,.dead),(6,.row 38 (Enc.cells (ix (ix c0_funcs f) t21q7))),(13,.row 3 (fl ([(ix (ix c0_funcs f) t21q7).A]:List Int))),(15,.row 3 (fl (c5q19++([(ix (ix c0_funcs f) t21q7).A]:List Int))))] 19 follows (by kernel_rfl) ?_
      exact hK2603 (c0_funcs20,(IntKind.i64.wrap (c0_fuel20 - 1)),c0_deep20,c3q20,c4q19,(c5q19++([(ix (ix c0_funcs f) t21q7).A]:List Int))) _ _ _ h (leSt_m [(0,0),(2,2),(3,3),(4,4),(5,15)] [] (by simp only [push_cast,seval]) (by simp only [push_cast,seval]) rfl rfl rfl)
     ·refine seq_np ?_
      refine reg_f ?_
      refine rk 2 ?_
      refine rf [(0,.ptr 0 0),(2,.ptr 2 0),(3,.ptr 3 0),(10,.ptr 6 0),(19,.sl (ix c0_funcs f).length (fl (ix c0_funcs f))),(20,iS (((ix c0_funcs f).length:Nat):Int)),(21,iS t21q7),(39,iS (ix (ix c0_funcs f) t21q7).Op),(60,bS ((ix (ix c0_funcs f) t21q7).Op == 3))] [(0,.row 44 [.sl c0_funcs20.length (fl c0_funcs20),iS (IntKind.i64.wrap (c0_fuel20 - 1)),iS c0_deep20,.own 4 0 c4q19.length]),(1,.dead),(2,.row 29 [.own 5 0 c5q19.length]),(3,.row 46 [.er 48 91 0 c3q20]),(4,.row 3 (fl c4q19)),(5,.row 3 (fl c5q19)),(6,.row 38 (Enc.cells (ix (ix c0_funcs f) t21q7)))] 7 (by kernel_rfl) ?_
      refine wk_id ?_
      refine cond_sx h (by kernel_rfl) (fun g2631 h=>?_) (fun g2631 h=>?_)
      ·refine seq_np ?_
       refine reg_f ?_
       refine rk 6 ?_
       refine rf [(8,.ifc 48 (.ptr 7 0))] [(0,.row 44 [.sl c0_funcs20.length (fl c0_funcs20),iS (IntKind.i64.wrap (c0_fuel20 - 1)),iS c0_deep20,.own 4 0 c4q19.length]),(1,.dead),(2,.row 29 [.own 5 0 c5q19.length]),(3,.row 46 [.er 48 91 0 c3q20]),(4,.row 3 (fl c4q19)),(5,.row 3 (fl c5q19)),(6,.row 38 (Enc.cells (ix (ix c0_funcs f) t21q7))),(7,.row 53 [iS (ix (ix c0_funcs f) t21q7).A])] 8 (by kernel_rfl) ?_
       refine wk_id ?_
       refine rt_cast ht2 ?_
       obtain ⟨r0,h,e0⟩:=map_sx h
       have e1:=hr2 r0 e0.symm
       subst r0
       obtain rfl:=Option.some.inj h
       refine ret_at (.ifc 48 (.ptr 7 0)) (by kernel_rfl) ?_
       exact ret_e [(0,0),(2,2),(3,3),(4,4),(5,5)] [7] (by simp only [leS_frz,leS_cut,push_cast,seval]) (by simp only [leS_frz,leS_cut,push_cast,seval]) rfl rfl rfl
      ·refine seq_np ?_
       refine reg_f ?_
       refine rk 2 ?_
       refine rf [(0,.ptr 0 0),(2,.ptr 2 0),(3,.ptr 3 0),(10,.ptr 6 0),(19,.sl (ix c0_funcs f).length (fl (ix c0_funcs f))),(20,iS (((ix c0_funcs f).length:Nat):Int)),(21,iS t21q7),(39,iS (ix (ix c0_funcs f) t21q7).Op),(67,bS ((ix (ix c0_funcs f) t21q7).Op == 4))] [(0,.row 44 [.sl c0_funcs20.length (fl c0_funcs20),iS (IntKind.i64.wrap (c0_fuel20 - 1)),iS c0_deep20,.own 4 0 c4q19.length]),(1,.dead),(2,.row 29 [.own 5 0 c5q19.length]),(3,.row 46 [.er 48 91 0 c3q20]),(4,.row 3 (fl c4q19)),(5,.row 3 (fl c5q19)),(6,.row 38 (Enc.cells (ix (ix c0_funcs f) t21q7)))] 7 (by kernel_rfl) ?_
       refine wk_id ?_
       refine cond_sx h (by kernel_rfl) (fun g2630 h=>?_) (fun g2630 h=>?_)
       ·refine seq_np ?_
        refine reg_f ?_
        refine rk 1 ?_
        refine rf [(0,.ptr 0 0),(2,.ptr 2 0),(3,.ptr 3 0),(12,.ptr 7 0),(19,.sl (ix c0_funcs f).length (fl (ix c0_funcs f))),(20,iS (((ix c0_funcs f).length:Nat):Int)),(21,iS t21q7)] [(0,.row 44 [.sl c0_funcs20.length (fl c0_funcs20),iS (IntKind.i64.wrap (c0_fuel20 - 1)),iS c0_deep20,.own 4 0 c4q19.length]),(1,.dead),(2,.row 29 [.own 5 0 c5q19.length]),(3,.row 46 [.er 48 91 0 c3q20]),(4,.row 3 (fl c4q19)),(5,.row 3 (fl c5q19)),(6,.row 38 (Enc.cells (ix (ix c0_funcs f) t21q7))),(7,.row 48 [.v (.pointer none)])] 8 (by kernel_rfl) ?_
        refine wk_id ?_
        refine bsplit_sx h (fun g2611 h=>?_) (fun g2611 h=>?_)
        ·refine seq_np ?_
         refine reg_f ?_
         refine rk 7 ?_
         obtain ⟨r2613,hr2613,h⟩:=bind_sx h
         refine call_x (errors_As_spec c3q20 g2611 r2613 hr2613) (args:=[.er 48 91 0 c3q20,.ifc 51 (.ptr 7 0)]) (dst:=(some 76)) (by kernel_rfl) [(0,.row 44 [.sl c0_funcs20.length (fl c0_funcs20),iS (IntKind.i64.wrap (c0_fuel20 - 1)),iS c0_deep20,.own 4 0 c4q19.length]),(1,.dead),(2,.row 29 [.own 5 0 c5q19.length]),(3,.row 46 [.er 48 91 0 c3q20]),(4,.row 3 (fl c4q19)),(5,.row 3 (fl c5q19)),(6,.row 38 (Enc.cells (ix (ix c0_funcs f) t21q7))),(7,.row 48 [.v (.pointer none)])] 8 (by kernel_rfl) [(0,7)] [] (bS true) [(7,.row 48 [.iptr [iS (Err.val c3q20)] 0]),(7,.dead)] (by simp only [push_cast,seval]) (by simp only [push_cast,seval]) (by kernel_rfl) (.inl rfl) (by simp only [push_cast,seval]) (by simp only [push_cast,seval]) ?_
         refine rk 1 ?_
         refine rf [(0,.ptr 0 0),(2,.ptr 2 0),(3,.ptr 3 0),(12,.ptr 7 0),(19,.sl (ix c0_funcs f).length (fl (ix c0_funcs f))),(20,iS (((ix c0_funcs f).length:Nat):Int)),(21,iS t21q7),(77,bS true)] [(0,.row 44 [.sl c0_funcs20.length (fl c0_funcs20),iS (IntKind.i64.wrap (c0_fuel20 - 1)),iS c0_deep20,.own 4 0 c4q19.length]),(1,.dead),(2,.row 29 [.own 5 0 c5q19.length]),(3,.row 46 [.er 48 91 0 c3q20]),(4,.row 3 (fl c4q19)),(5,.row 3 (fl c5q19)),(6,.row 38 (Enc.cells (ix (ix c0_funcs f) t21q7))),(7,.row 48 [.iptr [iS (Err.val c3q20)] 0])] 9 (by kernel_rfl) ?_
         refine wk_id ?_
         refine cond_t (by kernel_rfl) ?_
         refine chk_sx h (fun g2617 h=>?_)
         refine seq_np ?_
         refine reg_t ?_
         have k2616:(c4q19++([(Err.val c3q20)]:List Int)).length * 8≤140737488355328:=by first | simpa only [Bool.and_eq_true,decide_eq_true_eq,bne_iff_ne,ne_eq] using g2617 | (simp at g2617 ⊢; omega) | simp
         refine rs 14 [none,none,none,none,none,none,none,none,none,none,some ⟨.own 20 0 (c4q19++([(Err.val c3q20)]:List Int)).length,[(20,.row 3 (fl (c4q19++([(Err.val c3q20)]:List Int)))),(4,.dead)],21,[4,18]⟩] _ (by kernel_rfl) (allP_cons (ob_app (P:=Tryd.prog) c4q19 ([(Err.val c3q20)]:List Int) 1 8 rfl (appCells (fl ([(Err.val c3q20)]:List Int)) 0 (([(Err.val c3q20)]:List Int).length * 1)) ([(Err.val c3q20)]:List Int).length (app_own ([(Err.val c3q20)]:List Int) 1 rfl) rfl (0+([(Err.val c3q20)]:List Int).length * 1≤(fl ([(Err.val c3q20)]:List Int)).length) (app_own_le ([(Err.val c3q20)]:List Int) 1 rfl) 3 (by kernel_rfl) (by decide) k2616 4 20 [18]) allP_nil) ?_
         refine rt [(0,.ptr 0 0),(2,.ptr 2 0),(3,.ptr 3 0),(19,.sl (ix c0_funcs f).length (fl (ix c0_funcs f))),(20,iS (((ix c0_funcs f).length:Nat):Int)),(21,iS t21q7)] [(0,.row 44 [.sl c0_funcs20.length (fl c0_funcs20),iS (IntKind.i64.wrap (c0_fuel20 - 1)),iS c0_deep20,.own 20 0 (c4q19++([(Err.val c3q20)]:List Int)).length]),(1,.dead),(2,.row 29 [.own 5 0 c5q19.length]),(3,.row 46 [.er 48 91 0 c3q20]),(4,.dead),(5,.row 3 (fl c5q19)),(6,.row 38 (Enc.cells (ix (ix c0_funcs f) t21q7))),(7,.row 48 [.iptr [iS (Err.val c3q20)] 0]),(18,.row 3 (fl ([(Err.val c3q20)]:List Int))),(20,.row 3 (fl (c4q19++([(Err.val c3q20)]:List Int))))] 25 follows (by kernel_rfl) ?_
         refine wk_id ?_
         refine reg_f ?_
         refine rk 3 ?_
         refine rf [(0,.ptr 0 0),(2,.ptr 2 0),(3,.ptr 3 0),(19,.sl (ix c0_funcs f).length (fl (ix c0_funcs f))),(20,iS (((ix c0_funcs f).length:Nat):Int)),(21,iS t21q7)] [(0,.row 44 [.sl c0_funcs20.length (fl c0_funcs20),iS (IntKind.i64.wrap (c0_fuel20 - 1)),iS c0_deep20,.own 20 0 (c4q19++([(Err.val c3q20)]:List Int)).length]),(1,.dead),(2,.row 29 [.own 5 0 c5q19.length]),(3,.row 46 [.v .nilIface]),(4,.dead),(5,.row 3 (fl c5q19)),(6,.row 38 (Enc.cells (ix (ix c0_funcs f) t21q7))),(7,.row 48 [.iptr [iS (Err.val c3q20)] 0]),(18,.row 3 (fl ([(Err.val c3q20)]:List Int))),(20,.row 3 (fl (c4q19++([(Err.val c3q20)]:List Int))))] 25 (by kernel_rfl) ?_
         exact hK2603 (c0_funcs20,(IntKind.i64.wrap (c0_fuel20 - 1)),c0_deep20,Err.nil,(c4q19++([(Err.val c3q20)]:List Int)),c5q19) _ _ _ h (leSt_m [(0,0),(2,2),(3,3),(4,20),(5,5)] [] (by simp only [push_cast,seval]) (by simp only [push_cast,seval]) rfl rfl rfl)
        ·refine seq_np ?_
         refine reg_f ?_
         refine rk 7 ?_
         obtain ⟨r2619,hr2619,h⟩:=bind_sx h
         refine call_x (errors_As_1_spec c3q20 g2611 r2619 hr2619) (args:=[.er 48 91 0 c3q20,.ifc 51 (.ptr 7 0)]) (dst:=(some 76)) (by kernel_rfl) [(0,.row 44 [.sl c0_funcs20.length (fl c0_funcs20),iS (IntKind.i64.wrap (c0_fuel20 - 1)),iS c0_deep20,.own 4 0 c4q19.length]),(1,.dead),(2,.row 29 [.own 5 0 c5q19.length]),(3,.row 46 [.er 48 91 0 c3q20]),(4,.row 3 (fl c4q19)),(5,.row 3 (fl c5q19)),(6,.row 38 (Enc.cells (ix (ix c0_funcs f) t21q7))),(7,.row 48 [.v (.pointer none)])] 8 (by kernel_rfl) [(0,7)] [] (bS false) [(7,.row 48 [.v (.pointer none)]),(7,.dead)] (by simp only [push_cast,seval]) (by simp only [push_cast,seval]) (by kernel_rfl) (.inl rfl) (by simp only [push_cast,seval]) (by simp only [push_cast,seval]) ?_
         refine rk 1 ?_
         refine rf [(0,.ptr 0 0),(2,.ptr 2 0),(3,.ptr 3 0),(12,.ptr 7 0),(19,.sl (ix c0_funcs f).length (fl (ix c0_funcs f))),(20,iS (((ix c0_funcs f).length:Nat):Int)),(21,iS t21q7),(77,bS false)] [(0,.row 44 [.sl c0_funcs20.length (fl c0_funcs20),iS (IntKind.i64.wrap (c0_fuel20 - 1)),iS c0_deep20,.own 4 0 c4q19.length]),(1,.dead),(2,.row 29 [.own 5 0 c5q19.length]),(3,.row 46 [.er 48 91 0 c3q20]),(4,.row 3 (fl c4q19)),(5,.row 3 (fl c5q19)),(6,.row 38 (Enc.cells (ix (ix c0_funcs f) t21q7))),(7,.row 48 [.v (.pointer none)])] 9 (by kernel_rfl) ?_
         refine wk_id ?_
         refine cond_f (by kernel_rfl) ?_
         refine chk_sx h (fun g2623 h=>?_)
         refine reg_f ?_
         have k2622:(c4q19++([(-1)]:List Int)).length * 8≤140737488355328:=by first | simpa only [Bool.and_eq_true,decide_eq_true_eq,bne_iff_ne,ne_eq] using g2623 | (simp at g2623 ⊢; omega) | simp
         refine rs 10 [none,none,none,none,none,none,some ⟨.own 10 0 (c4q19++([(-1)]:List Int)).length,[(10,.row 3 (fl (c4q19++([(-1)]:List Int)))),(4,.dead)],11,[4,9]⟩] _ (by kernel_rfl) (allP_cons (ob_app (P:=Tryd.prog) c4q19 ([(-1)]:List Int) 1 8 rfl (appCells (fl ([(-1)]:List Int)) 0 (([(-1)]:List Int).length * 1)) ([(-1)]:List Int).length (app_own ([(-1)]:List Int) 1 rfl) rfl (0+([(-1)]:List Int).length * 1≤(fl ([(-1)]:List Int)).length) (app_own_le ([(-1)]:List Int) 1 rfl) 3 (by kernel_rfl) (by decide) k2622 4 10 [9]) allP_nil) ?_
         refine rf [(0,.ptr 0 0),(2,.ptr 2 0),(3,.ptr 3 0),(19,.sl (ix c0_funcs f).length (fl (ix c0_funcs f))),(20,iS (((ix c0_funcs f).length:Nat):Int)),(21,iS t21q7)] [(0,.row 44 [.sl c0_funcs20.length (fl c0_funcs20),iS (IntKind.i64.wrap (c0_fuel20 - 1)),iS c0_deep20,.own 10 0 (c4q19++([(-1)]:List Int)).length]),(1,.dead),(2,.row 29 [.own 5 0 c5q19.length]),(3,.row 46 [.er 48 91 0 c3q20]),(4,.dead),(5,.row 3 (fl c5q19)),(6,.row 38 (Enc.cells (ix (ix c0_funcs f) t21q7))),(7,.row 48 [.v (.pointer none)]),(9,.row 3 (fl ([(-1)]:List Int))),(10,.row 3 (fl (c4q19++([(-1)]:List Int))))] 11 (by kernel_rfl) ?_
         exact hK2603 (c0_funcs20,(IntKind.i64.wrap (c0_fuel20 - 1)),c0_deep20,c3q20,(c4q19++([(-1)]:List Int)),c5q19) _ _ _ h (leSt_m [(0,0),(2,2),(3,3),(4,10),(5,5)] [] (by simp only [push_cast,seval]) (by simp only [push_cast,seval]) rfl rfl rfl)
       ·refine seq_np ?_
        refine reg_f ?_
        refine rk 2 ?_
        refine rf [(0,.ptr 0 0),(2,.ptr 2 0),(3,.ptr 3 0),(10,.ptr 6 0),(19,.sl (ix c0_funcs f).length (fl (ix c0_funcs f))),(20,iS (((ix c0_funcs f).length:Nat):Int)),(21,iS t21q7),(39,iS (ix (ix c0_funcs f) t21q7).Op),(102,bS ((ix (ix c0_funcs f) t21q7).Op == 5))] [(0,.row 44 [.sl c0_funcs20.length (fl c0_funcs20),iS (IntKind.i64.wrap (c0_fuel20 - 1)),iS c0_deep20,.own 4 0 c4q19.length]),(1,.dead),(2,.row 29 [.own 5 0 c5q19.length]),(3,.row 46 [.er 48 91 0 c3q20]),(4,.row 3 (fl c4q19)),(5,.row 3 (fl c5q19)),(6,.row 38 (Enc.cells (ix (ix c0_funcs f) t21q7)))] 7 (by kernel_rfl) ?_
        refine wk_id ?_
        refine cond_sx h (by kernel_rfl) (fun g2629 h=>?_) (fun g2629 h=>?_)
        ·refine chk_sx h (fun g2627 h=>?_)
         refine reg_t ?_
         have k2626:(c4q19++([(ix (ix c0_funcs f) t21q7).A]:List Int)).length * 8≤140737488355328:=by first | simpa only [Bool.and_eq_true,decide_eq_true_eq,bne_iff_ne,ne_eq] using g2627 | (simp at g2627 ⊢; omega) | simp
         refine rs 12 [none,none,none,none,none,none,none,none,some ⟨.own 16 0 (c4q19++([(ix (ix c0_funcs f) t21q7).A]:List Int)).length,[(16,.row 3 (fl (c4q19++([(ix (ix c0_funcs f) t21q7).A]:List Int)))),(4,.dead)],17,[4,14]⟩] _ (by kernel_rfl) (allP_cons (ob_app (P:=Tryd.prog) c4q19 ([(ix (ix c0_funcs f) t21q7).A]:List Int) 1 8 rfl (appCells (fl ([(ix (ix c0_funcs f) t21q7).A]:List Int)) 0 (([(ix (ix c0_funcs f) t21q7).A]:List Int).length * 1)) ([(ix (ix c0_funcs f) t21q7).A]:List Int).length (app_own ([(ix (ix c0_funcs f) t21q7).A]:List Int) 1 rfl) rfl (0+([(ix (ix c0_funcs f) t21q7).A]:List Int).length * 1≤(fl ([(ix (ix c0_funcs f) t21q7).A]:List Int)).length) (app_own_le ([(ix (ix c0_funcs f) t21q7).A]:List Int) 1 rfl) 3 (by kernel_rfl) (by decide) k2626 4 16 [14]) allP_nil) ?_
         refine rt [(0,.ptr 0 0),(2,.ptr 2 0),(3,.ptr 3 0),(19,.sl (ix c0_funcs f).length (fl (ix c0_funcs f))),(20,iS (((ix c0_funcs f).length:Nat):Int)),(21,iS t21q7)] [(0,.row 44 [.sl c0_funcs20.length (fl c0_funcs20),iS (IntKind.i64.wrap (c0_fuel20 - 1)),iS c0_deep20,.own 16 0 (c4q19++([(ix (ix c0_funcs f) t21q7).A]:List Int)).length]),(1,.dead),(2,.row 29 [.own 5 0 c5q19.length]),(3,.row 46 [.er 48 91 0 c3q20]),(4,.dead),(5,.row 3 (fl c5q19)),(6,.row 38 (Enc.cells (ix (ix c0_funcs f) t21q7))),(14,.row 3 (fl ([(ix (ix c0_funcs f) t21q7).A]:List Int))),(16,.row 3 (fl (c4q19++([(ix (ix c0_funcs f) t21q7).A]:List Int))))] 21 follows (by kernel_rfl) ?_
         exact hK2603 (c0_funcs20,(IntKind.i64.wrap (c0_fuel20 - 1)),c0_deep20,c3q20,(c4q19++([(ix (ix c0_funcs f) t21q7).A]:List Int)),c5q19) _ _ _ h (leSt_m [(0,0),(2,2),(3,3),(4,16),(5,5)] [] (by simp only [push_cast,seval]) (by simp only [push_cast,seval]) rfl rfl rfl)
        ·refine seq_np ?_
         refine reg_f ?_
         refine rk 2 ?_
         refine rf [(0,.ptr 0 0),(2,.ptr 2 0),(3,.ptr 3 0),(19,.sl (ix c0_funcs f).length (fl (ix c0_funcs f))),(20,iS (((ix c0_funcs f).length:Nat):Int)),(21,iS t21q7),(115,bS ((ix (ix c0_funcs f) t21q7).Op == 6))] [(0,.row 44 [.sl c0_funcs20.length (fl c0_funcs20),iS (IntKind.i64.wrap (c0_fuel20 - 1)),iS c0_deep20,.own 4 0 c4q19.length]),(1,.dead),(2,.row 29 [.own 5 0 c5q19.length]),(3,.row 46 [.er 48 91 0 c3q20]),(4,.row 3 (fl c4q19)),(5,.row 3 (fl c5q19)),(6,.row 38 (Enc.cells (ix (ix c0_funcs f) t21q7)))] 7 (by kernel_rfl) ?_
         refine wk_id ?_
         refine cond_sx h (by kernel_rfl) (fun g2628 h=>?_) (fun g2628 h=>?_)
         ·refine seq_np ?_
          refine reg_f ?_
          refine rk 1 ?_
          refine rf [(8,.v .nilIface)] [(0,.row 44 [.sl c0_funcs20.length (fl c0_funcs20),iS (IntKind.i64.wrap (c0_fuel20 - 1)),iS c0_deep20,.own 4 0 c4q19.length]),(1,.dead),(2,.row 29 [.own 5 0 c5q19.length]),(3,.row 46 [.er 48 91 0 c3q20]),(4,.row 3 (fl c4q19)),(5,.row 3 (fl c5q19)),(6,.row 38 (Enc.cells (ix (ix c0_funcs f) t21q7)))] 7 (by kernel_rfl) ?_
          refine wk_id ?_
          refine rt_cast ht2 ?_
          obtain ⟨r0,h,e0⟩:=map_sx h
          have e1:=hr2 r0 e0.symm
          subst r0
          obtain rfl:=Option.some.inj h
          refine ret_at (.v .nilIface) (by kernel_rfl) ?_
          exact ret_e [(0,0),(2,2),(3,3),(4,4),(5,5)] [] (by simp only [push_cast,seval]) (by simp only [push_cast,seval]) rfl rfl rfl
         ·exact hK2603 (c0_funcs20,(IntKind.i64.wrap (c0_fuel20 - 1)),c0_deep20,c3q20,c4q19,c5q19) _ _ _ h (leSt_m [(0,0),(2,2),(3,3),(4,4),(5,5)] [] (by simp only [push_cast,seval]) (by simp only [push_cast,seval]) rfl rfl rfl)
   ·rintro ⟨c0_funcs23,c0_fuel23,c0_deep23,c3q23,c4q22,c5q22⟩ h
    try dsimp only at h ⊢
    unfold frame_player_body_1_j1 at h
    refine wk_id ?_
    refine wk_id ?_
    refine reg_f ?_
    refine rk 2 ?_
    refine rf [(0,.ptr 0 0),(2,.ptr 2 0),(3,.ptr 3 0),(19,.sl (ix c0_funcs f).length (fl (ix c0_funcs f))),(20,iS (((ix c0_funcs f).length:Nat):Int)),(21,iS (IntKind.i64.wrap (t21q7+1)))] [(0,.row 44 [.sl c0_funcs23.length (fl c0_funcs23),iS c0_fuel23,iS c0_deep23,.own 4 0 c4q22.length]),(1,.dead),(2,.row 29 [.own 5 0 c5q22.length]),(3,.row 46 [.er 48 91 0 c3q23]),(4,.row 3 (fl c4q22)),(5,.row 3 (fl c5q22))] 6 (by kernel_rfl) ?_
    exact hn2 ((IntKind.i64.wrap (t21q7+1)),c0_funcs23,c0_fuel23,c0_deep23,c3q23,c4q22,c5q22) _ _ _ (Option.some.inj h).symm (leSt_m [(0,0),(2,2),(3,3),(4,4),(5,5)] [] (by simp only [push_cast,seval]) (by simp only [push_cast,seval]) rfl rfl rfl)
 ·change R2 (.exit 0) _ _ _
  refine ex_cast hx2 (id:=0) ?_
  obtain ⟨r0,h,e0⟩:=map_sx h
  have e1:=hr2 r0 e0.symm
  subst r0
  refine wk_id ?_
  refine wk_id ?_
  refine seq_np ?_
  refine reg_f ?_
  refine rk 1 ?_
  refine rf [(8,.v .nilIface)] [(0,.row 44 [.sl c0_funcs20.length (fl c0_funcs20),iS c0_fuel20,iS c0_deep20,.own 4 0 c4q19.length]),(1,.dead),(2,.row 29 [.own 5 0 c5q19.length]),(3,.row 46 [.er 48 91 0 c3q20]),(4,.row 3 (fl c4q19)),(5,.row 3 (fl c5q19))] 6 (by kernel_rfl) ?_
  refine wk_id ?_
  obtain rfl:=Option.some.inj h
  refine ret_at (.v .nilIface) (by kernel_rfl) ?_
  exact ret_e [(0,0),(2,2),(3,3),(4,4),(5,5)] [] (by simp only [push_cast,seval]) (by simp only [push_cast,seval]) rfl rfl rfl

set_option maxRecDepth 100000 in
set_option maxHeartbeats 200000000 in
theorem frame_player_call_1_1_specD (c1_funcs:(List (List Deed))) (c1_fuel:Int) (c1_deep:Int) (c2:(List Int)) (r:(List (List Deed))×Int×Int) (h:frame_player_call_1_1 c1_funcs c1_fuel c1_deep c2 = some r):SpecD Tryd.prog 21 [.ptr 0 0] [(0,.row 42 [.ptr 1 0]),(1,.row 44 [.sl c1_funcs.length (fl c1_funcs),iS c1_fuel,iS c1_deep,.own 2 0 c2.length]),(2,.row 3 (fl c2))] 3 (fun x h n=>x = .tup []∧h = [(0,.row 42 [.ptr 1 0]),(1,.row 44 [.sl r.1.length (fl r.1),iS r.2.1,iS r.2.2,.own 2 0 c2.length]),(2,.row 3 (fl c2))]∧n = 3):=by
 unfold frame_player_call_1_1 at h
 refine specD_of Tryd.func21 rfl rfl (by kernel_rfl) ?_
 refine reg_f ?_
 refine rk 8 ?_
 refine rf [] [(0,.row 42 [.ptr 1 0]),(1,.row 44 [.sl c1_funcs.length (fl c1_funcs),iS c1_fuel,iS (IntKind.i64.wrap (c1_deep - 1)),.own 2 0 c2.length]),(2,.row 3 (fl c2))] 3 (by kernel_rfl) ?_
 obtain rfl:=Option.some.inj h
 refine ret_an (.tup []) (by kernel_rfl) ?_
 exact ret_e [(0,0),(1,1),(2,2)] [] (by simp only [push_cast,seval]) (by simp only [push_cast,seval]) rfl rfl rfl

set_option maxRecDepth 100000 in
set_option maxHeartbeats 200000000 in
theorem frame_player_call_3_n_spec (rcf:Int→(List (List Deed))→Int→Int→(List Int)→Option (Err×(List (List Deed))×Int×Int×(List Int))) (ih:∀ (f:Int) (c0_funcs:(List (List Deed))) (c0_fuel:Int) (c0_deep:Int) (c1:(List Int)) (r:Err×(List (List Deed))×Int×Int×(List Int)),rcf f c0_funcs c0_fuel c0_deep c1 = some r→SpecW Tryd.prog 18 [.ptr 0 0,iS f,.v (.pointer none)] [(0,.row 44 [.sl c0_funcs.length (fl c0_funcs),iS c0_fuel,iS c0_deep,.own 1 0 c1.length]),(1,.row 3 (fl c1))] 2 (fun x h n=>x = .er 48 91 0 r.1∧h = [(0,.row 44 [.sl r.2.1.length (fl r.2.1),iS r.2.2.1,iS r.2.2.2.1,.own 2 0 r.2.2.2.2.length]),(1,.dead),(2,.row 3 (fl r.2.2.2.2))]∧n = 3)):∀ (n:Nat) (f:Int) (c0_funcs:(List (List Deed))) (c0_fuel:Int) (c0_deep:Int) (c2:Err) (c1:(List Int)) (r:Err×(List (List Deed))×Int×Int×(List Int)×Err),frame_player_call_3_n rcf n f c0_funcs c0_fuel c0_deep c2 c1 = some r→SpecW Tryd.prog 18 [.ptr 0 0,iS f,.ptr 2 0] [(0,.row 44 [.sl c0_funcs.length (fl c0_funcs),iS c0_fuel,iS c0_deep,.own 1 0 c1.length]),(1,.row 3 (fl c1)),(2,.row 46 [.er 48 91 0 c2])] 3 (fun x h n=>x = .er 48 91 0 r.1∧h = [(0,.row 44 [.sl r.2.1.length (fl r.2.1),iS r.2.2.1,iS r.2.2.2.1,.own 3 0 r.2.2.2.2.1.length]),(1,.dead),(2,.row 46 [.er 48 91 0 r.2.2.2.2.2]),(3,.row 3 (fl r.2.2.2.2.1))]∧n = 4):=by
 intro n
 induction n with
 | zero=>intro f c0_funcs c0_fuel c0_deep c2 c1 r h; exact absurd (show (none:Option (Err×(List (List Deed))×Int×Int×(List Int)×Err)) = some r from h) (by simp)
 | succ n ih1 =>
  intro f c0_funcs c0_fuel c0_deep c2 c1 r h
  have h:frame_player_call_3_b rcf (frame_player_call_3_n rcf n) f c0_funcs c0_fuel c0_deep c2 c1 = some r:=h
  generalize frame_player_call_3_n rcf n = rcf1 at ih1 h
  unfold frame_player_call_3_b at h
  refine spec_df2 23 3 21 Tryd.func18 rfl (by decide) Tryd.func21 rfl (by decide) rfl (by kernel_rfl) (by kernel_rfl) ?_
  refine seq_np ?_
  refine reg_f ?_
  refine rk 2 ?_
  refine rf [(1,iS f),(2,.ptr 2 0),(3,.ptr 3 0),(6,.ptr 4 0)] [(0,.row 44 [.sl c0_funcs.length (fl c0_funcs),iS c0_fuel,iS c0_deep,.own 1 0 c1.length]),(1,.row 3 (fl c1)),(2,.row 46 [.er 48 91 0 c2]),(3,.row 42 [.ptr 0 0]),(4,.row 46 [.v .nilIface])] 5 (by kernel_rfl) ?_
  refine wk_id ?_
  refine seq_np ?_
  refine seq_np ?_
  refine reg_f ?_
  refine rk 8 ?_
  refine rf [(1,iS f),(2,.ptr 2 0),(3,.ptr 3 0),(6,.ptr 4 0)] [(0,.row 44 [.sl c0_funcs.length (fl c0_funcs),iS c0_fuel,iS (IntKind.i64.wrap (c0_deep+1)),.own 1 0 c1.length]),(1,.row 3 (fl c1)),(2,.row 46 [.er 48 91 0 c2]),(3,.row 42 [.ptr 0 0]),(4,.row 46 [.v .nilIface])] 5 (by kernel_rfl) ?_
  refine wk_id ?_
  refine seq_np ?_
  refine reg_f ?_
  refine rk 5 ?_
  refine rf [(1,iS f),(2,.ptr 2 0),(3,.ptr 3 0),(6,.ptr 4 0),(21,bS (decide ((100:Int) < (IntKind.i64.wrap (c0_deep+1)))))] [(0,.row 44 [.sl c0_funcs.length (fl c0_funcs),iS c0_fuel,iS (IntKind.i64.wrap (c0_deep+1)),.own 1 0 c1.length]),(1,.row 3 (fl c1)),(2,.row 46 [.er 48 91 0 c2]),(3,.row 42 [.ptr 0 0]),(4,.row 46 [.v .nilIface])] 5 (by kernel_rfl) ?_
  refine wk_id ?_
  refine cond_sx h (by kernel_rfl) (fun g2760 h=>?_) (fun g2760 h=>?_)
  ·refine seq_np ?_
   refine reg_f ?_
   refine rk 2 ?_
   refine rf [(3,.ptr 3 0),(6,.ptr 4 0)] [(0,.row 44 [.sl c0_funcs.length (fl c0_funcs),iS c0_fuel,iS (IntKind.i64.wrap (c0_deep+1)),.own 1 0 c1.length]),(1,.row 3 (fl c1)),(2,.row 46 [.er 48 91 0 c2]),(3,.row 42 [.ptr 0 0]),(4,.row 46 [.er 48 91 0 Err.tired])] 5 (by kernel_rfl) ?_
   refine wk_id ?_
   refine qa_ret (R:=fun _ _ _=>True) ?_
   obtain rfl:=Option.some.inj h
   refine ret_at (.er 48 91 0 Err.tired) (by kernel_rfl) ?_
   exact ret_e [(0,0),(2,2),(3,1)] [] (by simp only [push_cast,seval]) (by simp only [push_cast,seval]) rfl rfl rfl
  ·refine wk_id ?_
   refine df_go ?_
   refine seq_np ?_
   refine reg_f ?_
   refine rk 1 ?_
   refine rf [(1,iS f),(2,.ptr 2 0),(3,.ptr 3 0),(6,.ptr 4 0),(7,.ptr 5 0)] [(0,.row 44 [.sl c0_funcs.length (fl c0_funcs),iS c0_fuel,iS (IntKind.i64.wrap (c0_deep+1)),.own 1 0 c1.length]),(1,.row 3 (fl c1)),(2,.row 46 [.er 48 91 0 c2]),(3,.row 42 [.ptr 0 0]),(4,.row 46 [.v .nilIface]),(5,.row 29 [.v (.slice none 0 0)])] 6 (by kernel_rfl) ?_
   refine wk_id ?_
   refine seq_np ?_
   refine reg_f ?_
   refine rk 3 ?_
   obtain ⟨r2667,hr2667,h⟩:=bind_sx h
   refine call_x (frame_player_body_1_spec rcf ih f c0_funcs c0_fuel (IntKind.i64.wrap (c0_deep+1)) c2 c1 r2667 hr2667) (args:=[.ptr 0 0,iS f,.ptr 5 0,.ptr 2 0]) (dst:=(some 27)) (by kernel_rfl) [(0,.row 44 [.sl c0_funcs.length (fl c0_funcs),iS c0_fuel,iS (IntKind.i64.wrap (c0_deep+1)),.own 1 0 c1.length]),(1,.row 3 (fl c1)),(2,.row 46 [.er 48 91 0 c2]),(3,.row 42 [.ptr 0 0]),(4,.row 46 [.v .nilIface]),(5,.row 29 [.v (.slice none 0 0)])] 6 (by kernel_rfl) [(0,0),(1,1),(2,5),(3,2)] [] (.er 48 91 0 r2667.1) [(0,.row 44 [.sl r2667.2.1.length (fl r2667.2.1),iS r2667.2.2.1,iS r2667.2.2.2.1,.own 10 0 r2667.2.2.2.2.1.length]),(1,.dead),(5,.row 29 [.own 11 0 r2667.2.2.2.2.2.1.length]),(2,.row 46 [.er 48 91 0 r2667.2.2.2.2.2.2]),(10,.row 3 (fl r2667.2.2.2.2.1)),(11,.row 3 (fl r2667.2.2.2.2.2.1)),(0,.dead),(1,.dead),(5,.dead),(2,.dead)] (by simp only [push_cast,seval]) (by simp only [push_cast,seval]) (by kernel_rfl) (.inl rfl) (by simp only [push_cast,seval]) (by simp only [push_cast,seval]) ?_
   refine rk 1 ?_
   refine rf [(3,.ptr 3 0),(6,.ptr 4 0),(7,.ptr 5 0)] [(0,.row 44 [.sl r2667.2.1.length (fl r2667.2.1),iS r2667.2.2.1,iS r2667.2.2.2.1,.own 10 0 r2667.2.2.2.2.1.length]),(1,.dead),(2,.row 46 [.er 48 91 0 r2667.2.2.2.2.2.2]),(3,.row 42 [.ptr 0 0]),(4,.row 46 [.er 48 91 0 r2667.1]),(5,.row 29 [.own 11 0 r2667.2.2.2.2.2.1.length]),(10,.row 3 (fl r2667.2.2.2.2.1)),(11,.row 3 (fl r2667.2.2.2.2.2.1))] 12 (by kernel_rfl) ?_
   refine wk_id ?_
   refine seq_np ?_
   refine block_np ?_
   refine loop_sx (S:=Err×(List Int)×(List (List Deed))×Int×Int×(List Int)×Err) (fun a=>([(3,.ptr 3 0),(6,.ptr 4 0),(7,.ptr 5 0)],[(0,.row 44 [.sl a.2.2.1.length (fl a.2.2.1),iS a.2.2.2.1,iS a.2.2.2.2.1,.own 7 0 a.2.2.2.2.2.1.length]),(1,.dead),(2,.row 46 [.er 48 91 0 a.2.2.2.2.2.2]),(3,.row 42 [.ptr 0 0]),(4,.row 46 [.er 48 91 0 a.1]),(5,.row 29 [.own 6 0 a.2.1.length]),(6,.row 3 (fl a.2.1)),(7,.row 3 (fl a.2.2.2.2.2.1))],8)) h (leSt_m [(0,0),(2,2),(3,3),(4,4),(5,5),(6,11),(7,10)] [] (by simp only [push_cast,seval]) (by simp only [push_cast,seval]) rfl rfl rfl) ?_
   rintro ⟨c4q14,c6q7,c0_funcs16,c0_fuel16,c0_deep16,c7q14,c2q9⟩ o2 R2 h hr2 hn2 hx2 ht2
   try dsimp only at h hn2 ⊢
   unfold frame_player_call_3_l1 at h
   try dsimp only at h
   refine seq_np ?_
   refine seq_cut (A:=Bool) (fun a=>([(3,.ptr 3 0),(6,.ptr 4 0),(7,.ptr 5 0),(36,bS a)],[(0,.row 44 [.sl c0_funcs16.length (fl c0_funcs16),iS c0_fuel16,iS c0_deep16,.own 7 0 c7q14.length]),(1,.dead),(2,.row 46 [.er 48 91 0 c2q9]),(3,.row 42 [.ptr 0 0]),(4,.row 46 [.er 48 91 0 c4q14]),(5,.row 29 [.own 6 0 c6q7.length]),(6,.row 3 (fl c6q7)),(7,.row 3 (fl c7q14))],8)) (fun a=>(frame_player_call_3_j1 rcf1 c4q14 c6q7 c0_funcs16 c0_fuel16 c0_deep16 c7q14 c2q9 a) = some o2) (fun K2744 hK2744=>?_) ?_
   ·refine reg_f ?_
    refine rk 4 ?_
    refine run_br h 31 (.inl (by kernel_rfl)) (fun g2745 h=>?_) (fun g2745 h=>?_)
    ·refine rk 2 ?_
     obtain ⟨r2746,hr2746,h⟩:=bind_sx h
     refine run_call 19 [.er 48 91 0 c4q14,.er 48 91 0 Err.tired] (some 34) (by kernel_rfl) ?_
     refine call_0 (errors_Is_spec c4q14 Err.tired r2746 hr2746) (by simp only [push_cast,seval]) (by simp only [push_cast,seval]) ?_
     refine back_f ?_
     refine rk 2 ?_
     refine rf [(3,.ptr 3 0),(6,.ptr 4 0),(7,.ptr 5 0),(36,bS (!r2746))] [(0,.row 44 [.sl c0_funcs16.length (fl c0_funcs16),iS c0_fuel16,iS c0_deep16,.own 7 0 c7q14.length]),(1,.dead),(2,.row 46 [.er 48 91 0 c2q9]),(3,.row 42 [.ptr 0 0]),(4,.row 46 [.er 48 91 0 c4q14]),(5,.row 29 [.own 6 0 c6q7.length]),(6,.row 3 (fl c6q7)),(7,.row 3 (fl c7q14))] 8 (by kernel_rfl) ?_
     exact hK2744 ((!r2746)) _ _ _ h (leSt_m [(0,0),(2,2),(3,3),(4,4),(5,5),(6,6),(7,7)] [] (by (try simp only [g2745]) <;> simp only [push_cast,seval]) (by (try simp only [g2745]) <;> simp only [push_cast,seval]) rfl rfl rfl)
    ·refine rk 5 ?_
     refine rf [(3,.ptr 3 0),(6,.ptr 4 0),(7,.ptr 5 0),(36,bS false)] [(0,.row 44 [.sl c0_funcs16.length (fl c0_funcs16),iS c0_fuel16,iS c0_deep16,.own 7 0 c7q14.length]),(1,.dead),(2,.row 46 [.er 48 91 0 c2q9]),(3,.row 42 [.ptr 0 0]),(4,.row 46 [.er 48 91 0 c4q14]),(5,.row 29 [.own 6 0 c6q7.length]),(6,.row 3 (fl c6q7)),(7,.row 3 (fl c7q14))] 8 (by kernel_rfl) ?_
     exact hK2744 (false) _ _ _ h (leSt_m [(0,0),(2,2),(3,3),(4,4),(5,5),(6,6),(7,7)] [] (by (try simp only [g2745]) <;> simp only [push_cast,seval]) (by (try simp only [g2745]) <;> simp only [push_cast,seval]) rfl rfl rfl)
   ·rintro t36q8 h
    try dsimp only at h ⊢
    unfold frame_player_call_3_j1 at h
    refine cond_sx h (by kernel_rfl) (fun g2759 h=>?_) (fun g2759 h=>?_)
    ·refine wk_id ?_
     refine block_np ?_
     refine chk_sx h (fun g2750 h=>?_)
     refine seq_np ?_
     refine reg_f ?_
     have k2749:0≤(IntKind.i64.wrap ((c6q7.length:Int) - 1))∧(IntKind.i64.wrap ((c6q7.length:Int) - 1)) < (c6q7.length:Int):=by first | simpa only [Bool.and_eq_true,decide_eq_true_eq,bne_iff_ne,ne_eq] using g2750 | (simp at g2750 ⊢; omega) | simp
     refine rs 7 [none,none,none,none,some ⟨.ptr 6 (0+((IntKind.i64.wrap ((c6q7.length:Int) - 1))).toNat * 1),[],8,[6]⟩,some ⟨iS (ix c6q7 (IntKind.i64.wrap ((c6q7.length:Int) - 1))),[],8,[6]⟩] _ (by kernel_rfl) (allP_cons (ob_ld c6q7 (IntKind.i64.wrap ((c6q7.length:Int) - 1)) 1 0 (0+((IntKind.i64.wrap ((c6q7.length:Int) - 1))).toNat * 1) k2749 rfl (by decide) (by first | rfl | omega) (dflS Tryd.prog 3) (iS (ix c6q7 (IntKind.i64.wrap ((c6q7.length:Int) - 1)))) rfl 8 [6]) (allP_cons (ob_ix_o 6 c6q7.length 0 1 8 (IntKind.i64.wrap ((c6q7.length:Int) - 1)) k2749) allP_nil)) ?_
     refine rf [(3,.ptr 3 0),(6,.ptr 4 0),(7,.ptr 5 0),(8,iS (ix c6q7 (IntKind.i64.wrap ((c6q7.length:Int) - 1))))] [(0,.row 44 [.sl c0_funcs16.length (fl c0_funcs16),iS c0_fuel16,iS c0_deep16,.own 7 0 c7q14.length]),(1,.dead),(2,.row 46 [.er 48 91 0 c2q9]),(3,.row 42 [.ptr 0 0]),(4,.row 46 [.er 48 91 0 c4q14]),(5,.row 29 [.own 6 0 c6q7.length]),(6,.row 3 (fl c6q7)),(7,.row 3 (fl c7q14))] 8 (by kernel_rfl) ?_
     refine wk_id ?_
     refine chk_sx h (fun g2754 h=>?_)
     refine seq_np ?_
     refine reg_f ?_
     have k2753:0≤(0:Int)∧(0:Int)≤(IntKind.i64.wrap ((c6q7.length:Int) - 1))∧(IntKind.i64.wrap ((c6q7.length:Int) - 1))≤(c6q7.length:Int):=by first | simpa only [Bool.and_eq_true,decide_eq_true_eq,bne_iff_ne,ne_eq] using g2754 | (simp at g2754 ⊢; omega) | simp
     refine rk 4 ?_
     refine run_cutO c6q7 (some 47) 6 1 3 (0:Int) (IntKind.i64.wrap ((c6q7.length:Int) - 1)) (by kernel_rfl) rfl k2753 ?_
     refine rk 1 ?_
     refine rf [(3,.ptr 3 0),(6,.ptr 4 0),(7,.ptr 5 0),(8,iS (ix c6q7 (IntKind.i64.wrap ((c6q7.length:Int) - 1))))] [(0,.row 44 [.sl c0_funcs16.length (fl c0_funcs16),iS c0_fuel16,iS c0_deep16,.own 7 0 c7q14.length]),(1,.dead),(2,.row 46 [.er 48 91 0 c2q9]),(3,.row 42 [.ptr 0 0]),(4,.row 46 [.er 48 91 0 c4q14]),(5,.row 29 [.own 8 0 (cut c6q7 (0:Int) (IntKind.i64.wrap ((c6q7.length:Int) - 1))).length]),(6,.dead),(7,.row 3 (fl c7q14)),(8,.row 3 (fl (cut c6q7 (0:Int) (IntKind.i64.wrap ((c6q7.length:Int) - 1)))))] 9 (by kernel_rfl) ?_
     refine wk_id ?_
     refine seq_np ?_
     refine reg_f ?_
     refine rk 2 ?_
     obtain ⟨r2756,hr2756,h⟩:=bind_sx h
     refine call_x (ih1 (ix c6q7 (IntKind.i64.wrap ((c6q7.length:Int) - 1))) c0_funcs16 c0_fuel16 c0_deep16 c4q14 c7q14 r2756 hr2756) (args:=[.ptr 0 0,iS (ix c6q7 (IntKind.i64.wrap ((c6q7.length:Int) - 1))),.ptr 4 0]) (dst:=(some 50)) (by kernel_rfl) [(0,.row 44 [.sl c0_funcs16.length (fl c0_funcs16),iS c0_fuel16,iS c0_deep16,.own 7 0 c7q14.length]),(1,.dead),(2,.row 46 [.er 48 91 0 c2q9]),(3,.row 42 [.ptr 0 0]),(4,.row 46 [.er 48 91 0 c4q14]),(5,.row 29 [.own 8 0 (cut c6q7 (0:Int) (IntKind.i64.wrap ((c6q7.length:Int) - 1))).length]),(6,.dead),(7,.row 3 (fl c7q14)),(8,.row 3 (fl (cut c6q7 (0:Int) (IntKind.i64.wrap ((c6q7.length:Int) - 1)))))] 9 (by kernel_rfl) [(0,0),(1,7),(2,4)] [] (.er 48 91 0 r2756.1) [(0,.row 44 [.sl r2756.2.1.length (fl r2756.2.1),iS r2756.2.2.1,iS r2756.2.2.2.1,.own 12 0 r2756.2.2.2.2.1.length]),(7,.dead),(4,.row 46 [.er 48 91 0 r2756.2.2.2.2.2]),(12,.row 3 (fl r2756.2.2.2.2.1)),(0,.dead),(7,.dead),(4,.dead)] (by simp only [push_cast,seval]) (by simp only [push_cast,seval]) (by kernel_rfl) (.inl rfl) (by simp only [push_cast,seval]) (by simp only [push_cast,seval]) ?_
     refine rk 1 ?_
     refine rf [(3,.ptr 3 0),(6,.ptr 4 0),(7,.ptr 5 0),(9,.er 48 91 0 r2756.1)] [(0,.row 44 [.sl r2756.2.1.length (fl r2756.2.1),iS r2756.2.2.1,iS r2756.2.2.2.1,.own 12 0 r2756.2.2.2.2.1.length]),(1,.dead),(2,.row 46 [.er 48 91 0 c2q9]),(3,.row 42 [.ptr 0 0]),(4,.row 46 [.er 48 91 0 r2756.2.2.2.2.2]),(5,.row 29 [.own 8 0 (cut c6q7 (0:Int) (IntKind.i64.wrap ((c6q7.length:Int) - 1))).length]),(6,.dead),(7,.dead),(8,.row 3 (fl (cut c6q7 (0:Int) (IntKind.i64.wrap ((c6q7.length:Int) - 1))))),(12,.row 3 (fl r2756.2.2.2.2.1))] 13 (by kernel_rfl) ?_
     refine wk_id ?_
     refine seq_np ?_
     refine reg_f ?_
     refine rk 2 ?_
     refine rf [(3,.ptr 3 0),(6,.ptr 4 0),(7,.ptr 5 0),(9,.er 48 91 0 r2756.1),(52,bS (!decide (r2756.1 = Err.nil)))] [(0,.row 44 [.sl r2756.2.1.length (fl r2756.2.1),iS r2756.2.2.1,iS r2756.2.2.2.1,.own 12 0 r2756.2.2.2.2.1.length]),(1,.dead),(2,.row 46 [.er 48 91 0 c2q9]),(3,.row 42 [.ptr 0 0]),(4,.row 46 [.er 48 91 0 r2756.2.2.2.2.2]),(5,.row 29 [.own 8 0 (cut c6q7 (0:Int) (IntKind.i64.wrap ((c6q7.length:Int) - 1))).length]),(6,.dead),(7,.dead),(8,.row 3 (fl (cut c6q7 (0:Int) (IntKind.i64.wrap ((c6q7.length:Int) - 1))))),(12,.row 3 (fl r2756.2.2.2.2.1))] 13 (by kernel_rfl) ?_
     refine wk_id ?_
     refine cond_sx h (by kernel_rfl) (fun g2757 h=>?_) (fun g2757 h=>?_)
     ·refine reg_f ?_
      refine rk 2 ?_
      refine rf [(3,.ptr 3 0),(6,.ptr 4 0),(7,.ptr 5 0)] [(0,.row 44 [.sl r2756.2.1.length (fl r2756.2.1),iS r2756.2.2.1,iS r2756.2.2.2.1,.own 12 0 r2756.2.2.2.2.1.length]),(1,.dead),(2,.row 46 [.er 48 91 0 c2q9]),(3,.row 42 [.ptr 0 0]),(4,.row 46 [.er 48 91 0 r2756.1]),(5,.row 29 [.own 8 0 (cut c6q7 (0:Int) (IntKind.i64.wrap ((c6q7.length:Int) - 1))).length]),(6,.dead),(7,.dead),(8,.row 3 (fl (cut c6q7 (0:Int) (IntKind.i64.wrap ((c6q7.length:Int) - 1))))),(12,.row 3 (fl r2756.2.2.2.2.1))] 13 (by kernel_rfl) ?_
      refine wk_id ?_
      exact hn2 (r2756.1,(cut c6q7 (0:Int) (IntKind.i64.wrap ((c6q7.length:Int) - 1))),r2756.2.1,r2756.2.2.1,r2756.2.2.2.1,r2756.2.2.2.2.1,c2q9) _ _ _ (Option.some.inj h).symm (leSt_m [(0,0),(2,2),(3,3),(4,4),(5,5),(6,8),(7,12)] [] (by simp only [push_cast,seval]) (by simp only [push_cast,seval]) rfl rfl rfl)
     ·refine wk_id ?_
      exact hn2 (r2756.2.2.2.2.2,(cut c6q7 (0:Int) (IntKind.i64.wrap ((c6q7.length:Int) - 1))),r2756.2.1,r2756.2.2.1,r2756.2.2.2.1,r2756.2.2.2.2.1,c2q9) _ _ _ (Option.some.inj h).symm (leSt_m [(0,0),(2,2),(3,3),(4,4),(5,5),(6,8),(7,12)] [] (by simp only [push_cast,seval]) (by simp only [push_cast,seval]) rfl rfl rfl)
    ·change R2 (.exit 0) _ _ _
     refine ex_cast hx2 (id:=0) ?_
     obtain ⟨r0,h,e0⟩:=map_sx h
     have e1:=hr2 r0 e0.symm
     subst r0
     refine wk_id ?_
     refine wk_id ?_
     refine seq_np ?_
     refine reg_f ?_
     refine rk 2 ?_
     refine rf [(3,.ptr 3 0),(6,.ptr 4 0)] [(0,.row 44 [.sl c0_funcs16.length (fl c0_funcs16),iS c0_fuel16,iS c0_deep16,.own 7 0 c7q14.length]),(1,.dead),(2,.row 46 [.er 48 91 0 c2q9]),(3,.row 42 [.ptr 0 0]),(4,.row 46 [.er 48 91 0 c4q14]),(5,.row 29 [.own 6 0 c6q7.length]),(6,.row 3 (fl c6q7)),(7,.row 3 (fl c7q14))] 8 (by kernel_rfl) ?_
     refine wk_id ?_
     obtain ⟨r2758,hr2758,h⟩:=bind_sx h
     refine df_end_x (frame_player_call_1_1_specD c0_funcs16 c0_fuel16 c0_deep16 c7q14 r2758 hr2758) (.ptr 3 0) (by kernel_rfl) [(0,.row 44 [.sl c0_funcs16.length (fl c0_funcs16),iS c0_fuel16,iS c0_deep16,.own 7 0 c7q14.length]),(1,.dead),(2,.row 46 [.er 48 91 0 c2q9]),(3,.row 42 [.ptr 0 0]),(4,.row 46 [.er 48 91 0 c4q14]),(5,.row 29 [.own 6 0 c6q7.length]),(6,.row 3 (fl c6q7)),(7,.row 3 (fl c7q14))] 8 (by kernel_rfl) [(0,3),(1,0),(2,7)] [] [(3,.row 42 [.ptr 0 0]),(0,.row 44 [.sl r2758.1.length (fl r2758.1),iS r2758.2.1,iS r2758.2.2,.own 7 0 c7q14.length]),(7,.row 3 (fl c7q14)),(3,.dead),(0,.dead),(7,.dead)] (by simp only [push_cast,seval]) (by simp only [push_cast,seval]) (by kernel_rfl) (.inl rfl) (by first | (simp only [push_cast,seval]; done) | (simp only [push_cast,seval]; kernel_rfl) | kernel_rfl) ?_
     obtain rfl:=Option.some.inj h
     refine ret_at (.er 48 91 0 c4q14) (by kernel_rfl) ?_
     exact ret_e [(0,0),(2,2),(3,7)] [] (by simp only [push_cast,seval]) (by simp only [push_cast,seval]) rfl rfl rfl
set_option maxRecDepth 100000 in
theorem frame_player_call_3_spec (rcf:Int→(List (List Deed))→Int→Int→(List Int)→Option (Err×(List (List Deed))×Int×Int×(List Int))) (ih:∀ (f:Int) (c0_funcs:(List (List Deed))) (c0_fuel:Int) (c0_deep:Int) (c1:(List Int)) (r:Err×(List (List Deed))×Int×Int×(List Int)),rcf f c0_funcs c0_fuel c0_deep c1 = some r→SpecW Tryd.prog 18 [.ptr 0 0,iS f,.v (.pointer none)] [(0,.row 44 [.sl c0_funcs.length (fl c0_funcs),iS c0_fuel,iS c0_deep,.own 1 0 c1.length]),(1,.row 3 (fl c1))] 2 (fun x h n=>x = .er 48 91 0 r.1∧h = [(0,.row 44 [.sl r.2.1.length (fl r.2.1),iS r.2.2.1,iS r.2.2.2.1,.own 2 0 r.2.2.2.2.length]),(1,.dead),(2,.row 3 (fl r.2.2.2.2))]∧n = 3)) (f:Int) (c0_funcs:(List (List Deed))) (c0_fuel:Int) (c0_deep:Int) (c2:Err) (c1:(List Int)) (r:Err×(List (List Deed))×Int×Int×(List Int)×Err) (h:frame_player_call_3 rcf f c0_funcs c0_fuel c0_deep c2 c1 = some r):SpecW Tryd.prog 18 [.ptr 0 0,iS f,.ptr 2 0] [(0,.row 44 [.sl c0_funcs.length (fl c0_funcs),iS c0_fuel,iS c0_deep,.own 1 0 c1.length]),(1,.row 3 (fl c1)),(2,.row 46 [.er 48 91 0 c2])] 3 (fun x h n=>x = .er 48 91 0 r.1∧h = [(0,.row 44 [.sl r.2.1.length (fl r.2.1),iS r.2.2.1,iS r.2.2.2.1,.own 3 0 r.2.2.2.2.1.length]),(1,.dead),(2,.row 46 [.er 48 91 0 r.2.2.2.2.2]),(3,.row 3 (fl r.2.2.2.2.1))]∧n = 4):=frame_player_call_3_n_spec rcf ih 5000 f c0_funcs c0_fuel c0_deep c2 c1 r h

set_option maxRecDepth 100000 in
set_option maxHeartbeats 200000000 in
theorem frame_player_call_1_n_spec:∀ (n:Nat) (f:Int) (c0_funcs:(List (List Deed))) (c0_fuel:Int) (c0_deep:Int) (c1:(List Int)) (r:Err×(List (List Deed))×Int×Int×(List Int)),frame_player_call_1_n n f c0_funcs c0_fuel c0_deep c1 = some r→SpecW Tryd.prog 18 [.ptr 0 0,iS f,.v (.pointer none)] [(0,.row 44 [.sl c0_funcs.length (fl c0_funcs),iS c0_fuel,iS c0_deep,.own 1 0 c1.length]),(1,.row 3 (fl c1))] 2 (fun x h n=>x = .er 48 91 0 r.1∧h = [(0,.row 44 [.sl r.2.1.length (fl r.2.1),iS r.2.2.1,iS r.2.2.2.1,.own 2 0 r.2.2.2.2.length]),(1,.dead),(2,.row 3 (fl r.2.2.2.2))]∧n = 3):=by
 intro n
 induction n with
 | zero=>intro f c0_funcs c0_fuel c0_deep c1 r h; exact absurd (show (none:Option (Err×(List (List Deed))×Int×Int×(List Int))) = some r from h) (by simp)
 | succ n ih =>
  intro f c0_funcs c0_fuel c0_deep c1 r h
  have h:frame_player_call_1_b (frame_player_call_1_n n) f c0_funcs c0_fuel c0_deep c1 = some r:=h
  generalize frame_player_call_1_n n = rcf at ih h
  unfold frame_player_call_1_b at h
  refine spec_df2 23 3 21 Tryd.func18 rfl (by decide) Tryd.func21 rfl (by decide) rfl (by kernel_rfl) (by kernel_rfl) ?_
  refine seq_np ?_
  refine reg_f ?_
  refine rk 2 ?_
  refine rf [(1,iS f),(2,.v (.pointer none)),(3,.ptr 2 0),(6,.ptr 3 0)] [(0,.row 44 [.sl c0_funcs.length (fl c0_funcs),iS c0_fuel,iS c0_deep,.own 1 0 c1.length]),(1,.row 3 (fl c1)),(2,.row 42 [.ptr 0 0]),(3,.row 46 [.v .nilIface])] 4 (by kernel_rfl) ?_
  refine wk_id ?_
  refine seq_np ?_
  refine seq_np ?_
  refine reg_f ?_
  refine rk 8 ?_
  refine rf [(1,iS f),(2,.v (.pointer none)),(3,.ptr 2 0),(6,.ptr 3 0)] [(0,.row 44 [.sl c0_funcs.length (fl c0_funcs),iS c0_fuel,iS (IntKind.i64.wrap (c0_deep+1)),.own 1 0 c1.length]),(1,.row 3 (fl c1)),(2,.row 42 [.ptr 0 0]),(3,.row 46 [.v .nilIface])] 4 (by kernel_rfl) ?_
  refine wk_id ?_
  refine seq_np ?_
  refine reg_f ?_
  refine rk 5 ?_
  refine rf [(1,iS f),(2,.v (.pointer none)),(3,.ptr 2 0),(6,.ptr 3 0),(21,bS (decide ((100:Int) < (IntKind.i64.wrap (c0_deep+1)))))] [(0,.row 44 [.sl c0_funcs.length (fl c0_funcs),iS c0_fuel,iS (IntKind.i64.wrap (c0_deep+1)),.own 1 0 c1.length]),(1,.row 3 (fl c1)),(2,.row 42 [.ptr 0 0]),(3,.row 46 [.v .nilIface])] 4 (by kernel_rfl) ?_
  refine wk_id ?_
  refine cond_sx h (by kernel_rfl) (fun g2875 h=>?_) (fun g2875 h=>?_)
  ·refine seq_np ?_
   refine reg_f ?_
   refine rk 2 ?_
   refine rf [(3,.ptr 2 0),(6,.ptr 3 0)] [(0,.row 44 [.sl c0_funcs.length (fl c0_funcs),iS c0_fuel,iS (IntKind.i64.wrap (c0_deep+1)),.own 1 0 c1.length]),(1,.row 3 (fl c1)),(2,.row 42 [.ptr 0 0]),(3,.row 46 [.er 48 91 0 Err.tired])] 4 (by kernel_rfl) ?_
   refine wk_id ?_
   refine qa_ret (R:=fun _ _ _=>True) ?_
   obtain rfl:=Option.some.inj h
   refine ret_at (.er 48 91 0 Err.tired) (by kernel_rfl) ?_
   exact ret_e [(0,0),(2,1)] [] (by simp only [push_cast,seval]) (by simp only [push_cast,seval]) rfl rfl rfl
  ·refine wk_id ?_
   refine df_go ?_
   refine seq_np ?_
   refine reg_f ?_
   refine rk 1 ?_
   refine rf [(1,iS f),(2,.v (.pointer none)),(3,.ptr 2 0),(6,.ptr 3 0),(7,.ptr 4 0)] [(0,.row 44 [.sl c0_funcs.length (fl c0_funcs),iS c0_fuel,iS (IntKind.i64.wrap (c0_deep+1)),.own 1 0 c1.length]),(1,.row 3 (fl c1)),(2,.row 42 [.ptr 0 0]),(3,.row 46 [.v .nilIface]),(4,.row 29 [.v (.slice none 0 0)])] 5 (by kernel_rfl) ?_
   refine wk_id ?_
   refine seq_np ?_
   refine reg_f ?_
   refine rk 3 ?_
   obtain ⟨r2782,hr2782,h⟩:=bind_sx h
   refine call_x (frame_player_body_spec rcf ih f c0_funcs c0_fuel (IntKind.i64.wrap (c0_deep+1)) c1 r2782 hr2782) (args:=[.ptr 0 0,iS f,.ptr 4 0,.v (.pointer none)]) (dst:=(some 27)) (by kernel_rfl) [(0,.row 44 [.sl c0_funcs.length (fl c0_funcs),iS c0_fuel,iS (IntKind.i64.wrap (c0_deep+1)),.own 1 0 c1.length]),(1,.row 3 (fl c1)),(2,.row 42 [.ptr 0 0]),(3,.row 46 [.v .nilIface]),(4,.row 29 [.v (.slice none 0 0)])] 5 (by kernel_rfl) [(0,0),(1,1),(2,4)] [] (.er 48 91 0 r2782.1) [(0,.row 44 [.sl r2782.2.1.length (fl r2782.2.1),iS r2782.2.2.1,iS r2782.2.2.2.1,.own 8 0 r2782.2.2.2.2.1.length]),(1,.dead),(4,.row 29 [.own 9 0 r2782.2.2.2.2.2.length]),(8,.row 3 (fl r2782.2.2.2.2.1)),(9,.row 3 (fl r2782.2.2.2.2.2)),(0,.dead),(1,.dead),(4,.dead)] (by simp only [push_cast,seval]) (by simp only [push_cast,seval]) (by kernel_rfl) (.inl rfl) (by simp only [push_cast,seval]) (by simp only [push_cast,seval]) ?_
   refine rk 1 ?_
   refine rf [(3,.ptr 2 0),(6,.ptr 3 0),(7,.ptr 4 0)] [(0,.row 44 [.sl r2782.2.1.length (fl r2782.2.1),iS r2782.2.2.1,iS r2782.2.2.2.1,.own 8 0 r2782.2.2.2.2.1.length]),(1,.dead),(2,.row 42 [.ptr 0 0]),(3,.row 46 [.er 48 91 0 r2782.1]),(4,.row 29 [.own 9 0 r2782.2.2.2.2.2.length]),(8,.row 3 (fl r2782.2.2.2.2.1)),(9,.row 3 (fl r2782.2.2.2.2.2))] 10 (by kernel_rfl) ?_
   refine wk_id ?_
   refine seq_np ?_
   refine block_np ?_
   refine loop_sx (S:=Err×(List Int)×(List (List Deed))×Int×Int×(List Int)) (fun a=>([(3,.ptr 2 0),(6,.ptr 3 0),(7,.ptr 4 0)],[(0,.row 44 [.sl a.2.2.1.length (fl a.2.2.1),iS a.2.2.2.1,iS a.2.2.2.2.1,.own 6 0 a.2.2.2.2.2.length]),(1,.dead),(2,.row 42 [.ptr 0 0]),(3,.row 46 [.er 48 91 0 a.1]),(4,.row 29 [.own 5 0 a.2.1.length]),(5,.row 3 (fl a.2.1)),(6,.row 3 (fl a.2.2.2.2.2))],7)) h (leSt_m [(0,0),(2,2),(3,3),(4,4),(5,9),(6,8)] [] (by simp only [push_cast,seval]) (by simp only [push_cast,seval]) rfl rfl rfl) ?_
   rintro ⟨c3q14,c5q7,c0_funcs16,c0_fuel16,c0_deep16,c6q14⟩ o2 R2 h hr2 hn2 hx2 ht2
   try dsimp only at h hn2 ⊢
   unfold frame_player_call_1_l1 at h
   try dsimp only at h
   refine seq_np ?_
   refine seq_cut (A:=Bool) (fun a=>([(3,.ptr 2 0),(6,.ptr 3 0),(7,.ptr 4 0),(36,bS a)],[(0,.row 44 [.sl c0_funcs16.length (fl c0_funcs16),iS c0_fuel16,iS c0_deep16,.own 6 0 c6q14.length]),(1,.dead),(2,.row 42 [.ptr 0 0]),(3,.row 46 [.er 48 91 0 c3q14]),(4,.row 29 [.own 5 0 c5q7.length]),(5,.row 3 (fl c5q7)),(6,.row 3 (fl c6q14))],7)) (fun a=>(frame_player_call_1_j1 rcf c3q14 c5q7 c0_funcs16 c0_fuel16 c0_deep16 c6q14 a) = some o2) (fun K2859 hK2859=>?_) ?_
   ·refine reg_f ?_
    refine rk 4 ?_
    refine run_br h 31 (.inl (by kernel_rfl)) (fun g2860 h=>?_) (fun g2860 h=>?_)
    ·refine rk 2 ?_
     obtain ⟨r2861,hr2861,h⟩:=bind_sx h
     refine run_call 19 [.er 48 91 0 c3q14,.er 48 91 0 Err.tired] (some 34) (by kernel_rfl) ?_
     refine call_0 (errors_Is_spec c3q14 Err.tired r2861 hr2861) (by simp only [push_cast,seval]) (by simp only [push_cast,seval]) ?_
     refine back_f ?_
     refine rk 2 ?_
     refine rf [(3,.ptr 2 0),(6,.ptr 3 0),(7,.ptr 4 0),(36,bS (!r2861))] [(0,.row 44 [.sl c0_funcs16.length (fl c0_funcs16),iS c0_fuel16,iS c0_deep16,.own 6 0 c6q14.length]),(1,.dead),(2,.row 42 [.ptr 0 0]),(3,.row 46 [.er 48 91 0 c3q14]),(4,.row 29 [.own 5 0 c5q7.length]),(5,.row 3 (fl c5q7)),(6,.row 3 (fl c6q14))] 7 (by kernel_rfl) ?_
     exact hK2859 ((!r2861)) _ _ _ h (leSt_m [(0,0),(2,2),(3,3),(4,4),(5,5),(6,6)] [] (by (try simp only [g2860]) <;> simp only [push_cast,seval]) (by (try simp only [g2860]) <;> simp only [push_cast,seval]) rfl rfl rfl)
    ·refine rk 5 ?_
     refine rf [(3,.ptr 2 0),(6,.ptr 3 0),(7,.ptr 4 0),(36,bS false)] [(0,.row 44 [.sl c0_funcs16.length (fl c0_funcs16),iS c0_fuel16,iS c0_deep16,.own 6 0 c6q14.length]),(1,.dead),(2,.row 42 [.ptr 0 0]),(3,.row 46 [.er 48 91 0 c3q14]),(4,.row 29 [.own 5 0 c5q7.length]),(5,.row 3 (fl c5q7)),(6,.row 3 (fl c6q14))] 7 (by kernel_rfl) ?_
     exact hK2859 (false) _ _ _ h (leSt_m [(0,0),(2,2),(3,3),(4,4),(5,5),(6,6)] [] (by (try simp only [g2860]) <;> simp only [push_cast,seval]) (by (try simp only [g2860]) <;> simp only [push_cast,seval]) rfl rfl rfl)
   ·rintro t36q8 h
    try dsimp only at h ⊢
    unfold frame_player_call_1_j1 at h
    refine cond_sx h (by kernel_rfl) (fun g2874 h=>?_) (fun g2874 h=>?_)
    ·refine wk_id ?_
     refine block_np ?_
     refine chk_sx h (fun g2865 h=>?_)
     refine seq_np ?_
     refine reg_f ?_
     have k2864:0≤(IntKind.i64.wrap ((c5q7.length:Int) - 1))∧(IntKind.i64.wrap ((c5q7.length:Int) - 1)) < (c5q7.length:Int):=by first | simpa only [Bool.and_eq_true,decide_eq_true_eq,bne_iff_ne,ne_eq] using g2865 | (simp at g2865 ⊢; omega) | simp
     refine rs 7 [none,none,none,none,some ⟨.ptr 5 (0+((IntKind.i64.wrap ((c5q7.length:Int) - 1))).toNat * 1),[],7,[5]⟩,some ⟨iS (ix c5q7 (IntKind.i64.wrap ((c5q7.length:Int) - 1))),[],7,[5]⟩] _ (by kernel_rfl) (allP_cons (ob_ld c5q7 (IntKind.i64.wrap ((c5q7.length:Int) - 1)) 1 0 (0+((IntKind.i64.wrap ((c5q7.length:Int) - 1))).toNat * 1) k2864 rfl (by decide) (by first | rfl | omega) (dflS Tryd.prog 3) (iS (ix c5q7 (IntKind.i64.wrap ((c5q7.length:Int) - 1)))) rfl 7 [5]) (allP_cons (ob_ix_o 5 c5q7.length 0 1 7 (IntKind.i64.wrap ((c5q7.length:Int) - 1)) k2864) allP_nil)) ?_
     refine rf [(3,.ptr 2 0),(6,.ptr 3 0),(7,.ptr 4 0),(8,iS (ix c5q7 (IntKind.i64.wrap ((c5q7.length:Int) - 1))))] [(0,.row 44 [.sl c0_funcs16.length (fl c0_funcs16),iS c0_fuel16,iS c0_deep16,.own 6 0 c6q14.length]),(1,.dead),(2,.row 42 [.ptr 0 0]),(3,.row 46 [.er 48 91 0 c3q14]),(4,.row 29 [.own 5 0 c5q7.length]),(5,.row 3 (fl c5q7)),(6,.row 3 (fl c6q14))] 7 (by kernel_rfl) ?_
     refine wk_id ?_
     refine chk_sx h (fun g2869 h=>?_)
     refine seq_np ?_
     refine reg_f ?_
     have k2868:0≤(0:Int)∧(0:Int)≤(IntKind.i64.wrap ((c5q7.length:Int) - 1))∧(IntKind.i64.wrap ((c5q7.length:Int) - 1))≤(c5q7.length:Int):=by first | simpa only [Bool.and_eq_true,decide_eq_true_eq,bne_iff_ne,ne_eq] using g2869 | (simp at g2869 ⊢; omega) | simp
     refine rk 4 ?_
     refine run_cutO c5q7 (some 47) 5 1 3 (0:Int) (IntKind.i64.wrap ((c5q7.length:Int) - 1)) (by kernel_rfl) rfl k2868 ?_
     refine rk 1 ?_
     refine rf [(3,.ptr 2 0),(6,.ptr 3 0),(7,.ptr 4 0),(8,iS (ix c5q7 (IntKind.i64.wrap ((c5q7.length:Int) - 1))))] [(0,.row 44 [.sl c0_funcs16.length (fl c0_funcs16),iS c0_fuel16,iS c0_deep16,.own 6 0 c6q14.length]),(1,.dead),(2,.row 42 [.ptr 0 0]),(3,.row 46 [.er 48 91 0 c3q14]),(4,.row 29 [.own 7 0 (cut c5q7 (0:Int) (IntKind.i64.wrap ((c5q7.length:Int) - 1))).length]),(5,.dead),(6,.row 3 (fl c6q14)),(7,.row 3 (fl (cut c5q7 (0:Int) (IntKind.i64.wrap ((c5q7.length:Int) - 1)))))] 8 (by kernel_rfl) ?_
     refine wk_id ?_
     refine seq_np ?_
     refine reg_f ?_
     refine rk 2 ?_
     obtain ⟨r2871,hr2871,h⟩:=bind_sx h
     refine call_x (frame_player_call_3_spec rcf ih (ix c5q7 (IntKind.i64.wrap ((c5q7.length:Int) - 1))) c0_funcs16 c0_fuel16 c0_deep16 c3q14 c6q14 r2871 hr2871) (args:=[.ptr 0 0,iS (ix c5q7 (IntKind.i64.wrap ((c5q7.length:Int) - 1))),.ptr 3 0]) (dst:=(some 50)) (by kernel_rfl) [(0,.row 44 [.sl c0_funcs16.length (fl c0_funcs16),iS c0_fuel16,iS c0_deep16,.own 6 0 c6q14.length]),(1,.dead),(2,.row 42 [.ptr 0 0]),(3,.row 46 [.er 48 91 0 c3q14]),(4,.row 29 [.own 7 0 (cut c5q7 (0:Int) (IntKind.i64.wrap ((c5q7.length:Int) - 1))).length]),(5,.dead),(6,.row 3 (fl c6q14)),(7,.row 3 (fl (cut c5q7 (0:Int) (IntKind.i64.wrap ((c5q7.length:Int) - 1)))))] 8 (by kernel_rfl) [(0,0),(1,6),(2,3)] [] (.er 48 91 0 r2871.1) [(0,.row 44 [.sl r2871.2.1.length (fl r2871.2.1),iS r2871.2.2.1,iS r2871.2.2.2.1,.own 11 0 r2871.2.2.2.2.1.length]),(6,.dead),(3,.row 46 [.er 48 91 0 r2871.2.2.2.2.2]),(11,.row 3 (fl r2871.2.2.2.2.1)),(0,.dead),(6,.dead),(3,.dead)] (by simp only [push_cast,seval]) (by simp only [push_cast,seval]) (by kernel_rfl) (.inl rfl) (by simp only [push_cast,seval]) (by simp only [push_cast,seval]) ?_
     refine rk 1 ?_
     refine rf [(3,.ptr 2 0),(6,.ptr 3 0),(7,.ptr 4 0),(9,.er 48 91 0 r2871.1)] [(0,.row 44 [.sl r2871.2.1.length (fl r2871.2.1),iS r2871.2.2.1,iS r2871.2.2.2.1,.own 11 0 r2871.2.2.2.2.1.length]),(1,.dead),(2,.row 42 [.ptr 0 0]),(3,.row 46 [.er 48 91 0 r2871.2.2.2.2.2]),(4,.row 29 [.own 7 0 (cut c5q7 (0:Int) (IntKind.i64.wrap ((c5q7.length:Int) - 1))).length]),(5,.dead),(6,.dead),(7,.row 3 (fl (cut c5q7 (0:Int) (IntKind.i64.wrap ((c5q7.length:Int) - 1))))),(11,.row 3 (fl r2871.2.2.2.2.1))] 12 (by kernel_rfl) ?_
     refine wk_id ?_
     refine seq_np ?_
     refine reg_f ?_
     refine rk 2 ?_
     refine rf [(3,.ptr 2 0),(6,.ptr 3 0),(7,.ptr 4 0),(9,.er 48 91 0 r2871.1),(52,bS (!decide (r2871.1 = Err.nil)))] [(0,.row 44 [.sl r2871.2.1.length (fl r2871.2.1),iS r2871.2.2.1,iS r2871.2.2.2.1,.own 11 0 r2871.2.2.2.2.1.length]),(1,.dead),(2,.row 42 [.ptr 0 0]),(3,.row 46 [.er 48 91 0 r2871.2.2.2.2.2]),(4,.row 29 [.own 7 0 (cut c5q7 (0:Int) (IntKind.i64.wrap ((c5q7.length:Int) - 1))).length]),(5,.dead),(6,.dead),(7,.row 3 (fl (cut c5q7 (0:Int) (IntKind.i64.wrap ((c5q7.length:Int) - 1))))),(11,.row 3 (fl r2871.2.2.2.2.1))] 12 (by kernel_rfl) ?_
     refine wk_id ?_
     refine cond_sx h (by kernel_rfl) (fun g2872 h=>?_) (fun g2872 h=>?_)
     ·refine reg_f ?_
      refine rk 2 ?_
      refine rf [(3,.ptr 2 0),(6,.ptr 3 0),(7,.ptr 4 0)] [(0,.row 44 [.sl r2871.2.1.length (fl r2871.2.1),iS r2871.2.2.1,iS r2871.2.2.2.1,.own 11 0 r2871.2.2.2.2.1.length]),(1,.dead),(2,.row 42 [.ptr 0 0]),(3,.row 46 [.er 48 91 0 r2871.1]),(4,.row 29 [.own 7 0 (cut c5q7 (0:Int) (IntKind.i64.wrap ((c5q7.length:Int) - 1))).length]),(5,.dead),(6,.dead),(7,.row 3 (fl (cut c5q7 (0:Int) (IntKind.i64.wrap ((c5q7.length:Int) - 1))))),(11,.row 3 (fl r2871.2.2.2.2.1))] 12 (by kernel_rfl) ?_
      refine wk_id ?_
      exact hn2 (r2871.1,(cut c5q7 (0:Int) (IntKind.i64.wrap ((c5q7.length:Int) - 1))),r2871.2.1,r2871.2.2.1,r2871.2.2.2.1,r2871.2.2.2.2.1) _ _ _ (Option.some.inj h).symm (leSt_m [(0,0),(2,2),(3,3),(4,4),(5,7),(6,11)] [] (by simp only [push_cast,seval]) (by simp only [push_cast,seval]) rfl rfl rfl)
     ·refine wk_id ?_
      exact hn2 (r2871.2.2.2.2.2,(cut c5q7 (0:Int) (IntKind.i64.wrap ((c5q7.length:Int) - 1))),r2871.2.1,r2871.2.2.1,r2871.2.2.2.1,r2871.2.2.2.2.1) _ _ _ (Option.some.inj h).symm (leSt_m [(0,0),(2,2),(3,3),(4,4),(5,7),(6,11)] [] (by simp only [push_cast,seval]) (by simp only [push_cast,seval]) rfl rfl rfl)
    ·change R2 (.exit 0) _ _ _
     refine ex_cast hx2 (id:=0) ?_
     obtain ⟨r0,h,e0⟩:=map_sx h
     have e1:=hr2 r0 e0.symm
     subst r0
     refine wk_id ?_
     refine wk_id ?_
     refine seq_np ?_
     refine reg_f ?_
     refine rk 2 ?_
     refine rf [(3,.ptr 2 0),(6,.ptr 3 0)] [(0,.row 44 [.sl c0_funcs16.length (fl c0_funcs16),iS c0_fuel16,iS c0_deep16,.own 6 0 c6q14.length]),(1,.dead),(2,.row 42 [.ptr 0 0]),(3,.row 46 [.er 48 91 0 c3q14]),(4,.row 29 [.own 5 0 c5q7.length]),(5,.row 3 (fl c5q7)),(6,.row 3 (fl c6q14))] 7 (by kernel_rfl) ?_
     refine wk_id ?_
     obtain ⟨r2873,hr2873,h⟩:=bind_sx h
     refine df_end_x (frame_player_call_1_1_specD c0_funcs16 c0_fuel16 c0_deep16 c6q14 r2873 hr2873) (.ptr 2 0) (by kernel_rfl) [(0,.row 44 [.sl c0_funcs16.length (fl c0_funcs16),iS c0_fuel16,iS c0_deep16,.own 6 0 c6q14.length]),(1,.dead),(2,.row 42 [.ptr 0 0]),(3,.row 46 [.er 48 91 0 c3q14]),(4,.row 29 [.own 5 0 c5q7.length]),(5,.row 3 (fl c5q7)),(6,.row 3 (fl c6q14))] 7 (by kernel_rfl) [(0,2),(1,0),(2,6)] [] [(2,.row 42 [.ptr 0 0]),(0,.row 44 [.sl r2873.1.length (fl r2873.1),iS r2873.2.1,iS r2873.2.2,.own 6 0 c6q14.length]),(6,.row 3 (fl c6q14)),(2,.dead),(0,.dead),(6,.dead)] (by simp only [push_cast,seval]) (by simp only [push_cast,seval]) (by kernel_rfl) (.inl rfl) (by first | (simp only [push_cast,seval]; done) | (simp only [push_cast,seval]; kernel_rfl) | kernel_rfl) ?_
     obtain rfl:=Option.some.inj h
     refine ret_at (.er 48 91 0 c3q14) (by kernel_rfl) ?_
     exact ret_e [(0,0),(2,6)] [] (by simp only [push_cast,seval]) (by simp only [push_cast,seval]) rfl rfl rfl
set_option maxRecDepth 100000 in
theorem frame_player_call_1_spec (f:Int) (c0_funcs:(List (List Deed))) (c0_fuel:Int) (c0_deep:Int) (c1:(List Int)) (r:Err×(List (List Deed))×Int×Int×(List Int)) (h:frame_player_call_1 f c0_funcs c0_fuel c0_deep c1 = some r):SpecW Tryd.prog 18 [.ptr 0 0,iS f,.v (.pointer none)] [(0,.row 44 [.sl c0_funcs.length (fl c0_funcs),iS c0_fuel,iS c0_deep,.own 1 0 c1.length]),(1,.row 3 (fl c1))] 2 (fun x h n=>x = .er 48 91 0 r.1∧h = [(0,.row 44 [.sl r.2.1.length (fl r.2.1),iS r.2.2.1,iS r.2.2.2.1,.own 2 0 r.2.2.2.2.length]),(1,.dead),(2,.row 3 (fl r.2.2.2.2))]∧n = 3):=frame_player_call_1_n_spec 5000 f c0_funcs c0_fuel c0_deep c1 r h

set_option maxRecDepth 100000 in
set_option maxHeartbeats 200000000 in
theorem frame_Run_spec (funcs:(List (List Deed))) (r:Int×Bool×Fault×(List Int)) (h:frame_Run funcs = some r):SpecW Tryd.prog 12 [.sl funcs.length (fl funcs)] [] 0 (fun x h n=>x = .tup [.own 0 0 r.2.2.2.length,iS r.1,bS r.2.1,.agg (Enc.cells r.2.2.1)]∧h = [(0,.row 3 (fl r.2.2.2))]∧n = 1):=by
 unfold frame_Run at h
 refine spec_of (draw_ok _) Tryd.func12 rfl (by decide) rfl (by kernel_rfl) ?_
 refine seq_np ?_
 refine reg_f ?_
 refine rk 4 ?_
 refine rf [(0,.sl funcs.length (fl funcs)),(5,.ptr 0 0)] [(0,.row 26 [iS 0,iS 0])] 1 (by kernel_rfl) ?_
 refine wk_id ?_
 refine seq_np ?_
 refine seq_np ?_
 refine reg_f ?_
 refine rk 1 ?_
 obtain ⟨r2886,hr2886,h⟩:=bind_sx h
 refine run_call 10 [.sl funcs.length (fl funcs)] (some 11) (by kernel_rfl) ?_
 refine call_0 (frame_Check_spec funcs r2886 hr2886) (by simp only [push_cast,seval]) (by simp only [push_cast,seval]) ?_
 refine back_f ?_
 refine rk 2 ?_
 refine rf [(0,.sl funcs.length (fl funcs)),(5,.ptr 0 0),(6,.ptr 1 0)] [(0,.row 26 [iS 0,iS 0]),(1,.row 26 (Enc.cells r2886))] 2 (by kernel_rfl) ?_
 refine wk_id ?_
 refine seq_np ?_
 refine reg_f ?_
 refine rk 3 ?_
 refine rf [(0,.sl funcs.length (fl funcs)),(5,.ptr 0 0),(6,.ptr 1 0),(14,bS (r2886.Code != 0))] [(0,.row 26 [iS 0,iS 0]),(1,.row 26 (Enc.cells r2886))] 2 (by kernel_rfl) ?_
 refine wk_id ?_
 refine cond_sx h (by kernel_rfl) (fun g2911 h=>?_) (fun g2911 h=>?_)
 ·refine seq_np ?_
  refine reg_t ?_
  refine rk 5 ?_
  refine rt [(2,.v (.slice none 0 0)),(3,iS 0),(4,bS false),(5,.ptr 0 0)] [(0,.row 26 (Enc.cells r2886)),(1,.row 26 (Enc.cells r2886))] 7 follows (by kernel_rfl) ?_
  refine wk_id ?_
  obtain rfl:=Option.some.inj h
  refine ret_at (.tup [.v (.slice none 0 0),iS 0,bS false,.agg (Enc.cells r2886)]) (by kernel_rfl) ?_
  exact ret_e [] [] (by simp only [push_cast,seval]) (by simp only [push_cast,seval]) rfl rfl rfl
 ·refine wk_id ?_
  refine seq_np ?_
  refine reg_f ?_
  refine rk 4 ?_
  refine rf [(5,.ptr 0 0),(7,.ptr 2 0)] [(0,.row 26 [iS 0,iS 0]),(1,.row 26 (Enc.cells r2886)),(2,.row 44 [.sl funcs.length (fl funcs),iS 5000,iS 0,.v (.slice none 0 0)])] 3 (by kernel_rfl) ?_
  refine wk_id ?_
  refine seq_np ?_
  refine reg_f ?_
  refine rk 1 ?_
  obtain ⟨r2888,hr2888,h⟩:=bind_sx h
  refine call_x (frame_player_call_1_spec 0 funcs 5000 0 [] r2888 hr2888) (args:=[.ptr 2 0,iS 0,.v (.pointer none)]) (dst:=(some 20)) (by kernel_rfl) [(0,.row 26 [iS 0,iS 0]),(1,.row 26 (Enc.cells r2886)),(2,.row 44 [.sl funcs.length (fl funcs),iS 5000,iS 0,.v (.slice none 0 0)])] 3 (by kernel_rfl) [(0,2)] [] (.er 48 91 0 r2888.1) [(2,.row 44 [.sl r2888.2.1.length (fl r2888.2.1),iS r2888.2.2.1,iS r2888.2.2.2.1,.own 5 0 r2888.2.2.2.2.length]),(4,.dead),(5,.row 3 (fl r2888.2.2.2.2)),(2,.dead)] (by simp only [push_cast,seval]) (by simp only [push_cast,seval]) (by kernel_rfl) (.inl rfl) (by simp only [push_cast,seval]) (by simp only [push_cast,seval]) ?_
  refine rk 1 ?_
  refine rf [(5,.ptr 0 0),(7,.ptr 2 0),(8,.er 48 91 0 r2888.1)] [(0,.row 26 [iS 0,iS 0]),(1,.row 26 (Enc.cells r2886)),(2,.row 44 [.sl r2888.2.1.length (fl r2888.2.1),iS r2888.2.2.1,iS r2888.2.2.2.1,.own 5 0 r2888.2.2.2.2.length]),(4,.dead),(5,.row 3 (fl r2888.2.2.2.2))] 6 (by kernel_rfl) ?_
  refine wk_id ?_
  refine seq_np ?_
  refine reg_f ?_
  refine rk 1 ?_
  refine rf [(5,.ptr 0 0),(7,.ptr 2 0),(8,.er 48 91 0 r2888.1),(9,.ptr 6 0)] [(0,.row 26 [iS 0,iS 0]),(1,.row 26 (Enc.cells r2886)),(2,.row 44 [.sl r2888.2.1.length (fl r2888.2.1),iS r2888.2.2.1,iS r2888.2.2.2.1,.own 5 0 r2888.2.2.2.2.length]),(4,.dead),(5,.row 3 (fl r2888.2.2.2.2)),(6,.row 48 [.v (.pointer none)])] 7 (by kernel_rfl) ?_
  refine wk_id ?_
  refine seq_np ?_
  refine block_np ?_
  refine seq_np ?_
  refine reg_f ?_
  refine rk 2 ?_
  obtain ⟨r2902,hr2902,h⟩:=bind_sx h
  refine run_call 19 [.er 48 91 0 r2888.1,.er 48 91 0 Err.tired] (some 24) (by kernel_rfl) ?_
  refine call_0 (errors_Is_spec r2888.1 Err.tired r2902 hr2902) (by simp only [push_cast,seval]) (by simp only [push_cast,seval]) ?_
  refine back_f ?_
  refine rk 1 ?_
  refine rf [(5,.ptr 0 0),(7,.ptr 2 0),(8,.er 48 91 0 r2888.1),(9,.ptr 6 0),(21,bS r2902)] [(0,.row 26 [iS 0,iS 0]),(1,.row 26 (Enc.cells r2886)),(2,.row 44 [.sl r2888.2.1.length (fl r2888.2.1),iS r2888.2.2.1,iS r2888.2.2.2.1,.own 5 0 r2888.2.2.2.2.length]),(4,.dead),(5,.row 3 (fl r2888.2.2.2.2)),(6,.row 48 [.v (.pointer none)])] 7 (by kernel_rfl) ?_
  refine wk_id ?_
  refine cond_sx h (by kernel_rfl) (fun g2910 h=>?_) (fun g2910 h=>?_)
  ·refine seq_np ?_
   refine reg_f ?_
   obtain ⟨r2904,hr2904,h⟩:=bind_sx h
   refine run_call 17 [iS 9,iS 0] (some 25) (by kernel_rfl) ?_
   refine call_0 (frame_fault_spec 9 0 r2904 hr2904) (by simp only [push_cast,seval]) (by simp only [push_cast,seval]) ?_
   refine back_f ?_
   refine rk 4 ?_
   refine rf [(2,.v (.slice none 0 0)),(3,iS 0),(4,bS false),(5,.ptr 0 0)] [(0,.row 26 (Enc.cells r2904)),(1,.row 26 (Enc.cells r2886)),(2,.row 44 [.sl r2888.2.1.length (fl r2888.2.1),iS r2888.2.2.1,iS r2888.2.2.2.1,.own 5 0 r2888.2.2.2.2.length]),(4,.dead),(5,.row 3 (fl r2888.2.2.2.2)),(6,.row 48 [.v (.pointer none)])] 7 (by kernel_rfl) ?_
   refine wk_id ?_
   obtain rfl:=Option.some.inj h
   refine ret_at (.tup [.v (.slice none 0 0),iS 0,bS false,.agg (Enc.cells r2904)]) (by kernel_rfl) ?_
   exact ret_e [] [] (by simp only [push_cast,seval]) (by simp only [push_cast,seval]) rfl rfl rfl
  ·refine bsplit_sx h (fun g2905 h=>?_) (fun g2905 h=>?_)
   ·refine seq_np ?_
    refine reg_f ?_
    refine rk 2 ?_
    obtain ⟨r2907,hr2907,h⟩:=bind_sx h
    refine call_x (errors_As_spec r2888.1 g2905 r2907 hr2907) (args:=[.er 48 91 0 r2888.1,.ifc 51 (.ptr 6 0)]) (dst:=(some 29)) (by kernel_rfl) [(0,.row 26 [iS 0,iS 0]),(1,.row 26 (Enc.cells r2886)),(2,.row 44 [.sl r2888.2.1.length (fl r2888.2.1),iS r2888.2.2.1,iS r2888.2.2.2.1,.own 5 0 r2888.2.2.2.2.length]),(4,.dead),(5,.row 3 (fl r2888.2.2.2.2)),(6,.row 48 [.v (.pointer none)])] 7 (by kernel_rfl) [(0,6)] [] (bS true) [(6,.row 48 [.iptr [iS (Err.val r2888.1)] 0]),(6,.dead)] (by simp only [push_cast,seval]) (by simp only [push_cast,seval]) (by kernel_rfl) (.inl rfl) (by simp only [push_cast,seval]) (by simp only [push_cast,seval]) ?_
    refine rk 1 ?_
    refine rf [(5,.ptr 0 0),(7,.ptr 2 0),(9,.ptr 6 0),(26,bS true)] [(0,.row 26 [iS 0,iS 0]),(1,.row 26 (Enc.cells r2886)),(2,.row 44 [.sl r2888.2.1.length (fl r2888.2.1),iS r2888.2.2.1,iS r2888.2.2.2.1,.own 5 0 r2888.2.2.2.2.length]),(4,.dead),(5,.row 3 (fl r2888.2.2.2.2)),(6,.row 48 [.iptr [iS (Err.val r2888.1)] 0])] 8 (by kernel_rfl) ?_
    refine wk_id ?_
    refine cond_t (by kernel_rfl) ?_
    refine seq_np ?_
    refine reg_t ?_
    refine rk 13 ?_
    refine rt [(2,.own 5 0 r2888.2.2.2.2.length),(3,iS (Err.val r2888.1)),(4,bS true),(5,.ptr 0 0)] [(0,.row 26 [iS 0,iS 0]),(1,.row 26 (Enc.cells r2886)),(2,.row 44 [.sl r2888.2.1.length (fl r2888.2.1),iS r2888.2.2.1,iS r2888.2.2.2.1,.own 5 0 r2888.2.2.2.2.length]),(4,.dead),(5,.row 3 (fl r2888.2.2.2.2)),(6,.row 48 [.iptr [iS (Err.val r2888.1)] 0])] 21 follows (by kernel_rfl) ?_
    refine wk_id ?_
    obtain rfl:=Option.some.inj h
    refine ret_at (.tup [.own 5 0 r2888.2.2.2.2.length,iS (Err.val r2888.1),bS true,.agg [iS 0,iS 0]]) (by kernel_rfl) ?_
    exact ret_e [(0,5)] [] (by simp only [push_cast,seval]) (by simp only [push_cast,seval]) rfl rfl rfl
   ·refine seq_np ?_
    refine reg_f ?_
    refine rk 2 ?_
    obtain ⟨r2909,hr2909,h⟩:=bind_sx h
    refine call_x (errors_As_1_spec r2888.1 g2905 r2909 hr2909) (args:=[.er 48 91 0 r2888.1,.ifc 51 (.ptr 6 0)]) (dst:=(some 29)) (by kernel_rfl) [(0,.row 26 [iS 0,iS 0]),(1,.row 26 (Enc.cells r2886)),(2,.row 44 [.sl r2888.2.1.length (fl r2888.2.1),iS r2888.2.2.1,iS r2888.2.2.2.1,.own 5 0 r2888.2.2.2.2.length]),(4,.dead),(5,.row 3 (fl r2888.2.2.2.2)),(6,.row 48 [.v (.pointer none)])] 7 (by kernel_rfl) [(0,6)] [] (bS false) [(6,.row 48 [.v (.pointer none)]),(6,.dead)] (by simp only [push_cast,seval]) (by simp only [push_cast,seval]) (by kernel_rfl) (.inl rfl) (by simp only [push_cast,seval]) (by simp only [push_cast,seval]) ?_
    refine rk 1 ?_
    refine rf [(5,.ptr 0 0),(7,.ptr 2 0),(9,.ptr 6 0),(26,bS false)] [(0,.row 26 [iS 0,iS 0]),(1,.row 26 (Enc.cells r2886)),(2,.row 44 [.sl r2888.2.1.length (fl r2888.2.1),iS r2888.2.2.1,iS r2888.2.2.2.1,.own 5 0 r2888.2.2.2.2.length]),(4,.dead),(5,.row 3 (fl r2888.2.2.2.2)),(6,.row 48 [.v (.pointer none)])] 8 (by kernel_rfl) ?_
    refine wk_id ?_
    refine cond_f (by kernel_rfl) ?_
    refine wk_id ?_
    refine wk_id ?_
    refine seq_np ?_
    refine reg_f ?_
    refine rk 9 ?_
    refine rf [(2,.own 5 0 r2888.2.2.2.2.length),(3,iS 0),(4,bS false),(5,.ptr 0 0)] [(0,.row 26 [iS 0,iS 0]),(1,.row 26 (Enc.cells r2886)),(2,.row 44 [.sl r2888.2.1.length (fl r2888.2.1),iS r2888.2.2.1,iS r2888.2.2.2.1,.own 5 0 r2888.2.2.2.2.length]),(4,.dead),(5,.row 3 (fl r2888.2.2.2.2)),(6,.row 48 [.v (.pointer none)])] 8 (by kernel_rfl) ?_
    refine wk_id ?_
    obtain rfl:=Option.some.inj h
    refine ret_at (.tup [.own 5 0 r2888.2.2.2.2.length,iS 0,bS false,.agg [iS 0,iS 0]]) (by kernel_rfl) ?_
    exact ret_e [(0,5)] [] (by simp only [push_cast,seval]) (by simp only [push_cast,seval]) rfl rfl rfl

set_option maxRecDepth 100000 in
set_option maxHeartbeats 200000000 in
theorem taskmillref_Ints_spec (xa:(List Int)) (b:(List Int)) (r:Bool) (h:taskmillref_Ints xa b = some r):SpecW Tryd.prog 16 [.sl xa.length (fl xa),.sl b.length (fl b)] [] 0 (fun x h n=>x = bS r∧h = []∧n = 0):=by
 unfold taskmillref_Ints at h
 refine spec_of (draw_ok _) Tryd.func16 rfl (by decide) rfl (by kernel_rfl) ?_
 refine seq_np ?_
 refine reg_f ?_
 refine rk 1 ?_
 refine rf [(0,.sl xa.length (fl xa)),(1,.sl b.length (fl b))] [] 0 (by kernel_rfl) ?_
 refine wk_id ?_
 refine seq_np ?_
 refine seq_np ?_
 refine reg_f ?_
 refine rk 5 ?_
 refine rf [(0,.sl xa.length (fl xa)),(1,.sl b.length (fl b)),(10,bS ((xa.length:Int) != (b.length:Int)))] [] 0 (by kernel_rfl) ?_
 refine wk_id ?_
 refine cond_sx h (by kernel_rfl) (fun g3009 h=>?_) (fun g3009 h=>?_)
 ·refine seq_np ?_
  refine reg_f ?_
  refine rk 1 ?_
  refine rf [(4,bS false)] [] 0 (by kernel_rfl) ?_
  refine wk_id ?_
  obtain rfl:=Option.some.inj h
  refine ret_at (bS false) (by kernel_rfl) ?_
  exact ret_e [] [] (by simp only [push_cast,seval]) (by simp only [push_cast,seval]) rfl rfl rfl
 ·refine wk_id ?_
  refine seq_np ?_
  refine seq_np ?_
  refine reg_f ?_
  refine rk 1 ?_
  refine rf [(0,.sl xa.length (fl xa)),(1,.sl b.length (fl b)),(5,iS 0)] [] 0 (by kernel_rfl) ?_
  refine wk_id ?_
  refine block_np ?_
  refine loop_sx (S:=Int) (fun a=>([(0,.sl xa.length (fl xa)),(1,.sl b.length (fl b)),(5,iS a)],[],0)) h (leSt_m [] [] (by simp only [push_cast,seval]) (by simp only [push_cast,seval]) rfl rfl rfl) ?_
  rintro i7 o2 R2 h hr2 hn2 hx2 ht2
  try dsimp only at h hn2 ⊢
  unfold taskmillref_Ints_l1 at h
  try dsimp only at h
  refine seq_np ?_
  refine seq_np ?_
  refine reg_f ?_
  refine rk 4 ?_
  refine rf [(0,.sl xa.length (fl xa)),(1,.sl b.length (fl b)),(5,iS i7),(14,bS (decide (i7 < (xa.length:Int))))] [] 0 (by kernel_rfl) ?_
  refine wk_id ?_
  refine cond_sx h (by kernel_rfl) (fun g3008 h=>?_) (fun g3008 h=>?_)
  ·refine wk_id ?_
   refine seq_np ?_
   refine block_np ?_
   refine chk_sx h (fun g3004 h=>?_)
   refine chk_sx h (fun g3006 h=>?_)
   refine seq_np ?_
   refine reg_t ?_
   have k3003:0≤i7∧i7 < (xa.length:Int):=by first | simpa only [Bool.and_eq_true,decide_eq_true_eq,bne_iff_ne,ne_eq] using g3004 | (simp at g3004 ⊢; omega) | simp
   have k3005:0≤i7∧i7 < (b.length:Int):=by first | simpa only [Bool.and_eq_true,decide_eq_true_eq,bne_iff_ne,ne_eq] using g3006 | (simp at g3006 ⊢; omega) | simp
   refine rs 9 [none,none,some ⟨.iptr (fl xa) ((i7).toNat * 1),[],2,[]⟩,some ⟨iS (ix xa i7),[],3,[]⟩,none,none,some ⟨.iptr (fl b) ((i7).toNat * 1),[],6,[]⟩,some ⟨iS (ix b i7),[],7,[]⟩] _ (by kernel_rfl) (allP_cons (ob_ld b i7 1 0 ((i7).toNat * 1) k3005 rfl (by decide) (by first | rfl | omega) (dflS Tryd.prog 3) (iS (ix b i7)) rfl 7 []) (allP_cons (ob_ix_l b 1 6 i7 k3005) (allP_cons (ob_ld xa i7 1 0 ((i7).toNat * 1) k3003 rfl (by decide) (by first | rfl | omega) (dflS Tryd.prog 3) (iS (ix xa i7)) rfl 3 []) (allP_cons (ob_ix_l xa 1 2 i7 k3003) allP_nil)))) ?_
   refine rt [(0,.sl xa.length (fl xa)),(1,.sl b.length (fl b)),(5,iS i7),(25,bS ((ix xa i7) != (ix b i7)))] [] 9 follows (by kernel_rfl) ?_
   refine wk_id ?_
   refine cond_sx h (by kernel_rfl) (fun g3007 h=>?_) (fun g3007 h=>?_)
   ·refine seq_np ?_
    refine reg_f ?_
    refine rk 1 ?_
    refine rf [(4,bS false)] [] 9 (by kernel_rfl) ?_
    refine wk_id ?_
    refine rt_cast ht2 ?_
    obtain ⟨r0,h,e0⟩:=map_sx h
    have e1:=hr2 r0 e0.symm
    subst r0
    obtain rfl:=Option.some.inj h
    refine ret_at (bS false) (by kernel_rfl) ?_
    exact ret_e [] [] (by simp only [push_cast,seval]) (by simp only [push_cast,seval]) rfl rfl rfl
   ·refine wk_id ?_
    refine wk_id ?_
    refine reg_f ?_
    refine rk 3 ?_
    refine rf [(0,.sl xa.length (fl xa)),(1,.sl b.length (fl b)),(5,iS (IntKind.i64.wrap (i7+1)))] [] 9 (by kernel_rfl) ?_
    exact hn2 ((IntKind.i64.wrap (i7+1))) _ _ _ (Option.some.inj h).symm (leSt_m [] [] (by simp only [push_cast,seval]) (by simp only [push_cast,seval]) rfl rfl rfl)
  ·change R2 (.exit 0) _ _ _
   refine ex_cast hx2 (id:=0) ?_
   obtain ⟨r0,h,e0⟩:=map_sx h
   have e1:=hr2 r0 e0.symm
   subst r0
   refine wk_id ?_
   refine wk_id ?_
   refine seq_np ?_
   refine reg_f ?_
   refine rk 1 ?_
   refine rf [(4,bS true)] [] 0 (by kernel_rfl) ?_
   refine wk_id ?_
   obtain rfl:=Option.some.inj h
   refine ret_at (bS true) (by kernel_rfl) ?_
   exact ret_e [] [] (by simp only [push_cast,seval]) (by simp only [push_cast,seval]) rfl rfl rfl

set_option maxRecDepth 100000 in
set_option maxHeartbeats 200000000 in
theorem taskmilllaw_frameBegun_spec (r:Bool) (h:taskmilllaw_frameBegun = some r):SpecW Tryd.prog 8 [] [] 0 (fun x h n=>x = bS r∧h = []∧n = 0):=by
 unfold taskmilllaw_frameBegun at h
 refine spec_of (draw_ok _) Tryd.func8 rfl (by decide) rfl (by kernel_rfl) ?_
 refine seq_np ?_
 refine reg_f ?_
 refine rk 1 ?_
 refine rf [] [] 0 (by kernel_rfl) ?_
 refine wk_id ?_
 refine seq_np ?_
 refine reg_f ?_
 refine rk 7 ?_
 obtain ⟨r3014,hr3014,h⟩:=bind_sx h
 refine call_x (frame_Run_spec ([([(Deed.mk 2 1),(Deed.mk 5 5),(Deed.mk 3 7)]:List Deed),([(Deed.mk 4 0)]:List Deed)]:List (List Deed)) r3014 hr3014) (args:=[.own 2 0 2]) (dst:=(some 13)) (by kernel_rfl) [(0,.row 38 (fl ([(Deed.mk 2 1),(Deed.mk 5 5),(Deed.mk 3 7)]:List Deed))),(1,.row 38 (fl ([(Deed.mk 4 0)]:List Deed))),(2,.row 36 [.own 0 0 ([(Deed.mk 2 1),(Deed.mk 5 5),(Deed.mk 3 7)]:List Deed).length,.own 1 0 ([(Deed.mk 4 0)]:List Deed).length])] 3 (by kernel_rfl) [] [2,0,1] (.tup [.own 3 0 r3014.2.2.2.length,iS r3014.1,bS r3014.2.1,.agg (Enc.cells r3014.2.2.1)]) [(3,.row 3 (fl r3014.2.2.2))] (by simp only [↓leS_frzL ([([(Deed.mk 2 1),(Deed.mk 5 5),(Deed.mk 3 7)]:List Deed),([(Deed.mk 4 0)]:List Deed)]:List (List Deed)) [.own 0 0 ([(Deed.mk 2 1),(Deed.mk 5 5),(Deed.mk 3 7)]:List Deed).length,.own 1 0 ([(Deed.mk 4 0)]:List Deed).length],leS_frz,push_cast,seval]) (by simp only [↓leS_frzL ([([(Deed.mk 2 1),(Deed.mk 5 5),(Deed.mk 3 7)]:List Deed),([(Deed.mk 4 0)]:List Deed)]:List (List Deed)) [.own 0 0 ([(Deed.mk 2 1),(Deed.mk 5 5),(Deed.mk 3 7)]:List Deed).length,.own 1 0 ([(Deed.mk 4 0)]:List Deed).length],leS_frz,push_cast,seval]) (by kernel_rfl) (.inr ⟨by simp only [push_cast,seval],by simp only [push_cast,seval]⟩) (by simp only [push_cast,seval]) (by simp only [push_cast,seval]) ?_
 refine rk 10 ?_
 refine rf [(1,.own 3 0 r3014.2.2.2.length),(2,iS r3014.1),(3,bS r3014.2.1),(4,.ptr 4 0)] [(0,.row 38 (fl ([(Deed.mk 2 1),(Deed.mk 5 5),(Deed.mk 3 7)]:List Deed))),(1,.row 38 (fl ([(Deed.mk 4 0)]:List Deed))),(2,.row 36 [.own 0 0 ([(Deed.mk 2 1),(Deed.mk 5 5),(Deed.mk 3 7)]:List Deed).length,.own 1 0 ([(Deed.mk 4 0)]:List Deed).length]),(3,.row 3 (fl r3014.2.2.2)),(4,.row 26 (Enc.cells r3014.2.2.1))] 5 (by kernel_rfl) ?_
 refine wk_id ?_
 refine seq_cut (A:=Bool) (fun a=>([(0,bS a)],[],0)) (fun a=>(taskmilllaw_frameBegun_j1 a) = some r) (fun K3020 hK3020=>?_) ?_
 ·refine reg_f ?_
  refine rk 4 ?_
  refine run_br h 21 (.inl (by kernel_rfl)) (fun g3021 h=>?_) (fun g3021 h=>?_)
  ·refine rk 4 ?_
   refine run_br h 25 (.inl (by kernel_rfl)) (fun g3022 h=>?_) (fun g3022 h=>?_)
   ·refine rk 4 ?_
    refine run_br h 29 (.inl (by kernel_rfl)) (fun g3023 h=>?_) (fun g3023 h=>?_)
    ·refine rn 12 [(1,.own 3 0 r3014.2.2.2.length),(29,bS true)] [(0,.row 38 (fl ([(Deed.mk 2 1),(Deed.mk 5 5),(Deed.mk 3 7)]:List Deed))),(1,.row 38 (fl ([(Deed.mk 4 0)]:List Deed))),(2,.row 36 [.own 0 0 ([(Deed.mk 2 1),(Deed.mk 5 5),(Deed.mk 3 7)]:List Deed).length,.own 1 0 ([(Deed.mk 4 0)]:List Deed).length]),(3,.row 3 (fl r3014.2.2.2)),(4,.row 26 (Enc.cells r3014.2.2.1))] 5 (by kernel_rfl) ?_
     refine rk 2 ?_
     obtain ⟨r3024,hr3024,h⟩:=bind_sx h
     refine call_x (taskmillref_Ints_spec r3014.2.2.2 ([5,7]:List Int) r3024 hr3024) (args:=[.own 3 0 r3014.2.2.2.length,.own 5 0 ([5,7]:List Int).length]) (dst:=(some 32)) (by kernel_rfl) [(0,.row 38 (fl ([(Deed.mk 2 1),(Deed.mk 5 5),(Deed.mk 3 7)]:List Deed))),(1,.row 38 (fl ([(Deed.mk 4 0)]:List Deed))),(2,.row 36 [.own 0 0 ([(Deed.mk 2 1),(Deed.mk 5 5),(Deed.mk 3 7)]:List Deed).length,.own 1 0 ([(Deed.mk 4 0)]:List Deed).length]),(3,.row 3 (fl r3014.2.2.2)),(4,.row 26 (Enc.cells r3014.2.2.1)),(5,.row 3 (fl ([5,7]:List Int)))] 6 (by kernel_rfl) [] [3,5] (bS r3024) [] (by simp only [push_cast,seval]) (by simp only [push_cast,seval]) (by kernel_rfl) (.inr ⟨by simp only [push_cast,seval],by simp only [push_cast,seval]⟩) (by simp only [push_cast,seval]) (by simp only [push_cast,seval]) ?_
     refine rk 2 ?_
     refine rf [(0,bS r3024)] [(0,.row 38 (fl ([(Deed.mk 2 1),(Deed.mk 5 5),(Deed.mk 3 7)]:List Deed))),(1,.row 38 (fl ([(Deed.mk 4 0)]:List Deed))),(2,.row 36 [.own 0 0 ([(Deed.mk 2 1),(Deed.mk 5 5),(Deed.mk 3 7)]:List Deed).length,.own 1 0 ([(Deed.mk 4 0)]:List Deed).length]),(3,.row 3 (fl r3014.2.2.2)),(4,.row 26 (Enc.cells r3014.2.2.1)),(5,.row 3 (fl ([5,7]:List Int)))] 6 (by kernel_rfl) ?_
     exact hK3020 (r3024) _ _ _ h (leSt_m [] [] (by first | ((try simp only [g3021,g3022,g3023]) <;> simp only [push_cast,seval]; done) | ((try simp only [g3021]); (try simp only [g3022]); (try simp only [g3023]); simp only [push_cast,seval]; done) | (exfalso; clear h; simp_all; done)) (by first | ((try simp only [g3021,g3022,g3023]) <;> simp only [push_cast,seval]; done) | ((try simp only [g3021]); (try simp only [g3022]); (try simp only [g3023]); simp only [push_cast,seval]; done) | (exfalso; clear h; simp_all; done)) rfl rfl rfl)
    ·refine rn 12 [(1,.own 3 0 r3014.2.2.2.length),(29,bS false)] [(0,.row 38 (fl ([(Deed.mk 2 1),(Deed.mk 5 5),(Deed.mk 3 7)]:List Deed))),(1,.row 38 (fl ([(Deed.mk 4 0)]:List Deed))),(2,.row 36 [.own 0 0 ([(Deed.mk 2 1),(Deed.mk 5 5),(Deed.mk 3 7)]:List Deed).length,.own 1 0 ([(Deed.mk 4 0)]:List Deed).length]),(3,.row 3 (fl r3014.2.2.2)),(4,.row 26 (Enc.cells r3014.2.2.1))] 5 (by kernel_rfl) ?_
     refine rk 5 ?_
     refine rf [(0,bS false)] [(0,.row 38 (fl ([(Deed.mk 2 1),(Deed.mk 5 5),(Deed.mk 3 7)]:List Deed))),(1,.row 38 (fl ([(Deed.mk 4 0)]:List Deed))),(2,.row 36 [.own 0 0 ([(Deed.mk 2 1),(Deed.mk 5 5),(Deed.mk 3 7)]:List Deed).length,.own 1 0 ([(Deed.mk 4 0)]:List Deed).length]),(3,.row 3 (fl r3014.2.2.2)),(4,.row 26 (Enc.cells r3014.2.2.1))] 5 (by kernel_rfl) ?_
     exact hK3020 (false) _ _ _ h (leSt_m [] [] (by first | ((try simp only [g3021,g3022,g3023]) <;> simp only [push_cast,seval]; done) | ((try simp only [g3021]); (try simp only [g3022]); (try simp only [g3023]); simp only [push_cast,seval]; done) | (exfalso; clear h; simp_all; done)) (by first | ((try simp only [g3021,g3022,g3023]) <;> simp only [push_cast,seval]; done) | ((try simp only [g3021]); (try simp only [g3022]); (try simp only [g3023]); simp only [push_cast,seval]; done) | (exfalso; clear h; simp_all; done)) rfl rfl rfl)
   ·refine rk 9 ?_
    refine rf [(0,bS false)] [(0,.row 38 (fl ([(Deed.mk 2 1),(Deed.mk 5 5),(Deed.mk 3 7)]:List Deed))),(1,.row 38 (fl ([(Deed.mk 4 0)]:List Deed))),(2,.row 36 [.own 0 0 ([(Deed.mk 2 1),(Deed.mk 5 5),(Deed.mk 3 7)]:List Deed).length,.own 1 0 ([(Deed.mk 4 0)]:List Deed).length]),(3,.row 3 (fl r3014.2.2.2)),(4,.row 26 (Enc.cells r3014.2.2.1))] 5 (by kernel_rfl) ?_
    exact hK3020 (false) _ _ _ h (leSt_m [] [] (by first | ((try simp only [g3021,g3022]) <;> simp only [push_cast,seval]; done) | ((try simp only [g3021]); (try simp only [g3022]); simp only [push_cast,seval]; done) | (exfalso; clear h; simp_all; done)) (by first | ((try simp only [g3021,g3022]) <;> simp only [push_cast,seval]; done) | ((try simp only [g3021]); (try simp only [g3022]); simp only [push_cast,seval]; done) | (exfalso; clear h; simp_all; done)) rfl rfl rfl)
  ·refine rk 13 ?_
   refine rf [(0,bS false)] [(0,.row 38 (fl ([(Deed.mk 2 1),(Deed.mk 5 5),(Deed.mk 3 7)]:List Deed))),(1,.row 38 (fl ([(Deed.mk 4 0)]:List Deed))),(2,.row 36 [.own 0 0 ([(Deed.mk 2 1),(Deed.mk 5 5),(Deed.mk 3 7)]:List Deed).length,.own 1 0 ([(Deed.mk 4 0)]:List Deed).length]),(3,.row 3 (fl r3014.2.2.2)),(4,.row 26 (Enc.cells r3014.2.2.1))] 5 (by kernel_rfl) ?_
   exact hK3020 (false) _ _ _ h (leSt_m [] [] (by (try simp only [g3021]) <;> simp only [push_cast,seval]) (by (try simp only [g3021]) <;> simp only [push_cast,seval]) rfl rfl rfl)
 ·rintro t0q1 h
  try dsimp only at h ⊢
  unfold taskmilllaw_frameBegun_j1 at h
  obtain rfl:=Option.some.inj h
  refine ret_at (bS t0q1) (by kernel_rfl) ?_
  exact ret_e [] [] (by simp only [push_cast,seval]) (by simp only [push_cast,seval]) rfl rfl rfl

set_option maxRecDepth 100000 in
set_option maxHeartbeats 200000000 in
theorem taskmilllaw_vastDeeds_spec (l:(List (List Deed))) (r:Bool) (h:taskmilllaw_vastDeeds l = some r):SpecW Tryd.prog 9 [.sl l.length (fl l)] [] 0 (fun x h n=>x = bS r∧h = []∧n = 0):=by
 unfold taskmilllaw_vastDeeds at h
 refine spec_of (draw_ok _) Tryd.func9 rfl (by decide) rfl (by kernel_rfl) ?_
 refine seq_np ?_
 refine reg_f ?_
 refine rk 1 ?_
 refine rf [(0,.sl l.length (fl l))] [] 0 (by kernel_rfl) ?_
 refine wk_id ?_
 refine seq_np ?_
 refine seq_np ?_
 refine reg_f ?_
 refine rk 1 ?_
 refine rf [(0,.sl l.length (fl l)),(3,iS 0)] [] 0 (by kernel_rfl) ?_
 refine wk_id ?_
 refine block_np ?_
 refine loop_sx (S:=Int) (fun a=>([(0,.sl l.length (fl l)),(3,iS a)],[],0)) h (leSt_m [] [] (by simp only [push_cast,seval]) (by simp only [push_cast,seval]) rfl rfl rfl) ?_
 rintro i7 o2 R2 h hr2 hn2 hx2 ht2
 try dsimp only at h hn2 ⊢
 unfold taskmilllaw_vastDeeds_l1 at h
 try dsimp only at h
 refine seq_np ?_
 refine seq_np ?_
 refine reg_f ?_
 refine rk 4 ?_
 refine rf [(0,.sl l.length (fl l)),(3,iS i7),(7,bS (decide (i7 < (l.length:Int))))] [] 0 (by kernel_rfl) ?_
 refine wk_id ?_
 refine cond_sx h (by kernel_rfl) (fun g3087 h=>?_) (fun g3087 h=>?_)
 ·refine wk_id ?_
  refine seq_np ?_
  refine block_np ?_
  refine chk_sx h (fun g3085 h=>?_)
  refine seq_np ?_
  refine reg_f ?_
  have k3084:0≤i7∧i7 < (l.length:Int):=by first | simpa only [Bool.and_eq_true,decide_eq_true_eq,bne_iff_ne,ne_eq] using g3085 | (simp at g3085 ⊢; omega) | simp
  refine rs 6 [none,none,some ⟨.iptr (fl l) ((i7).toNat * 1),[],0,[]⟩,some ⟨.sl (ix l i7).length (fl (ix l i7)),[],0,[]⟩] _ (by kernel_rfl) (allP_cons (ob_ld l i7 1 0 ((i7).toNat * 1) k3084 rfl (by decide) (by first | rfl | omega) (dflS Tryd.prog 36) (.sl (ix l i7).length (fl (ix l i7))) rfl 0 []) (allP_cons (ob_ix_l l 1 0 i7 k3084) allP_nil)) ?_
  refine rf [(0,.sl l.length (fl l)),(3,iS i7),(15,bS (decide ((1000:Int) < (((ix l i7).length:Nat):Int))))] [] 0 (by kernel_rfl) ?_
  refine wk_id ?_
  refine cond_sx h (by kernel_rfl) (fun g3086 h=>?_) (fun g3086 h=>?_)
  ·refine seq_np ?_
   refine reg_f ?_
   refine rk 1 ?_
   refine rf [(2,bS true)] [] 0 (by kernel_rfl) ?_
   refine wk_id ?_
   refine rt_cast ht2 ?_
   obtain ⟨r0,h,e0⟩:=map_sx h
   have e1:=hr2 r0 e0.symm
   subst r0
   obtain rfl:=Option.some.inj h
   refine ret_at (bS true) (by kernel_rfl) ?_
   exact ret_e [] [] (by simp only [push_cast,seval]) (by simp only [push_cast,seval]) rfl rfl rfl
  ·refine wk_id ?_
   refine wk_id ?_
   refine reg_f ?_
   refine rk 3 ?_
   refine rf [(0,.sl l.length (fl l)),(3,iS (IntKind.i64.wrap (i7+1)))] [] 0 (by kernel_rfl) ?_
   exact hn2 ((IntKind.i64.wrap (i7+1))) _ _ _ (Option.some.inj h).symm (leSt_m [] [] (by simp only [push_cast,seval]) (by simp only [push_cast,seval]) rfl rfl rfl)
 ·change R2 (.exit 0) _ _ _
  refine ex_cast hx2 (id:=0) ?_
  obtain ⟨r0,h,e0⟩:=map_sx h
  have e1:=hr2 r0 e0.symm
  subst r0
  refine wk_id ?_
  refine wk_id ?_
  refine seq_np ?_
  refine reg_f ?_
  refine rk 4 ?_
  refine rf [(2,bS (decide ((1000:Int) < (l.length:Int))))] [] 0 (by kernel_rfl) ?_
  refine wk_id ?_
  obtain rfl:=Option.some.inj h
  refine ret_at (bS (decide ((1000:Int) < (l.length:Int)))) (by kernel_rfl) ?_
  exact ret_e [] [] (by simp only [push_cast,seval]) (by simp only [push_cast,seval]) rfl rfl rfl

set_option maxRecDepth 100000 in
set_option maxHeartbeats 200000000 in
theorem taskmilllaw_ownDeeds_spec (l:(List (List Deed))) (r:(List (List Deed))) (h:taskmilllaw_ownDeeds l = some r):SpecW Tryd.prog 11 [.sl l.length (fl l)] [] 0 (fun x h n=>x = .own 0 0 r.length∧h = [(0,.row 36 (flD dLListDeed [1] r)),((.s 1 0),.fam (famD dLListDeed 0 r))]∧n = 2):=by
 unfold taskmilllaw_ownDeeds at h
 refine spec_of (draw_ok _) Tryd.func11 rfl (by decide) rfl (by kernel_rfl) ?_
 refine seq_np ?_
 refine reg_f ?_
 refine rk 1 ?_
 refine rf [(0,.sl l.length (fl l))] [] 0 (by kernel_rfl) ?_
 refine wk_id ?_
 refine seq_np ?_
 refine reg_f ?_
 refine rk 1 ?_
 refine rf [(0,.sl l.length (fl l)),(3,.v (.slice none 0 0))] [] 0 (by kernel_rfl) ?_
 refine wk_id ?_
 refine seq_np ?_
 refine seq_np ?_
 refine reg_f ?_
 refine rk 1 ?_
 refine rf [(0,.sl l.length (fl l)),(3,.v (.slice none 0 0)),(4,iS 0)] [] 0 (by kernel_rfl) ?_
 refine wk_id ?_
 refine block_np ?_
 refine loop_sx (S:=Int×(List (List Deed))) (fun a=>([(0,.sl l.length (fl l)),(3,.own 0 0 a.2.length),(4,iS a.1)],[(0,.row 36 (flD dLListDeed [1] a.2)),((.s 1 0),.fam (famD dLListDeed 0 a.2))],2)) h (leSt_m [] [] (by simp only [push_cast,leL_flD,renL_flD,seval]) (by simp only [push_cast,leL_flD,renL_flD,seval]) rfl rfl rfl) ?_
 rintro ⟨i7,c0q8⟩ o2 R2 h hr2 hn2 hx2 ht2
 try dsimp only at h hn2 ⊢
 unfold taskmilllaw_ownDeeds_l1 at h
 try dsimp only at h
 refine seq_np ?_
 refine seq_np ?_
 refine reg_f ?_
 refine rk 4 ?_
 refine rf [(0,.sl l.length (fl l)),(3,.own 0 0 c0q8.length),(4,iS i7),(8,bS (decide (i7 < (l.length:Int))))] [(0,.row 36 (flD dLListDeed [1] c0q8)),((.s 1 0),.fam (famD dLListDeed 0 c0q8))] 2 (by kernel_rfl) ?_
 refine wk_id ?_
 refine cond_sx h (by kernel_rfl) (fun g3196 h=>?_) (fun g3196 h=>?_)
 ·refine wk_id ?_
  refine seq_np ?_
  refine block_np ?_
  refine chk_sx h (fun g3191 h=>?_)
  refine chk_sx h (fun g3193 h=>?_)
  refine chk_sx h (fun g3195 h=>?_)
  refine reg_f ?_
  have k3190:0≤i7∧i7 < (l.length:Int):=by first | simpa only [Bool.and_eq_true,decide_eq_true_eq,bne_iff_ne,ne_eq] using g3191 | (simp at g3191 ⊢; omega) | simp
  have k3192:(ix l i7).length * 16≤140737488355328:=by first | simpa only [Bool.and_eq_true,decide_eq_true_eq,bne_iff_ne,ne_eq] using g3193 | (simp at g3193 ⊢; omega) | simp
  have k3194:(c0q8++[((ix l i7):(List Deed))]).length * 24≤140737488355328:=by first | simpa only [Bool.and_eq_true,decide_eq_true_eq,bne_iff_ne,ne_eq] using g3195 | (simp at g3195 ⊢; omega) | simp
  refine rs 7 [none,none,none,some ⟨.iptr (fl l) ((i7).toNat * 1),[],2,[]⟩,some ⟨.sl (ix l i7).length (fl (ix l i7)),[],2,[]⟩,some ⟨.own 2 0 (ix l i7).length,[(2,.row 38 (fl (ix l i7)))],3,[]⟩] _ (by kernel_rfl) (allP_cons (ob_app0 (P:=Tryd.prog) (ix l i7) 2 16 rfl (fl (ix l i7)) (ix l i7).length rfl rfl ((fl (ix l i7)).length = (ix l i7).length * 2) (app_sl (ix l i7) 2 rfl) 38 (by kernel_rfl) (by decide) k3192 2 []) (allP_cons (ob_ld l i7 1 0 ((i7).toNat * 1) k3190 rfl (by decide) (by first | rfl | omega) (dflS Tryd.prog 36) (.sl (ix l i7).length (fl (ix l i7))) rfl 2 []) (allP_cons (ob_ix_l l 1 2 i7 k3190) allP_nil))) ?_
  refine run_opG (some 18) _ ⟨.own 4 0 (c0q8++[((ix l i7):(List Deed))]).length,[(4,.row 36 (flN dLListDeed (nA [(some 1)] [(some (Nm.t 2))] (c0q8.length:Int)) 0 (c0q8++[((ix l i7):(List Deed))]))),(0,.dead)],5,[0,3]⟩ [((.s 5 0),.fam (famD dLListDeed 0 (c0q8++[((ix l i7):(List Deed))]))),(4,.row 36 (flD dLListDeed [5] (c0q8++[((ix l i7):(List Deed))]))),((.s 1 0),.dead),(2,.dead)] 1 [4,(.s 1 0),2] [(.s 1 0),2] (by kernel_rfl) (ob_appN (P:=Tryd.prog) dLListDeed [1] [(some (Nm.t 2))] c0q8 ((ix l i7):(List Deed)) 1 24 rfl (appCells ([.own 2 0 (ix l i7).length]:List SV) 0 (1 * 1)) rfl rfl rfl (0+1 * 1≤([.own 2 0 (ix l i7).length]:List SV).length) (by first | exact (Nat.le_of_ble_eq_true rfl:0+1 * 1≤([.own 2 0 (ix l i7).length]:List SV).length) | decide) 36 (by kernel_rfl) (by decide) k3194 0 4 [3]) (ghost_A 5 dLListDeed (c0q8++[((ix l i7):(List Deed))]) 4 36 [(some 1)] [(some (Nm.t 2))] (c0q8.length:Int) (flD dLListDeed [5] (c0q8++[((ix l i7):(List Deed))])) 0 (some 1) (some 2) (by kernel_rfl) (flN_done dLListDeed [5] (c0q8.length:Int) (c0q8++[((ix l i7):(List Deed))]) rfl) (by kernel_rfl) ⟨_,(by kernel_rfl),off_app _ _⟩ (S_app (fun a=>getH _ (.t 2) = chD dLListDeed 0 a) rfl)) (by kernel_rfl) ?_
  refine rk 1 ?_
  refine rf [(0,.sl l.length (fl l)),(3,.own 4 0 (c0q8++[((ix l i7):(List Deed))]).length),(4,iS i7)] [(0,.dead),((.s 1 0),.dead),(2,.dead),(3,.row 36 [.own 2 0 (ix l i7).length]),(4,.row 36 (flD dLListDeed [5] (c0q8++[((ix l i7):(List Deed))]))),((.s 5 0),.fam (famD dLListDeed 0 (c0q8++[((ix l i7):(List Deed))])))] 6 (by kernel_rfl) ?_
  refine wk_id ?_
  refine wk_id ?_
  refine reg_f ?_
  refine rk 3 ?_
  refine rf [(0,.sl l.length (fl l)),(3,.own 4 0 (c0q8++[((ix l i7):(List Deed))]).length),(4,iS (IntKind.i64.wrap (i7+1)))] [(0,.dead),((.s 1 0),.dead),(2,.dead),(3,.row 36 [.own 2 0 (ix l i7).length]),(4,.row 36 (flD dLListDeed [5] (c0q8++[((ix l i7):(List Deed))]))),((.s 5 0),.fam (famD dLListDeed 0 (c0q8++[((ix l i7):(List Deed))])))] 6 (by kernel_rfl) ?_
  exact hn2 ((IntKind.i64.wrap (i7+1)),(c0q8++[((ix l i7):(List Deed))])) _ _ _ (Option.some.inj h).symm (leSt_m [(0,4),((.s 1 0),(.s 5 0))] [] (by simp only [push_cast,leL_flD,renL_flD,seval]) (by simp only [push_cast,leL_flD,renL_flD,seval]) rfl rfl rfl)
 ·change R2 (.exit 0) _ _ _
  refine ex_cast hx2 (id:=0) ?_
  obtain ⟨r0,h,e0⟩:=map_sx h
  have e1:=hr2 r0 e0.symm
  subst r0
  refine wk_id ?_
  refine wk_id ?_
  refine seq_np ?_
  refine reg_f ?_
  refine rk 2 ?_
  refine rf [(2,.own 0 0 c0q8.length)] [(0,.row 36 (flD dLListDeed [1] c0q8)),((.s 1 0),.fam (famD dLListDeed 0 c0q8))] 2 (by kernel_rfl) ?_
  refine wk_id ?_
  obtain rfl:=Option.some.inj h
  refine ret_at (.own 0 0 c0q8.length) (by kernel_rfl) ?_
  exact ret_e [(0,0),((.s 1 0),(.s 1 0))] [] (by simp only [push_cast,leL_flD,renL_flD,seval]) (by simp only [push_cast,leL_flD,renL_flD,seval]) rfl rfl rfl

set_option maxRecDepth 100000 in
set_option maxHeartbeats 200000000 in
theorem taskmillref_F_spec (code:Int) (xat:Int) (r:Fault) (h:taskmillref_F code xat = some r):SpecW Tryd.prog 15 [iS code,iS xat] [] 0 (fun x h n=>x = .agg (Enc.cells r)∧h = []∧n = 0):=by
 unfold taskmillref_F at h
 refine spec_of (draw_ok _) Tryd.func15 rfl (by decide) rfl (by kernel_rfl) ?_
 refine seq_np ?_
 refine reg_f ?_
 refine rk 1 ?_
 refine rf [(0,iS code),(1,iS xat),(4,.ptr 0 0)] [(0,.row 26 [iS 0,iS 0])] 1 (by kernel_rfl) ?_
 refine wk_id ?_
 refine seq_np ?_
 refine reg_f ?_
 refine rk 4 ?_
 refine rf [(4,.ptr 0 0)] [(0,.row 26 [iS code,iS xat])] 1 (by kernel_rfl) ?_
 refine wk_id ?_
 obtain rfl:=Option.some.inj h
 refine ret_at (.agg [iS code,iS xat]) (by kernel_rfl) ?_
 exact ret_e [] [] (by simp only [push_cast,leL_flD,renL_flD,seval]) (by simp only [push_cast,leL_flD,renL_flD,seval]) rfl rfl rfl

set_option maxRecDepth 100000 in
set_option maxHeartbeats 200000000 in
theorem taskmillref_DeedsFault_spec (funcs:(List (List Deed))) (r:Fault) (h:taskmillref_DeedsFault funcs = some r):SpecW Tryd.prog 13 [.sl funcs.length (fl funcs)] [] 0 (fun x h n=>x = .agg (Enc.cells r)∧h = []∧n = 0):=by
 unfold taskmillref_DeedsFault at h
 refine spec_of (draw_ok _) Tryd.func13 rfl (by decide) rfl (by kernel_rfl) ?_
 refine seq_np ?_
 refine reg_f ?_
 refine rk 1 ?_
 refine rf [(0,.sl funcs.length (fl funcs)),(2,.ptr 0 0)] [(0,.row 26 [iS 0,iS 0])] 1 (by kernel_rfl) ?_
 refine wk_id ?_
 refine seq_np ?_
 refine seq_cut (A:=Unit) (fun _=>([(0,.sl funcs.length (fl funcs)),(2,.ptr 0 0),(13,bS ((decide ((funcs.length:Int) < 1)) || (decide ((50:Int) < (funcs.length:Int)))))],[(0,.row 26 [iS 0,iS 0])],1)) (fun _=>True) (fun K3389 hK3389=>?_) (fun _ _=>?_)
 ·refine reg_f ?_
  refine rk 4 ?_
  refine run_split 9 (decide ((funcs.length:Int) < 1)) (.inl (by kernel_rfl)) (fun g3390=>?_) (fun g3390=>?_)
  ·refine rk 4 ?_
   refine rf [(0,.sl funcs.length (fl funcs)),(2,.ptr 0 0),(13,bS true)] [(0,.row 26 [iS 0,iS 0])] 1 (by kernel_rfl) ?_
   exact hK3389 () _ _ _ trivial (leSt_m [(0,0)] [] (by (try simp only [g3390]) <;> simp only [push_cast,leL_flD,renL_flD,seval]) (by (try simp only [g3390]) <;> simp only [push_cast,leL_flD,renL_flD,seval]) rfl rfl rfl)
  ·refine rk 4 ?_
   refine rf [(0,.sl funcs.length (fl funcs)),(2,.ptr 0 0),(13,bS (decide ((50:Int) < (funcs.length:Int))))] [(0,.row 26 [iS 0,iS 0])] 1 (by kernel_rfl) ?_
   exact hK3389 () _ _ _ trivial (leSt_m [(0,0)] [] (by (try simp only [g3390]) <;> simp only [push_cast,leL_flD,renL_flD,seval]) (by (try simp only [g3390]) <;> simp only [push_cast,leL_flD,renL_flD,seval]) rfl rfl rfl)
 ·dsimp only
  refine cond_sx h (by kernel_rfl) (fun g4174 h=>?_) (fun g4174 h=>?_)
  ·refine seq_np ?_
   refine reg_f ?_
   obtain ⟨r3392,hr3392,h⟩:=bind_sx h
   refine run_call 15 [iS 2,iS 0] (some 14) (by kernel_rfl) ?_
   refine call_0 (taskmillref_F_spec 2 0 r3392 hr3392) (by simp only [push_cast,leL_flD,renL_flD,seval]) (by simp only [push_cast,leL_flD,renL_flD,seval]) ?_
   refine back_f ?_
   refine rk 1 ?_
   refine rf [(2,.ptr 0 0)] [(0,.row 26 (Enc.cells r3392))] 1 (by kernel_rfl) ?_
   refine wk_id ?_
   obtain rfl:=Option.some.inj h
   refine ret_at (.agg (Enc.cells r3392)) (by kernel_rfl) ?_
   exact ret_e [] [] (by simp only [push_cast,leL_flD,renL_flD,seval]) (by simp only [push_cast,leL_flD,renL_flD,seval]) rfl rfl rfl
  ·refine wk_id ?_
   refine seq_np ?_
   refine seq_np ?_
   refine reg_f ?_
   refine rk 1 ?_
   refine rf [(0,.sl funcs.length (fl funcs)),(2,.ptr 0 0),(3,iS 0)] [(0,.row 26 [iS 0,iS 0])] 1 (by kernel_rfl) ?_
   refine wk_id ?_
   refine block_np ?_
   refine loop_sx (S:=Int) (fun a=>([(0,.sl funcs.length (fl funcs)),(2,.ptr 0 0),(3,iS a)],[(0,.row 26 [iS 0,iS 0])],1)) h (leSt_m [(0,0)] [] (by simp only [push_cast,leL_flD,renL_flD,seval]) (by simp only [push_cast,leL_flD,renL_flD,seval]) rfl rfl rfl) ?_
   rintro i7 o3 R3 h hr3 hn3 hx3 ht3
   try dsimp only at h hn3 ⊢
   unfold taskmillref_DeedsFault_l2 at h
   try dsimp only at h
   refine seq_np ?_
   refine seq_np ?_
   refine reg_f ?_
   refine rk 4 ?_
   refine rf [(0,.sl funcs.length (fl funcs)),(2,.ptr 0 0),(3,iS i7),(18,bS (decide (i7 < (funcs.length:Int))))] [(0,.row 26 [iS 0,iS 0])] 1 (by kernel_rfl) ?_
   refine wk_id ?_
   refine cond_sx h (by kernel_rfl) (fun g4173 h=>?_) (fun g4173 h=>?_)
   ·refine wk_id ?_
    refine seq_np ?_
    refine block_np ?_
    refine seq_np ?_
    refine chk_sx h (fun g4002 h=>?_)
    refine seq_np ?_
    refine reg_f ?_
    have k4001:0≤i7∧i7 < (funcs.length:Int):=by first | simpa only [Bool.and_eq_true,decide_eq_true_eq,bne_iff_ne,ne_eq] using g4002 | (simp at g4002 ⊢; omega) | simp
    refine rs 6 [none,none,some ⟨.iptr (fl funcs) ((i7).toNat * 1),[],1,[]⟩,some ⟨.sl (ix funcs i7).length (fl (ix funcs i7)),[],1,[]⟩] _ (by kernel_rfl) (allP_cons (ob_ld funcs i7 1 0 ((i7).toNat * 1) k4001 rfl (by decide) (by first | rfl | omega) (dflS Tryd.prog 36) (.sl (ix funcs i7).length (fl (ix funcs i7))) rfl 1 []) (allP_cons (ob_ix_l funcs 1 1 i7 k4001) allP_nil)) ?_
    refine rf [(0,.sl funcs.length (fl funcs)),(2,.ptr 0 0),(3,iS i7),(26,bS (decide ((100:Int) < (((ix funcs i7).length:Nat):Int))))] [(0,.row 26 [iS 0,iS 0])] 1 (by kernel_rfl) ?_
    refine wk_id ?_
    refine cond_sx h (by kernel_rfl) (fun g4172 h=>?_) (fun g4172 h=>?_)
    ·refine seq_np ?_
     refine reg_f ?_
     refine rk 1 ?_
     obtain ⟨r4004,hr4004,h⟩:=bind_sx h
     refine run_call 15 [iS 8,iS i7] (some 28) (by kernel_rfl) ?_
     refine call_0 (taskmillref_F_spec 8 i7 r4004 hr4004) (by simp only [push_cast,leL_flD,renL_flD,seval]) (by simp only [push_cast,leL_flD,renL_flD,seval]) ?_
     refine back_f ?_
     refine rk 1 ?_
     refine rf [(2,.ptr 0 0)] [(0,.row 26 (Enc.cells r4004))] 1 (by kernel_rfl) ?_
     refine wk_id ?_
     refine rt_cast ht3 ?_
     obtain ⟨r0,h,e0⟩:=map_sx h
     have e1:=hr3 r0 e0.symm
     subst r0
     obtain rfl:=Option.some.inj h
     refine ret_at (.agg (Enc.cells r4004)) (by kernel_rfl) ?_
     exact ret_e [] [] (by simp only [push_cast,leL_flD,renL_flD,seval]) (by simp only [push_cast,leL_flD,renL_flD,seval]) rfl rfl rfl
    ·refine wk_id ?_
     refine seq_np ?_
     refine reg_f ?_
     refine rk 1 ?_
     refine rf [(0,.sl funcs.length (fl funcs)),(2,.ptr 0 0),(3,iS i7),(4,iS 0)] [(0,.row 26 [iS 0,iS 0])] 1 (by kernel_rfl) ?_
     refine wk_id ?_
     refine block_np ?_
     refine loop_sx (S:=Int) (fun a=>([(0,.sl funcs.length (fl funcs)),(2,.ptr 0 0),(3,iS i7),(4,iS a)],[(0,.row 26 [iS 0,iS 0])],1)) h (leSt_m [(0,0)] [] (by simp only [push_cast,leL_flD,renL_flD,seval]) (by simp only [push_cast,leL_flD,renL_flD,seval]) rfl rfl rfl) ?_
     rintro k29 o4 R4 h hr4 hn4 hx4 ht4
     try dsimp only at h hn4 ⊢
     unfold taskmillref_DeedsFault_l1 at h
     try dsimp only at h
     refine seq_np ?_
     refine chk_sx h (fun g4103 h=>?_)
     refine seq_np ?_
     refine reg_f ?_
     have k4102:0≤i7∧i7 < (funcs.length:Int):=by first | simpa only [Bool.and_eq_true,decide_eq_true_eq,bne_iff_ne,ne_eq] using g4103 | (simp at g4103 ⊢; omega) | simp
     refine rs 7 [none,none,none,some ⟨.iptr (fl funcs) ((i7).toNat * 1),[],1,[]⟩,some ⟨.sl (ix funcs i7).length (fl (ix funcs i7)),[],1,[]⟩] _ (by kernel_rfl) (allP_cons (ob_ld funcs i7 1 0 ((i7).toNat * 1) k4102 rfl (by decide) (by first | rfl | omega) (dflS Tryd.prog 36) (.sl (ix funcs i7).length (fl (ix funcs i7))) rfl 1 []) (allP_cons (ob_ix_l funcs 1 1 i7 k4102) allP_nil)) ?_
     refine rf [(0,.sl funcs.length (fl funcs)),(2,.ptr 0 0),(3,iS i7),(4,iS k29),(35,bS (decide (k29 < (((ix funcs i7).length:Nat):Int))))] [(0,.row 26 [iS 0,iS 0])] 1 (by kernel_rfl) ?_
     refine wk_id ?_
     refine cond_sx h (by kernel_rfl) (fun g4171 h=>?_) (fun g4171 h=>?_)
     ·refine wk_id ?_
      refine seq_np ?_
      refine block_np ?_
      refine chk_sx h (fun g4139 h=>?_)
      refine chk_sx h (fun g4141 h=>?_)
      refine seq_np ?_
      refine reg_f ?_
      have k4138:0≤i7∧i7 < (funcs.length:Int):=by first | simpa only [Bool.and_eq_true,decide_eq_true_eq,bne_iff_ne,ne_eq] using g4139 | (simp at g4139 ⊢; omega) | simp
      have k4140:0≤k29∧k29 < (((ix funcs i7).length:Nat):Int):=by first | simpa only [Bool.and_eq_true,decide_eq_true_eq,bne_iff_ne,ne_eq] using g4141 | (simp at g4141 ⊢; omega) | simp
      refine rs 9 [none,none,some ⟨.iptr (fl funcs) ((i7).toNat * 1),[],1,[]⟩,some ⟨.sl (ix funcs i7).length (fl (ix funcs i7)),[],1,[]⟩,none,some ⟨.iptr (fl (ix funcs i7)) ((k29).toNat * 2),[],1,[]⟩,some ⟨.agg (Enc.cells (ix (ix funcs i7) k29)),[],1,[]⟩] _ (by kernel_rfl) (allP_cons (ob_ldw (ix funcs i7) k29 2 ((k29).toNat * 2) k4140 rfl (by first | rfl | omega) (Enc.cells (ix (ix funcs i7) k29)) rfl 1 []) (allP_cons (ob_ix_l (ix funcs i7) 2 1 k29 k4140) (allP_cons (ob_ld funcs i7 1 0 ((i7).toNat * 1) k4138 rfl (by decide) (by first | rfl | omega) (dflS Tryd.prog 36) (.sl (ix funcs i7).length (fl (ix funcs i7))) rfl 1 []) (allP_cons (ob_ix_l funcs 1 1 i7 k4138) allP_nil)))) ?_
      refine rf [(0,.sl funcs.length (fl funcs)),(2,.ptr 0 0),(3,iS i7),(4,iS k29),(5,.ptr 1 0)] [(0,.row 26 [iS 0,iS 0]),(1,.row 38 (Enc.cells (ix (ix funcs i7) k29)))] 2 (by kernel_rfl) ?_
      refine wk_id ?_
      refine seq_np ?_
      refine seq_cut (A:=Unit) (fun _=>([(0,.sl funcs.length (fl funcs)),(2,.ptr 0 0),(3,iS i7),(4,iS k29),(5,.ptr 1 0),(52,bS ((decide ((ix (ix funcs i7) k29).Op < 1)) || (decide ((6:Int) < (ix (ix funcs i7) k29).Op))))],[(0,.row 26 [iS 0,iS 0]),(1,.row 38 (Enc.cells (ix (ix funcs i7) k29)))],2)) (fun _=>True) (fun K4146 hK4146=>?_) (fun _ _=>?_)
      ·refine reg_f ?_
       refine rk 4 ?_
       refine run_split 48 (decide ((ix (ix funcs i7) k29).Op < 1)) (.inl (by kernel_rfl)) (fun g4147=>?_) (fun g4147=>?_)
       ·refine rk 4 ?_
        refine rf [(0,.sl funcs.length (fl funcs)),(2,.ptr 0 0),(3,iS i7),(4,iS k29),(5,.ptr 1 0),(52,bS true)] [(0,.row 26 [iS 0,iS 0]),(1,.row 38 (Enc.cells (ix (ix funcs i7) k29)))] 2 (by kernel_rfl) ?_
        exact hK4146 () _ _ _ trivial (leSt_m [(0,0),(1,1)] [] (by (try simp only [g4147]) <;> simp only [push_cast,leL_flD,renL_flD,seval]) (by (try simp only [g4147]) <;> simp only [push_cast,leL_flD,renL_flD,seval]) rfl rfl rfl)
       ·refine rk 4 ?_
        refine rf [(0,.sl funcs.length (fl funcs)),(2,.ptr 0 0),(3,iS i7),(4,iS k29),(5,.ptr 1 0),(52,bS (decide ((6:Int) < (ix (ix funcs i7) k29).Op)))] [(0,.row 26 [iS 0,iS 0]),(1,.row 38 (Enc.cells (ix (ix funcs i7) k29)))] 2 (by kernel_rfl) ?_
        exact hK4146 () _ _ _ trivial (leSt_m [(0,0),(1,1)] [] (by (try simp only [g4147]) <;> simp only [push_cast,leL_flD,renL_flD,seval]) (by (try simp only [g4147]) <;> simp only [push_cast,leL_flD,renL_flD,seval]) rfl rfl rfl)
      ·dsimp only
       refine cond_sx h (by kernel_rfl) (fun g4170 h=>?_) (fun g4170 h=>?_)
       ·refine seq_np ?_
        refine reg_f ?_
        refine rk 1 ?_
        obtain ⟨r4149,hr4149,h⟩:=bind_sx h
        refine run_call 15 [iS 4,iS i7] (some 54) (by kernel_rfl) ?_
        refine call_0 (taskmillref_F_spec 4 i7 r4149 hr4149) (by simp only [push_cast,leL_flD,renL_flD,seval]) (by simp only [push_cast,leL_flD,renL_flD,seval]) ?_
        refine back_f ?_
        refine rk 1 ?_
        refine rf [(2,.ptr 0 0)] [(0,.row 26 (Enc.cells r4149)),(1,.row 38 (Enc.cells (ix (ix funcs i7) k29)))] 2 (by kernel_rfl) ?_
        refine wk_id ?_
        refine rt_cast ht4 ?_
        obtain ⟨r0,h,e0⟩:=map_sx h
        have e1:=hr4 r0 e0.symm
        subst r0
        refine rt_cast ht3 ?_
        obtain ⟨r0,h,e0⟩:=map_sx h
        have e1:=hr3 r0 e0.symm
        subst r0
        obtain rfl:=Option.some.inj h
        refine ret_at (.agg (Enc.cells r4149)) (by kernel_rfl) ?_
        exact ret_e [] [] (by simp only [push_cast,leL_flD,renL_flD,seval]) (by simp only [push_cast,leL_flD,renL_flD,seval]) rfl rfl rfl
       ·refine wk_id ?_
        refine seq_np ?_
        refine seq_cut (A:=Unit) (fun _=>([(0,.sl funcs.length (fl funcs)),(2,.ptr 0 0),(3,iS i7),(4,iS k29),(5,.ptr 1 0),(69,bS ((decide ((ix (ix funcs i7) k29).Op≤2)) && ((decide ((ix (ix funcs i7) k29).A < 0)) || (decide ((funcs.length:Int)≤(ix (ix funcs i7) k29).A)))))],[(0,.row 26 [iS 0,iS 0]),(1,.row 38 (Enc.cells (ix (ix funcs i7) k29)))],2)) (fun _=>True) (fun K4156 hK4156=>?_) (fun _ _=>?_)
        ·refine reg_f ?_
         refine rk 4 ?_
         refine run_split 58 (decide ((ix (ix funcs i7) k29).Op≤2)) (.inl (by kernel_rfl)) (fun g4157=>?_) (fun g4157=>?_)
         ·refine rk 4 ?_
          refine run_split 62 (decide ((ix (ix funcs i7) k29).A < 0)) (.inr (by kernel_rfl)) (fun g4158=>?_) (fun g4158=>?_)
          ·refine rk 7 ?_
           refine rf [(0,.sl funcs.length (fl funcs)),(2,.ptr 0 0),(3,iS i7),(4,iS k29),(5,.ptr 1 0),(69,bS true)] [(0,.row 26 [iS 0,iS 0]),(1,.row 38 (Enc.cells (ix (ix funcs i7) k29)))] 2 (by kernel_rfl) ?_
           exact hK4156 () _ _ _ trivial (leSt_m [(0,0),(1,1)] [] (by first | ((try simp only [g4157,g4158]) <;> simp only [push_cast,leL_flD,renL_flD,seval]; done) | ((try simp only [g4157]); (try simp only [g4158]); simp only [push_cast,leL_flD,renL_flD,seval]; done) | (exfalso; clear h; simp_all; done)) (by first | ((try simp only [g4157,g4158]) <;> simp only [push_cast,leL_flD,renL_flD,seval]; done) | ((try simp only [g4157]); (try simp only [g4158]); simp only [push_cast,leL_flD,renL_flD,seval]; done) | (exfalso; clear h; simp_all; done)) rfl rfl rfl)
          ·refine rk 7 ?_
           refine rf [(0,.sl funcs.length (fl funcs)),(2,.ptr 0 0),(3,iS i7),(4,iS k29),(5,.ptr 1 0),(69,bS (decide ((funcs.length:Int)≤(ix (ix funcs i7) k29).A)))] [(0,.row 26 [iS 0,iS 0]),(1,.row 38 (Enc.cells (ix (ix funcs i7) k29)))] 2 (by kernel_rfl) ?_
           exact hK4156 () _ _ _ trivial (leSt_m [(0,0),(1,1)] [] (by first | ((try simp only [g4157,g4158]) <;> simp only [push_cast,leL_flD,renL_flD,seval]; done) | ((try simp only [g4157]); (try simp only [g4158]); simp only [push_cast,leL_flD,renL_flD,seval]; done) | (exfalso; clear h; simp_all; done)) (by first | ((try simp only [g4157,g4158]) <;> simp only [push_cast,leL_flD,renL_flD,seval]; done) | ((try simp only [g4157]); (try simp only [g4158]); simp only [push_cast,leL_flD,renL_flD,seval]; done) | (exfalso; clear h; simp_all; done)) rfl rfl rfl)
         ·refine rk 11 ?_
          refine rf [(0,.sl funcs.length (fl funcs)),(2,.ptr 0 0),(3,iS i7),(4,iS k29),(5,.ptr 1 0),(69,bS false)] [(0,.row 26 [iS 0,iS 0]),(1,.row 38 (Enc.cells (ix (ix funcs i7) k29)))] 2 (by kernel_rfl) ?_
          exact hK4156 () _ _ _ trivial (leSt_m [(0,0),(1,1)] [] (by (try simp only [g4157]) <;> simp only [push_cast,leL_flD,renL_flD,seval]) (by (try simp only [g4157]) <;> simp only [push_cast,leL_flD,renL_flD,seval]) rfl rfl rfl)
        ·dsimp only
         refine cond_sx h (by kernel_rfl) (fun g4169 h=>?_) (fun g4169 h=>?_)
         ·refine seq_np ?_
          refine reg_f ?_
          refine rk 1 ?_
          obtain ⟨r4160,hr4160,h⟩:=bind_sx h
          refine run_call 15 [iS 3,iS i7] (some 71) (by kernel_rfl) ?_
          refine call_0 (taskmillref_F_spec 3 i7 r4160 hr4160) (by simp only [push_cast,leL_flD,renL_flD,seval]) (by simp only [push_cast,leL_flD,renL_flD,seval]) ?_
          refine back_f ?_
          refine rk 1 ?_
          refine rf [(2,.ptr 0 0)] [(0,.row 26 (Enc.cells r4160)),(1,.row 38 (Enc.cells (ix (ix funcs i7) k29)))] 2 (by kernel_rfl) ?_
          refine wk_id ?_
          refine rt_cast ht4 ?_
          obtain ⟨r0,h,e0⟩:=map_sx h
          have e1:=hr4 r0 e0.symm
          subst r0
          refine rt_cast ht3 ?_
          obtain ⟨r0,h,e0⟩:=map_sx h
          have e1:=hr3 r0 e0.symm
          subst r0
          obtain rfl:=Option.some.inj h
          refine ret_at (.agg (Enc.cells r4160)) (by kernel_rfl) ?_
          exact ret_e [] [] (by simp only [push_cast,leL_flD,renL_flD,seval]) (by simp only [push_cast,leL_flD,renL_flD,seval]) rfl rfl rfl
         ·refine wk_id ?_
          refine seq_cut (A:=Unit) (fun _=>([(0,.sl funcs.length (fl funcs)),(2,.ptr 0 0),(3,iS i7),(4,iS k29),(84,bS (bif ((ix (ix funcs i7) k29).Op == 4) then ((ix (ix funcs i7) k29).A != 0) else (((ix (ix funcs i7) k29).Op == 6) && ((ix (ix funcs i7) k29).A != 0))))],[(0,.row 26 [iS 0,iS 0]),(1,.row 38 (Enc.cells (ix (ix funcs i7) k29)))],2)) (fun _=>True) (fun K4163 hK4163=>?_) (fun _ _=>?_)
          ·refine reg_f ?_
           refine rk 4 ?_
           refine run_split 75 ((ix (ix funcs i7) k29).Op == 4) (.inl (by kernel_rfl)) (fun g4164=>?_) (fun g4164=>?_)
           ·refine rk 9 ?_
            refine rf [(0,.sl funcs.length (fl funcs)),(2,.ptr 0 0),(3,iS i7),(4,iS k29),(84,bS ((ix (ix funcs i7) k29).A != 0))] [(0,.row 26 [iS 0,iS 0]),(1,.row 38 (Enc.cells (ix (ix funcs i7) k29)))] 2 (by kernel_rfl) ?_
            exact hK4163 () _ _ _ trivial (leSt_m [(0,0),(1,1)] [] (by (try simp only [g4164]) <;> simp only [push_cast,leL_flD,renL_flD,seval]) (by (try simp only [g4164]) <;> simp only [push_cast,leL_flD,renL_flD,seval]) rfl rfl rfl)
           ·refine rk 5 ?_
            refine run_split 80 ((ix (ix funcs i7) k29).Op == 6) (.inl (by kernel_rfl)) (fun g4165=>?_) (fun g4165=>?_)
            ·refine rk 4 ?_
             refine rf [(0,.sl funcs.length (fl funcs)),(2,.ptr 0 0),(3,iS i7),(4,iS k29),(84,bS ((ix (ix funcs i7) k29).A != 0))] [(0,.row 26 [iS 0,iS 0]),(1,.row 38 (Enc.cells (ix (ix funcs i7) k29)))] 2 (by kernel_rfl) ?_
             exact hK4163 () _ _ _ trivial (leSt_m [(0,0),(1,1)] [] (by first | ((try simp only [g4164,g4165]) <;> simp only [push_cast,leL_flD,renL_flD,seval]; done) | ((try simp only [g4164]); (try simp only [g4165]); simp only [push_cast,leL_flD,renL_flD,seval]; done) | (exfalso; clear h; simp_all; done)) (by first | ((try simp only [g4164,g4165]) <;> simp only [push_cast,leL_flD,renL_flD,seval]; done) | ((try simp only [g4164]); (try simp only [g4165]); simp only [push_cast,leL_flD,renL_flD,seval]; done) | (exfalso; clear h; simp_all; done)) rfl rfl rfl)
            ·refine rk 4 ?_
             refine rf [(0,.sl funcs.length (fl funcs)),(2,.ptr 0 0),(3,iS i7),(4,iS k29),(84,bS false)] [(0,.row 26 [iS 0,iS 0]),(1,.row 38 (Enc.cells (ix (ix funcs i7) k29)))] 2 (by kernel_rfl) ?_
             exact hK4163 () _ _ _ trivial (leSt_m [(0,0),(1,1)] [] (by first | ((try simp only [g4164,g4165]) <;> simp only [push_cast,leL_flD,renL_flD,seval]; done) | ((try simp only [g4164]); (try simp only [g4165]); simp only [push_cast,leL_flD,renL_flD,seval]; done) | (exfalso; clear h; simp_all; done)) (by first | ((try simp only [g4164,g4165]) <;> simp only [push_cast,leL_flD,renL_flD,seval]; done) | ((try simp only [g4164]); (try simp only [g4165]); simp only [push_cast,leL_flD,renL_flD,seval]; done) | (exfalso; clear h; simp_all; done)) rfl rfl rfl)
          ·dsimp only
           refine cond_sx h (by kernel_rfl) (fun g4168 h=>?_) (fun g4168 h=>?_)
           ·refine seq_np ?_
            refine reg_f ?_
            refine rk 1 ?_
            obtain ⟨r4167,hr4167,h⟩:=bind_sx h
            refine run_call 15 [iS 5,iS i7] (some 86) (by kernel_rfl) ?_
            refine call_0 (taskmillref_F_spec 5 i7 r4167 hr4167) (by simp only [push_cast,leL_flD,renL_flD,seval]) (by simp only [push_cast,leL_flD,renL_flD,seval]) ?_
            refine back_f ?_
            refine rk 1 ?_
            refine rf [(2,.ptr 0 0)] [(0,.row 26 (Enc.cells r4167)),(1,.row 38 (Enc.cells (ix (ix funcs i7) k29)))] 2 (by kernel_rfl) ?_
            refine wk_id ?_
            refine rt_cast ht4 ?_
            obtain ⟨r0,h,e0⟩:=map_sx h
            have e1:=hr4 r0 e0.symm
            subst r0
            refine rt_cast ht3 ?_
            obtain ⟨r0,h,e0⟩:=map_sx h
            have e1:=hr3 r0 e0.symm
            subst r0
            obtain rfl:=Option.some.inj h
            refine ret_at (.agg (Enc.cells r4167)) (by kernel_rfl) ?_
            exact ret_e [] [] (by simp only [push_cast,leL_flD,renL_flD,seval]) (by simp only [push_cast,leL_flD,renL_flD,seval]) rfl rfl rfl
           ·refine wk_id ?_
            refine wk_id ?_
            refine reg_f ?_
            refine rk 3 ?_
            refine rf [(0,.sl funcs.length (fl funcs)),(2,.ptr 0 0),(3,iS i7),(4,iS (IntKind.i64.wrap (k29+1)))] [(0,.row 26 [iS 0,iS 0]),(1,.row 38 (Enc.cells (ix (ix funcs i7) k29)))] 2 (by kernel_rfl) ?_
            exact hn4 ((IntKind.i64.wrap (k29+1))) _ _ _ (Option.some.inj h).symm (leSt_m [(0,0)] [] (by simp only [push_cast,leL_flD,renL_flD,seval]) (by simp only [push_cast,leL_flD,renL_flD,seval]) rfl rfl rfl)
     ·change R4 (.exit 2) _ _ _
      refine ex_cast hx4 (id:=2) ?_
      obtain ⟨r0,h,e0⟩:=map_sx h
      have e1:=hr4 r0 e0.symm
      subst r0
      refine wk_id ?_
      refine wk_id ?_
      refine wk_id ?_
      refine reg_f ?_
      refine rk 3 ?_
      refine rf [(0,.sl funcs.length (fl funcs)),(2,.ptr 0 0),(3,iS (IntKind.i64.wrap (i7+1)))] [(0,.row 26 [iS 0,iS 0])] 1 (by kernel_rfl) ?_
      exact hn3 ((IntKind.i64.wrap (i7+1))) _ _ _ (Option.some.inj h).symm (leSt_m [(0,0)] [] (by simp only [push_cast,leL_flD,renL_flD,seval]) (by simp only [push_cast,leL_flD,renL_flD,seval]) rfl rfl rfl)
   ·change R3 (.exit 0) _ _ _
    refine ex_cast hx3 (id:=0) ?_
    obtain ⟨r0,h,e0⟩:=map_sx h
    have e1:=hr3 r0 e0.symm
    subst r0
    refine wk_id ?_
    refine wk_id ?_
    refine seq_np ?_
    refine reg_f ?_
    refine rk 2 ?_
    refine rf [(2,.ptr 0 0)] [(0,.row 26 [iS 0,iS 0])] 1 (by kernel_rfl) ?_
    refine wk_id ?_
    obtain rfl:=Option.some.inj h
    refine ret_at (.agg [iS 0,iS 0]) (by kernel_rfl) ?_
    exact ret_e [] [] (by simp only [push_cast,leL_flD,renL_flD,seval]) (by simp only [push_cast,leL_flD,renL_flD,seval]) rfl rfl rfl

end Go.Proofs.YteelocnklamegaaDoor
