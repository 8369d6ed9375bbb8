/-
 What laws of the chapter race compute, and lemmas on it.
 No conditions.
-/
import Derived.Test.YtelegonboeacaaaraceWRaceAll4
set_option linter.unusedSimpArgs false
set_option linter.unusedVariables false
set_option linter.unusedSectionVars false
namespace Go.Proofs.Ytelegonboeacaaa
open Go Go.Sx
attribute [local irreducible] Wk RunAt
attribute [local bitvec_to_nat] leL_flD renL_flD leL_flP renL_flP leC_famP leC_famP0 flP_0 ren_famP noN_eq lenP_same lenP_one lenP_app lenP_set lenP_famP Nat.le_refl List.length_set leC_mpP leC_mpP1 mapLe_eq mapLe1_eq ren_mpP ren_mpP1
set_option maxRecDepth 100000 in
set_option maxHeartbeats 200000000 in
theorem taskmilllaw_RaceAll_spec (t:(List GEvent)) (l:(List Int)) (r:Bool) (h:taskmilllaw_RaceAll t l = some r):SpecW Try.prog 7 [.sl t.length (fl t),.sl l.length (fl l)] [] 0 (fun x h n=>x = bS r∧h = []∧n = 0):=by
 unfold taskmilllaw_RaceAll at h;refine spec_of (draw_ok _) Try.func7 rfl z14 rfl z0 ?_;refine seq_np (reg_f (rk 1 ?_));let F:Fk:=(0,.sl t.length (fl t));let G:Fk:=(1,.sl l.length (fl l));refine rf [F,G] [] 0 z0 (wk_id (seq_np (seq_np (reg_f ?_))));obtain ⟨aE,au,h⟩:=bind_sx h;refine run_call 23 [] (some 14) z0 (call_0 (taskmilllaw_raceBegun_spec au) z1 z1 (back_f (rk 1 (rf [F,G,(15,bS (!aE))] [] 0 z0 (wk_id ?_)))));refine cond_sx h z0 (fun aw h=>?_) (fun aw h=>?_)
 ·refine seq_np (reg_f (rk 1 (rf [(4,bS false)] [] 0 z0 (wk_id ?_))));obtain rfl:=Option.some.inj h;refine ret_at (bS false) z0 ?_;exact re [] [] z1 z1
 ·refine wk_id (seq_np ?_);let vD:=decide ((100:Int) < (l.length:Int));let vE:=decide ((300:Int) < (t.length:Int));refine seq_cut (A:=Unit) (fun _=>([F,G,(23,bS (vE || vD))],[],0)) (fun _=>True) (fun aL aa=>?_) (fun _ _=>?_)
  ·refine reg_f (rk 4 ?_);refine run_split 19 vE (.inl z0) (fun y=>?_) (fun y=>?_)
   ·refine rk 4 (rf [F,G,(23,bS true)] [] 0 z0 ?_);exact aa () _ _ _ trivial (ls [] [] (z3 y) (z3 y))
   ·refine rk 4 (rf [F,G,(23,bS vD)] [] 0 z0 ?_);exact aa () _ _ _ trivial (ls [] [] (z3 y) (z3 y))
  ·dsimp only;refine cond_sx h z0 (fun aG h=>?_) (fun aG h=>?_)
   ·refine seq_np (reg_f (rk 1 (rf [(4,bS true)] [] 0 z0 (wk_id ?_))));obtain rfl:=Option.some.inj h;refine ret_at (bS true) z0 ?_;exact re [] [] z1 z1
   ·refine wk_id (seq_np (reg_f (rk 1 ?_)));obtain ⟨a4,ai,h⟩:=bind_sx h;let B:SV:=.sl t.length (fl t);let H:Ek:=(0,.row 31 (fl a4));refine call_x (taskmilllaw_ownTrace_spec ai) (args:=[B]) (dst:=(some 25)) z0 [] 0 z0 [] [] (.own 0 0 a4.length) [H] z1 z1 z0 (.inl rfl) z1 z1 ?_;refine rk 1 ?_;obtain ⟨a5,aq,h⟩:=bind_sx h;let C:SV:=.sl l.length (fl l);let I:Ek:=(1,.row 3 (fl a5));refine call_x (taskmilllaw_own_spec aq) (args:=[C]) (dst:=(some 27)) z0 [H] 1 z0 [] [] (.own 1 0 a5.length) [I] z1 z1 z0 (.inl rfl) z1 z1 ?_;refine rk 2 ?_;let J:Fk:=(5,.own 0 0 a4.length);let K:Fk:=(6,.own 1 0 a5.length);refine rf [F,G,J,K] [H,I] 2 z0 (wk_id (seq_np (reg_f (rk 2 ?_))));obtain ⟨g,ar,h⟩:=bind_sx h;let D:SV:=.own 0 0 a4.length;let E:SV:=.own 1 0 a5.length;let L:Ek:=(2,.row 55 (fl g.2));refine call_x (race_All_spec ar) (args:=[D,E]) (dst:=(some 31)) z0 [H,I] 2 z0 [] [0,1] (.tup [.own 2 0 g.2.length,.agg (Enc.cells g.1)]) [L] z1 z1 z0 (.inr ⟨by simp +zetaDelta only [bitvec_to_nat,push_cast,seval],by simp +zetaDelta only [bitvec_to_nat,push_cast,seval]⟩) z1 z1 ?_;refine rk 6 ?_;let M:Fk:=(7,.own 2 0 g.2.length);let N:Fk:=(8,.ptr 3 0);let O:Ek:=(3,.row 26 (Enc.cells g.1));refine rf [F,G,J,K,M,N] [H,I,L,O] 4 z0 (wk_id (seq_np (reg_f (rk 2 ?_))));obtain ⟨j,an,h⟩:=bind_sx h;refine call_x (race_First_spec an) (args:=[D,E]) (dst:=(some 37)) z0 [H,I,L,O] 4 z0 [] [0,1] (.tup [iS j.1,.agg (Enc.cells j.2)]) [] z1 z1 z0 (.inr ⟨by simp +zetaDelta only [bitvec_to_nat,push_cast,seval],by simp +zetaDelta only [bitvec_to_nat,push_cast,seval]⟩) z1 z1 ?_;refine rk 6 ?_;let P:Fk:=(9,iS j.1);let Q:Fk:=(10,.ptr 4 0);let R:Ek:=(4,.row 26 (Enc.cells j.2));refine rf [F,G,J,K,M,N,P,Q] [H,I,L,O,R] 5 z0 (wk_id (seq_np (reg_f (rk 2 ?_))));obtain ⟨a8,al,h⟩:=bind_sx h;refine run_call 11 [B,C] (some 42) z0 (call_0 (taskmillref_TraceFault_spec al) z1 z1 (back_f (rk 2 ?_)));let S:Ek:=(5,.row 26 (Enc.cells a8));refine rf [F,G,J,K,M,N,P,Q,(11,.ptr 5 0)] [H,I,L,O,R,S] 6 z0 (wk_id (seq_np ?_));let T:Fk:=(8,.ptr 1 0);let U:Fk:=(10,.ptr 2 0);refine seq_cut (A:=Int×Bool×(List S55)×Fault×Fault×Fault) (fun a=>([F,G,(7,.own 0 0 a.2.2.1.length),T,(9,iS a.1),U,(11,.ptr 3 0),(52,bS a.2.1)],[(0,.row 55 (fl a.2.2.1)),(1,.row 26 (Enc.cells a.2.2.2.1)),(2,.row 26 (Enc.cells a.2.2.2.2.1)),(3,.row 26 (Enc.cells a.2.2.2.2.2))],4)) (fun a=>(taskmilllaw_RaceAll_j4 t l a.1 a.2.1 a.2.2.1 a.2.2.2.1 a.2.2.2.2.1 a.2.2.2.2.2) = some r) (fun aJ ae=>?_) ?_
    ·refine reg_f (rk 2 ?_);obtain ⟨aB,ak,h⟩:=bind_sx h;refine call_x (taskmillref_SameTrace_spec ak) (args:=[D,B]) (dst:=(some 45)) z0 [H,I,L,O,R,S] 6 z0 [] [0] (bS aB) [] z1 z1 z0 (.inr ⟨by simp +zetaDelta only [bitvec_to_nat,push_cast,seval],by simp +zetaDelta only [bitvec_to_nat,push_cast,seval]⟩) z1 z1 ?_;refine rk 2 ?_;refine run_br h 47 (.inl z0) (fun w h=>?_) (fun w h=>?_)
     ·refine rk 5 (rf [F,G,M,N,P,Q,(11,.ptr 5 0),(52,bS true)] [H,I,L,O,R,S] 6 z0 ?_);exact ae (j.1,true,g.2,g.1,j.2,a8) _ _ _ h (ls [(0,2),(1,3),(2,4),(3,5)] [] (z3 w) (z3 w))
     ·refine rk 2 ?_;obtain ⟨a7,am,h⟩:=bind_sx h;refine call_x (taskmillref_Ints_spec am) (args:=[E,C]) (dst:=(some 50)) z0 [H,I,L,O,R,S] 6 z0 [] [1] (bS a7) [] z1 z1 z0 (.inr ⟨by simp +zetaDelta only [bitvec_to_nat,push_cast,seval],by simp +zetaDelta only [bitvec_to_nat,push_cast,seval]⟩) z1 z1 ?_;refine rk 2 (rf [F,G,M,N,P,Q,(11,.ptr 5 0),(52,bS (!a7))] [H,I,L,O,R,S] 6 z0 ?_);exact ae (j.1,(!a7),g.2,g.1,j.2,a8) _ _ _ h (ls [(0,2),(1,3),(2,4),(3,5)] [] (z3 w) (z3 w))
    ·rintro ⟨n2,aR,a1,a6,z,s⟩ h;try dsimp only at h ⊢
     unfold taskmilllaw_RaceAll_j4 at h;refine cond_sx h z0 (fun az h=>?_) (fun az h=>?_)
     ·refine seq_np (reg_f (rk 1 (rf [(4,bS false)] [(0,.row 55 (fl a1)),(1,.row 26 (Enc.cells a6)),(2,.row 26 (Enc.cells z)),(3,.row 26 (Enc.cells s))] 4 z0 (wk_id ?_))));obtain rfl:=Option.some.inj h;refine ret_at (bS false) z0 ?_;exact re [] [] z1 z1
     ·refine wk_id (seq_np (seq_np (reg_f (rk 3 ?_))));let V:Fk:=(7,.own 0 0 a1.length);let W:Ek:=(0,.row 55 (fl a1));let X:Ek:=(1,.row 26 (Enc.cells a6));let Y:Ek:=(2,.row 26 (Enc.cells z));let Z:Ek:=(3,.row 26 (Enc.cells s));refine rf [F,G,V,T,(9,iS n2),U,(11,.ptr 3 0),(55,bS (s.Code != 0))] [W,X,Y,Z] 4 z0 (wk_id ?_);refine cond_sx h z0 (fun aC h=>?_) (fun aC h=>?_)
      ·let vB:=(z.Code == s.Code) && ((z.At == s.At) && true);let vF:=(a6.At == s.At) && true;let vA:=((a6.Code == s.Code) && vF) && (vB && (((a1.length:Int) == 0) && (n2 == 0)));refine seq_cut (A:=Unit) (fun _=>([(4,bS vA)],[W,X,Y,Z],4)) (fun _=>True) (fun aO v=>?_) (fun _ _=>?_)
       ·refine reg_f (rk 4 ?_);refine run_split 59 ((a6.Code == s.Code) && vF) (.inl z0) (fun f=>?_) (fun f=>?_)
        ·refine rk 5 ?_;refine run_split 64 vB (.inl z0) (fun m=>?_) (fun m=>?_)
         ·refine rk 5 ?_;refine run_split 69 ((a1.length:Int) == 0) (.inl z0) (fun a3=>?_) (fun a3=>?_)
          ·refine rn 14 [(9,iS n2),(69,bS true)] [W,X,Y,Z] 4 z0 ?_;refine rk 4 (rf [(4,bS (n2 == 0))] [W,X,Y,Z] 4 z0 ?_);exact v () _ _ _ trivial (ls [(0,0),(1,1),(2,2),(3,3)] [] (z2 f m a3) (z2 f m a3))
          ·refine rn 14 [(9,iS n2),(69,bS false)] [W,X,Y,Z] 4 z0 ?_;refine rk 4 (rf [(4,bS false)] [W,X,Y,Z] 4 z0 ?_);exact v () _ _ _ trivial (ls [(0,0),(1,1),(2,2),(3,3)] [] (z2 f m a3) (z2 f m a3))
         ·refine rk 9 (rf [(4,bS false)] [W,X,Y,Z] 4 z0 ?_);exact v () _ _ _ trivial (ls [(0,0),(1,1),(2,2),(3,3)] [] (z4 f m) (z4 f m))
        ·refine rk 14 (rf [(4,bS false)] [W,X,Y,Z] 4 z0 ?_);exact v () _ _ _ trivial (ls [(0,0),(1,1),(2,2),(3,3)] [] (z3 f) (z3 f))
       ·dsimp only;obtain rfl:=Option.some.inj h;refine ret_at (bS vA) z0 ?_;exact re [] [] z1 z1
      ·refine wk_id (seq_np (reg_f (rk 2 ?_)));obtain ⟨q,av,h⟩:=bind_sx h;let A1:Ek:=(4,.row 55 (fl q));refine call_x (taskmillref_RacesOf_spec av) (args:=[B,C]) (dst:=(some 75)) z0 [W,X,Y,Z] 4 z0 [] [] (.own 4 0 q.length) [A1] z1 z1 z0 (.inl rfl) z1 z1 ?_;refine rk 1 ?_;let B1:Fk:=(12,.own 4 0 q.length);refine rf [V,T,(9,iS n2),U,(11,.ptr 3 0),B1] [W,X,Y,Z,A1] 5 z0 (wk_id (seq_np (reg_f (rk 3 ?_))));let C1:Ek:=(5,.row 26 (Enc.cells s));refine rf [V,T,(9,iS n2),U,B1,(13,.ptr 5 0)] [W,X,Y,Z,A1,C1] 6 z0 (wk_id (seq_cut (A:=(List S55)×Fault) (fun a=>([V,T,(9,iS n2),U,(12,.own 3 0 a.1.length),(13,.ptr 4 0)],[W,X,Y,(3,.row 55 (fl a.1)),(4,.row 26 (Enc.cells a.2))],5)) (fun a=>(taskmilllaw_RaceAll_j3 n2 a1 a6 z a.1 a.2) = some r) (fun aM ac=>?_) ?_))
       ·refine seq_np (reg_f (rk 3 (rf [V,T,(9,iS n2),U,B1,(13,.ptr 5 0),(79,bS ((q.length:Int) == 0))] [W,X,Y,Z,A1,C1] 6 z0 (wk_id ?_))));refine cond_sx h z0 (fun aA h=>?_) (fun aA h=>?_)
        ·refine reg_f ?_;obtain ⟨ag,aj,h⟩:=bind_sx h;refine run_call 19 [iS 6,iS 0] (some 80) z0 (call_0 (taskmillref_F_spec aj) z1 z1 (back_f (rk 1 (rf [V,T,(9,iS n2),U,B1,(13,.ptr 5 0)] [W,X,Y,Z,A1,(5,.row 26 (Enc.cells ag))] 6 z0 ?_))));exact ac (q,ag) _ _ _ h (ls [(0,0),(1,1),(2,2),(3,4),(4,5)] [] z1 z1)
        ·exact ac (q,s) _ _ _ h (ls [(0,0),(1,1),(2,2),(3,4),(4,5)] [] z1 z1)
       ·rintro ⟨d,u⟩ h;try dsimp only at h ⊢
        unfold taskmilllaw_RaceAll_j3 at h;refine seq_np ?_;refine chk_sx h (fun ax h=>?_);refine chk_sx h (fun aF h=>?_);let D1:Fk:=(12,.own 3 0 d.length);let E1:Ek:=(3,.row 55 (fl d));let F1:Ek:=(4,.row 26 (Enc.cells u));let vC:=(u.Code == 0) && (n2 != (ix d (0:Int)).e1);refine seq_cut (A:=Unit) (fun _=>([V,T,D1,(105,bS ((!((z.Code == u.Code) && ((z.At == u.At) && true))) || (bif (u.Code != 0) then ((n2 != 0) || vC) else vC)))],[W,X,Y,E1,F1],5)) (fun _=>True) (fun aQ k=>?_) (fun _ _=>?_)
        ·refine reg_f (rk 4 ?_);refine run_split 84 (!((z.Code == u.Code) && ((z.At == u.At) && true))) (.inl z0) (fun b=>?_) (fun b=>?_)
         ·refine rk 21 (rf [V,T,D1,(105,bS true)] [W,X,Y,E1,F1] 5 z0 ?_);exact k () _ _ _ trivial (ls [(0,0),(1,1),(2,2),(3,3),(4,4)] [] (z3 b) (z3 b))
         ·refine rk 4 ?_;refine run_split 88 (u.Code != 0) (.inr z0) (fun c=>?_) (fun c=>?_)
          ·refine rk 5 ?_;refine run_split 93 (n2 != 0) (.inl z0) (fun i=>?_) (fun i=>?_)
           ·refine rn 13 [V,T,(9,iS n2),D1,(13,.ptr 4 0),(93,bS true)] [W,X,Y,E1,F1] 5 z0 ?_;refine rk 12 (rf [V,T,D1,(105,bS true)] [W,X,Y,E1,F1] 5 z0 ?_);exact k () _ _ _ trivial (ls [(0,0),(1,1),(2,2),(3,3),(4,4)] [] (z2 b c i) (z2 b c i))
           ·refine rn 13 [V,T,(9,iS n2),D1,(13,.ptr 4 0),(93,bS false)] [W,X,Y,E1,F1] 5 z0 ?_;refine rk 4 ?_;refine run_split 97 (u.Code == 0) (.inr z0) (fun o=>?_) (fun o=>?_)
            ·have af:0≤(0:Int)∧(0:Int) < (d.length:Int):=by have e:=or_use ax (by first | ((try simp +zetaDelta only [b,c,i,o]) <;> rfl) | ((try simp +zetaDelta only [b]); (try simp +zetaDelta only [c]); (try simp +zetaDelta only [i]); (try simp +zetaDelta only [o]); rfl) | (exfalso; clear h; simp_all; done)); first | simpa only [Bool.and_eq_true,decide_eq_true_eq,bne_iff_ne,ne_eq] using e | (simp at e ⊢; omega)
             refine rs 8 [none,none,some ⟨.ptr 3 (0+((0:Int)).toNat * 2),[],5,[3]⟩,none,some ⟨iS (ix d (0:Int)).e1,[],5,[3]⟩] _ z0 (allP_cons (ob_ld d (0:Int) 2 1 ((0+((0:Int)).toNat * 2)+1) af rfl z14 z7 (dflS Try.prog 3) (iS (ix d (0:Int)).e1) rfl 5 [3]) (allP_cons (ob_ix_o 3 d.length 0 2 5 0 af) allP_nil)) (rf [V,T,D1,(105,bS (n2 != (ix d (0:Int)).e1))] [W,X,Y,E1,F1] 5 z0 ?_);exact k () _ _ _ trivial (ls [(0,0),(1,1),(2,2),(3,3),(4,4)] [] (z8 b c i o) (z8 b c i o))
            ·refine rk 8 (rf [V,T,D1,(105,bS false)] [W,X,Y,E1,F1] 5 z0 ?_);exact k () _ _ _ trivial (ls [(0,0),(1,1),(2,2),(3,3),(4,4)] [] (z8 b c i o) (z8 b c i o))
          ·refine rk 9 ?_;refine run_split 97 (u.Code == 0) (.inr z0) (fun p=>?_) (fun p=>?_)
           ·refine rn 17 [V,T,(9,iS n2),D1,(93,bS false),(97,.gd true (bS true))] [W,X,Y,E1,F1] 5 z0 ?_;have ah:0≤(0:Int)∧(0:Int) < (d.length:Int):=by have e:=or_use aF (z25 b c p); first | simpa only [Bool.and_eq_true,decide_eq_true_eq,bne_iff_ne,ne_eq] using e | (simp at e ⊢; omega)
            refine rs 8 [none,none,some ⟨.ptr 3 (0+((0:Int)).toNat * 2),[],5,[3]⟩,none,some ⟨iS (ix d (0:Int)).e1,[],5,[3]⟩] _ z0 (allP_cons (ob_ld d (0:Int) 2 1 ((0+((0:Int)).toNat * 2)+1) ah rfl z14 z7 (dflS Try.prog 3) (iS (ix d (0:Int)).e1) rfl 5 [3]) (allP_cons (ob_ix_o 3 d.length 0 2 5 0 ah) allP_nil)) (rf [V,T,D1,(105,bS (n2 != (ix d (0:Int)).e1))] [W,X,Y,E1,F1] 5 z0 ?_);exact k () _ _ _ trivial (ls [(0,0),(1,1),(2,2),(3,3),(4,4)] [] (z2 b c p) (z2 b c p))
           ·refine rn 17 [V,T,(9,iS n2),D1,(93,bS false),(97,.gd true (bS false))] [W,X,Y,E1,F1] 5 z0 ?_;refine rk 8 (rf [V,T,D1,(105,bS false)] [W,X,Y,E1,F1] 5 z0 ?_);exact k () _ _ _ trivial (ls [(0,0),(1,1),(2,2),(3,3),(4,4)] [] (z2 b c p) (z2 b c p))
        ·dsimp only;refine cond_sx h z0 (fun ay h=>?_) (fun ay h=>?_)
         ·refine seq_np (reg_f (rk 1 (rf [(4,bS false)] [W,X,Y,E1,F1] 5 z0 (wk_id ?_))));obtain rfl:=Option.some.inj h;refine ret_at (bS false) z0 ?_;exact re [] [] z1 z1
         ·refine wk_id (seq_np (seq_np (reg_f (rk 3 (rf [V,T,D1,(108,bS (decide ((5000:Int) < (d.length:Int))))] [W,X,Y,E1,F1] 5 z0 (wk_id ?_))))));refine cond_sx h z0 (fun aD h=>?_) (fun aD h=>?_)
          ·refine seq_cut (A:=Bool) (fun a=>([(4,bS a)],[],0)) (fun a=>(taskmilllaw_RaceAll_j1 a) = some r) (fun aP ad=>?_) ?_
           ·refine reg_t (rk 1 ?_);obtain ⟨aK,ap,h⟩:=bind_sx h;refine run_call 19 [iS 9,iS 0] (some 110) z0 (callE_0 (taskmillref_F_spec ap) z1 z1 (back_t (rk 2 ?_)));refine run_br h 112 (.inl z0) (fun a0 h=>?_) (fun a0 h=>?_)
            ·refine rk 5 (rt [(4,bS ((a1.length:Int) == 0))] [W,X,Y,E1,F1] 14 follows z0 ?_);exact ad (((a1.length:Int) == 0)) _ _ _ h (ls [] [] (z3 a0) (z3 a0))
            ·refine rk 5 (rt [(4,bS false)] [W,X,Y,E1,F1] 14 follows z0 ?_);exact ad (false) _ _ _ h (ls [] [] (z3 a0) (z3 a0))
           ·rintro aH h;try dsimp only at h ⊢
            unfold taskmilllaw_RaceAll_j1 at h;obtain rfl:=Option.some.inj h;refine ret_at (bS aH) z0 ?_;exact re [] [] z1 z1
          ·refine wk_id (seq_cut (A:=Bool) (fun a=>([(4,bS a)],[],0)) (fun a=>(taskmilllaw_RaceAll_j2 a) = some r) (fun aN ab=>?_) ?_)
           ·refine reg_f (rk 4 ?_);refine run_br h 120 (.inl z0) (fun a2 h=>?_) (fun a2 h=>?_)
            ·refine rk 2 ?_;obtain ⟨a9,ao,h⟩:=bind_sx h;refine call_x (taskmillref_SameOff_spec ao) (args:=[.own 0 0 a1.length,.own 3 0 d.length]) (dst:=(some 123)) z0 [W,X,Y,E1,F1] 5 z0 [] [0,3] (bS a9) [] z1 z1 z0 (.inr ⟨by simp +zetaDelta only [bitvec_to_nat,push_cast,seval],by simp +zetaDelta only [bitvec_to_nat,push_cast,seval]⟩) z1 z1 ?_;refine rk 2 (rf [(4,bS a9)] [W,X,Y,E1,F1] 5 z0 ?_);exact ab (a9) _ _ _ h (ls [] [] (z3 a2) (z3 a2))
            ·refine rk 5 (rf [(4,bS false)] [W,X,Y,E1,F1] 5 z0 ?_);exact ab (false) _ _ _ h (ls [] [] (z3 a2) (z3 a2))
           ·rintro aI h;try dsimp only at h ⊢
            unfold taskmilllaw_RaceAll_j2 at h;obtain rfl:=Option.some.inj h;refine ret_at (bS aI) z0 ?_;exact re [] [] z1 z1

end Go.Proofs.Ytelegonboeacaaa
