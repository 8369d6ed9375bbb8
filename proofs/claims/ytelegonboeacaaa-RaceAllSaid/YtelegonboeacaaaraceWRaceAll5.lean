/-
 What laws of the chapter race compute, and lemmas on it.
 No conditions.
-/
import Derived.Test.YtelegonboeacaaaraceWRaceAll4
set_option linter.unusedSimpArgs false
set_option linter.unusedVariables false
set_option linter.unusedSectionVars false
namespace Go.Proofs.Ytelegonboeacaaa
open Go Go.Sx
attribute [local irreducible] Wk RunAt
attribute [local bitvec_to_nat] leL_flD renL_flD leL_flP renL_flP leC_famP leC_famP0 flP_0 ren_famP noN_eq lenP_same lenP_one lenP_app lenP_set lenP_famP Nat.le_refl List.length_set leC_mpP leC_mpP1 mapLe_eq mapLe1_eq ren_mpP ren_mpP1
set_option maxRecDepth 100000 in
set_option maxHeartbeats 200000000 in
theorem taskmilllaw_RaceAll_spec (t:(List GEvent)) (m:(List Int)) (r:Bool) (h:taskmilllaw_RaceAll t m = some r):SpecW Try.prog 7 [.sl t.length (fl t),.sl m.length (fl m)] [] 0 (fun x h n=>x = bS r∧h = []∧n = 0):=by
 unfold taskmilllaw_RaceAll at h;refine spec_of (draw_ok _) Try.func7 rfl z14 rfl z0 ?_;refine seq_np (reg_f (rk 1 ?_));let F:Fk:=(0,.sl t.length (fl t));let G:Fk:=(1,.sl m.length (fl m));refine rf [F,G] [] 0 z0 (wk_id (seq_np (seq_np (reg_f ?_))));obtain ⟨ax,al,h⟩:=bind_sx h;refine run_call 23 [] (some 14) z0 (call_0 (taskmilllaw_raceBegun_spec al) z1 z1 (back_f (rk 1 (rf [F,G,(15,bS (!ax))] [] 0 z0 (wk_id ?_)))));refine cond_sx h z0 (fun aF h=>?_) (fun aF h=>?_)
 ·refine seq_np (reg_f (rk 1 (rf [(4,bS false)] [] 0 z0 (wk_id ?_))));obtain rfl:=Option.some.inj h;refine ret_at (bS false) z0 ?_;exact re [] [] z1 z1
 ·refine wk_id (seq_np ?_);let vD:=decide ((100:Int) < (m.length:Int));let vE:=decide ((300:Int) < (t.length:Int));refine seq_cut (A:=Unit) (fun _=>([F,G,(23,bS (vE || vD))],[],0)) (fun _=>True) (fun aJ ab=>?_) (fun _ _=>?_)
  ·refine reg_f (rk 4 ?_);refine run_split 19 vE (.inl z0) (fun w=>?_) (fun w=>?_)
   ·refine rk 4 (rf [F,G,(23,bS true)] [] 0 z0 ?_);exact ab () _ _ _ trivial (ls [] [] (z3 w) (z3 w))
   ·refine rk 4 (rf [F,G,(23,bS vD)] [] 0 z0 ?_);exact ab () _ _ _ trivial (ls [] [] (z3 w) (z3 w))
  ·dsimp only;refine cond_sx h z0 (fun az h=>?_) (fun az h=>?_)
   ·refine seq_np (reg_f (rk 1 (rf [(4,bS true)] [] 0 z0 (wk_id ?_))));obtain rfl:=Option.some.inj h;refine ret_at (bS true) z0 ?_;exact re [] [] z1 z1
   ·refine wk_id (seq_np (reg_f (rk 1 ?_)));obtain ⟨a5,ap,h⟩:=bind_sx h;let B:SV:=.sl t.length (fl t);let H:Ek:=(0,.row 31 (fl a5));refine call_x (taskmilllaw_ownTrace_spec ap) (args:=[B]) (dst:=(some 25)) z0 [] 0 z0 [] [] (.own 0 0 a5.length) [H] z1 z1 z0 (.inl rfl) z1 z1 ?_;refine rk 1 ?_;obtain ⟨a4,au,h⟩:=bind_sx h;let C:SV:=.sl m.length (fl m);let I:Ek:=(1,.row 3 (fl a4));refine call_x (taskmilllaw_own_spec au) (args:=[C]) (dst:=(some 27)) z0 [H] 1 z0 [] [] (.own 1 0 a4.length) [I] z1 z1 z0 (.inl rfl) z1 z1 ?_;refine rk 2 ?_;let J:Fk:=(5,.own 0 0 a5.length);let K:Fk:=(6,.own 1 0 a4.length);refine rf [F,G,J,K] [H,I] 2 z0 (wk_id (seq_np (reg_f (rk 2 ?_))));obtain ⟨g,ai,h⟩:=bind_sx h;let D:SV:=.own 0 0 a5.length;let E:SV:=.own 1 0 a4.length;let L:Ek:=(2,.row 55 (fl g.2));refine call_x (race_All_spec ai) (args:=[D,E]) (dst:=(some 31)) z0 [H,I] 2 z0 [] [0,1] (.tup [.own 2 0 g.2.length,.agg (Enc.cells g.1)]) [L] z1 z1 z0 (.inr ⟨by simp +zetaDelta only [bitvec_to_nat,push_cast,seval],by simp +zetaDelta only [bitvec_to_nat,push_cast,seval]⟩) z1 z1 ?_;refine rk 6 ?_;let M:Fk:=(7,.own 2 0 g.2.length);let N:Fk:=(8,.ptr 3 0);let O:Ek:=(3,.row 26 (Enc.cells g.1));refine rf [F,G,J,K,M,N] [H,I,L,O] 4 z0 (wk_id (seq_np (reg_f (rk 2 ?_))));obtain ⟨j,an,h⟩:=bind_sx h;refine call_x (race_First_spec an) (args:=[D,E]) (dst:=(some 37)) z0 [H,I,L,O] 4 z0 [] [0,1] (.tup [iS j.1,.agg (Enc.cells j.2)]) [] z1 z1 z0 (.inr ⟨by simp +zetaDelta only [bitvec_to_nat,push_cast,seval],by simp +zetaDelta only [bitvec_to_nat,push_cast,seval]⟩) z1 z1 ?_;refine rk 6 ?_;let P:Fk:=(9,iS j.1);let Q:Fk:=(10,.ptr 4 0);let R:Ek:=(4,.row 26 (Enc.cells j.2));refine rf [F,G,J,K,M,N,P,Q] [H,I,L,O,R] 5 z0 (wk_id (seq_np (reg_f (rk 2 ?_))));obtain ⟨a7,aq,h⟩:=bind_sx h;refine run_call 11 [B,C] (some 42) z0 (call_0 (taskmillref_TraceFault_spec aq) z1 z1 (back_f (rk 2 ?_)));let S:Ek:=(5,.row 26 (Enc.cells a7));refine rf [F,G,J,K,M,N,P,Q,(11,.ptr 5 0)] [H,I,L,O,R,S] 6 z0 (wk_id (seq_np ?_));let T:Fk:=(8,.ptr 1 0);let U:Fk:=(10,.ptr 2 0);refine seq_cut (A:=Int×Bool×(List S55)×Fault×Fault×Fault) (fun a=>([F,G,(7,.own 0 0 a.2.2.1.length),T,(9,iS a.1),U,(11,.ptr 3 0),(52,bS a.2.1)],[(0,.row 55 (fl a.2.2.1)),(1,.row 26 (Enc.cells a.2.2.2.1)),(2,.row 26 (Enc.cells a.2.2.2.2.1)),(3,.row 26 (Enc.cells a.2.2.2.2.2))],4)) (fun a=>(taskmilllaw_RaceAll_j4 t m a.1 a.2.1 a.2.2.1 a.2.2.2.1 a.2.2.2.2.1 a.2.2.2.2.2) = some r) (fun aP ac=>?_) ?_
    ·refine reg_f (rk 2 ?_);obtain ⟨ay,ao,h⟩:=bind_sx h;refine call_x (taskmillref_SameTrace_spec ao) (args:=[D,B]) (dst:=(some 45)) z0 [H,I,L,O,R,S] 6 z0 [] [0] (bS ay) [] z1 z1 z0 (.inr ⟨by simp +zetaDelta only [bitvec_to_nat,push_cast,seval],by simp +zetaDelta only [bitvec_to_nat,push_cast,seval]⟩) z1 z1 ?_;refine rk 2 ?_;refine run_br h 47 (.inl z0) (fun a3 h=>?_) (fun a3 h=>?_)
     ·refine rk 5 (rf [F,G,M,N,P,Q,(11,.ptr 5 0),(52,bS true)] [H,I,L,O,R,S] 6 z0 ?_);exact ac (j.1,true,g.2,g.1,j.2,a7) _ _ _ h (ls [(0,2),(1,3),(2,4),(3,5)] [] (z3 a3) (z3 a3))
     ·refine rk 2 ?_;obtain ⟨a9,ar,h⟩:=bind_sx h;refine call_x (taskmillref_Ints_spec ar) (args:=[E,C]) (dst:=(some 50)) z0 [H,I,L,O,R,S] 6 z0 [] [1] (bS a9) [] z1 z1 z0 (.inr ⟨by simp +zetaDelta only [bitvec_to_nat,push_cast,seval],by simp +zetaDelta only [bitvec_to_nat,push_cast,seval]⟩) z1 z1 ?_;refine rk 2 (rf [F,G,M,N,P,Q,(11,.ptr 5 0),(52,bS (!a9))] [H,I,L,O,R,S] 6 z0 ?_);exact ac (j.1,(!a9),g.2,g.1,j.2,a7) _ _ _ h (ls [(0,2),(1,3),(2,4),(3,5)] [] (z3 a3) (z3 a3))
    ·rintro ⟨n2,aR,y,a6,v,u⟩ h;try dsimp only at h ⊢
     unfold taskmilllaw_RaceAll_j4 at h;refine cond_sx h z0 (fun aG h=>?_) (fun aG h=>?_)
     ·refine seq_np (reg_f (rk 1 (rf [(4,bS false)] [(0,.row 55 (fl y)),(1,.row 26 (Enc.cells a6)),(2,.row 26 (Enc.cells v)),(3,.row 26 (Enc.cells u))] 4 z0 (wk_id ?_))));obtain rfl:=Option.some.inj h;refine ret_at (bS false) z0 ?_;exact re [] [] z1 z1
     ·refine wk_id (seq_np (seq_np (reg_f (rk 3 ?_))));let V:Fk:=(7,.own 0 0 y.length);let W:Ek:=(0,.row 55 (fl y));let X:Ek:=(1,.row 26 (Enc.cells a6));let Y:Ek:=(2,.row 26 (Enc.cells v));let Z:Ek:=(3,.row 26 (Enc.cells u));refine rf [F,G,V,T,(9,iS n2),U,(11,.ptr 3 0),(55,bS (u.Code != 0))] [W,X,Y,Z] 4 z0 (wk_id ?_);refine cond_sx h z0 (fun aD h=>?_) (fun aD h=>?_)
      ·let vB:=(v.Code == u.Code) && ((v.At == u.At) && true);let vF:=(a6.At == u.At) && true;let vA:=((a6.Code == u.Code) && vF) && (vB && (((y.length:Int) == 0) && (n2 == 0)));refine seq_cut (A:=Unit) (fun _=>([(4,bS vA)],[W,X,Y,Z],4)) (fun _=>True) (fun aK a1=>?_) (fun _ _=>?_)
       ·refine reg_f (rk 4 ?_);refine run_split 59 ((a6.Code == u.Code) && vF) (.inl z0) (fun i=>?_) (fun i=>?_)
        ·refine rk 5 ?_;refine run_split 64 vB (.inl z0) (fun l=>?_) (fun l=>?_)
         ·refine rk 5 ?_;refine run_split 69 ((y.length:Int) == 0) (.inl z0) (fun z=>?_) (fun z=>?_)
          ·refine rn 14 [(9,iS n2),(69,bS true)] [W,X,Y,Z] 4 z0 ?_;refine rk 4 (rf [(4,bS (n2 == 0))] [W,X,Y,Z] 4 z0 ?_);exact a1 () _ _ _ trivial (ls [(0,0),(1,1),(2,2),(3,3)] [] (z2 i l z) (z2 i l z))
          ·refine rn 14 [(9,iS n2),(69,bS false)] [W,X,Y,Z] 4 z0 ?_;refine rk 4 (rf [(4,bS false)] [W,X,Y,Z] 4 z0 ?_);exact a1 () _ _ _ trivial (ls [(0,0),(1,1),(2,2),(3,3)] [] (z2 i l z) (z2 i l z))
         ·refine rk 9 (rf [(4,bS false)] [W,X,Y,Z] 4 z0 ?_);exact a1 () _ _ _ trivial (ls [(0,0),(1,1),(2,2),(3,3)] [] (z4 i l) (z4 i l))
        ·refine rk 14 (rf [(4,bS false)] [W,X,Y,Z] 4 z0 ?_);exact a1 () _ _ _ trivial (ls [(0,0),(1,1),(2,2),(3,3)] [] (z3 i) (z3 i))
       ·dsimp only;obtain rfl:=Option.some.inj h;refine ret_at (bS vA) z0 ?_;exact re [] [] z1 z1
      ·refine wk_id (seq_np (reg_f (rk 2 ?_)));obtain ⟨q,am,h⟩:=bind_sx h;let A1:Ek:=(4,.row 55 (fl q));refine call_x (taskmillref_RacesOf_spec am) (args:=[B,C]) (dst:=(some 75)) z0 [W,X,Y,Z] 4 z0 [] [] (.own 4 0 q.length) [A1] z1 z1 z0 (.inl rfl) z1 z1 ?_;refine rk 1 ?_;let B1:Fk:=(12,.own 4 0 q.length);refine rf [V,T,(9,iS n2),U,(11,.ptr 3 0),B1] [W,X,Y,Z,A1] 5 z0 (wk_id (seq_np (reg_f (rk 3 ?_))));let C1:Ek:=(5,.row 26 (Enc.cells u));refine rf [V,T,(9,iS n2),U,B1,(13,.ptr 5 0)] [W,X,Y,Z,A1,C1] 6 z0 (wk_id (seq_cut (A:=(List S55)×Fault) (fun a=>([V,T,(9,iS n2),U,(12,.own 3 0 a.1.length),(13,.ptr 4 0)],[W,X,Y,(3,.row 55 (fl a.1)),(4,.row 26 (Enc.cells a.2))],5)) (fun a=>(taskmilllaw_RaceAll_j3 n2 y a6 v a.1 a.2) = some r) (fun aN aa=>?_) ?_))
       ·refine seq_np (reg_f (rk 3 (rf [V,T,(9,iS n2),U,B1,(13,.ptr 5 0),(79,bS ((q.length:Int) == 0))] [W,X,Y,Z,A1,C1] 6 z0 (wk_id ?_))));refine cond_sx h z0 (fun aw h=>?_) (fun aw h=>?_)
        ·refine reg_f ?_;obtain ⟨ah,av,h⟩:=bind_sx h;refine run_call 19 [iS 6,iS 0] (some 80) z0 (call_0 (taskmillref_F_spec av) z1 z1 (back_f (rk 1 (rf [V,T,(9,iS n2),U,B1,(13,.ptr 5 0)] [W,X,Y,Z,A1,(5,.row 26 (Enc.cells ah))] 6 z0 ?_))));exact aa (q,ah) _ _ _ h (ls [(0,0),(1,1),(2,2),(3,4),(4,5)] [] z1 z1)
        ·exact aa (q,u) _ _ _ h (ls [(0,0),(1,1),(2,2),(3,4),(4,5)] [] z1 z1)
       ·rintro ⟨d,s⟩ h;try dsimp only at h ⊢
        unfold taskmilllaw_RaceAll_j3 at h;refine seq_np ?_;refine chk_sx h (fun aE h=>?_);refine chk_sx h (fun aA h=>?_);let D1:Fk:=(12,.own 3 0 d.length);let E1:Ek:=(3,.row 55 (fl d));let F1:Ek:=(4,.row 26 (Enc.cells s));let vC:=(s.Code == 0) && (n2 != (ix d (0:Int)).e1);refine seq_cut (A:=Unit) (fun _=>([V,T,D1,(105,bS ((!((v.Code == s.Code) && ((v.At == s.At) && true))) || (bif (s.Code != 0) then ((n2 != 0) || vC) else vC)))],[W,X,Y,E1,F1],5)) (fun _=>True) (fun aL k=>?_) (fun _ _=>?_)
        ·refine reg_f (rk 4 ?_);refine run_split 84 (!((v.Code == s.Code) && ((v.At == s.At) && true))) (.inl z0) (fun b=>?_) (fun b=>?_)
         ·refine rk 21 (rf [V,T,D1,(105,bS true)] [W,X,Y,E1,F1] 5 z0 ?_);exact k () _ _ _ trivial (ls [(0,0),(1,1),(2,2),(3,3),(4,4)] [] (z3 b) (z3 b))
         ·refine rk 4 ?_;refine run_split 88 (s.Code != 0) (.inr z0) (fun c=>?_) (fun c=>?_)
          ·refine rk 5 ?_;refine run_split 93 (n2 != 0) (.inl z0) (fun f=>?_) (fun f=>?_)
           ·refine rn 13 [V,T,(9,iS n2),D1,(13,.ptr 4 0),(93,bS true)] [W,X,Y,E1,F1] 5 z0 ?_;refine rk 12 (rf [V,T,D1,(105,bS true)] [W,X,Y,E1,F1] 5 z0 ?_);exact k () _ _ _ trivial (ls [(0,0),(1,1),(2,2),(3,3),(4,4)] [] (z2 b c f) (z2 b c f))
           ·refine rn 13 [V,T,(9,iS n2),D1,(13,.ptr 4 0),(93,bS false)] [W,X,Y,E1,F1] 5 z0 ?_;refine rk 4 ?_;refine run_split 97 (s.Code == 0) (.inr z0) (fun o=>?_) (fun o=>?_)
            ·have ag:0≤(0:Int)∧(0:Int) < (d.length:Int):=by have e:=or_use aE (by first | ((try simp +zetaDelta only [b,c,f,o]) <;> rfl) | ((try simp +zetaDelta only [b]); (try simp +zetaDelta only [c]); (try simp +zetaDelta only [f]); (try simp +zetaDelta only [o]); rfl) | (exfalso; clear h; simp_all; done)); first | simpa only [Bool.and_eq_true,decide_eq_true_eq,bne_iff_ne,ne_eq] using e | (simp at e ⊢; omega)
             refine rs 8 [none,none,some ⟨.ptr 3 (0+((0:Int)).toNat * 2),[],5,[3]⟩,none,some ⟨iS (ix d (0:Int)).e1,[],5,[3]⟩] _ z0 (allP_cons (ob_ld d (0:Int) 2 1 ((0+((0:Int)).toNat * 2)+1) ag rfl z14 z7 (dflS Try.prog 3) (iS (ix d (0:Int)).e1) rfl 5 [3]) (allP_cons (ob_ix_o 3 d.length 0 2 5 0 ag) allP_nil)) (rf [V,T,D1,(105,bS (n2 != (ix d (0:Int)).e1))] [W,X,Y,E1,F1] 5 z0 ?_);exact k () _ _ _ trivial (ls [(0,0),(1,1),(2,2),(3,3),(4,4)] [] (z8 b c f o) (z8 b c f o))
            ·refine rk 8 (rf [V,T,D1,(105,bS false)] [W,X,Y,E1,F1] 5 z0 ?_);exact k () _ _ _ trivial (ls [(0,0),(1,1),(2,2),(3,3),(4,4)] [] (z8 b c f o) (z8 b c f o))
          ·refine rk 9 ?_;refine run_split 97 (s.Code == 0) (.inr z0) (fun p=>?_) (fun p=>?_)
           ·refine rn 17 [V,T,(9,iS n2),D1,(93,bS false),(97,.gd true (bS true))] [W,X,Y,E1,F1] 5 z0 ?_;have af:0≤(0:Int)∧(0:Int) < (d.length:Int):=by have e:=or_use aA (z25 b c p); first | simpa only [Bool.and_eq_true,decide_eq_true_eq,bne_iff_ne,ne_eq] using e | (simp at e ⊢; omega)
            refine rs 8 [none,none,some ⟨.ptr 3 (0+((0:Int)).toNat * 2),[],5,[3]⟩,none,some ⟨iS (ix d (0:Int)).e1,[],5,[3]⟩] _ z0 (allP_cons (ob_ld d (0:Int) 2 1 ((0+((0:Int)).toNat * 2)+1) af rfl z14 z7 (dflS Try.prog 3) (iS (ix d (0:Int)).e1) rfl 5 [3]) (allP_cons (ob_ix_o 3 d.length 0 2 5 0 af) allP_nil)) (rf [V,T,D1,(105,bS (n2 != (ix d (0:Int)).e1))] [W,X,Y,E1,F1] 5 z0 ?_);exact k () _ _ _ trivial (ls [(0,0),(1,1),(2,2),(3,3),(4,4)] [] (z2 b c p) (z2 b c p))
           ·refine rn 17 [V,T,(9,iS n2),D1,(93,bS false),(97,.gd true (bS false))] [W,X,Y,E1,F1] 5 z0 ?_;refine rk 8 (rf [V,T,D1,(105,bS false)] [W,X,Y,E1,F1] 5 z0 ?_);exact k () _ _ _ trivial (ls [(0,0),(1,1),(2,2),(3,3),(4,4)] [] (z2 b c p) (z2 b c p))
        ·dsimp only;refine cond_sx h z0 (fun aB h=>?_) (fun aB h=>?_)
         ·refine seq_np (reg_f (rk 1 (rf [(4,bS false)] [W,X,Y,E1,F1] 5 z0 (wk_id ?_))));obtain rfl:=Option.some.inj h;refine ret_at (bS false) z0 ?_;exact re [] [] z1 z1
         ·refine wk_id (seq_np (seq_np (reg_f (rk 3 (rf [V,T,D1,(108,bS (decide ((5000:Int) < (d.length:Int))))] [W,X,Y,E1,F1] 5 z0 (wk_id ?_))))));refine cond_sx h z0 (fun aC h=>?_) (fun aC h=>?_)
          ·refine seq_cut (A:=Bool) (fun a=>([(4,bS a)],[],0)) (fun a=>(taskmilllaw_RaceAll_j1 a) = some r) (fun aO ad=>?_) ?_
           ·refine reg_t (rk 1 ?_);obtain ⟨aQ,ak,h⟩:=bind_sx h;refine run_call 19 [iS 9,iS 0] (some 110) z0 (callE_0 (taskmillref_F_spec ak) z1 z1 (back_t (rk 2 ?_)));refine run_br h 112 (.inl z0) (fun a0 h=>?_) (fun a0 h=>?_)
            ·refine rk 5 (rt [(4,bS ((y.length:Int) == 0))] [W,X,Y,E1,F1] 14 follows z0 ?_);exact ad (((y.length:Int) == 0)) _ _ _ h (ls [] [] (z3 a0) (z3 a0))
            ·refine rk 5 (rt [(4,bS false)] [W,X,Y,E1,F1] 14 follows z0 ?_);exact ad (false) _ _ _ h (ls [] [] (z3 a0) (z3 a0))
           ·rintro aH h;try dsimp only at h ⊢
            unfold taskmilllaw_RaceAll_j1 at h;obtain rfl:=Option.some.inj h;refine ret_at (bS aH) z0 ?_;exact re [] [] z1 z1
          ·refine wk_id (seq_cut (A:=Bool) (fun a=>([(4,bS a)],[],0)) (fun a=>(taskmilllaw_RaceAll_j2 a) = some r) (fun aM ae=>?_) ?_)
           ·refine reg_f (rk 4 ?_);refine run_br h 120 (.inl z0) (fun a2 h=>?_) (fun a2 h=>?_)
            ·refine rk 2 ?_;obtain ⟨a8,aj,h⟩:=bind_sx h;refine call_x (taskmillref_SameOff_spec aj) (args:=[.own 0 0 y.length,.own 3 0 d.length]) (dst:=(some 123)) z0 [W,X,Y,E1,F1] 5 z0 [] [0,3] (bS a8) [] z1 z1 z0 (.inr ⟨by simp +zetaDelta only [bitvec_to_nat,push_cast,seval],by simp +zetaDelta only [bitvec_to_nat,push_cast,seval]⟩) z1 z1 ?_;refine rk 2 (rf [(4,bS a8)] [W,X,Y,E1,F1] 5 z0 ?_);exact ae (a8) _ _ _ h (ls [] [] (z3 a2) (z3 a2))
            ·refine rk 5 (rf [(4,bS false)] [W,X,Y,E1,F1] 5 z0 ?_);exact ae (false) _ _ _ h (ls [] [] (z3 a2) (z3 a2))
           ·rintro aI h;try dsimp only at h ⊢
            unfold taskmilllaw_RaceAll_j2 at h;obtain rfl:=Option.some.inj h;refine ret_at (bS aI) z0 ?_;exact re [] [] z1 z1

end Go.Proofs.Ytelegonboeacaaa
