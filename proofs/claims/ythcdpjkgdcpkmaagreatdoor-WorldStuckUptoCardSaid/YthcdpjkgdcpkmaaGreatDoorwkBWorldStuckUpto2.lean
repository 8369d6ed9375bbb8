/-
 Lemmas, put together: wkP15, wkP16, wkP17, wkP18, wkPstuck.
 No conditions.
-/
import Derived.Test.YthcdpjkgdcpkmaaGreatDoorwkBWorldStuckUpto1
open Go.IntKind (i64)
set_option linter.unusedSimpArgs false
set_option linter.unusedVariables false
set_option linter.unusedSectionVars false
section
namespace Go.Proofs.YthcdpjkgdcpkmaaGreatDoor
set_option maxRecDepth 100000
open Go Go.Sx
section
noncomputable section
theorem DS {P:cz} {a b:List cy} (h1:vw P a) (h2:vw P b):vw P (a++b):=λi e he ho=>by
 rcases Nat.lt_or_ge i a.length with hi|hi
 ·rw [iR hi] at he
  rcases h1 i e he ho with h|⟨g,hg,h⟩
  ·exact .inl h
  ·exact .inr ⟨g,by rw [iR (dy.1 hg).1];exact hg,h⟩
 ·rw [jB hi] at he
  rcases h2 _ e he ho with h|⟨g,hg,h⟩
  ·exact .inl h
  ·refine .inr ⟨g,?_,h⟩
   rw [jB (by omega),show i+1-a.length=i-a.length+1 by omega]
   exact hg
structure GR (P:cz) (k:Nat) (S:Int) (m:M):Prop where
 es:∃ es,hJ P (abs (m0 P 1)) es (abs m)/\vw P es/\es.length<=70*k/\(S≠2->m.tr=es)/\(S=2->∃ w ob,m.tr=es++[⟨w,22,ob,0⟩]/\(1<=w/\w<=(abs m).n/\(abs m).en w=false)/\0<=ob/\ob<=20)
 ss:S=0\/S=1\/S=2\/S=3\/S=4
 e1:S=1↔(abs m).en 1=true
 full:S=4->m.ts.length=64
 tl:1<=m.ts.length/\m.ts.length<=64
 go:S=0->m.ts.any goes=true
 no:S=3->m.ts.any goes=false
section
variable {P:cz} (hP:BA P) {N:Nat} (hN:1<=N/\N<=16) {script:List Int} (hl:script.length<=5000) (hx:∀ i,i<script.length->-1<=ix script ((i:Nat):Int)/\ix script ((i:Nat):Int)<(N:Int))
include hP hN hl
theorem FA {k:Nat} {S Now sl:Int} {m:M} (h:tt P N script k S Now sl m):k<=script.length/\GR P k S m/\(S=0->fj P k m/\m.pr.length=N):=by
 induction h with
 | zero =>
  refine ⟨hU _,⟨⟨[],.nil _,gD (λe he=>by cases he),hU _,λ_=>rfl,(λh=>by cases h)⟩,.inl rfl,⟨(λh=>by cases h),(λh=>by cases h)⟩,(λh=>by cases h),(show 1<=1/\1<=64 by decide),λ_=>rfl,(λh=>by cases h)⟩,λ_=>⟨OL hP hN,by simp [m0,rep]⟩⟩
 | @next k Now sl m ST Now' sl' m' h hk e s ih =>
  obtain ⟨_,G,hI⟩:=ih;obtain ⟨hI,hpl⟩:=hI rfl;obtain ⟨es,hr,hm,hlen,ht,_⟩:=G.es;have htr:=ht (by decide);have hsl:=s.len hI;have h1:1<=m'.ts.length:=by
   have key:∀ {es},hJ P (abs m) es (abs m')->1<=m'.ts.length:=λr=>by
    have h1:=r.mono;have h2:(m.ts.length:Int)<=((m'.ts.length:Nat):Int):=h1;have:=hI.tl;omega
   cases s with
   | on _ es c i e1 pl=>exact key c.run
   | fin _ es c i e1=>exact key c.run
   | pan _ es w ob run mt len tr hw ho e1=>exact key run
   | full _ c i hh e1=>exact key c.run
  have hg0:(abs m).en 1=false:=by
   cases h:(abs m).en 1 with
   | false=>rfl
   | true=>have:=G.e1.2 h;cases this
  have hfin:∀ ST:Int,fin ST m'=0/\ST=0/\m'.ts.any goes=true\/fin ST m'=3/\ST=0/\m'.ts.any goes=false\/fin ST m'=ST/\ST≠0:=λST=>by
   unfold fin;by_cases h0:ST=0
   ·cases hg:m'.ts.any goes with
    | true=>exact .inl ⟨by rw [if_neg (by simp)];exact h0,h0,rfl⟩
    | false=>exact .inr (.inl ⟨by rw [if_pos ⟨h0,rfl⟩],h0,rfl⟩)
   ·exact .inr (.inr ⟨by rw [if_neg λh=>h0 h.1],h0⟩)
  have cat:∀ {fs},Ch P m m' fs->∃ es,hJ P (abs (m0 P 1)) es (abs m')/\vw P es/\es.length<=70*(k+1)/\m'.tr=es:=λ{fs} c=>⟨es++fs,hr.trans c.run,DS hm c.mt,by rw [dW];have:=c.len;omega,by rw [c.tr,htr]⟩;refine ⟨hk,?_⟩;cases s with
  | on _ fs c i e1 pl =>
   obtain ⟨gs,g1,g2,g3,g4⟩:=cat c;rw [hg0] at e1;rcases hfin 0 with ⟨h1',_,h3⟩|⟨h1',_,h3⟩|⟨_,h2⟩
   ·rw [h1'];exact ⟨⟨⟨gs,g1,g2,g3,λ_=>g4,(λh=>by cases h)⟩,.inl rfl,⟨(λh=>by cases h),(λh=>by rw [e1] at h;cases h)⟩,(λh=>by cases h),⟨h1,hsl⟩,λ_=>h3,(λh=>by cases h)⟩,λ_=>⟨i,by rw [pl];exact hpl⟩⟩
   ·rw [h1'];exact ⟨⟨⟨gs,g1,g2,g3,λ_=>g4,(λh=>by cases h)⟩,.inr (.inr (.inr (.inl rfl))),⟨(λh=>by cases h),(λh=>by rw [e1] at h;cases h)⟩,(λh=>by cases h),⟨h1,hsl⟩,(λh=>by cases h),λ_=>h3⟩,(λh=>by cases h)⟩
   ·exact absurd rfl h2
  | fin _ fs c i e1 =>
   obtain ⟨gs,g1,g2,g3,g4⟩:=cat c;rw [show fin 1 m'=1 from if_neg λh=>by cases h.1];exact ⟨⟨⟨gs,g1,g2,g3,λ_=>g4,(λh=>by cases h)⟩,.inr (.inl rfl),⟨λ_=>e1,λ_=>rfl⟩,(λh=>by cases h),⟨h1,hsl⟩,(λh=>by cases h),(λh=>by cases h)⟩,(λh=>by cases h)⟩
  | pan _ fs w ob run mt len tr hw ho e1 =>
   rw [hg0] at e1;rw [show fin 2 m'=2 from if_neg λh=>by cases h.1];exact ⟨⟨⟨es++fs,hr.trans run,DS hm mt,by rw [dW];omega,λh=>absurd rfl h,λ_=>⟨w,ob,by rw [tr,htr],hw,ho⟩⟩,.inr (.inr (.inl rfl)),⟨(λh=>by cases h),(λh=>by rw [e1] at h;cases h)⟩,(λh=>by cases h),⟨h1,hsl⟩,(λh=>by cases h),(λh=>by cases h)⟩,(λh=>by cases h)⟩
  | full _ c i hh e1 =>
   obtain ⟨gs,g1,g2,g3,g4⟩:=cat c;rw [hg0] at e1;rw [show fin 4 m'=4 from if_neg λh=>by cases h.1];exact ⟨⟨⟨gs,g1,g2,g3,λ_=>g4,(λh=>by cases h)⟩,.inr (.inr (.inr (.inr rfl))),⟨(λh=>by cases h),(λh=>by rw [e1] at h;cases h)⟩,λ_=>hh,⟨h1,hsl⟩,(λh=>by cases h),(λh=>by cases h)⟩,(λh=>by cases h)⟩
include hx
theorem AM:kD P (N:Int) script=dB (gJ P script) (ps 0 0 0 0 0 (m0 P N)):=by
 unfold kD;rw [MP,hP.f0,cx,show ((⟨0,0⟩:cE).Code != 0)=false from rfl,cj,cP (show ¬ (N:Int)<1 by omega),cP (show ¬ (16:Int)<(N:Int) by omega),Bool.or_self,cj,cP (by omega),cj];refine iI (step:=nU P (N:Int) script) (λi=>((i:Nat):Int)) _ script.length (λi hi=>?_) ?_
 ·unfold nU;have:=hx i hi;rw [j7 hi,j8,cP (show ¬ ix script (i:Int) < -1 by omega),cP (show ¬ (N:Int)<=ix script (i:Int) by omega)];show some (Sum.inl (i64.wrap ((i:Int)+1)))=_;rw [gC (by omega)]
 ·unfold nU;rw [lY,cj,M_ hP hN.2];rfl
theorem Nb:∃ (k:Nat) (S Now sl:Int) (m:M),tt P N script k S Now sl m/\(k=script.length\/S≠0)/\kD P (N:Int) script=some (S,((k:Nat):Int),Now,⟨0,0⟩,m.tr,m.ts.map (·.state),m.ce):=by
 rw [AM hP hN hl hx];obtain ⟨r,e,k,S,Now,sl,m,hs,hk,hr⟩:=ng (step:=gJ P script) (s0:=ps 0 0 0 0 0 (m0 P N)) (λs=>∃ (k:Nat) (S Now sl:Int) (m:M),s=ps k S ((k:Nat):Int) Now sl m/\tt P N script k S Now sl m) (λs=>((script.length:Int)-s.1).toNat) (λ(r:RT)=>∃ (k:Nat) (S Now sl:Int) (m:M),tt P N script k S Now sl m/\(k=script.length\/S≠0)/\r=(S,((k:Nat):Int),Now,⟨0,0⟩,m.tr,m.ts.map (·.state),m.ce)) (λs hs=>by
   obtain ⟨k,S,Now,sl,m,rfl,hs⟩:=hs;obtain ⟨hk,G,hI⟩:=FA hP hN hl hs;by_cases he:k=script.length\/S≠0
   ·exact .inr ⟨_,DQ G.tl.2 (by omega),k,S,Now,sl,m,hs,he,rfl⟩
   ·have hS:S=0:=by omega
    subst hS;obtain ⟨hI,hpl⟩:=hI rfl;obtain ⟨es,_,_,hlen,ht,_⟩:=G.es;have hlt:k<script.length:=by omega
    obtain ⟨ST,Now',sl',m',E,hsr⟩:=N9 hP hI hpl (by omega) (by rw [ht (by decide)];omega) (hx k hlt) (k:Int) Now sl;refine .inl ⟨_,E script k hlt (by omega) rfl,⟨k+1,_,_,_,m',by rw [gC (by omega)],.next hs hlt E hsr⟩,?_⟩;show ((script.length:Int)-((k+1:Nat):Int)).toNat<((script.length:Int)-(k:Int)).toNat;omega) ⟨0,0,0,0,m0 P N,rfl,.zero⟩
 exact ⟨k,S,Now,sl,m,hs,hk,by rw [e,hr]⟩
end
theorem Oy:kB ⟨0,[]⟩=some ⟨0,0⟩:=by
 show dB (mg ⟨0,[]⟩) (0,[])=_;exact f5 rfl
theorem OU:kB ⟨0,[1]⟩=some ⟨0,0⟩:=by
 show dB (mg ⟨0,[1]⟩) (0,[])=_;rw [kL (s':=(1,[(1,1)])) rfl];exact f5 rfl
theorem N_:i4 ⟨0,[]⟩=some (0,0,⟨6,0⟩,[]):=by
 unfold i4;rw [Oy];rfl
theorem Oa:i4 ⟨0,[1]⟩=some (0,1,⟨0,0⟩,[]):=by
 unfold i4;rw [OU];rfl
theorem LA:jg ⟨0,[]⟩ 1 [1]=some (0,⟨0,0⟩,[1],[]):=by
 unfold jg;rw [Oy];refine (kL (step:=ko ⟨0,[]⟩ 1 [1]) (s:=0) (s':=1) rfl).trans (f5 ?_);show Option.map Sum.inr ((mM ⟨0,[]⟩).bind _)=_;rw [show mM ⟨0,[]⟩=some [] from rfl,cx,xG (a:=[]) (b:=[1]) GQ];rfl
theorem Ob:gp 0 [⟨0,0,[]⟩] [1]=some (true,[],[⟨1,0,[]⟩]):=by
 have fa:dV 0 [⟨0,0,[]⟩]=some (false,[⟨0,0,[]⟩]):=by
  unfold dV;show (i4 ⟨0,[]⟩).bind _=_;rw [N_];rfl
 have fb:dV 0 [⟨0,0,[1]⟩]=some (true,[⟨1,0,[]⟩]):=by
  unfold dV;show (i4 ⟨0,[1]⟩).bind _=_;rw [Oa];rfl
 unfold gp;show (dV 0 [⟨0,0,[]⟩]).bind _=_;rw [fa];show (jg ⟨0,[]⟩ 1 [1]).bind _=_;rw [LA];show (dV 0 [⟨0,0,[1]⟩]).bind _=_;rw [fb];rfl
abbrev pg:cz:=⟨[⟨15,0,0⟩],0,[0],0,0⟩
abbrev k1:M:=⟨[⟨0,default,1,0,0⟩],[⟨0,0,[]⟩],[],[],[⟨0,[],false,[],[⟨1,0,0⟩]⟩],[],[],[]⟩
theorem Oc:BA pg:=Ip (by decide +kernel)
theorem LB:gq 0 pg.Code 0 [0] 0 0 [] 0 1 0 [] 0 [] [⟨0,default,0,0,0⟩] [⟨0,0,[]⟩] [1] [oh 0] [] []=some (st 0 0 k1):=by
 have hv:PV (oh 0):=⟨by decide,by decide,⟨lC,λx hx=>by cases hx⟩,(λx hx=>by cases hx),(λx hx=>by cases hx),(λe=>absurd rfl e),(λe=>absurd rfl e)⟩;have hg:lU (oh 0) 1 false=some (0,false,false,false,0,0,f0,[],[],[⟨1,0,0⟩],[]):=by
  rcases MT hv (t:=1) (by decide) (by simp [oh]) (by simp [oh]) with ⟨x,r,_,h,_⟩|⟨s,ss,x,r,h,_⟩|⟨_,_,h,_⟩|⟨_,_,_,e⟩
  ·cases h
  ·cases h
  ·cases h
  ·exact e
 unfold gq;show (gp 0 [⟨0,0,[]⟩] [1]).bind _=_;rw [Ob];have ht:eF 0 1 ⟨15,0,0⟩ pg.Code 0 [] [⟨0,default,0,0,0⟩] [⟨1,0,[]⟩] [] [oh 0]=some (false,0,[],[],[⟨0,default,1,0,0⟩],[⟨1,0,[]⟩],[⟨0,[],false,[],[⟨1,0,0⟩]⟩]):=by
  unfold eF;show (lU (oh 0) 1 false).bind _=_;rw [hg];rfl
 have hd:dD 0 1 ⟨15,0,0⟩ pg.Code 0 0 0 [] [] [⟨0,default,0,0,0⟩] [⟨1,0,[]⟩] [] [oh 0] [] []=some (false,0,0,[],[⟨0,default,1,0,0⟩],[],[],[⟨1,0,[]⟩],[⟨0,[],false,[],[⟨1,0,0⟩]⟩],[],[]):=by
  show (eF 0 1 ⟨15,0,0⟩ pg.Code 0 [] [⟨0,default,0,0,0⟩] [⟨1,0,[]⟩] [] [oh 0]).bind _=_;rw [ht];rfl
 show (dD 0 1 ⟨15,0,0⟩ pg.Code 0 0 0 [] [] [⟨0,default,0,0,0⟩] [⟨1,0,[]⟩] [] [oh 0] [] []).bind _=_;rw [hd];rfl
theorem Od:kE=some true:=by
 show (kD pg ((1:Nat):Int) [0,0]).bind _=_;rw [AM Oc (by decide) (by decide) (λi hi=>by
  have:i=0\/i=1:=by simp at hi;omega
  rcases this with rfl|rfl<;>decide)]
 have e:gJ pg [0,0] (ps 0 0 0 0 0 (m0 pg 1))=some (.inl (ps 1 (fin 0 k1) (i64.wrap (0+1)) 0 0 k1)):=by
  show (gq 0 pg.Code 0 [0] 0 0 [] 0 1 0 [] 0 [] [⟨0,default,0,0,0⟩] [⟨0,0,[]⟩] [1] [oh 0] [] []).bind _=_;rw [LB];exact j4 (t:=0) (by decide) 0 0 0 0 (m:=k1) (by decide)
 rw [kL e,f5 (DQ (t:=1) (m:=k1) (by decide) (.inr ⟨by decide,by decide⟩))];rfl
end
end
section
noncomputable section
def vy (procs:Int) (script:List Int):Prop:=∀ i,i<script.length->-1<=ix script ((i:Nat):Int)/\ix script ((i:Nat):Int)<procs
theorem vz (procs:Int) (script:List Int) (hl:script.length<=5000) (c:cE):∃ f,gO procs script c=some f/\(f.Code=0↔c.Code=0/\vy procs script):=by
 refine ng (step:=jT procs script) (s0:=(0,c)) (λs=>∃ i:Nat,i<=script.length/\s.1=((i:Nat):Int)/\(s.2.Code=0↔c.Code=0/\∀ j,j<i->-1<=ix script ((j:Nat):Int)/\ix script ((j:Nat):Int)<procs)) (λs=>((script.length:Int)-s.1).toNat) (λf=>f.Code=0↔c.Code=0/\vy procs script) (λs hs=>?_) ⟨0,hU _,rfl,⟨λh=>⟨h,λj hj=>absurd hj (om _)⟩,λh=>h.1⟩⟩;obtain ⟨i',f⟩:=s;obtain ⟨i,hi,rfl,h⟩:=hs;simp only at h;unfold jT;simp only;by_cases h0:f.Code=0
 ·by_cases hlt:i<script.length
  ·rw [cG (by omega),show (f.Code==0)=true from by simpa using h0,cG (by omega)];simp only [dc,cd,Bool.or_true];refine .inl ?_;have mu:((script.length:Int)-i64.wrap ((i:Int)+1)).toNat<((script.length:Int)-(i:Int)).toNat:=by rw [gC (by omega)];omega
   by_cases hb:ix script (i:Int) < -1\/procs<=ix script (i:Int)
   ·rw [show ((decide (ix script (i:Int)<(-1)))||(decide (procs<=ix script (i:Int))))=true from by simpa using hb];refine ⟨_,rfl,⟨i+1,hlt,gC (by omega),⟨λe=>by simp at e,λe=>?_⟩⟩,mu⟩;have:=e.2 i (by omega);omega
   ·rw [show ((decide (ix script (i:Int)<(-1)))||(decide (procs<=ix script (i:Int))))=false from by simpa using hb];refine ⟨_,rfl,⟨i+1,hlt,gC (by omega),⟨λe=>⟨(h.1 e).1,λj hj=>?_⟩,λe=>h.2 ⟨e.1,λj hj=>e.2 j (by omega)⟩⟩⟩,mu⟩;rcases Nat.lt_or_eq_of_le (Nat.le_of_lt_succ hj) with hj|rfl
    ·exact (h.1 e).2 j hj
    ·omega
  ·rw [cP (by omega),Bool.false_and];obtain rfl:i=script.length:=by omega
   exact .inr ⟨_,rfl,h⟩
 ·rw [show (f.Code==0)=false from by simpa using h0,ou];exact .inr ⟨_,rfl,⟨λe=>absurd e h0,λe=>h.2 ⟨e.1,λj hj=>e.2 j (by omega)⟩⟩⟩
theorem DT (p:cz) (procs:Int) (script:List Int) (hl:script.length<=5000):∃ f,jt p procs script=some f/\(f.Code=0↔(lA p).Code=0/\1<=procs/\procs<=16/\vy procs script):=by
 have j3:∀ c:cE,fW procs script c=gO procs script c:=λc=>by
  unfold fW;rw [cP (by omega),ou];rfl
 unfold jt;rw [MO,cx];by_cases h0:(lA p).Code=0
 ·rw [show ((lA p).Code==0)=true from by simpa using h0,rz];by_cases hb:procs<1\/16<procs
  ·rw [show ((decide (procs<1))||(decide ((16:Int)<procs)))=true from by simpa using hb];show∃f,fW procs script ⟨3,-1⟩=some f/\_;rw [j3];obtain ⟨f,h1,h2⟩:=vz procs script hl ⟨3,-1⟩;exact ⟨f,h1,⟨λe=>absurd (h2.1 e).1 (show (3:Int)≠0 by decide),λe=>by omega⟩⟩
  ·rw [show ((decide (procs<1))||(decide ((16:Int)<procs)))=false from by simpa using hb,cj,j3];obtain ⟨f,h1,h2⟩:=vz procs script hl (lA p);exact ⟨f,h1,⟨λe=>⟨h0,by omega,by omega,(h2.1 e).2⟩,λe=>h2.2 ⟨e.1,e.2.2.2⟩⟩⟩
 ·rw [show ((lA p).Code==0)=false from by simpa using h0,Bool.false_and,cj,j3];obtain ⟨f,h1,h2⟩:=vz procs script hl (lA p);exact ⟨f,h1,⟨λe=>absurd (h2.1 e).1 h0,λe=>absurd e.1 h0⟩⟩
structure Nc (p:cz) (procs:Int) (script:List Int):Prop where
 c:p.Code.length<=2000/\p.Pipes.length<=2000
 l:script.length<=5000
 f:(lA p).Code=0
 n:1<=procs/\procs<=16
 s:vy procs script
structure eY (P:cz) (N:Nat) (script:List Int) (k:Nat) (S Now sl:Int) (m:M):Prop where
 ok:BA P
 n:1<=N/\N<=16
 len:script.length<=5000
 scr:vy (N:Int) script
 seq:tt P N script k S Now sl m
 fin:k=script.length\/S≠0
theorem Oe (p:cz) (procs:Int) (script:List Int):(¬ Nc p procs script/\kX p procs script=some (0,0,0,false,[],[],[])) \/
  (Nc p procs script/\∃ (N k:Nat) (S Now sl:Int) (m:M),procs=((N:Nat):Int)/\eY p N script k S Now sl m/\kX p procs script=some (S,((k:Nat):Int),Now,true,m.tr,m.ts.map (·.state),m.ce)):=by
 unfold kX kb;simp only [cx];by_cases hb:2000<p.Code.length\/2000<p.Pipes.length
 ·rw [show (decide ((2000:Int)<(p.Code.length:Int))||decide ((2000:Int)<(p.Pipes.length:Int)))=true from by simp;omega];exact .inl ⟨λh=>by have:=h.c;omega,rfl⟩
 ·rw [show (decide ((2000:Int)<(p.Code.length:Int))||decide ((2000:Int)<(p.Pipes.length:Int)))=false from by simp;omega];by_cases hl:5000<script.length
  ·rw [cj,cG (by omega)];exact .inl ⟨λh=>by have:=h.l;omega,rfl⟩
  ·rw [cj,cP (by omega),cj];obtain ⟨f,h1,h2⟩:=DT p procs script (by omega);rw [h1,cx];by_cases h0:f.Code=0
   ·obtain ⟨g1,g2,g3,g4⟩:=h2.1 h0;rw [show (f.Code != 0)=false from by simpa using h0];obtain ⟨N,rfl⟩:=ib (show 0<=procs by omega);have hP:=Ip g1;obtain ⟨k,S,Now,sl,m,hs,hk,e⟩:=Nb hP (N:=N) (by omega) (script:=script) (by omega) g4;refine .inr ⟨⟨by omega,by omega,g1,⟨g2,g3⟩,g4⟩,N,k,S,Now,sl,m,rfl,⟨hP,by omega,by omega,g4,hs,hk⟩,?_⟩;unfold ju;rw [cj,e];rfl
   ·rw [show (f.Code != 0)=true from by simpa using h0];exact .inl ⟨λh=>h0 (h2.2 ⟨h.f,h.n.1,h.n.2,h.s⟩),rfl⟩
theorem eY.good {P:cz} {N k:Nat} {script:List Int} {S Now sl:Int} {m:M} (h:eY P N script k S Now sl m):k<=script.length/\GR P k S m:=by
 obtain ⟨h1,h2,_⟩:=FA h.ok h.n h.len h.seq;exact ⟨h1,h2⟩
theorem hJ.states {P:cz} {a b:A} {es:List cy} (r:hJ P a es b):∃ f:Nat->A,f 0=a/\f es.length=b/\∀ i (h:i<es.length),Ev P (f i) es[i] (f (i+1))/\1<=es[i].Task/\es[i].Task<=(f i).n/\(f i).en es[i].Task=false:=by
 induction r with
 | nil=>exact ⟨λ_=>a,rfl,rfl,λi h=>absurd h (om _)⟩
 | @snoc es b e c r h ht ih =>
  obtain ⟨f,f0,f1,f2⟩:=ih;refine ⟨λi=>if i<=es.length then f i else c,(if_pos (hU _)).trans f0,if_neg (by simp),λi hi=>?_⟩;dsimp only;rw [dW,List.length_singleton] at hi;rcases Nat.lt_or_eq_of_le (Nat.le_of_lt_succ hi) with hlt|rfl
  ·simp only [tz hlt];rw [if_pos (by omega),if_pos (by omega)];exact f2 i hlt
  ·simp only [tA (cF _),Nat.sub_self,List.getElem_singleton];rw [if_pos (by omega),if_neg (by omega),f1];exact ⟨h,ht⟩
structure Tr (P:cz) (S:Int) (m:M) (f:Nat->A):Prop where
 f0:f 0=abs (m0 P 1)
 f1:f m.tr.length=abs m
 ev:∀ i (h:i<m.tr.length),Ev P (f i) m.tr[i] (f (i+1))\/(m.tr[i].Op=22/\(0<=m.tr[i].Obj/\m.tr[i].Obj<=20)/\m.tr[i].Value=0/\f (i+1)=f i/\i+1=m.tr.length/\S=2)
 ta:∀ i (h:i<m.tr.length),1<=m.tr[i].Task/\m.tr[i].Task<=(f i).n/\(f i).en m.tr[i].Task=false
 n:∀ i,i<=m.tr.length->1<=(f i).n/\(f i).n<=64
 len:m.tr.length<=400000
theorem GR.states {P:cz} {k:Nat} {S:Int} {m:M} (h:GR P k S m) (hk:k<=5000):∃ f,Tr P S m f:=by
 obtain ⟨es,r,_,hl,h1,h2⟩:=h.es;obtain ⟨f,f0,f1,f2⟩:=r.states;have nn:∀ i,i<=es.length->1<=(f i).n/\(f i).n<=64:=λi=>by
  induction i with
  | zero=>intro _;rw [f0];exact ⟨iW 1,show (1:Int)<=64 by decide⟩
  | succ i ih =>
   intro hi;have h0:=ih (by omega);have hev:=(f2 i (by omega)).1;have hm:=hev.mono;refine ⟨by omega,?_⟩;revert h0;generalize es[i]=e at hev;generalize f i=a at hev;generalize f (i+1)=b at hev;intro h0;cases hev<;>first|exact h0.2|(show a.n+1<=64;omega)
 by_cases hS:S=2
 ·obtain ⟨w,ob,htr,hw,ho⟩:=h2 hS;have hlen:m.tr.length=es.length+1:=by rw [htr];simp
  have g1:∀ i (hi:i<m.tr.length) (hi2:i<es.length),m.tr[i]=es[i]:=λi hi hi2=>by simp only [htr];rw [tz hi2]
  have g2:∀ i (hi:i<m.tr.length),i=es.length->m.tr[i]=⟨w,22,ob,0⟩:=λi hi e=>by subst e;simp only [htr];rw [tA (cF _)];simp
  refine ⟨λi=>if i<=es.length then f i else abs m,(if_pos (hU _)).trans f0,if_neg (by omega),λi hi=>?_,λi hi=>?_,λi hi=>?_,by omega⟩
  ·by_cases hlt:i<es.length
   ·rw [g1 i hi hlt,if_pos (by omega),if_pos (by omega)];exact .inl (f2 i hlt).1
   ·obtain rfl:i=es.length:=by omega
    rw [g2 _ hi rfl,if_pos (by omega),if_neg (by omega),f1];exact .inr ⟨rfl,ho,rfl,rfl,by omega,hS⟩
  ·by_cases hlt:i<es.length
   ·rw [g1 i hi hlt,if_pos (by omega)];exact (f2 i hlt).2
   ·obtain rfl:i=es.length:=by omega
    rw [g2 _ hi rfl,if_pos (by omega),f1];exact hw
  ·by_cases hle:i<=es.length
   ·rw [if_pos hle];exact nn i hle
   ·rw [if_neg hle,←f1];exact nn _ (cF _)
 ·have htr:=h1 hS;subst htr;exact ⟨f,f0,f1,λi hi=>.inl (f2 i hi).1,λi hi=>(f2 i hi).2,nn,by omega⟩
theorem B0 {k:Nat} (h:k<=400000):i64.wrap ((k:Int)+1)=((k+1:Nat):Int):=by
 rw [fI (by omega) (by omega)];omega
end
end
section
noncomputable section
theorem Ev.ob {P:cz} {a b:A} {e:cy} (h:Ev P a e b):(e.Op=8\/e.Op=9\/e.Op=11)/\e.Obj=0\/(e.Op=12\/e.Op=13)/\0<=e.Obj/\e.Obj<P.Cells\/(e.Op=14\/e.Op=15\/e.Op=16)/\0<=e.Obj/\e.Obj<(P.Pipes.length:Int) \/
  (e.Op=17\/e.Op=18)/\0<=e.Obj/\e.Obj<P.Locks\/(e.Op=19\/e.Op=20)/\0<=e.Obj/\e.Obj<P.Groups:=by
 cases h<;>simp_all
structure tY (l:List Int) (n:Nat) (g:Int->Int):Prop where
 len:l.length=n
 at':∀ k:Int,0<=k->k<(n:Int)->ix l k=g k
theorem tY.set {l:List Int} {n:Nat} {g g':Int->Int} (h:tY l n g) {k v:Int} (h0:0<=k) (hk:k<(n:Int)) (hv:g' k=v) (ho:∀ j,j≠k->g' j=g j):tY (l.set k.toNat v) n g':=by
 refine ⟨by rw [cr];exact h.len,λj j0 jn=>?_⟩;obtain ⟨a,rfl⟩:=ib h0;obtain ⟨b,rfl⟩:=ib j0;rw [eU];have hl:=h.len;by_cases e:(b:Int)=(a:Int)
 ·obtain rfl:b=a:=by omega
  rw [hv];exact DF l (by omega) v
 ·rw [ho _ e,←h.at' _ j0 jn,dp (by rw [cr];omega),dp (by omega),pX,if_neg (by omega)]
theorem tY.to {l:List Int} {n:Nat} {g g':Int->Int} (h:tY l n g) (e:∀ k,0<=k->k<(n:Int)->g' k=g k):tY l n g':=⟨h.len,λk h0 hk=>by rw [e k h0 hk];exact h.at' k h0 hk⟩
theorem tY.rep (n:Nat) {g:Int->Int} (h:∀ k,0<=k->k<(n:Int)->g k=0):tY (List.replicate n (default:Int)) n g:=by
 refine ⟨rB,λk h0 hk=>?_⟩;obtain ⟨a,rfl⟩:=ib h0;rw [h _ h0 hk,dp (by rw [rB];omega),List.getElem_replicate];rfl
theorem BB (xs:List Int) (h:xs.length<100000):kp xs xs=some true:=by
 unfold kp;rw [show ((xs.length:Int) != (xs.length:Int))=false from by simp,cj];refine iI (step:=kj xs xs) (λi=>((i:Nat):Int)) _ xs.length (λi hi=>?_) ?_
 ·unfold kj;rw [j7 hi,j8,gC (by omega)];simp
 ·unfold kj;rw [lY,cj]
end
end
section
noncomputable section
section
variable {P:cz} {N:Nat} {script:List Int} {k:Nat} {S Now sl:Int} {m:M}
theorem tt.run (h:tt P N script k S Now sl m):∀ scr':List Int,k<=scr'.length->k<=5000->(∀ i,i<k->ix scr' ((i:Nat):Int)=ix script ((i:Nat):Int)) ->
  dB (gJ P scr') (ps 0 0 0 0 0 (m0 P N))=dB (gJ P scr') (ps k S (k:Int) Now sl m):=by
 induction h with
 | zero=>exact λ_ _ _ _=>rfl
 | @next k Now sl m ST Now' sl' m' h hk e s ih =>
  intro scr' h1 h2 h3;rw [ih scr' (by omega) (by omega) (λi hi=>h3 i (by omega)),kL (e scr' k (by omega) (by omega) (h3 k (by omega))),gC (by omega)]
theorem tt.ends (h:tt P N script k S Now sl m) (hP:BA P) (hN:1<=N/\N<=16) (htl:m.ts.length<=64) {scr':List Int} (hl:scr'.length<=5000) (hs:vy (N:Int) scr') (hk:k<=scr'.length) (hag:∀ i,i<k->ix scr' ((i:Nat):Int)=ix script ((i:Nat):Int)) (he:k=scr'.length\/S≠0) :
  kD P (N:Int) scr'=some (S,(k:Int),Now,⟨0,0⟩,m.tr,m.ts.map (·.state),m.ce):=by
 rw [AM hP hN hl hs,h.run scr' hk (by omega) hag];refine f5 (DQ htl ?_);by_cases hlt:k=scr'.length
 ·exact .inl hlt
 ·exact .inr ⟨by omega,he.resolve_left hlt⟩
theorem SR.pre {n:Nat} {ST:Int} {m':M} (s:SR P n m ST m'):∃ e,m'.tr=m.tr++e:=by
 cases s with
 | on _ es c i e1 pl=>exact ⟨_,c.tr⟩
 | fin _ es c i e1=>exact ⟨_,c.tr⟩
 | pan _ es w ob run mt len tr hw ho e1=>exact ⟨_,by rw [tr,fJ]⟩
 | full _ c i hh e1=>exact ⟨_,c.tr⟩
theorem tt.back (h:tt P N script k S Now sl m):∀ j,j<=k->∃ (S' Now' sl':Int) (m':M),tt P N script j S' Now' sl' m'/\∃ e,m.tr=m'.tr++e:=by
 induction h with
 | zero =>
  intro j hj;obtain rfl:j=0:=by omega
  exact ⟨_,_,_,_,.zero,[],by simp⟩
 | @next k Now sl m ST Now' sl' m' h hk e s ih =>
  intro j hj;by_cases hlt:j<=k
  ·obtain ⟨S',Now'',sl'',m'',h1,e',h2⟩:=ih j hlt;obtain ⟨e2,h3⟩:=s.pre;exact ⟨S',Now'',sl'',m'',h1,e'++e2,by rw [h3,h2,fJ]⟩
  ·obtain rfl:j=k+1:=by omega
   exact ⟨_,_,_,_,.next h hk e s,[],by simp⟩
end
theorem GS (xs:List cy) (h:xs.length<=400000):jv xs xs=some true:=by
 unfold jv;rw [show ((xs.length:Int) != (xs.length:Int))=false from by simp,cj];refine iI (step:=iG xs xs) (λi=>((i:Nat):Int)) _ xs.length (λi hi=>?_) ?_
 ·unfold iG;rw [j7 hi,j8,B0 (by omega)];simp
 ·unfold iG;rw [lY,cj]
theorem EE (r:m5) (h1:r.Trace.length<=400000) (h2:r.Tasks.length<100000) (h3:r.Cells.length<100000):jd r r=some true:=by
 unfold jd eX;rw [BB _ h2,BB _ h3,GS _ h1];simp
theorem eY.lens {P:cz} {N k:Nat} {script:List Int} {S Now sl:Int} {m:M} (R:eY P N script k S Now sl m):m.tr.length<=400000/\(m.ts.map (·.state)).length<100000/\m.ce.length<100000:=by
 obtain ⟨hk,G⟩:=R.good;have hl:=R.len;obtain ⟨f,T⟩:=G.states (by omega);have htl:=G.tl;refine ⟨T.len,by rw [ep];omega,?_⟩;have key:∀ i,i<=m.tr.length->(((f i).ce.length:Nat):Int)=P.Cells:=λi=>by
  induction i with
  | zero=>intro _;rw [T.f0];show ((((List.replicate P.Cells.toNat (default:Int)).length:Nat)):Int)=_;rw [rB];have:=R.ok.ce;omega
  | succ i ih =>
   intro hi;rcases T.ev i (by omega) with h|⟨_,_,_,h,_⟩
   ·have h2:=ih (by omega);generalize f i=a at h h2;generalize m.tr[i]=e at h;generalize f (i+1)=b at h ⊢;cases h<;>first|exact h2|(rw [cr];exact h2)
   ·rw [h];exact ih (by omega)
 have h:=key _ (cF _);rw [T.f1] at h;have:(((abs m).ce.length:Nat):Int)=(m.ce.length:Int):=rfl;have:=R.ok.ce;omega
end
end
section
noncomputable section
theorem Nd {l:List Int} (h:l.length<=100000):mG l=some l:=by
 unfold mG;rw [cG (by omega)];rfl
theorem Iq {a b:List Int} {i:Nat} (h:i<a.length):ix (a++b) (i:Int)=ix a (i:Int):=by
 rw [dp (by rw [dW];omega),dp h,tz h]
theorem Ir (p:cz) (procs:Int) (script more:List Int) (hmore:more.length<=1048576):kF p procs script more=some true:=by
 unfold kF;rw [Od,cx,jF,cj];rcases Oe p procs script with ⟨_,h⟩|⟨F,N,k,S,Now,sl,m,rfl,R,h⟩
 ·rw [h];rfl
 ·rw [h,cx];simp only [jF,cj];obtain ⟨hk,G⟩:=R.good;have hl:=R.len;have htl:=G.tl;obtain ⟨l1,l2,l3⟩:=R.lens;refine iI (step:=il p (N:Int) script more) (λi=>((m.ts.take i).any goes,((i:Nat):Int),S,(k:Int),Now,m.tr,m.ts.map (·.state),m.ce)) _ m.ts.length (λi hi=>?_) ?_
  ·have hi':i<(m.ts.map (·.state)).length:=by simpa using hi
   have w:=B0 (k:=i) (by omega);unfold il gB;simp only;rw [j7 hi',j8,dp hi',oq,jZ hi,List.any_append,w];simp only [dc,cd,List.any_cons,List.any_nil,Bool.or_false];cases (m.ts.take i).any goes with
   | true=>rfl
   | false =>
    unfold goes;cases (m.ts[i].state==0)<;>rfl
  ·unfold il;simp only;rw [show m.ts.length=(m.ts.map (·.state)).length by simp,lY,cj];simp only [ep];rw [ov,cG (show (0:Int)<(m.ts.length:Int) by omega),Bool.or_true,cd];have fst:ix (m.ts.map (·.state)) 0=(tk m.ts 1).state:=by
    have h0:0<(m.ts.map (·.state)).length:=by rw [ep];omega
    have h0':0<m.ts.length:=by omega
    have e1:=dp h0;have e2:ix m.ts 0=m.ts[0]:=dp h0';unfold tk;rw [show (1:Int)-1=0 from rfl,e2];simpa using e1
   have no:(bif (S==3) then (m.ts.any goes||((ix (m.ts.map (·.state)) 0==3)||((S==0)&&(!m.ts.any goes)))) else ((S==0)&&(!m.ts.any goes)))=false:=by
    by_cases h3:S=3
    ·have hn:=G.no h3;have h1:(abs m).en 1=false:=by
      cases hh:(abs m).en 1 with
      | false=>rfl
      | true=>have:=G.e1.2 hh;omega
     rw [Ac ⟨by omega,by omega⟩] at h1;rw [h3,hn,fst,h1];rfl
    ·rw [show (S==3)=false from by simpa using h3,cj];by_cases h0:S=0
     ·rw [G.go h0];simp
     ·rw [show (S==0)=false from by simpa using h0];rfl
   rw [no,cj];by_cases hgo:S=3/\script.length+more.length<=5000
   ·obtain ⟨h3,hlen⟩:=hgo;rw [h3,fI (by omega) (by omega),cP (show ¬ (5000:Int)<(script.length:Int)+(more.length:Int) by omega)];simp only [bne_self_eq_false,Bool.or_self,cj];have key:dB (ik p (N:Int) script more 3 (k:Int) Now m.tr (m.ts.map (·.state)) m.ce) 0=some true:=by
     obtain ⟨r,e,hr⟩:=ng (step:=ik p (N:Int) script more 3 (k:Int) Now m.tr (m.ts.map (·.state)) m.ce) (s0:=0) (λs=>∃ i:Nat,i<=more.length/\s=((i:Nat):Int)/\∀ j,j<i->-1<=ix more ((j:Nat):Int)/\ix more ((j:Nat):Int)<(N:Int)) (λs=>((more.length:Int)-s).toNat) (λr=>r=true) (λs hs=>by
       obtain ⟨i,hi,rfl,h1⟩:=hs;unfold ik;by_cases hlt:i<more.length
       ·rw [j7 hlt,j8];simp only [dc,cd,Bool.or_true];by_cases hb:ix more (i:Int) < -1\/(N:Int)<=ix more (i:Int)
        ·refine .inr ⟨true,?_,rfl⟩;rw [show ((decide (ix more (i:Int)<(-1)))||(decide ((N:Int)<=ix more (i:Int))))=true from by simpa using hb];rfl
        ·refine .inl ⟨_,?_,⟨i+1,hlt,B0 (by omega),λj hj=>?_⟩,?_⟩
         ·rw [show ((decide (ix more (i:Int)<(-1)))||(decide ((N:Int)<=ix more (i:Int))))=false from by simpa using hb];rfl
         ·rcases Nat.lt_or_eq_of_le (Nat.le_of_lt_succ hj) with hj|rfl
          ·exact h1 j hj
          ·omega
         ·rw [B0 (by omega)];omega
       ·obtain rfl:i=more.length:=by omega
        refine .inr ⟨true,?_,rfl⟩;rw [lY,cj,Nd (by omega),cx,cG (by simp;omega),cd];have sc:vy (N:Int) (script++more):=λi hi=>by
         rw [dW] at hi;by_cases hs:i<script.length
         ·rw [Iq hs];exact R.scr i hs
         ·have e1:ix (script++more) (i:Int)=ix more ((i-script.length:Nat):Int):=by
           rw [dp (by rw [dW];omega),dp (show i-script.length<more.length by omega),tA (by omega)]
          rw [e1];exact h1 _ (by omega)
        have E:=R.seq.ends R.ok R.n htl.2 (scr':=script++more) (by rw [dW];omega) sc (by rw [dW];omega) (λi hi=>Iq (by omega)) (.inr (by omega));rw [E,cx,h3];unfold ij;rw [EE _ l1 l2 l3];rfl) ⟨0,hU _,rfl,λj hj=>absurd hj (om _)⟩
     rw [e,hr]
    rw [key]
   ·by_cases h3:S=3
    ·have hlm:5000<script.length+more.length:=by omega
     rw [h3,fI (by omega) (by omega),cG (show (5000:Int)<(script.length:Int)+(more.length:Int) by omega)];rfl
    ·rw [show (S != 3)=true from by simpa using h3];rfl
end
end
end Go.Proofs.YthcdpjkgdcpkmaaGreatDoor
end
