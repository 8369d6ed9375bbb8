/-
 Lemmas, put together: wkP15, wkP16, wkP17, wkPtasks.
 No conditions.
-/
import Derived.Test.YthcdpjkgdcpkmaaGreatDoorwkBWorldTasks1
open Go.IntKind (i64)
set_option linter.unusedSimpArgs false
set_option linter.unusedVariables false
set_option linter.unusedSectionVars false
section
namespace Go.Proofs.YthcdpjkgdcpkmaaGreatDoor
set_option maxRecDepth 100000
open Go Go.Sx
section
noncomputable section
theorem DO {P:cx} {a b:List cy} (h1:vt P a) (h2:vt P b):vt P (a++b):=λi e he ho=>by
 rcases Nat.lt_or_ge i a.length with hi|hi
 ·rw [iQ hi] at he
  rcases h1 i e he ho with h|⟨g,hg,h⟩
  ·exact .inl h
  ·exact .inr ⟨g,by rw [iQ (dx.1 hg).1];exact hg,h⟩
 ·rw [jG hi] at he
  rcases h2 _ e he ho with h|⟨g,hg,h⟩
  ·exact .inl h
  ·refine .inr ⟨g,?_,h⟩
   rw [jG (by omega),show i+1-a.length=i-a.length+1 by omega]
   exact hg
structure AO (P:cx) (k:Nat) (S:Int) (m:M):Prop where
 es:∃ es,hJ P (abs (m0 P 1)) es (abs m)/\vt P es/\es.length<=70*k/\(S≠2->m.tr=es)/\(S=2->∃ w ob,m.tr=es++[⟨w,22,ob,0⟩]/\(1<=w/\w<=(abs m).n/\(abs m).en w=false)/\0<=ob/\ob<=20)
 ss:S=0\/S=1\/S=2\/S=3\/S=4
 e1:S=1↔(abs m).en 1=true
 full:S=4->m.ts.length=64
 tl:1<=m.ts.length/\m.ts.length<=64
 go:S=0->m.ts.any goes=true
 no:S=3->m.ts.any goes=false
section
variable {P:cx} (hP:xk P) {N:Nat} (hN:1<=N/\N<=16) {script:List Int} (hl:script.length<=5000) (hx:∀ i,i<script.length->-1<=ix script ((i:Nat):Int)/\ix script ((i:Nat):Int)<(N:Int))
include hP hN hl
theorem Fv {k:Nat} {S Now sl:Int} {m:M} (h:BC P N script k S Now sl m):k<=script.length/\AO P k S m/\(S=0->fg P k m/\m.pr.length=N):=by
 induction h with
 | zero =>
  refine ⟨hX _,⟨⟨[],.nil _,gD (λe he=>by cases he),hX _,λ_=>rfl,(λh=>by cases h)⟩,.inl rfl,⟨(λh=>by cases h),(λh=>by cases h)⟩,(λh=>by cases h),(show 1<=1/\1<=64 by decide),λ_=>rfl,(λh=>by cases h)⟩,λ_=>⟨OE hP hN,by simp [m0,rep]⟩⟩
 | @next k Now sl m ST Now' sl' m' h hk e s ih =>
  obtain ⟨_,G,hI⟩:=ih;obtain ⟨hI,hpl⟩:=hI rfl;obtain ⟨es,hr,hm,hlen,ht,_⟩:=G.es;have htr:=ht (by decide);have hsl:=s.len hI;have h1:1<=m'.ts.length:=by
   have key:∀ {es},hJ P (abs m) es (abs m')->1<=m'.ts.length:=λr=>by
    have h1:=r.mono;have h2:(m.ts.length:Int)<=((m'.ts.length:Nat):Int):=h1;have:=hI.tl;omega
   cases s with
   | on _ es c i e1 pl=>exact key c.run
   | fin _ es c i e1=>exact key c.run
   | pan _ es w ob run mt len tr hw ho e1=>exact key run
   | full _ c i hh e1=>exact key c.run
  have hg0:(abs m).en 1=false:=by
   cases h:(abs m).en 1 with
   | false=>rfl
   | true=>have:=G.e1.2 h;cases this
  have hfin:∀ ST:Int,fin ST m'=0/\ST=0/\m'.ts.any goes=true\/fin ST m'=3/\ST=0/\m'.ts.any goes=false\/fin ST m'=ST/\ST≠0:=λST=>by
   unfold fin;by_cases h0:ST=0
   ·cases hg:m'.ts.any goes with
    | true=>exact .inl ⟨by rw [if_neg (by simp)];exact h0,h0,rfl⟩
    | false=>exact .inr (.inl ⟨by rw [if_pos ⟨h0,rfl⟩],h0,rfl⟩)
   ·exact .inr (.inr ⟨by rw [if_neg λh=>h0 h.1],h0⟩)
  have cat:∀ {fs},Ch P m m' fs->∃ es,hJ P (abs (m0 P 1)) es (abs m')/\vt P es/\es.length<=70*(k+1)/\m'.tr=es:=λ{fs} c=>⟨es++fs,hr.trans c.run,DO hm c.mt,by rw [ec];have:=c.len;omega,by rw [c.tr,htr]⟩;refine ⟨hk,?_⟩;cases s with
  | on _ fs c i e1 pl =>
   obtain ⟨gs,g1,g2,g3,g4⟩:=cat c;rw [hg0] at e1;rcases hfin 0 with ⟨h1',_,h3⟩|⟨h1',_,h3⟩|⟨_,h2⟩
   ·rw [h1'];exact ⟨⟨⟨gs,g1,g2,g3,λ_=>g4,(λh=>by cases h)⟩,.inl rfl,⟨(λh=>by cases h),(λh=>by rw [e1] at h;cases h)⟩,(λh=>by cases h),⟨h1,hsl⟩,λ_=>h3,(λh=>by cases h)⟩,λ_=>⟨i,by rw [pl];exact hpl⟩⟩
   ·rw [h1'];exact ⟨⟨⟨gs,g1,g2,g3,λ_=>g4,(λh=>by cases h)⟩,.inr (.inr (.inr (.inl rfl))),⟨(λh=>by cases h),(λh=>by rw [e1] at h;cases h)⟩,(λh=>by cases h),⟨h1,hsl⟩,(λh=>by cases h),λ_=>h3⟩,(λh=>by cases h)⟩
   ·exact absurd rfl h2
  | fin _ fs c i e1 =>
   obtain ⟨gs,g1,g2,g3,g4⟩:=cat c;rw [show fin 1 m'=1 from if_neg λh=>by cases h.1];exact ⟨⟨⟨gs,g1,g2,g3,λ_=>g4,(λh=>by cases h)⟩,.inr (.inl rfl),⟨λ_=>e1,λ_=>rfl⟩,(λh=>by cases h),⟨h1,hsl⟩,(λh=>by cases h),(λh=>by cases h)⟩,(λh=>by cases h)⟩
  | pan _ fs w ob run mt len tr hw ho e1 =>
   rw [hg0] at e1;rw [show fin 2 m'=2 from if_neg λh=>by cases h.1];exact ⟨⟨⟨es++fs,hr.trans run,DO hm mt,by rw [ec];omega,λh=>absurd rfl h,λ_=>⟨w,ob,by rw [tr,htr],hw,ho⟩⟩,.inr (.inr (.inl rfl)),⟨(λh=>by cases h),(λh=>by rw [e1] at h;cases h)⟩,(λh=>by cases h),⟨h1,hsl⟩,(λh=>by cases h),(λh=>by cases h)⟩,(λh=>by cases h)⟩
  | full _ c i hh e1 =>
   obtain ⟨gs,g1,g2,g3,g4⟩:=cat c;rw [hg0] at e1;rw [show fin 4 m'=4 from if_neg λh=>by cases h.1];exact ⟨⟨⟨gs,g1,g2,g3,λ_=>g4,(λh=>by cases h)⟩,.inr (.inr (.inr (.inr rfl))),⟨(λh=>by cases h),(λh=>by rw [e1] at h;cases h)⟩,λ_=>hh,⟨h1,hsl⟩,(λh=>by cases h),(λh=>by cases h)⟩,(λh=>by cases h)⟩
include hx
theorem Fw:mG P (N:Int) script=dD (iG P script) (ps 0 0 0 0 0 (m0 P N)):=by
 unfold mG;rw [MJ,hP.f0,cw,show ((⟨0,0⟩:cC).Code != 0)=false from rfl,ck,cH (show ¬ (N:Int)<1 by omega),cH (show ¬ (16:Int)<(N:Int) by omega),ow,ck,cH (by omega),ck];refine i0 (step:=nT P (N:Int) script) (λi=>((i:Nat):Int)) _ script.length (λi hi=>?_) ?_
 ·unfold nT;have:=hx i hi;rw [ko hi,kp,cH (show ¬ ix script (i:Int) < -1 by omega),cH (show ¬ (N:Int)<=ix script (i:Int) by omega)];show some (Sum.inl (i64.wrap ((i:Int)+1)))=_;rw [gT (by omega)]
 ·unfold nT;rw [mN,ck,MY hP hN.2];rfl
theorem M0:∃ (k:Nat) (S Now sl:Int) (m:M),BC P N script k S Now sl m/\(k=script.length\/S≠0)/\mG P (N:Int) script=some (S,((k:Nat):Int),Now,⟨0,0⟩,m.tr,m.ts.map (·.state),m.ce):=by
 rw [Fw hP hN hl hx];obtain ⟨r,e,k,S,Now,sl,m,hs,hk,hr⟩:=nf (step:=iG P script) (s0:=ps 0 0 0 0 0 (m0 P N)) (λs=>∃ (k:Nat) (S Now sl:Int) (m:M),s=ps k S ((k:Nat):Int) Now sl m/\BC P N script k S Now sl m) (λs=>((script.length:Int)-s.1).toNat) (λ(r:RT)=>∃ (k:Nat) (S Now sl:Int) (m:M),BC P N script k S Now sl m/\(k=script.length\/S≠0)/\r=(S,((k:Nat):Int),Now,⟨0,0⟩,m.tr,m.ts.map (·.state),m.ce)) (λs hs=>by
   obtain ⟨k,S,Now,sl,m,rfl,hs⟩:=hs;obtain ⟨hk,G,hI⟩:=Fv hP hN hl hs;by_cases he:k=script.length\/S≠0
   ·exact .inr ⟨_,Ih G.tl.2 (by omega),k,S,Now,sl,m,hs,he,rfl⟩
   ·have hS:S=0:=by omega
    subst hS;obtain ⟨hI,hpl⟩:=hI rfl;obtain ⟨es,_,_,hlen,ht,_⟩:=G.es;have hlt:k<script.length:=by omega
    obtain ⟨ST,Now',sl',m',E,hsr⟩:=NW hP hI hpl (by omega) (by rw [ht (by decide)];omega) (hx k hlt) (k:Int) Now sl;refine .inl ⟨_,E script k hlt (by omega) rfl,⟨k+1,_,_,_,m',by rw [gT (by omega)],.next hs hlt E hsr⟩,?_⟩;show ((script.length:Int)-((k+1:Nat):Int)).toNat<((script.length:Int)-(k:Int)).toNat;omega) ⟨0,0,0,0,m0 P N,rfl,.zero⟩
 exact ⟨k,S,Now,sl,m,hs,hk,by rw [e,hr]⟩
end
theorem Oo:kD ⟨0,[]⟩=some ⟨0,0⟩:=by
 show dD (mg ⟨0,[]⟩) (0,[])=_;exact gh rfl
theorem OM:kD ⟨0,[1]⟩=some ⟨0,0⟩:=by
 show dD (mg ⟨0,[1]⟩) (0,[])=_;rw [lF (s':=(1,[(1,1)])) rfl];exact gh rfl
theorem NX:iZ ⟨0,[]⟩=some (0,0,⟨6,0⟩,[]):=by
 unfold iZ;rw [Oo];rfl
theorem NY:iZ ⟨0,[1]⟩=some (0,1,⟨0,0⟩,[]):=by
 unfold iZ;rw [OM];rfl
theorem Lv:ji ⟨0,[]⟩ 1 [1]=some (0,⟨0,0⟩,[1],[]):=by
 unfold ji;rw [Oo];refine (lF (step:=kx ⟨0,[]⟩ 1 [1]) (s:=0) (s':=1) rfl).trans (gh ?_);show Option.map Sum.inr ((mM ⟨0,[]⟩).bind _)=_;rw [show mM ⟨0,[]⟩=some [] from rfl,cw,xF (a:=[]) (b:=[1]) GJ];rfl
theorem NZ:gm 0 [⟨0,0,[]⟩] [1]=some (true,[],[⟨1,0,[]⟩]):=by
 have fa:dT 0 [⟨0,0,[]⟩]=some (false,[⟨0,0,[]⟩]):=by
  unfold dT;show (iZ ⟨0,[]⟩).bind _=_;rw [NX];rfl
 have fb:dT 0 [⟨0,0,[1]⟩]=some (true,[⟨1,0,[]⟩]):=by
  unfold dT;show (iZ ⟨0,[1]⟩).bind _=_;rw [NY];rfl
 unfold gm;show (dT 0 [⟨0,0,[]⟩]).bind _=_;rw [fa];show (ji ⟨0,[]⟩ 1 [1]).bind _=_;rw [Lv];show (dT 0 [⟨0,0,[1]⟩]).bind _=_;rw [fb];rfl
abbrev pg:cx:=⟨[⟨15,0,0⟩],0,[0],0,0⟩
abbrev k1:M:=⟨[⟨0,default,1,0,0⟩],[⟨0,0,[]⟩],[],[],[⟨0,[],false,[],[⟨1,0,0⟩]⟩],[],[],[]⟩
theorem N0:xk pg:=Ig (by decide +kernel)
theorem Lw:gp 0 pg.Code 0 [0] 0 0 [] 0 1 0 [] 0 [] [⟨0,default,0,0,0⟩] [⟨0,0,[]⟩] [1] [oi 0] [] []=some (st 0 0 k1):=by
 have hv:PV (oi 0):=⟨by decide,by decide,⟨lD,λx hx=>by cases hx⟩,(λx hx=>by cases hx),(λx hx=>by cases hx),(λe=>absurd rfl e),(λe=>absurd rfl e)⟩;have hg:lV (oi 0) 1 false=some (0,false,false,false,0,0,f0,[],[],[⟨1,0,0⟩],[]):=by
  rcases MN hv (t:=1) (by decide) (by simp [oi]) (by simp [oi]) with ⟨x,r,_,h,_⟩|⟨s,ss,x,r,h,_⟩|⟨_,_,h,_⟩|⟨_,_,_,e⟩
  ·cases h
  ·cases h
  ·cases h
  ·exact e
 unfold gp;show (gm 0 [⟨0,0,[]⟩] [1]).bind _=_;rw [NZ];have ht:eD 0 1 ⟨15,0,0⟩ pg.Code 0 [] [⟨0,default,0,0,0⟩] [⟨1,0,[]⟩] [] [oi 0]=some (false,0,[],[],[⟨0,default,1,0,0⟩],[⟨1,0,[]⟩],[⟨0,[],false,[],[⟨1,0,0⟩]⟩]):=by
  unfold eD;show (lV (oi 0) 1 false).bind _=_;rw [hg];rfl
 have hd:dB 0 1 ⟨15,0,0⟩ pg.Code 0 0 0 [] [] [⟨0,default,0,0,0⟩] [⟨1,0,[]⟩] [] [oi 0] [] []=some (false,0,0,[],[⟨0,default,1,0,0⟩],[],[],[⟨1,0,[]⟩],[⟨0,[],false,[],[⟨1,0,0⟩]⟩],[],[]):=by
  show (eD 0 1 ⟨15,0,0⟩ pg.Code 0 [] [⟨0,default,0,0,0⟩] [⟨1,0,[]⟩] [] [oi 0]).bind _=_;rw [ht];rfl
 show (dB 0 1 ⟨15,0,0⟩ pg.Code 0 0 0 [] [] [⟨0,default,0,0,0⟩] [⟨1,0,[]⟩] [] [oi 0] [] []).bind _=_;rw [hd];rfl
theorem N7:jb=some true:=by
 show (mG pg ((1:Nat):Int) [0,0]).bind _=_;rw [Fw N0 (by decide) (by decide) (λi hi=>by
  have:i=0\/i=1:=by simp at hi;omega
  rcases this with rfl|rfl<;>decide)]
 have e:iG pg [0,0] (ps 0 0 0 0 0 (m0 pg 1))=some (.inl (ps 1 (fin 0 k1) (i64.wrap (0+1)) 0 0 k1)):=by
  show (gp 0 pg.Code 0 [0] 0 0 [] 0 1 0 [] 0 [] [⟨0,default,0,0,0⟩] [⟨0,0,[]⟩] [1] [oi 0] [] []).bind _=_;rw [Lw];exact j4 (t:=0) (by decide) 0 0 0 0 (m:=k1) (by decide)
 rw [lF e,gh (Ih (t:=1) (m:=k1) (by decide) (.inr ⟨by decide,by decide⟩))];rfl
end
end
section
noncomputable section
def Af (procs:Int) (script:List Int):Prop:=∀ i,i<script.length->-1<=ix script ((i:Nat):Int)/\ix script ((i:Nat):Int)<procs
theorem vv (procs:Int) (script:List Int) (hl:script.length<=5000) (c:cC):∃ f,gM procs script c=some f/\(f.Code=0↔c.Code=0/\Af procs script):=by
 refine nf (step:=jY procs script) (s0:=(0,c)) (λs=>∃ i:Nat,i<=script.length/\s.1=((i:Nat):Int)/\(s.2.Code=0↔c.Code=0/\∀ j,j<i->-1<=ix script ((j:Nat):Int)/\ix script ((j:Nat):Int)<procs)) (λs=>((script.length:Int)-s.1).toNat) (λf=>f.Code=0↔c.Code=0/\Af procs script) (λs hs=>?_) ⟨0,hX _,rfl,⟨λh=>⟨h,λj hj=>absurd hj (pU _)⟩,λh=>h.1⟩⟩;obtain ⟨i',f⟩:=s;obtain ⟨i,hi,rfl,h⟩:=hs;simp only at h;unfold jY;simp only;by_cases h0:f.Code=0
 ·by_cases hlt:i<script.length
  ·rw [cG (by omega),show (f.Code==0)=true from by simpa using h0,cG (by omega)];simp only [dc,cd,Bool.or_true];refine .inl ?_;have mu:((script.length:Int)-i64.wrap ((i:Int)+1)).toNat<((script.length:Int)-(i:Int)).toNat:=by rw [gT (by omega)];omega
   by_cases hb:ix script (i:Int) < -1\/procs<=ix script (i:Int)
   ·rw [show ((decide (ix script (i:Int)<(-1)))||(decide (procs<=ix script (i:Int))))=true from by simpa using hb];refine ⟨_,rfl,⟨i+1,hlt,gT (by omega),⟨λe=>by simp at e,λe=>?_⟩⟩,mu⟩;have:=e.2 i (by omega);omega
   ·rw [show ((decide (ix script (i:Int)<(-1)))||(decide (procs<=ix script (i:Int))))=false from by simpa using hb];refine ⟨_,rfl,⟨i+1,hlt,gT (by omega),⟨λe=>⟨(h.1 e).1,λj hj=>?_⟩,λe=>h.2 ⟨e.1,λj hj=>e.2 j (by omega)⟩⟩⟩,mu⟩;rcases Nat.lt_or_eq_of_le (Nat.le_of_lt_succ hj) with hj|rfl
    ·exact (h.1 e).2 j hj
    ·omega
  ·rw [cH (by omega),Bool.false_and];obtain rfl:i=script.length:=by omega
   exact .inr ⟨_,rfl,h⟩
 ·rw [show (f.Code==0)=false from by simpa using h0,ou];exact .inr ⟨_,rfl,⟨λe=>absurd e h0,λe=>h.2 ⟨e.1,λj hj=>e.2 j (by omega)⟩⟩⟩
theorem DP (p:cx) (procs:Int) (script:List Int) (hl:script.length<=5000):∃ f,jz p procs script=some f/\(f.Code=0↔(lB p).Code=0/\1<=procs/\procs<=16/\Af procs script):=by
 have j3:∀ c:cC,fT procs script c=gM procs script c:=λc=>by
  unfold fT;rw [cH (by omega),ou];rfl
 unfold jz;rw [MI,cw];by_cases h0:(lB p).Code=0
 ·rw [show ((lB p).Code==0)=true from by simpa using h0,rz];by_cases hb:procs<1\/16<procs
  ·rw [show ((decide (procs<1))||(decide ((16:Int)<procs)))=true from by simpa using hb];show∃f,fT procs script ⟨3,-1⟩=some f/\_;rw [j3];obtain ⟨f,h1,h2⟩:=vv procs script hl ⟨3,-1⟩;exact ⟨f,h1,⟨λe=>absurd (h2.1 e).1 (show (3:Int)≠0 by decide),λe=>by omega⟩⟩
  ·rw [show ((decide (procs<1))||(decide ((16:Int)<procs)))=false from by simpa using hb,ck,j3];obtain ⟨f,h1,h2⟩:=vv procs script hl (lB p);exact ⟨f,h1,⟨λe=>⟨h0,by omega,by omega,(h2.1 e).2⟩,λe=>h2.2 ⟨e.1,e.2.2.2⟩⟩⟩
 ·rw [show ((lB p).Code==0)=false from by simpa using h0,Bool.false_and,ck,j3];obtain ⟨f,h1,h2⟩:=vv procs script hl (lB p);exact ⟨f,h1,⟨λe=>absurd (h2.1 e).1 h0,λe=>absurd e.1 h0⟩⟩
structure M7 (p:cx) (procs:Int) (script:List Int):Prop where
 c:p.Code.length<=2000/\p.Pipes.length<=2000
 l:script.length<=5000
 f:(lB p).Code=0
 n:1<=procs/\procs<=16
 s:Af procs script
structure eX (P:cx) (N:Nat) (script:List Int) (k:Nat) (S Now sl:Int) (m:M):Prop where
 ok:xk P
 n:1<=N/\N<=16
 len:script.length<=5000
 scr:Af (N:Int) script
 seq:BC P N script k S Now sl m
 fin:k=script.length\/S≠0
theorem N8 (p:cx) (procs:Int) (script:List Int):(¬ M7 p procs script/\ij p procs script=some (0,0,0,false,[],[],[])) \/
  (M7 p procs script/\∃ (N k:Nat) (S Now sl:Int) (m:M),procs=((N:Nat):Int)/\eX p N script k S Now sl m/\ij p procs script=some (S,((k:Nat):Int),Now,true,m.tr,m.ts.map (·.state),m.ce)):=by
 unfold ij kf;simp only [cw];by_cases hb:2000<p.Code.length\/2000<p.Pipes.length
 ·rw [show (decide ((2000:Int)<(p.Code.length:Int))||decide ((2000:Int)<(p.Pipes.length:Int)))=true from by simp;omega];exact .inl ⟨λh=>by have:=h.c;omega,rfl⟩
 ·rw [show (decide ((2000:Int)<(p.Code.length:Int))||decide ((2000:Int)<(p.Pipes.length:Int)))=false from by simp;omega];by_cases hl:5000<script.length
  ·rw [ck,cG (by omega)];exact .inl ⟨λh=>by have:=h.l;omega,rfl⟩
  ·rw [ck,cH (by omega),ck];obtain ⟨f,h1,h2⟩:=DP p procs script (by omega);rw [h1,cw];by_cases h0:f.Code=0
   ·obtain ⟨g1,g2,g3,g4⟩:=h2.1 h0;rw [show (f.Code != 0)=false from by simpa using h0];obtain ⟨N,rfl⟩:=ge (show 0<=procs by omega);have hP:=Ig g1;obtain ⟨k,S,Now,sl,m,hs,hk,e⟩:=M0 hP (N:=N) (by omega) (script:=script) (by omega) g4;refine .inr ⟨⟨by omega,by omega,g1,⟨g2,g3⟩,g4⟩,N,k,S,Now,sl,m,rfl,⟨hP,by omega,by omega,g4,hs,hk⟩,?_⟩;unfold jA;rw [ck,e];rfl
   ·rw [show (f.Code != 0)=true from by simpa using h0];exact .inl ⟨λh=>h0 (h2.2 ⟨h.f,h.n.1,h.n.2,h.s⟩),rfl⟩
theorem eX.good {P:cx} {N k:Nat} {script:List Int} {S Now sl:Int} {m:M} (h:eX P N script k S Now sl m):k<=script.length/\AO P k S m:=by
 obtain ⟨h1,h2,_⟩:=Fv h.ok h.n h.len h.seq;exact ⟨h1,h2⟩
theorem hJ.states {P:cx} {a b:A} {es:List cy} (r:hJ P a es b):∃ f:Nat->A,f 0=a/\f es.length=b/\∀ i (h:i<es.length),Ev P (f i) es[i] (f (i+1))/\1<=es[i].Task/\es[i].Task<=(f i).n/\(f i).en es[i].Task=false:=by
 induction r with
 | nil=>exact ⟨λ_=>a,rfl,rfl,λi h=>absurd h (pU _)⟩
 | @snoc es b e c r h ht ih =>
  obtain ⟨f,f0,f1,f2⟩:=ih;refine ⟨λi=>if i<=es.length then f i else c,(if_pos (hX _)).trans f0,if_neg (by simp),λi hi=>?_⟩;dsimp only;rw [ec,List.length_singleton] at hi;rcases Nat.lt_or_eq_of_le (Nat.le_of_lt_succ hi) with hlt|rfl
  ·simp only [v6 hlt];rw [if_pos (by omega),if_pos (by omega)];exact f2 i hlt
  ·simp only [v7 (cE _),Nat.sub_self,List.getElem_singleton];rw [if_pos (by omega),if_neg (by omega),f1];exact ⟨h,ht⟩
structure Tr (P:cx) (S:Int) (m:M) (f:Nat->A):Prop where
 f0:f 0=abs (m0 P 1)
 f1:f m.tr.length=abs m
 ev:∀ i (h:i<m.tr.length),Ev P (f i) m.tr[i] (f (i+1))\/(m.tr[i].Op=22/\(0<=m.tr[i].Obj/\m.tr[i].Obj<=20)/\m.tr[i].Value=0/\f (i+1)=f i/\i+1=m.tr.length/\S=2)
 ta:∀ i (h:i<m.tr.length),1<=m.tr[i].Task/\m.tr[i].Task<=(f i).n/\(f i).en m.tr[i].Task=false
 n:∀ i,i<=m.tr.length->1<=(f i).n/\(f i).n<=64
 len:m.tr.length<=400000
theorem AO.states {P:cx} {k:Nat} {S:Int} {m:M} (h:AO P k S m) (hk:k<=5000):∃ f,Tr P S m f:=by
 obtain ⟨es,r,_,hl,h1,h2⟩:=h.es;obtain ⟨f,f0,f1,f2⟩:=r.states;have nn:∀ i,i<=es.length->1<=(f i).n/\(f i).n<=64:=λi=>by
  induction i with
  | zero=>intro _;rw [f0];exact ⟨iV 1,show (1:Int)<=64 by decide⟩
  | succ i ih =>
   intro hi;have h0:=ih (by omega);have hev:=(f2 i (by omega)).1;have hm:=hev.mono;refine ⟨by omega,?_⟩;revert h0;generalize es[i]=e at hev;generalize f i=a at hev;generalize f (i+1)=b at hev;intro h0;cases hev<;>first|exact h0.2|(show a.n+1<=64;omega)
 by_cases hS:S=2
 ·obtain ⟨w,ob,htr,hw,ho⟩:=h2 hS;have hlen:m.tr.length=es.length+1:=by rw [htr];simp
  have g1:∀ i (hi:i<m.tr.length) (hi2:i<es.length),m.tr[i]=es[i]:=λi hi hi2=>by simp only [htr];rw [v6 hi2]
  have g2:∀ i (hi:i<m.tr.length),i=es.length->m.tr[i]=⟨w,22,ob,0⟩:=λi hi e=>by subst e;simp only [htr];rw [v7 (cE _)];simp
  refine ⟨λi=>if i<=es.length then f i else abs m,(if_pos (hX _)).trans f0,if_neg (by omega),λi hi=>?_,λi hi=>?_,λi hi=>?_,by omega⟩
  ·by_cases hlt:i<es.length
   ·rw [g1 i hi hlt,if_pos (by omega),if_pos (by omega)];exact .inl (f2 i hlt).1
   ·obtain rfl:i=es.length:=by omega
    rw [g2 _ hi rfl,if_pos (by omega),if_neg (by omega),f1];exact .inr ⟨rfl,ho,rfl,rfl,by omega,hS⟩
  ·by_cases hlt:i<es.length
   ·rw [g1 i hi hlt,if_pos (by omega)];exact (f2 i hlt).2
   ·obtain rfl:i=es.length:=by omega
    rw [g2 _ hi rfl,if_pos (by omega),f1];exact hw
  ·by_cases hle:i<=es.length
   ·rw [if_pos hle];exact nn i hle
   ·rw [if_neg hle,←f1];exact nn _ (cE _)
 ·have htr:=h1 hS;subst htr;exact ⟨f,f0,f1,λi hi=>.inl (f2 i hi).1,λi hi=>(f2 i hi).2,nn,by omega⟩
theorem JV {k:Nat} (h:k<=400000):i64.wrap ((k:Int)+1)=((k+1:Nat):Int):=by
 rw [fw (by omega) (by omega)];omega
end
end
section
noncomputable section
theorem Ev.ob {P:cx} {a b:A} {e:cy} (h:Ev P a e b):(e.Op=8\/e.Op=9\/e.Op=11)/\e.Obj=0\/(e.Op=12\/e.Op=13)/\0<=e.Obj/\e.Obj<P.Cells\/(e.Op=14\/e.Op=15\/e.Op=16)/\0<=e.Obj/\e.Obj<(P.Pipes.length:Int) \/
  (e.Op=17\/e.Op=18)/\0<=e.Obj/\e.Obj<P.Locks\/(e.Op=19\/e.Op=20)/\0<=e.Obj/\e.Obj<P.Groups:=by
 cases h<;>simp_all
theorem Jl {P:cx} (hP:xk P) (r:jT) {i:Nat} (hi:i<r.Trace.length) (hi':i<=400000) {a b:A} (h:Ev P a r.Trace[i] b\/(r.Trace[i].Op=22/\0<=r.Trace[i].Obj/\r.Trace[i].Obj<=20)) (ht:1<=r.Trace[i].Task/\r.Trace[i].Task<=64):ic P r (i:Int)=some (.inl ((i+1:Nat):Int)):=by
 have he:=dn hi;generalize r.Trace[i]=e at he h ht;have h1:=hP.pn;have h2:=hP.ce;have h3:=hP.lo;have h4:=hP.gr;have w:=JV hi';unfold ic je ib jd jc fq;rw [ko hi,kp,he,w,cH (show ¬ e.Task<1 by omega),cH (show ¬ (64:Int)<e.Task by omega)];have key:∀ n:Int,0<=e.Obj->e.Obj<n->n<=21->decide (e.Obj<0)=false/\decide ((20:Int)<e.Obj)=false/\decide (n<=e.Obj)=false:=λn a1 a2 a3=>⟨cH (by omega),cH (by omega),cH (by omega)⟩;rcases h with h|⟨ho,h5,h6⟩
 ·rcases h.ob with ⟨ho,hb⟩|⟨ho,hb⟩|⟨ho,hb⟩|⟨ho,hb⟩|⟨ho,hb⟩
  ·obtain ⟨k1,k2,k3⟩:=key 1 (by omega) (by omega) (by omega);rcases ho with ho|ho|ho<;>rw [ho,k1,k2,k3]<;>rfl
  ·obtain ⟨k1,k2,k3⟩:=key P.Cells (by omega) (by omega) (by omega);rcases ho with ho|ho<;>rw [ho,k1,k2,k3]<;>rfl
  ·obtain ⟨k1,k2,k3⟩:=key (P.Pipes.length:Int) (by omega) (by omega) (by omega);rcases ho with ho|ho|ho<;>rw [ho,k1,k2,k3]<;>rfl
  ·obtain ⟨k1,k2,k3⟩:=key P.Locks (by omega) (by omega) (by omega);rcases ho with ho|ho<;>rw [ho,k1,k2,k3]<;>rfl
  ·obtain ⟨k1,k2,k3⟩:=key P.Groups (by omega) (by omega) (by omega);rcases ho with ho|ho<;>rw [ho,k1,k2,k3]<;>rfl
 ·obtain ⟨k1,k2,k3⟩:=key 21 (by omega) (by omega) (by omega);rw [ho,k1,k2,k3];rfl
theorem GK {P:cx} (hP:xk P) {S:Int} {m:M} {f:Nat->A} (T:Tr P S m f) {r:jT} (hr:r.Trace=m.tr):kn P r=some true:=by
 unfold kn;refine i0 (step:=ic P r) (λi=>((i:Nat):Int)) _ r.Trace.length (λi hi=>?_) ?_
 ·have hi2:i<m.tr.length:=hr▸hi;have hl:=T.len;have e:r.Trace[i]=m.tr[i]:=by simp only [hr]
  refine Jl hP r hi (by omega) (a:=f i) (b:=f (i+1)) ?_ ?_
  ·rw [e];rcases T.ev i hi2 with h|⟨h1,h2,_⟩
   ·exact .inl h
   ·exact .inr ⟨h1,h2⟩
  ·rw [e];have h1:=T.ta i hi2;have h2:=T.n i (by omega);omega
 ·unfold ic;rw [mN,ck]
theorem Lx (p:cx) (procs:Int) (script:List Int):ij p procs script=some (0,0,0,false,[],[],[]) \/
 ∃(k:Nat) (S Now:Int) (m:M) (f:Nat->A),xk p/\AO p k S m/\Tr p S m f/\ij p procs script=some (S,((k:Nat):Int),Now,true,m.tr,m.ts.map (·.state),m.ce):=by
 rcases N8 p procs script with ⟨_,h⟩|⟨_,N,k,S,Now,sl,m,rfl,R,h⟩
 ·exact .inl h
 ·obtain ⟨hk,G⟩:=R.good;have:=R.len;obtain ⟨f,T⟩:=G.states (by omega);exact .inr ⟨k,S,Now,m,f,R.ok,G,T,h⟩
structure tW (l:List Int) (n:Nat) (g:Int->Int):Prop where
 len:l.length=n
 at':∀ k:Int,0<=k->k<(n:Int)->ix l k=g k
theorem tW.set {l:List Int} {n:Nat} {g g':Int->Int} (h:tW l n g) {k v:Int} (h0:0<=k) (hk:k<(n:Int)) (hv:g' k=v) (ho:∀ j,j≠k->g' j=g j):tW (l.set k.toNat v) n g':=by
 refine ⟨by rw [cq];exact h.len,λj j0 jn=>?_⟩;obtain ⟨a,rfl⟩:=ge h0;obtain ⟨b,rfl⟩:=ge j0;rw [eG];have hl:=h.len;by_cases e:(b:Int)=(a:Int)
 ·obtain rfl:b=a:=by omega
  rw [hv];exact z_ l (by omega) v
 ·rw [ho _ e,←h.at' _ j0 jn,dn (by rw [cq];omega),dn (by omega),ov,if_neg (by omega)]
theorem tW.to {l:List Int} {n:Nat} {g g':Int->Int} (h:tW l n g) (e:∀ k,0<=k->k<(n:Int)->g' k=g k):tW l n g':=⟨h.len,λk h0 hk=>by rw [e k h0 hk];exact h.at' k h0 hk⟩
theorem tW.rep (n:Nat) {g:Int->Int} (h:∀ k,0<=k->k<(n:Int)->g k=0):tW (List.replicate n (default:Int)) n g:=by
 refine ⟨tw,λk h0 hk=>?_⟩;obtain ⟨a,rfl⟩:=ge h0;rw [h _ h0 hk,dn (by rw [tw];omega),List.getElem_replicate];rfl
theorem M8 {p:cx} {procs:Int} {script:List Int} {F:Int×Int×Int×Bool×List cy×List Int×List Int->Option Bool}
  (h0:∀ r,r.2.2.2.1=false->F r=some true)
  (h1:∀ (k:Nat) (S Now:Int) (m:M) (f:Nat->A),xk p->AO p k S m->Tr p S m f->F (S,((k:Nat):Int),Now,true,m.tr,m.ts.map (·.state),m.ce)=some true) :
  (jb.bind λb=>(bif (!b) then (some false) else ((ij p procs script).bind F)))=some true:=by
 rw [N7,cw,jq,ck];rcases Lx p procs script with h|⟨k0,S,Now,m,f,hP,G,T,h⟩
 ·rw [h];exact h0 _ rfl
 ·rw [h];exact h1 k0 S Now m f hP G T
end
end
section
noncomputable section
structure DQ (l:List Bool) (g:Int->Bool):Prop where
 len:l.length=66
 at':∀ k:Int,0<=k->k<66->ix l k=g k
theorem DQ.set {l:List Bool} {g g':Int->Bool} (h:DQ l g) {k:Int} {v:Bool} (h0:0<=k) (hk:k<66) (hv:g' k=v) (ho:∀ j,j≠k->g' j=g j):DQ (l.set k.toNat v) g':=by
 refine ⟨by rw [cq];exact h.len,λj j0 jn=>?_⟩;obtain ⟨a,rfl⟩:=ge h0;obtain ⟨b,rfl⟩:=ge j0;rw [eG];have hl:=h.len;by_cases e:(b:Int)=(a:Int)
 ·obtain rfl:b=a:=by omega
  rw [hv];exact z_ l (by omega) v
 ·rw [ho _ e,←h.at' _ j0 jn,dn (by rw [cq];omega),dn (by omega),ov,if_neg (by omega)]
theorem JW (P:cx) (k:Int):(abs (m0 P 1)).en k=false:=by
 show ((r_ [(⟨0,default,0,0,0⟩:task)] (k-1)).map (·.state==3)).getD false=false;unfold r_;by_cases hk:k-1<0
 ·rw [if_pos hk];rfl
 ·rw [if_neg hk];cases h:(k-1).toNat with
  | zero=>rfl
  | succ n=>rfl
theorem Ev.task {P:cx} {a b:A} {e:cy} (h:Ev P a e b):(e.Op≠9/\e.Op≠11/\e.Op≠22/\b.n=a.n/\b.en=a.en)\/(e.Op=9/\b.n=a.n/\b.en=upd a.en e.Task true)\/(e.Op=11/\e.Value=a.n+1/\a.n<64/\b.n=a.n+1/\b.en=upd a.en (a.n+1) false):=by
 cases h with
 | say t v op h=>exact .inl ⟨by subst h;simp,by subst h;simp,by subst h;simp,rfl,rfl⟩
 | fin t h=>exact .inr (.inl ⟨rfl,rfl,rfl⟩)
 | go t h=>exact .inr (.inr ⟨rfl,rfl,h,rfl,rfl⟩)
 | _=>exact .inl ⟨by simp,by simp,by simp,rfl,rfl⟩
theorem Ii (p:cx) (procs:Int) (script:List Int):kF p procs script=some true:=by
 unfold kF;refine M8 (λr h=>by rw [h];rfl) λk0 S Now m f hP G T=>?_
 simp only [jq,ck];rw [GK hP T rfl,cw];simp only [jq,ck,ew];have htl:=G.tl;have hl:=T.len;rw [cH (by omega),cH (by omega),ck];unfold gC;rw [show (decide (0<=(66:Int)/\(66:Int)<=4611686018427387904/\1*(66:Int)<=140737488355328))=true from rfl,cd,ck];obtain ⟨r,e,hr⟩:=nf (step:=jB S m.tr (m.ts.map (·.state))) (s0:=(1,0,List.replicate ((66:Int)).toNat (default:Bool))) (λs=>∃ (i:Nat) (es:List Bool) (a:A),i<=m.tr.length/\a=f i/\s=(a.n,((i:Nat):Int),es)/\DQ es a.en/\(∀ k,a.en k=true->1<=k/\k<=a.n)) (λs=>((m.tr.length:Int)-s.2.1).toNat) (λr=>r=true) (λs hs=>by
   obtain ⟨i,es,a,hi,ha,rfl,h1,h2⟩:=hs;have an:=T.n i hi;rw [←ha] at an;have l1:=h1.len;unfold jB;simp only;by_cases hlt:i<m.tr.length
   ·rw [ko hlt,kp];have w:=JV (k:=i) (by omega);have mu:((m.tr.length:Int)-((i+1:Nat):Int)).toNat<((m.tr.length:Int)-(i:Int)).toNat:=by omega
    refine .inl ?_;have hev:=T.ev i hlt;have hta:=T.ta i hlt;have he:=dn hlt;generalize m.tr[i]=e at hev he hta;obtain ⟨b,hbe⟩:∃ b,b=f (i+1):=⟨_,rfl⟩;rw [←hbe,←ha] at hev;rw [←ha] at hta;have bn:=T.n (i+1) hlt;rw [←hbe] at bn;have jj:∀ (bg:Int) (es':List Bool),(e.Op=22->i+1=m.tr.length/\S=2)->gA S m.tr (i:Int) bg es'=some (.inl (bg,((i+1:Nat):Int),es')):=λbg es' h=>by
     unfold gA;rw [he,w];by_cases ho:e.Op=22
     ·obtain ⟨g1,g2⟩:=h ho;rw [ho,g2,fw (by omega) (by omega),show ((i:Int) != (m.tr.length:Int)-1)=false from by simp;omega];rfl
     ·rw [show (e.Op==22)=false from by simpa using ho];rfl
    rw [he,j6 ⟨by omega,by omega⟩,cH (show ¬ a.n<e.Task by omega),h1.at' _ (by omega) (by omega),hta.2.2];simp only [dc,cd,Bool.or_true,ow,ck];unfold ik;simp only [he];rcases hev with hev|⟨ho,_,_,hf,hi1,hS⟩
    ·rcases hev.task with ⟨o1,o2,o3,g1,g2⟩|⟨ho,g1,g2⟩|⟨ho,hv,h64,g1,g2⟩
     ·refine ⟨_,?_,⟨i+1,es,b,hlt,hbe,rfl,g2▸h1,by rw [g1,g2];exact h2⟩,mu⟩;rw [show (e.Op==11)=false from by simpa using o2,show (e.Op==9)=false from by simpa using o1,g1];exact jj _ _ λh=>absurd h o3
     ·have T1:DQ (es.set e.Task.toNat true) b.en:=h1.set (by omega) (by omega) (by rw [g2,nU]) (λj hj=>by rw [g2];simp [upd,hj]);refine ⟨_,?_,⟨i+1,_,b,hlt,hbe,rfl,T1,λk=>?_⟩,mu⟩
      ·rw [ho,j6 ⟨by omega,by omega⟩,g1];exact jj _ _ λh=>by rw [ho] at h;cases h
      ·rw [g1,g2];unfold upd;split
       ·intro _;omega
       ·exact h2 k
     ·have hn:a.en (a.n+1)=false:=by
       cases hh:a.en (a.n+1) with
       | false=>rfl
       | true=>have:=h2 _ hh;omega
      have hbe2:b.en=a.en:=by rw [g2,←hn,cF]
      refine ⟨_,?_,⟨i+1,es,b,hlt,hbe,rfl,hbe2▸h1,λk hk=>?_⟩,mu⟩
      ·rw [ho,fw (by omega) (by omega),hv,cH (show ¬ (64:Int)<a.n+1 by omega),g1];simp only [bne_self_eq_false,ow,ck,nV,cd,Int.reduceBEq];exact jj _ _ λh=>by rw [ho] at h;cases h
      ·rw [hbe2] at hk;have:=h2 k hk;omega
    ·refine ⟨_,?_,⟨i+1,es,b,hlt,hbe,rfl,by rw [hf];exact h1,by rw [hf];exact h2⟩,mu⟩;rw [ho,hf];exact jj _ _ λ_=>⟨hi1,hS⟩
   ·obtain rfl:i=m.tr.length:=by omega
    rw [T.f1] at ha;subst ha;have hnn:(abs m).n=(m.ts.length:Int):=rfl;refine .inr ⟨true,?_,rfl⟩;rw [mN,ck,ew,l1,h1.at' 1 (by decide) (by decide),hnn];have c1:((S==1) != (abs m).en 1)=false:=by
     have:=G.e1;cases hh:(abs m).en 1 with
     | true=>rw [this.2 hh];rfl
     | false=>rw [show (S==1)=false from by simp;intro h;rw [this.1 h] at hh;cases hh];rfl
    have c2:((S==4)&&((m.ts.length:Int) != 64))=false:=by
     by_cases h4:S=4
     ·rw [G.full h4];simp
     ·rw [show (S==4)=false from by simpa using h4];rfl
    rw [c1,c2];simp only [bne_self_eq_false,ow,ck,show decide ((1:Int)<((66:Nat):Int))=true from rfl,Bool.or_true,cd];have lp:dD (gB (m.ts.map (·.state)) (m.ts.length:Int) es) (((0:Nat):Int)+1)=some true:=by
     refine i0 (step:=gB (m.ts.map (·.state)) (m.ts.length:Int) es) (λi=>((i:Nat):Int)+1) _ m.ts.length (λi hi=>?_) ?_
     ·have hi':i<(m.ts.map (·.state)).length:=by simpa using hi
      unfold gB;rw [cG (by omega),fw (x:=(i:Int)+1-1) (by omega) (by omega),show (i:Int)+1-1=(i:Int) by omega,kp,ko hi',j6 ⟨by omega,by omega⟩,dn hi',h1.at' _ (by omega) (by omega),Ac ⟨by omega,by omega⟩,fw (by omega) (by omega),oq];have:tk m.ts ((i:Int)+1)=m.ts[i]:=by
       unfold tk;rw [show (i:Int)+1-1=(i:Int) by omega,dn hi]
      rw [this];simp
     ·unfold gB;rw [cH (by omega),ck]
    rw [show (1:Int)=((0:Nat):Int)+1 from rfl];rw [lp];rfl) ⟨0,_,_,hX _,rfl,by rw [T.f0];rfl,⟨by simp,λk h0 hk=>by
     rw [T.f0,JW];obtain ⟨n,rfl⟩:=ge h0;rw [dn (by simp;omega),List.getElem_replicate];rfl⟩,λk hk=>by rw [T.f0,JW] at hk;cases hk⟩
 rw [e,hr]
end
end
end Go.Proofs.YthcdpjkgdcpkmaaGreatDoor
end
