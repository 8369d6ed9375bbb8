/-
 Lemmas, put together: wkP15, wkP16, wkP17, wkPlocks.
 No conditions.
-/
import Derived.Test.YthcdpjkgdcpkmaaGreatDoorwkBWorldLocks1
open Go.IntKind (i64)
set_option linter.unusedSimpArgs false
set_option linter.unusedVariables false
set_option linter.unusedSectionVars false
section
namespace Go.Proofs.YthcdpjkgdcpkmaaGreatDoor
set_option maxRecDepth 100000
open Go Go.Sx
section
noncomputable section
theorem DN {P:cy} {a b:List cz} (h1:vo P a) (h2:vo P b):vo P (a++b):=λi e he ho=>by
 rcases Nat.lt_or_ge i a.length with hi|hi
 ·rw [iP hi] at he
  rcases h1 i e he ho with h|⟨g,hg,h⟩
  ·exact .inl h
  ·exact .inr ⟨g,by rw [iP (dy.1 hg).1];exact hg,h⟩
 ·rw [jG hi] at he
  rcases h2 _ e he ho with h|⟨g,hg,h⟩
  ·exact .inl h
  ·refine .inr ⟨g,?_,h⟩
   rw [jG (by omega),show i+1-a.length=i-a.length+1 by omega]
   exact hg
structure DO (P:cy) (k:Nat) (S:Int) (m:M):Prop where
 es:∃ es,g_ P (abs (m0 P 1)) es (abs m)/\vo P es/\es.length<=70*k/\(S≠2->m.tr=es)/\(S=2->∃ w ob,m.tr=es++[⟨w,22,ob,0⟩]/\(1<=w/\w<=(abs m).n/\(abs m).en w=false)/\0<=ob/\ob<=20)
 ss:S=0\/S=1\/S=2\/S=3\/S=4
 e1:S=1↔(abs m).en 1=true
 full:S=4->m.ts.length=64
 tl:1<=m.ts.length/\m.ts.length<=64
 go:S=0->m.ts.any goes=true
 no:S=3->m.ts.any goes=false
section
variable {P:cy} (hP:x7 P) {N:Nat} (hN:1<=N/\N<=16) {script:List Int} (hl:script.length<=5000) (hx:∀ i,i<script.length->-1<=ix script ((i:Nat):Int)/\ix script ((i:Nat):Int)<(N:Int))
include hP hN hl
theorem Fq {k:Nat} {S Now sl:Int} {m:M} (h:Bx P N script k S Now sl m):k<=script.length/\DO P k S m/\(S=0->fh P k m/\m.pr.length=N):=by
 induction h with
 | zero =>
  refine ⟨hU _,⟨⟨[],.nil _,gC (λe he=>by cases he),hU _,λ_=>rfl,(λh=>by cases h)⟩,.inl rfl,⟨(λh=>by cases h),(λh=>by cases h)⟩,(λh=>by cases h),(show 1<=1/\1<=64 by decide),λ_=>rfl,(λh=>by cases h)⟩,λ_=>⟨Ou hP hN,by simp [m0,rep]⟩⟩
 | @next k Now sl m ST Now' sl' m' h hk e s ih =>
  obtain ⟨_,G,hI⟩:=ih;obtain ⟨hI,hpl⟩:=hI rfl;obtain ⟨es,hr,hm,hlen,ht,_⟩:=G.es;have htr:=ht (by decide);have hsl:=s.len hI;have h1:1<=m'.ts.length:=by
   have key:∀ {es},g_ P (abs m) es (abs m')->1<=m'.ts.length:=λr=>by
    have h1:=r.mono;have h2:(m.ts.length:Int)<=((m'.ts.length:Nat):Int):=h1;have:=hI.tl;omega
   cases s with
   | on _ es c i e1 pl=>exact key c.run
   | fin _ es c i e1=>exact key c.run
   | pan _ es w ob run mt len tr hw ho e1=>exact key run
   | full _ c i hh e1=>exact key c.run
  have hg0:(abs m).en 1=false:=by
   cases h:(abs m).en 1 with
   | false=>rfl
   | true=>have:=G.e1.2 h;cases this
  have hfin:∀ ST:Int,fin ST m'=0/\ST=0/\m'.ts.any goes=true\/fin ST m'=3/\ST=0/\m'.ts.any goes=false\/fin ST m'=ST/\ST≠0:=λST=>by
   unfold fin;by_cases h0:ST=0
   ·cases hg:m'.ts.any goes with
    | true=>exact .inl ⟨by rw [if_neg (by simp)];exact h0,h0,rfl⟩
    | false=>exact .inr (.inl ⟨by rw [if_pos ⟨h0,rfl⟩],h0,rfl⟩)
   ·exact .inr (.inr ⟨by rw [if_neg λh=>h0 h.1],h0⟩)
  have cat:∀ {fs},Ch P m m' fs->∃ es,g_ P (abs (m0 P 1)) es (abs m')/\vo P es/\es.length<=70*(k+1)/\m'.tr=es:=λ{fs} c=>⟨es++fs,hr.trans c.run,DN hm c.mt,by rw [ee];have:=c.len;omega,by rw [c.tr,htr]⟩;refine ⟨hk,?_⟩;cases s with
  | on _ fs c i e1 pl =>
   obtain ⟨gs,g1,g2,g3,g4⟩:=cat c;rw [hg0] at e1;rcases hfin 0 with ⟨h1',_,h3⟩|⟨h1',_,h3⟩|⟨_,h2⟩
   ·rw [h1'];exact ⟨⟨⟨gs,g1,g2,g3,λ_=>g4,(λh=>by cases h)⟩,.inl rfl,⟨(λh=>by cases h),(λh=>by rw [e1] at h;cases h)⟩,(λh=>by cases h),⟨h1,hsl⟩,λ_=>h3,(λh=>by cases h)⟩,λ_=>⟨i,by rw [pl];exact hpl⟩⟩
   ·rw [h1'];exact ⟨⟨⟨gs,g1,g2,g3,λ_=>g4,(λh=>by cases h)⟩,.inr (.inr (.inr (.inl rfl))),⟨(λh=>by cases h),(λh=>by rw [e1] at h;cases h)⟩,(λh=>by cases h),⟨h1,hsl⟩,(λh=>by cases h),λ_=>h3⟩,(λh=>by cases h)⟩
   ·exact absurd rfl h2
  | fin _ fs c i e1 =>
   obtain ⟨gs,g1,g2,g3,g4⟩:=cat c;rw [show fin 1 m'=1 from if_neg λh=>by cases h.1];exact ⟨⟨⟨gs,g1,g2,g3,λ_=>g4,(λh=>by cases h)⟩,.inr (.inl rfl),⟨λ_=>e1,λ_=>rfl⟩,(λh=>by cases h),⟨h1,hsl⟩,(λh=>by cases h),(λh=>by cases h)⟩,(λh=>by cases h)⟩
  | pan _ fs w ob run mt len tr hw ho e1 =>
   rw [hg0] at e1;rw [show fin 2 m'=2 from if_neg λh=>by cases h.1];exact ⟨⟨⟨es++fs,hr.trans run,DN hm mt,by rw [ee];omega,λh=>absurd rfl h,λ_=>⟨w,ob,by rw [tr,htr],hw,ho⟩⟩,.inr (.inr (.inl rfl)),⟨(λh=>by cases h),(λh=>by rw [e1] at h;cases h)⟩,(λh=>by cases h),⟨h1,hsl⟩,(λh=>by cases h),(λh=>by cases h)⟩,(λh=>by cases h)⟩
  | full _ c i hh e1 =>
   obtain ⟨gs,g1,g2,g3,g4⟩:=cat c;rw [hg0] at e1;rw [show fin 4 m'=4 from if_neg λh=>by cases h.1];exact ⟨⟨⟨gs,g1,g2,g3,λ_=>g4,(λh=>by cases h)⟩,.inr (.inr (.inr (.inr rfl))),⟨(λh=>by cases h),(λh=>by rw [e1] at h;cases h)⟩,λ_=>hh,⟨h1,hsl⟩,(λh=>by cases h),(λh=>by cases h)⟩,(λh=>by cases h)⟩
include hx
theorem Ft:mI P (N:Int) script=dH (iF P script) (ps 0 0 0 0 0 (m0 P N)):=by
 unfold mI;rw [MA,hP.f0,cx,show ((⟨0,0⟩:cD).Code != 0)=false from rfl,cj,cJ (show ¬ (N:Int)<1 by omega),cJ (show ¬ (16:Int)<(N:Int) by omega),Bool.or_self,cj,cJ (by omega),cj];refine jA (step:=nU P (N:Int) script) (λi=>((i:Nat):Int)) _ script.length (λi hi=>?_) ?_
 ·unfold nU;have:=hx i hi;rw [kz hi,kA,cJ (show ¬ ix script (i:Int) < -1 by omega),cJ (show ¬ (N:Int)<=ix script (i:Int) by omega)];show some (Sum.inl (i64.wrap ((i:Int)+1)))=_;rw [gS (by omega)]
 ·unfold nU;rw [mQ,cj,MO hP hN.2];rfl
theorem MQ:∃ (k:Nat) (S Now sl:Int) (m:M),Bx P N script k S Now sl m/\(k=script.length\/S≠0)/\mI P (N:Int) script=some (S,((k:Nat):Int),Now,⟨0,0⟩,m.tr,m.ts.map (·.state),m.ce):=by
 rw [Ft hP hN hl hx];obtain ⟨r,e,k,S,Now,sl,m,hs,hk,hr⟩:=nh (step:=iF P script) (s0:=ps 0 0 0 0 0 (m0 P N)) (λs=>∃ (k:Nat) (S Now sl:Int) (m:M),s=ps k S ((k:Nat):Int) Now sl m/\Bx P N script k S Now sl m) (λs=>((script.length:Int)-s.1).toNat) (λ(r:RT)=>∃ (k:Nat) (S Now sl:Int) (m:M),Bx P N script k S Now sl m/\(k=script.length\/S≠0)/\r=(S,((k:Nat):Int),Now,⟨0,0⟩,m.tr,m.ts.map (·.state),m.ce)) (λs hs=>by
   obtain ⟨k,S,Now,sl,m,rfl,hs⟩:=hs;obtain ⟨hk,G,hI⟩:=Fq hP hN hl hs;by_cases he:k=script.length\/S≠0
   ·exact .inr ⟨_,Ie G.tl.2 (by omega),k,S,Now,sl,m,hs,he,rfl⟩
   ·have hS:S=0:=by omega
    subst hS;obtain ⟨hI,hpl⟩:=hI rfl;obtain ⟨es,_,_,hlen,ht,_⟩:=G.es;have hlt:k<script.length:=by omega
    obtain ⟨ST,Now',sl',m',E,hsr⟩:=NL hP hI hpl (by omega) (by rw [ht (by decide)];omega) (hx k hlt) (k:Int) Now sl;refine .inl ⟨_,E script k hlt (by omega) rfl,⟨k+1,_,_,_,m',by rw [gS (by omega)],.next hs hlt E hsr⟩,?_⟩;show ((script.length:Int)-((k+1:Nat):Int)).toNat<((script.length:Int)-(k:Int)).toNat;omega) ⟨0,0,0,0,m0 P N,rfl,.zero⟩
 exact ⟨k,S,Now,sl,m,hs,hk,by rw [e,hr]⟩
end
theorem Od:kF ⟨0,[]⟩=some ⟨0,0⟩:=by
 show dH (mj ⟨0,[]⟩) (0,[])=_;exact gh rfl
theorem OC:kF ⟨0,[1]⟩=some ⟨0,0⟩:=by
 show dH (mj ⟨0,[1]⟩) (0,[])=_;rw [lH (s':=(1,[(1,1)])) rfl];exact gh rfl
theorem NM:iX ⟨0,[]⟩=some (0,0,⟨6,0⟩,[]):=by
 unfold iX;rw [Od];rfl
theorem NN:iX ⟨0,[1]⟩=some (0,1,⟨0,0⟩,[]):=by
 unfold iX;rw [OC];rfl
theorem Lo:jg ⟨0,[]⟩ 1 [1]=some (0,⟨0,0⟩,[1],[]):=by
 unfold jg;rw [Od];refine (lH (step:=kx ⟨0,[]⟩ 1 [1]) (s:=0) (s':=1) rfl).trans (gh ?_);show Option.map Sum.inr ((mP ⟨0,[]⟩).bind _)=_;rw [show mP ⟨0,[]⟩=some [] from rfl,cx,xB (a:=[]) (b:=[1]) GH];rfl
theorem NO:gm 0 [⟨0,0,[]⟩] [1]=some (true,[],[⟨1,0,[]⟩]):=by
 have fa:dV 0 [⟨0,0,[]⟩]=some (false,[⟨0,0,[]⟩]):=by
  unfold dV;show (iX ⟨0,[]⟩).bind _=_;rw [NM];rfl
 have fb:dV 0 [⟨0,0,[1]⟩]=some (true,[⟨1,0,[]⟩]):=by
  unfold dV;show (iX ⟨0,[1]⟩).bind _=_;rw [NN];rfl
 unfold gm;show (dV 0 [⟨0,0,[]⟩]).bind _=_;rw [fa];show (jg ⟨0,[]⟩ 1 [1]).bind _=_;rw [Lo];show (dV 0 [⟨0,0,[1]⟩]).bind _=_;rw [fb];rfl
abbrev pg:cy:=⟨[⟨15,0,0⟩],0,[0],0,0⟩
abbrev k1:M:=⟨[⟨0,default,1,0,0⟩],[⟨0,0,[]⟩],[],[],[⟨0,[],false,[],[⟨1,0,0⟩]⟩],[],[],[]⟩
theorem NP:x7 pg:=Id (by decide +kernel)
theorem Lp:gp 0 pg.Code 0 [0] 0 0 [] 0 1 0 [] 0 [] [⟨0,default,0,0,0⟩] [⟨0,0,[]⟩] [1] [oi 0] [] []=some (st 0 0 k1):=by
 have hv:PV (oi 0):=⟨by decide,by decide,⟨lF,λx hx=>by cases hx⟩,(λx hx=>by cases hx),(λx hx=>by cases hx),(λe=>absurd rfl e),(λe=>absurd rfl e)⟩;have hg:lX (oi 0) 1 false=some (0,false,false,false,0,0,f0,[],[],[⟨1,0,0⟩],[]):=by
  rcases ME hv (t:=1) (by decide) (by simp [oi]) (by simp [oi]) with ⟨x,r,_,h,_⟩|⟨s,ss,x,r,h,_⟩|⟨_,_,h,_⟩|⟨_,_,_,e⟩
  ·cases h
  ·cases h
  ·cases h
  ·exact e
 unfold gp;show (gm 0 [⟨0,0,[]⟩] [1]).bind _=_;rw [NO];have ht:eD 0 1 ⟨15,0,0⟩ pg.Code 0 [] [⟨0,default,0,0,0⟩] [⟨1,0,[]⟩] [] [oi 0]=some (false,0,[],[],[⟨0,default,1,0,0⟩],[⟨1,0,[]⟩],[⟨0,[],false,[],[⟨1,0,0⟩]⟩]):=by
  unfold eD;show (lX (oi 0) 1 false).bind _=_;rw [hg];rfl
 have hd:dC 0 1 ⟨15,0,0⟩ pg.Code 0 0 0 [] [] [⟨0,default,0,0,0⟩] [⟨1,0,[]⟩] [] [oi 0] [] []=some (false,0,0,[],[⟨0,default,1,0,0⟩],[],[],[⟨1,0,[]⟩],[⟨0,[],false,[],[⟨1,0,0⟩]⟩],[],[]):=by
  show (eD 0 1 ⟨15,0,0⟩ pg.Code 0 [] [⟨0,default,0,0,0⟩] [⟨1,0,[]⟩] [] [oi 0]).bind _=_;rw [ht];rfl
 show (dC 0 1 ⟨15,0,0⟩ pg.Code 0 0 0 [] [] [⟨0,default,0,0,0⟩] [⟨1,0,[]⟩] [] [oi 0] [] []).bind _=_;rw [hd];rfl
theorem NQ:kH=some true:=by
 show (mI pg ((1:Nat):Int) [0,0]).bind _=_;rw [Ft NP (by decide) (by decide) (λi hi=>by
  have:i=0\/i=1:=by simp at hi;omega
  rcases this with rfl|rfl<;>decide)]
 have e:iF pg [0,0] (ps 0 0 0 0 0 (m0 pg 1))=some (.inl (ps 1 (fin 0 k1) (i64.wrap (0+1)) 0 0 k1)):=by
  show (gp 0 pg.Code 0 [0] 0 0 [] 0 1 0 [] 0 [] [⟨0,default,0,0,0⟩] [⟨0,0,[]⟩] [1] [oi 0] [] []).bind _=_;rw [Lp];exact j4 (t:=0) (by decide) 0 0 0 0 (m:=k1) (by decide)
 rw [lH e,gh (Ie (t:=1) (m:=k1) (by decide) (.inr ⟨by decide,by decide⟩))];rfl
end
end
section
noncomputable section
def Ac (procs:Int) (script:List Int):Prop:=∀ i,i<script.length->-1<=ix script ((i:Nat):Int)/\ix script ((i:Nat):Int)<procs
theorem vq (procs:Int) (script:List Int) (hl:script.length<=5000) (c:cD):∃ f,gL procs script c=some f/\(f.Code=0↔c.Code=0/\Ac procs script):=by
 refine nh (step:=jZ procs script) (s0:=(0,c)) (λs=>∃ i:Nat,i<=script.length/\s.1=((i:Nat):Int)/\(s.2.Code=0↔c.Code=0/\∀ j,j<i->-1<=ix script ((j:Nat):Int)/\ix script ((j:Nat):Int)<procs)) (λs=>((script.length:Int)-s.1).toNat) (λf=>f.Code=0↔c.Code=0/\Ac procs script) (λs hs=>?_) ⟨0,hU _,rfl,⟨λh=>⟨h,λj hj=>absurd hj (pS _)⟩,λh=>h.1⟩⟩;obtain ⟨i',f⟩:=s;obtain ⟨i,hi,rfl,h⟩:=hs;simp only at h;unfold jZ;simp only;by_cases h0:f.Code=0
 ·by_cases hlt:i<script.length
  ·rw [cH (by omega),show (f.Code==0)=true from by simpa using h0,cH (by omega)];simp only [db,cd,Bool.or_true];refine .inl ?_;have mu:((script.length:Int)-i64.wrap ((i:Int)+1)).toNat<((script.length:Int)-(i:Int)).toNat:=by rw [gS (by omega)];omega
   by_cases hb:ix script (i:Int) < -1\/procs<=ix script (i:Int)
   ·rw [show ((decide (ix script (i:Int)<(-1)))||(decide (procs<=ix script (i:Int))))=true from by simpa using hb];refine ⟨_,rfl,⟨i+1,hlt,gS (by omega),⟨λe=>by simp at e,λe=>?_⟩⟩,mu⟩;have:=e.2 i (by omega);omega
   ·rw [show ((decide (ix script (i:Int)<(-1)))||(decide (procs<=ix script (i:Int))))=false from by simpa using hb];refine ⟨_,rfl,⟨i+1,hlt,gS (by omega),⟨λe=>⟨(h.1 e).1,λj hj=>?_⟩,λe=>h.2 ⟨e.1,λj hj=>e.2 j (by omega)⟩⟩⟩,mu⟩;rcases Nat.lt_or_eq_of_le (Nat.le_of_lt_succ hj) with hj|rfl
    ·exact (h.1 e).2 j hj
    ·omega
  ·rw [cJ (by omega),Bool.false_and];obtain rfl:i=script.length:=by omega
   exact .inr ⟨_,rfl,h⟩
 ·rw [show (f.Code==0)=false from by simpa using h0,ot];exact .inr ⟨_,rfl,⟨λe=>absurd e h0,λe=>h.2 ⟨e.1,λj hj=>e.2 j (by omega)⟩⟩⟩
theorem DP (p:cy) (procs:Int) (script:List Int) (hl:script.length<=5000):∃ f,jy p procs script=some f/\(f.Code=0↔(lD p).Code=0/\1<=procs/\procs<=16/\Ac procs script):=by
 have j3:∀ c:cD,fV procs script c=gL procs script c:=λc=>by
  unfold fV;rw [cJ (by omega),ot];rfl
 unfold jy;rw [Mz,cx];by_cases h0:(lD p).Code=0
 ·rw [show ((lD p).Code==0)=true from by simpa using h0,ry];by_cases hb:procs<1\/16<procs
  ·rw [show ((decide (procs<1))||(decide ((16:Int)<procs)))=true from by simpa using hb];show∃f,fV procs script ⟨3,-1⟩=some f/\_;rw [j3];obtain ⟨f,h1,h2⟩:=vq procs script hl ⟨3,-1⟩;exact ⟨f,h1,⟨λe=>absurd (h2.1 e).1 (show (3:Int)≠0 by decide),λe=>by omega⟩⟩
  ·rw [show ((decide (procs<1))||(decide ((16:Int)<procs)))=false from by simpa using hb,cj,j3];obtain ⟨f,h1,h2⟩:=vq procs script hl (lD p);exact ⟨f,h1,⟨λe=>⟨h0,by omega,by omega,(h2.1 e).2⟩,λe=>h2.2 ⟨e.1,e.2.2.2⟩⟩⟩
 ·rw [show ((lD p).Code==0)=false from by simpa using h0,Bool.false_and,cj,j3];obtain ⟨f,h1,h2⟩:=vq procs script hl (lD p);exact ⟨f,h1,⟨λe=>absurd (h2.1 e).1 h0,λe=>absurd e.1 h0⟩⟩
structure MR (p:cy) (procs:Int) (script:List Int):Prop where
 c:p.Code.length<=2000/\p.Pipes.length<=2000
 l:script.length<=5000
 f:(lD p).Code=0
 n:1<=procs/\procs<=16
 s:Ac procs script
structure eZ (P:cy) (N:Nat) (script:List Int) (k:Nat) (S Now sl:Int) (m:M):Prop where
 ok:x7 P
 n:1<=N/\N<=16
 len:script.length<=5000
 scr:Ac (N:Int) script
 seq:Bx P N script k S Now sl m
 fin:k=script.length\/S≠0
theorem NR (p:cy) (procs:Int) (script:List Int):(¬ MR p procs script/\iY p procs script=some (0,0,0,false,[],[],[])) \/
  (MR p procs script/\∃ (N k:Nat) (S Now sl:Int) (m:M),procs=((N:Nat):Int)/\eZ p N script k S Now sl m/\iY p procs script=some (S,((k:Nat):Int),Now,true,m.tr,m.ts.map (·.state),m.ce)):=by
 unfold iY kg;simp only [cx];by_cases hb:2000<p.Code.length\/2000<p.Pipes.length
 ·rw [show (decide ((2000:Int)<(p.Code.length:Int))||decide ((2000:Int)<(p.Pipes.length:Int)))=true from by simp;omega];exact .inl ⟨λh=>by have:=h.c;omega,rfl⟩
 ·rw [show (decide ((2000:Int)<(p.Code.length:Int))||decide ((2000:Int)<(p.Pipes.length:Int)))=false from by simp;omega];by_cases hl:5000<script.length
  ·rw [cj,cH (by omega)];exact .inl ⟨λh=>by have:=h.l;omega,rfl⟩
  ·rw [cj,cJ (by omega),cj];obtain ⟨f,h1,h2⟩:=DP p procs script (by omega);rw [h1,cx];by_cases h0:f.Code=0
   ·obtain ⟨g1,g2,g3,g4⟩:=h2.1 h0;rw [show (f.Code != 0)=false from by simpa using h0];obtain ⟨N,rfl⟩:=ic (show 0<=procs by omega);have hP:=Id g1;obtain ⟨k,S,Now,sl,m,hs,hk,e⟩:=MQ hP (N:=N) (by omega) (script:=script) (by omega) g4;refine .inr ⟨⟨by omega,by omega,g1,⟨g2,g3⟩,g4⟩,N,k,S,Now,sl,m,rfl,⟨hP,by omega,by omega,g4,hs,hk⟩,?_⟩;unfold jz;rw [cj,e];rfl
   ·rw [show (f.Code != 0)=true from by simpa using h0];exact .inl ⟨λh=>h0 (h2.2 ⟨h.f,h.n.1,h.n.2,h.s⟩),rfl⟩
theorem eZ.good {P:cy} {N k:Nat} {script:List Int} {S Now sl:Int} {m:M} (h:eZ P N script k S Now sl m):k<=script.length/\DO P k S m:=by
 obtain ⟨h1,h2,_⟩:=Fq h.ok h.n h.len h.seq;exact ⟨h1,h2⟩
theorem g_.states {P:cy} {a b:A} {es:List cz} (r:g_ P a es b):∃ f:Nat->A,f 0=a/\f es.length=b/\∀ i (h:i<es.length),Ev P (f i) es[i] (f (i+1))/\1<=es[i].Task/\es[i].Task<=(f i).n/\(f i).en es[i].Task=false:=by
 induction r with
 | nil=>exact ⟨λ_=>a,rfl,rfl,λi h=>absurd h (pS _)⟩
 | @snoc es b e c r h ht ih =>
  obtain ⟨f,f0,f1,f2⟩:=ih;refine ⟨λi=>if i<=es.length then f i else c,(if_pos (hU _)).trans f0,if_neg (by simp),λi hi=>?_⟩;dsimp only;rw [ee,List.length_singleton] at hi;rcases Nat.lt_or_eq_of_le (Nat.le_of_lt_succ hi) with hlt|rfl
  ·simp only [vX hlt];rw [if_pos (by omega),if_pos (by omega)];exact f2 i hlt
  ·simp only [vY (cF _),Nat.sub_self,List.getElem_singleton];rw [if_pos (by omega),if_neg (by omega),f1];exact ⟨h,ht⟩
structure Tr (P:cy) (S:Int) (m:M) (f:Nat->A):Prop where
 f0:f 0=abs (m0 P 1)
 f1:f m.tr.length=abs m
 ev:∀ i (h:i<m.tr.length),Ev P (f i) m.tr[i] (f (i+1))\/(m.tr[i].Op=22/\(0<=m.tr[i].Obj/\m.tr[i].Obj<=20)/\m.tr[i].Value=0/\f (i+1)=f i/\i+1=m.tr.length/\S=2)
 ta:∀ i (h:i<m.tr.length),1<=m.tr[i].Task/\m.tr[i].Task<=(f i).n/\(f i).en m.tr[i].Task=false
 n:∀ i,i<=m.tr.length->1<=(f i).n/\(f i).n<=64
 len:m.tr.length<=400000
theorem DO.states {P:cy} {k:Nat} {S:Int} {m:M} (h:DO P k S m) (hk:k<=5000):∃ f,Tr P S m f:=by
 obtain ⟨es,r,_,hl,h1,h2⟩:=h.es;obtain ⟨f,f0,f1,f2⟩:=r.states;have nn:∀ i,i<=es.length->1<=(f i).n/\(f i).n<=64:=λi=>by
  induction i with
  | zero=>intro _;rw [f0];exact ⟨iT 1,show (1:Int)<=64 by decide⟩
  | succ i ih =>
   intro hi;have h0:=ih (by omega);have hev:=(f2 i (by omega)).1;have hm:=hev.mono;refine ⟨by omega,?_⟩;revert h0;generalize es[i]=e at hev;generalize f i=a at hev;generalize f (i+1)=b at hev;intro h0;cases hev<;>first|exact h0.2|(show a.n+1<=64;omega)
 by_cases hS:S=2
 ·obtain ⟨w,ob,htr,hw,ho⟩:=h2 hS;have hlen:m.tr.length=es.length+1:=by rw [htr];simp
  have g1:∀ i (hi:i<m.tr.length) (hi2:i<es.length),m.tr[i]=es[i]:=λi hi hi2=>by simp only [htr];rw [vX hi2]
  have g2:∀ i (hi:i<m.tr.length),i=es.length->m.tr[i]=⟨w,22,ob,0⟩:=λi hi e=>by subst e;simp only [htr];rw [vY (cF _)];simp
  refine ⟨λi=>if i<=es.length then f i else abs m,(if_pos (hU _)).trans f0,if_neg (by omega),λi hi=>?_,λi hi=>?_,λi hi=>?_,by omega⟩
  ·by_cases hlt:i<es.length
   ·rw [g1 i hi hlt,if_pos (by omega),if_pos (by omega)];exact .inl (f2 i hlt).1
   ·obtain rfl:i=es.length:=by omega
    rw [g2 _ hi rfl,if_pos (by omega),if_neg (by omega),f1];exact .inr ⟨rfl,ho,rfl,rfl,by omega,hS⟩
  ·by_cases hlt:i<es.length
   ·rw [g1 i hi hlt,if_pos (by omega)];exact (f2 i hlt).2
   ·obtain rfl:i=es.length:=by omega
    rw [g2 _ hi rfl,if_pos (by omega),f1];exact hw
  ·by_cases hle:i<=es.length
   ·rw [if_pos hle];exact nn i hle
   ·rw [if_neg hle,←f1];exact nn _ (cF _)
 ·have htr:=h1 hS;subst htr;exact ⟨f,f0,f1,λi hi=>.inl (f2 i hi).1,λi hi=>(f2 i hi).2,nn,by omega⟩
theorem JP {k:Nat} (h:k<=400000):i64.wrap ((k:Int)+1)=((k+1:Nat):Int):=by
 rw [fI (by omega) (by omega)];omega
end
end
section
noncomputable section
theorem Ev.ob {P:cy} {a b:A} {e:cz} (h:Ev P a e b):(e.Op=8\/e.Op=9\/e.Op=11)/\e.Obj=0\/(e.Op=12\/e.Op=13)/\0<=e.Obj/\e.Obj<P.Cells\/(e.Op=14\/e.Op=15\/e.Op=16)/\0<=e.Obj/\e.Obj<(P.Pipes.length:Int) \/
  (e.Op=17\/e.Op=18)/\0<=e.Obj/\e.Obj<P.Locks\/(e.Op=19\/e.Op=20)/\0<=e.Obj/\e.Obj<P.Groups:=by
 cases h<;>simp_all
theorem Jh {P:cy} (hP:x7 P) (r:jU) {i:Nat} (hi:i<r.Trace.length) (hi':i<=400000) {a b:A} (h:Ev P a r.Trace[i] b\/(r.Trace[i].Op=22/\0<=r.Trace[i].Obj/\r.Trace[i].Obj<=20)) (ht:1<=r.Trace[i].Task/\r.Trace[i].Task<=64):ib P r (i:Int)=some (.inl ((i+1:Nat):Int)):=by
 have he:=dw hi;generalize r.Trace[i]=e at he h ht;have h1:=hP.pn;have h2:=hP.ce;have h3:=hP.lo;have h4:=hP.gr;have w:=JP hi';unfold ib jc ia jb ja fu;rw [kz hi,kA,he,w,cJ (show ¬ e.Task<1 by omega),cJ (show ¬ (64:Int)<e.Task by omega)];have key:∀ n:Int,0<=e.Obj->e.Obj<n->n<=21->decide (e.Obj<0)=false/\decide ((20:Int)<e.Obj)=false/\decide (n<=e.Obj)=false:=λn a1 a2 a3=>⟨cJ (by omega),cJ (by omega),cJ (by omega)⟩;rcases h with h|⟨ho,h5,h6⟩
 ·rcases h.ob with ⟨ho,hb⟩|⟨ho,hb⟩|⟨ho,hb⟩|⟨ho,hb⟩|⟨ho,hb⟩
  ·obtain ⟨k1,k2,k3⟩:=key 1 (by omega) (by omega) (by omega);rcases ho with ho|ho|ho<;>rw [ho,k1,k2,k3]<;>rfl
  ·obtain ⟨k1,k2,k3⟩:=key P.Cells (by omega) (by omega) (by omega);rcases ho with ho|ho<;>rw [ho,k1,k2,k3]<;>rfl
  ·obtain ⟨k1,k2,k3⟩:=key (P.Pipes.length:Int) (by omega) (by omega) (by omega);rcases ho with ho|ho|ho<;>rw [ho,k1,k2,k3]<;>rfl
  ·obtain ⟨k1,k2,k3⟩:=key P.Locks (by omega) (by omega) (by omega);rcases ho with ho|ho<;>rw [ho,k1,k2,k3]<;>rfl
  ·obtain ⟨k1,k2,k3⟩:=key P.Groups (by omega) (by omega) (by omega);rcases ho with ho|ho<;>rw [ho,k1,k2,k3]<;>rfl
 ·obtain ⟨k1,k2,k3⟩:=key 21 (by omega) (by omega) (by omega);rw [ho,k1,k2,k3];rfl
theorem GI {P:cy} (hP:x7 P) {S:Int} {m:M} {f:Nat->A} (T:Tr P S m f) {r:jU} (hr:r.Trace=m.tr):kp P r=some true:=by
 unfold kp;refine jA (step:=ib P r) (λi=>((i:Nat):Int)) _ r.Trace.length (λi hi=>?_) ?_
 ·have hi2:i<m.tr.length:=hr▸hi;have hl:=T.len;have e:r.Trace[i]=m.tr[i]:=by simp only [hr]
  refine Jh hP r hi (by omega) (a:=f i) (b:=f (i+1)) ?_ ?_
  ·rw [e];rcases T.ev i hi2 with h|⟨h1,h2,_⟩
   ·exact .inl h
   ·exact .inr ⟨h1,h2⟩
  ·rw [e];have h1:=T.ta i hi2;have h2:=T.n i (by omega);omega
 ·unfold ib;rw [mQ,cj]
theorem Lq (p:cy) (procs:Int) (script:List Int):iY p procs script=some (0,0,0,false,[],[],[]) \/
 ∃(k:Nat) (S Now:Int) (m:M) (f:Nat->A),x7 p/\DO p k S m/\Tr p S m f/\iY p procs script=some (S,((k:Nat):Int),Now,true,m.tr,m.ts.map (·.state),m.ce):=by
 rcases NR p procs script with ⟨_,h⟩|⟨_,N,k,S,Now,sl,m,rfl,R,h⟩
 ·exact .inl h
 ·obtain ⟨hk,G⟩:=R.good;have:=R.len;obtain ⟨f,T⟩:=G.states (by omega);exact .inr ⟨k,S,Now,m,f,R.ok,G,T,h⟩
structure kh (l:List Int) (n:Nat) (g:Int->Int):Prop where
 len:l.length=n
 at':∀ k:Int,0<=k->k<(n:Int)->ix l k=g k
theorem kh.set {l:List Int} {n:Nat} {g g':Int->Int} (h:kh l n g) {k v:Int} (h0:0<=k) (hk:k<(n:Int)) (hv:g' k=v) (ho:∀ j,j≠k->g' j=g j):kh (l.set k.toNat v) n g':=by
 refine ⟨by rw [cq];exact h.len,λj j0 jn=>?_⟩;obtain ⟨a,rfl⟩:=ic h0;obtain ⟨b,rfl⟩:=ic j0;rw [eR];have hl:=h.len;by_cases e:(b:Int)=(a:Int)
 ·obtain rfl:b=a:=by omega
  rw [hv];exact DA l (by omega) v
 ·rw [ho _ e,←h.at' _ j0 jn,dw (by rw [cq];omega),dw (by omega),pX,if_neg (by omega)]
theorem kh.to {l:List Int} {n:Nat} {g g':Int->Int} (h:kh l n g) (e:∀ k,0<=k->k<(n:Int)->g' k=g k):kh l n g':=⟨h.len,λk h0 hk=>by rw [e k h0 hk];exact h.at' k h0 hk⟩
theorem kh.rep (n:Nat) {g:Int->Int} (h:∀ k,0<=k->k<(n:Int)->g k=0):kh (List.replicate n (default:Int)) n g:=by
 refine ⟨tu,λk h0 hk=>?_⟩;obtain ⟨a,rfl⟩:=ic h0;rw [h _ h0 hk,dw (by rw [tu];omega),List.getElem_replicate];rfl
end
end
section
noncomputable section
def nW (b:Bool):Int:=if b then 1 else 0
theorem xG (P:cy) (k:Int):(abs (m0 P 1)).rd k=0/\(abs (m0 P 1)).wr k=false:=by
 have key:∀ (n:Nat) (k:Int),((rU (List.replicate n (default:dh)) k).map (·.Readers)).getD 0=0/\((rU (List.replicate n (default:dh)) k).map (·.Writer)).getD false=false:=λn k=>by
  unfold rU;by_cases hk:k<0
  ·rw [if_pos hk];exact ⟨rfl,rfl⟩
  ·rw [if_neg hk];rcases Nat.lt_or_ge k.toNat n with h|h
   ·rw [List.getElem?_replicate_of_lt h];exact ⟨rfl,rfl⟩
   ·rw [mN (by simpa using h)];exact ⟨rfl,rfl⟩
 exact key _ k
theorem Ev.lock {P:cy} {a b:A} {e:cz} (h:Ev P a e b):((e.Op≠17/\e.Op≠18)/\b.rd=a.rd/\b.wr=a.wr)\/((0<=e.Obj/\e.Obj<P.Locks) /\
  ((e.Op=17/\e.Value=1/\a.wr e.Obj=false/\a.rd e.Obj=0/\b.rd=a.rd/\b.wr=upd a.wr e.Obj true)\/(e.Op=17/\e.Value≠1/\a.wr e.Obj=false/\b.rd=upd a.rd e.Obj (a.rd e.Obj+1)/\b.wr=a.wr)\/(e.Op=18/\e.Value=1/\a.wr e.Obj=true/\b.rd=a.rd/\b.wr=upd a.wr e.Obj false)\/(e.Op=18/\e.Value≠1/\a.wr e.Obj=false/\0<a.rd e.Obj/\b.rd=upd a.rd e.Obj (a.rd e.Obj-1)/\b.wr=a.wr))):=by
 cases h with
 | say t v op h=>exact .inl ⟨by subst h;simp,rfl,rfl⟩
 | lockw t j h h1 h2=>exact .inr ⟨h,.inl ⟨rfl,rfl,h1,h2,rfl,rfl⟩⟩
 | lockr t j b h hb h1 h2=>exact .inr ⟨h,.inr (.inl ⟨rfl,hb,h1,rfl,rfl⟩)⟩
 | unlockw t j h h1=>exact .inr ⟨h,.inr (.inr (.inl ⟨rfl,rfl,h1,rfl,rfl⟩))⟩
 | unlockr t j b h hb h1 h2=>exact .inr ⟨h,.inr (.inr (.inr ⟨rfl,hb,h2,h1,rfl,rfl⟩))⟩
 | _=>exact .inl ⟨by simp,rfl,rfl⟩
theorem If (p:cy) (procs:Int) (script:List Int):kI p procs script=some true:=by
 unfold kI;rw [NQ,cx,jo,cj];rcases Lq p procs script with h|⟨k0,S,Now,m,f,hP,G,T,h⟩
 ·rw [h];rfl
 ·rw [h,cx];simp only [jo,cj];rw [GI hP T rfl,cx];simp only [jo,cj];rw [show (decide (0<=(21:Int)/\(21:Int)<=4611686018427387904/\(8:Int)*(21:Int)<=140737488355328))=true from rfl,cd,cd];have hl:=T.len;have hlo:=hP.lo;obtain ⟨r,e,hr⟩:=nh (step:=jB) (s0:=(0,S,(k0:Int),Now,List.replicate ((21:Int)).toNat (default:Int),List.replicate ((21:Int)).toNat (default:Int),m.tr,m.ts.map (·.state),m.ce)) (λs=>∃ (i:Nat) (rs ws:List Int) (a:A),i<=m.tr.length/\a=f i/\s=(((i:Nat):Int),S,(k0:Int),Now,rs,ws,m.tr,m.ts.map (·.state),m.ce)/\kh rs 21 a.rd/\kh ws 21 (λk=>nW (a.wr k))/\(∀ k,0<=a.rd k/\a.rd k<=i/\(a.wr k=true->a.rd k=0))) (λs=>((m.tr.length:Int)-s.1).toNat) (λr=>r=true) (λs hs=>by
    obtain ⟨i,rs,ws,a,hi,ha,rfl,h1,h2,h3⟩:=hs;unfold jB;simp only;by_cases hlt:i<m.tr.length
    ·rw [kz hlt,kA,dw hlt];have w:=JP (k:=i) (by omega);have mu:((m.tr.length:Int)-((i+1:Nat):Int)).toNat<((m.tr.length:Int)-(i:Int)).toNat:=by omega
     refine .inl ?_;have hev:=T.ev i hlt;have he:=dw hlt;generalize m.tr[i]=e at hev he;obtain ⟨b,hbe⟩:∃ b,b=f (i+1):=⟨_,rfl⟩;rw [←hbe,←ha] at hev;have jj:∀ rs' ws':List Int,kh rs' 21 b.rd->kh ws' 21 (λk=>nW (b.wr k))->0<=e.Obj/\e.Obj<21->(0<=b.rd e.Obj/\(b.wr e.Obj=true->b.rd e.Obj=0))->gB (i:Int) S (k0:Int) Now m.tr (m.ts.map (·.state)) m.ce rs' ws'=some (.inl (((i+1:Nat):Int),S,(k0:Int),Now,rs',ws',m.tr,m.ts.map (·.state),m.ce)):=λrs' ws' g1 g2 g3 g4=>by
      unfold gB gA;have l1:=g1.len;have l2:=g2.len;rw [he,cH g3.1,cH (show e.Obj<((rs'.length:Nat):Int) by omega),cH (show e.Obj<((ws'.length:Nat):Int) by omega),g1.at' _ g3.1 g3.2,g2.at' _ g3.1 g3.2,w];have g5:=g4.2;cases hw:b.wr e.Obj with
      | true=>rw [g5 hw];rfl
      | false=>rw [cJ (show ¬ b.rd e.Obj<0 by omega)];simp [nW]
     unfold ij;simp only [he,db,cd];have l1:=h1.len;have l2:=h2.len;have stay:(e.Op≠17/\e.Op≠18)->(bif (e.Op==17) then (bif (e.Op==18) then dO (i:Int) S (k0:Int) Now rs ws m.tr (m.ts.map (·.state)) m.ce (-1) else dO (i:Int) S (k0:Int) Now rs ws m.tr (m.ts.map (·.state)) m.ce 1) else (bif (e.Op==18) then dO (i:Int) S (k0:Int) Now rs ws m.tr (m.ts.map (·.state)) m.ce (-1) else dO (i:Int) S (k0:Int) Now rs ws m.tr (m.ts.map (·.state)) m.ce 0))=some (.inl (((i+1:Nat):Int),S,(k0:Int),Now,rs,ws,m.tr,m.ts.map (·.state),m.ce)):=λho=>by
      rw [show (e.Op==17)=false from by simpa using ho.1,show (e.Op==18)=false from by simpa using ho.2];unfold dO gA;rw [w];rfl
     rcases hev with hev|⟨ho,_,_,hf,_⟩
     ·rcases hev.lock with ⟨ho,g1,g2⟩|⟨hb,hc⟩
      ·refine ⟨_,stay ho,⟨i+1,rs,ws,b,hlt,hbe,rfl,g1▸h1,g2▸h2,λk=>?_⟩,mu⟩;have:=h3 k;rw [g1,g2];exact ⟨this.1,by omega,this.2.2⟩
      ·have hb21:e.Obj<((21:Nat):Int):=by omega
       have i0:=h3 e.Obj;have c1:(decide (0<=e.Obj)&&decide (e.Obj<(rs.length:Int)))=true:=kb ⟨hb.1,by omega⟩;have c2:(decide (0<=e.Obj)&&decide (e.Obj<(ws.length:Int)))=true:=kb ⟨hb.1,by omega⟩;have inv:(∀ k,k≠e.Obj->b.rd k=a.rd k/\b.wr k=a.wr k)->0<=b.rd e.Obj/\b.rd e.Obj<=i+1/\(b.wr e.Obj=true->b.rd e.Obj=0)->∀ k,0<=b.rd k/\b.rd k<=((i+1:Nat):Int)/\(b.wr k=true->b.rd k=0):=λq1 q2 k=>by
        by_cases hk:k=e.Obj
        ·rw [hk];exact ⟨q2.1,by omega,q2.2.2⟩
        ·rw [(q1 k hk).1,(q1 k hk).2];have:=h3 k;exact ⟨this.1,by omega,this.2.2⟩
       rcases hc with ⟨ho,hv,hw,hr,g1,g2⟩|⟨ho,hv,hw,g1,g2⟩|⟨ho,hv,hw,g1,g2⟩|⟨ho,hv,hw,hr,g1,g2⟩
       ·have T2:kh (ws.set e.Obj.toNat 1) 21 (λk=>nW (b.wr k)):=h2.set hb.1 hb21 (by rw [g2,j7];rfl) (λj hj=>by rw [g2];simp [upd,hj]);have T1:kh rs 21 b.rd:=g1▸h1;have q:=inv (λk hk=>by rw [g1,g2];simp [upd,hk]) (by rw [g1,g2,j7];exact ⟨i0.1,by omega,λ_=>hr⟩);refine ⟨_,?_,⟨i+1,rs,_,b,hlt,hbe,rfl,T1,T2,q⟩,mu⟩;rw [ho];simp only [Int.reduceBEq,cd,cj];unfold dO;rw [he,hv];simp only [Int.reduceBEq,cd,cj,c2,h2.at' _ hb.1 hb21,hw];exact jj _ _ T1 T2 ⟨hb.1,by omega⟩ ⟨(q _).1,(q _).2.2⟩
       ·have T1:kh (rs.set e.Obj.toNat (a.rd e.Obj+1)) 21 b.rd:=h1.set hb.1 hb21 (by rw [g1,j7]) (λj hj=>by rw [g1];simp [upd,hj]);have T2:kh ws 21 (λk=>nW (b.wr k)):=g2▸h2;have q:=inv (λk hk=>by rw [g1,g2];simp [upd,hk]) (by rw [g1,g2,j7,hw];exact ⟨by omega,by omega,(λh=>by cases h)⟩);refine ⟨_,?_,⟨i+1,_,ws,b,hlt,hbe,rfl,T1,T2,q⟩,mu⟩;rw [ho];simp only [Int.reduceBEq,cd,cj];unfold dO;rw [he,show (e.Value==1)=false from by simpa using hv];simp only [Int.reduceBEq,cd,cj,c1,h1.at' _ hb.1 hb21];rw [fI (by omega) (by omega)];exact jj _ _ T1 T2 ⟨hb.1,by omega⟩ ⟨(q _).1,(q _).2.2⟩
       ·have T2:kh (ws.set e.Obj.toNat 0) 21 (λk=>nW (b.wr k)):=h2.set hb.1 hb21 (by rw [g2,j7];rfl) (λj hj=>by rw [g2];simp [upd,hj]);have T1:kh rs 21 b.rd:=g1▸h1;have q:=inv (λk hk=>by rw [g1,g2];simp [upd,hk]) (by rw [g1,g2,j7];exact ⟨i0.1,by omega,(λh=>by cases h)⟩);refine ⟨_,?_,⟨i+1,rs,_,b,hlt,hbe,rfl,T1,T2,q⟩,mu⟩;rw [ho];simp only [Int.reduceBEq,cd,cj];unfold dO;rw [he,hv];simp only [Int.reduceBEq,cd,cj,c2,h2.at' _ hb.1 hb21,hw];exact jj _ _ T1 T2 ⟨hb.1,by omega⟩ ⟨(q _).1,(q _).2.2⟩
       ·have T1:kh (rs.set e.Obj.toNat (a.rd e.Obj+-1)) 21 b.rd:=h1.set hb.1 hb21 (by rw [g1,j7];omega) (λj hj=>by rw [g1];simp [upd,hj]);have T2:kh ws 21 (λk=>nW (b.wr k)):=g2▸h2;have q:=inv (λk hk=>by rw [g1,g2];simp [upd,hk]) (by rw [g1,g2,j7,hw];exact ⟨by omega,by omega,(λh=>by cases h)⟩);refine ⟨_,?_,⟨i+1,_,ws,b,hlt,hbe,rfl,T1,T2,q⟩,mu⟩;rw [ho];simp only [Int.reduceBEq,cd,cj];unfold dO;rw [he,show (e.Value==1)=false from by simpa using hv];simp only [Int.reduceBEq,cd,cj,c1,h1.at' _ hb.1 hb21];rw [fI (by omega) (by omega)];exact jj _ _ T1 T2 ⟨hb.1,by omega⟩ ⟨(q _).1,(q _).2.2⟩
     ·refine ⟨_,stay (by rw [ho];simp),⟨i+1,rs,ws,b,hlt,hbe,rfl,by rw [hf];exact h1,by rw [hf];exact h2,λk=>?_⟩,mu⟩;rw [hf];have:=h3 k;exact ⟨this.1,by omega,this.2.2⟩
    ·obtain rfl:i=m.tr.length:=by omega
     rw [mQ,cj];exact .inr ⟨true,rfl,rfl⟩) ⟨0,_,_,_,hU _,rfl,rfl,kh.rep 21 (λk _ _=>by rw [T.f0];exact (xG p k).1),kh.rep 21 (λk _ _=>by rw [T.f0,(xG p k).2];rfl),λk=>by rw [T.f0,(xG p k).1,(xG p k).2];simp⟩
  rw [e,hr]
end
end
end Go.Proofs.YthcdpjkgdcpkmaaGreatDoor
end
