/-
 Lemmas, put together: wkP15, wkP16, wkP17, wkP18, wkPprefix.
 No conditions.
-/
import Derived.Test.YthcdpjkgdcpkmaaGreatDoorwkBWorldPrefix1
open Go.IntKind (i64)
set_option linter.unusedSimpArgs false
set_option linter.unusedVariables false
set_option linter.unusedSectionVars false
section
namespace Go.Proofs.YthcdpjkgdcpkmaaGreatDoor
set_option maxRecDepth 100000
open Go Go.Sx
section
noncomputable section
theorem DJ {P:cz} {a b:List cy} (h1:vk P a) (h2:vk P b):vk P (a++b):=λi e he ho=>by
 rcases Nat.lt_or_ge i a.length with hi|hi
 ·rw [iP hi] at he
  rcases h1 i e he ho with h|⟨g,hg,h⟩
  ·exact .inl h
  ·exact .inr ⟨g,by rw [iP (dy.1 hg).1];exact hg,h⟩
 ·rw [jA hi] at he
  rcases h2 _ e he ho with h|⟨g,hg,h⟩
  ·exact .inl h
  ·refine .inr ⟨g,?_,h⟩
   rw [jA (by omega),show i+1-a.length=i-a.length+1 by omega]
   exact hg
structure GG (P:cz) (k:Nat) (S:Int) (m:M):Prop where
 es:∃ es,hM P (abs (m0 P 1)) es (abs m)/\vk P es/\es.length<=70*k/\(S≠2->m.tr=es)/\(S=2->∃ w ob,m.tr=es++[⟨w,22,ob,0⟩]/\(1<=w/\w<=(abs m).n/\(abs m).en w=false)/\0<=ob/\ob<=20)
 ss:S=0\/S=1\/S=2\/S=3\/S=4
 e1:S=1↔(abs m).en 1=true
 full:S=4->m.ts.length=64
 tl:1<=m.ts.length/\m.ts.length<=64
 go:S=0->m.ts.any goes=true
 no:S=3->m.ts.any goes=false
section
variable {P:cz} (hP:Bv P) {N:Nat} (hN:1<=N/\N<=16) {script:List Int} (hl:script.length<=5000) (hx:∀ i,i<script.length->-1<=ix script ((i:Nat):Int)/\ix script ((i:Nat):Int)<(N:Int))
include hP hN hl
theorem AG {k:Nat} {S Now sl:Int} {m:M} (h:tg P N script k S Now sl m):k<=script.length/\GG P k S m/\(S=0->fk P k m/\m.pr.length=N):=by
 induction h with
 | zero =>
  refine ⟨io _,⟨⟨[],.nil _,gE (λe he=>by cases he),io _,λ_=>rfl,(λh=>by cases h)⟩,.inl rfl,⟨(λh=>by cases h),(λh=>by cases h)⟩,(λh=>by cases h),(show 1<=1/\1<=64 by decide),λ_=>rfl,(λh=>by cases h)⟩,λ_=>⟨Ox hP hN,by simp [m0,rep]⟩⟩
 | @next k Now sl m ST Now' sl' m' h hk e s ih =>
  obtain ⟨_,G,hI⟩:=ih;obtain ⟨hI,hpl⟩:=hI rfl;obtain ⟨es,hr,hm,hlen,ht,_⟩:=G.es;have htr:=ht (by decide);have hsl:=s.len hI;have h1:1<=m'.ts.length:=by
   have key:∀ {es},hM P (abs m) es (abs m')->1<=m'.ts.length:=λr=>by
    have h1:=r.mono;have h2:(m.ts.length:Int)<=((m'.ts.length:Nat):Int):=h1;have:=hI.tl;omega
   cases s with
   | on _ es c i e1 pl=>exact key c.run
   | fin _ es c i e1=>exact key c.run
   | pan _ es w ob run mt len tr hw ho e1=>exact key run
   | full _ c i hh e1=>exact key c.run
  have hg0:(abs m).en 1=false:=by
   cases h:(abs m).en 1 with
   | false=>rfl
   | true=>have:=G.e1.2 h;cases this
  have hfin:∀ ST:Int,fin ST m'=0/\ST=0/\m'.ts.any goes=true\/fin ST m'=3/\ST=0/\m'.ts.any goes=false\/fin ST m'=ST/\ST≠0:=λST=>by
   unfold fin;by_cases h0:ST=0
   ·cases hg:m'.ts.any goes with
    | true=>exact .inl ⟨by rw [if_neg (by simp)];exact h0,h0,rfl⟩
    | false=>exact .inr (.inl ⟨by rw [if_pos ⟨h0,rfl⟩],h0,rfl⟩)
   ·exact .inr (.inr ⟨by rw [if_neg λh=>h0 h.1],h0⟩)
  have cat:∀ {fs},Ch P m m' fs->∃ es,hM P (abs (m0 P 1)) es (abs m')/\vk P es/\es.length<=70*(k+1)/\m'.tr=es:=λ{fs} c=>⟨es++fs,hr.trans c.run,DJ hm c.mt,by rw [ea];have:=c.len;omega,by rw [c.tr,htr]⟩;refine ⟨hk,?_⟩;cases s with
  | on _ fs c i e1 pl =>
   obtain ⟨gs,g1,g2,g3,g4⟩:=cat c;rw [hg0] at e1;rcases hfin 0 with ⟨h1',_,h3⟩|⟨h1',_,h3⟩|⟨_,h2⟩
   ·rw [h1'];exact ⟨⟨⟨gs,g1,g2,g3,λ_=>g4,(λh=>by cases h)⟩,.inl rfl,⟨(λh=>by cases h),(λh=>by rw [e1] at h;cases h)⟩,(λh=>by cases h),⟨h1,hsl⟩,λ_=>h3,(λh=>by cases h)⟩,λ_=>⟨i,by rw [pl];exact hpl⟩⟩
   ·rw [h1'];exact ⟨⟨⟨gs,g1,g2,g3,λ_=>g4,(λh=>by cases h)⟩,.inr (.inr (.inr (.inl rfl))),⟨(λh=>by cases h),(λh=>by rw [e1] at h;cases h)⟩,(λh=>by cases h),⟨h1,hsl⟩,(λh=>by cases h),λ_=>h3⟩,(λh=>by cases h)⟩
   ·exact absurd rfl h2
  | fin _ fs c i e1 =>
   obtain ⟨gs,g1,g2,g3,g4⟩:=cat c;rw [show fin 1 m'=1 from if_neg λh=>by cases h.1];exact ⟨⟨⟨gs,g1,g2,g3,λ_=>g4,(λh=>by cases h)⟩,.inr (.inl rfl),⟨λ_=>e1,λ_=>rfl⟩,(λh=>by cases h),⟨h1,hsl⟩,(λh=>by cases h),(λh=>by cases h)⟩,(λh=>by cases h)⟩
  | pan _ fs w ob run mt len tr hw ho e1 =>
   rw [hg0] at e1;rw [show fin 2 m'=2 from if_neg λh=>by cases h.1];exact ⟨⟨⟨es++fs,hr.trans run,DJ hm mt,by rw [ea];omega,λh=>absurd rfl h,λ_=>⟨w,ob,by rw [tr,htr],hw,ho⟩⟩,.inr (.inr (.inl rfl)),⟨(λh=>by cases h),(λh=>by rw [e1] at h;cases h)⟩,(λh=>by cases h),⟨h1,hsl⟩,(λh=>by cases h),(λh=>by cases h)⟩,(λh=>by cases h)⟩
  | full _ c i hh e1 =>
   obtain ⟨gs,g1,g2,g3,g4⟩:=cat c;rw [hg0] at e1;rw [show fin 4 m'=4 from if_neg λh=>by cases h.1];exact ⟨⟨⟨gs,g1,g2,g3,λ_=>g4,(λh=>by cases h)⟩,.inr (.inr (.inr (.inr rfl))),⟨(λh=>by cases h),(λh=>by rw [e1] at h;cases h)⟩,λ_=>hh,⟨h1,hsl⟩,(λh=>by cases h),(λh=>by cases h)⟩,(λh=>by cases h)⟩
include hx
theorem AH:lr P (N:Int) script=dE (gK P script) (ps 0 0 0 0 0 (m0 P N)):=by
 unfold lr;rw [MC,hP.f0,cx,show ((⟨0,0⟩:cE).Code != 0)=false from rfl,cj,cK (show ¬ (N:Int)<1 by omega),cK (show ¬ (16:Int)<(N:Int) by omega),Bool.or_self,cj,cK (by omega),cj];refine i0 (step:=nN P (N:Int) script) (λi=>((i:Nat):Int)) _ script.length (λi hi=>?_) ?_
 ·unfold nN;have:=hx i hi;rw [kn hi,ko,cK (show ¬ ix script (i:Int) < -1 by omega),cK (show ¬ (N:Int)<=ix script (i:Int) by omega)];show some (Sum.inl (i64.wrap ((i:Int)+1)))=_;rw [gD (by omega)]
 ·unfold nN;rw [mI,cj,MQ hP hN.2];rfl
theorem MS:∃ (k:Nat) (S Now sl:Int) (m:M),tg P N script k S Now sl m/\(k=script.length\/S≠0)/\lr P (N:Int) script=some (S,((k:Nat):Int),Now,⟨0,0⟩,m.tr,m.ts.map (·.state),m.ce):=by
 rw [AH hP hN hl hx];obtain ⟨r,e,k,S,Now,sl,m,hs,hk,hr⟩:=oC (step:=gK P script) (s0:=ps 0 0 0 0 0 (m0 P N)) (λs=>∃ (k:Nat) (S Now sl:Int) (m:M),s=ps k S ((k:Nat):Int) Now sl m/\tg P N script k S Now sl m) (λs=>((script.length:Int)-s.1).toNat) (λ(r:RT)=>∃ (k:Nat) (S Now sl:Int) (m:M),tg P N script k S Now sl m/\(k=script.length\/S≠0)/\r=(S,((k:Nat):Int),Now,⟨0,0⟩,m.tr,m.ts.map (·.state),m.ce)) (λs hs=>by
   obtain ⟨k,S,Now,sl,m,rfl,hs⟩:=hs;obtain ⟨hk,G,hI⟩:=AG hP hN hl hs;by_cases he:k=script.length\/S≠0
   ·exact .inr ⟨_,DI G.tl.2 (by omega),k,S,Now,sl,m,hs,he,rfl⟩
   ·have hS:S=0:=by omega
    subst hS;obtain ⟨hI,hpl⟩:=hI rfl;obtain ⟨es,_,_,hlen,ht,_⟩:=G.es;have hlt:k<script.length:=by omega
    obtain ⟨ST,Now',sl',m',E,hsr⟩:=NO hP hI hpl (by omega) (by rw [ht (by decide)];omega) (hx k hlt) (k:Int) Now sl;refine .inl ⟨_,E script k hlt (by omega) rfl,⟨k+1,_,_,_,m',by rw [gD (by omega)],.next hs hlt E hsr⟩,?_⟩;show ((script.length:Int)-((k+1:Nat):Int)).toNat<((script.length:Int)-(k:Int)).toNat;omega) ⟨0,0,0,0,m0 P N,rfl,.zero⟩
 exact ⟨k,S,Now,sl,m,hs,hk,by rw [e,hr]⟩
end
theorem Og:kz ⟨0,[]⟩=some ⟨0,0⟩:=by
 show dE (mc ⟨0,[]⟩) (0,[])=_;exact f7 rfl
theorem OF:kz ⟨0,[1]⟩=some ⟨0,0⟩:=by
 show dE (mc ⟨0,[1]⟩) (0,[])=_;rw [kI (s':=(1,[(1,1)])) rfl];exact f7 rfl
theorem NP:iY ⟨0,[]⟩=some (0,0,⟨6,0⟩,[]):=by
 unfold iY;rw [Og];rfl
theorem NQ:iY ⟨0,[1]⟩=some (0,1,⟨0,0⟩,[]):=by
 unfold iY;rw [OF];rfl
theorem Lo:jd ⟨0,[]⟩ 1 [1]=some (0,⟨0,0⟩,[1],[]):=by
 unfold jd;rw [Og];refine (kI (step:=ki ⟨0,[]⟩ 1 [1]) (s:=0) (s':=1) rfl).trans (f7 ?_);show Option.map Sum.inr ((mH ⟨0,[]⟩).bind _)=_;rw [show mH ⟨0,[]⟩=some [] from rfl,cx,xw (a:=[]) (b:=[1]) GF];rfl
theorem NR:gu 0 [⟨0,0,[]⟩] [1]=some (true,[],[⟨1,0,[]⟩]):=by
 have fa:dV 0 [⟨0,0,[]⟩]=some (false,[⟨0,0,[]⟩]):=by
  unfold dV;show (iY ⟨0,[]⟩).bind _=_;rw [NP];rfl
 have fb:dV 0 [⟨0,0,[1]⟩]=some (true,[⟨1,0,[]⟩]):=by
  unfold dV;show (iY ⟨0,[1]⟩).bind _=_;rw [NQ];rfl
 unfold gu;show (dV 0 [⟨0,0,[]⟩]).bind _=_;rw [fa];show (jd ⟨0,[]⟩ 1 [1]).bind _=_;rw [Lo];show (dV 0 [⟨0,0,[1]⟩]).bind _=_;rw [fb];rfl
abbrev pg:cz:=⟨[⟨15,0,0⟩],0,[0],0,0⟩
abbrev k1:M:=⟨[⟨0,default,1,0,0⟩],[⟨0,0,[]⟩],[],[],[⟨0,[],false,[],[⟨1,0,0⟩]⟩],[],[],[]⟩
theorem NS:Bv pg:=If (by decide +kernel)
theorem Lp:gv 0 pg.Code 0 [0] 0 0 [] 0 1 0 [] 0 [] [⟨0,default,0,0,0⟩] [⟨0,0,[]⟩] [1] [n_ 0] [] []=some (st 0 0 k1):=by
 have hv:PV (n_ 0):=⟨by decide,by decide,⟨lA,λx hx=>by cases hx⟩,(λx hx=>by cases hx),(λx hx=>by cases hx),(λe=>absurd rfl e),(λe=>absurd rfl e)⟩;have hg:lS (n_ 0) 1 false=some (0,false,false,false,0,0,f0,[],[],[⟨1,0,0⟩],[]):=by
  rcases MG hv (t:=1) (by decide) (by simp [n_]) (by simp [n_]) with ⟨x,r,_,h,_⟩|⟨s,ss,x,r,h,_⟩|⟨_,_,h,_⟩|⟨_,_,_,e⟩
  ·cases h
  ·cases h
  ·cases h
  ·exact e
 unfold gv;show (gu 0 [⟨0,0,[]⟩] [1]).bind _=_;rw [NR];have ht:ez 0 1 ⟨15,0,0⟩ pg.Code 0 [] [⟨0,default,0,0,0⟩] [⟨1,0,[]⟩] [] [n_ 0]=some (false,0,[],[],[⟨0,default,1,0,0⟩],[⟨1,0,[]⟩],[⟨0,[],false,[],[⟨1,0,0⟩]⟩]):=by
  unfold ez;show (lS (n_ 0) 1 false).bind _=_;rw [hg];rfl
 have hd:dC 0 1 ⟨15,0,0⟩ pg.Code 0 0 0 [] [] [⟨0,default,0,0,0⟩] [⟨1,0,[]⟩] [] [n_ 0] [] []=some (false,0,0,[],[⟨0,default,1,0,0⟩],[],[],[⟨1,0,[]⟩],[⟨0,[],false,[],[⟨1,0,0⟩]⟩],[],[]):=by
  show (ez 0 1 ⟨15,0,0⟩ pg.Code 0 [] [⟨0,default,0,0,0⟩] [⟨1,0,[]⟩] [] [n_ 0]).bind _=_;rw [ht];rfl
 show (dC 0 1 ⟨15,0,0⟩ pg.Code 0 0 0 [] [] [⟨0,default,0,0,0⟩] [⟨1,0,[]⟩] [] [n_ 0] [] []).bind _=_;rw [hd];rfl
theorem NT:kB=some true:=by
 show (lr pg ((1:Nat):Int) [0,0]).bind _=_;rw [AH NS (by decide) (by decide) (λi hi=>by
  have:i=0\/i=1:=by simp at hi;omega
  rcases this with rfl|rfl<;>decide)]
 have e:gK pg [0,0] (ps 0 0 0 0 0 (m0 pg 1))=some (.inl (ps 1 (fin 0 k1) (i64.wrap (0+1)) 0 0 k1)):=by
  show (gv 0 pg.Code 0 [0] 0 0 [] 0 1 0 [] 0 [] [⟨0,default,0,0,0⟩] [⟨0,0,[]⟩] [1] [n_ 0] [] []).bind _=_;rw [Lp];exact j4 (t:=0) (by decide) 0 0 0 0 (m:=k1) (by decide)
 rw [kI e,f7 (DI (t:=1) (m:=k1) (by decide) (.inr ⟨by decide,by decide⟩))];rfl
end
end
section
noncomputable section
def xB (procs:Int) (script:List Int):Prop:=∀ i,i<script.length->-1<=ix script ((i:Nat):Int)/\ix script ((i:Nat):Int)<procs
theorem vm (procs:Int) (script:List Int) (hl:script.length<=5000) (c:cE):∃ f,gO procs script c=some f/\(f.Code=0↔c.Code=0/\xB procs script):=by
 refine oC (step:=jT procs script) (s0:=(0,c)) (λs=>∃ i:Nat,i<=script.length/\s.1=((i:Nat):Int)/\(s.2.Code=0↔c.Code=0/\∀ j,j<i->-1<=ix script ((j:Nat):Int)/\ix script ((j:Nat):Int)<procs)) (λs=>((script.length:Int)-s.1).toNat) (λf=>f.Code=0↔c.Code=0/\xB procs script) (λs hs=>?_) ⟨0,io _,rfl,⟨λh=>⟨h,λj hj=>absurd hj (pN _)⟩,λh=>h.1⟩⟩;obtain ⟨i',f⟩:=s;obtain ⟨i,hi,rfl,h⟩:=hs;simp only at h;unfold jT;simp only;by_cases h0:f.Code=0
 ·by_cases hlt:i<script.length
  ·rw [cH (by omega),show (f.Code==0)=true from by simpa using h0,cH (by omega)];simp only [de,cd,Bool.or_true];refine .inl ?_;have mu:((script.length:Int)-i64.wrap ((i:Int)+1)).toNat<((script.length:Int)-(i:Int)).toNat:=by rw [gD (by omega)];omega
   by_cases hb:ix script (i:Int) < -1\/procs<=ix script (i:Int)
   ·rw [show ((decide (ix script (i:Int)<(-1)))||(decide (procs<=ix script (i:Int))))=true from by simpa using hb];refine ⟨_,rfl,⟨i+1,hlt,gD (by omega),⟨λe=>by simp at e,λe=>?_⟩⟩,mu⟩;have:=e.2 i (by omega);omega
   ·rw [show ((decide (ix script (i:Int)<(-1)))||(decide (procs<=ix script (i:Int))))=false from by simpa using hb];refine ⟨_,rfl,⟨i+1,hlt,gD (by omega),⟨λe=>⟨(h.1 e).1,λj hj=>?_⟩,λe=>h.2 ⟨e.1,λj hj=>e.2 j (by omega)⟩⟩⟩,mu⟩;rcases Nat.lt_or_eq_of_le (Nat.le_of_lt_succ hj) with hj|rfl
    ·exact (h.1 e).2 j hj
    ·omega
  ·rw [cK (by omega),Bool.false_and];obtain rfl:i=script.length:=by omega
   exact .inr ⟨_,rfl,h⟩
 ·rw [show (f.Code==0)=false from by simpa using h0,oh];exact .inr ⟨_,rfl,⟨λe=>absurd e h0,λe=>h.2 ⟨e.1,λj hj=>e.2 j (by omega)⟩⟩⟩
theorem DK (p:cz) (procs:Int) (script:List Int) (hl:script.length<=5000):∃ f,ju p procs script=some f/\(f.Code=0↔(lu p).Code=0/\1<=procs/\procs<=16/\xB procs script):=by
 have j3:∀ c:cE,fX procs script c=gO procs script c:=λc=>by
  unfold fX;rw [cK (by omega),oh];rfl
 unfold ju;rw [MB,cx];by_cases h0:(lu p).Code=0
 ·rw [show ((lu p).Code==0)=true from by simpa using h0,rr];by_cases hb:procs<1\/16<procs
  ·rw [show ((decide (procs<1))||(decide ((16:Int)<procs)))=true from by simpa using hb];show∃f,fX procs script ⟨3,-1⟩=some f/\_;rw [j3];obtain ⟨f,h1,h2⟩:=vm procs script hl ⟨3,-1⟩;exact ⟨f,h1,⟨λe=>absurd (h2.1 e).1 (show (3:Int)≠0 by decide),λe=>by omega⟩⟩
  ·rw [show ((decide (procs<1))||(decide ((16:Int)<procs)))=false from by simpa using hb,cj,j3];obtain ⟨f,h1,h2⟩:=vm procs script hl (lu p);exact ⟨f,h1,⟨λe=>⟨h0,by omega,by omega,(h2.1 e).2⟩,λe=>h2.2 ⟨e.1,e.2.2.2⟩⟩⟩
 ·rw [show ((lu p).Code==0)=false from by simpa using h0,Bool.false_and,cj,j3];obtain ⟨f,h1,h2⟩:=vm procs script hl (lu p);exact ⟨f,h1,⟨λe=>absurd (h2.1 e).1 h0,λe=>absurd e.1 h0⟩⟩
structure DM (p:cz) (procs:Int) (script:List Int):Prop where
 c:p.Code.length<=2000/\p.Pipes.length<=2000
 l:script.length<=5000
 f:(lu p).Code=0
 n:1<=procs/\procs<=16
 s:xB procs script
structure eV (P:cz) (N:Nat) (script:List Int) (k:Nat) (S Now sl:Int) (m:M):Prop where
 ok:Bv P
 n:1<=N/\N<=16
 len:script.length<=5000
 scr:xB (N:Int) script
 seq:tg P N script k S Now sl m
 fin:k=script.length\/S≠0
theorem GH (p:cz) (procs:Int) (script:List Int):(¬ DM p procs script/\iZ p procs script=some (0,0,0,false,[],[],[])) \/
  (DM p procs script/\∃ (N k:Nat) (S Now sl:Int) (m:M),procs=((N:Nat):Int)/\eV p N script k S Now sl m/\iZ p procs script=some (S,((k:Nat):Int),Now,true,m.tr,m.ts.map (·.state),m.ce)):=by
 unfold iZ j7;simp only [cx];by_cases hb:2000<p.Code.length\/2000<p.Pipes.length
 ·rw [show (decide ((2000:Int)<(p.Code.length:Int))||decide ((2000:Int)<(p.Pipes.length:Int)))=true from by simp;omega];exact .inl ⟨λh=>by have:=h.c;omega,rfl⟩
 ·rw [show (decide ((2000:Int)<(p.Code.length:Int))||decide ((2000:Int)<(p.Pipes.length:Int)))=false from by simp;omega];by_cases hl:5000<script.length
  ·rw [cj,cH (by omega)];exact .inl ⟨λh=>by have:=h.l;omega,rfl⟩
  ·rw [cj,cK (by omega),cj];obtain ⟨f,h1,h2⟩:=DK p procs script (by omega);rw [h1,cx];by_cases h0:f.Code=0
   ·obtain ⟨g1,g2,g3,g4⟩:=h2.1 h0;rw [show (f.Code != 0)=false from by simpa using h0];obtain ⟨N,rfl⟩:=gU (show 0<=procs by omega);have hP:=If g1;obtain ⟨k,S,Now,sl,m,hs,hk,e⟩:=MS hP (N:=N) (by omega) (script:=script) (by omega) g4;refine .inr ⟨⟨by omega,by omega,g1,⟨g2,g3⟩,g4⟩,N,k,S,Now,sl,m,rfl,⟨hP,by omega,by omega,g4,hs,hk⟩,?_⟩;unfold jv;rw [cj,e];rfl
   ·rw [show (f.Code != 0)=true from by simpa using h0];exact .inl ⟨λh=>h0 (h2.2 ⟨h.f,h.n.1,h.n.2,h.s⟩),rfl⟩
theorem eV.good {P:cz} {N k:Nat} {script:List Int} {S Now sl:Int} {m:M} (h:eV P N script k S Now sl m):k<=script.length/\GG P k S m:=by
 obtain ⟨h1,h2,_⟩:=AG h.ok h.n h.len h.seq;exact ⟨h1,h2⟩
theorem hM.states {P:cz} {a b:A} {es:List cy} (r:hM P a es b):∃ f:Nat->A,f 0=a/\f es.length=b/\∀ i (h:i<es.length),Ev P (f i) es[i] (f (i+1))/\1<=es[i].Task/\es[i].Task<=(f i).n/\(f i).en es[i].Task=false:=by
 induction r with
 | nil=>exact ⟨λ_=>a,rfl,rfl,λi h=>absurd h (pN _)⟩
 | @snoc es b e c r h ht ih =>
  obtain ⟨f,f0,f1,f2⟩:=ih;refine ⟨λi=>if i<=es.length then f i else c,(if_pos (io _)).trans f0,if_neg (by simp),λi hi=>?_⟩;dsimp only;rw [ea,List.length_singleton] at hi;rcases Nat.lt_or_eq_of_le (Nat.le_of_lt_succ hi) with hlt|rfl
  ·simp only [vy hlt];rw [if_pos (by omega),if_pos (by omega)];exact f2 i hlt
  ·simp only [vz (cF _),Nat.sub_self,List.getElem_singleton];rw [if_pos (by omega),if_neg (by omega),f1];exact ⟨h,ht⟩
structure Tr (P:cz) (S:Int) (m:M) (f:Nat->A):Prop where
 f0:f 0=abs (m0 P 1)
 f1:f m.tr.length=abs m
 ev:∀ i (h:i<m.tr.length),Ev P (f i) m.tr[i] (f (i+1))\/(m.tr[i].Op=22/\(0<=m.tr[i].Obj/\m.tr[i].Obj<=20)/\m.tr[i].Value=0/\f (i+1)=f i/\i+1=m.tr.length/\S=2)
 ta:∀ i (h:i<m.tr.length),1<=m.tr[i].Task/\m.tr[i].Task<=(f i).n/\(f i).en m.tr[i].Task=false
 n:∀ i,i<=m.tr.length->1<=(f i).n/\(f i).n<=64
 len:m.tr.length<=400000
theorem GG.states {P:cz} {k:Nat} {S:Int} {m:M} (h:GG P k S m) (hk:k<=5000):∃ f,Tr P S m f:=by
 obtain ⟨es,r,_,hl,h1,h2⟩:=h.es;obtain ⟨f,f0,f1,f2⟩:=r.states;have nn:∀ i,i<=es.length->1<=(f i).n/\(f i).n<=64:=λi=>by
  induction i with
  | zero=>intro _;rw [f0];exact ⟨iT 1,show (1:Int)<=64 by decide⟩
  | succ i ih =>
   intro hi;have h0:=ih (by omega);have hev:=(f2 i (by omega)).1;have hm:=hev.mono;refine ⟨by omega,?_⟩;revert h0;generalize es[i]=e at hev;generalize f i=a at hev;generalize f (i+1)=b at hev;intro h0;cases hev<;>first|exact h0.2|(show a.n+1<=64;omega)
 by_cases hS:S=2
 ·obtain ⟨w,ob,htr,hw,ho⟩:=h2 hS;have hlen:m.tr.length=es.length+1:=by rw [htr];simp
  have g1:∀ i (hi:i<m.tr.length) (hi2:i<es.length),m.tr[i]=es[i]:=λi hi hi2=>by simp only [htr];rw [vy hi2]
  have g2:∀ i (hi:i<m.tr.length),i=es.length->m.tr[i]=⟨w,22,ob,0⟩:=λi hi e=>by subst e;simp only [htr];rw [vz (cF _)];simp
  refine ⟨λi=>if i<=es.length then f i else abs m,(if_pos (io _)).trans f0,if_neg (by omega),λi hi=>?_,λi hi=>?_,λi hi=>?_,by omega⟩
  ·by_cases hlt:i<es.length
   ·rw [g1 i hi hlt,if_pos (by omega),if_pos (by omega)];exact .inl (f2 i hlt).1
   ·obtain rfl:i=es.length:=by omega
    rw [g2 _ hi rfl,if_pos (by omega),if_neg (by omega),f1];exact .inr ⟨rfl,ho,rfl,rfl,by omega,hS⟩
  ·by_cases hlt:i<es.length
   ·rw [g1 i hi hlt,if_pos (by omega)];exact (f2 i hlt).2
   ·obtain rfl:i=es.length:=by omega
    rw [g2 _ hi rfl,if_pos (by omega),f1];exact hw
  ·by_cases hle:i<=es.length
   ·rw [if_pos hle];exact nn i hle
   ·rw [if_neg hle,←f1];exact nn _ (cF _)
 ·have htr:=h1 hS;subst htr;exact ⟨f,f0,f1,λi hi=>.inl (f2 i hi).1,λi hi=>(f2 i hi).2,nn,by omega⟩
theorem NU {k:Nat} (h:k<=400000):i64.wrap ((k:Int)+1)=((k+1:Nat):Int):=by
 rw [ga (by omega) (by omega)];omega
end
end
section
noncomputable section
theorem Ev.ob {P:cz} {a b:A} {e:cy} (h:Ev P a e b):(e.Op=8\/e.Op=9\/e.Op=11)/\e.Obj=0\/(e.Op=12\/e.Op=13)/\0<=e.Obj/\e.Obj<P.Cells\/(e.Op=14\/e.Op=15\/e.Op=16)/\0<=e.Obj/\e.Obj<(P.Pipes.length:Int) \/
  (e.Op=17\/e.Op=18)/\0<=e.Obj/\e.Obj<P.Locks\/(e.Op=19\/e.Op=20)/\0<=e.Obj/\e.Obj<P.Groups:=by
 cases h<;>simp_all
structure tR (l:List Int) (n:Nat) (g:Int->Int):Prop where
 len:l.length=n
 at':∀ k:Int,0<=k->k<(n:Int)->ix l k=g k
theorem tR.set {l:List Int} {n:Nat} {g g':Int->Int} (h:tR l n g) {k v:Int} (h0:0<=k) (hk:k<(n:Int)) (hv:g' k=v) (ho:∀ j,j≠k->g' j=g j):tR (l.set k.toNat v) n g':=by
 refine ⟨by rw [cr];exact h.len,λj j0 jn=>?_⟩;obtain ⟨a,rfl⟩:=gU h0;obtain ⟨b,rfl⟩:=gU j0;rw [eQ];have hl:=h.len;by_cases e:(b:Int)=(a:Int)
 ·obtain rfl:b=a:=by omega
  rw [hv];exact Dw l (by omega) v
 ·rw [ho _ e,←h.at' _ j0 jn,dx (by rw [cr];omega),dx (by omega),pS,if_neg (by omega)]
theorem tR.to {l:List Int} {n:Nat} {g g':Int->Int} (h:tR l n g) (e:∀ k,0<=k->k<(n:Int)->g' k=g k):tR l n g':=⟨h.len,λk h0 hk=>by rw [e k h0 hk];exact h.at' k h0 hk⟩
theorem tR.rep (n:Nat) {g:Int->Int} (h:∀ k,0<=k->k<(n:Int)->g k=0):tR (List.replicate n (default:Int)) n g:=by
 refine ⟨rx,λk h0 hk=>?_⟩;obtain ⟨a,rfl⟩:=gU h0;rw [h _ h0 hk,dx (by rw [rx];omega),List.getElem_replicate];rfl
theorem Bw (xs:List Int) (h:xs.length<100000):kj xs xs=some true:=by
 unfold kj;rw [show ((xs.length:Int) != (xs.length:Int))=false from by simp,cj];refine i0 (step:=kf xs xs) (λi=>((i:Nat):Int)) _ xs.length (λi hi=>?_) ?_
 ·unfold kf;rw [kn hi,ko,gD (by omega)];simp
 ·unfold kf;rw [mI,cj]
end
end
section
noncomputable section
section
variable {P:cz} {N:Nat} {script:List Int} {k:Nat} {S Now sl:Int} {m:M}
theorem tg.run (h:tg P N script k S Now sl m):∀ scr':List Int,k<=scr'.length->k<=5000->(∀ i,i<k->ix scr' ((i:Nat):Int)=ix script ((i:Nat):Int)) ->
  dE (gK P scr') (ps 0 0 0 0 0 (m0 P N))=dE (gK P scr') (ps k S (k:Int) Now sl m):=by
 induction h with
 | zero=>exact λ_ _ _ _=>rfl
 | @next k Now sl m ST Now' sl' m' h hk e s ih =>
  intro scr' h1 h2 h3;rw [ih scr' (by omega) (by omega) (λi hi=>h3 i (by omega)),kI (e scr' k (by omega) (by omega) (h3 k (by omega))),gD (by omega)]
theorem tg.ends (h:tg P N script k S Now sl m) (hP:Bv P) (hN:1<=N/\N<=16) (htl:m.ts.length<=64) {scr':List Int} (hl:scr'.length<=5000) (hs:xB (N:Int) scr') (hk:k<=scr'.length) (hag:∀ i,i<k->ix scr' ((i:Nat):Int)=ix script ((i:Nat):Int)) (he:k=scr'.length\/S≠0) :
  lr P (N:Int) scr'=some (S,(k:Int),Now,⟨0,0⟩,m.tr,m.ts.map (·.state),m.ce):=by
 rw [AH hP hN hl hs,h.run scr' hk (by omega) hag];refine f7 (DI htl ?_);by_cases hlt:k=scr'.length
 ·exact .inl hlt
 ·exact .inr ⟨by omega,he.resolve_left hlt⟩
theorem SR.pre {n:Nat} {ST:Int} {m':M} (s:SR P n m ST m'):∃ e,m'.tr=m.tr++e:=by
 cases s with
 | on _ es c i e1 pl=>exact ⟨_,c.tr⟩
 | fin _ es c i e1=>exact ⟨_,c.tr⟩
 | pan _ es w ob run mt len tr hw ho e1=>exact ⟨_,by rw [tr,fL]⟩
 | full _ c i hh e1=>exact ⟨_,c.tr⟩
theorem tg.back (h:tg P N script k S Now sl m):∀ j,j<=k->∃ (S' Now' sl':Int) (m':M),tg P N script j S' Now' sl' m'/\∃ e,m.tr=m'.tr++e:=by
 induction h with
 | zero =>
  intro j hj;obtain rfl:j=0:=by omega
  exact ⟨_,_,_,_,.zero,[],by simp⟩
 | @next k Now sl m ST Now' sl' m' h hk e s ih =>
  intro j hj;by_cases hlt:j<=k
  ·obtain ⟨S',Now'',sl'',m'',h1,e',h2⟩:=ih j hlt;obtain ⟨e2,h3⟩:=s.pre;exact ⟨S',Now'',sl'',m'',h1,e'++e2,by rw [h3,h2,fL]⟩
  ·obtain rfl:j=k+1:=by omega
   exact ⟨_,_,_,_,.next h hk e s,[],by simp⟩
end
theorem z8 (xs:List cy) (h:xs.length<=400000):ir xs xs=some true:=by
 unfold ir;rw [show ((xs.length:Int) != (xs.length:Int))=false from by simp,cj];refine i0 (step:=iG xs xs) (λi=>((i:Nat):Int)) _ xs.length (λi hi=>?_) ?_
 ·unfold iG;rw [kn hi,ko,NU (by omega)];simp
 ·unfold iG;rw [mI,cj]
theorem Ey (r:lQ) (h1:r.Trace.length<=400000) (h2:r.Tasks.length<100000) (h3:r.Cells.length<100000):ic r r=some true:=by
 unfold ic eU;rw [Bw _ h2,Bw _ h3,z8 _ h1];simp
theorem eV.lens {P:cz} {N k:Nat} {script:List Int} {S Now sl:Int} {m:M} (R:eV P N script k S Now sl m):m.tr.length<=400000/\(m.ts.map (·.state)).length<100000/\m.ce.length<100000:=by
 obtain ⟨hk,G⟩:=R.good;have hl:=R.len;obtain ⟨f,T⟩:=G.states (by omega);have htl:=G.tl;refine ⟨T.len,by rw [eD];omega,?_⟩;have key:∀ i,i<=m.tr.length->(((f i).ce.length:Nat):Int)=P.Cells:=λi=>by
  induction i with
  | zero=>intro _;rw [T.f0];show ((((List.replicate P.Cells.toNat (default:Int)).length:Nat)):Int)=_;rw [rx];have:=R.ok.ce;omega
  | succ i ih =>
   intro hi;rcases T.ev i (by omega) with h|⟨_,_,_,h,_⟩
   ·have h2:=ih (by omega);generalize f i=a at h h2;generalize m.tr[i]=e at h;generalize f (i+1)=b at h ⊢;cases h<;>first|exact h2|(rw [cr];exact h2)
   ·rw [h];exact ih (by omega)
 have h:=key _ (cF _);rw [T.f1] at h;have:(((abs m).ce.length:Nat):Int)=(m.ce.length:Int):=rfl;have:=R.ok.ce;omega
end
end
section
noncomputable section
theorem xC {l:List Int} {n i:Nat} (h:i<n) (h2:i<l.length):ix (l.take n) (i:Int)=ix l (i:Int):=by
 rw [dx (by rw [fH];omega),dx h2,List.getElem_take]
theorem DM.take {p:cz} {procs:Int} {script:List Int} (h:DM p procs script) (n:Nat) (hn:n<=script.length):DM p procs (script.take n) :=
 ⟨h.c,by rw [fH];have:=h.l;omega,h.f,h.n,λi hi=>by
  rw [fH] at hi
  rw [xC (by omega) (by omega)]
  exact h.s i (by omega)⟩
theorem GI (p:cz) (procs:Int) (script:List Int) (n:Int):j8 p procs script n=some true:=by
 unfold j8
 rw [NT,cx,jk,cj]
 by_cases hb:n<0\/(script.length:Int)<n
 ·rw [show ((decide (n<0))||(decide ((script.length:Int)<n)))=true from by simpa using hb];rfl
 ·rw [show ((decide (n<0))||(decide ((script.length:Int)<n)))=false from by simpa using hb,cj]
  obtain ⟨n,rfl⟩:=gU (show 0<=n by omega)
  have hn:n<=script.length:=by omega
  have hc:((decide ((0:Int)<=(n:Int)))&&(decide ((n:Int)<=(script.length:Int))))=true:=by simp;omega
  rcases GH p procs script with ⟨_,h⟩|⟨F,N,k,S,Now,sl,m,rfl,R,h⟩
  ·obtain ⟨r,hr⟩:∃ r,iZ p procs (script.take n)=some r:=by
    rcases GH p procs (script.take n) with ⟨_,h⟩|⟨_,N,k,S,Now,sl,m,_,_,h⟩<;>exact ⟨_,h⟩
   rw [h,cx,hc,cd,s_,hr];rfl
  ·rcases GH p (N:Int) (script.take n) with ⟨h2,_⟩|⟨_,N2,k2,S2,Now2,sl2,m2,hN,R2,h2⟩
   ·exact absurd (F.take n hn) h2
   ·obtain rfl:N=N2:=by omega
    rw [h,cx,hc,cd,s_,h2,cx]
    simp only [jk,cj]
    obtain ⟨hk,G⟩:=R.good
    obtain ⟨hk2,G2⟩:=R2.good
    have hl:=R.len
    have hlt:(script.take n).length=n:=by rw [fH];omega
    rw [hlt] at hk2
    obtain ⟨l1,l2,l3⟩:=R.lens
    -- who plays the shorter script comes to what the longer one comes to, if it ends; else it has done its part
    have alt:(S2=S/\k2=k/\Now2=Now/\m2.tr=m.tr/\m2.ts.map (·.state)=m.ts.map (·.state)/\m2.ce=m.ce)\/(S2=0/\k2=n/\n<=k/\∃ e,m.tr=m2.tr++e):=by
     have A:=R.seq.ends R.ok R.n G.tl.2 hl R.scr hk (λ_ _=>rfl) R.fin
     by_cases h0:S2=0
     ·have hk2':k2=n:=by
       rcases R2.fin with h|h
       ·rw [h,hlt]
       ·exact absurd h0 h
      have B:=R2.seq.ends R2.ok R2.n G2.tl.2 (by rw [hlt];omega) R2.scr (by rw [hlt];exact hk2) (λ_ _=>rfl) R2.fin
      have hkn:n<=k:=by
       rcases Nat.lt_or_ge k n with hlt'|h
       ·have hS:S≠0:=R.fin.resolve_left (by omega)
        have C:=R.seq.ends R.ok R.n G.tl.2 (scr':=script.take n) (by rw [hlt];omega) R2.scr (by rw [hlt];omega) (λi hi=>xC (by omega) (by omega)) (.inr hS)
        rw [B] at C
        simp only [fw,gX] at C
        omega
       ·exact h
      obtain ⟨S',Now',sl',m',h1,e,h3⟩:=R.seq.back n hkn
      obtain ⟨_,G',_⟩:=AG R.ok R.n R.len h1
      have C:=h1.ends R.ok R.n G'.tl.2 (scr':=script.take n) (by rw [hlt];omega) R2.scr (by rw [hlt];omega) (λi hi=>xC (by omega) (by omega)) (.inl hlt.symm)
      rw [B] at C
      simp only [fw,gX] at C
      exact .inr ⟨h0,hk2',hkn,e,by rw [h3,C.2.2.2.2.1]⟩
     ·have C:=R2.seq.ends R2.ok R2.n G2.tl.2 hl R.scr (by omega) (λi hi=>(xC (by omega) (by omega)).symm) (.inr h0)
      rw [A] at C
      simp only [fw,gX] at C
      obtain ⟨c1,c2,c3,_,c4,c5,c6⟩:=C
      exact .inl ⟨c1.symm,by omega,c3.symm,c4.symm,c5.symm,c6.symm⟩
    have pre:∃ e,m.tr=m2.tr++e:=by
     rcases alt with ⟨_,_,_,h,_⟩|⟨_,_,_,h⟩
     ·exact ⟨[],by rw [h,jo]⟩
     ·exact h
    obtain ⟨e,he⟩:=pre
    have hle:m2.tr.length<=m.tr.length:=by rw [he,ea];omega
    have hkk:k2<=k:=by rcases alt with ⟨_,h,_⟩|⟨_,h,h',_⟩<;>omega
    rw [cK (by omega),cj,show ((decide ((0:Int)<=(m2.tr.length:Int)))&&(decide ((m2.tr.length:Int)<=(m.tr.length:Int))))=true from by simp;omega,cd,s_,show m.tr.take m2.tr.length=m2.tr from by rw [he];simp,z8 _ (by omega),cx,jk,cj,cK (by omega),cK (by omega),cj,cj,cK (by omega)]
    unfold fj
    rw [cj]
    have c1:((S==0)&&((k:Int) != (script.length:Int)))=false:=by
     rcases R.fin with h|h
     ·rw [h];simp
     ·rw [show (S==0)=false from by simpa using h];rfl
    rw [c1,cj]
    unfold gh
    rcases alt with ⟨a1,a2,a3,a4,a5,a6⟩|⟨a1,a2,_⟩
    ·rw [a1,a2,a3,a4,a5,a6,Ey _ l1 l2 l3]
     cases (S==0)<;>cases ((k:Int)==(n:Int))<;>rfl
    ·rw [a1,a2];simp
end
end
end Go.Proofs.YthcdpjkgdcpkmaaGreatDoor
end
