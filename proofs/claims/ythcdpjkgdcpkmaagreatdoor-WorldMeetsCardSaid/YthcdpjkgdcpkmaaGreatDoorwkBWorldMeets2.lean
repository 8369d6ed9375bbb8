/-
 Lemmas, put together: wkP15, wkP16, wkP17, wkPmeets.
 No conditions.
-/
import Derived.Test.YthcdpjkgdcpkmaaGreatDoorwkBWorldMeets1
open Go.IntKind (i64)
set_option linter.unusedSimpArgs false
set_option linter.unusedVariables false
set_option linter.unusedSectionVars false
section
namespace Go.Proofs.YthcdpjkgdcpkmaaGreatDoor
set_option maxRecDepth 100000
open Go Go.Sx
section
noncomputable section
theorem yH {P:cy} {a b:List cz} (h1:t_ P a) (h2:t_ P b):t_ P (a++b):=λi e he ho=>by
 rcases Nat.lt_or_ge i a.length with hi|hi
 ·rw [iO hi] at he
  rcases h1 i e he ho with h|⟨g,hg,h⟩
  ·exact .inl h
  ·exact .inr ⟨g,by rw [iO (dv.1 hg).1];exact hg,h⟩
 ·rw [jD hi] at he
  rcases h2 _ e he ho with h|⟨g,hg,h⟩
  ·exact .inl h
  ·refine .inr ⟨g,?_,h⟩
   rw [jD (by omega),show i+1-a.length=i-a.length+1 by omega]
   exact hg
structure xc (P:cy) (k:Nat) (S:Int) (m:M):Prop where
 es:∃ es,g7 P (abs (m0 P 1)) es (abs m)/\t_ P es/\es.length<=70*k/\(S≠2->m.tr=es)/\(S=2->∃ w ob,m.tr=es++[⟨w,22,ob,0⟩]/\(1<=w/\w<=(abs m).n/\(abs m).en w=false)/\0<=ob/\ob<=20)
 ss:S=0\/S=1\/S=2\/S=3\/S=4
 e1:S=1↔(abs m).en 1=true
 full:S=4->m.ts.length=64
 tl:1<=m.ts.length/\m.ts.length<=64
 go:S=0->m.ts.any goes=true
 no:S=3->m.ts.any goes=false
section
variable {P:cy} (hP:xb P) {N:Nat} (hN:1<=N/\N<=16) {script:List Int} (hl:script.length<=5000) (hx:∀ i,i<script.length->-1<=ix script ((i:Nat):Int)/\ix script ((i:Nat):Int)<(N:Int))
include hP hN hl
theorem Fj {k:Nat} {S Now sl:Int} {m:M} (h:Bu P N script k S Now sl m):k<=script.length/\xc P k S m/\(S=0->ff P k m/\m.pr.length=N):=by
 induction h with
 | zero =>
  refine ⟨il _,⟨⟨[],.nil _,ge (λe he=>by cases he),il _,λ_=>rfl,(λh=>by cases h)⟩,.inl rfl,⟨(λh=>by cases h),(λh=>by cases h)⟩,(λh=>by cases h),(show 1<=1/\1<=64 by decide),λ_=>rfl,(λh=>by cases h)⟩,λ_=>⟨Om hP hN,by simp [m0,rep]⟩⟩
 | @next k Now sl m ST Now' sl' m' h hk e s ih =>
  obtain ⟨_,G,hI⟩:=ih;obtain ⟨hI,hpl⟩:=hI rfl;obtain ⟨es,hr,hm,hlen,ht,_⟩:=G.es;have htr:=ht (by decide);have hsl:=s.len hI;have h1:1<=m'.ts.length:=by
   have key:∀ {es},g7 P (abs m) es (abs m')->1<=m'.ts.length:=λr=>by
    have h1:=r.mono;have h2:(m.ts.length:Int)<=((m'.ts.length:Nat):Int):=h1;have:=hI.tl;omega
   cases s with
   | on _ es c i e1 pl=>exact key c.run
   | fin _ es c i e1=>exact key c.run
   | pan _ es w ob run mt len tr hw ho e1=>exact key run
   | full _ c i hh e1=>exact key c.run
  have hg0:(abs m).en 1=false:=by
   cases h:(abs m).en 1 with
   | false=>rfl
   | true=>have:=G.e1.2 h;cases this
  have hfin:∀ ST:Int,fin ST m'=0/\ST=0/\m'.ts.any goes=true\/fin ST m'=3/\ST=0/\m'.ts.any goes=false\/fin ST m'=ST/\ST≠0:=λST=>by
   unfold fin;by_cases h0:ST=0
   ·cases hg:m'.ts.any goes with
    | true=>exact .inl ⟨by rw [if_neg (by simp)];exact h0,h0,rfl⟩
    | false=>exact .inr (.inl ⟨by rw [if_pos ⟨h0,rfl⟩],h0,rfl⟩)
   ·exact .inr (.inr ⟨by rw [if_neg λh=>h0 h.1],h0⟩)
  have cat:∀ {fs},Ch P m m' fs->∃ es,g7 P (abs (m0 P 1)) es (abs m')/\t_ P es/\es.length<=70*(k+1)/\m'.tr=es:=λ{fs} c=>⟨es++fs,hr.trans c.run,yH hm c.mt,by rw [ea];have:=c.len;omega,by rw [c.tr,htr]⟩;refine ⟨hk,?_⟩;cases s with
  | on _ fs c i e1 pl =>
   obtain ⟨gs,g1,g2,g3,g4⟩:=cat c;rw [hg0] at e1;rcases hfin 0 with ⟨h1',_,h3⟩|⟨h1',_,h3⟩|⟨_,h2⟩
   ·rw [h1'];exact ⟨⟨⟨gs,g1,g2,g3,λ_=>g4,(λh=>by cases h)⟩,.inl rfl,⟨(λh=>by cases h),(λh=>by rw [e1] at h;cases h)⟩,(λh=>by cases h),⟨h1,hsl⟩,λ_=>h3,(λh=>by cases h)⟩,λ_=>⟨i,by rw [pl];exact hpl⟩⟩
   ·rw [h1'];exact ⟨⟨⟨gs,g1,g2,g3,λ_=>g4,(λh=>by cases h)⟩,.inr (.inr (.inr (.inl rfl))),⟨(λh=>by cases h),(λh=>by rw [e1] at h;cases h)⟩,(λh=>by cases h),⟨h1,hsl⟩,(λh=>by cases h),λ_=>h3⟩,(λh=>by cases h)⟩
   ·exact absurd rfl h2
  | fin _ fs c i e1 =>
   obtain ⟨gs,g1,g2,g3,g4⟩:=cat c;rw [show fin 1 m'=1 from if_neg λh=>by cases h.1];exact ⟨⟨⟨gs,g1,g2,g3,λ_=>g4,(λh=>by cases h)⟩,.inr (.inl rfl),⟨λ_=>e1,λ_=>rfl⟩,(λh=>by cases h),⟨h1,hsl⟩,(λh=>by cases h),(λh=>by cases h)⟩,(λh=>by cases h)⟩
  | pan _ fs w ob run mt len tr hw ho e1 =>
   rw [hg0] at e1;rw [show fin 2 m'=2 from if_neg λh=>by cases h.1];exact ⟨⟨⟨es++fs,hr.trans run,yH hm mt,by rw [ea];omega,λh=>absurd rfl h,λ_=>⟨w,ob,by rw [tr,htr],hw,ho⟩⟩,.inr (.inr (.inl rfl)),⟨(λh=>by cases h),(λh=>by rw [e1] at h;cases h)⟩,(λh=>by cases h),⟨h1,hsl⟩,(λh=>by cases h),(λh=>by cases h)⟩,(λh=>by cases h)⟩
  | full _ c i hh e1 =>
   obtain ⟨gs,g1,g2,g3,g4⟩:=cat c;rw [hg0] at e1;rw [show fin 4 m'=4 from if_neg λh=>by cases h.1];exact ⟨⟨⟨gs,g1,g2,g3,λ_=>g4,(λh=>by cases h)⟩,.inr (.inr (.inr (.inr rfl))),⟨(λh=>by cases h),(λh=>by rw [e1] at h;cases h)⟩,λ_=>hh,⟨h1,hsl⟩,(λh=>by cases h),(λh=>by cases h)⟩,(λh=>by cases h)⟩
include hx
theorem Fl:mA P (N:Int) script=dG (iE P script) (ps 0 0 0 0 0 (m0 P N)):=by
 unfold mA;rw [Mu,hP.f0,cx,show ((⟨0,0⟩:cD).Code != 0)=false from rfl,ck,cJ (show ¬ (N:Int)<1 by omega),cJ (show ¬ (16:Int)<(N:Int) by omega),Bool.or_self,ck,cJ (by omega),ck];refine iX (step:=nM P (N:Int) script) (λi=>((i:Nat):Int)) _ script.length (λi hi=>?_) ?_
 ·unfold nM;have:=hx i hi;rw [ko hi,kp,cJ (show ¬ ix script (i:Int) < -1 by omega),cJ (show ¬ (N:Int)<=ix script (i:Int) by omega)];show some (Sum.inl (i64.wrap ((i:Int)+1)))=_;rw [gO (by omega)]
 ·unfold nM;rw [mI,ck,MI hP hN.2];rfl
theorem MK:∃ (k:Nat) (S Now sl:Int) (m:M),Bu P N script k S Now sl m/\(k=script.length\/S≠0)/\mA P (N:Int) script=some (S,((k:Nat):Int),Now,⟨0,0⟩,m.tr,m.ts.map (·.state),m.ce):=by
 rw [Fl hP hN hl hx];obtain ⟨r,e,k,S,Now,sl,m,hs,hk,hr⟩:=oB (step:=iE P script) (s0:=ps 0 0 0 0 0 (m0 P N)) (λs=>∃ (k:Nat) (S Now sl:Int) (m:M),s=ps k S ((k:Nat):Int) Now sl m/\Bu P N script k S Now sl m) (λs=>((script.length:Int)-s.1).toNat) (λ(r:RT)=>∃ (k:Nat) (S Now sl:Int) (m:M),Bu P N script k S Now sl m/\(k=script.length\/S≠0)/\r=(S,((k:Nat):Int),Now,⟨0,0⟩,m.tr,m.ts.map (·.state),m.ce)) (λs hs=>by
   obtain ⟨k,S,Now,sl,m,rfl,hs⟩:=hs;obtain ⟨hk,G,hI⟩:=Fj hP hN hl hs;by_cases he:k=script.length\/S≠0
   ·exact .inr ⟨_,H7 G.tl.2 (by omega),k,S,Now,sl,m,hs,he,rfl⟩
   ·have hS:S=0:=by omega
    subst hS;obtain ⟨hI,hpl⟩:=hI rfl;obtain ⟨es,_,_,hlen,ht,_⟩:=G.es;have hlt:k<script.length:=by omega
    obtain ⟨ST,Now',sl',m',E,hsr⟩:=NH hP hI hpl (by omega) (by rw [ht (by decide)];omega) (hx k hlt) (k:Int) Now sl;refine .inl ⟨_,E script k hlt (by omega) rfl,⟨k+1,_,_,_,m',by rw [gO (by omega)],.next hs hlt E hsr⟩,?_⟩;show ((script.length:Int)-((k+1:Nat):Int)).toNat<((script.length:Int)-(k:Int)).toNat;omega) ⟨0,0,0,0,m0 P N,rfl,.zero⟩
 exact ⟨k,S,Now,sl,m,hs,hk,by rw [e,hr]⟩
end
theorem N9:kz ⟨0,[]⟩=some ⟨0,0⟩:=by
 show dG (mb ⟨0,[]⟩) (0,[])=_;exact gh rfl
theorem Ox:kz ⟨0,[1]⟩=some ⟨0,0⟩:=by
 show dG (mb ⟨0,[1]⟩) (0,[])=_;rw [lA (s':=(1,[(1,1)])) rfl];exact gh rfl
theorem NI:iW ⟨0,[]⟩=some (0,0,⟨6,0⟩,[]):=by
 unfold iW;rw [N9];rfl
theorem NJ:iW ⟨0,[1]⟩=some (0,1,⟨0,0⟩,[]):=by
 unfold iW;rw [Ox];rfl
theorem Lh:jf ⟨0,[]⟩ 1 [1]=some (0,⟨0,0⟩,[1],[]):=by
 unfold jf;rw [N9];refine (lA (step:=km ⟨0,[]⟩ 1 [1]) (s:=0) (s':=1) rfl).trans (gh ?_);show Option.map Sum.inr ((mH ⟨0,[]⟩).bind _)=_;rw [show mH ⟨0,[]⟩=some [] from rfl,cx,xy (a:=[]) (b:=[1]) Gz];rfl
theorem NK:gm 0 [⟨0,0,[]⟩] [1]=some (true,[],[⟨1,0,[]⟩]):=by
 have fa:dU 0 [⟨0,0,[]⟩]=some (false,[⟨0,0,[]⟩]):=by
  unfold dU;show (iW ⟨0,[]⟩).bind _=_;rw [NI];rfl
 have fb:dU 0 [⟨0,0,[1]⟩]=some (true,[⟨1,0,[]⟩]):=by
  unfold dU;show (iW ⟨0,[1]⟩).bind _=_;rw [NJ];rfl
 unfold gm;show (dU 0 [⟨0,0,[]⟩]).bind _=_;rw [fa];show (jf ⟨0,[]⟩ 1 [1]).bind _=_;rw [Lh];show (dU 0 [⟨0,0,[1]⟩]).bind _=_;rw [fb];rfl
abbrev pg:cy:=⟨[⟨15,0,0⟩],0,[0],0,0⟩
abbrev k1:M:=⟨[⟨0,default,1,0,0⟩],[⟨0,0,[]⟩],[],[],[⟨0,[],false,[],[⟨1,0,0⟩]⟩],[],[],[]⟩
theorem NL:xb pg:=HZ (by decide +kernel)
theorem Li:gp 0 pg.Code 0 [0] 0 0 [] 0 1 0 [] 0 [] [⟨0,default,0,0,0⟩] [⟨0,0,[]⟩] [1] [n8 0] [] []=some (st 0 0 k1):=by
 have hv:PV (n8 0):=⟨by decide,by decide,⟨lu,λx hx=>by cases hx⟩,(λx hx=>by cases hx),(λx hx=>by cases hx),(λe=>absurd rfl e),(λe=>absurd rfl e)⟩;have hg:lQ (n8 0) 1 false=some (0,false,false,false,0,0,f0,[],[],[⟨1,0,0⟩],[]):=by
  rcases My hv (t:=1) (by decide) (by simp [n8]) (by simp [n8]) with ⟨x,r,_,h,_⟩|⟨s,ss,x,r,h,_⟩|⟨_,_,h,_⟩|⟨_,_,_,e⟩
  ·cases h
  ·cases h
  ·cases h
  ·exact e
 unfold gp;show (gm 0 [⟨0,0,[]⟩] [1]).bind _=_;rw [NK];have ht:eC 0 1 ⟨15,0,0⟩ pg.Code 0 [] [⟨0,default,0,0,0⟩] [⟨1,0,[]⟩] [] [n8 0]=some (false,0,[],[],[⟨0,default,1,0,0⟩],[⟨1,0,[]⟩],[⟨0,[],false,[],[⟨1,0,0⟩]⟩]):=by
  unfold eC;show (lQ (n8 0) 1 false).bind _=_;rw [hg];rfl
 have hd:dC 0 1 ⟨15,0,0⟩ pg.Code 0 0 0 [] [] [⟨0,default,0,0,0⟩] [⟨1,0,[]⟩] [] [n8 0] [] []=some (false,0,0,[],[⟨0,default,1,0,0⟩],[],[],[⟨1,0,[]⟩],[⟨0,[],false,[],[⟨1,0,0⟩]⟩],[],[]):=by
  show (eC 0 1 ⟨15,0,0⟩ pg.Code 0 [] [⟨0,default,0,0,0⟩] [⟨1,0,[]⟩] [] [n8 0]).bind _=_;rw [ht];rfl
 show (dC 0 1 ⟨15,0,0⟩ pg.Code 0 0 0 [] [] [⟨0,default,0,0,0⟩] [⟨1,0,[]⟩] [] [n8 0] [] []).bind _=_;rw [hd];rfl
theorem NM:i8=some true:=by
 show (mA pg ((1:Nat):Int) [0,0]).bind _=_;rw [Fl NL (by decide) (by decide) (λi hi=>by
  have:i=0\/i=1:=by simp at hi;omega
  rcases this with rfl|rfl<;>decide)]
 have e:iE pg [0,0] (ps 0 0 0 0 0 (m0 pg 1))=some (.inl (ps 1 (fin 0 k1) (i64.wrap (0+1)) 0 0 k1)):=by
  show (gp 0 pg.Code 0 [0] 0 0 [] 0 1 0 [] 0 [] [⟨0,default,0,0,0⟩] [⟨0,0,[]⟩] [1] [n8 0] [] []).bind _=_;rw [Li];exact j4 (t:=0) (by decide) 0 0 0 0 (m:=k1) (by decide)
 rw [lA e,gh (H7 (t:=1) (m:=k1) (by decide) (.inr ⟨by decide,by decide⟩))];rfl
end
end
section
noncomputable section
def z_ (procs:Int) (script:List Int):Prop:=∀ i,i<script.length->-1<=ix script ((i:Nat):Int)/\ix script ((i:Nat):Int)<procs
theorem vl (procs:Int) (script:List Int) (hl:script.length<=5000) (c:cD):∃ f,gI procs script c=some f/\(f.Code=0↔c.Code=0/\z_ procs script):=by
 refine oB (step:=jV procs script) (s0:=(0,c)) (λs=>∃ i:Nat,i<=script.length/\s.1=((i:Nat):Int)/\(s.2.Code=0↔c.Code=0/\∀ j,j<i->-1<=ix script ((j:Nat):Int)/\ix script ((j:Nat):Int)<procs)) (λs=>((script.length:Int)-s.1).toNat) (λf=>f.Code=0↔c.Code=0/\z_ procs script) (λs hs=>?_) ⟨0,il _,rfl,⟨λh=>⟨h,λj hj=>absurd hj (pM _)⟩,λh=>h.1⟩⟩;obtain ⟨i',f⟩:=s;obtain ⟨i,hi,rfl,h⟩:=hs;simp only at h;unfold jV;simp only;by_cases h0:f.Code=0
 ·by_cases hlt:i<script.length
  ·rw [cH (by omega),show (f.Code==0)=true from by simpa using h0,cH (by omega)];simp only [db,cd,Bool.or_true];refine .inl ?_;have mu:((script.length:Int)-i64.wrap ((i:Int)+1)).toNat<((script.length:Int)-(i:Int)).toNat:=by rw [gO (by omega)];omega
   by_cases hb:ix script (i:Int) < -1\/procs<=ix script (i:Int)
   ·rw [show ((decide (ix script (i:Int)<(-1)))||(decide (procs<=ix script (i:Int))))=true from by simpa using hb];refine ⟨_,rfl,⟨i+1,hlt,gO (by omega),⟨λe=>by simp at e,λe=>?_⟩⟩,mu⟩;have:=e.2 i (by omega);omega
   ·rw [show ((decide (ix script (i:Int)<(-1)))||(decide (procs<=ix script (i:Int))))=false from by simpa using hb];refine ⟨_,rfl,⟨i+1,hlt,gO (by omega),⟨λe=>⟨(h.1 e).1,λj hj=>?_⟩,λe=>h.2 ⟨e.1,λj hj=>e.2 j (by omega)⟩⟩⟩,mu⟩;rcases Nat.lt_or_eq_of_le (Nat.le_of_lt_succ hj) with hj|rfl
    ·exact (h.1 e).2 j hj
    ·omega
  ·rw [cJ (by omega),Bool.false_and];obtain rfl:i=script.length:=by omega
   exact .inr ⟨_,rfl,h⟩
 ·rw [show (f.Code==0)=false from by simpa using h0,oe];exact .inr ⟨_,rfl,⟨λe=>absurd e h0,λe=>h.2 ⟨e.1,λj hj=>e.2 j (by omega)⟩⟩⟩
theorem DH (p:cy) (procs:Int) (script:List Int) (hl:script.length<=5000):∃ f,jx p procs script=some f/\(f.Code=0↔(lp p).Code=0/\1<=procs/\procs<=16/\z_ procs script):=by
 have j3:∀ c:cD,fT procs script c=gI procs script c:=λc=>by
  unfold fT;rw [cJ (by omega),oe];rfl
 unfold jx;rw [Mt,cx];by_cases h0:(lp p).Code=0
 ·rw [show ((lp p).Code==0)=true from by simpa using h0,rj];by_cases hb:procs<1\/16<procs
  ·rw [show ((decide (procs<1))||(decide ((16:Int)<procs)))=true from by simpa using hb];show∃f,fT procs script ⟨3,-1⟩=some f/\_;rw [j3];obtain ⟨f,h1,h2⟩:=vl procs script hl ⟨3,-1⟩;exact ⟨f,h1,⟨λe=>absurd (h2.1 e).1 (show (3:Int)≠0 by decide),λe=>by omega⟩⟩
  ·rw [show ((decide (procs<1))||(decide ((16:Int)<procs)))=false from by simpa using hb,ck,j3];obtain ⟨f,h1,h2⟩:=vl procs script hl (lp p);exact ⟨f,h1,⟨λe=>⟨h0,by omega,by omega,(h2.1 e).2⟩,λe=>h2.2 ⟨e.1,e.2.2.2⟩⟩⟩
 ·rw [show ((lp p).Code==0)=false from by simpa using h0,Bool.false_and,ck,j3];obtain ⟨f,h1,h2⟩:=vl procs script hl (lp p);exact ⟨f,h1,⟨λe=>absurd (h2.1 e).1 h0,λe=>absurd e.1 h0⟩⟩
structure ML (p:cy) (procs:Int) (script:List Int):Prop where
 c:p.Code.length<=2000/\p.Pipes.length<=2000
 l:script.length<=5000
 f:(lp p).Code=0
 n:1<=procs/\procs<=16
 s:z_ procs script
structure eX (P:cy) (N:Nat) (script:List Int) (k:Nat) (S Now sl:Int) (m:M):Prop where
 ok:xb P
 n:1<=N/\N<=16
 len:script.length<=5000
 scr:z_ (N:Int) script
 seq:Bu P N script k S Now sl m
 fin:k=script.length\/S≠0
theorem NN (p:cy) (procs:Int) (script:List Int):(¬ ML p procs script/\ic p procs script=some (0,0,0,false,[],[],[])) \/
  (ML p procs script/\∃ (N k:Nat) (S Now sl:Int) (m:M),procs=((N:Nat):Int)/\eX p N script k S Now sl m/\ic p procs script=some (S,((k:Nat):Int),Now,true,m.tr,m.ts.map (·.state),m.ce)):=by
 unfold ic ka;simp only [cx];by_cases hb:2000<p.Code.length\/2000<p.Pipes.length
 ·rw [show (decide ((2000:Int)<(p.Code.length:Int))||decide ((2000:Int)<(p.Pipes.length:Int)))=true from by simp;omega];exact .inl ⟨λh=>by have:=h.c;omega,rfl⟩
 ·rw [show (decide ((2000:Int)<(p.Code.length:Int))||decide ((2000:Int)<(p.Pipes.length:Int)))=false from by simp;omega];by_cases hl:5000<script.length
  ·rw [ck,cH (by omega)];exact .inl ⟨λh=>by have:=h.l;omega,rfl⟩
  ·rw [ck,cJ (by omega),ck];obtain ⟨f,h1,h2⟩:=DH p procs script (by omega);rw [h1,cx];by_cases h0:f.Code=0
   ·obtain ⟨g1,g2,g3,g4⟩:=h2.1 h0;rw [show (f.Code != 0)=false from by simpa using h0];obtain ⟨N,rfl⟩:=hX (show 0<=procs by omega);have hP:=HZ g1;obtain ⟨k,S,Now,sl,m,hs,hk,e⟩:=MK hP (N:=N) (by omega) (script:=script) (by omega) g4;refine .inr ⟨⟨by omega,by omega,g1,⟨g2,g3⟩,g4⟩,N,k,S,Now,sl,m,rfl,⟨hP,by omega,by omega,g4,hs,hk⟩,?_⟩;unfold jy;rw [ck,e];rfl
   ·rw [show (f.Code != 0)=true from by simpa using h0];exact .inl ⟨λh=>h0 (h2.2 ⟨h.f,h.n.1,h.n.2,h.s⟩),rfl⟩
theorem eX.good {P:cy} {N k:Nat} {script:List Int} {S Now sl:Int} {m:M} (h:eX P N script k S Now sl m):k<=script.length/\xc P k S m:=by
 obtain ⟨h1,h2,_⟩:=Fj h.ok h.n h.len h.seq;exact ⟨h1,h2⟩
theorem g7.states {P:cy} {a b:A} {es:List cz} (r:g7 P a es b):∃ f:Nat->A,f 0=a/\f es.length=b/\∀ i (h:i<es.length),Ev P (f i) es[i] (f (i+1))/\1<=es[i].Task/\es[i].Task<=(f i).n/\(f i).en es[i].Task=false:=by
 induction r with
 | nil=>exact ⟨λ_=>a,rfl,rfl,λi h=>absurd h (pM _)⟩
 | @snoc es b e c r h ht ih =>
  obtain ⟨f,f0,f1,f2⟩:=ih;refine ⟨λi=>if i<=es.length then f i else c,(if_pos (il _)).trans f0,if_neg (by simp),λi hi=>?_⟩;dsimp only;rw [ea,List.length_singleton] at hi;rcases Nat.lt_or_eq_of_le (Nat.le_of_lt_succ hi) with hlt|rfl
  ·simp only [vx hlt];rw [if_pos (by omega),if_pos (by omega)];exact f2 i hlt
  ·simp only [vy (cF _),Nat.sub_self,List.getElem_singleton];rw [if_pos (by omega),if_neg (by omega),f1];exact ⟨h,ht⟩
structure Tr (P:cy) (S:Int) (m:M) (f:Nat->A):Prop where
 f0:f 0=abs (m0 P 1)
 f1:f m.tr.length=abs m
 ev:∀ i (h:i<m.tr.length),Ev P (f i) m.tr[i] (f (i+1))\/(m.tr[i].Op=22/\(0<=m.tr[i].Obj/\m.tr[i].Obj<=20)/\m.tr[i].Value=0/\f (i+1)=f i/\i+1=m.tr.length/\S=2)
 ta:∀ i (h:i<m.tr.length),1<=m.tr[i].Task/\m.tr[i].Task<=(f i).n/\(f i).en m.tr[i].Task=false
 n:∀ i,i<=m.tr.length->1<=(f i).n/\(f i).n<=64
 len:m.tr.length<=400000
theorem xc.states {P:cy} {k:Nat} {S:Int} {m:M} (h:xc P k S m) (hk:k<=5000):∃ f,Tr P S m f:=by
 obtain ⟨es,r,_,hl,h1,h2⟩:=h.es;obtain ⟨f,f0,f1,f2⟩:=r.states;have nn:∀ i,i<=es.length->1<=(f i).n/\(f i).n<=64:=λi=>by
  induction i with
  | zero=>intro _;rw [f0];exact ⟨iR 1,show (1:Int)<=64 by decide⟩
  | succ i ih =>
   intro hi;have h0:=ih (by omega);have hev:=(f2 i (by omega)).1;have hm:=hev.mono;refine ⟨by omega,?_⟩;revert h0;generalize es[i]=e at hev;generalize f i=a at hev;generalize f (i+1)=b at hev;intro h0;cases hev<;>first|exact h0.2|(show a.n+1<=64;omega)
 by_cases hS:S=2
 ·obtain ⟨w,ob,htr,hw,ho⟩:=h2 hS;have hlen:m.tr.length=es.length+1:=by rw [htr];simp
  have g1:∀ i (hi:i<m.tr.length) (hi2:i<es.length),m.tr[i]=es[i]:=λi hi hi2=>by simp only [htr];rw [vx hi2]
  have g2:∀ i (hi:i<m.tr.length),i=es.length->m.tr[i]=⟨w,22,ob,0⟩:=λi hi e=>by subst e;simp only [htr];rw [vy (cF _)];simp
  refine ⟨λi=>if i<=es.length then f i else abs m,(if_pos (il _)).trans f0,if_neg (by omega),λi hi=>?_,λi hi=>?_,λi hi=>?_,by omega⟩
  ·by_cases hlt:i<es.length
   ·rw [g1 i hi hlt,if_pos (by omega),if_pos (by omega)];exact .inl (f2 i hlt).1
   ·obtain rfl:i=es.length:=by omega
    rw [g2 _ hi rfl,if_pos (by omega),if_neg (by omega),f1];exact .inr ⟨rfl,ho,rfl,rfl,by omega,hS⟩
  ·by_cases hlt:i<es.length
   ·rw [g1 i hi hlt,if_pos (by omega)];exact (f2 i hlt).2
   ·obtain rfl:i=es.length:=by omega
    rw [g2 _ hi rfl,if_pos (by omega),f1];exact hw
  ·by_cases hle:i<=es.length
   ·rw [if_pos hle];exact nn i hle
   ·rw [if_neg hle,←f1];exact nn _ (cF _)
 ·have htr:=h1 hS;subst htr;exact ⟨f,f0,f1,λi hi=>.inl (f2 i hi).1,λi hi=>(f2 i hi).2,nn,by omega⟩
theorem JI {k:Nat} (h:k<=400000):i64.wrap ((k:Int)+1)=((k+1:Nat):Int):=by
 rw [f5 (by omega) (by omega)];omega
end
end
section
noncomputable section
theorem Ev.ob {P:cy} {a b:A} {e:cz} (h:Ev P a e b):(e.Op=8\/e.Op=9\/e.Op=11)/\e.Obj=0\/(e.Op=12\/e.Op=13)/\0<=e.Obj/\e.Obj<P.Cells\/(e.Op=14\/e.Op=15\/e.Op=16)/\0<=e.Obj/\e.Obj<(P.Pipes.length:Int) \/
  (e.Op=17\/e.Op=18)/\0<=e.Obj/\e.Obj<P.Locks\/(e.Op=19\/e.Op=20)/\0<=e.Obj/\e.Obj<P.Groups:=by
 cases h<;>simp_all
theorem Ja {P:cy} (hP:xb P) (r:jQ) {i:Nat} (hi:i<r.Trace.length) (hi':i<=400000) {a b:A} (h:Ev P a r.Trace[i] b\/(r.Trace[i].Op=22/\0<=r.Trace[i].Obj/\r.Trace[i].Obj<=20)) (ht:1<=r.Trace[i].Task/\r.Trace[i].Task<=64):hU P r (i:Int)=some (.inl ((i+1:Nat):Int)):=by
 have he:=dy hi;generalize r.Trace[i]=e at he h ht;have h1:=hP.pn;have h2:=hP.ce;have h3:=hP.lo;have h4:=hP.gr;have w:=JI hi';unfold hU jb hM ja i_ fq;rw [ko hi,kp,he,w,cJ (show ¬ e.Task<1 by omega),cJ (show ¬ (64:Int)<e.Task by omega)];have key:∀ n:Int,0<=e.Obj->e.Obj<n->n<=21->decide (e.Obj<0)=false/\decide ((20:Int)<e.Obj)=false/\decide (n<=e.Obj)=false:=λn a1 a2 a3=>⟨cJ (by omega),cJ (by omega),cJ (by omega)⟩;rcases h with h|⟨ho,h5,h6⟩
 ·rcases h.ob with ⟨ho,hb⟩|⟨ho,hb⟩|⟨ho,hb⟩|⟨ho,hb⟩|⟨ho,hb⟩
  ·obtain ⟨k1,k2,k3⟩:=key 1 (by omega) (by omega) (by omega);rcases ho with ho|ho|ho<;>rw [ho,k1,k2,k3]<;>rfl
  ·obtain ⟨k1,k2,k3⟩:=key P.Cells (by omega) (by omega) (by omega);rcases ho with ho|ho<;>rw [ho,k1,k2,k3]<;>rfl
  ·obtain ⟨k1,k2,k3⟩:=key (P.Pipes.length:Int) (by omega) (by omega) (by omega);rcases ho with ho|ho|ho<;>rw [ho,k1,k2,k3]<;>rfl
  ·obtain ⟨k1,k2,k3⟩:=key P.Locks (by omega) (by omega) (by omega);rcases ho with ho|ho<;>rw [ho,k1,k2,k3]<;>rfl
  ·obtain ⟨k1,k2,k3⟩:=key P.Groups (by omega) (by omega) (by omega);rcases ho with ho|ho<;>rw [ho,k1,k2,k3]<;>rfl
 ·obtain ⟨k1,k2,k3⟩:=key 21 (by omega) (by omega) (by omega);rw [ho,k1,k2,k3];rfl
theorem GA {P:cy} (hP:xb P) {S:Int} {m:M} {f:Nat->A} (T:Tr P S m f) {r:jQ} (hr:r.Trace=m.tr):kh P r=some true:=by
 unfold kh;refine iX (step:=hU P r) (λi=>((i:Nat):Int)) _ r.Trace.length (λi hi=>?_) ?_
 ·have hi2:i<m.tr.length:=hr▸hi;have hl:=T.len;have e:r.Trace[i]=m.tr[i]:=by simp only [hr]
  refine Ja hP r hi (by omega) (a:=f i) (b:=f (i+1)) ?_ ?_
  ·rw [e];rcases T.ev i hi2 with h|⟨h1,h2,_⟩
   ·exact .inl h
   ·exact .inr ⟨h1,h2⟩
  ·rw [e];have h1:=T.ta i hi2;have h2:=T.n i (by omega);omega
 ·unfold hU;rw [mI,ck]
theorem Lj (p:cy) (procs:Int) (script:List Int):ic p procs script=some (0,0,0,false,[],[],[]) \/
 ∃(k:Nat) (S Now:Int) (m:M) (f:Nat->A),xb p/\xc p k S m/\Tr p S m f/\ic p procs script=some (S,((k:Nat):Int),Now,true,m.tr,m.ts.map (·.state),m.ce):=by
 rcases NN p procs script with ⟨_,h⟩|⟨_,N,k,S,Now,sl,m,rfl,R,h⟩
 ·exact .inl h
 ·obtain ⟨hk,G⟩:=R.good;have:=R.len;obtain ⟨f,T⟩:=G.states (by omega);exact .inr ⟨k,S,Now,m,f,R.ok,G,T,h⟩
structure tO (l:List Int) (n:Nat) (g:Int->Int):Prop where
 len:l.length=n
 at':∀ k:Int,0<=k->k<(n:Int)->ix l k=g k
theorem tO.set {l:List Int} {n:Nat} {g g':Int->Int} (h:tO l n g) {k v:Int} (h0:0<=k) (hk:k<(n:Int)) (hv:g' k=v) (ho:∀ j,j≠k->g' j=g j):tO (l.set k.toNat v) n g':=by
 refine ⟨by rw [cr];exact h.len,λj j0 jn=>?_⟩;obtain ⟨a,rfl⟩:=hX h0;obtain ⟨b,rfl⟩:=hX j0;rw [eQ];have hl:=h.len;by_cases e:(b:Int)=(a:Int)
 ·obtain rfl:b=a:=by omega
  rw [hv];exact Dv l (by omega) v
 ·rw [ho _ e,←h.at' _ j0 jn,dy (by rw [cr];omega),dy (by omega),pR,if_neg (by omega)]
theorem tO.to {l:List Int} {n:Nat} {g g':Int->Int} (h:tO l n g) (e:∀ k,0<=k->k<(n:Int)->g' k=g k):tO l n g':=⟨h.len,λk h0 hk=>by rw [e k h0 hk];exact h.at' k h0 hk⟩
theorem tO.rep (n:Nat) {g:Int->Int} (h:∀ k,0<=k->k<(n:Int)->g k=0):tO (List.replicate n (default:Int)) n g:=by
 refine ⟨tf,λk h0 hk=>?_⟩;obtain ⟨a,rfl⟩:=hX h0;rw [h _ h0 hk,dy (by rw [tf];omega),List.getElem_replicate];rfl
theorem MM {p:cy} {procs:Int} {script:List Int} {F:Int×Int×Int×Bool×List cz×List Int×List Int->Option Bool}
  (h0:∀ r,r.2.2.2.1=false->F r=some true)
  (h1:∀ (k:Nat) (S Now:Int) (m:M) (f:Nat->A),xb p->xc p k S m->Tr p S m f->F (S,((k:Nat):Int),Now,true,m.tr,m.ts.map (·.state),m.ce)=some true) :
  (i8.bind λb=>(bif (!b) then (some false) else ((ic p procs script).bind F)))=some true:=by
 rw [NM,cx,jm,ck];rcases Lj p procs script with h|⟨k0,S,Now,m,f,hP,G,T,h⟩
 ·rw [h];exact h0 _ rfl
 ·rw [h];exact h1 k0 S Now m f hP G T
end
end
section
noncomputable section
theorem xc.meet {P:cy} {k:Nat} {S:Int} {m:M} (h:xc P k S m):t_ P m.tr:=by
 obtain ⟨es,_,hm,_,h1,h2⟩:=h.es;by_cases hS:S=2
 ·obtain ⟨w,ob,e,_⟩:=h2 hS;rw [e];exact yH hm (ge λx hx=>by rw [fF] at hx;subst hx;simp)
 ·rw [h1 hS];exact hm
theorem H8 (p:cy) (procs:Int) (script:List Int):kB p procs script=some true:=by
 unfold kB;refine MM (λr h=>by rw [h];rfl) λk0 S Now m f hP G T=>?_
 simp only [jm,ck];rw [GA hP T rfl,cx];simp only [jm,ck];have hl:=T.len;refine iX (step:=ig p) (λi=>(((i:Nat):Int),S,(k0:Int),Now,m.tr,m.ts.map (·.state),m.ce)) _ m.tr.length (λi hi=>?_) ?_
 ·have w:=JI (k:=i) (by omega);have hev:=T.ev i hi;have he:=dy hi;have hm:=G.meet i _ (dw hi);unfold ig ie;simp only;rw [ko hi,kp,he,w];generalize m.tr[i]=e at hev hm;simp only [db,cd];by_cases ho:e.Op=14
  ·have hb:0<=e.Obj/\e.Obj<(p.Pipes.length:Int):=by
    rcases hev with h|⟨h,_⟩
    ·rcases h.ob with h|h|h|h|h<;>omega
    ·omega
   rw [j7 hb,ho];rcases hm ho with hc|⟨g,hg,g1,g2,g3,g4⟩
   ·rw [cH hc];rfl
   ·obtain ⟨hi1,hg⟩:=dv.1 hg;have hn:=dy hi1;rw [hg] at hn;rw [hn,g1,g2,g3,cJ (show ¬ (m.tr.length:Int)<=((i+1:Nat):Int) by omega),j7 ⟨by omega,by omega⟩,show (g.Task==e.Task)=false from by simpa using g4];cases decide (0<ix p.Pipes e.Obj)<;>simp
  ·rw [show (e.Op != 14)=true from by simpa using ho];rfl
 ·unfold ig;simp only;rw [mI,ck]
end
end
end Go.Proofs.YthcdpjkgdcpkmaaGreatDoor
end
