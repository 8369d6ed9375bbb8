/-
 Lemmas, put together: QA, QB, QC, wkP0, wkP, wkP2, wkP3, wkP4, wkP5, wkP6, wkP7, wkP8, wkP9, wkP10, wkP11, wkP12, wkP13, wkP14.
 No conditions.
-/
import Derived.Test.YthcdpjkgdcpkmaaGreatDoorwkA3
import Derived.Test.YthcdpjkgdcpkmaaGreatDoorwkG
open Go.IntKind (i64)
set_option linter.unusedSimpArgs false
set_option linter.unusedVariables false
set_option linter.unusedSectionVars false
section
namespace Go.Sx
section
open Go
theorem fI {x:Int} (h1:-9223372036854775808<=x) (h2:x<=9223372036854775807):i64.wrap x=x:=by
 simp only [IntKind.wrap,IntKind.bits,IntKind.signed,if_true];simp;omega
theorem ng {S ρ:Type} {step:S->Option (S ⊕ ρ)} (I:S->Prop) (mu:S->Nat) (Post:ρ->Prop)
  (hs:∀ s,I s->(∃ s',step s=some (.inl s')/\I s'/\mu s'<mu s)\/(∃ r,step s=some (.inr r)/\Post r)) {s0:S} (h0:I s0):∃ r,dB step s0=some r/\Post r:=by
 have gen:∀ (n:Nat) (s:S),mu s<=n->I s->∃ r,dB step s=some r/\Post r:=by
  intro n;induction n with
  | zero =>
   intro s hm hi;rcases hs s hi with ⟨s',_,_,h3⟩|⟨r,h1,h2⟩
   ·omega
   ·exact ⟨r,f5 h1,h2⟩
  | succ n ih =>
   intro s hm hi;rcases hs s hi with ⟨s',h1,h2,h3⟩|⟨r,h1,h2⟩
   ·rw [kL h1];exact ih s' (by omega) h2
   ·exact ⟨r,f5 h1,h2⟩
 exact gen _ s0 (cF _) h0
def gf {β:Type} (bad:Nat->Option β):Nat->Option β
 | 0=>none
 | n+1=>(gf bad n).or (bad n)
theorem jV {β:Type} {f:Nat->Option β}:∀ (n:Nat),gf f n=none↔∀ i,i<n->f i=none
 | 0=>by simp [gf]
 | n+1=>by
  simp only [gf,Option.or_eq_none_iff,jV n]
  constructor
  ·rintro ⟨h1,h2⟩ i hi
   by_cases h:i=n
   ·subst h;exact h2
   ·exact h1 i (by omega)
  ·exact λh=>⟨λi hi=>h i (by omega),h n (by omega)⟩
theorem je {β:Type} {f:Nat->Option β} {b:β}:∀ (n:Nat),gf f n=some b->∃ i,i<n/\f i=some b/\∀ j,j<i->f j=none
 | 0,h=>by simp [gf] at h
 | n+1,h=>by
  simp only [gf] at h
  cases hf:gf f n with
  | some c =>
   rw [hf] at h
   obtain ⟨i,h1,h2,h3⟩:=je n hf
   simp only [Option.some_or] at h
   exact ⟨i,by omega,by rw [h2,h],h3⟩
  | none =>
   rw [hf] at h
   simp only [Option.none_or] at h
   exact ⟨n,by omega,h,λj hj=>(jV n).1 hf j hj⟩
theorem z8 {S ρ:Type} {step:S->Option (S ⊕ ρ)} (E:Nat->S) (bad:Nat->Option ρ) (rest:Option ρ) (n:Nat)
  (h1:∀ i,i<n->bad i=none->step (E i)=some (.inl (E (i+1)))) (h2:∀ i r,i<n->bad i=some r->step (E i)=some (.inr r)) (h3:(∀ i,i<n->bad i=none)->step (E n)=rest.map .inr) :
  dB step (E 0)=match gf bad n with
   | some r=>some r
   | none=>rest:=by
 have walk:∀ k,k<=n->(∀ i,i<k->bad i=none)->dB step (E 0)=dB step (E k):=by
  intro k;induction k with
  | zero=>exact λ_ _=>rfl
  | succ k ih =>
   intro hk hb;rw [ih (by omega) λi hi=>hb i (by omega),kL (h1 k (by omega) (hb k (by omega)))]
 cases hf:gf bad n with
 | none =>
  have hb:=(jV n).1 hf;rw [walk n (cF _) hb,HB (h3 hb)]
 | some r =>
  obtain ⟨i,g1,g2,g3⟩:=je n hf;rw [walk i (by omega) g3,f5 (h2 i r g1 g2)]
theorem rx {S ρ:Type} {step:S->Option (S ⊕ ρ)} (E:Nat->S) (bad:Nat->Option ρ) (d:ρ) (n:Nat)
  (h1:∀ i,i<n->bad i=none->step (E i)=some (.inl (E (i+1)))) (h2:∀ i r,i<n->bad i=some r->step (E i)=some (.inr r)) (h3:(∀ i,i<n->bad i=none)->step (E n)=some (.inr d)) :
  dB step (E 0)=some ((gf bad n).getD d):=by
 rw [z8 E bad (some d) n h1 h2 (λh=>by rw [h3 h];rfl)];cases gf bad n<;>rfl
theorem iI {S ρ:Type} {step:S->Option (S ⊕ ρ)} (E:Nat->S) (rest:Option ρ) (n:Nat)
  (h1:∀ i,i<n->step (E i)=some (.inl (E (i+1)))) (h3:step (E n)=rest.map .inr):dB step (E 0)=rest:=by
 have:=z8 E (λ_=>none) rest n (λi hi _=>h1 i hi) (λi r _ h=>by cases h) (λ_=>h3);rw [this,(jV n).2 λ_ _=>rfl]
theorem dp {α:Type} [b_ α] {xs:List α} {i:Nat} (h:i<xs.length):ix xs (i:Int)=xs[i]:=by
 simp [ix,dA,h]
theorem Dz {α:Type} (xs:List α) (i:Nat):cut xs 0 (i:Int)=xs.take i:=by simp [cut]
theorem pT {α:Type} (xs:List α) (i:Nat):cut xs (i:Int) (xs.length:Int)=xs.drop i:=by
 simp only [cut,eU];rw [kI];simp
theorem Bw (m:List (Int×Int)) (a v k:Int):fX (iy m a v) k=if k=a then v else fX m k:=by
 induction m with
 | nil =>
  by_cases h:k=a
  ·subst h;simp [iy,fX]
  ·simp [iy,fX,h]
 | cons p r ih =>
  simp only [iy];cases ha:(a==p.1) with
  | true =>
   have:a=p.1:=by simpa using ha
   subst this;by_cases h:k=p.1
   ·subst h;simp [fX]
   ·simp [fX,h]
  | false =>
   have hap:a≠p.1:=by simpa using ha
   simp only [cj];by_cases h:k=p.1
   ·subst h;rw [if_neg (λe=>hap e.symm)];simp [fX]
   ·have e:∀ (m:List (Int×Int)),fX (p::m) k=fX m k:=λm=>by
     simp [fX,List.find?_cons,show (k==p.1)=false from by simpa using h]
    rw [e,e,ih]
def qx (m:List (Int×Int)) (l:List Int):List (Int×Int):=l.foldl (λm x=>iy m x 1) m
theorem tm (l:List Int):∀ (m:List (Int×Int)) (k:Int),fX (qx m l) k=if k∈l then 1 else fX m k:=by
 induction l with
 | nil=>intro m k;simp [qx]
 | cons a l ih =>
  intro m k;show fX (qx (iy m a 1) l) k=_;rw [ih,Bw];by_cases h1:k∈l
  ·simp [h1]
  ·by_cases h2:k=a
   ·subst h2;simp
   ·simp [h1,h2]
theorem EB (m:List (Int×Int)) (l:List Int) (i:Nat) (h:i<l.length):qx m (l.take (i+1))=iy (qx m (l.take i)) l[i] 1:=by
 rw [qx,jZ h,List.foldl_append];rfl
theorem Ie (k:Int):fX [] k=0:=rfl
end
section
variable {α:Type}
end
section
def tn {S ρ:Type} (o:Option ρ) (s:S):Option (S ⊕ ρ):=match o with
 | some r=>some (.inr r)
 | none=>some (.inl s)
@[simp] theorem EC {S ρ:Type} (r:ρ) (s:S):tn (some r) s=some (.inr r):=rfl
@[simp] theorem ED {S ρ:Type} (s:S):tn (none:Option ρ) s=some (.inl s):=rfl
theorem yb {S ρ:Type} {step:S->Option (S ⊕ ρ)} (E:Nat->S) (bad:Nat->Option ρ) (d:ρ) (n:Nat)
  (h1:∀ i,i<n->(∀ j,j<i->bad j=none)->step (E i)=tn (bad i) (E (i+1)))
  (h3:(∀ i,i<n->bad i=none)->step (E n)=some (.inr d)):dB step (E 0)=some ((gf bad n).getD d):=by
 have walk:∀ k,k<=n->(∀ i,i<k->bad i=none)->dB step (E 0)=dB step (E k):=by
  intro k;induction k with
  | zero=>exact λ_ _=>rfl
  | succ k ih =>
   intro hk hb;have:=h1 k (by omega) λi hi=>hb i (by omega)
   rw [hb k (by omega),ED] at this;rw [ih (by omega) λi hi=>hb i (by omega),kL this]
 cases hf:gf bad n with
 | none =>
  have hb:=(jV n).1 hf;rw [walk n (cF _) hb,f5 (h3 hb)];rfl
 | some r =>
  obtain ⟨i,g1,g2,g3⟩:=je n hf;have:=h1 i g1 g3;rw [g2,EC] at this;rw [walk i (by omega) g3,f5 this];rfl
end
end Go.Sx
end
section
namespace Go.Proofs.YthcdpjkgdcpkmaaGreatDoor
open Go Go.Sx
section
noncomputable section
def og (p:cz) (k x:Int):Bool:=(f_ p k x).getD false
theorem DA (p:cz) (k x:Int):f_ p k x=some (og p k x):=by
 unfold og f_ fi;(repeat' (rw [ff];split))<;>rfl
def uD:List Int:=[110,114,99,109,112,108,103,107,45]
theorem Fq (p:cz) (k x:Int) (hk:k∈uD):rP p k x=f_ p k x:=by
 simp only [uD,fg,List.not_mem_nil,or_false] at hk;rcases hk with rfl|rfl|rfl|rfl|rfl|rfl|rfl|rfl|rfl<;>rfl
def kd (op:Int) (j:Nat):Int:=(((ix f7 op).data.getD j 0).toNat:Int)
theorem Lk:∀ k:Nat,k<23->(ix ie ((k:Nat):Int)).args=ix f7 ((k:Nat):Int)/\(1<=k->(ix f7 ((k:Nat):Int)).size=2/\kd k 0∈uD/\kd k 1∈uD):=by decide
theorem If (op:Int) (h1:1<=op) (h2:op<=22):(ix ie op).args=ix f7 op/\(ix f7 op).size=2/\kd op 0∈uD/\kd op 1∈uD:=by
 obtain ⟨k,rfl⟩:∃ k:Nat,op=(k:Int):=⟨op.toNat,by omega⟩;obtain ⟨a,b⟩:=Lk k (by omega);obtain ⟨b1,b2,b3⟩:=b (by omega);exact ⟨a,b1,b2,b3⟩
def q8 (p:cz) (i:Int):Option cE :=
 if (ix p.Code i).Op<1\/22<(ix p.Code i).Op then some ⟨4,i⟩
 else if og p (kd (ix p.Code i).Op 0) (ix p.Code i).A=true/\og p (kd (ix p.Code i).Op 1) (ix p.Code i).B=true then none
 else some ⟨5,i⟩
theorem inr (p:cz) (i:Nat) (h:i<p.Code.length):((decide ((0:Int)<=(i:Int)))&&(decide ((i:Int)<(p.Code.length:Int))))=true:=by
 simp;omega
theorem GJ {n:Nat} (h:n<100000):i64.wrap ((n:Int)+1)=((n+1:Nat):Int):=by
 rw [fI (by omega) (by omega)];omega
theorem DB (p:cz) (hp:p.Code.length<=1000) (i:Nat) (h:i<p.Code.length):dY p (i:Int)=tn (q8 p i) (((i+1:Nat)):Int):=by
 unfold dY q8;have h0:decide ((i:Int)<(p.Code.length:Int))=true:=by simp;omega
 simp only [inr p i h,h0,cd];generalize hc:ix p.Code (i:Int)=c;by_cases hr:c.Op<1\/22<c.Op
 ·have:(decide (c.Op<1)||decide ((22:Int)<c.Op))=true:=by simpa using hr
  rw [this,if_pos hr];rfl
 ·have e0:(decide (c.Op<1)||decide ((22:Int)<c.Op))=false:=by simpa using hr
  have hr':1<=c.Op/\c.Op<=22:=by omega
  obtain ⟨t1,t2,t3,t4⟩:=If c.Op hr'.1 hr'.2;have e1:(decide ((0:Int)<=c.Op)&&decide (c.Op<(f7.length:Int)))=true:=by
   have:f7.length=23:=rfl;simp [this];omega
  rw [e0,if_neg hr];simp only [cj,e1,cd,t2];show (bif decide ((0:Int)<((2:Nat):Int)) then (f_ p (kd c.Op 0) c.A).bind _ else none)=_;rw [DA p (kd c.Op 0)];simp only [show decide ((0:Int)<((2:Nat):Int))=true from rfl,show decide ((1:Int)<((2:Nat):Int))=true from rfl,cd,cx];cases ha:og p (kd c.Op 0) c.A with
  | false=>simp [fB,gK,tn]
  | true =>
   simp only [jF,cj];show ((f_ p (kd c.Op 1) c.B).bind _)=_;rw [DA p (kd c.Op 1)];cases hb:og p (kd c.Op 1) c.B with
   | false=>simp [fB,gK,tn]
   | true=>simp [fB,tn];exact GJ (by omega)
theorem Jm (p:cz) (i:Nat) (h:i<p.Code.length):jf p (i:Int)=dY p (i:Int):=by
 unfold dY jf;have h0:decide ((i:Int)<(p.Code.length:Int))=true:=by simp;omega
 simp only [inr p i h,h0,cd];generalize hc:ix p.Code (i:Int)=c;have e9:(decide ((23:Int)<=c.Op))=(decide ((22:Int)<c.Op)):=decide_eq_decide.2 (by omega);rw [e9];by_cases hr:c.Op<1\/22<c.Op
 ·have:(decide (c.Op<1)||decide ((22:Int)<c.Op))=true:=by simpa using hr
  rw [this];rfl
 ·have e0:(decide (c.Op<1)||decide ((22:Int)<c.Op))=false:=by simpa using hr
  have hr':1<=c.Op/\c.Op<=22:=by omega
  obtain ⟨t1,t2,t3,t4⟩:=If c.Op hr'.1 hr'.2;have e1:(decide ((0:Int)<=c.Op)&&decide (c.Op<(f7.length:Int)))=true:=by
   have:f7.length=23:=rfl;simp [this];omega
  have e2:(decide ((0:Int)<=c.Op)&&decide (c.Op<(ie.length:Int)))=true:=by
   have:ie.length=23:=rfl;simp [this];omega
  rw [e0];simp only [cj,e1,e2,cd,t1,t2];have f1:=Fq p (kd c.Op 0) c.A t3;have f2:=Fq p (kd c.Op 1) c.B t4;unfold kd at f1 f2;simp only [show ((0:Int)).toNat=0 from rfl,show ((1:Int)).toNat=1 from rfl,f1,f2];rfl
def qy (p:cz) (i:Nat):Option cE:=if ix p.Pipes (i:Int)<0\/100<ix p.Pipes (i:Int) then some ⟨8,i⟩ else none
def lA (p:cz):cE :=
 if 1000<p.Code.length\/20<p.Pipes.length then ⟨2,0⟩
 else if p.Cells<0\/20<p.Cells\/p.Locks<0\/20<p.Locks\/p.Groups<0\/20<p.Groups then ⟨3,0⟩
 else (gf (qy p) p.Pipes.length).getD ((gf (λi=>q8 p ((i:Nat):Int)) p.Code.length).getD ⟨0,0⟩)
theorem Ll (p:cz):dY p (p.Code.length:Int)=some (.inr ⟨0,0⟩):=by
 unfold dY;simp
theorem Lm (p:cz):jf p (p.Code.length:Int)=some (.inr ⟨0,0⟩):=by
 unfold jf;simp
theorem Jn (p:cz) (hp:p.Code.length<=1000):dB (dY p) 0=some ((gf (λi=>q8 p ((i:Nat):Int)) p.Code.length).getD ⟨0,0⟩) :=
 yb (step:=dY p) (λi=>((i:Nat):Int)) (λi=>q8 p ((i:Nat):Int)) ⟨0,0⟩ p.Code.length (λi hi _=>DB p hp i hi) (λ_=>Ll p)
theorem Jo (p:cz) (hp:p.Code.length<=1000):dB (jf p) 0=some ((gf (λi=>q8 p ((i:Nat):Int)) p.Code.length).getD ⟨0,0⟩) :=
 yb (step:=jf p) (λi=>((i:Nat):Int)) (λi=>q8 p ((i:Nat):Int)) ⟨0,0⟩ p.Code.length (λi hi _=>(Jm p i hi).trans (DB p hp i hi)) (λ_=>Lm p)
theorem MO (p:cz):iF p=some (lA p):=by
 unfold iF lA;by_cases h1:1000<p.Code.length\/20<p.Pipes.length
 ·have:(decide ((1000:Int)<(p.Code.length:Int))||decide ((20:Int)<(p.Pipes.length:Int)))=true:=by simp;omega
  rw [this,if_pos h1];rfl
 ·have:(decide ((1000:Int)<(p.Code.length:Int))||decide ((20:Int)<(p.Pipes.length:Int)))=false:=by simp;omega
  rw [this,if_neg h1,cj];by_cases h2:p.Cells<0\/20<p.Cells\/p.Locks<0\/20<p.Locks\/p.Groups<0\/20<p.Groups
  ·rw [if_pos h2];have:((decide (p.Cells<0))||((decide ((20:Int)<p.Cells))||((decide (p.Locks<0))||((decide ((20:Int)<p.Locks))||((decide (p.Groups<0))||(decide ((20:Int)<p.Groups)))))))=true:=by simpa using h2
   rw [this];rfl
  ·rw [if_neg h2];have:((decide (p.Cells<0))||((decide ((20:Int)<p.Cells))||((decide (p.Locks<0))||((decide ((20:Int)<p.Locks))||((decide (p.Groups<0))||(decide ((20:Int)<p.Groups)))))))=false:=by simpa using h2
   rw [this,cj];refine rx (step:=f9 p) (λi=>((i:Nat):Int)) (qy p) _ p.Pipes.length (λi hi hb=>?_) (λi r hi hb=>?_) (λ_=>?_)
   ·unfold f9;unfold qy at hb;split at hb
    ·cases hb
    ·rename_i h;have h0:decide ((i:Int)<(p.Pipes.length:Int))=true:=by simp;omega
     simp only [show decide ((0:Int)<=(i:Int))=true from by simp,h0,dc,Bool.or_true,cd];have:(decide (ix p.Pipes (i:Int)<0)||decide ((100:Int)<ix p.Pipes (i:Int)))=false:=by simpa using h
     rw [this,cj,GJ (by omega)]
   ·unfold f9;unfold qy at hb;split at hb
    ·rename_i h;cases hb;have h0:decide ((i:Int)<(p.Pipes.length:Int))=true:=by simp;omega
     simp only [show decide ((0:Int)<=(i:Int))=true from by simp,h0,dc,Bool.or_true,cd];have:(decide (ix p.Pipes (i:Int)<0)||decide ((100:Int)<ix p.Pipes (i:Int)))=true:=by simpa using h
     rw [this,cd];rfl
    ·cases hb
   ·unfold f9;have h0:decide ((p.Pipes.length:Int)<(p.Pipes.length:Int))=false:=by simp
    rw [h0,cj];show Option.map Sum.inr (dB (dY p) 0)=_;rw [Jn p (by omega)];rfl
theorem MP (p:cz):qo p=some (lA p):=by
 unfold qo lA;by_cases h1:1000<p.Code.length\/20<p.Pipes.length
 ·have:(decide ((1000:Int)<(p.Code.length:Int))||decide ((20:Int)<(p.Pipes.length:Int)))=true:=by simp;omega
  rw [this,if_pos h1];rfl
 ·have:(decide ((1000:Int)<(p.Code.length:Int))||decide ((20:Int)<(p.Pipes.length:Int)))=false:=by simp;omega
  rw [this,if_neg h1,cj];by_cases h2:p.Cells<0\/20<p.Cells\/p.Locks<0\/20<p.Locks\/p.Groups<0\/20<p.Groups
  ·rw [if_pos h2];have:((decide ((min (min p.Cells p.Locks) p.Groups)<0))||(decide ((20:Int)<(max (max p.Cells p.Locks) p.Groups))))=true:=by
    rw [kZ,iU,iU];omega
   rw [this];rfl
  ·rw [if_neg h2];have:((decide ((min (min p.Cells p.Locks) p.Groups)<0))||(decide ((20:Int)<(max (max p.Cells p.Locks) p.Groups))))=false:=by
    rw [Bool.or_eq_false_iff,uP,uP];omega
   rw [this,cj];refine rx (step:=mf p) (λi=>((i:Nat):Int)) (qy p) _ p.Pipes.length (λi hi hb=>?_) (λi r hi hb=>?_) (λ_=>?_)
   ·unfold mf;unfold qy at hb;split at hb
    ·cases hb
    ·rename_i h;have h0:decide ((i:Int)<(p.Pipes.length:Int))=true:=by simp;omega
     simp only [show decide ((0:Int)<=(i:Int))=true from by simp,h0,dc,cd];have:(decide (ix p.Pipes (i:Int)<0)||decide ((100:Int)<ix p.Pipes (i:Int)))=false:=by simpa using h
     rw [this,cj,GJ (by omega)]
   ·unfold mf;unfold qy at hb;split at hb
    ·rename_i h;cases hb;have h0:decide ((i:Int)<(p.Pipes.length:Int))=true:=by simp;omega
     simp only [show decide ((0:Int)<=(i:Int))=true from by simp,h0,dc,cd];have:(decide (ix p.Pipes (i:Int)<0)||decide ((100:Int)<ix p.Pipes (i:Int)))=true:=by simpa using h
     rw [this,cd];rfl
    ·cases hb
   ·unfold mf;have h0:decide ((p.Pipes.length:Int)<(p.Pipes.length:Int))=false:=by simp
    rw [h0,cj];show Option.map Sum.inr (dB (jf p) 0)=_;rw [Jo p (by omega)];rfl
structure Ok (p:cz):Prop where
 len:p.Code.length<=1000
 ins:∀ i:Int,0<=i->i<(p.Code.length:Int)->q8 p i=none
theorem NX {p:cz} (h:(lA p).Code=0):Ok p:=by
 unfold lA at h;split at h
 ·simp at h
 ·rename_i h1;split at h
  ·simp at h
  ·cases hf0:gf (qy p) p.Pipes.length with
   | some f =>
    rw [hf0] at h;obtain ⟨i,hi,hb,_⟩:=je _ hf0;unfold qy at hb;split at hb
    ·cases hb;simp at h
    ·cases hb
   | none =>
    rw [hf0] at h;simp only [Option.getD_none] at h;refine ⟨by omega,λi h2 h3=>?_⟩;cases hf:gf (λi=>q8 p ((i:Nat):Int)) p.Code.length with
    | none =>
     have:=(jV _).1 hf i.toNat (by omega);rwa [show (i.toNat:Int)=i by omega] at this
    | some f =>
     rw [hf] at h;obtain ⟨j,hj,hb,_⟩:=je _ hf;simp only [gY] at h;unfold q8 at hb;split at hb
     ·cases hb;simp at h
     ·split at hb
      ·cases hb
      ·cases hb;simp at h
theorem GK {p:cz} (h:(lA p).Code=0):lA p=⟨0,0⟩:=by
 unfold lA at h ⊢;split
 ·rename_i h1;rw [if_pos h1] at h;simp at h
 ·rename_i h1;rw [if_neg h1] at h;split
  ·rename_i h2;rw [if_pos h2] at h;simp at h
  ·rename_i h2;rw [if_neg h2] at h;cases hf0:gf (qy p) p.Pipes.length with
   | some f =>
    rw [hf0] at h;obtain ⟨i,hi,hb,_⟩:=je _ hf0;unfold qy at hb;split at hb
    ·cases hb;simp at h
    ·cases hb
   | none =>
    rw [hf0] at h;simp only [Option.getD_none] at h ⊢;cases hf:gf (λi=>q8 p ((i:Nat):Int)) p.Code.length with
    | none=>rfl
    | some f =>
     rw [hf] at h;obtain ⟨j,hj,hb,_⟩:=je _ hf;simp only [gY] at h;unfold q8 at hb;split at hb
     ·cases hb;simp at h
     ·split at hb
      ·cases hb
      ·cases hb;simp at h
structure DC (p:cz) (c:df):Prop where
 op:1<=c.Op/\c.Op<=22
 a:og p (kd c.Op 0) c.A=true
 b:og p (kd c.Op 1) c.B=true
theorem Ok.at {p:cz} (h:Ok p) {i:Int} (h0:0<=i) (h1:i<(p.Code.length:Int)):DC p (ix p.Code i):=by
 have:=h.ins i h0 h1;unfold q8 at this;split at this
 ·cases this
 ·split at this
  ·rename_i h2 h3;exact ⟨by omega,h3.1,h3.2⟩
  ·cases this
theorem GL {p:cz} {x:Int} (h:og p 114 x=true):0<=x/\x<8:=by
 have e:og p 114 x=(decide (0<=x)&&decide (x<8)):=rfl;rw [e] at h;simpa using h
theorem GM {p:cz} {x:Int} (h:og p 99 x=true):0<=x/\x<(p.Code.length:Int):=by
 have e:og p 99 x=(decide (0<=x)&&decide (x<(p.Code.length:Int))):=rfl;rw [e] at h;simpa using h
end
end
section
set_option maxRecDepth 100000
structure dE (l:List Int):Prop where
 nd:l.Nodup
 rg:∀ x∈l,1<=x/\x<=64
theorem Ig:∀ (n:Nat) (l:List Int),l.Nodup->(∀ x∈l,1<=x/\x<=(n:Int))->l.length<=n:=by
 intro n;induction n with
 | zero =>
  intro l _ h;cases l with
  | nil=>exact cF _
  | cons a l=>have:=h a (.head _);omega
 | succ n ih =>
  intro l hl h;have h2:=ih (l.erase ((n:Int)+1)) (hl.erase _) λx hx=>by
   have h3:=(hl.mem_erase_iff).1 hx;have:=h x h3.2;have:=h3.1;omega
  by_cases hm:((n:Int)+1)∈l
  ·rw [List.length_erase_of_mem hm] at h2;omega
  ·rw [List.erase_of_not_mem hm] at h2;omega
theorem dE.len {l:List Int} (h:dE l):l.length<=64:=Ig 64 l h.nd h.rg
theorem dE.perm {l l':List Int} (h:dE l) (p:l'.Perm l):dE l':=⟨p.nodup_iff.2 h.nd,λx hx=>h.rg x (p.mem_iff.1 hx)⟩
theorem dE.sub {l l':List Int} (h:dE l) (p:l'.Sublist l):dE l':=⟨h.nd.sublist p,λx hx=>h.rg x (p.subset hx)⟩
theorem dE.left {a b:List Int} (h:dE (a++b)):dE a:=h.sub (tw ..)
theorem dE.right {a b:List Int} (h:dE (a++b)):dE b:=h.sub (v7 ..)
theorem dE.dis {a b:List Int} (h:dE (a++b)) {x:Int} (hx:x∈a):x∉b:=λhb=>(rC.1 h.nd).2.2 x hx x hb rfl
theorem vu {α:Type} {l:List α} (h:l.Nodup) {i:Nat} (hi:i<l.length):l[i]∉l.take i:=λhm=>by
 obtain ⟨j,hj,he⟩:=List.mem_take_iff_getElem.1 hm
 exact (v8.1 h) j i (by omega) hi (by omega) he
theorem AJ {ρ:Type} {step:Int×List (Int×Int)->Option ((Int×List (Int×Int)) ⊕ ρ)} (xs:List Int) (m0:List (Int×Int)) (rest:Option ρ)
  (hs:∀ i (h:i<xs.length) m,fX m xs[i]=0->step (((i:Nat):Int),m)=some (.inl (((i+1:Nat):Int),iy m xs[i] 1))) (he:step ((xs.length:Int),qx m0 xs)=rest.map .inr)
  (hn:xs.Nodup) (h0:∀ x∈xs,fX m0 x=0):dB step (0,m0)=rest:=by
 refine iI (step:=step) (λi=>(((i:Nat):Int),qx m0 (xs.take i))) rest xs.length (λi hi=>?_) (by rw [ov];exact he);rw [EB m0 xs i hi];exact hs i hi _ (by rw [tm,if_neg (vu hn hi)];exact h0 _ (eL hi))
theorem gC {k:Nat} (h:k<100000):i64.wrap ((k:Int)+1)=((k+1:Nat):Int):=by
 rw [fI (by omega) (by omega)];omega
theorem j7 {n i:Nat} (h:i<n):decide ((i:Int)<(n:Int))=true:=by simpa using h
theorem j8 (i:Nat):decide ((0:Int)<=(i:Int))=true:=by simp
theorem lY (n:Nat):decide ((n:Int)<(n:Int))=false:=by simp
theorem oL (s:List Int) (h:s.length<=100000):fh s=some s:=by
 unfold fh;rw [cG (by simp;omega)];rfl
def nz (x:Int):List Int:=if 0<x then [x] else []
def rl (q:fA):List Int:=nz q.Next++q.List
structure RV (q:fA):Prop where
 nx:0<=q.Next
 ids:dE (rl q)
theorem RV.lids {q:fA} (h:RV q):dE q.List:=h.ids.right
theorem qz {x:Int} (h:0<x):nz x=[x]:=if_pos h
theorem vv {q:fA} (h:RV q):kB q=some ⟨0,0⟩:=by
 have hl:=h.lids.len;have hp:=h.nx;have key:∀ m0,(∀ x∈q.List,fX m0 x=0)->nN q m0=some ⟨0,0⟩:=λm0 h0=>by
  refine AJ q.List m0 _ (λi hi m hm=>?_) (by unfold mg;simp only [lY,cj]) h.lids.nd h0;unfold mg;have:=h.lids.rg _ (eL hi);simp only [j7 hi,j8,dc,cd,dp hi,hm];rw [cP (show ¬ q.List[i]<1 by omega),gC (by omega)];rfl
 unfold kB;rw [cP (by omega),cP (show ¬ q.Next<0 by omega)];simp only [cj];by_cases h0:0<q.Next
 ·rw [cG h0,cd];refine key _ λx hx=>?_
  rw [Bw,if_neg,Ie];rintro rfl;exact h.ids.dis (by rw [qz h0];exact .head _) hx
 ·rw [cP h0,cj];exact key _ λx hx=>rfl
theorem uE {q:fA} (h:RV q):mM q=some (rl q):=by
 have hl:=h.lids.len;unfold mM rl nz;by_cases h0:0<q.Next
 ·rw [cG h0,cd,cG (by simp;omega),cd,if_pos h0]
 ·rw [cP h0,cj,oL _ (by omega),if_neg h0];rfl
theorem oM {q:fA} (h:RV q):kC q=some q.List:=by
 have hl:=h.lids.len;unfold kC;rw [oL _ (by omega)];rfl
theorem Ln {q:fA} (h:RV q):(rl q=[]/\i4 q=some (0,0,⟨6,0⟩,[]))\/∃ N t L,i4 q=some (N,t,⟨0,0⟩,L)/\rl q=t::rl ⟨N,L⟩/\0<=N:=by
 have hl:=h.lids.len;unfold i4;rw [vv h];simp only [cx,oM h,show ((⟨0,0⟩:cE).Code != 0)=false from rfl,cj];by_cases h0:0<q.Next
 ·refine .inr ⟨0,q.Next,q.List,by rw [cG h0];rfl,?_,iW _⟩;show nz q.Next++q.List=q.Next::([]++q.List);rw [qz h0];rfl
 ·rw [cP h0,cj];have hn:nz q.Next=[]:=if_neg h0;cases hq:q.List with
  | nil=>exact .inl ⟨by unfold rl;rw [hn,hq];rfl,rfl⟩
  | cons x r =>
   refine .inr ⟨q.Next,x,r,?_,by unfold rl;rw [hn,hq];rfl,h.nx⟩;have hr:r.length<=64:=by rw [hq] at hl;simp at hl;omega
   have hcut:cut (x::r) (1:Int) (((x::r).length:Nat):Int)=r:=by
    have:=pT (x::r) 1;simpa using this
   rw [show ((((x::r).length:Nat):Int)==0)=false from by simp<;>omega,cG (by simp<;>omega),cG (by simp<;>omega),hcut,oL _ (by omega)];rfl
theorem DD {l:List Int} (h:l.length<=100000) (v:Int):ig l v=some (decide (v∈l)):=by
 have e:=rx (step:=i6 l v) (λi=>((i:Nat):Int)) (λi=>if l[i]? = some v then some ((i:Nat):Int) else none) (-1) l.length (λi hi hb=>?_) (λi r hi hb=>?_) (λ_=>?_)
 ·unfold ig nE;rw [show (0:Int)=((0:Nat):Int) from rfl,e,cx];congr 1;cases hf:gf (λi=>if l[i]? = some v then some ((i:Nat):Int) else none) l.length with
  | none =>
   have h2:=(jV _).1 hf;rw [cP (show ¬ v∈l from λhv=>by
    obtain ⟨i,hi,rfl⟩:=List.mem_iff_getElem.1 hv;have:=h2 i hi;simp [hi] at this)]
   rfl
  | some r =>
   obtain ⟨i,hi,h2,_⟩:=je _ hf;simp only [dz hi,fP] at h2;split at h2
   ·rename_i hv;cases h2;rw [cG (show v∈l from hv▸eL hi)];simp
   ·cases h2
 ·unfold i6;simp only [j7 hi,j8,dc,cd,dp hi,dz hi,fP] at hb ⊢;have:l[i]≠v:=by intro e;rw [if_pos e] at hb;cases hb
  rw [show (v==l[i])=false from by simpa using λe=>this e.symm,gC (by omega)];rfl
 ·unfold i6;simp only [j7 hi,j8,dc,cd,dp hi,dz hi,fP] at hb ⊢;split at hb
  ·rename_i e;cases hb;rw [show (v==l[i])=true from by simpa using e.symm];rfl
  ·cases hb
 ·unfold i6;rw [lY];rfl
theorem MQ {q:fA} (h:RV q) {t:Int} (ht:1<=t) (hn:t∉rl q):qX q t true=some (t,⟨0,0⟩,q.List++nz q.Next,[]):=by
 have hl:=h.lids.len;have hr:=h.ids.len;have hx:=h.nx;unfold qX;rw [vv h];simp only [cx,oM h,show ((⟨0,0⟩:cE).Code != 0)=false from rfl,cj,uE h,DD (show (rl q).length<=100000 by omega),cd];rw [cP (show ¬ t<1 by omega),cP hn];simp only [cj];by_cases h0:q.Next=0
 ·rw [h0];show some _=_;unfold nz;rw [if_neg (by decide),jY]
 ·rw [show (q.Next==0)=false from by simpa using h0,cj,qz (by omega)];unfold pt rr;rw [cG (by omega),cd,cG (by simp;omega)];rfl
theorem xG {a b:List Int} (h:dE (a++b)):mh a b=some (-1):=by
 have ha:=h.left.len;have hb:=h.right.len;unfold mh;refine AJ a [] _ (λi hi m hm=>?_) ?_ h.left.nd λx _=>rfl
 ·unfold nC;simp only [j7 hi,j8,dc,cd,dp hi];rw [gC (by omega)]
 ·unfold nC;simp only [lY,cj];congr 1;refine AJ b _ _ (λi hi m hm=>?_) (by unfold nB;simp only [lY,cj]) h.right.nd λx hx=>?_
  ·unfold nB;simp only [j7 hi,j8,dc,cd,dp hi,hm];rw [gC (by omega)];rfl
  ·rw [tm,if_neg λhm=>h.dis hm hx];rfl
theorem Ih {q:fA} {g:List Int} (h:RV q) (hg:dE (rl q++g)) {N:Nat} (hN:1<=N/\N<=16):∃ n:Nat,n<=g.length/\jg q (N:Int) g=some (q.Next,⟨0,0⟩,q.List++g.take n,g.drop n):=by
 have hl:=h.lids.len;have hgl:=hg.right.len;obtain ⟨n,hn,hle⟩:∃ n:Nat,(min (min (min (i64.wrap ((i64.wrap (Int.tdiv (g.length:Int) (N:Int)))+1)) (g.length:Int)) 128) (i64.wrap ((256:Int)-(q.List.length:Int))))=((n:Nat):Int)/\n<=g.length:=by
  have hd:Int.tdiv (g.length:Int) (N:Int)=((g.length/N:Nat):Int):=rfl;have hd2:g.length/N<=g.length:=Nat.div_le_self _ _;rw [hd];generalize g.length/N=d at hd2;rw [fI (x:=(d:Int)) (by omega) (by omega),fI (by omega) (by omega),fI (by omega) (by omega)];exact ⟨min (min (min (d+1) g.length) 128) (256-q.List.length),by omega,by omega⟩
 refine ⟨n,hle,?_⟩;unfold jg;rw [vv h];simp only [cx,show ((⟨0,0⟩:cE).Code != 0)=false from rfl,cj];rw [cP (by omega),cj];refine iI (step:=ko q (N:Int) g) (λi=>((i:Nat):Int)) _ g.length (λi hi=>?_) ?_
 ·unfold ko;have:=hg.right.rg _ (eL hi);simp only [j7 hi,j8,dc,cd,dp hi];rw [cP (by omega),gC (by omega)];rfl
 ·unfold ko;simp only [lY,cj,uE h,cx,xG hg,oM h,hn];rw [cP (show ¬ (0:Int)<=-1 by decide),cP (show ¬ (N:Int)<1 by omega),cP (show ¬ (64:Int)<(N:Int) by omega),show ((N:Int) != 0)=true from by simp;omega,j8,
   cG (show (n:Int)<=(g.length:Int) by omega),Dz,pT,oL _ (by rw [jz];omega),cG (by simp;omega)]
  rfl
theorem Jp {v c:fA} (hv:RV v) (hc:RV c) (hd:dE (rl v++rl c)):∃ N1 N2 n L1 L2,nD v c true=some (N1,N2,n,⟨0,0⟩,L1,L2)/\(rl ⟨N1,L1⟩++rl ⟨N2,L2⟩).Perm (rl v++rl c)/\0<=N1/\0<=N2:=by
 have h1:=hv.lids.len;have h2:=hc.lids.len;have st:∀ i:Nat,i<2->jh v c true ((i:Nat):Int)=some (.inl (((i+1:Nat):Int))):=λi hi=>by
  have hx:RV (ix [v,c] (i:Int)):=by
   have:i=0\/i=1:=by omega
   rcases this with rfl|rfl
   ·exact hv
   ·exact hc
  unfold jh;rw [cG (show (i:Int)<((([v,c]:List fA).length:Nat):Int) by simp;omega),j8,vv hx,gC (by omega)];rfl
 have fin:∀ x,jh v c true 2=Option.map Sum.inr x->nD v c true=x:=λx hx=>by
  unfold nD;exact iI (step:=jh v c true) (λi=>((i:Nat):Int)) x 2 st hx
 have D:decide ((2:Int)<((([v,c]:List fA).length:Nat):Int))=false:=rfl;have D2:decide ((0:Int)<=-1)=false:=rfl;cases hq:v.List with
 | nil =>
  have e:jh v c true 2=Option.map Sum.inr (if 0<v.Next then some (0,c.Next,1,⟨0,0⟩,[],c.List++[v.Next]) else some (v.Next,c.Next,0,⟨0,0⟩,[],c.List)):=by
   unfold jh;simp only [D,cj,uE hv,uE hc,cx,xG hd,oM hv,oM hc,D2,hq];congr 1;rw [show ((((([]:List Int)).length:Nat):Int)==0)=true from rfl,cd,fI (by omega) (by omega),show (((256:Int)-(c.List.length:Int))==0)=false from by simp;omega];by_cases h0:0<v.Next
   ·rw [if_pos h0,show (v.Next==0)=false from by simp;omega,cG (by simp;omega)];rfl
   ·rw [if_neg h0,show (v.Next==0)=true from by have:=hv.nx;simp;omega];rfl
  by_cases h0:0<v.Next
  ·refine ⟨_,_,_,_,_,fin _ (e.trans (by rw [if_pos h0])),?_,iW _,hc.nx⟩;unfold rl;rw [qz h0,hq];show (nz c.Next++(c.List++[v.Next])).Perm (v.Next::(nz c.Next++c.List));rw [←fJ];exact v_ _ _
  ·refine ⟨_,_,_,_,_,fin _ (e.trans (by rw [if_neg h0])),?_,hv.nx,hc.nx⟩;unfold rl;rw [hq]
 | cons x r =>
  rw [hq] at h1;obtain ⟨n,hn,hle⟩:∃ n:Nat,(min (i64.wrap ((((x::r).length:Nat):Int)-(i64.wrap (Int.tdiv (((x::r).length:Nat):Int) 2)))) (i64.wrap ((256:Int)-(c.List.length:Int))))=((n:Nat):Int)/\n<=(x::r).length:=by
   have hd:Int.tdiv (((x::r).length:Nat):Int) 2=(((x::r).length/2:Nat):Int):=rfl;have hd2:(x::r).length/2<=(x::r).length:=Nat.div_le_self _ _;rw [hd];generalize (x::r).length/2=d at hd2;rw [fI (x:=(d:Int)) (by omega) (by omega),fI (by omega) (by omega),fI (by omega) (by omega)];exact ⟨min ((x::r).length-d) (256-c.List.length),by omega,by omega⟩
  refine ⟨v.Next,c.Next,n,(x::r).drop n,c.List++(x::r).take n,fin _ ?_,?_,hv.nx,hc.nx⟩
  ·unfold jh;simp only [D,cj,uE hv,uE hc,cx,xG hd,oM hv,oM hc,D2,hq,hn];rw [show ((((x::r).length:Nat):Int)==0)=false from by simp;omega,j8,cG (show (n:Int)<=(((x::r).length:Nat):Int) by omega),Dz,pT,oL _ (by rw [jz];omega),cG (show (c.List++List.take n (x::r)).length*8<=140737488355328 by rw [dW,gL];omega)];rfl
  ·unfold rl;rw [hq];simp only [fJ];refine List.Perm.append_left _ ?_;have p1:((x::r).drop n++(nz c.Next++(c.List++(x::r).take n))).Perm ((x::r).take n++((x::r).drop n++(nz c.Next++c.List))):=by
    rw [←fJ (nz c.Next),←fJ];exact List.perm_append_comm
   have e:(x::r).take n++((x::r).drop n++(nz c.Next++c.List))=(x::r)++(nz c.Next++c.List):=by rw [←fJ,List.take_append_drop]
   rw [e] at p1;exact p1
end
section
set_option maxRecDepth 100000
def rg (p:bV):fA:=⟨p.Ring_Next,p.Ring_List⟩
def pl (p:bV):List Int:=nz p.now++rl (rg p)
def al (pr:List bV) (gl:List Int):List Int:=pr.flatMap pl++gl
structure MV (pr:List bV) (gl:List Int):Prop where
 ids:dE (al pr gl)
 nn:∀ p∈pr,0<=p.now/\0<=p.Ring_Next
 ln:1<=pr.length/\pr.length<=16
theorem q9 (x:Int) (y:bV):∀ (pr:List bV) (i:Nat) (h:i<pr.length),((pr.set i y).flatMap pl).count x+(pl pr[i]).count x=(pr.flatMap pl).count x+(pl y).count x
 | a::pr,0,h=>by simp only [List.set_cons_zero,pM,nf,List.getElem_cons_zero];omega
 | a::pr,i+1,h=>by
  have:=q9 x y pr i (by simpa using h)
  simp only [List.set_cons_succ,pM,nf,List.getElem_cons_succ]
  omega
theorem MV.of {pr pr':List bV} {gl gl':List Int} (h:MV pr gl) (hp:(al pr' gl').Perm (al pr gl)) (hn:∀ p∈pr',0<=p.now/\0<=p.Ring_Next) (hl:pr'.length=pr.length):MV pr' gl' :=
 ⟨h.ids.perm hp,hn,by rw [hl];exact h.ln⟩
theorem uF {pr:List bV} (h:∀ p∈pr,0<=p.now/\0<=p.Ring_Next) {i:Nat} {y:bV} (hy:0<=y.now/\0<=y.Ring_Next):∀ p∈pr.set i y,0<=p.now/\0<=p.Ring_Next:=λp hp=>by
 rcases List.mem_or_eq_of_mem_set hp with h1|h1
 ·exact h p h1
 ·rw [h1];exact hy
variable {pr:List bV} {gl:List Int}
theorem Ii {q:bV} (h:q∈pr):(pl q).Sublist (pr.flatMap pl):=by
 obtain ⟨a,b,rfl⟩:=List.append_of_mem h;simp only [uK,pM];exact (tw _ _).trans (v7 _ _)
theorem z_ {i:Nat} (h:i<pr.length):(pl pr[i]).Sublist (al pr gl):=(Ii (eL h)).trans (tw _ _)
theorem MV.rv (h:MV pr gl) {i:Nat} (hi:i<pr.length):RV (rg pr[i]):=⟨(h.nn _ (eL hi)).2,(h.ids.sub (z_ hi)).right⟩
theorem MV.two (h:MV pr gl) {i j:Nat} (hi:i<pr.length) (hj:j<pr.length) (ne:i≠j):dE (rl (rg pr[i])++rl (rg pr[j])):=by
 have hp:=(List.pairwise_flatMap.1 (rC.1 h.ids.nd).1).2;have hd:∀ x∈pl pr[i],∀ y∈pl pr[j],x≠y:=by
  rcases Nat.lt_or_ge i j with hlt|hge
  ·exact v8.1 hp i j hi hj hlt
  ·exact λx hx y hy e=>v8.1 hp j i hj hi (by omega) y hy x hx e.symm
 refine ⟨rC.2 ⟨(h.rv hi).ids.nd,(h.rv hj).ids.nd,λx hx y hy=>hd x (jE _ hx) y (jE _ hy)⟩,λx hx=>?_⟩;rcases gy.1 hx with hx|hx
 ·exact (h.rv hi).ids.rg x hx
 ·exact (h.rv hj).ids.rg x hx
theorem MV.glob (h:MV pr gl) {i:Nat} (hi:i<pr.length):dE (rl (rg pr[i])++gl):=by
 exact h.ids.sub (((v7 _ _).trans (Ii (eL hi))).append (List.Sublist.refl _))
theorem eW {n p:Nat} (h:p<n):decide (0<=(p:Int)/\(p:Int)<(n:Int))=true:=cG ⟨by omega,by omega⟩
theorem DF {α:Type} [b_ α] (l:List α) {p:Nat} (h:p<l.length) (x:α):ix (l.set p x) (p:Int)=x:=by
 rw [dp (by simpa using h)];simp
theorem DG (h:MV pr gl) {p:Nat} (hp:p<pr.length) (h0:pr[p].now=0):∃ b pr',dV (p:Int) pr=some (b,pr')/\MV pr' gl/\(al pr' gl).Perm (al pr gl)/\pr'.length=pr.length /\
  ((b=false/\pr'=pr)\/(b=true/\∃ t,0<t/\∃ hp':p<pr'.length,pr'[p].now=t)):=by
 unfold dV;rw [eW hp,cd,dp hp];rcases Ln (h.rv hp) with ⟨_,e⟩|⟨N,t,L,e,hl,hN⟩
 ·rw [show i4 ⟨pr[p].Ring_Next,pr[p].Ring_List⟩=_ from e];refine ⟨false,pr,?_,h,.refl _,rfl,.inl ⟨rfl,rfl⟩⟩;show fN (p:Int) ⟨6,0⟩ pr=_;unfold fN;rw [eW hp];rfl
 ·rw [show i4 ⟨pr[p].Ring_Next,pr[p].Ring_List⟩=_ from e];have ht:0<t:=((h.rv hp).ids.rg t (by rw [hl];exact .head _)).1;have hc:(al (pr.set p ⟨t,N,L⟩) gl).Perm (al pr gl):=by
   refine pW.2 λx=>?_
   have:=q9 x ⟨t,N,L⟩ pr p hp;have e1:pl (⟨t,N,L⟩:bV)=pl pr[p]:=by
    unfold pl;rw [h0,hl,qz ht];rfl
   rw [e1] at this;unfold al;simp only [nf];omega
  refine ⟨true,pr.set p ⟨t,N,L⟩,?_,h.of hc (uF h.nn ⟨by show 0<=t;omega,hN⟩) (cr ..),hc,cr ..,.inr ⟨rfl,t,ht,by simpa using hp,by simp⟩⟩;simp only [cx,show ((⟨0,0⟩:cE).Code==0)=true from rfl,cd,eU,DF _ hp,List.set_set];unfold fN;rw [eW (by simpa using hp)];rfl
theorem MR (h:MV pr gl) {p:Nat} (hp:p<pr.length) (h0:pr[p].now=0):∃ b gl' pr',gp (p:Int) pr gl=some (b,gl',pr')/\MV pr' gl'/\(al pr' gl').Perm (al pr gl)/\pr'.length=pr.length /\
  (b=true->∃ hp':p<pr'.length,0<pr'[p].now):=by
 have hN:=h.ln;unfold gp;obtain ⟨b,pr1,e,h1,hc1,hl1,hb⟩:=DG h hp h0;rw [j8,show decide ((p:Int)<(pr.length:Int))=true from j7 hp,dc,cd,e];simp only [cx,hl1,decide_true,eW hp,cd];rcases hb with ⟨rfl,rfl⟩|⟨rfl,t,ht,hp',hx⟩
 ·rw [cj];by_cases hg:0<gl.length
  ·rw [cG (by omega),cd,dp hp];obtain ⟨n,hn,e2⟩:=Ih (h.rv hp) (h.glob hp) hN;rw [show jg ⟨pr1[p].Ring_Next,pr1[p].Ring_List⟩ _ _=_ from e2];have hc2:(al (pr1.set p ⟨pr1[p].now,pr1[p].Ring_Next,pr1[p].Ring_List++gl.take n⟩) (gl.drop n)).Perm (al pr1 gl):=by
    refine pW.2 λx=>?_
    have:=q9 x ⟨pr1[p].now,pr1[p].Ring_Next,pr1[p].Ring_List++gl.take n⟩ pr1 p hp;have e3:gl.count x=(gl.take n).count x+(gl.drop n).count x:=by rw [←nf,List.take_append_drop]
    unfold al;simp only [pl,rl,rg,nf] at this ⊢;omega
   have h2:=h.of hc2 (uF h.nn (show 0<=pr1[p].now/\0<=pr1[p].Ring_Next from h.nn _ (eL hp))) (cr ..);have hp2:p<(pr1.set p ⟨pr1[p].now,pr1[p].Ring_Next,pr1[p].Ring_List++gl.take n⟩).length:=by simpa using hp
   obtain ⟨b2,pr2,e3,h3,hc3,hl3,hb3⟩:=DG h2 hp2 (by simpa using h0);simp only [cx,eU];rw [show dV (p:Int) (pr1.set p ⟨pr1[p].now,(rg pr1[p]).Next,(rg pr1[p]).List++gl.take n⟩)=_ from e3];have hl4:pr2.length=pr1.length:=hl3.trans (cr ..);simp only [cx];rw [cG (show pr2.length=(pr1.set p (bV.mk pr1[p].now (rg pr1[p]).Next ((rg pr1[p]).List++gl.take n))).length by rw [cr];exact hl4),cd,eW (by omega),cd];refine ⟨_,_,_,rfl,h3,hc3.trans hc2,hl4,λhb=>?_⟩;rcases hb3 with ⟨rfl,_⟩|⟨_,t,ht,hp',hx⟩
   ·cases hb
   ·exact ⟨hp',by rw [hx];exact ht⟩
  ·rw [cP (by omega),cj];obtain ⟨r,e2,h2⟩:=ng (step:=j_ (p:Int) gl) (s0:=(1,pr1)) (λs=>∃ k:Nat,s=(((k:Nat):Int),pr1)/\1<=k/\k<=pr1.length) (λs=>((pr1.length:Int)-s.1).toNat) (λr=>MV r.2.2 r.2.1/\(al r.2.2 r.2.1).Perm (al pr1 gl)/\r.2.2.length=pr1.length/\(r.1=true->∃ hp':p<r.2.2.length,0<r.2.2[p].now)) (λs hs=>by
     obtain ⟨k,rfl,hk1,hk2⟩:=hs;unfold j_;simp only;rw [eW hp,cd];by_cases hk:k<pr1.length
     ·have hw:i64.wrap ((p:Int)+(k:Int))=((p+k:Nat):Int):=by rw [fI (by omega) (by omega)];omega
      have hm:Int.tmod ((p+k:Nat):Int) (pr1.length:Int)=(((p+k)%pr1.length:Nat):Int):=by
       rw [Int.tmod_eq_emod_of_nonneg (by omega)];rfl
      have hj:(p+k)%pr1.length<pr1.length:=Nat.mod_lt _ (by omega);have hne:(p+k)%pr1.length≠p:=by
       intro e;rcases Nat.lt_or_ge (p+k) pr1.length with hlt|hge
       ·rw [uL hlt] at e;omega
       ·rw [Nat.mod_eq_sub_mod hge,uL (by omega)] at e;omega
      generalize (p+k)%pr1.length=j at hj hne hm;simp only [hw,hm,j7 hk,j8,j7 hj,dc,cd,dp hj,dp hp,eU];rw [show ((pr1.length:Int) != 0)=true from nc.2 (by omega),cd];obtain ⟨N1,N2,n,L1,L2,e3,hc3,hn1,hn2⟩:=Jp (h.rv hj) (h.rv hp) (h.two hj hp hne);rw [show nD ⟨pr1[j].Ring_Next,pr1[j].Ring_List⟩ ⟨pr1[p].Ring_Next,pr1[p].Ring_List⟩ true=_ from e3];simp only [cx];by_cases hn:0<n
      ·rw [cG hn,cd];have hp1:p<(pr1.set j ⟨pr1[j].now,N1,L1⟩).length:=by simpa using hp
       have eP:(pr1.set j ⟨pr1[j].now,N1,L1⟩)[p]=pr1[p]:=by rw [pX,if_neg hne]
       rw [dp hp1,eP];have hc4:(al ((pr1.set j ⟨pr1[j].now,N1,L1⟩).set p ⟨pr1[p].now,N2,L2⟩) gl).Perm (al pr1 gl):=by
        refine pW.2 λx=>?_
        have g1:=q9 x ⟨pr1[j].now,N1,L1⟩ pr1 j hj;have g2:=q9 x ⟨pr1[p].now,N2,L2⟩ (pr1.set j ⟨pr1[j].now,N1,L1⟩) p hp1;have g3:=pW.1 hc3 x;rw [eP] at g2;unfold al;simp only [pl,rg,nf] at g1 g2 g3 ⊢;omega
       have h4:=h.of hc4 (uF (uF h.nn (y:=⟨pr1[j].now,N1,L1⟩) ⟨(h.nn pr1[j] (eL hj)).1,hn1⟩) (y:=⟨pr1[p].now,N2,L2⟩) ⟨(h.nn pr1[p] (eL hp)).1,hn2⟩) (by rw [cr,cr]);have hp4:p<((pr1.set j ⟨pr1[j].now,N1,L1⟩).set p ⟨pr1[p].now,N2,L2⟩).length:=by simpa using hp
       obtain ⟨b5,pr5,e5,h5,hc5,hl5,hb5⟩:=DG h4 hp4 (by simpa using h0);rw [e5];simp only [cx,hl5,decide_true,cd,eW hp4];refine .inr ⟨_,rfl,h5,hc5.trans hc4,hl5.trans (by rw [cr,cr]),λhb=>?_⟩;rcases hb5 with ⟨rfl,_⟩|⟨_,t,ht,hp',hx⟩
       ·cases hb
       ·exact ⟨hp',by rw [hx];exact ht⟩
      ·rw [cP hn,cj];refine .inl ⟨_,rfl,⟨k+1,by rw [gC (by omega)],by omega,hk⟩,?_⟩;show ((pr1.length:Int)-i64.wrap ((k:Int)+1)).toNat<((pr1.length:Int)-(k:Int)).toNat;rw [gC (by omega)];omega
     ·rw [cP (by omega),cj];exact .inr ⟨_,rfl,h,.refl _,rfl,λhb=>by cases hb⟩) ⟨1,rfl,by omega,by omega⟩
   exact ⟨r.1,r.2.1,r.2.2,e2,h2⟩
 ·rw [cd];exact ⟨_,_,_,rfl,h1,hc1,hl1,λ_=>⟨hp',by rw [hx];exact ht⟩⟩
theorem Ft (h:MV pr gl) {p:Nat} (hp:p<pr.length) {t:Nat} {c4:List cq} (ht:t<c4.length) (h64:c4.length<=64) (hn:((t+1:Nat):Int)∉al pr gl) :
 ∃pr',i8 (p:Int) ((t+1:Nat):Int) c4 pr gl=some (gl,c4.set t ⟨c4[t].pc,c4[t].r,0,c4[t].when,c4[t].seq⟩,pr')/\MV pr' gl/\(al pr' gl).Perm (((t+1:Nat):Int)::al pr gl)/\pr'.length=pr.length /\
  ∃hp':p<pr'.length,pr'[p].now=pr[p].now:=by
 have hgl:=h.ids.right.len;have hw:i64.wrap (((t+1:Nat):Int)-1)=(t:Int):=by rw [fI (by omega) (by omega)];omega
 have hq:((t+1:Nat):Int)∉rl (rg pr[p]):=λhm=>hn ((z_ hp).subset (jE _ hm));unfold i8 dM;rw [eW hp,cd,dp hp,show qX ⟨pr[p].Ring_Next,pr[p].Ring_List⟩ _ true=_ from MQ (h.rv hp) (by omega) hq];simp only [cx,jY,hw,j8,j7 ht,dc,cd,eW ht,dp ht,eU];rw [cG (by omega),cd];have hc:(al (pr.set p ⟨pr[p].now,((t+1:Nat):Int),pr[p].Ring_List++nz pr[p].Ring_Next⟩) gl).Perm (((t+1:Nat):Int)::al pr gl):=by
  refine pW.2 λx=>?_
  have:=q9 x ⟨pr[p].now,((t+1:Nat):Int),pr[p].Ring_List++nz pr[p].Ring_Next⟩ pr p hp;rw [←fF];unfold al;simp only [pl,rl,rg,nf,qz (show (0:Int)<((t+1:Nat):Int) by omega)] at this ⊢;omega
 refine ⟨_,rfl,⟨?_,uF h.nn ⟨(h.nn _ (eL hp)).1,by show (0:Int)<=((t+1:Nat):Int);omega⟩,by rw [cr];exact h.ln⟩,hc,cr ..,by simpa using hp,by simp⟩;refine dE.perm ⟨rD.2 ⟨hn,h.ids.nd⟩,λx hx=>?_⟩ hc;rcases fg.1 hx with rfl|hx
 ·omega
 ·exact h.ids.rg x hx
end
section
set_option maxRecDepth 100000
structure PV (p:cR):Prop where
 cap:0<=p.Cap/\p.Cap<=100
 len:(p.Items.length:Int)<=p.Cap
 ids:dE (p.Senders.map (·.Task)++p.Getters.map (·.Task))
 cs:∀ x∈p.Senders,x.Case=0
 cg:∀ x∈p.Getters,x.Case=0/\x.Value=0
 sn:p.Senders≠[]->p.Closed=false/\(p.Items.length:Int)=p.Cap/\p.Getters=[]
 gn:p.Getters≠[]->p.Closed=false/\p.Items=[]
def f0:cE:=⟨0,0⟩
theorem Aa (s:List cI) (h:s.length<=100000):jX s=some s:=by
 unfold jX;rw [cG (by simp;omega)];rfl
theorem PV.slen {p:cR} (h:PV p):p.Senders.length<=64:=by simpa using h.ids.left.len
theorem PV.glen {p:cR} (h:PV p):p.Getters.length<=64:=by simpa using h.ids.right.len
theorem DH (l:List cI) (m:List (Int×Int)) (hi:dE (l.map (·.Task))) (hc:∀ x∈l,x.Case=0) (hm:∀ x∈l,fX m x.Task=0):qq l m=some (0,qx m (l.map (·.Task))):=by
 have hl:=hi.len;rw [ep] at hl;refine AJ (l.map (·.Task)) m _ (λi h m' h0=>?_) ?_ hi.nd (λx hx=>?_)
 ·rw [ep] at h;rw [oq] at h0 ⊢;unfold pG;have h1:=hi.rg l[i].Task (rE (eL h));have h2:=hc _ (eL h);simp only [j7 h,j8,dc,cd,dp h,h0];rw [cP (show ¬ l[i].Task<1 by omega),cP (show ¬ l[i].Case<0 by omega),gC (by omega)];rfl
 ·unfold pG;rw [ep];simp only [lY,cj]
 ·obtain ⟨y,hy,rfl⟩:=fK.1 hx;exact hm y hy
theorem MS {p:cR} (h:PV p):oW p=some f0:=by
 have h1:=h.slen;have h2:=h.glen;have h3:=h.cap;have h4:=h.len;have hw:i64.wrap ((i64.wrap ((p.Items.length:Int)+(p.Senders.length:Int)))+(p.Getters.length:Int))=((p.Items.length+p.Senders.length+p.Getters.length:Nat):Int):=by
  rw [fI (x:=(p.Items.length:Int)+_) (by omega) (by omega),fI (by omega) (by omega)];omega
 have hst:(bif (decide ((0:Int)<(p.Senders.length:Int))) then (p.Closed||((decide ((p.Items.length:Int)<p.Cap))||((decide ((0:Int)<(p.Getters.length:Int)))||((decide ((0:Int)<(p.Getters.length:Int)))&&(p.Closed||(decide ((0:Int)<(p.Items.length:Int)))))))) else ((decide ((0:Int)<(p.Getters.length:Int)))&&(p.Closed||(decide ((0:Int)<(p.Items.length:Int))))))=false:=by
  by_cases hs:p.Senders=[]
  ·rw [hs,show decide ((0:Int)<((([]:List cI).length:Nat):Int))=false from rfl,cj];by_cases hg:p.Getters=[]
   ·rw [hg];rfl
   ·obtain ⟨g1,g2⟩:=h.gn hg;rw [g1,g2];simp
  ·obtain ⟨g1,g2,g3⟩:=h.sn hs;rw [g1,g3,show decide ((p.Items.length:Int)<p.Cap)=false from cP (by omega)];simp
 unfold oW;rw [hw,cP (by omega),cP (show ¬ p.Cap<0 by omega),cP (show ¬ (1000:Int)<p.Cap by omega),cP (show ¬ p.Cap<(p.Items.length:Int) by omega),hst];simp only [cj,Bool.or_self];rw [DH p.Senders [] h.ids.left h.cs (λx _=>rfl)];simp only [cx,show ((0:Int) != 0)=false from rfl,cj];rw [DH p.Getters _ h.ids.right (λx hx=>(h.cg x hx).1) (λx hx=>by
  rw [tm,if_neg λhm=>h.ids.dis hm (rE hx)];rfl)]
 simp only [cx,show ((0:Int) != 0)=false from rfl,cj];refine iI (step:=nO p) (λi=>((i:Nat):Int)) _ p.Getters.length (λi hi=>?_) ?_
 ·unfold nO;simp only [j7 hi,j8,dc,cd,dp hi,(h.cg _ (eL hi)).2];rw [gC (by omega)];rfl
 ·unfold nO;simp only [lY,cj];rfl
theorem DI (l:List cI) (t:Int) (hl:l.length<=1000) (h:t∉l.map (·.Task)):gN l t=some false:=by
 have e:kU l t=some (-1):=by
  refine iI (step:=iC l t) (λi=>((i:Nat):Int)) _ l.length (λi hi=>?_) ?_
  ·unfold iC qr;have:l[i].Task≠t:=λe=>h (e▸rE (eL hi));simp only [j7 hi,j8,dc,cd,dp hi,cx];rw [show (l[i].Task==t)=false from by simpa using this,gC (by omega)];rfl
  ·unfold iC;simp only [lY,cj]
 unfold gN;rw [e];rfl
section
variable {p:cR} (h:PV p) {t:Int} (ht:1<=t) (hs:t∉p.Senders.map (·.Task)) (hg:t∉p.Getters.map (·.Task))
include h
theorem GN:oF p=some (p.Items,p.Senders,p.Getters):=by
 have h1:=h.slen;have h2:=h.glen;have h3:=h.cap;have h4:=h.len;unfold oF;rw [oL _ (by omega),Aa _ (by omega),Aa _ (by omega)];rfl
include ht hs hg
theorem Ij:oX p t=some f0:=by
 have h1:=h.slen;have h2:=h.glen;have h3:=h.cap;have h4:=h.len;have hw:i64.wrap ((i64.wrap ((p.Items.length:Int)+(p.Senders.length:Int)))+(p.Getters.length:Int))=((p.Items.length+p.Senders.length+p.Getters.length:Nat):Int):=by
  rw [fI (x:=(p.Items.length:Int)+_) (by omega) (by omega),fI (by omega) (by omega)];omega
 unfold oX sA;rw [MS h,cx,show (f0.Code != 0)=false from rfl,cj,cP (by omega),cj,DI _ _ (by omega) hs,DI _ _ (by omega) hg,hw];simp only [cx,cj];unfold nP;simp only [cx,cj];rw [show (((p.Items.length+p.Senders.length+p.Getters.length:Nat):Int)==5000)=false from by simp;omega];rfl
theorem NY (v:Int):(p.Closed=true/\mD p t v false=some (p.Cap,p.Closed,true,true,0,f0,p.Items,p.Senders,p.Getters,[])) \/
  (p.Closed=false/\∃ g gs,p.Getters=g::gs/\mD p t v false=some (p.Cap,p.Closed,true,false,0,f0,p.Items,p.Senders,gs,[⟨g.Task,g.Case,v,true,false⟩])) \/
  (p.Closed=false/\p.Getters=[]/\(p.Items.length:Int)<p.Cap/\mD p t v false=some (p.Cap,p.Closed,true,false,0,f0,p.Items++[v],p.Senders,[],[])) \/
  (p.Closed=false/\p.Getters=[]/\(p.Items.length:Int)=p.Cap/\mD p t v false=some (p.Cap,p.Closed,false,false,0,f0,p.Items,p.Senders++[⟨t,0,v⟩],[],[])):=by
 have h1:=h.slen;have h3:=h.cap;have h4:=h.len;unfold mD sB oG;rw [Ij h ht hs hg];simp only [cx,show (f0.Code != 0)=false from rfl,cj,GN h];cases hc:p.Closed with
 | true=>exact .inl ⟨rfl,rfl⟩
 | false =>
  refine .inr ?_;cases hG:p.Getters with
  | cons g gs =>
   refine .inl ⟨rfl,g,gs,rfl,?_⟩;have hcut:cut (g::gs) (1:Int) (((g::gs).length:Nat):Int)=gs:=by
    have:=pT (g::gs) 1;simpa using this
   rw [cj,cG (by simp<;>omega),cG (by simp<;>omega),hcut];rfl
  | nil =>
   refine .inr ?_;rw [cj,show decide ((0:Int)<((([]:List cI).length:Nat):Int))=false from rfl,cj];by_cases hl:(p.Items.length:Int)<p.Cap
   ·refine .inl ⟨rfl,rfl,hl,?_⟩;rw [cG hl,cG (by simp;omega)];rfl
   ·refine .inr ⟨rfl,rfl,by omega,?_⟩;rw [cP hl,cj,cx];simp only [oo,dc,cd];rw [cG (by simp;omega)];rfl
theorem MT:(∃ x r,p.Senders=[]/\p.Items=x::r/\lU p t false=some (p.Cap,p.Closed,true,true,x,0,f0,r,[],p.Getters,[])) \/
  (∃ s ss x r,p.Senders=s::ss/\p.Items++[s.Value]=x::r/\lU p t false=some (p.Cap,p.Closed,true,true,x,0,f0,r,ss,p.Getters,[⟨s.Task,s.Case,0,false,false⟩])) \/
  (p.Senders=[]/\p.Items=[]/\p.Closed=true/\lU p t false=some (p.Cap,p.Closed,true,false,0,0,f0,[],[],p.Getters,[])) \/
  (p.Senders=[]/\p.Items=[]/\p.Closed=false/\lU p t false=some (p.Cap,p.Closed,false,false,0,0,f0,[],[],p.Getters++[⟨t,0,0⟩],[])):=by
 have h1:=h.glen;have h3:=h.cap;have h4:=h.len;have gj:∀ (x:Int) (r:List Int) (q:List cI) (w:List de),lh ⟨t,0,0⟩ p.Closed (x::r) q w=some (true,true,x,0,w,r,q):=λx r q w=>by
  have hcut:cut (x::r) (1:Int) (((x::r).length:Nat):Int)=r:=by
   have:=pT (x::r) 1;simpa using this
  unfold lh;rw [cG (by simp<;>omega),cG (by simp<;>omega),hcut];rfl
 unfold lU sC pu;rw [Ij h ht hs hg];simp only [cx,show (f0.Code != 0)=false from rfl,cj,GN h];cases hS:p.Senders with
 | cons s ss =>
  refine .inr (.inl ?_);obtain ⟨x,r,e⟩:∃ x r,p.Items++[s.Value]=x::r:=by
   cases p.Items with
   | nil=>exact ⟨_,_,rfl⟩
   | cons a l=>exact ⟨_,_,rfl⟩
  refine ⟨s,ss,x,r,rfl,e,?_⟩;have hcut:cut (s::ss) (1:Int) (((s::ss).length:Nat):Int)=ss:=by
   have:=pT (s::ss) 1;simpa using this
  rw [cG (by simp<;>omega),cG (by simp<;>omega),hcut];simp only [cd,show ix (s::ss) (0:Int)=s from rfl];rw [cG (by simp;omega),cd,e,gj];rfl
 | nil =>
  rw [show decide ((0:Int)<((([]:List cI).length:Nat):Int))=false from rfl];simp only [cj];cases hI:p.Items with
  | cons x r =>
   refine .inl ⟨x,r,by trivial,by trivial,?_⟩;rw [gj];rfl
  | nil =>
   refine .inr (.inr ?_);unfold lh;rw [show decide ((0:Int)<((([]:List Int).length:Nat):Int))=false from rfl];cases hc:p.Closed with
   | true=>exact .inl ⟨by trivial,by trivial,by trivial,rfl⟩
   | false =>
    refine .inr ⟨by trivial,by trivial,by trivial,?_⟩;simp only [cj,cx,oo,dc,cd];rw [cG (by simp;omega)];rfl
omit ht hs hg
def v2 (x:cI):de:=⟨x.Task,x.Case,0,false,false⟩
def wU (x:cI):de:=⟨x.Task,x.Case,0,false,true⟩
theorem NZ:(p.Closed=true/\oH p=some (p.Cap,true,true,true,f0,p.Items,p.Senders,p.Getters,[]))\/(p.Closed=false/\oH p=some (p.Cap,true,true,false,f0,p.Items,[],[],p.Getters.map v2++p.Senders.map wU)):=by
 have h1:=h.slen;have h2:=h.glen;unfold oH ru;rw [MS h];simp only [cx,show (f0.Code != 0)=false from rfl,cj,GN h];cases hc:p.Closed with
 | true=>exact .inl ⟨rfl,rfl⟩
 | false =>
  refine .inr ⟨rfl,?_⟩;rw [cj];have e:=iI (step:=m7 p.Senders p.Getters) (λi=>(((i:Nat):Int),(p.Getters.take i).map v2)) (some (false,p.Getters.map v2++p.Senders.map wU,true,[],[])) p.Getters.length (λi hi=>?_) ?_
  ·rw [show ((0:Int),([]:List de))=(((0:Nat):Int),(p.Getters.take 0).map v2) from rfl,e];rfl
  ·unfold m7;simp only [j7 hi,j8,dc,cd,dp hi];rw [cG (by simp;omega),cd,gC (by omega),jZ hi,kJ];rfl
  ·unfold m7;simp only [lY,cj];congr 1;have e2:=iI (step:=m6 p.Senders) (λi=>(((i:Nat):Int),p.Getters.map v2++(p.Senders.take i).map wU)) (some (false,p.Getters.map v2++p.Senders.map wU,true,[],[])) p.Senders.length (λi hi=>?_) ?_
   ·rw [ov];rw [show ((0:Int),p.Getters.map v2)=(((0:Nat):Int),p.Getters.map v2++(p.Senders.take 0).map wU) from by simp,e2]
   ·unfold m6;simp only [j7 hi,j8,dc,cd,dp hi];rw [cG (by simp;omega),cd,gC (by omega),jZ hi,kJ,fJ];rfl
   ·unfold m6;simp only [lY,cj];rw [ov]
end
end
section
set_option maxRecDepth 100000
theorem tW {α:Type} (w:α) (ws:List α):decide ((0:Int)<(((w::ws).length:Nat):Int))=true:=cG (by simp only [gu];omega)
theorem N0 {α:Type} (w:α) (ws:List α):decide ((1:Int)<=(((w::ws).length:Nat):Int))=true:=cG (by simp only [gu];omega)
structure LV (l:dj):Prop where
 rd:0<=l.Readers/\l.Readers<=6000
 wr:l.Writer=true->l.Readers=0
 ids:dE (l.Line.map (·.Task))
 n:∀ x∈l.Line,x.N=0
 hd:∀ w ws,l.Line=w::ws->l.Writer=true\/(w.Write=true/\0<l.Readers)
theorem LV.len {l:dj} (h:LV l):l.Line.length<=64:=by simpa using h.ids.len
theorem MU {l:dj} (h:LV l):oY l=some f0:=by
 have h1:=h.len;have h2:=h.rd;have key:dB (nQ l) (0,[])=some f0:=by
  refine AJ (l.Line.map (·.Task)) [] _ (λi hi m h0=>?_) ?_ h.ids.nd (λx _=>rfl)
  ·rw [ep] at hi;rw [oq] at h0 ⊢;unfold nQ;have h3:=h.ids.rg l.Line[i].Task (rE (eL hi));simp only [j7 hi,j8,dc,cd,dp hi,h0,h.n _ (eL hi)];rw [cP (show ¬ l.Line[i].Task<1 by omega),gC (by omega)];rfl
  ·unfold nQ;rw [ep];simp only [lY,cj];rfl
 unfold oY;rw [cP (by omega),cP (show ¬ l.Readers<0 by omega),cP (show ¬ (1000000000:Int)<l.Readers by omega)];simp only [cj,Bool.or_self];cases hl:l.Line with
 | nil =>
  rw [show decide ((0:Int)<((([]:List dR).length:Nat):Int))=false from rfl];cases hw:l.Writer with
  | true =>
   rw [h.wr hw];exact key
  | false=>exact key
 | cons w ws =>
  simp only [tW,show ix (w::ws) (0:Int)=w from rfl];have hd:=h.hd w ws hl;cases hw:l.Writer with
  | true =>
   rw [h.wr hw];exact key
  | false =>
   rw [hw] at hd;have hd:=hd.resolve_left (by simp);rw [hd.1,show (l.Readers==0)=false from by simp;omega];exact key
def adm:Int->Bool->List dR->List dR×Int×Bool×List dR
 | rd,wr,[]=>([],rd,wr,[])
 | rd,wr,w::ws=>if wr=true\/(w.Write=true/\0<rd) then ([],rd,wr,w::ws) else
   let q:=adm (if w.Write=true then rd else rd+1) w.Write ws
   (w::q.1,q.2.1,q.2.2.1,q.2.2.2)
theorem Ik:∀ (ws:List dR) (rd:Int) (wr:Bool) (acc:List Int),0<=rd/\rd+ws.length<=100000->acc.length+ws.length<=100000 ->
  dB jR (rd,wr,acc,ws)=some (acc++(adm rd wr ws).1.map (·.Task),(adm rd wr ws).2.1,(adm rd wr ws).2.2.1,(adm rd wr ws).2.2.2)
 | [],rd,wr,acc,_,_=>by
  refine f5 ?_
  show some (Sum.inr (acc,rd,wr,[]))=_
  unfold adm
  simp
 | w::ws,rd,wr,acc,h1,h2=>by
  simp only [gu] at h1 h2
  unfold adm
  cases wr with
  | true =>
   rw [if_pos (.inl rfl),k9,jY]
   refine f5 ?_
   unfold jR
   simp only [jF,ou,cj];rfl
  | false =>
   have hstep:¬ (w.Write=true/\0<rd)->jR (rd,false,acc,w::ws)=some (.inl (if w.Write=true then rd else rd+1,w.Write,acc++[w.Task],ws)):=λhn=>by
    have hcut:cut (w::ws) (1:Int) (((w::ws).length:Nat):Int)=ws:=by
     have:=pT (w::ws) 1;simpa using this
    unfold jR;simp only [show ix (w::ws) (0:Int)=w from rfl,hcut];rw [tW,N0,cG (show (acc++[w.Task]).length*8<=140737488355328 by simp;omega)];simp only [oo,dc,cd];cases hw:w.Write with
    | true =>
     rw [cP (show ¬ 0<rd from λe=>hn ⟨hw,e⟩)];rw [if_pos rfl];rfl
    | false=>rw [if_neg (by simp),fI (by omega) (by omega)];rfl
   by_cases hn:w.Write=true/\0<rd
   ·rw [if_pos (.inr hn),k9,jY];refine f5 ?_;unfold jR;simp only [show ix (w::ws) (0:Int)=w from rfl];rw [tW,hn.1,cG hn.2];rfl
   ·rw [if_neg (by simpa using hn),kL (hstep hn)];have h3:0<=(if w.Write=true then rd else rd+1)/\(if w.Write=true then rd else rd+1)+ws.length<=100000:=by split<;>omega
    rw [Ik ws _ _ _ h3 (by simp;omega)];simp
theorem yN {rd:Int} {wr:Bool} {ws:List dR} (h:0<=rd/\rd<=6000) (hl:ws.length<=100):kN rd wr ws=some ((adm rd wr ws).1.map (·.Task),(adm rd wr ws).2.1,(adm rd wr ws).2.2.1,(adm rd wr ws).2.2.2):=by
 unfold kN;rw [Ik ws rd wr [] (by omega) (by simp;omega)];rfl
theorem AK:∀ (ws:List dR) (rd:Int) (wr:Bool),(adm rd wr ws).1++(adm rd wr ws).2.2.2=ws
 | [],rd,wr=>rfl
 | w::ws,rd,wr=>by
  unfold adm
  split
  ·rfl
  ·simp only [iz,AK ws]
theorem Il:∀ (ws:List dR) (rd:Int) (wr:Bool),0<=rd->(wr=true->rd=0) ->
  0<=(adm rd wr ws).2.1/\(adm rd wr ws).2.1<=rd+(adm rd wr ws).1.length/\((adm rd wr ws).2.2.1=true->(adm rd wr ws).2.1=0)/\(∀ w r,(adm rd wr ws).2.2.2=w::r->(adm rd wr ws).2.2.1=true\/(w.Write=true/\0<(adm rd wr ws).2.1))
 | [],rd,wr,h1,h2=>⟨h1,by simp [adm],h2,λw r e=>by simp [adm] at e⟩
 | w::ws,rd,wr,h1,h2=>by
  unfold adm
  split
  ·rename_i hc
   exact ⟨h1,by simp,h2,λx r e=>by cases e;exact hc⟩
  ·rename_i hc
   have h4:w.Write=true->rd=0:=λe=>by
    rcases Int.lt_or_le 0 rd with h5|h5
    ·exact absurd (.inr ⟨e,h5⟩) hc
    ·omega
   obtain ⟨g1,g2,g3,g4⟩:=Il ws (if w.Write=true then rd else rd+1) w.Write (by split<;>omega) (λe=>by rw [if_pos e];exact h4 e)
   refine ⟨g1,?_,g3,g4⟩
   show (adm (if w.Write=true then rd else rd+1) w.Write ws).2.1<=rd+((adm (if w.Write=true then rd else rd+1) w.Write ws).1.length+1:Nat)
   have:(if w.Write=true then rd else rd+1)<=rd+1:=by split<;>omega
   omega
theorem Jq (l:List dR) (t:Int) (hl:l.length<=1000) (h:t∉l.map (·.Task)):iE l t=some false:=by
 have e:kW l t=some (-1):=by
  refine iI (step:=iD l t) (λi=>((i:Nat):Int)) _ l.length (λi hi=>?_) ?_
  ·unfold iD qs;have:l[i].Task≠t:=λe=>h (e▸rE (eL hi));simp only [j7 hi,j8,dc,cd,dp hi,cx];rw [show (l[i].Task==t)=false from by simpa using this,gC (by omega)];rfl
  ·unfold iD;simp only [lY,cj]
 unfold iE;rw [e];rfl
theorem Fu {l:dj} (h:LV l):lE l=some l.Line:=by
 have:=h.len;unfold lE mV;rw [cG (by simp;omega)];rfl
theorem MW {l:dj} (h:LV l) {t:Int} (ht:1<=t) (hn:t∉l.Line.map (·.Task)) (w:Bool) :
  (l.Line=[]/\¬ (l.Writer=true\/(w=true/\0<l.Readers))/\mF l t w false=some (if w=true then l.Readers else l.Readers+1,w,true,f0,[])) \/
  ((l.Line=[]->l.Writer=true\/(w=true/\0<l.Readers))/\mF l t w false=some (l.Readers,l.Writer,false,f0,l.Line++[⟨t,w,0⟩])):=by
 have h1:=h.len;have h2:=h.rd;have hE:∀ q,adm l.Readers l.Writer (l.Line++[⟨t,w,0⟩])=q->mF l t w false=(bif decide (t∈q.1.map (·.Task)) then some (q.2.1,q.2.2.1,true,f0,q.2.2.2) else some (q.2.1,q.2.2.1,false,f0,q.2.2.2)):=λq hq=>by
  have hql:q.1.length<=65:=by
   have:=dJ List.length (AK (l.Line++[⟨t,w,0⟩]) l.Readers l.Writer);rw [hq] at this;simp at this;omega
  unfold mF;rw [MU h,cx,show (f0.Code != 0)=false from rfl,cj,cP (by omega),cj,Jq _ _ (by omega) hn,cx,cj,
   show (((l.Line.length:Int)==5000)||(l.Readers==1000000000))=false from by simp;omega,cj,Fu h,cx,cG (by simp;omega),cd,yN h2 (by simp;omega),hq]
  simp only [cx];rw [DD (by simp;omega)];rfl
 cases hl:l.Line with
 | nil =>
  by_cases hc:l.Writer=true\/(w=true/\0<l.Readers)
  ·refine .inr ⟨λ_=>hc,?_⟩;have:=hE ([],l.Readers,l.Writer,[⟨t,w,0⟩]) (by rw [hl];unfold adm;exact if_pos hc);rw [this];rfl
  ·refine .inl ⟨rfl,hc,?_⟩;have:=hE ([⟨t,w,0⟩],if w=true then l.Readers else l.Readers+1,w,[]) (by rw [hl];unfold adm;rw [pL];exact if_neg hc);rw [this];simp
 | cons x xs =>
  refine .inr ⟨λe=>(by cases e),?_⟩;have hd:=h.hd x xs hl;have:=hE ([],l.Readers,l.Writer,x::(xs++[⟨t,w,0⟩])) (by rw [hl];unfold adm;exact if_pos hd);rw [this];rfl
theorem MX {l:dj} (h:LV l) (w:Bool) :
  (((w=true/\l.Writer=false)\/(w=false/\l.Readers=0))/\nG l w=some (l.Readers,l.Writer,true,f0,l.Line,[])) \/
  (¬ ((w=true/\l.Writer=false)\/(w=false/\l.Readers=0))/\∀ q,adm (if w=true then l.Readers else l.Readers-1) (if w=true then false else l.Writer) l.Line=q->nG l w=some (q.2.1,q.2.2.1,false,f0,q.2.2.2,q.1.map (·.Task))):=by
 have h1:=h.len;have h2:=h.rd;unfold nG;rw [MU h,cx,show (f0.Code != 0)=false from rfl,cj,Fu h];simp only [cx];unfold nR;cases w with
 | true =>
  cases hw:l.Writer with
  | true=>exact .inr ⟨by simp,λq hq=>by
    rw [if_pos rfl,if_pos rfl] at hq;show (kN l.Readers false l.Line).bind _=_;rw [yN h2 (by omega),hq];rfl⟩
  | false=>exact .inl ⟨.inl ⟨rfl,rfl⟩,rfl⟩
 | false =>
  by_cases h0:l.Readers=0
  ·refine .inl ⟨.inr ⟨rfl,h0⟩,?_⟩;rw [h0];rfl
  ·refine .inr ⟨by simp [h0],λq hq=>?_⟩;rw [if_neg (by simp),if_neg (by simp)] at hq;rw [show (l.Readers==0)=false from by simpa using h0];show (kN (i64.wrap (l.Readers-1)) l.Writer l.Line).bind _=_;rw [fI (by omega) (by omega),yN (by omega) (by omega),hq];rfl
structure GV (g:cY):Prop where
 c:0<=g.Count/\g.Count<=1000000000
 ids:dE g.Line
 z:g.Count=0->g.Line=[]
theorem MY {g:cY} (h:GV g):oZ g=some f0:=by
 have h1:=h.ids.len;have h2:=h.c;have e:rQ g.Line=some f0:=by
  unfold rQ;rw [cP (by omega),cj];refine AJ g.Line [] _ (λi hi m h0=>?_) ?_ h.ids.nd (λx _=>rfl)
  ·unfold qt;have h3:=h.ids.rg g.Line[i] (eL hi);simp only [j7 hi,j8,dc,cd,dp hi,h0];rw [cP (show ¬ g.Line[i]<1 by omega),gC (by omega)];rfl
  ·unfold qt;simp only [lY,cj];rfl
 unfold oZ;rw [e,cx,show (f0.Code != 0)=false from rfl,cj,cP (show ¬ g.Count<0 by omega),cP (show ¬ (1000000000:Int)<g.Count by omega),Bool.or_self,cj];by_cases h0:g.Count=0
 ·rw [h.z h0,h0];rfl
 ·rw [show (g.Count==0)=false from by simpa using h0,Bool.false_and];rfl
theorem OK {g:cY} (h:GV g) (n:Int):(∃ c p f l w,nH g n=some (c,p,f,l,w)/\(p||(f.Code != 0))=true) \/
  (0<=g.Count+n/\g.Count+n<=1000000000/\((g.Count+n=0/\nH g n=some (0,false,f0,[],g.Line))\/(g.Count+n≠0/\nH g n=some (g.Count+n,false,f0,g.Line,[])))):=by
 have h1:=h.ids.len;have h2:=h.c;unfold nH;rw [MY h,cx,show (f0.Code != 0)=false from rfl,cj,oL _ (by omega)];by_cases h3:n < -1000000000\/1000000000<n
 ·rw [show ((decide (n<(-1000000000)))||(decide ((1000000000:Int)<n)))=true from by simpa using h3];exact .inl ⟨_,_,_,_,_,rfl,rfl⟩
 ·rw [show ((decide (n<(-1000000000)))||(decide ((1000000000:Int)<n)))=false from by simpa using h3,cj,cx,fI (by omega) (by omega)];by_cases h4:g.Count+n<0
  ·rw [cG h4];exact .inl ⟨_,_,_,_,_,rfl,rfl⟩
  ·rw [cP h4,cj];by_cases h5:1000000000<g.Count+n
   ·rw [cG h5];exact .inl ⟨_,_,_,_,_,rfl,rfl⟩
   ·rw [cP h5,cj];refine .inr ⟨by omega,by omega,?_⟩;by_cases h6:g.Count+n=0
    ·exact .inl ⟨h6,by rw [h6];rfl⟩
    ·exact .inr ⟨h6,by rw [show (g.Count+n==0)=false from by simpa using h6];rfl⟩
theorem MZ {g:cY} (h:GV g) {t:Int} (ht:1<=t) (hn:t∉g.Line):(g.Count=0/\nI g t=some (0,true,f0,[]))\/(0<g.Count/\nI g t=some (g.Count,false,f0,g.Line++[t])):=by
 have h1:=h.ids.len;have h2:=h.c;have hc:qu g.Line t=some f0:=by
  unfold qu;rw [cP (by omega),cj,DD (by omega),cx,cP hn,cj,show ((g.Line.length:Int)==5000)=false from by simp;omega];rfl
 unfold nI;rw [MY h,cx,show (f0.Code==0)=true from rfl,cd,hc,cx];unfold nS;rw [show (f0.Code != 0)=false from rfl,cj,oL _ (by omega),cx];by_cases h0:g.Count=0
 ·refine .inl ⟨h0,?_⟩;unfold ml;rw [h0,h.z h0];rfl
 ·refine .inr ⟨by omega,?_⟩;unfold ml;rw [cG (by omega),cd,cG (by simp;omega),cd,show (g.Count==0)=false from by simpa using h0];rfl
end
section
set_option maxRecDepth 100000
structure M where
 ts:List cq
 pr:List bV
 gl:List Int
 ce:List Int
 pi:List cR
 lo:List dj
 gr:List cY
 tr:List cy
def tk (ts:List cq) (t:Int):cq:=ix ts (t-1)
def In (ts:List cq) (t:Int):Prop:=1<=t/\t<=(ts.length:Int)
def su (ts:List cq) (t:Int) (x:cq):List cq:=ts.set (t-1).toNat x
theorem qA (ts:List cq) (t:Int) (x:cq):(su ts t x).length=ts.length:=cr ..
theorem In.su {ts:List cq} {t u:Int} {x:cq} (h:In ts t):In (su ts u x) t:=⟨h.1,by rw [qA];exact h.2⟩
theorem iM {ts:List cq} {t:Int} {x:cq} (h:In ts t):tk (su ts t x) t=x:=by
 obtain ⟨n,hn⟩:=ib (show 0<=t-1 by have:=h.1;omega);have:=h.2;unfold tk su;rw [hn,eU];exact DF _ (by omega) _
theorem ry {ts:List cq} {t u:Int} {x:cq} (h:In ts u) (ht:In ts t) (ne:u≠t):tk (su ts t x) u=tk ts u:=by
 obtain ⟨n,hn⟩:=ib (show 0<=t-1 by have:=ht.1;omega);obtain ⟨k,hk⟩:=ib (show 0<=u-1 by have:=h.1;omega);have h1:=h.2;have h2:=ht.2;unfold tk su;rw [hn,hk,eU,dp (by rw [cr];omega),dp (by omega),pX,if_neg (by omega)]
theorem BZ (ts:List cq) (t:Int) (x y:cq):su (su ts t x) t y=su ts t y:=List.set_set ..
theorem m_ {ts:List cq} {t:Int} (h:In ts t):tk ts t∈ts:=by
 obtain ⟨n,hn⟩:=ib (show 0<=t-1 by have:=h.1;omega);have:=h.2;unfold tk;rw [hn,dp (by omega)];exact eL _
structure Wt (P:cz) (ts:List cq) (t:Int) (i:df):Prop where
 inn:In ts t
 st:(tk ts t).state=1
 pc:0<=(tk ts t).pc/\(tk ts t).pc<(P.Code.length:Int)
 at':ix P.Code (tk ts t).pc=i
structure PW (P:cz) (ts:List cq) (k:Int) (p:cR):Prop where
 v:PV p
 s:∀ x∈p.Senders,∃ b,Wt P ts x.Task ⟨14,k,b⟩/\x.Value=(tk ts x.Task).r.get b
 g:∀ x∈p.Getters,∃ a,Wt P ts x.Task ⟨15,a,k⟩
structure LW (P:cz) (n:Nat) (ts:List cq) (k:Int) (l:dj):Prop where
 v:LV l
 w:∀ x∈l.Line,∃ b,Wt P ts x.Task ⟨17,k,b⟩/\x.Write=(b==1)
 le:l.Readers+l.Line.length<=n
structure GW (P:cz) (ts:List cq) (k:Int) (g:cY):Prop where
 v:GV g
 w:∀ x∈g.Line,∃ b,Wt P ts x ⟨20,k,b⟩
structure fj (P:cz) (n:Nat) (m:M):Prop where
 n5:n<=5001
 tl:1<=m.ts.length/\m.ts.length<=64
 pc:∀ x∈m.ts,0<=x.pc/\x.pc<=(P.Code.length:Int)
 mv:MV m.pr m.gl
 rs:∀ x∈al m.pr m.gl,In m.ts x/\(tk m.ts x).state=0
 ce:(m.ce.length:Int)=P.Cells
 pn:m.pi.length=P.Pipes.length
 pw:∀ k:Nat,(h:k<m.pi.length)->PW P m.ts k m.pi[k]/\m.pi[k].Cap=ix P.Pipes k
 ln:(m.lo.length:Int)=P.Locks
 lw:∀ k:Nat,(h:k<m.lo.length)->LW P n m.ts k m.lo[k]
 gn:(m.gr.length:Int)=P.Groups
 gw:∀ k:Nat,(h:k<m.gr.length)->GW P m.ts k m.gr[k]
def At (m:M) (t:Int):df->Prop
 | ⟨14,k,_⟩=>∃ h:k.toNat<m.pi.length,0<=k/\t∈(m.pi[k.toNat]).Senders.map (·.Task)
 | ⟨15,_,k⟩=>∃ h:k.toNat<m.pi.length,0<=k/\t∈(m.pi[k.toNat]).Getters.map (·.Task)
 | ⟨17,k,_⟩=>∃ h:k.toNat<m.lo.length,0<=k/\t∈(m.lo[k.toNat]).Line.map (·.Task)
 | ⟨20,k,_⟩=>∃ h:k.toNat<m.gr.length,0<=k/\t∈(m.gr[k.toNat]).Line
 | _=>False
structure pf (m:M) (t:Int):Prop where
 s:∀ k (h:k<m.pi.length),∀ x∈m.pi[k].Senders,x.Task≠t
 g:∀ k (h:k<m.pi.length),∀ x∈m.pi[k].Getters,x.Task≠t
 l:∀ k (h:k<m.lo.length),∀ x∈m.lo[k].Line,x.Task≠t
 r:∀ k (h:k<m.gr.length),∀ x∈m.gr[k].Line,x≠t
section
variable {P:cz} {n:Nat} {m:M}
theorem fj.free (h:fj P n m) {t:Int} (hs:(tk m.ts t).state≠1):pf m t :=
 ⟨λk hk x hx e=>by obtain ⟨b,w,_⟩:=(h.pw k hk).1.s x hx;exact hs (e▸w.st),λk hk x hx e=>by obtain ⟨b,w⟩:=(h.pw k hk).1.g x hx;exact hs (e▸w.st),
  λk hk x hx e=>by obtain ⟨b,w,_⟩:=(h.lw k hk).w x hx;exact hs (e▸w.st),λk hk x hx e=>by obtain ⟨b,w⟩:=(h.gw k hk).w x hx;exact hs (e▸w.st)⟩
theorem fj.freeAt (h:fj P n m) {t:Int} {i:df} (w:Wt P m.ts t i) (hn:¬ At m t i):pf m t:=by
 refine ⟨λk hk x hx e=>?_,λk hk x hx e=>?_,λk hk x hx e=>?_,λk hk x hx e=>?_⟩
 ·obtain ⟨b,w',_⟩:=(h.pw k hk).1.s x hx;have:i=⟨14,k,b⟩:=by rw [←w.at',←w'.at',e]
  subst this;exact hn ⟨by simpa using hk,by omega,by simpa using ⟨x,hx,e⟩⟩
 ·obtain ⟨b,w'⟩:=(h.pw k hk).1.g x hx;have:i=⟨15,b,k⟩:=by rw [←w.at',←w'.at',e]
  subst this;exact hn ⟨by simpa using hk,by omega,by simpa using ⟨x,hx,e⟩⟩
 ·obtain ⟨b,w',_⟩:=(h.lw k hk).w x hx;have:i=⟨17,k,b⟩:=by rw [←w.at',←w'.at',e]
  subst this;exact hn ⟨by simpa using hk,by omega,by simpa using ⟨x,hx,e⟩⟩
 ·obtain ⟨b,w'⟩:=(h.gw k hk).w x hx;have:i=⟨20,k,b⟩:=by rw [←w.at',←w'.at',e]
  subst this;exact hn ⟨by simpa using hk,by omega,by simpa [e] using hx⟩
theorem Wt.su {ts:List cq} {t u:Int} {x:cq} {i:df} (w:Wt P ts u i) (ht:In ts t) (ne:u≠t):Wt P (su ts t x) u i :=
 ⟨w.inn.su,by rw [ry w.inn ht ne];exact w.st,by rw [ry w.inn ht ne];exact w.pc,by rw [ry w.inn ht ne];exact w.at'⟩
theorem fj.set (h:fj P n m) {t:Int} (ht:In m.ts t) (hf:pf m t) {x:cq} (hx:0<=x.pc/\x.pc<=(P.Code.length:Int)) (ha:t∈al m.pr m.gl->x.state=0):fj P n { m with ts:=su m.ts t x } where
 n5:=h.n5
 tl:=by rw [qA];exact h.tl
 pc:=λy hy=>by
  rcases List.mem_or_eq_of_mem_set hy with h1|h1
  ·exact h.pc y h1
  ·rw [h1];exact hx
 mv:=h.mv
 rs:=λy hy=>by
  have h1:=h.rs y hy
  by_cases e:y=t
  ·subst e;exact ⟨h1.1.su,by rw [iM ht];exact ha hy⟩
  ·exact ⟨h1.1.su,by rw [ry h1.1 ht e];exact h1.2⟩
 ce:=h.ce
 pn:=h.pn
 pw:=λk hk=>⟨⟨(h.pw k hk).1.v,λy hy=>by
  obtain ⟨b,w,e⟩:=(h.pw k hk).1.s y hy
  exact ⟨b,w.su ht (hf.s k hk y hy),by rw [ry w.inn ht (hf.s k hk y hy)];exact e⟩,λy hy=>by
  obtain ⟨b,w⟩:=(h.pw k hk).1.g y hy
  exact ⟨b,w.su ht (hf.g k hk y hy)⟩⟩,(h.pw k hk).2⟩
 ln:=h.ln
 lw:=λk hk=>⟨(h.lw k hk).v,λy hy=>by
  obtain ⟨b,w,e⟩:=(h.lw k hk).w y hy
  exact ⟨b,w.su ht (hf.l k hk y hy),e⟩,(h.lw k hk).le⟩
 gn:=h.gn
 gw:=λk hk=>⟨(h.gw k hk).v,λy hy=>by
  obtain ⟨b,w⟩:=(h.gw k hk).w y hy
  exact ⟨b,w.su ht (hf.r k hk y hy)⟩⟩
theorem fj.procs (h:fj P n m) {pr:List bV} {gl:List Int} (hm:MV pr gl) (hr:∀ x∈al pr gl,In m.ts x/\(tk m.ts x).state=0):fj P n { m with pr:=pr,gl:=gl } :=
 ⟨h.n5,h.tl,h.pc,hm,hr,h.ce,h.pn,h.pw,h.ln,h.lw,h.gn,h.gw⟩
theorem fj.tell (h:fj P n m) (tr:List cy):fj P n { m with tr:=tr } :=
 ⟨h.n5,h.tl,h.pc,h.mv,h.rs,h.ce,h.pn,h.pw,h.ln,h.lw,h.gn,h.gw⟩
theorem fj.cell (h:fj P n m) {ce:List Int} (hc:ce.length=m.ce.length):fj P n { m with ce:=ce } :=
 ⟨h.n5,h.tl,h.pc,h.mv,h.rs,by rw [hc];exact h.ce,h.pn,h.pw,h.ln,h.lw,h.gn,h.gw⟩
theorem fj.pipe (h:fj P n m) {k:Nat} (hk:k<m.pi.length) {p:cR} (hp:PW P m.ts k p) (hc:p.Cap=m.pi[k].Cap):fj P n { m with pi:=m.pi.set k p } :=
 ⟨h.n5,h.tl,h.pc,h.mv,h.rs,h.ce,by rw [cr];exact h.pn,λj hj=>by
  rw [cr] at hj
  simp only [pX]
  split
  ·rename_i e;subst e;exact ⟨hp,hc.trans (h.pw k hj).2⟩
  ·exact h.pw j hj,h.ln,h.lw,h.gn,h.gw⟩
theorem fj.lock (h:fj P n m) {k:Nat} (hk:k<m.lo.length) {l:dj} (hl:LW P n m.ts k l):fj P n { m with lo:=m.lo.set k l } :=
 ⟨h.n5,h.tl,h.pc,h.mv,h.rs,h.ce,h.pn,h.pw,by rw [cr];exact h.ln,λj hj=>by
  rw [cr] at hj
  simp only [pX]
  split
  ·rename_i e;subst e;exact hl
  ·exact h.lw j hj,h.gn,h.gw⟩
theorem fj.grp (h:fj P n m) {k:Nat} (hk:k<m.gr.length) {g:cY} (hg:GW P m.ts k g):fj P n { m with gr:=m.gr.set k g } :=
 ⟨h.n5,h.tl,h.pc,h.mv,h.rs,h.ce,h.pn,h.pw,h.ln,h.lw,by rw [cr];exact h.gn,λj hj=>by
  rw [cr] at hj
  simp only [pX]
  split
  ·rename_i e;subst e;exact hg
  ·exact h.gw j hj⟩
theorem fj.next (h:fj P n m) (hn:n<=5000):fj P (n+1) m :=
 ⟨by omega,h.tl,h.pc,h.mv,h.rs,h.ce,h.pn,h.pw,h.ln,λk hk=>⟨(h.lw k hk).v,(h.lw k hk).w,by have:=(h.lw k hk).le;omega⟩,h.gn,h.gw⟩
end
structure A where
 ce:List Int
 it:Int->List Int
 cl:Int->Bool
 rd:Int->Int
 wr:Int->Bool
 ct:Int->Int
 n:Int
 en:Int->Bool
def upd {α:Type} (f:Int->α) (k:Int) (x:α):Int->α:=λj=>if j=k then x else f j
theorem cH {α:Type} (f:Int->α) (k:Int):upd f k (f k)=f:=funext λj=>by unfold upd;split<;>simp_all
theorem uG {α:Type} (f:Int->α) (k:Int) (x y:α):upd (upd f k x) k y=upd f k y:=funext λj=>by unfold upd;split<;>rfl
theorem oN {α:Type} (f:Int->α) (k:Int) (x:α):upd f k x k=x:=if_pos rfl
inductive Ev (P:cz):A->cy->A->Prop
 | say (a t v) (op:Int) (h:op=8):Ev P a ⟨t,op,0,v⟩ a
 | fin (a t) (h:1<=t/\t<=a.n):Ev P a ⟨t,9,0,0⟩ { a with en:=upd a.en t true }
 | go (a t) (h:a.n<64):Ev P a ⟨t,11,0,a.n+1⟩ { a with n:=a.n+1,en:=upd a.en (a.n+1) false }
 | load (a t b v) (h:0<=b/\b<P.Cells) (e:v=ix a.ce b):Ev P a ⟨t,12,b,v⟩ a
 | store (a t b v) (h:0<=b/\b<P.Cells):Ev P a ⟨t,13,b,v⟩ { a with ce:=a.ce.set b.toNat v }
 | send (a t k v) (h:0<=k/\k<(P.Pipes.length:Int)) (hc:a.cl k=false) (hl:(((a.it k).length:Nat):Int)+1<=max 1 (ix P.Pipes k)):Ev P a ⟨t,14,k,v⟩ { a with it:=upd a.it k (a.it k++[v]) }
 | get (a t k x r) (h:0<=k/\k<(P.Pipes.length:Int)) (hi:a.it k=x::r):Ev P a ⟨t,15,k,x⟩ { a with it:=upd a.it k r }
 | gone (a t k) (h:0<=k/\k<(P.Pipes.length:Int)) (hi:a.it k=[]) (hc:a.cl k=true):Ev P a ⟨t,15,k,0⟩ a
 | shut (a t k) (h:0<=k/\k<(P.Pipes.length:Int)) (hc:a.cl k=false):Ev P a ⟨t,16,k,0⟩ { a with cl:=upd a.cl k true }
 | lockw (a t k) (h:0<=k/\k<P.Locks) (h1:a.wr k=false) (h2:a.rd k=0):Ev P a ⟨t,17,k,1⟩ { a with wr:=upd a.wr k true }
 | lockr (a t k b) (h:0<=k/\k<P.Locks) (hb:b≠1) (h1:a.wr k=false) (h2:0<=a.rd k):Ev P a ⟨t,17,k,b⟩ { a with rd:=upd a.rd k (a.rd k+1) }
 | unlockw (a t k) (h:0<=k/\k<P.Locks) (h1:a.wr k=true):Ev P a ⟨t,18,k,1⟩ { a with wr:=upd a.wr k false }
 | unlockr (a t k b) (h:0<=k/\k<P.Locks) (hb:b≠1) (h1:0<a.rd k) (h2:a.wr k=false):Ev P a ⟨t,18,k,b⟩ { a with rd:=upd a.rd k (a.rd k-1) }
 | count (a t k v) (h:0<=k/\k<P.Groups) (h1:0<=a.ct k+v) (h2:a.ct k+v<=1000000000):Ev P a ⟨t,19,k,v⟩ { a with ct:=upd a.ct k (a.ct k+v) }
 | wait (a t k) (h:0<=k/\k<P.Groups) (h1:a.ct k=0):Ev P a ⟨t,20,k,0⟩ a
inductive hJ (P:cz):A->List cy->A->Prop
 | nil (a):hJ P a [] a
 | snoc {a es b e c} (r:hJ P a es b) (h:Ev P b e c) (ht:1<=e.Task/\e.Task<=b.n/\b.en e.Task=false):hJ P a (es++[e]) c
theorem hJ.trans {P:cz} {a b c:A} {es fs:List cy} (h1:hJ P a es b) (h2:hJ P b fs c):hJ P a (es++fs) c:=by
 induction h2 with
 | nil=>rw [jY];exact h1
 | snoc r h ht ih=>rw [←fJ];exact .snoc ih h ht
theorem hJ.one {P:cz} {a b:A} {e:cy} (h:Ev P a e b) (ht:1<=e.Task/\e.Task<=a.n/\a.en e.Task=false):hJ P a [e] b:=.snoc (.nil a) h ht
def tX {α:Type} (xs:List α) (k:Int):Option α:=if k<0 then none else xs[k.toNat]?
theorem xH {α:Type} {xs:List α} {k:Nat} (h:k<xs.length):tX xs (k:Int)=some xs[k]:=by
 unfold tX;rw [if_neg (by omega),eU,dz h]
theorem xI {α:Type} {xs:List α} {k:Nat} (h:k<xs.length) (y:α) (j:Int):tX (xs.set k y) j=if j=(k:Int) then some y else tX xs j:=by
 unfold tX;by_cases hj:j<0
 ·rw [if_pos hj,if_pos hj,if_neg (by omega)]
 ·rw [if_neg hj,if_neg hj,List.getElem?_set];by_cases e:j=(k:Int)
  ·subst e;rw [if_pos rfl,if_pos (by simp),if_pos h]
  ·rw [if_neg e,if_neg (by omega)]
theorem Lo {α:Type} (xs:List α) (y:α) (j:Int):tX (xs++[y]) j=if j=(xs.length:Int) then some y else tX xs j:=by
 unfold tX;by_cases hj:j<0
 ·rw [if_pos hj,if_pos hj,if_neg (by omega)]
 ·rw [if_neg hj,if_neg hj];by_cases e:j=(xs.length:Int)
  ·subst e;simp
  ·rw [if_neg e];rcases Nat.lt_or_ge j.toNat xs.length with h|h
   ·rw [iR h]
   ·rw [jB h,nk (by simp;omega),nk h]
def abs (m:M):A where
 ce:=m.ce
 it:=λk=>((tX m.pi k).map (·.Items)).getD []
 cl:=λk=>((tX m.pi k).map (·.Closed)).getD false
 rd:=λk=>((tX m.lo k).map (·.Readers)).getD 0
 wr:=λk=>((tX m.lo k).map (·.Writer)).getD false
 ct:=λk=>((tX m.gr k).map (·.Count)).getD 0
 n:=m.ts.length
 en:=λt=>((tX m.ts (t-1)).map (·.state==3)).getD false
section
variable {m:M}
theorem qB {k:Nat} (h:k<m.pi.length):(abs m).it k=m.pi[k].Items/\(abs m).cl k=m.pi[k].Closed:=by
 constructor<;>(unfold abs;simp only [xH h];rfl)
theorem Ab {k:Nat} (h:k<m.lo.length):(abs m).rd k=m.lo[k].Readers/\(abs m).wr k=m.lo[k].Writer:=by
 constructor<;>(unfold abs;simp only [xH h];rfl)
theorem DJ {k:Nat} (h:k<m.gr.length):(abs m).ct k=m.gr[k].Count:=by
 unfold abs;simp only [xH h];rfl
theorem tq {k:Nat} (h:k<m.pi.length) (p:cR):abs { m with pi:=m.pi.set k p } = { abs m with it:=upd (abs m).it k p.Items,cl:=upd (abs m).cl k p.Closed }:=by
 unfold abs upd;simp only [xI h,A.mk.injEq,true_and,k_];constructor<;>(funext j;split<;>rfl)
theorem yO {k:Nat} (h:k<m.lo.length) (l:dj):abs { m with lo:=m.lo.set k l } = { abs m with rd:=upd (abs m).rd k l.Readers,wr:=upd (abs m).wr k l.Writer }:=by
 unfold abs upd;simp only [xI h,A.mk.injEq,true_and,k_];constructor<;>(funext j;split<;>rfl)
theorem Fv {k:Nat} (h:k<m.gr.length) (g:cY):abs { m with gr:=m.gr.set k g } = { abs m with ct:=upd (abs m).ct k g.Count }:=by
 unfold abs upd;simp only [xI h,A.mk.injEq,true_and,k_];funext j;split<;>rfl
theorem Ac {t:Int} (h:In m.ts t):(abs m).en t=((tk m.ts t).state==3):=by
 obtain ⟨n,hn⟩:=ib (show 0<=t-1 by have:=h.1;omega);have:=h.2;unfold abs tk;simp only [hn];rw [xH (by omega),dp (by omega)];rfl
theorem Fw {t:Int} (h:In m.ts t) (x:cq):abs { m with ts:=su m.ts t x } = { abs m with en:=upd (abs m).en t (x.state==3) }:=by
 obtain ⟨n,hn⟩:=ib (show 0<=t-1 by have:=h.1;omega);have:=h.2;unfold abs upd su;simp only [hn,eU,xI (show n<m.ts.length by omega),A.mk.injEq,true_and,k_,cr];funext j;by_cases e:j=t
 ·rw [if_pos e,if_pos (by omega)];rfl
 ·rw [if_neg e,if_neg (by omega)]
theorem mN {t:Int} (h:In m.ts t) {x:cq} (h1:(tk m.ts t).state≠3) (h2:x.state≠3):abs { m with ts:=su m.ts t x }=abs m:=by
 rw [Fw h,show (x.state==3)=(abs m).en t from by rw [Ac h,show (x.state==3)=false from by simpa using h2,show ((tk m.ts t).state==3)=false from by simpa using h1],cH]
end
end
section
set_option maxRecDepth 100000
theorem mI {ts:List cq} {t:Int} (h:In ts t) (hl:ts.length<=64):dM t ts=some (t-1):=by
 have h1:=h.1;have h2:=h.2;unfold dM;rw [fI (by omega) (by omega),cG (by omega),cG (by omega)];rfl
theorem gT {ts:List cq} {t:Int} (h:In ts t):decide (0<=t-1/\t-1<(ts.length:Int))=true:=cG ⟨by have:=h.1;omega,by have:=h.2;omega⟩
theorem lB (t op ob v:Int) {tr:List cy} (h:tr.length<=1000000):du t op ob v tr=some (tr++[⟨t,op,ob,v⟩]):=by
 unfold du;rw [cG (by simp;omega)];rfl
theorem kw {a n:Int} (h:0<=a/\a<n):((decide ((0:Int)<=a))&&(decide (a<n)))=true:=by
 rw [cG h.1,cG h.2];rfl
structure Fr (p:Nat) (m m':M) (S:List Int):Prop where
 pi:m'.pi=m.pi
 lo:m'.lo=m.lo
 gr:m'.gr=m.gr
 ce:m'.ce=m.ce
 gl:m'.gl=m.gl
 tl:m'.ts.length=m.ts.length
 pl:m'.pr.length=m.pr.length
 now:∀ (h:p<m.pr.length) (h':p<m'.pr.length),m'.pr[p].now=m.pr[p].now
 tk:∀ t,In m.ts t->t∉S->tk m'.ts t=tk m.ts t
 en:(abs m').en=(abs m).en
theorem Fr.refl (p:Nat) (m:M):Fr p m m []:=⟨rfl,rfl,rfl,rfl,rfl,rfl,rfl,λ_ _=>rfl,λ_ _ _=>rfl,rfl⟩
theorem Fr.inn {p:Nat} {m m':M} {S:List Int} (h:Fr p m m' S) {t:Int} (ht:In m.ts t):In m'.ts t:=⟨ht.1,by rw [h.tl];exact ht.2⟩
theorem Fr.trans {p:Nat} {m m1 m2:M} {S T:List Int} (h1:Fr p m m1 S) (h2:Fr p m1 m2 T):Fr p m m2 (S++T) :=
 ⟨h2.pi.trans h1.pi,h2.lo.trans h1.lo,h2.gr.trans h1.gr,h2.ce.trans h1.ce,h2.gl.trans h1.gl,h2.tl.trans h1.tl,h2.pl.trans h1.pl,λh h'=>(h2.now (by rw [h1.pl];exact h) h').trans (h1.now h (by rw [h1.pl];exact h)),
  λt ht hn=>(h2.tk t (h1.inn ht) λe=>hn (jE _ e)).trans (h1.tk t ht λe=>hn (lL _ e)),h2.en.trans h1.en⟩
theorem Fr.abs {p:Nat} {m m':M} {S:List Int} (h:Fr p m m' S):abs m'=abs m:=by
 have:=h.en;unfold Go.Proofs.YthcdpjkgdcpkmaaGreatDoor.abs at this ⊢;rw [h.pi,h.lo,h.gr,h.ce,h.tl];simp only at this;rw [this]
theorem pf.of {m m':M} {t:Int} (h:pf m t) (h1:m'.pi=m.pi) (h2:m'.lo=m.lo) (h3:m'.gr=m.gr):pf m' t:=by
 obtain ⟨ts,pr,gl,ce,pi,lo,gr,tr⟩:=m;obtain ⟨ts',pr',gl',ce',pi',lo',gr',tr'⟩:=m';simp only at h1 h2 h3;subst h1 h2 h3;exact ⟨h.s,h.g,h.l,h.r⟩
theorem Wt.of {P:cz} {ts ts':List cq} {t:Int} {i:df} (h:Wt P ts t i) (hi:In ts' t) (e:tk ts' t=tk ts t):Wt P ts' t i :=
 ⟨hi,by rw [e];exact h.st,by rw [e];exact h.pc,by rw [e];exact h.at'⟩
section
variable {P:cz} {n:Nat} {m:M} (h:fj P n m) (hP:P.Code.length<=1000) {p:Nat} (hp:p<m.pr.length)
theorem fj.notal (h:fj P n m) {w:Int} {i:df} (hw:Wt P m.ts w i):w∉al m.pr m.gl:=λhm=>by
 have h1:=(h.rs w hm).2
 rw [hw.st] at h1
 exact absurd h1 (by decide)
include h hP hp
theorem xJ {w:Int} {i:df} (hw:Wt P m.ts w i) (hf:pf m w):∃ m',fY (p:Int) w m.ts m.pr m.gl=some (m.gl,m'.ts,m'.pr)/\fj P n m'/\Fr p m m' [w]/\m'.tr=m.tr:=by
 have hl:=h.tl;have hpc:=hw.pc;have ha:=h.notal hw;obtain ⟨k,hk⟩:=ib (show 0<=w-1 by have:=hw.inn.1;omega);have hk2:k<m.ts.length:=by have:=hw.inn.2;omega
 have hwk:w=((k+1:Nat):Int):=by omega
 have hx:tk m.ts w=m.ts[k]:=by unfold tk;rw [hk,dp hk2]
 have h1:fj P n { m with ts:=su m.ts w ⟨(tk m.ts w).pc+1,(tk m.ts w).r,(tk m.ts w).state,(tk m.ts w).when,(tk m.ts w).seq⟩ }:=h.set hw.inn hf (by simp only;omega) λe=>absurd e ha
 have hsu:∀ x:cq,su m.ts w x=m.ts.set k x:=λx=>by unfold su;rw [hk];rfl
 obtain ⟨pr',e,hm,hc,hpl,hp',hnow⟩:=Ft h.mv hp (t:=k) (c4:=su m.ts w ⟨(tk m.ts w).pc+1,(tk m.ts w).r,(tk m.ts w).state,(tk m.ts w).when,(tk m.ts w).seq⟩) (by rw [qA];exact hk2) (by rw [qA];exact hl.2) (by rw [←hwk];exact ha);refine ⟨{ m with ts:=su m.ts w ⟨(tk m.ts w).pc+1,(tk m.ts w).r,0,(tk m.ts w).when,(tk m.ts w).seq⟩,pr:=pr' },?_,?_,⟨rfl,rfl,rfl,rfl,rfl,qA ..,hpl,λ_ _=>hnow,λt ht hn=>ry ht hw.inn (by simpa using hn),?_⟩,rfl⟩
 ·unfold fY;rw [eW hp,cd,mI hw.inn hl.2,cx,gT hw.inn,cd,show ix m.ts (w-1)=tk m.ts w from rfl,fI (by omega) (by omega)];have e':=e;rw [←hwk] at e';rw [show m.ts.set (w-1).toNat _=su m.ts w _ from rfl,e',cx];rw [eW hp',cd];congr 3;simp only [hsu,List.set_set,ow]
 ·have h2:fj P n { m with ts:=su m.ts w ⟨(tk m.ts w).pc+1,(tk m.ts w).r,0,(tk m.ts w).when,(tk m.ts w).seq⟩ }:=h.set hw.inn hf (by simp only;omega) λe=>absurd e ha
  refine h2.procs hm λx hx=>?_
  rcases fg.1 (hc.mem_iff.1 hx) with hxw|hx
  ·rw [hxw,←hwk];exact ⟨hw.inn.su,by rw [iM hw.inn]⟩
  ·exact h2.rs x hx
 ·have:=mN (m:=m) hw.inn (x:=⟨(tk m.ts w).pc+1,(tk m.ts w).r,0,(tk m.ts w).when,(tk m.ts w).seq⟩) (by rw [hw.st];decide) (show (0:Int)≠3 by decide);exact dJ A.en this
theorem N7 {w:Int} {a k:Int} (ha:0<=a/\a<8) (hw:Wt P m.ts w ⟨15,a,k⟩) (hf:pf m w) (ht:m.tr.length<=900000) (v:Int) (ok:Bool):∃ m1 m',gF w ⟨15,a,k⟩ v ok m.tr m.ts=some (m.tr++[⟨w,15,k,v⟩],m1) /\
  fY (p:Int) w m1 m.pr m.gl=some (m.gl,m'.ts,m'.pr)/\fj P n m'/\Fr p m m' [w]/\m'.tr=m.tr:=by
 have hl:=h.tl;have hpc:=hw.pc;have hal:=h.notal hw;let x:cq:=⟨(tk m.ts w).pc,((tk m.ts w).r.set a v).set 7 (mU [(true,1)] ok),(tk m.ts w).state,(tk m.ts w).when,(tk m.ts w).seq⟩;have h1:fj P n { m with ts:=su m.ts w x }:=h.set hw.inn hf (by show 0<=(tk m.ts w).pc/\(tk m.ts w).pc<=_;omega) λe=>absurd e hal
 have hw1:Wt P (su m.ts w x) w ⟨15,a,k⟩:=⟨hw.inn.su,by rw [iM hw.inn];exact hw.st,by rw [iM hw.inn];exact hw.pc,by rw [iM hw.inn];exact hw.at'⟩;obtain ⟨m',e,hi,hfr,htr⟩:=xJ h1 hP hp hw1 (hf.of rfl rfl rfl);refine ⟨su m.ts w x,m',?_,e,hi,?_,htr⟩
 ·unfold gF;rw [mI hw.inn hl.2,cx,gT hw.inn,cd,kw (n:=((8:Nat):Int)) ha,cd,lB _ _ _ _ (by omega),cx];have e1:∀ y,m.ts.set (w-1).toNat y=su m.ts w y:=λ_=>rfl;have e2:∀ ts,ix ts (w-1)=tk ts w:=λ_=>rfl;simp only [e1,e2,iM hw.inn];exact dJ (λz=>some (m.tr++[(⟨w,15,k,v⟩:cy)],z)) (BZ m.ts w _ x)
 ·have ef:Fr p m { m with ts:=su m.ts w x } [w]:=⟨rfl,rfl,rfl,rfl,rfl,qA ..,rfl,λ_ _=>rfl,λt ht hn=>ry ht hw.inn (by simpa using hn),dJ A.en (mN hw.inn (by rw [hw.st];decide) (by show (tk m.ts w).state≠3;rw [hw.st];decide))⟩;have:=ef.trans hfr;exact ⟨this.pi,this.lo,this.gr,this.ce,this.gl,this.tl,this.pl,this.now,λt ht hn=>this.tk t ht (by simpa using hn),this.en⟩
end
section
variable {P:cz} {n:Nat} {m:M} (h:fj P n m) (hP:P.Code.length<=1000) {p:Nat} (hp:p<m.pr.length) (ht:m.tr.length<=800000)
include h hP hp ht
theorem xl (k ST:Int) (l:List de) (hn:(l.map (·.Task)).Nodup) (hl:l.length<=64) (hw:∀ x∈l,x.Panic=false/\(∃ a,0<=a/\a<8/\Wt P m.ts x.Task ⟨15,a,k⟩)/\pf m x.Task) :
 ∃m',dG (p:Int) k l P.Code ST m.tr m.ts m.pr m.gl=some (ST,m'.tr,m'.gl,m'.ts,m'.pr)/\fj P n m'/\Fr p m m' (l.map (·.Task))/\m'.tr=m.tr++l.map λx=>⟨x.Task,15,k,x.Value⟩:=by
 obtain ⟨r,e,m',hr,hi,hf,htr⟩:=ng (step:=fd (p:Int) k l P.Code ST) (s0:=(0,m.ts,m.pr,m.tr,m.gl)) (λs=>∃ (i:Nat) (mi:M),s=(((i:Nat):Int),mi.ts,mi.pr,mi.tr,mi.gl)/\i<=l.length/\fj P n mi/\Fr p m mi ((l.take i).map (·.Task))/\mi.tr=m.tr++(l.take i).map λx=>⟨x.Task,15,k,x.Value⟩) (λs=>((l.length:Int)-s.1).toNat) (λr=>∃ m',r=(ST,m'.tr,m'.gl,m'.ts,m'.pr)/\fj P n m'/\Fr p m m' (l.map (·.Task))/\m'.tr=m.tr++l.map λx=>⟨x.Task,15,k,x.Value⟩) (λs hs=>by
   obtain ⟨i,mi,rfl,hi,hI,hF,hT⟩:=hs;have hpi:p<mi.pr.length:=by rw [hF.pl];exact hp
   unfold fd;simp only;rw [eW hpi,cd];by_cases hlt:i<l.length
   ·obtain ⟨hpan,⟨a,ha1,ha2,hwt⟩,hfr⟩:=hw _ (eL hlt);have hni:l[i].Task∉(l.take i).map (·.Task):=by
     have:=vu hn (i:=i) (by rw [ep];exact hlt);rwa [oq,←List.map_take] at this
    have hwt':Wt P mi.ts l[i].Task ⟨15,a,k⟩:=hwt.of (hF.inn hwt.inn) (hF.tk _ hwt.inn hni);have htl:mi.tr.length<=900000:=by rw [hT];simp;omega
    obtain ⟨m1,m2,e1,e2,hI2,hF2,hT2⟩:=N7 hI hP hpi ⟨ha1,ha2⟩ hwt' (hfr.of hF.pi hF.lo hF.gr) htl l[i].Value l[i].Ok;refine .inl ⟨(((i+1:Nat):Int),m2.ts,m2.pr,mi.tr++[⟨l[i].Task,15,k,l[i].Value⟩],mi.gl),?_,⟨i+1,{ m2 with tr:=mi.tr++[⟨l[i].Task,15,k,l[i].Value⟩] },?_,hlt,hI2.tell _,?_,?_⟩,?_⟩
    ·have hpc:=hwt'.pc;have hat:=hwt'.at';have hpl2:p<m2.pr.length:=by rw [hF2.pl];exact hpi
     rw [j7 hlt,j8,dc,cd,cd,dp hlt,mI hwt'.inn hI.tl.2,cx,gT hwt'.inn,cd,show ix mi.ts (l[i].Task-1)=tk mi.ts l[i].Task from rfl,kw hpc,cd,hpan,cj,hat];rw [show ((15:Int)==14)=false from rfl,cj,e1,cx];unfold hZ;simp only;rw [eW hpi,cd,dp hlt,e2,cx,eW hpl2,cd,gC (by omega)]
    ·simp only [hF2.gl]
    ·have:=hF.trans hF2;rw [jZ hlt,kJ];exact ⟨this.pi,this.lo,this.gr,this.ce,this.gl,this.tl,this.pl,this.now,this.tk,this.en⟩
    ·simp only;rw [hT,jZ hlt,kJ,fJ];rfl
    ·simp only;omega
   ·refine .inr ⟨(ST,mi.tr,mi.gl,mi.ts,mi.pr),?_,mi,rfl,hI,?_,?_⟩
    ·rw [cP (by omega),cj];rfl
    ·rwa [kI (by omega)] at hF
    ·rwa [kI (by omega)] at hT) ⟨0,m,rfl,hU _,h,Fr.refl p m,by simp⟩
 refine ⟨m',?_,hi,hf,htr⟩;unfold dG;rw [eW hp,cd,e,hr]
theorem Bx {w b k v:Int} (hb:0<=b/\b<8) (hw:Wt P m.ts w ⟨14,k,b⟩) (hf:pf m w) (hv:v=(tk m.ts w).r.get b) (c ST:Int) :
 ∃m',dG (p:Int) k [⟨w,c,0,false,false⟩] P.Code ST m.tr m.ts m.pr m.gl=some (ST,m'.tr,m'.gl,m'.ts,m'.pr)/\fj P n m'/\Fr p m m' [w]/\m'.tr=m.tr++[⟨w,14,k,v⟩]:=by
 obtain ⟨m2,e2,hI2,hF2,hT2⟩:=xJ h hP hp hw hf;have hpl2:p<m2.pr.length:=by rw [hF2.pl];exact hp
 refine ⟨{ m2 with tr:=m.tr++[⟨w,14,k,v⟩] },?_,hI2.tell _,⟨hF2.pi,hF2.lo,hF2.gr,hF2.ce,hF2.gl,hF2.tl,hF2.pl,hF2.now,hF2.tk,hF2.en⟩,rfl⟩;unfold dG;rw [eW hp,cd];have hpc:=hw.pc;have hat:=hw.at';have E:fd (p:Int) k [⟨w,c,0,false,false⟩] P.Code ST (0,m.ts,m.pr,m.tr,m.gl)=some (.inl (1,m2.ts,m2.pr,m.tr++[⟨w,14,k,v⟩],m.gl)):=by
  unfold fd;simp only;rw [eW hp,cd];show (dM w m.ts).bind _=_;rw [mI hw.inn h.tl.2,cx,show ix ([⟨w,c,0,false,false⟩]:List de) 0=⟨w,c,0,false,false⟩ from rfl];simp only;rw [gT hw.inn,cd,show ix m.ts (w-1)=tk m.ts w from rfl,kw hpc,cd,cj,hat];simp only;rw [show ((14:Int)==14)=true from rfl,cd,mI hw.inn h.tl.2,cx,gT hw.inn,cd,kw (n:=((8:Nat):Int)) hb,cd,show ix m.ts (w-1)=tk m.ts w from rfl,←hv,lB _ _ _ _ (by omega),cx];unfold hZ;rw [eW hp,cd];show (fY (p:Int) w m.ts m.pr m.gl).bind _=_;rw [e2,cx,eW hpl2];rfl
 rw [kL E];refine f5 ?_;unfold fd;simp only;rw [eW hpl2,hF2.gl];rfl
omit hP in
theorem GO {w k:Int} {i:df} (hw:Wt P m.ts w i) (c ST:Int) (l:List de) :
  dG (p:Int) k (⟨w,c,0,false,true⟩::l) P.Code ST m.tr m.ts m.pr m.gl=some (2,m.tr++[⟨w,22,k,0⟩],m.gl,m.ts,m.pr):=by
 unfold dG;rw [eW hp,cd];refine f5 ?_;have hpc:=hw.pc;unfold fd dH;simp only;rw [eW hp,cd,tW];show (dM w m.ts).bind _=_;rw [mI hw.inn h.tl.2,cx,show ix ((⟨w,c,0,false,true⟩:de)::l) 0=⟨w,c,0,false,true⟩ from rfl];simp only;rw [gT hw.inn,cd,show ix m.ts (w-1)=tk m.ts w from rfl,kw hpc,cd,cd,lB _ _ _ _ (by omega)];rfl
end
end
section
set_option maxRecDepth 100000
def vw (P:cz) (es:List cy):Prop:=∀ (i:Nat) (e:cy),es[i]? = some e->e.Op=14->0<ix P.Pipes e.Obj\/∃ g,es[i+1]? = some g/\g.Op=15/\g.Obj=e.Obj/\g.Value=e.Value/\g.Task≠e.Task
theorem gD {P:cz} {es:List cy} (h:∀ e∈es,e.Op≠14):vw P es:=λi e he ho=>absurd ho (h e (pO he))
structure Ch (P:cz) (m m':M) (es:List cy):Prop where
 tr:m'.tr=m.tr++es
 run:hJ P (abs m) es (abs m')
 mt:vw P es
 len:es.length<=70
structure iv (P:cz) (n:Nat) (m:M) (p:Nat) (t:Int):Prop where
 inv:fj P n m
 n5:n<=5000
 hP:P.Code.length<=1000
 hp:p<m.pr.length
 tr:m.tr.length<=700000
 now:m.pr[p].now=t
 pos:1<=t
inductive DR (P:cz) (n:Nat) (m:M) (p:Nat) (t:Int):Bool->Int->List bV->M->Prop
 | go (m' es) (c:Ch P m m' es) (i:fj P (n+1) m') (hp:p<m'.pr.length) (now:m'.pr[p].now=t) (pc:(tk m'.ts t).pc=(tk m.ts t).pc) (e1:(abs m').en 1=(abs m).en 1) (pl:m'.pr.length=m.pr.length):DR P n m p t true 0 m'.pr m'
 | yld (m' es) (c:Ch P m m' es) (i:fj P (n+1) m') (hp:p<m'.pr.length) (now:m'.pr[p].now=0) (e1:(abs m').en 1=(abs m).en 1) (st:(tk m'.ts t).state=0) (pl:m'.pr.length=m.pr.length):DR P n m p t false 0 m'.pr m'
 | off (m' es) (c:Ch P m m' es) (i:fj P (n+1) m') (pr:m'.pr=m.pr.set p ⟨0,m.pr[p]!.Ring_Next,m.pr[p]!.Ring_List⟩) (st:(tk m'.ts t).state≠0) (e1:(abs m').en 1=(abs m).en 1):DR P n m p t false 0 m.pr m'
 | fin (m' es) (c:Ch P m m' es) (i:fj P (n+1) m') (pr:m'.pr=m.pr.set p ⟨0,m.pr[p]!.Ring_Next,m.pr[p]!.Ring_List⟩) (st:(tk m'.ts t).state=3) (h1:t=1) (e1:(abs m').en 1=true):DR P n m p t false 1 m.pr m'
 | pan (b:Bool) (m' es w ob) (run:hJ P (abs m) es (abs m')) (mt:vw P es) (len:es.length<=70) (tr:m'.tr=m.tr++es++[⟨w,22,ob,0⟩]) (hw:1<=w/\w<=(abs m').n/\(abs m').en w=false) (ho:0<=ob/\ob<=20) (e1:(abs m').en 1=(abs m).en 1) (hp:p<m'.pr.length) (now:m'.pr[p].now=t) (st:(tk m'.ts t).state=0) (in':In m'.ts t):DR P n m p t b 2 m'.pr m'
 | full (h:m.ts.length=64):DR P n m p t false 4 m.pr m
section
variable {P:cz} {n:Nat} {m:M} {p:Nat} {t:Int}
theorem iv.mem (c:iv P n m p t):t∈al m.pr m.gl:=(z_ c.hp).subset (lL _ (by rw [c.now,qz (by have:=c.pos;omega)];exact .head _))
theorem iv.inn (c:iv P n m p t):In m.ts t:=(c.inv.rs t c.mem).1
theorem iv.st (c:iv P n m p t):(tk m.ts t).state=0:=(c.inv.rs t c.mem).2
theorem iv.alive (c:iv P n m p t):1<=t/\t<=(abs m).n/\(abs m).en t=false:=⟨c.pos,c.inn.2,by rw [Ac c.inn,c.st];rfl⟩
theorem iv.free (c:iv P n m p t):pf m t:=c.inv.free (by rw [c.st];decide)
theorem Wt.alive {i:df} (w:Wt P m.ts t i):1<=t/\t<=(abs m).n/\(abs m).en t=false:=⟨w.inn.1,w.inn.2,by rw [Ac w.inn,w.st];rfl⟩
def offM (m:M) (p:Nat):M:={ m with pr:=m.pr.set p ⟨0,m.pr[p]!.Ring_Next,m.pr[p]!.Ring_List⟩ }
theorem AL {pr:List bV} (h:p<pr.length):pr[p]! = pr[p]:=oj pr p h
theorem iv.off (c:iv P n m p t):fj P n (offM m p)/\t∉al (offM m p).pr m.gl/\(t::al (offM m p).pr m.gl).Perm (al m.pr m.gl):=by
 have hc:(t::al (offM m p).pr m.gl).Perm (al m.pr m.gl):=by
  refine pW.2 λx=>?_
  have hp:=c.hp;have:=q9 x ⟨0,m.pr[p]!.Ring_Next,m.pr[p]!.Ring_List⟩ m.pr p c.hp;simp only [AL c.hp] at this;rw [←fF];unfold offM al;simp only [AL c.hp];have e:nz m.pr[p].now=[t]:=by rw [c.now,qz (by have:=c.pos;omega)]
  simp only [pl,rl,rg,nf,e,show nz 0=[] from rfl,List.count_nil] at this ⊢;omega
 have hi:=c.inv.mv.ids.perm hc;have hn:t∉al (offM m p).pr m.gl:=(rD.1 hi.nd).1;have hn0:=c.inv.mv.nn _ (eL c.hp);refine ⟨c.inv.procs (gl:=m.gl) ⟨hi.sub (List.sublist_cons_self _ _),uF c.inv.mv.nn ⟨iW _,by show 0<=m.pr[p]!.Ring_Next;rw [AL c.hp];exact hn0.2⟩,by rw [cr];exact c.inv.mv.ln⟩ λx hx=>c.inv.rs x (hc.mem_iff.1 (.tail _ hx)),hn,hc⟩
theorem iv.wait (c:iv P n m p t) (x:cq) (hx:0<=x.pc/\x.pc<=(P.Code.length:Int)):fj P n { offM m p with ts:=su m.ts t x }:=by
 obtain ⟨h1,h2,_⟩:=c.off;exact h1.set (t:=t) c.inn (c.free.of rfl rfl rfl) hx λe=>absurd e h2
def w1 (x:cq):cq:=⟨x.pc,x.r,1,x.when,x.seq⟩
theorem iv.pcw (c:iv P n m p t) {i:df} (hpc:(tk m.ts t).pc<(P.Code.length:Int)) (hi:ix P.Code (tk m.ts t).pc=i):Wt P (su m.ts t (w1 (tk m.ts t))) t i :=
 ⟨c.inn.su,by rw [iM c.inn];rfl,by rw [iM c.inn];exact ⟨(c.inv.pc _ (m_ c.inn)).1,hpc⟩,by rw [iM c.inn];exact hi⟩
theorem Ad (c:iv P n m p t):f8 t m.ts=some (false,su m.ts t (w1 (tk m.ts t))):=by
 unfold f8;rw [mI c.inn c.inv.tl.2,cx,gT c.inn,cd];rfl
theorem DK (c:iv P n m p t):abs { offM m p with ts:=su m.ts t (w1 (tk m.ts t)) }=abs m:=mN (m:=offM m p) c.inn (by show (tk m.ts t).state≠3;rw [c.st];decide) (show (1:Int)≠3 by decide)
theorem PW.su {ts:List cq} {k:Int} {q:cR} {x:cq} (h:PW P ts k q) (ht:In ts t) (h1:∀ y∈q.Senders,y.Task≠t) (h2:∀ y∈q.Getters,y.Task≠t):PW P (su ts t x) k q :=
 ⟨h.v,λy hy=>by
  obtain ⟨b,w,e⟩:=h.s y hy
  exact ⟨b,w.su ht (h1 y hy),by rw [ry w.inn ht (h1 y hy)];exact e⟩,λy hy=>by
  obtain ⟨a,w⟩:=h.g y hy
  exact ⟨a,w.su ht (h2 y hy)⟩⟩
theorem rX {k:Nat} (h:k<m.pi.length) {q:cR} (h1:q.Items=m.pi[k].Items) (h2:q.Closed=m.pi[k].Closed):abs { m with pi:=m.pi.set k q }=abs m:=by
 rw [tq h,h1,h2,←(qB h).1,←(qB h).2,cH,cH]
theorem dE.snoc {a b:List Int} (h:dE (a++b)) {t:Int} (ht:1<=t/\t<=64) (hn:t∉a++b):dE (a++[t]++b)/\dE (a++(b++[t])):=by
 have h1:dE (t::(a++b)):=⟨rD.2 ⟨hn,h.nd⟩,λx hx=>by
  rcases fg.1 hx with rfl|hx
  ·exact ht
  ·exact h.rg x hx⟩
 refine ⟨h1.perm ?_,h1.perm ?_⟩
 ·rw [fJ];exact List.perm_middle
 ·rw [←fJ];exact v_ _ _
theorem iv.t64 (c:iv P n m p t):1<=t/\t<=64:=⟨c.pos,by have:=c.inn.2;have:=c.inv.tl.2;omega⟩
def xK (P:cz) (n:Nat) (m:M) (p:Nat) (t:Int) (i:df):Prop:=∃ b ST pr' m',eF (p:Int) t i P.Code 0 m.tr m.ts m.pr m.gl m.pi=some (b,ST,m'.tr,m'.gl,m'.ts,pr',m'.pi) /\
 m'.ce=m.ce/\m'.lo=m.lo/\m'.gr=m.gr/\DR P n m p t b ST pr' m'
theorem iv.newW (c:iv P n m p t) {k:Nat} (hk:k<m.pi.length) {q:cR} (hq:PW P (su m.ts t (w1 (tk m.ts t))) k q) (h1:q.Items=m.pi[k].Items) (h2:q.Closed=m.pi[k].Closed) (h3:q.Cap=m.pi[k].Cap) :
  DR P n m p t false 0 m.pr { offM m p with ts:=su m.ts t (w1 (tk m.ts t)),pi:=m.pi.set k q }:=by
 have hpc:=c.inv.pc _ (m_ c.inn);have hI:=(c.wait (w1 (tk m.ts t)) hpc).pipe (k:=k) hk (p:=q) hq h3;have ha:abs { offM m p with ts:=su m.ts t (w1 (tk m.ts t)),pi:=m.pi.set k q }=abs m:=(rX (m:={ offM m p with ts:=su m.ts t (w1 (tk m.ts t)) }) hk h1 h2).trans (DK c);exact .off _ [] ⟨by simp [offM],by rw [ha];exact .nil _,gD (λe he=>by cases he),by simp⟩ (hI.next c.n5) rfl (by rw [iM c.inn];exact (by decide:(1:Int)≠0)) (by rw [ha])
theorem Lp (c:iv P n m p t) {k:Nat} {b:Int} (hk:k<m.pi.length) (hb:0<=b/\b<8) (hpc:(tk m.ts t).pc<(P.Code.length:Int)) (hi:ix P.Code (tk m.ts t).pc=⟨14,k,b⟩) (hA:∀ i:Int,0<=i->i<(P.Code.length:Int)->DC P (ix P.Code i)) (h20:P.Pipes.length<=20):xK P n m p t ⟨14,k,b⟩:=by
 obtain ⟨hw,hcap⟩:=c.inv.pw k hk
 have hf:=c.free
 have hpn:=c.inv.pn
 have hpcb:=c.inv.pc _ (m_ c.inn)
 have hsn:t∉m.pi[k].Senders.map (·.Task):=λhm=>by
  obtain ⟨x,hx,e⟩:=fK.1 hm
  exact hf.s k hk x hx e
 have hgn:t∉m.pi[k].Getters.map (·.Task):=λhm=>by
  obtain ⟨x,hx,e⟩:=fK.1 hm
  exact hf.g k hk x hx e
 have hkr:(0:Int)<=(k:Int)/\(k:Int)<(m.pi.length:Int):=by omega
 have hkp:(0:Int)<=(k:Int)/\(k:Int)<(P.Pipes.length:Int):=by omega
 have E:eF (p:Int) t ⟨14,k,b⟩ P.Code 0 m.tr m.ts m.pr m.gl m.pi=(mD m.pi[k] t ((tk m.ts t).r.get b) false).bind λr=>(bif r.2.2.2.1 then some (false,2,m.tr++[⟨t,22,k,0⟩],m.gl,m.ts,m.pr,m.pi.set k ⟨r.1,r.2.2.2.2.2.2.1,r.2.1,r.2.2.2.2.2.2.2.1,r.2.2.2.2.2.2.2.2.1⟩) else
   (bif (!r.2.2.1) then some (false,0,m.tr,m.gl,su m.ts t (w1 (tk m.ts t)),m.pr,m.pi.set k ⟨r.1,r.2.2.2.2.2.2.1,r.2.1,r.2.2.2.2.2.2.2.1,r.2.2.2.2.2.2.2.2.1⟩) else
   (dG (p:Int) k r.2.2.2.2.2.2.2.2.2 P.Code 0 (m.tr++[⟨t,14,k,(tk m.ts t).r.get b⟩]) m.ts m.pr m.gl).bind λq=>(bif (decide ((0:Int)<=(p:Int)/\(p:Int)<(q.2.2.2.2.length:Int))) then some (true,q.1,q.2.1,q.2.2.1,q.2.2.2.1,q.2.2.2.2,m.pi.set k ⟨r.1,r.2.2.2.2.2.2.1,r.2.1,r.2.2.2.2.2.2.2.1,r.2.2.2.2.2.2.2.2.1⟩) else none))):=by
  unfold eF dH d7
  simp only [eW c.hp,cd,mI c.inn c.inv.tl.2,cx,gT c.inn,Int.reduceBEq,kw hkr,kw (n:=((8:Nat):Int)) hb,dp hk,show ix m.ts (t-1)=tk m.ts t from rfl,lB _ _ _ _ (show m.tr.length<=1000000 by have:=c.tr;omega),Ad c,qA,eU]
 rcases NY hw.v c.pos hsn hgn ((tk m.ts t).r.get b) with ⟨hc,e⟩|⟨hc,g,gs,hg,e⟩|⟨hc,hg,hl,e⟩|⟨hc,hg,hl,e⟩
 ·-- closed
  refine ⟨false,2,m.pr,{ m with tr:=m.tr++[⟨t,22,k,0⟩],pi:=m.pi.set k ⟨m.pi[k].Cap,m.pi[k].Items,m.pi[k].Closed,m.pi[k].Senders,m.pi[k].Getters⟩ },by rw [E,e];rfl,rfl,rfl,rfl,?_⟩
  have ha:abs { m with tr:=m.tr++[⟨t,22,k,0⟩],pi:=m.pi.set k ⟨m.pi[k].Cap,m.pi[k].Items,m.pi[k].Closed,m.pi[k].Senders,m.pi[k].Getters⟩ }=abs m:=rX (m:=m) hk rfl rfl
  exact DR.pan (P:=P) (n:=n) (m:=m) (p:=p) (t:=t) false { m with tr:=m.tr++[⟨t,22,k,0⟩],pi:=m.pi.set k ⟨m.pi[k].Cap,m.pi[k].Items,m.pi[k].Closed,m.pi[k].Senders,m.pi[k].Getters⟩ } [] t k (by rw [ha];exact .nil _) (gD λe he=>by cases he) (by simp) (by simp) (by rw [ha];exact c.alive) ⟨by omega,by omega⟩ (by rw [ha]) c.hp c.now c.st c.inn
 ·-- someone waits to get
  obtain ⟨a,hwt⟩:=hw.g g (by rw [hg];exact .head _)
  have hcg:=hw.v.cg g (by rw [hg];exact .head _)
  have hgn2:=hw.v.gn (by rw [hg];simp)
  have hidg:=hw.v.ids.right
  rw [hg] at hidg
  have hnd:=(rD.1 (show (g.Task::gs.map (·.Task)).Nodup from hidg.nd))
  have hgt:g.Task≠t:=hf.g k hk g (by rw [hg];exact .head _)
  let q:cR:=⟨m.pi[k].Cap,m.pi[k].Items,m.pi[k].Closed,m.pi[k].Senders,gs⟩
  have hq:PW P m.ts k q:=⟨⟨hw.v.cap,hw.v.len,hw.v.ids.sub (by rw [hg];exact (List.Sublist.refl _).append (List.sublist_cons_self _ _)),hw.v.cs,λx hx=>hw.v.cg x (by rw [hg];exact .tail _ hx),λhs=>absurd (hw.v.sn hs).2.2 (by rw [hg];simp),λ_=>hgn2⟩,hw.s,λx hx=>hw.g x (by rw [hg];exact .tail _ hx)⟩
  have hI:=(c.inv.pipe hk (p:=q) hq rfl).tell (m.tr++[⟨t,14,k,(tk m.ts t).r.get b⟩])
  have hfree:pf { m with tr:=m.tr++[⟨t,14,k,(tk m.ts t).r.get b⟩],pi:=m.pi.set k q } g.Task:=by
   refine hI.freeAt hwt ?_
   rintro ⟨h1,h2,h3⟩
   simp only [eU,ow] at h3
   exact hnd.1 h3
  have har:0<=a/\a<8:=by
   have:=hA _ hwt.pc.1 hwt.pc.2
   rw [hwt.at'] at this
   exact GL this.a
  obtain ⟨m',e',hI',hF,hT⟩:=xl hI c.hP c.hp (by simp;have:=c.tr;omega) k 0 [⟨g.Task,g.Case,(tk m.ts t).r.get b,true,false⟩] (by simp) (by simp) (λx hx=>by
   rw [fO] at hx
   subst hx
   exact ⟨rfl,⟨a,har.1,har.2,hwt⟩,hfree⟩)
  have hpl:p<m'.pr.length:=by rw [hF.pl];exact c.hp
  refine ⟨true,0,m'.pr,m',?_,hF.ce,hF.lo,hF.gr,?_⟩
  ·rw [E,e]
   simp only [cx,cj,jF]
   rw [e',cx,eW hpl,cd,hF.pi]
  ·have ha1:abs { m with tr:=m.tr++[⟨t,14,k,(tk m.ts t).r.get b⟩],pi:=m.pi.set k q }=abs m:=rX (m:=m) (q:=q) hk rfl rfl
   have ha:abs m'=abs m:=hF.abs.trans ha1
   have hit:=qB hk
   refine .go _ [⟨t,14,k,(tk m.ts t).r.get b⟩,⟨g.Task,15,k,(tk m.ts t).r.get b⟩] ⟨by rw [hT];simp,?_,?_,by simp⟩ (hI'.next c.n5) hpl ((hF.now c.hp hpl).trans c.now) (by rw [hF.tk t c.inn (by simpa using λe=>hgt e.symm)]) (by rw [ha]) hF.pl
   ·rw [ha]
    refine hJ.trans (es:=[_]) (hJ.one (.send (abs m) t k ((tk m.ts t).r.get b) hkp (by rw [hit.2];exact hc) (by rw [hit.1,hgn2.2];simp;omega)) c.alive) (hJ.one ?_ ⟨hwt.alive.1,hwt.alive.2.1,hwt.alive.2.2⟩)
    have:=Ev.get (P:=P) { abs m with it:=upd (abs m).it k ((abs m).it k++[(tk m.ts t).r.get b]) } g.Task k ((tk m.ts t).r.get b) [] hkp (by simp only [oN,hit.1,hgn2.2];rfl)
    simp only [uG] at this
    rw [show upd (abs m).it k []=(abs m).it from by rw [show ([]:List Int)=(abs m).it k from by rw [hit.1,hgn2.2],cH]] at this
    exact this
   ·intro i e he ho
    have:i=0\/i=1\/2<=i:=by omega
    rcases this with rfl|rfl|h2
    ·cases he
     exact .inr ⟨⟨g.Task,15,k,(tk m.ts t).r.get b⟩,rfl,rfl,rfl,rfl,hgt⟩
    ·cases he;cases ho
    ·rw [nk (by simpa using h2)] at he;cases he
 ·-- there is room
  let q:cR:=⟨m.pi[k].Cap,m.pi[k].Items++[(tk m.ts t).r.get b],m.pi[k].Closed,m.pi[k].Senders,[]⟩
  have hs0:m.pi[k].Senders=[]:=by
   cases hS:m.pi[k].Senders with
   | nil=>rfl
   | cons s ss=>have:=hw.v.sn (by rw [hS];simp);omega
  have hq:PW P m.ts k q:=⟨⟨hw.v.cap,by show (((m.pi[k].Items++[_]).length:Nat):Int)<=_;rw [dW];show ((m.pi[k].Items.length+1:Nat):Int)<=m.pi[k].Cap;omega,hw.v.ids.sub (by show (m.pi[k].Senders.map (λx:cI=>x.Task)++[]).Sublist _;rw [jY];exact tw _ _),hw.v.cs,(λx hx=>by cases hx),(λhs=>absurd hs0 hs),(λhs=>absurd rfl hs)⟩,hw.s,(λx hx=>by cases hx)⟩
  have hI:=(c.inv.pipe hk (p:=q) hq rfl).tell (m.tr++[⟨t,14,k,(tk m.ts t).r.get b⟩])
  obtain ⟨m',e',hI',hF,hT⟩:=xl hI c.hP c.hp (by simp;have:=c.tr;omega) k 0 [] (by simp) (by simp) (λx hx=>by cases hx)
  have hpl:p<m'.pr.length:=by rw [hF.pl];exact c.hp
  refine ⟨true,0,m'.pr,m',?_,hF.ce,hF.lo,hF.gr,?_⟩
  ·rw [E,e]
   simp only [cx,cj,jF]
   rw [e',cx,eW hpl,cd,hF.pi]
  ·have ha:abs m' = { abs m with it:=upd (abs m).it k ((abs m).it k++[(tk m.ts t).r.get b]) }:=by
    rw [hF.abs]
    show abs { m with pi:=m.pi.set k q }=_
    rw [tq hk,(qB hk).1,show q.Closed=(abs m).cl k from (qB hk).2.symm,cH]
   refine .go _ [⟨t,14,k,(tk m.ts t).r.get b⟩] ⟨by rw [hT];simp,?_,?_,by simp⟩ (hI'.next c.n5) hpl ((hF.now c.hp hpl).trans c.now) (by rw [hF.tk t c.inn (by simp)]) (by rw [ha]) hF.pl
   ·rw [ha]
    exact hJ.one (.send (abs m) t k _ hkp (by rw [(qB hk).2];exact hc) (by rw [(qB hk).1,←hcap];omega)) c.alive
   ·intro i e he ho
    have:i=0\/1<=i:=by omega
    rcases this with rfl|h2
    ·cases he
     exact .inl (by show 0<ix P.Pipes k;rw [←hcap];omega)
    ·rw [nk (by simpa using h2)] at he;cases he
 ·-- it waits
  refine ⟨false,0,m.pr,{ offM m p with ts:=su m.ts t (w1 (tk m.ts t)),pi:=m.pi.set k ⟨m.pi[k].Cap,m.pi[k].Items,m.pi[k].Closed,m.pi[k].Senders++[⟨t,0,(tk m.ts t).r.get b⟩],[]⟩ },by rw [E,e];rfl,rfl,rfl,rfl,c.newW hk ?_ rfl rfl rfl⟩
  have h1:=hw.su (x:=w1 (tk m.ts t)) c.inn (hf.s k hk) (hf.g k hk)
  refine ⟨⟨hw.v.cap,hw.v.len,?_,?_,(λx hx=>by cases hx),(λ_=>⟨hc,hl,rfl⟩),(λhs=>absurd rfl hs)⟩,?_,(λx hx=>by cases hx)⟩
  ·show dE ((m.pi[k].Senders++[(⟨t,0,(tk m.ts t).r.get b⟩:cI)]).map (λx:cI=>x.Task)++[])
   have:=hw.v.ids
   rw [hg] at this
   have h2:=(this.snoc c.t64 (by simpa using hsn)).1
   simpa using h2
  ·intro x hx
   rcases gy.1 hx with hx|hx
   ·exact hw.v.cs x hx
   ·rw [fO] at hx;subst hx;rfl
  ·intro x hx
   rcases gy.1 hx with hx|hx
   ·exact h1.s x hx
   ·rw [fO] at hx
    subst hx
    exact ⟨b,c.pcw hpc hi,by rw [iM c.inn];rfl⟩
end
end
section
set_option maxRecDepth 100000
section
variable {P:cz} {n:Nat} {m:M} {p:Nat} {t:Int}
def gx (x:cq) (a v:Int) (ok:Bool):cq:=⟨x.pc,(x.r.set a v).set 7 (mU [(true,1)] ok),x.state,x.when,x.seq⟩
theorem uH (h:fj P n m) (ht:In m.ts t) (hs:(tk m.ts t).state=0) {a k:Int} (ha:0<=a/\a<8) (hl:m.tr.length<=900000) (v:Int) (ok:Bool) :
  gF t ⟨15,a,k⟩ v ok m.tr m.ts=some (m.tr++[⟨t,15,k,v⟩],su m.ts t (gx (tk m.ts t) a v ok))/\fj P n { m with ts:=su m.ts t (gx (tk m.ts t) a v ok),tr:=m.tr++[⟨t,15,k,v⟩] } /\
   abs { m with ts:=su m.ts t (gx (tk m.ts t) a v ok),tr:=m.tr++[⟨t,15,k,v⟩] }=abs m:=by
 refine ⟨?_,(h.set ht (h.free (by rw [hs];decide)) (x:=gx (tk m.ts t) a v ok) (show 0<=(tk m.ts t).pc/\(tk m.ts t).pc<=(P.Code.length:Int) from h.pc _ (m_ ht)) λ_=>hs).tell _,mN (m:=m) ht (by rw [hs];decide) (by show (tk m.ts t).state≠3;rw [hs];decide)⟩;unfold gF;rw [mI ht h.tl.2,cx,gT ht,cd,kw (n:=((8:Nat):Int)) ha,cd,lB _ _ _ _ (by omega),cx];have e1:∀ y,m.ts.set (t-1).toNat y=su m.ts t y:=λ_=>rfl;have e2:∀ ts,ix ts (t-1)=tk ts t:=λ_=>rfl;simp only [e1,e2,iM ht];exact dJ (λz=>some (m.tr++[(⟨t,15,k,v⟩:cy)],z)) (BZ m.ts t _ _)
theorem JZ {l:List Int} (h:l=[]):decide ((0:Int)<(l.length:Int))=false:=by rw [h];rfl
theorem Lq (c:iv P n m p t) {k:Nat} {a:Int} (hk:k<m.pi.length) (har:0<=a/\a<8) (hpc:(tk m.ts t).pc<(P.Code.length:Int)) (hi:ix P.Code (tk m.ts t).pc=⟨15,a,k⟩) (hA:∀ i:Int,0<=i->i<(P.Code.length:Int)->DC P (ix P.Code i)):xK P n m p t ⟨15,a,k⟩:=by
 obtain ⟨hw,hcap⟩:=c.inv.pw k hk
 have hf:=c.free
 have hpn:=c.inv.pn
 have htr:=c.tr
 have hsn:t∉m.pi[k].Senders.map (·.Task):=λhm=>by
  obtain ⟨x,hx,e⟩:=fK.1 hm
  exact hf.s k hk x hx e
 have hgn:t∉m.pi[k].Getters.map (·.Task):=λhm=>by
  obtain ⟨x,hx,e⟩:=fK.1 hm
  exact hf.g k hk x hx e
 have hkr:(0:Int)<=(k:Int)/\(k:Int)<(m.pi.length:Int):=by omega
 have hkp:(0:Int)<=(k:Int)/\(k:Int)<(P.Pipes.length:Int):=by omega
 have hit:=qB hk
 have E:eF (p:Int) t ⟨15,a,k⟩ P.Code 0 m.tr m.ts m.pr m.gl m.pi=(lU m.pi[k] t false).bind λr=>(bif (!r.2.2.1) then some (false,0,m.tr,m.gl,su m.ts t (w1 (tk m.ts t)),m.pr,m.pi.set k ⟨r.1,r.2.2.2.2.2.2.2.1,r.2.1,r.2.2.2.2.2.2.2.2.1,r.2.2.2.2.2.2.2.2.2.1⟩) else
   (bif (!(decide ((0:Int)<((m.pi[k].Items.length:Nat):Int)))) then (dG (p:Int) k r.2.2.2.2.2.2.2.2.2.2 P.Code 0 m.tr m.ts m.pr m.gl).bind λq=>(bif (decide ((0:Int)<=(p:Int)/\(p:Int)<(q.2.2.2.2.length:Int))) then
     fe (p:Int) t ⟨15,a,k⟩ P.Code m.pi q.1 q.2.2.2.1 q.2.2.2.2 (m.pi.set k ⟨r.1,r.2.2.2.2.2.2.2.1,r.2.1,r.2.2.2.2.2.2.2.2.1,r.2.2.2.2.2.2.2.2.2.1⟩) ⟨r.2.2.1,false,r.2.2.2.1,r.2.2.2.2.1,r.2.2.2.2.2.1,r.2.2.2.2.2.2.2.2.2.2⟩ q.2.1 q.2.2.1 else none)
    else fe (p:Int) t ⟨15,a,k⟩ P.Code m.pi 0 m.ts m.pr (m.pi.set k ⟨r.1,r.2.2.2.2.2.2.2.1,r.2.1,r.2.2.2.2.2.2.2.2.1,r.2.2.2.2.2.2.2.2.2.1⟩) ⟨r.2.2.1,false,r.2.2.2.1,r.2.2.2.2.1,r.2.2.2.2.2.1,r.2.2.2.2.2.2.2.2.2.2⟩ m.tr m.gl)):=by
  unfold eF
  simp only [eW c.hp,cd,mI c.inn c.inv.tl.2,cx,gT c.inn,Int.reduceBEq,cj,kw hkr,dp hk,Ad c,eU]
 -- a pipe from which one value is taken
 have hPW:∀ (q:cR),q.Cap=m.pi[k].Cap->q.Closed=m.pi[k].Closed->q.Getters=m.pi[k].Getters->(∀ x∈q.Senders,x∈m.pi[k].Senders)->q.Senders.Sublist m.pi[k].Senders->(q.Items.length:Int)<=q.Cap->(q.Senders≠[]->(q.Items.length:Int)=q.Cap)->(q.Getters≠[]->q.Items=[])->PW P m.ts k q:=by
  intro q h1 h2 h3 h4 h5 h6 h7 h8
  refine ⟨⟨by rw [h1];exact hw.v.cap,h6,by rw [h3];exact hw.v.ids.sub ((h5.map _).append (.refl _)),λx hx=>hw.v.cs x (h4 x hx),by rw [h3];exact hw.v.cg,λhs=>?_,λhg=>⟨by rw [h2];exact (hw.v.gn (by rw [←h3];exact hg)).1,h8 hg⟩⟩,λx hx=>hw.s x (h4 x hx),by rw [h3];exact hw.g⟩
  have hs':m.pi[k].Senders≠[]:=λe=>by
   cases hq:q.Senders with
   | nil=>exact hs hq
   | cons x r=>have:=h4 x (by rw [hq];exact .head _);rw [e] at this;cases this
  exact ⟨by rw [h2];exact (hw.v.sn hs').1,h7 hs,by rw [h3];exact (hw.v.sn hs').2.2⟩
 -- one that gets what is there, without more
 have plain:∀ (q:cR) (x:Int) (ok:Bool),PW P m.ts k q->q.Cap=m.pi[k].Cap->q.Closed=m.pi[k].Closed->Ev P (abs m) ⟨t,15,k,x⟩ { abs m with it:=upd (abs m).it k q.Items } ->
  ∃m',m'.ce=m.ce/\m'.lo=m.lo/\m'.gr=m.gr/\m'.gl=m.gl/\m'.pr=m.pr/\m'.ts=su m.ts t (gx (tk m.ts t) a x ok)/\m'.tr=m.tr++[⟨t,15,k,x⟩]/\m'.pi=m.pi.set k q/\DR P n m p t true 0 m.pr m':=by
  intro q x ok hq h1 h2 hev
  have hI:=c.inv.pipe hk hq h1
  obtain ⟨_,hI2,ha2⟩:=uH (t:=t) hI c.inn c.st (k:=k) har (by show m.tr.length<=900000;omega) x ok
  have h3:abs { m with ts:=su m.ts t (gx (tk m.ts t) a x ok),tr:=m.tr++[⟨t,15,k,x⟩],pi:=m.pi.set k q } = { abs m with it:=upd (abs m).it k q.Items }:=by
   refine ha2.trans ?_
   rw [tq hk,h2,←hit.2,cH]
  refine ⟨{ m with ts:=su m.ts t (gx (tk m.ts t) a x ok),tr:=m.tr++[⟨t,15,k,x⟩],pi:=m.pi.set k q },rfl,rfl,rfl,rfl,rfl,rfl,rfl,rfl,.go _ [⟨t,15,k,x⟩] ⟨rfl,?_,gD (λe he=>by rw [fO] at he;subst he;show (15:Int)≠14;decide),by simp⟩ (hI2.next c.n5) c.hp c.now (by rw [iM c.inn];rfl) (by rw [h3]) rfl⟩
  rw [h3]
  exact hJ.one hev c.alive
 rcases MT hw.v c.pos hsn hgn with ⟨x,r,hs,hI,e⟩|⟨s,ss,x,r,hs,hI,e⟩|⟨hs,hI,hc,e⟩|⟨hs,hI,hc,e⟩
 ·-- a value is there
  have hl:=hw.v.len
  rw [hI] at hl
  obtain ⟨m',e1,e2,e3,e4,e5,e6,e7,e8,hD⟩:=plain ⟨m.pi[k].Cap,r,m.pi[k].Closed,[],m.pi[k].Getters⟩ x true (hPW _ rfl rfl rfl (λx hx=>by cases hx) (List.nil_sublist _) (by simp at hl ⊢;omega) (λh=>absurd rfl h) (λh=>by have:=(hw.v.gn h).2;rw [hI] at this;cases this)) rfl rfl (.get _ t k x r hkp (by rw [hit.1,hI]))
  obtain ⟨hg,_,_⟩:=uH (t:=t) c.inv c.inn c.st (k:=k) har (by omega) x true
  refine ⟨true,0,m.pr,m',?_,e1,e2,e3,hD⟩
  rw [E,e]
  simp only [cx,cj,jF,hI,tW]
  unfold fe d7
  simp only [hg,eW c.hp,cd,cx,dp hk,hI,tW]
  rw [show dG (p:Int) k [] P.Code 0 (m.tr++[⟨t,15,k,x⟩]) (su m.ts t (gx (tk m.ts t) a x true)) m.pr m.gl=some (0,m.tr++[⟨t,15,k,x⟩],m.gl,su m.ts t (gx (tk m.ts t) a x true),m.pr) from by
   unfold dG
   rw [eW c.hp,cd]
   refine f5 ?_
   unfold fd
   simp only
   rw [eW c.hp];rfl]
  simp only [cx,eW c.hp,cd,e4,e6,e7,e8]
 ·-- someone waits to send
  obtain ⟨b,hwt,hval⟩:=hw.s s (by rw [hs];exact .head _)
  have hsn2:=hw.v.sn (by rw [hs];simp)
  have kM:=hw.v.ids.left
  rw [hs] at kM
  have hnd:=(rD.1 (show (s.Task::ss.map (·.Task)).Nodup from kM.nd))
  have hst:s.Task≠t:=hf.s k hk s (by rw [hs];exact .head _)
  have hbr:0<=b/\b<8:=by
   have:=hA _ hwt.pc.1 hwt.pc.2
   rw [hwt.at'] at this
   exact GL this.b
  have hcs:=hw.v.cs s (by rw [hs];exact .head _)
  have hlen:(r.length:Int)=m.pi[k].Cap:=by
   have:=dJ List.length hI
   simp at this
   omega
  let q:cR:=⟨m.pi[k].Cap,r,m.pi[k].Closed,ss,m.pi[k].Getters⟩
  have hq:PW P m.ts k q:=hPW q rfl rfl rfl (λx hx=>by rw [hs];exact .tail _ hx) (by rw [hs];exact List.sublist_cons_self _ _) (by show (r.length:Int)<=m.pi[k].Cap;omega) (λ_=>hlen) (λh=>absurd hsn2.2.2 h)
  have hIq:=c.inv.pipe hk hq rfl
  have hfree:pf { m with pi:=m.pi.set k q } s.Task:=by
   refine hIq.freeAt hwt ?_
   rintro ⟨h1,h2,h3⟩
   simp only [eU,ow] at h3
   exact hnd.1 h3
  cases hIt:m.pi[k].Items with
  | nil =>
   rw [hIt] at hI
   obtain ⟨rfl,rfl⟩:s.Value=x/\[]=r:=by simpa using hI
   obtain ⟨m',e',hI',hF,hT⟩:=Bx hIq c.hP c.hp (by show m.tr.length<=800000;omega) hbr hwt hfree hval s.Case 0
   have hpl:p<m'.pr.length:=by rw [hF.pl];exact c.hp
   have hin':In m'.ts t:=hF.inn c.inn
   have hts:tk m'.ts t=tk m.ts t:=hF.tk t c.inn (by simpa using λe=>hst e.symm)
   obtain ⟨hg,hI2,ha2⟩:=uH (t:=t) hI' hin' (by rw [hts];exact c.st) (k:=k) har (by rw [hT];simp;omega) s.Value true
   refine ⟨true,0,m'.pr,{ m' with ts:=su m'.ts t (gx (tk m'.ts t) a s.Value true),tr:=m'.tr++[⟨t,15,k,s.Value⟩] },?_,hF.ce,hF.lo,hF.gr,?_⟩
   ·rw [E,e]
    simp only [cx,cj,jF,JZ hIt,oo,cd]
    rw [e',cx,eW hpl,cd]
    unfold fe d7
    simp only [hg,eW hpl,cd,cx,dp hk,JZ hIt,cj,hF.pi]
    rfl
   ·have ha1:abs { m with pi:=m.pi.set k q }=abs m:=rX hk (by rw [hIt]) rfl
    have ha:abs { m' with ts:=su m'.ts t (gx (tk m'.ts t) a s.Value true),tr:=m'.tr++[⟨t,15,k,s.Value⟩] }=abs m:=ha2.trans (hF.abs.trans ha1)
    refine .go _ [⟨s.Task,14,k,s.Value⟩,⟨t,15,k,s.Value⟩] ⟨by simp [hT],?_,?_,by simp⟩ (hI2.next c.n5) hpl ((hF.now c.hp hpl).trans c.now) (by rw [iM hin'];show (tk m'.ts t).pc=_;rw [hts]) (by rw [ha]) hF.pl
    ·rw [ha]
     refine hJ.trans (es:=[_]) (hJ.one (.send (abs m) s.Task k s.Value hkp (by rw [hit.2];exact hsn2.1) (by rw [hit.1,hIt];simp<;>omega)) ⟨hwt.alive.1,hwt.alive.2.1,hwt.alive.2.2⟩) (hJ.one ?_ c.alive)
     have:=Ev.get (P:=P) { abs m with it:=upd (abs m).it k ((abs m).it k++[s.Value]) } t k s.Value [] hkp (by simp only [oN,hit.1,hIt];rfl)
     simp only [uG] at this
     rw [show upd (abs m).it k []=(abs m).it from by rw [show ([]:List Int)=(abs m).it k from by rw [hit.1,hIt],cH]] at this
     exact this
    ·intro i e he ho
     have:i=0\/i=1\/2<=i:=by omega
     rcases this with rfl|rfl|h2
     ·cases he
      exact .inr ⟨⟨t,15,k,s.Value⟩,rfl,rfl,rfl,rfl,λe=>hst e.symm⟩
     ·cases he;cases ho
     ·rw [nk (by simpa using h2)] at he;cases he
  | cons y ys =>
   rw [hIt] at hI
   obtain ⟨rfl,rfl⟩:y=x/\ys++[s.Value]=r:=by simpa using hI
   have hcap0:0<m.pi[k].Cap:=by rw [←hlen];simp<;>omega
   obtain ⟨hg,hI2,ha2⟩:=uH (t:=t) hIq c.inn c.st (k:=k) har (by show m.tr.length<=900000;omega) y true
   have hwt2:Wt P (su m.ts t (gx (tk m.ts t) a y true)) s.Task ⟨14,k,b⟩:=hwt.su c.inn hst
   obtain ⟨m',e',hI',hF,hT⟩:=Bx hI2 c.hP c.hp (by simp;omega) hbr hwt2 (hfree.of rfl rfl rfl) (v:=s.Value) (by rw [ry hwt.inn c.inn hst];exact hval) s.Case 0
   have hpl:p<m'.pr.length:=by rw [hF.pl];exact c.hp
   have hts:tk m'.ts t=gx (tk m.ts t) a y true:=(hF.tk t c.inn.su (by simpa using λe=>hst e.symm)).trans (iM c.inn)
   refine ⟨true,0,m'.pr,m',?_,hF.ce,hF.lo,hF.gr,?_⟩
   ·rw [E,e]
    simp only [cx,cj,jF,hIt,tW]
    unfold fe d7
    rw [hg]
    simp only [eW c.hp,cd,cx,dp hk,hIt,tW]
    rw [e']
    simp only [cx,eW hpl,cd,hF.pi]
    rfl
   ·have ha:abs m' = { abs m with it:=upd (abs m).it k (ys++[s.Value]) }:=by
     rw [hF.abs,ha2,tq hk,show q.Closed=(abs m).cl k from hit.2.symm,cH]
    refine .go _ [⟨t,15,k,y⟩,⟨s.Task,14,k,s.Value⟩] ⟨by rw [hT];simp,?_,?_,by simp⟩ (hI'.next c.n5) hpl ((hF.now c.hp hpl).trans c.now) (by rw [hts];rfl) (by rw [ha]) hF.pl
    ·rw [ha]
     refine hJ.trans (es:=[_]) (hJ.one (.get (abs m) t k y ys hkp (by rw [hit.1,hIt])) c.alive) (hJ.one ?_ ⟨hwt.alive.1,hwt.alive.2.1,hwt.alive.2.2⟩)
     have:=Ev.send (P:=P) { abs m with it:=upd (abs m).it k ys } s.Task k s.Value hkp (by show (abs m).cl k=false;rw [hit.2];exact hsn2.1) (by simp only [oN];rw [←hcap,←hlen];simp;omega)
     simp only [uG,oN] at this
     exact this
    ·intro i e he ho
     have:i=0\/i=1\/2<=i:=by omega
     rcases this with rfl|rfl|h2
     ·cases he;cases ho
     ·cases he
      exact .inl (by show 0<ix P.Pipes k;rw [←hcap];exact hcap0)
     ·rw [nk (by simpa using h2)] at he;cases he
 ·-- closed, and nothing is there
  obtain ⟨m',e1,e2,e3,e4,e5,e6,e7,e8,hD⟩:=plain ⟨m.pi[k].Cap,[],m.pi[k].Closed,[],m.pi[k].Getters⟩ 0 false (hPW _ rfl rfl rfl (λx hx=>by cases hx) (List.nil_sublist _) hw.v.cap.1 (λh=>absurd rfl h) (λ_=>rfl)) rfl rfl (by
    have:=Ev.gone (P:=P) (abs m) t k hkp (by rw [hit.1,hI]) (by rw [hit.2];exact hc)
    rw [show upd (abs m).it k []=(abs m).it from by rw [show ([]:List Int)=(abs m).it k from by rw [hit.1,hI],cH]]
    exact this)
  obtain ⟨hg,_,_⟩:=uH (t:=t) c.inv c.inn c.st (k:=k) har (by omega) 0 false
  refine ⟨true,0,m.pr,m',?_,e1,e2,e3,hD⟩
  rw [E,e]
  simp only [cx,cj,jF,JZ hI,oo,cd]
  rw [show dG (p:Int) k [] P.Code 0 m.tr m.ts m.pr m.gl=some (0,m.tr,m.gl,m.ts,m.pr) from by
   unfold dG
   rw [eW c.hp,cd]
   refine f5 ?_
   unfold fd
   simp only
   rw [eW c.hp];rfl]
  simp only [cx,eW c.hp,cd]
  unfold fe d7
  simp only [hg,eW c.hp,cd,cx,dp hk,JZ hI,cj,e4,e6,e7,e8]
 ·-- it waits
  refine ⟨false,0,m.pr,{ offM m p with ts:=su m.ts t (w1 (tk m.ts t)),pi:=m.pi.set k ⟨m.pi[k].Cap,[],m.pi[k].Closed,[],m.pi[k].Getters++[⟨t,0,0⟩]⟩ },by rw [E,e];rfl,rfl,rfl,rfl,c.newW hk ?_ hI.symm rfl rfl⟩
  have h1:=hw.su (x:=w1 (tk m.ts t)) c.inn (hf.s k hk) (hf.g k hk)
  refine ⟨⟨hw.v.cap,hw.v.cap.1,?_,(λx hx=>by cases hx),?_,(λhs=>absurd rfl hs),(λ_=>⟨hc,rfl⟩)⟩,(λx hx=>by cases hx),?_⟩
  ·show dE ([]++(m.pi[k].Getters++[(⟨t,0,0⟩:cI)]).map (λx:cI=>x.Task))
   have h2:=(hw.v.ids.right.snoc (a:=[]) c.t64 (by simpa using hgn)).2
   simpa using h2
  ·intro x hx
   rcases gy.1 hx with hx|hx
   ·exact hw.v.cg x hx
   ·rw [fO] at hx;subst hx;exact ⟨rfl,rfl⟩
  ·intro x hx
   rcases gy.1 hx with hx|hx
   ·exact h1.g x hx
   ·rw [fO] at hx
    subst hx
    exact ⟨a,c.pcw hpc hi⟩
theorem Lr (c:iv P n m p t) {k:Nat} {b:Int} (hk:k<m.pi.length) (hA:∀ i:Int,0<=i->i<(P.Code.length:Int)->DC P (ix P.Code i)) (h20:P.Pipes.length<=20):xK P n m p t ⟨16,k,b⟩:=by
 obtain ⟨hw,hcap⟩:=c.inv.pw k hk;have hpn:=c.inv.pn;have htr:=c.tr;have hkr:(0:Int)<=(k:Int)/\(k:Int)<(m.pi.length:Int):=by omega
 have hkp:(0:Int)<=(k:Int)/\(k:Int)<(P.Pipes.length:Int):=by omega
 have hit:=qB hk;have E:eF (p:Int) t ⟨16,k,b⟩ P.Code 0 m.tr m.ts m.pr m.gl m.pi=(oH m.pi[k]).bind λr=>(bif r.2.2.2.1 then some (false,2,m.tr++[⟨t,22,k,0⟩],m.gl,m.ts,m.pr,m.pi.set k ⟨r.1,r.2.2.2.2.2.1,r.2.1,r.2.2.2.2.2.2.1,r.2.2.2.2.2.2.2.1⟩) else
   (dG (p:Int) k r.2.2.2.2.2.2.2.2 P.Code 0 (m.tr++[⟨t,16,k,0⟩]) m.ts m.pr m.gl).bind λq=>(bif (decide ((0:Int)<=(p:Int)/\(p:Int)<(q.2.2.2.2.length:Int))) then some (true,q.1,q.2.1,q.2.2.1,q.2.2.2.1,q.2.2.2.2,m.pi.set k ⟨r.1,r.2.2.2.2.2.1,r.2.1,r.2.2.2.2.2.2.1,r.2.2.2.2.2.2.2.1⟩) else none)):=by
  unfold eF dH d7;simp only [eW c.hp,cd,mI c.inn c.inv.tl.2,cx,gT c.inn,Int.reduceBEq,cj,kw hkr,dp hk,lB _ _ _ _ (show m.tr.length<=1000000 by omega),eU]
 rcases NZ hw.v with ⟨hc,e⟩|⟨hc,e⟩
 ·refine ⟨false,2,m.pr,{ m with tr:=m.tr++[⟨t,22,k,0⟩],pi:=m.pi.set k ⟨m.pi[k].Cap,m.pi[k].Items,true,m.pi[k].Senders,m.pi[k].Getters⟩ },by rw [E,e];rfl,rfl,rfl,rfl,?_⟩;have ha:abs { m with tr:=m.tr++[⟨t,22,k,0⟩],pi:=m.pi.set k ⟨m.pi[k].Cap,m.pi[k].Items,true,m.pi[k].Senders,m.pi[k].Getters⟩ }=abs m:=rX (m:=m) hk rfl hc.symm;exact DR.pan (P:=P) (n:=n) (m:=m) (p:=p) (t:=t) false { m with tr:=m.tr++[⟨t,22,k,0⟩],pi:=m.pi.set k ⟨m.pi[k].Cap,m.pi[k].Items,true,m.pi[k].Senders,m.pi[k].Getters⟩ } [] t k (by rw [ha];exact .nil _) (gD λe he=>by cases he) (by simp) (by simp) (by rw [ha];exact c.alive) ⟨by omega,by omega⟩ (by rw [ha]) c.hp c.now c.st c.inn
 ·let q:cR:=⟨m.pi[k].Cap,m.pi[k].Items,true,[],[]⟩;have hq:PW P m.ts k q:=⟨⟨hw.v.cap,hw.v.len,⟨lC,λx hx=>by cases hx⟩,(λx hx=>by cases hx),(λx hx=>by cases hx),(λh=>absurd rfl h),(λh=>absurd rfl h)⟩,(λx hx=>by cases hx),(λx hx=>by cases hx)⟩;have hI:=(c.inv.pipe hk (p:=q) hq rfl).tell (m.tr++[⟨t,16,k,0⟩]);have ha1:abs { m with tr:=m.tr++[⟨t,16,k,0⟩],pi:=m.pi.set k q } = { abs m with cl:=upd (abs m).cl k true }:=by
   show abs { m with pi:=m.pi.set k q }=_;rw [tq hk,show q.Items=(abs m).it k from hit.1.symm,cH]
  have hrun:hJ P (abs m) [⟨t,16,k,0⟩] { abs m with cl:=upd (abs m).cl k true }:=hJ.one (.shut (abs m) t k hkp (by rw [hit.2];exact hc)) c.alive;have hfreeG:∀ x:cI,x∈m.pi[k].Getters\/x∈m.pi[k].Senders->∀ i,Wt P m.ts x.Task i->(∀ b,i=⟨14,k,b⟩\/True)->pf { m with tr:=m.tr++[⟨t,16,k,0⟩],pi:=m.pi.set k q } x.Task:=by
   intro x hx i hwt _;refine hI.freeAt hwt ?_;have hi':(∃ b,i=⟨14,k,b⟩)\/∃ a,i=⟨15,a,k⟩:=by
    rcases hx with hx|hx
    ·obtain ⟨a,h⟩:=hw.g x hx;exact .inr ⟨a,by rw [←hwt.at',←h.at']⟩
    ·obtain ⟨b,h,_⟩:=hw.s x hx;exact .inl ⟨b,by rw [←hwt.at',←h.at']⟩
   rcases hi' with ⟨b,rfl⟩|⟨a,rfl⟩
   ·rintro ⟨h1,h2,h3⟩;simp only [eU,ow] at h3;cases h3
   ·rintro ⟨h1,h2,h3⟩;simp only [eU,ow] at h3;cases h3
  cases hS:m.pi[k].Senders with
  | cons s ss =>
   obtain ⟨b',hwt,_⟩:=hw.s s (by rw [hS];exact .head _);have hg0:=(hw.v.sn (by rw [hS];simp)).2.2;have e':=GO hI c.hp (by simp;omega) hwt s.Case 0 (ss.map wU) (k:=k);refine ⟨true,2,m.pr,{ m with tr:=m.tr++[⟨t,16,k,0⟩]++[⟨s.Task,22,k,0⟩],pi:=m.pi.set k q },?_,rfl,rfl,rfl,?_⟩
   ·rw [E,e];simp only [cx,cj];rw [hg0,hS,k9,pL,gv];rw [show wU s=⟨s.Task,s.Case,0,false,true⟩ from rfl,e',cx,eW c.hp];rfl
   ·have hin:=hwt.alive;have ha2:abs { m with tr:=m.tr++[⟨t,16,k,0⟩]++[⟨s.Task,22,k,0⟩],pi:=m.pi.set k q } = { abs m with cl:=upd (abs m).cl k true }:=ha1;exact DR.pan (P:=P) (n:=n) (m:=m) (p:=p) (t:=t) true { m with tr:=m.tr++[⟨t,16,k,0⟩]++[⟨s.Task,22,k,0⟩],pi:=m.pi.set k q } [⟨t,16,k,0⟩] s.Task k (by rw [ha2];exact hrun) (gD λe he=>by rw [fO] at he;subst he;show (16:Int)≠14;decide) (by simp) rfl (by rw [ha2];exact hin) ⟨by omega,by omega⟩ (by rw [ha2]) c.hp c.now c.st c.inn
  | nil =>
   have hcg:=hw.v.cg;obtain ⟨m',e',hI',hF,hT⟩:=xl hI c.hP c.hp (by simp;omega) k 0 (m.pi[k].Getters.map v2) (by
     rw [ot];exact hw.v.ids.right.nd) (by rw [ep];exact hw.v.glen) (λx hx=>by
    obtain ⟨g,hg,rfl⟩:=fK.1 hx;obtain ⟨a,hwt⟩:=hw.g g hg;have har:0<=a/\a<8:=by
     have:=hA _ hwt.pc.1 hwt.pc.2;rw [hwt.at'] at this;exact GL this.a
    exact ⟨rfl,⟨a,har.1,har.2,hwt⟩,hfreeG g (.inl hg) _ hwt λ_=>.inr trivial⟩)
   have hpl:p<m'.pr.length:=by rw [hF.pl];exact c.hp
   have htG:t∉(m.pi[k].Getters.map v2).map (·.Task):=by
    rw [ot];intro hm;obtain ⟨x,hx,e⟩:=fK.1 hm;exact c.free.g k hk x hx e
   refine ⟨true,0,m'.pr,m',?_,hF.ce,hF.lo,hF.gr,?_⟩
   ·rw [E,e,hS];simp only [cx,cj,k9,jY];rw [e',cx,eW hpl,cd,hF.pi]
   ·have ha:abs m' = { abs m with cl:=upd (abs m).cl k true }:=hF.abs.trans ha1;refine .go _ (⟨t,16,k,0⟩::(m.pi[k].Getters.map v2).map λx=>⟨x.Task,15,k,x.Value⟩) ⟨by rw [hT];simp,?_,gD λe he=>?_,by simp;have:=hw.v.glen;omega⟩ (hI'.next c.n5) hpl ((hF.now c.hp hpl).trans c.now) (by rw [hF.tk t c.inn htG]) (by rw [ha]) hF.pl
    ·rw [ha,ot];refine hJ.trans (es:=[_]) hrun ?_;have key:∀ l:List cI,(∀ x∈l,x∈m.pi[k].Getters)->hJ P { abs m with cl:=upd (abs m).cl k true } (l.map ((λx:de=>(⟨x.Task,15,k,x.Value⟩:cy)) ∘ v2)) { abs m with cl:=upd (abs m).cl k true }:=by
      intro l;induction l with
      | nil=>exact λ_=>.nil _
      | cons x l ih =>
       intro hl;obtain ⟨a,hwt⟩:=hw.g x (hl x (.head _));have hg2:=(hw.v.gn (λe=>by have:=hl x (.head _);rw [e] at this;cases this)).2;refine hJ.trans (es:=[_]) (hJ.one (.gone _ x.Task k hkp (by show (abs m).it k=[];rw [hit.1,hg2]) (by simp only [oN])) ⟨hwt.alive.1,hwt.alive.2.1,hwt.alive.2.2⟩) (ih λy hy=>hl y (.tail _ hy))
     exact key _ λx hx=>hx
    ·rcases fg.1 he with rfl|he
     ·show (16:Int)≠14;decide
     ·obtain ⟨x,hx,rfl⟩:=fK.1 he;show (15:Int)≠14;decide
end
end
section
set_option maxRecDepth 100000
section
variable {P:cz} {n:Nat} {m:M} {p:Nat} {t:Int}
def sK (P:cz) (n:Nat) (m:M) (p:Nat) (t:Int) (i:df):Prop:=∃ b ST pr' m',e_ (p:Int) t i P.Code 0 m.tr m.ts m.pr m.gl m.lo m.gr=some (b,ST,m'.tr,m'.gl,m'.ts,pr',m'.lo,m'.gr) /\
 m'.ce=m.ce/\m'.pi=m.pi/\DR P n m p t b ST pr' m'
theorem By {k:Nat} (h:k<m.lo.length) {q:dj} (h1:q.Readers=m.lo[k].Readers) (h2:q.Writer=m.lo[k].Writer):abs { m with lo:=m.lo.set k q }=abs m:=by
 rw [yO h,h1,h2,←(Ab h).1,←(Ab h).2,cH,cH]
theorem DM {k:Nat} (h:k<m.gr.length) {q:cY} (h1:q.Count=m.gr[k].Count):abs { m with gr:=m.gr.set k q }=abs m:=by
 rw [Fv h,h1,←DJ h,cH]
theorem iv.newL (c:iv P n m p t) {k:Nat} (hk:k<m.lo.length) {q:dj} (hq:LW P (n+1) (su m.ts t (w1 (tk m.ts t))) k q) (h1:q.Readers=m.lo[k].Readers) (h2:q.Writer=m.lo[k].Writer) :
  DR P n m p t false 0 m.pr { offM m p with ts:=su m.ts t (w1 (tk m.ts t)),lo:=m.lo.set k q }:=by
 have hI:=((c.wait (w1 (tk m.ts t)) (show 0<=(tk m.ts t).pc/\(tk m.ts t).pc<=(P.Code.length:Int) from c.inv.pc _ (m_ c.inn))).next c.n5).lock (k:=k) hk (l:=q) hq;have ha:abs { offM m p with ts:=su m.ts t (w1 (tk m.ts t)),lo:=m.lo.set k q }=abs m:=(By (m:={ offM m p with ts:=su m.ts t (w1 (tk m.ts t)) }) hk h1 h2).trans (DK c);exact .off _ [] ⟨by simp [offM],by rw [ha];exact .nil _,gD (λe he=>by cases he),by simp⟩ hI rfl (by rw [iM c.inn];exact (by decide:(1:Int)≠0)) (by rw [ha])
theorem iv.newG (c:iv P n m p t) {k:Nat} (hk:k<m.gr.length) {q:cY} (hq:GW P (su m.ts t (w1 (tk m.ts t))) k q) (h1:q.Count=m.gr[k].Count) :
  DR P n m p t false 0 m.pr { offM m p with ts:=su m.ts t (w1 (tk m.ts t)),gr:=m.gr.set k q }:=by
 have hI:=((c.wait (w1 (tk m.ts t)) (show 0<=(tk m.ts t).pc/\(tk m.ts t).pc<=(P.Code.length:Int) from c.inv.pc _ (m_ c.inn))).next c.n5).grp (k:=k) hk (g:=q) hq;have ha:abs { offM m p with ts:=su m.ts t (w1 (tk m.ts t)),gr:=m.gr.set k q }=abs m:=(DM (m:={ offM m p with ts:=su m.ts t (w1 (tk m.ts t)) }) hk h1).trans (DK c);exact .off _ [] ⟨by simp [offM],by rw [ha];exact .nil _,gD (λe he=>by cases he),by simp⟩ hI rfl (by rw [iM c.inn];exact (by decide:(1:Int)≠0)) (by rw [ha])
theorem iv.goes (c:iv P n m p t) {m':M} {e:cy} (hI:fj P (n+1) m') (h1:m'.pr=m.pr) (h2:tk m'.ts t=tk m.ts t) (h3:m'.tr=m.tr++[e]) (hev:Ev P (abs m) e (abs m')) (he:e.Task=t) (ho:e.Op≠14) (h4:(abs m').en 1=(abs m).en 1):DR P n m p t true 0 m.pr m':=by
 rw [←h1];exact .go _ [e] ⟨h3,hJ.one hev (by rw [he];exact c.alive),gD (λx hx=>by rw [fO] at hx;rw [hx];exact ho),by simp⟩ hI (by rw [h1];exact c.hp) (by simp only [h1];exact c.now) (by rw [h2]) h4 (by rw [h1])
theorem Ls (c:iv P n m p t) {k:Nat} {b:Int} (hk:k<m.lo.length) (hpc:(tk m.ts t).pc<(P.Code.length:Int)) (hi:ix P.Code (tk m.ts t).pc=⟨17,k,b⟩):sK P n m p t ⟨17,k,b⟩:=by
 have hw:=c.inv.lw k hk;have hf:=c.free;have hln:=c.inv.ln;have hn1:t∉m.lo[k].Line.map (·.Task):=λhm=>by
  obtain ⟨x,hx,e⟩:=fK.1 hm;exact hf.l k hk x hx e
 have hkr:(0:Int)<=(k:Int)/\(k:Int)<(m.lo.length:Int):=by omega
 have E:e_ (p:Int) t ⟨17,k,b⟩ P.Code 0 m.tr m.ts m.pr m.gl m.lo m.gr=(mF m.lo[k] t (b==1) false).bind λr=>(bif (!r.2.2.1) then some (false,0,m.tr,m.gl,su m.ts t (w1 (tk m.ts t)),m.pr,m.lo.set k ⟨r.1,r.2.1,r.2.2.2.2⟩,m.gr) else
   some (true,0,m.tr++[⟨t,17,k,b⟩],m.gl,m.ts,m.pr,m.lo.set k ⟨r.1,r.2.1,r.2.2.2.2⟩,m.gr)):=by
  unfold e_ fu;simp only [eW c.hp,cd,mI c.inn c.inv.tl.2,cx,gT c.inn,Int.reduceBEq,kw hkr,dp hk,Ad c,lB _ _ _ _ (show m.tr.length<=1000000 by have:=c.tr;omega),eU]
 have hle:=hw.le;have hn5:=c.n5;have hrd:=hw.v.rd;have hlo:=Ab hk;rcases MW hw.v c.pos hn1 (b==1) with ⟨hl,hc,e⟩|⟨hl,e⟩
 ·let q:dj:=⟨if (b==1)=true then m.lo[k].Readers else m.lo[k].Readers+1,b==1,[]⟩;have hwr:m.lo[k].Writer=false:=by
   cases h:m.lo[k].Writer with
   | false=>rfl
   | true=>exact absurd (.inl h) hc
  have hq:LW P (n+1) m.ts k q:=by
   rw [hl] at hle;refine ⟨⟨?_,λh=>?_,⟨lC,λx hx=>by cases hx⟩,(λx hx=>by cases hx),(λw ws h=>by cases h)⟩,(λx hx=>by cases hx),?_⟩
   ·show 0<=(if (b==1)=true then m.lo[k].Readers else m.lo[k].Readers+1)/\(if (b==1)=true then m.lo[k].Readers else m.lo[k].Readers+1)<=6000;simp at hle;split<;>omega
   ·show (if (b==1)=true then m.lo[k].Readers else m.lo[k].Readers+1)=0;rw [if_pos h];rcases Int.lt_or_le 0 m.lo[k].Readers with h5|h5
    ·exact absurd (.inr ⟨h,h5⟩) hc
    ·omega
   ·show (if (b==1)=true then m.lo[k].Readers else m.lo[k].Readers+1)+(([]:List dR).length:Int)<=((n+1:Nat):Int);simp at hle ⊢;split<;>omega
  refine ⟨true,0,m.pr,{ m with tr:=m.tr++[⟨t,17,k,b⟩],lo:=m.lo.set k q },by rw [E,e];rfl,rfl,rfl,?_⟩;have ha:abs { m with tr:=m.tr++[⟨t,17,k,b⟩],lo:=m.lo.set k q } = { abs m with rd:=upd (abs m).rd k q.Readers,wr:=upd (abs m).wr k q.Writer }:=yO hk q;refine c.goes (((c.inv.next c.n5).lock hk hq).tell _) rfl rfl rfl ?_ rfl (show (17:Int)≠14 by decide) (by rw [ha]);rw [ha];have hkl:(0:Int)<=(k:Int)/\(k:Int)<P.Locks:=by omega
  by_cases hb:b=1
  ·subst hb;have hz:m.lo[k].Readers=0:=by
    rcases Int.lt_or_le 0 m.lo[k].Readers with h5|h5
    ·exact absurd (.inr ⟨rfl,h5⟩) hc
    ·omega
   have:=Ev.lockw (P:=P) (abs m) t k hkl (by rw [hlo.2];exact hwr) (by rw [hlo.1];exact hz);rw [show q.Readers=(abs m).rd k from hlo.1.symm,cH];exact this
  ·have:=Ev.lockr (P:=P) (abs m) t k b hkl hb (by rw [hlo.2];exact hwr) (by rw [hlo.1];exact hrd.1);have hbf:(b==1)=false:=by simpa using hb
   have e1:q.Readers=(abs m).rd k+1:=by
    show (if (b==1)=true then m.lo[k].Readers else m.lo[k].Readers+1)=_;rw [hbf,if_neg (by simp),hlo.1]
   have e2:q.Writer=(abs m).wr k:=by
    show (b==1)=_;rw [hbf,hlo.2,hwr]
   rw [e1,e2,cH];exact this
 ·refine ⟨false,0,m.pr,{ offM m p with ts:=su m.ts t (w1 (tk m.ts t)),lo:=m.lo.set k ⟨m.lo[k].Readers,m.lo[k].Writer,m.lo[k].Line++[⟨t,b==1,0⟩]⟩ },by rw [E,e];rfl,rfl,rfl,c.newL hk ?_ rfl rfl⟩;refine ⟨⟨hrd,hw.v.wr,?_,?_,?_⟩,?_,?_⟩
  ·show dE ((m.lo[k].Line++[(⟨t,b==1,0⟩:dR)]).map (λx:dR=>x.Task));have h2:=(hw.v.ids.snoc (a:=[]) c.t64 (by simpa using hn1)).2;simpa using h2
  ·intro x hx;rcases gy.1 hx with hx|hx
   ·exact hw.v.n x hx
   ·rw [fO] at hx;subst hx;rfl
  ·intro w ws hws;cases hL:m.lo[k].Line with
   | nil =>
    have hws':m.lo[k].Line++[⟨t,b==1,0⟩]=w::ws:=hws;rw [hL] at hws';obtain ⟨rfl,_⟩:(⟨t,b==1,0⟩:dR)=w/\[]=ws:=by simpa using hws'
    exact hl hL
   | cons y ys =>
    have hws':m.lo[k].Line++[⟨t,b==1,0⟩]=w::ws:=hws;rw [hL] at hws';obtain ⟨rfl,_⟩:y=w/\ys++[⟨t,b==1,0⟩]=ws:=by simpa using hws'
    exact hw.v.hd _ _ hL
  ·intro x hx;rcases gy.1 hx with hx|hx
   ·obtain ⟨b',w,e'⟩:=hw.w x hx;exact ⟨b',w.su c.inn (hf.l k hk x hx),e'⟩
   ·rw [fO] at hx;subst hx;exact ⟨b,c.pcw hpc hi,rfl⟩
  ·show m.lo[k].Readers+((m.lo[k].Line++[_]).length:Int)<=((n+1:Nat):Int);rw [dW];show m.lo[k].Readers+((m.lo[k].Line.length+1:Nat):Int)<=_;omega
theorem GP (h:fj P n m) (hP:P.Code.length<=1000) (hp:p<m.pr.length) (ht:m.tr.length<=800000) (k b ST:Int) (l:List Int) (hn:l.Nodup) (hl:l.length<=64) (hw:∀ x∈l,(∃ b,Wt P m.ts x ⟨17,k,b⟩)/\pf m x) :
 ∃m',dB (h_ (p:Int) ⟨18,k,b⟩ P.Code ST m.gr) ((l.length:Int),0,m.ts,m.pr,m.lo,l,m.tr,m.gl)=some (true,ST,m'.tr,m'.gl,m'.ts,m'.pr,m'.lo,m'.gr)/\fj P n m'/\Fr p m m' l /\
   m'.tr=m.tr++l.map λx=>⟨x,17,k,(ix P.Code (tk m.ts x).pc).B⟩:=by
 obtain ⟨r,e,m',hr,hi,hf,htr⟩:=ng (step:=h_ (p:Int) ⟨18,k,b⟩ P.Code ST m.gr) (s0:=((l.length:Int),0,m.ts,m.pr,m.lo,l,m.tr,m.gl)) (λs=>∃ (i:Nat) (mi:M),s=((l.length:Int),((i:Nat):Int),mi.ts,mi.pr,m.lo,l,mi.tr,mi.gl)/\i<=l.length/\fj P n mi/\Fr p m mi (l.take i)/\mi.tr=m.tr++(l.take i).map λx=>⟨x,17,k,(ix P.Code (tk m.ts x).pc).B⟩) (λs=>((l.length:Int)-s.2.1).toNat) (λr=>∃ m',r=(true,ST,m'.tr,m'.gl,m'.ts,m'.pr,m'.lo,m'.gr)/\fj P n m'/\Fr p m m' l/\m'.tr=m.tr++l.map λx=>⟨x,17,k,(ix P.Code (tk m.ts x).pc).B⟩) (λs hs=>by
   obtain ⟨i,mi,rfl,hi,hI,hF,hT⟩:=hs;have hpi:p<mi.pr.length:=by rw [hF.pl];exact hp
   unfold h_;simp only;rw [eW hpi,cd];by_cases hlt:i<l.length
   ·obtain ⟨⟨b',hwt⟩,hfr⟩:=hw _ (eL hlt);have hni:l[i]∉l.take i:=vu hn hlt;have htk:=hF.tk _ hwt.inn hni;have hwt':Wt P mi.ts l[i] ⟨17,k,b'⟩:=hwt.of (hF.inn hwt.inn) htk;have htl:mi.tr.length<=900000:=by rw [hT];simp;omega
    obtain ⟨m2,e2,hI2,hF2,hT2⟩:=xJ hI hP hpi hwt' (hfr.of hF.pi hF.lo hF.gr);have hpl2:p<m2.pr.length:=by rw [hF2.pl];exact hpi
    refine .inl ⟨((l.length:Int),((i+1:Nat):Int),m2.ts,m2.pr,m.lo,l,mi.tr++[⟨l[i],17,k,(ix P.Code (tk m.ts l[i]).pc).B⟩],mi.gl),?_,⟨i+1,{ m2 with tr:=mi.tr++[⟨l[i],17,k,(ix P.Code (tk m.ts l[i]).pc).B⟩] },?_,hlt,hI2.tell _,?_,?_⟩,?_⟩
    ·rw [j7 hlt,j8,dc,cd,cd,dp hlt,mI hwt'.inn hI.tl.2,cx,gT hwt'.inn,cd,show ix mi.ts (l[i]-1)=tk mi.ts l[i] from rfl,kw hwt'.pc,cd,lB _ _ _ _ (by omega),cx,e2,cx,eW hpl2,cd,gC (by omega),htk]
    ·simp only [hF2.gl]
    ·have:=hF.trans hF2;rw [jZ hlt];exact ⟨this.pi,this.lo,this.gr,this.ce,this.gl,this.tl,this.pl,this.now,this.tk,this.en⟩
    ·simp only;rw [hT,jZ hlt,kJ,fJ];rfl
    ·simp only;omega
   ·refine .inr ⟨(true,ST,mi.tr,mi.gl,mi.ts,mi.pr,mi.lo,mi.gr),?_,mi,rfl,hI,?_,?_⟩
    ·rw [cP (by omega),cj,hF.lo,hF.gr];rfl
    ·rwa [kI (by omega)] at hF
    ·rwa [kI (by omega)] at hT) ⟨0,m,rfl,hU _,h,Fr.refl p m,by simp⟩
 exact ⟨m',by rw [e,hr],hi,hf,htr⟩
theorem Io (h:fj P n m) (hP:P.Code.length<=1000) (hp:p<m.pr.length) (ht:m.tr.length<=800000) (k b ST:Int) (l:List Int) (hn:l.Nodup) (hl:l.length<=64) (hw:∀ x∈l,(∃ b,Wt P m.ts x ⟨20,k,b⟩)/\pf m x) :
 ∃m',dB (ia (p:Int) ⟨19,k,b⟩ ST m.lo) ((l.length:Int),0,m.ts,m.pr,m.gr,l,m.tr,m.gl)=some (true,ST,m'.tr,m'.gl,m'.ts,m'.pr,m'.lo,m'.gr)/\fj P n m'/\Fr p m m' l /\
   m'.tr=m.tr++l.map λx=>⟨x,20,k,0⟩:=by
 obtain ⟨r,e,m',hr,hi,hf,htr⟩:=ng (step:=ia (p:Int) ⟨19,k,b⟩ ST m.lo) (s0:=((l.length:Int),0,m.ts,m.pr,m.gr,l,m.tr,m.gl)) (λs=>∃ (i:Nat) (mi:M),s=((l.length:Int),((i:Nat):Int),mi.ts,mi.pr,m.gr,l,mi.tr,mi.gl)/\i<=l.length/\fj P n mi/\Fr p m mi (l.take i)/\mi.tr=m.tr++(l.take i).map λx=>⟨x,20,k,0⟩) (λs=>((l.length:Int)-s.2.1).toNat) (λr=>∃ m',r=(true,ST,m'.tr,m'.gl,m'.ts,m'.pr,m'.lo,m'.gr)/\fj P n m'/\Fr p m m' l/\m'.tr=m.tr++l.map λx=>⟨x,20,k,0⟩) (λs hs=>by
   obtain ⟨i,mi,rfl,hi,hI,hF,hT⟩:=hs;have hpi:p<mi.pr.length:=by rw [hF.pl];exact hp
   unfold ia;simp only;rw [eW hpi,cd];by_cases hlt:i<l.length
   ·obtain ⟨⟨b',hwt⟩,hfr⟩:=hw _ (eL hlt);have hni:l[i]∉l.take i:=vu hn hlt;have hwt':Wt P mi.ts l[i] ⟨20,k,b'⟩:=hwt.of (hF.inn hwt.inn) (hF.tk _ hwt.inn hni);have htl:mi.tr.length<=900000:=by rw [hT];simp;omega
    obtain ⟨m2,e2,hI2,hF2,hT2⟩:=xJ hI hP hpi hwt' (hfr.of hF.pi hF.lo hF.gr);have hpl2:p<m2.pr.length:=by rw [hF2.pl];exact hpi
    refine .inl ⟨((l.length:Int),((i+1:Nat):Int),m2.ts,m2.pr,m.gr,l,mi.tr++[⟨l[i],20,k,0⟩],mi.gl),?_,⟨i+1,{ m2 with tr:=mi.tr++[⟨l[i],20,k,0⟩] },?_,hlt,hI2.tell _,?_,?_⟩,?_⟩
    ·rw [j7 hlt,j8,dc,cd,cd,dp hlt,lB _ _ _ _ (by omega),cx,e2,cx,eW hpl2,cd,gC (by omega)]
    ·simp only [hF2.gl]
    ·have:=hF.trans hF2;rw [jZ hlt];exact ⟨this.pi,this.lo,this.gr,this.ce,this.gl,this.tl,this.pl,this.now,this.tk,this.en⟩
    ·simp only;rw [hT,jZ hlt,kJ,fJ];rfl
    ·simp only;omega
   ·refine .inr ⟨(true,ST,mi.tr,mi.gl,mi.ts,mi.pr,mi.lo,mi.gr),?_,mi,rfl,hI,?_,?_⟩
    ·rw [cP (by omega),cj,hF.lo,hF.gr];rfl
    ·rwa [kI (by omega)] at hF
    ·rwa [kI (by omega)] at hT) ⟨0,m,rfl,hU _,h,Fr.refl p m,by simp⟩
 exact ⟨m',by rw [e,hr],hi,hf,htr⟩
theorem Fx {k:Int} (hk:0<=k/\k<P.Locks) (B:dR->Int):∀ (ws:List dR) (a:A),0<=a.rd k->(∀ w∈ws,(w.Write=(B w==1))/\1<=w.Task/\w.Task<=a.n/\a.en w.Task=false) ->
  hJ P a ((adm (a.rd k) (a.wr k) ws).1.map λw=>⟨w.Task,17,k,B w⟩) { a with rd:=upd a.rd k (adm (a.rd k) (a.wr k) ws).2.1,wr:=upd a.wr k (adm (a.rd k) (a.wr k) ws).2.2.1 }
 | [],a,h,_=>by
  unfold adm
  simp only [cH,k9]
  exact .nil _
 | w::ws,a,h,hB=>by
  obtain ⟨hB1,hw⟩:=hB w (.head _)
  unfold adm
  by_cases hc:a.wr k=true\/(w.Write=true/\0<a.rd k)
  ·rw [if_pos hc]
   simp only [cH,k9]
   exact .nil _
  ·rw [if_neg hc]
   simp only [gv]
   have hwr:a.wr k=false:=by
    cases h:a.wr k with
    | false=>rfl
    | true=>exact absurd (.inl h) hc
   have hev:Ev P a ⟨w.Task,17,k,B w⟩ { a with rd:=upd a.rd k (if w.Write=true then a.rd k else a.rd k+1),wr:=upd a.wr k w.Write }:=by
    by_cases hb:B w=1
    ·have hwt:w.Write=true:=by rw [hB1,hb];rfl
     rw [if_pos hwt,cH,hwt,hb];refine .lockw a _ k hk hwr ?_;rcases Int.lt_or_le 0 (a.rd k) with h5|h5
     ·exact absurd (.inr ⟨hwt,h5⟩) hc
     ·omega
    ·have hwt:w.Write=false:=by rw [hB1];simpa using hb
     rw [hwt,if_neg (by simp),show upd a.wr k false=a.wr from by rw [←hwr,cH]];exact .lockr a _ k _ hk hb hwr h
   have ih:=Fx hk B ws { a with rd:=upd a.rd k (if w.Write=true then a.rd k else a.rd k+1),wr:=upd a.wr k w.Write } (by simp only [oN];split<;>omega) (λx hx=>hB x (.tail _ hx));simp only [oN,uG] at ih;exact hJ.trans (es:=[_]) (hJ.one hev hw) ih
end
end
section
set_option maxRecDepth 100000
section
variable {P:cz} {n:Nat} {m:M} {p:Nat} {t:Int}
theorem Lt (c:iv P n m p t) {k:Nat} {b:Int} (hk:k<m.lo.length) (h20:P.Locks<=20):sK P n m p t ⟨18,k,b⟩:=by
 have hw:=c.inv.lw k hk;have hln:=c.inv.ln;have htr:=c.tr;have hkr:(0:Int)<=(k:Int)/\(k:Int)<(m.lo.length:Int):=by omega
 have hkl:(0:Int)<=(k:Int)/\(k:Int)<P.Locks:=by omega
 have E:e_ (p:Int) t ⟨18,k,b⟩ P.Code 0 m.tr m.ts m.pr m.gl m.lo m.gr=(nG m.lo[k] (b==1)).bind λr=>(bif r.2.2.1 then some (false,2,m.tr++[⟨t,22,k,0⟩],m.gl,m.ts,m.pr,m.lo.set k ⟨r.1,r.2.1,r.2.2.2.2.1⟩,m.gr) else
   dB (h_ (p:Int) ⟨18,k,b⟩ P.Code 0 m.gr) ((r.2.2.2.2.2.length:Int),0,m.ts,m.pr,m.lo.set k ⟨r.1,r.2.1,r.2.2.2.2.1⟩,r.2.2.2.2.2,m.tr++[⟨t,18,k,b⟩],m.gl)):=by
  unfold e_ dH;simp only [eW c.hp,cd,cj,mI c.inn c.inv.tl.2,cx,gT c.inn,Int.reduceBEq,kw hkr,dp hk,lB _ _ _ _ (show m.tr.length<=1000000 by omega),eU]
 have hle:=hw.le;have hrd:=hw.v.rd;have hlo:=Ab hk;rcases MX hw.v (b==1) with ⟨hc,e⟩|⟨hc,e⟩
 ·refine ⟨false,2,m.pr,{ m with tr:=m.tr++[⟨t,22,k,0⟩],lo:=m.lo.set k ⟨m.lo[k].Readers,m.lo[k].Writer,m.lo[k].Line⟩ },by rw [E,e];rfl,rfl,rfl,?_⟩;have ha:abs { m with tr:=m.tr++[⟨t,22,k,0⟩],lo:=m.lo.set k ⟨m.lo[k].Readers,m.lo[k].Writer,m.lo[k].Line⟩ }=abs m:=By (m:=m) hk rfl rfl;exact DR.pan (P:=P) (n:=n) (m:=m) (p:=p) (t:=t) false { m with tr:=m.tr++[⟨t,22,k,0⟩],lo:=m.lo.set k ⟨m.lo[k].Readers,m.lo[k].Writer,m.lo[k].Line⟩ } [] t k (by rw [ha];exact .nil _) (gD λe he=>by cases he) (by simp) (by simp) (by rw [ha];exact c.alive) ⟨by omega,by omega⟩ (by rw [ha]) c.hp c.now c.st c.inn
 ·generalize hq:adm (if (b==1)=true then m.lo[k].Readers else m.lo[k].Readers-1) (if (b==1)=true then false else m.lo[k].Writer) m.lo[k].Line=q at e;have hR0:0<=(if (b==1)=true then m.lo[k].Readers else m.lo[k].Readers-1)/\(if (b==1)=true then m.lo[k].Readers else m.lo[k].Readers-1)<=m.lo[k].Readers:=by
   split
   ·omega
   ·rename_i hb;have:m.lo[k].Readers≠0:=λh0=>hc (.inr ⟨by simpa using hb,h0⟩);omega
  have hW0:(if (b==1)=true then false else m.lo[k].Writer)=true->(if (b==1)=true then m.lo[k].Readers else m.lo[k].Readers-1)=0:=by
   split
   ·intro h;cases h
   ·rename_i hb;intro h;exact absurd (.inr ⟨by simpa using hb,hw.v.wr h⟩) hc
  obtain ⟨g1,g2,g3,g4⟩:=Il m.lo[k].Line _ _ hR0.1 hW0;have happ:=AK m.lo[k].Line (if (b==1)=true then m.lo[k].Readers else m.lo[k].Readers-1) (if (b==1)=true then false else m.lo[k].Writer);rw [hq] at g1 g2 g3 g4 happ;have hll:m.lo[k].Line.length=q.1.length+q.2.2.2.length:=by rw [←happ,dW]
  have kM:dE (q.1.map (·.Task)++q.2.2.2.map (·.Task)):=by rw [←kJ,happ];exact hw.v.ids
  have hlen:=hw.v.len;let L:dj:=⟨q.2.1,q.2.2.1,q.2.2.2⟩;have hL:LW P (n+1) m.ts k L:=⟨⟨⟨g1,by show q.2.1<=6000;have:=c.n5;omega⟩,g3,kM.right,λx hx=>hw.v.n x (by rw [←happ];exact jE _ hx),g4⟩,λx hx=>hw.w x (by rw [←happ];exact jE _ hx),by show q.2.1+(q.2.2.2.length:Int)<=((n+1:Nat):Int);omega⟩;have hI:=((c.inv.next c.n5).lock hk hL).tell (m.tr++[⟨t,18,k,b⟩]);have hqw:∀ x∈q.1,∃ b,Wt P m.ts x.Task ⟨17,k,b⟩/\x.Write=(b==1):=λx hx=>hw.w x (by rw [←happ];exact lL _ hx);obtain ⟨m',e',hI',hF,hT⟩:=GP hI c.hP c.hp (by simp;omega) k b 0 (q.1.map (·.Task)) kM.left.nd (by have:=kM.left.len;exact this) (λx hx=>by
   obtain ⟨w,hwm,rfl⟩:=fK.1 hx;obtain ⟨b',hwt,_⟩:=hqw w hwm;refine ⟨⟨b',hwt⟩,hI.freeAt hwt ?_⟩;rintro ⟨h1,h2,h3⟩;simp only [eU,ow] at h3;exact kM.dis hx h3)
  have hpl:p<m'.pr.length:=by rw [hF.pl];exact c.hp
  have htn:t∉q.1.map (·.Task):=λhm=>by
   obtain ⟨x,hx,e2⟩:=fK.1 hm;exact c.free.l k hk x (by rw [←happ];exact lL _ hx) e2
  refine ⟨true,0,m'.pr,m',?_,hF.ce,hF.pi,?_⟩
  ·rw [E,e q rfl];simp only [cx,cj];rw [e']
  ·have ha1:abs { m with tr:=m.tr++[⟨t,18,k,b⟩],lo:=m.lo.set k L } = { abs m with rd:=upd (abs m).rd k L.Readers,wr:=upd (abs m).wr k L.Writer }:=yO hk L;have ha:abs m' = { abs m with rd:=upd (abs m).rd k L.Readers,wr:=upd (abs m).wr k L.Writer }:=hF.abs.trans ha1;refine .go _ (⟨t,18,k,b⟩::(q.1.map (·.Task)).map λx=>⟨x,17,k,(ix P.Code (tk m.ts x).pc).B⟩) ⟨by rw [hT];simp,?_,gD λe he=>?_,by simp;omega⟩ hI' hpl ((hF.now c.hp hpl).trans c.now) (by rw [hF.tk t c.inn htn]) (by rw [ha]) hF.pl
   ·rw [ha,ot];let a1:A:={ abs m with rd:=upd (abs m).rd k (if (b==1)=true then m.lo[k].Readers else m.lo[k].Readers-1),wr:=upd (abs m).wr k (if (b==1)=true then false else m.lo[k].Writer) };have hev:Ev P (abs m) ⟨t,18,k,b⟩ a1:=by
     by_cases hb:b=1
     ·subst hb;have hwr:m.lo[k].Writer=true:=by
       cases h:m.lo[k].Writer with
       | true=>rfl
       | false=>exact absurd (.inl ⟨rfl,h⟩) hc
      have:=Ev.unlockw (P:=P) (abs m) t k hkl (by rw [hlo.2];exact hwr);rw [show a1 = { abs m with wr:=upd (abs m).wr k false } from by
       show A.mk _ _ _ (upd (abs m).rd k m.lo[k].Readers) _ _ _ _=_;rw [←hlo.1,cH];rfl]
      exact this
     ·have hbf:(b==1)=false:=by simpa using hb
      have hz:m.lo[k].Readers≠0:=λh0=>hc (.inr ⟨hbf,h0⟩);have hwr:m.lo[k].Writer=false:=by
       cases h:m.lo[k].Writer with
       | false=>rfl
       | true=>exact absurd (hw.v.wr h) hz
      have:=Ev.unlockr (P:=P) (abs m) t k b hkl hb (by rw [hlo.1];omega) (by rw [hlo.2];exact hwr);rw [show a1 = { abs m with rd:=upd (abs m).rd k ((abs m).rd k-1) } from by
       show A.mk _ _ _ (upd (abs m).rd k (if (b==1)=true then m.lo[k].Readers else m.lo[k].Readers-1)) (upd (abs m).wr k (if (b==1)=true then false else m.lo[k].Writer)) _ _ _=_;rw [hbf,if_neg (by simp),if_neg (by simp),←hlo.1,←hlo.2,cH]]
      exact this
    refine hJ.trans (es:=[_]) (hJ.one hev c.alive) ?_;have hr:=Fx hkl (λw=>(ix P.Code (tk m.ts w.Task).pc).B) m.lo[k].Line a1 (by simp only [a1,oN];exact hR0.1) (λw hw'=>by
     obtain ⟨b',hwt,hb'⟩:=hw.w w hw';exact ⟨by rw [hb',hwt.at'],hwt.alive.1,hwt.alive.2.1,hwt.alive.2.2⟩)
    simp only [a1,oN,uG,hq] at hr;exact hr
   ·rcases fg.1 he with rfl|he
    ·show (18:Int)≠14;decide
    ·obtain ⟨x,hx,rfl⟩:=fK.1 he;show (17:Int)≠14;decide
theorem Lu (c:iv P n m p t) {k:Nat} {b:Int} (hk:k<m.gr.length) (hb:0<=b/\b<8) (h20:P.Groups<=20):sK P n m p t ⟨19,k,b⟩:=by
 have hw:=c.inv.gw k hk
 have hgn:=c.inv.gn
 have htr:=c.tr
 have hkr:(0:Int)<=(k:Int)/\(k:Int)<(m.gr.length:Int):=by omega
 have hkg:(0:Int)<=(k:Int)/\(k:Int)<P.Groups:=by omega
 have E:e_ (p:Int) t ⟨19,k,b⟩ P.Code 0 m.tr m.ts m.pr m.gl m.lo m.gr=(nH m.gr[k] ((tk m.ts t).r.get b)).bind λr=>(bif (r.2.1||(r.2.2.1.Code != 0)) then some (false,2,m.tr++[⟨t,22,k,0⟩],m.gl,m.ts,m.pr,m.lo,m.gr) else
   dB (ia (p:Int) ⟨19,k,b⟩ 0 m.lo) ((r.2.2.2.2.length:Int),0,m.ts,m.pr,m.gr.set k ⟨r.1,r.2.2.2.1⟩,r.2.2.2.2,m.tr++[⟨t,19,k,(tk m.ts t).r.get b⟩],m.gl)):=by
  unfold e_ dH
  simp only [eW c.hp,cd,cj,mI c.inn c.inv.tl.2,cx,gT c.inn,Int.reduceBEq,kw hkr,kw (n:=((8:Nat):Int)) hb,dp hk,show ix m.ts (t-1)=tk m.ts t from rfl,lB _ _ _ _ (show m.tr.length<=1000000 by omega),eU]
 have hgr:=DJ hk
 -- the count is told, and some are woken
 have fin:∀ (g:cY) (l:List Int),GW P m.ts k g->g.Count=m.gr[k].Count+(tk m.ts t).r.get b->0<=g.Count->g.Count<=1000000000->l.Nodup->l.length<=64->(∀ x∈l,x∈m.gr[k].Line/\x∉g.Line)->(l≠[]->g.Count=0) ->
   nH m.gr[k] ((tk m.ts t).r.get b)=some (g.Count,false,f0,g.Line,l)->sK P n m p t ⟨19,k,b⟩:=by
  intro g l hg h1 h2 h3 h4 h5 h6 h7 e
  have hI:=(c.inv.grp hk hg).tell (m.tr++[⟨t,19,k,(tk m.ts t).r.get b⟩])
  obtain ⟨m',e',hI',hF,hT⟩:=Io hI c.hP c.hp (by simp;omega) k b 0 l h4 h5 (λx hx=>by
   obtain ⟨b',hwt⟩:=hw.w x (h6 x hx).1
   refine ⟨⟨b',hwt⟩,hI.freeAt hwt ?_⟩
   rintro ⟨h1,h2,h3⟩
   simp only [eU,ow] at h3
   exact (h6 x hx).2 h3)
  have hpl:p<m'.pr.length:=by rw [hF.pl];exact c.hp
  have htn:t∉l:=λhm=>c.free.r k hk t (h6 t hm).1 rfl
  refine ⟨true,0,m'.pr,m',?_,hF.ce,hF.pi,?_⟩
  ·rw [E,e]
   exact e'
  ·have ha1:abs { m with tr:=m.tr++[⟨t,19,k,(tk m.ts t).r.get b⟩],gr:=m.gr.set k g } = { abs m with ct:=upd (abs m).ct k g.Count }:=Fv hk g
   have ha:abs m' = { abs m with ct:=upd (abs m).ct k g.Count }:=hF.abs.trans ha1
   refine .go _ (⟨t,19,k,(tk m.ts t).r.get b⟩::l.map λx=>⟨x,20,k,0⟩) ⟨by rw [hT];simp,?_,gD λe he=>?_,by simp;omega⟩ (hI'.next c.n5) hpl ((hF.now c.hp hpl).trans c.now) (by rw [hF.tk t c.inn htn]) (by rw [ha]) hF.pl
   ·rw [ha]
    have hev:=Ev.count (P:=P) (abs m) t k ((tk m.ts t).r.get b) hkg (by rw [hgr,←h1];exact h2) (by rw [hgr,←h1];exact h3)
    rw [hgr,←h1] at hev
    refine hJ.trans (es:=[_]) (hJ.one hev c.alive) ?_
    have key:∀ l':List Int,(∀ x∈l',x∈l)->hJ P { abs m with ct:=upd (abs m).ct k g.Count } (l'.map λx=>⟨x,20,k,0⟩) { abs m with ct:=upd (abs m).ct k g.Count }:=by
     intro l'
     induction l' with
     | nil=>exact λ_=>.nil _
     | cons x l' ih =>
      intro hl
      obtain ⟨b',hwt⟩:=hw.w x (h6 x (hl x (.head _))).1
      refine hJ.trans (es:=[_]) (hJ.one (.wait _ x k hkg (by simp only [oN];exact h7 (λe=>by have:=hl x (.head _);rw [e] at this;cases this))) ⟨hwt.alive.1,hwt.alive.2.1,hwt.alive.2.2⟩) (ih λy hy=>hl y (.tail _ hy))
    exact key l λx hx=>hx
   ·rcases fg.1 he with rfl|he
    ·show (19:Int)≠14;decide
    ·obtain ⟨x,hx,rfl⟩:=fK.1 he
     show (20:Int)≠14;decide
 rcases OK hw.v ((tk m.ts t).r.get b) with ⟨c',p',f',l',w',e,hp'⟩|⟨h1,h2,⟨h3,e⟩|⟨h3,e⟩⟩
 ·refine ⟨false,2,m.pr,{ m with tr:=m.tr++[⟨t,22,k,0⟩] },?_,rfl,rfl,?_⟩
  ·rw [E,e,cx]
   simp only [hp',cd]
  ·exact DR.pan (P:=P) (n:=n) (m:=m) (p:=p) (t:=t) false { m with tr:=m.tr++[⟨t,22,k,0⟩] } [] t k (.nil _) (gD λe he=>by cases he) (by simp) (by simp) c.alive ⟨by omega,by omega⟩ rfl c.hp c.now c.st c.inn
 ·exact fin ⟨0,[]⟩ m.gr[k].Line ⟨⟨⟨iW _,by decide⟩,⟨lC,λx hx=>by cases hx⟩,λ_=>rfl⟩,λx hx=>by cases hx⟩ h3.symm (iW _) (by decide) hw.v.ids.nd hw.v.ids.len (λx hx=>⟨hx,λh=>by cases h⟩) (λ_=>rfl) e
 ·exact fin ⟨m.gr[k].Count+(tk m.ts t).r.get b,m.gr[k].Line⟩ [] ⟨⟨⟨h1,h2⟩,hw.v.ids,λh=>absurd h h3⟩,hw.w⟩ rfl h1 h2 lC (by simp) (λx hx=>by cases hx) (λh=>absurd rfl h) e
theorem Lv (c:iv P n m p t) {k:Nat} {b:Int} (hk:k<m.gr.length) (hpc:(tk m.ts t).pc<(P.Code.length:Int)) (hi:ix P.Code (tk m.ts t).pc=⟨20,k,b⟩):sK P n m p t ⟨20,k,b⟩:=by
 have hw:=c.inv.gw k hk;have hf:=c.free;have hgn:=c.inv.gn;have hn1:t∉m.gr[k].Line:=λhm=>hf.r k hk t hm rfl;have hkr:(0:Int)<=(k:Int)/\(k:Int)<(m.gr.length:Int):=by omega
 have hkg:(0:Int)<=(k:Int)/\(k:Int)<P.Groups:=by omega
 have E:e_ (p:Int) t ⟨20,k,b⟩ P.Code 0 m.tr m.ts m.pr m.gl m.lo m.gr=(nI m.gr[k] t).bind λr=>(bif (!r.2.1) then some (false,0,m.tr,m.gl,su m.ts t (w1 (tk m.ts t)),m.pr,m.lo,m.gr.set k ⟨r.1,r.2.2.2⟩) else
   some (true,0,m.tr++[⟨t,20,k,0⟩],m.gl,m.ts,m.pr,m.lo,m.gr.set k ⟨r.1,r.2.2.2⟩)):=by
  unfold e_ fu;simp only [eW c.hp,cd,cj,mI c.inn c.inv.tl.2,cx,gT c.inn,Int.reduceBEq,kw hkr,dp hk,Ad c,lB _ _ _ _ (show m.tr.length<=1000000 by have:=c.tr;omega),eU]
 rcases MZ hw.v c.pos hn1 with ⟨h0,e⟩|⟨h0,e⟩
 ·have hq:GW P m.ts k ⟨0,[]⟩:=⟨⟨⟨iW _,by decide⟩,⟨lC,λx hx=>by cases hx⟩,λ_=>rfl⟩,λx hx=>by cases hx⟩;refine ⟨true,0,m.pr,{ m with tr:=m.tr++[⟨t,20,k,0⟩],gr:=m.gr.set k ⟨0,[]⟩ },by rw [E,e];rfl,rfl,rfl,?_⟩;have ha:abs { m with tr:=m.tr++[⟨t,20,k,0⟩],gr:=m.gr.set k ⟨0,[]⟩ }=abs m:=DM (m:=m) hk h0.symm;refine c.goes (((c.inv.next c.n5).grp hk hq).tell _) rfl rfl rfl ?_ rfl (show (20:Int)≠14 by decide) (by rw [ha]);rw [ha];exact .wait _ t k hkg (by rw [DJ hk];exact h0)
 ·refine ⟨false,0,m.pr,{ offM m p with ts:=su m.ts t (w1 (tk m.ts t)),gr:=m.gr.set k ⟨m.gr[k].Count,m.gr[k].Line++[t]⟩ },by rw [E,e];rfl,rfl,rfl,c.newG hk ?_ rfl⟩;refine ⟨⟨hw.v.c,?_,λh=>by have h':m.gr[k].Count=0:=h;omega⟩,?_⟩
  ·have h2:=(hw.v.ids.snoc (a:=[]) c.t64 (by simpa using hn1)).2;simpa using h2
  ·intro x hx;rcases gy.1 hx with hx|hx
   ·obtain ⟨b',w⟩:=hw.w x hx;exact ⟨b',w.su c.inn (hf.r k hk x hx)⟩
   ·rw [fO] at hx;subst hx;exact ⟨b,c.pcw hpc hi⟩
end
end
section
set_option maxRecDepth 100000
theorem Lw (r:dn 8) {i:Int} (h:0<=i/\i<8) (v:Int):(r.set i v).get i=v:=by
 have hr:=r.h;unfold dn.get dn.set;rw [dA,List.getElem?_set_self (by rw [hr];omega)];rfl
theorem iN {p:cz} {x n:Int} {c:Int} (e:og p c x=(decide (0<=x)&&decide (x<n))) (h:og p c x=true):0<=x/\x<n:=by
 rw [e] at h;simpa using h
theorem Ev.mono {P:cz} {a b:A} {e:cy} (h:Ev P a e b):a.n<=b.n:=by
 cases h<;>first|exact iW _|(show a.n<=a.n+1;omega)
theorem hJ.mono {P:cz} {a b:A} {es:List cy} (h:hJ P a es b):a.n<=b.n:=by
 induction h with
 | nil=>exact iW _
 | snoc r h ht ih=>have:=h.mono;omega
section
variable {P:cz} {n:Nat} {m:M} {p:Nat} {t:Int}
theorem DR.inn (c:iv P n m p t) {b:Bool} {ST:Int} {pr':List bV} {m':M} (h:DR P n m p t b ST pr' m'):p<pr'.length/\In m'.ts t:=by
 have key:∀ {es},hJ P (abs m) es (abs m')->In m'.ts t:=λr=>⟨c.pos,by have h1:=r.mono;have h2:=c.inn.2;have h3:(m.ts.length:Int)<=((m'.ts.length:Nat):Int):=h1;omega⟩;cases h with
 | go _ es c' i hp now pc e1 pl=>exact ⟨hp,key c'.run⟩
 | yld _ es c' i hp now e1 st pl=>exact ⟨hp,key c'.run⟩
 | off _ es c' i pr st e1=>exact ⟨c.hp,key c'.run⟩
 | fin _ es c' i pr st h1 e1=>exact ⟨c.hp,key c'.run⟩
 | pan _ _ es w ob run mt len tr hw ho e1 hp now st in'=>exact ⟨hp,in'⟩
 | full h=>exact ⟨c.hp,c.inn⟩
def Ae (P:cz) (n:Nat) (m:M) (p:Nat) (t:Int) (i:df):Prop:=∀ (Now sl:Int),∃ b ST sl' pr' m',dD (p:Int) t i P.Code 0 Now sl m.tr m.ce m.ts m.pr m.gl m.pi m.lo m.gr=some (b,ST,sl',m'.tr,m'.ts,m'.gl,m'.ce,pr',m'.pi,m'.lo,m'.gr)/\DR P n m p t b ST pr' m'
theorem vx (c:iv P n m p t) {op a b:Int} (h:op=14\/op=15\/op=16) (hT:xK P n m p t ⟨op,a,b⟩):Ae P n m p t ⟨op,a,b⟩:=by
 intro Now sl;obtain ⟨b',ST,pr',m',e,h1,h2,h3,hD⟩:=hT;obtain ⟨g1,g2⟩:=hD.inn c;refine ⟨b',ST,sl,pr',m',?_,hD⟩;unfold dD;simp only [eW c.hp,mI c.inn c.inv.tl.2,gT c.inn,cx,cd];rcases h with rfl|rfl|rfl <;>
 ·simp only [cd,cj,Int.reduceBEq];unfold fD;simp only [eW c.hp,gT c.inn,cd,e,cx,eW g1,gT g2,h1,h2,h3]
theorem sG (c:iv P n m p t) {op a b:Int} (h:op=17\/op=18\/op=19\/op=20) (hT:sK P n m p t ⟨op,a,b⟩):Ae P n m p t ⟨op,a,b⟩:=by
 intro Now sl;obtain ⟨b',ST,pr',m',e,h1,h2,hD⟩:=hT;obtain ⟨g1,g2⟩:=hD.inn c;refine ⟨b',ST,sl,pr',m',?_,hD⟩;unfold dD;simp only [eW c.hp,mI c.inn c.inv.tl.2,gT c.inn,cx,cd];rcases h with rfl|rfl|rfl|rfl <;>
 ·simp only [cd,cj,Int.reduceBEq];unfold fD;simp only [eW c.hp,gT c.inn,cd,cj,Int.reduceBEq,cx];unfold eD;simp only [eW c.hp,gT c.inn,cd,e,cx,eW g1,gT g2,h1,h2]
theorem iv.regs (c:iv P n m p t) (x:cq) (h1:x.pc=(tk m.ts t).pc) (h2:x.state=0):fj P n { m with ts:=su m.ts t x }/\abs { m with ts:=su m.ts t x }=abs m :=
 ⟨c.inv.set c.inn c.free (by rw [h1];exact c.inv.pc _ (m_ c.inn)) λ_=>h2,mN c.inn (by rw [c.st];decide) (by rw [h2];decide)⟩
theorem Fy (c:iv P n m p t) (hpc:(tk m.ts t).pc<(P.Code.length:Int)):∃ m',i5 (p:Int) t m.ts m.pr m.gl=some (false,m'.gl,m'.ts,m'.pr)/\m'.tr=m.tr/\m'.ce=m.ce/\m'.pi=m.pi/\m'.lo=m.lo/\m'.gr=m.gr/\DR P n m p t false 0 m'.pr m':=by
 obtain ⟨h1,h2,h3⟩:=c.off;have hpcb:=c.inv.pc _ (m_ c.inn);have hP:=c.hP;have hgl:=c.inv.mv.ids.right.len;let x:cq:=⟨(tk m.ts t).pc+1,(tk m.ts t).r,(tk m.ts t).state,(tk m.ts t).when,(tk m.ts t).seq⟩;have hc:(al (offM m p).pr (m.gl++[t])).Perm (al m.pr m.gl):=by
  refine List.Perm.trans ?_ h3;unfold al;rw [←fJ];exact v_ _ _
 have hI:=c.inv.set (x:=x) c.inn c.free (by show 0<=(tk m.ts t).pc+1/\(tk m.ts t).pc+1<=_;omega) λ_=>c.st
 have hI2:=hI.procs (pr:=(offM m p).pr) (gl:=m.gl++[t]) (c.inv.mv.of hc h1.mv.nn (by unfold offM;simp)) λy hy=>hI.rs y (hc.mem_iff.1 hy)
 have ha:abs { m with ts:=su m.ts t x,pr:=(offM m p).pr,gl:=m.gl++[t] }=abs m:=mN (m:=m) c.inn (by rw [c.st];decide) (by show (tk m.ts t).state≠3;rw [c.st];decide);refine ⟨{ m with ts:=su m.ts t x,pr:=(offM m p).pr,gl:=m.gl++[t] },?_,rfl,rfl,rfl,rfl,rfl,.yld _ [] ⟨by simp,by rw [ha];exact .nil _,gD (λe he=>by cases he),by simp⟩ (hI2.next c.n5) (by show p<(m.pr.set p _).length;rw [cr];exact c.hp) (by unfold offM;simp) (by rw [ha]) (by rw [iM c.inn];exact c.st) (by unfold offM;simp)⟩;unfold i5;rw [eW c.hp,cd,mI c.inn c.inv.tl.2,cx,gT c.inn,cd,cG (by simp;omega),cd,show ix m.ts (t-1)=tk m.ts t from rfl,fI (by omega) (by omega),dp c.hp,←AL c.hp];rfl
theorem DN (c:iv P n m p t):DR P n m p t false 2 m.pr { m with tr:=m.tr++[⟨t,22,0,0⟩] } :=
 DR.pan (P:=P) (n:=n) (m:=m) (p:=p) (t:=t) false { m with tr:=m.tr++[⟨t,22,0,0⟩] } [] t 0 (.nil _) (gD λe he=>by cases he) (by simp) (by simp) c.alive (by decide) rfl c.hp c.now c.st c.inn
theorem fj.add (h:fj P n m) (hl:m.ts.length<64) {x:cq} (hx:0<=x.pc/\x.pc<=(P.Code.length:Int)):fj P n { m with ts:=m.ts++[x] }/\∀ t,In m.ts t->tk (m.ts++[x]) t=tk m.ts t:=by
 have htk:∀ t,In m.ts t->tk (m.ts++[x]) t=tk m.ts t:=λt ht=>by
  obtain ⟨k,hk⟩:=ib (show 0<=t-1 by have:=ht.1;omega);have:=ht.2;unfold tk;rw [hk,dp (by rw [dW];omega),dp (by omega),tz]
 have hin:∀ t,In m.ts t->In (m.ts++[x]) t:=λt ht=>⟨ht.1,by have:=ht.2;rw [dW];simp;omega⟩;have hw:∀ {t i},Wt P m.ts t i->Wt P (m.ts++[x]) t i:=λw=>w.of (hin _ w.inn) (htk _ w.inn);refine ⟨⟨h.n5,by simp;omega,λy hy=>?_,h.mv,λy hy=>⟨hin _ (h.rs y hy).1,by rw [htk _ (h.rs y hy).1];exact (h.rs y hy).2⟩,h.ce,h.pn,λk hk=>⟨⟨(h.pw k hk).1.v,λy hy=>?_,λy hy=>?_⟩,(h.pw k hk).2⟩,h.ln,λk hk=>⟨(h.lw k hk).v,λy hy=>?_,(h.lw k hk).le⟩,h.gn,λk hk=>⟨(h.gw k hk).v,λy hy=>?_⟩⟩,htk⟩
 ·rcases gy.1 hy with hy|hy
  ·exact h.pc y hy
  ·rw [fO] at hy;rw [hy];exact hx
 ·obtain ⟨b,w,e⟩:=(h.pw k hk).1.s y hy;exact ⟨b,hw w,by rw [htk _ w.inn];exact e⟩
 ·obtain ⟨b,w⟩:=(h.pw k hk).1.g y hy;exact ⟨b,hw w⟩
 ·obtain ⟨b,w,e⟩:=(h.lw k hk).w y hy;exact ⟨b,hw w,e⟩
 ·obtain ⟨b,w⟩:=(h.gw k hk).w y hy;exact ⟨b,hw w⟩
theorem Lx (c:iv P n m p t) {a b:Int} (ha:0<=a/\a<(P.Code.length:Int)) (hb:0<=b/\b<8):Ae P n m p t ⟨11,a,b⟩:=by
 intro Now sl;have hl:=c.inv.tl;have htr:=c.tr;by_cases h64:m.ts.length=64
 ·refine ⟨false,4,sl,m.pr,m,?_,.full h64⟩;unfold dD;simp only [eW c.hp,mI c.inn c.inv.tl.2,gT c.inn,cx,cd,cj,Int.reduceBEq];rw [show ((m.ts.length:Int)==64)=true from by rw [h64];rfl];rfl
 ·let x:cq:=⟨a,(default:dn 8).set 0 ((tk m.ts t).r.get b),0,0,0⟩;obtain ⟨hI,htk⟩:=c.inv.add (x:=x) (by omega) (by show 0<=a/\a<=_;omega);have hlen:(m.ts++[x]).length=m.ts.length+1:=by simp
  obtain ⟨pr',e,hm,hc,hpl,hp',hnow⟩:=Ft c.inv.mv c.hp (t:=m.ts.length) (c4:=m.ts++[x]) (by rw [hlen];omega) (by rw [hlen];omega) (λhmem=>by
   have:=(c.inv.rs _ hmem).1.2;omega)
  have ets:(m.ts++[x]).set m.ts.length ⟨(m.ts++[x])[m.ts.length].pc,(m.ts++[x])[m.ts.length].r,0,(m.ts++[x])[m.ts.length].when,(m.ts++[x])[m.ts.length].seq⟩=m.ts++[x]:=by
   rw [List.set_append_right _ _ (cF _)];simp only [Nat.sub_self,tA (cF _),List.getElem_singleton,List.set_cons_zero];rfl
  rw [ets] at e;have hin:In (m.ts++[x]) ((m.ts.length+1:Nat):Int):=⟨by omega,by rw [hlen];omega⟩;have htx:tk (m.ts++[x]) ((m.ts.length+1:Nat):Int)=x:=by
   unfold tk;rw [show ((m.ts.length+1:Nat):Int)-1=(m.ts.length:Int) by omega,dp (by rw [hlen];omega)];simp
  have hI2:=((hI.procs hm λy hy=>by
   rcases fg.1 (hc.mem_iff.1 hy) with rfl|hy
   ·exact ⟨hin,by rw [htx]⟩
   ·exact hI.rs y hy).tell (m.tr++[⟨t,11,0,((m.ts.length+1:Nat):Int)⟩])).next c.n5
  have hab:abs { m with ts:=m.ts++[x],pr:=pr',tr:=m.tr++[⟨t,11,0,((m.ts.length+1:Nat):Int)⟩] } = { abs m with n:=(abs m).n+1,en:=upd (abs m).en ((abs m).n+1) false }:=by
   unfold abs upd;simp only [Lo,A.mk.injEq,true_and,dW,List.length_singleton];refine ⟨by omega,funext λj=>?_⟩;by_cases e:j=(m.ts.length:Int)+1
   ·rw [if_pos (by omega),if_pos e];rfl
   ·rw [if_neg (by omega),if_neg e]
  refine ⟨true,0,sl,pr',{ m with ts:=m.ts++[x],pr:=pr',tr:=m.tr++[⟨t,11,0,((m.ts.length+1:Nat):Int)⟩] },?_,.go _ [⟨t,11,0,((m.ts.length+1:Nat):Int)⟩] ⟨rfl,?_,gD (λe he=>by rw [fO] at he;subst he;show (11:Int)≠14;decide),by simp⟩ hI2 hp' (hnow.trans c.now) (by rw [htk t c.inn]) ?_ hpl⟩
  ·unfold dD eV;simp only [eW c.hp,mI c.inn c.inv.tl.2,gT c.inn,cx,cd,cj,Int.reduceBEq,kw (n:=((8:Nat):Int)) hb,show ix m.ts (t-1)=tk m.ts t from rfl];rw [show ((m.ts.length:Int)==64)=false from by simp;omega,cj,cG (show (m.ts++[x]).length*8<=140737488355328 by rw [hlen];omega),cd,show ((((m.ts++[x]).length:Nat)):Int)=((m.ts.length+1:Nat):Int) from by rw [hlen],
    lB _ _ _ _ (show m.tr.length<=1000000 by omega),cx,e,cx]
   simp only [eW hp',cd]
  ·rw [hab];have:=Ev.go (P:=P) (abs m) t (show (m.ts.length:Int)<64 by omega);exact hJ.one this c.alive
  ·rw [hab];unfold upd;simp only;rw [if_neg];show (1:Int)≠(m.ts.length:Int)+1;omega
theorem M0 (c:iv P n m p t) (hO:∀ i:Int,0<=i->i<(P.Code.length:Int)->DC P (ix P.Code i)) (h20:P.Pipes.length<=20/\P.Locks<=20/\P.Groups<=20) (hpc:(tk m.ts t).pc<(P.Code.length:Int)) (h7:7<(ix P.Code (tk m.ts t).pc).Op) (h9:(ix P.Code (tk m.ts t).pc).Op≠9):Ae P n m p t (ix P.Code (tk m.ts t).pc):=by
 have hpcb:=c.inv.pc _ (m_ c.inn);have hOk:=hO _ hpcb.1 hpc;have htr:=c.tr;generalize hi:ix P.Code (tk m.ts t).pc=i at hOk h7 h9;obtain ⟨op,a,b⟩:=i;obtain ⟨h1,hA,hB⟩:=hOk;simp only at h1 hA hB h7 h9;have hce:=c.inv.ce;have hpn:=c.inv.pn;have hln:=c.inv.ln;have hgn:=c.inv.gn;have hc:op=8\/op=10\/op=11\/op=12\/op=13\/op=14\/op=15\/op=16\/op=17\/op=18\/op=19\/op=20\/op=21\/op=22:=by omega
 have nat:∀ {x y:Int},0<=x/\x<y->∃ k:Nat,x=((k:Nat):Int):=λh=>ib h.1;rcases hc with rfl|rfl|rfl|rfl|rfl|rfl|rfl|rfl|rfl|rfl|rfl|rfl|rfl|rfl
 ·have ha:=iN (n:=8) rfl hA;intro Now sl;refine ⟨true,0,sl,m.pr,{ m with tr:=m.tr++[⟨t,8,0,(tk m.ts t).r.get a⟩] },?_,c.goes ((c.inv.tell _).next c.n5) rfl rfl rfl (.say _ _ _ _ rfl) rfl (show (8:Int)≠14 by decide) rfl⟩;unfold dD eV;simp only [eW c.hp,mI c.inn c.inv.tl.2,gT c.inn,cx,cd,cj,Int.reduceBEq,kw (n:=((8:Nat):Int)) ha,show ix m.ts (t-1)=tk m.ts t from rfl,lB _ _ _ _ (show m.tr.length<=1000000 by omega)]
 ·intro Now sl;obtain ⟨m',e,g1,g2,g3,g4,g5,hD⟩:=Fy c hpc;obtain ⟨k1,k2⟩:=hD.inn c;refine ⟨false,0,sl,m'.pr,m',?_,hD⟩;unfold dD;simp only [eW c.hp,mI c.inn c.inv.tl.2,gT c.inn,cx,cd,cj,Int.reduceBEq,e,eW k1,gT k2,g1,g2,g3,g4,g5]
 ·exact Lx c (GM hA) (iN (n:=8) rfl hB)
 ·have ha:=iN (n:=8) rfl hA;have hb:=iN (n:=P.Cells) rfl hB;intro Now sl;let x:cq:=⟨(tk m.ts t).pc,(tk m.ts t).r.set a (ix m.ce b),(tk m.ts t).state,(tk m.ts t).when,(tk m.ts t).seq⟩;obtain ⟨hI,hab⟩:=c.regs x rfl c.st;have hab':abs { m with ts:=su m.ts t x,tr:=m.tr++[⟨t,12,b,ix m.ce b⟩] }=abs m:=hab;refine ⟨true,0,sl,m.pr,{ m with ts:=su m.ts t x,tr:=m.tr++[⟨t,12,b,ix m.ce b⟩] },?_,.go _ [⟨t,12,b,ix m.ce b⟩] ⟨rfl,by rw [hab'];exact hJ.one (.load _ t b _ hb rfl) c.alive,gD (λe he=>by rw [fO] at he;subst he;show (12:Int)≠14;decide),by simp⟩ ((hI.tell _).next c.n5) c.hp c.now (by rw [iM c.inn]) (by rw [hab']) rfl⟩;unfold dD eV;have e1:∀ y,m.ts.set (t-1).toNat y=su m.ts t y:=λ_=>rfl;have e2:∀ ts,ix ts (t-1)=tk ts t:=λ_=>rfl;simp only [eW c.hp,mI c.inn c.inv.tl.2,gT c.inn,cx,cd,cj,Int.reduceBEq,kw (n:=((8:Nat):Int)) ha,kw (n:=(m.ce.length:Int)) (show 0<=b/\b<_ by omega),e1,e2,iM c.inn,Lw _ ha,lB _ _ _ _ (show m.tr.length<=1000000 by omega)];rfl
 ·have ha:=iN (n:=P.Cells) rfl hA;have hb:=iN (n:=8) rfl hB;intro Now sl;refine ⟨true,0,sl,m.pr,{ m with ce:=m.ce.set a.toNat ((tk m.ts t).r.get b),tr:=m.tr++[⟨t,13,a,(tk m.ts t).r.get b⟩] },?_,c.goes (((c.inv.cell (cr ..)).tell _).next c.n5) rfl rfl rfl (.store _ _ _ _ ha) rfl (show (13:Int)≠14 by decide) rfl⟩;unfold dD eV;simp only [eW c.hp,mI c.inn c.inv.tl.2,gT c.inn,cx,cd,cj,Int.reduceBEq,kw (n:=((8:Nat):Int)) hb,kw (n:=(m.ce.length:Int)) (show 0<=a/\a<_ by omega),show ix m.ts (t-1)=tk m.ts t from rfl,lB _ _ _ _ (show m.tr.length<=1000000 by omega)]
 ·have ha:=iN (n:=(P.Pipes.length:Int)) rfl hA;obtain ⟨k,rfl⟩:=nat ha;exact vx c (.inl rfl) (Lp c (by omega) (iN (n:=8) rfl hB) hpc hi hO h20.1)
 ·have hb:=iN (n:=(P.Pipes.length:Int)) rfl hB;obtain ⟨k,rfl⟩:=nat hb;exact vx c (.inr (.inl rfl)) (Lq c (by omega) (iN (n:=8) rfl hA) hpc hi hO)
 ·have ha:=iN (n:=(P.Pipes.length:Int)) rfl hA;obtain ⟨k,rfl⟩:=nat ha;exact vx c (.inr (.inr rfl)) (Lr c (by omega) hO h20.1)
 ·have ha:=iN (n:=P.Locks) rfl hA;obtain ⟨k,rfl⟩:=nat ha;exact sG c (.inl rfl) (Ls c (by omega) hpc hi)
 ·have ha:=iN (n:=P.Locks) rfl hA;obtain ⟨k,rfl⟩:=nat ha;exact sG c (.inr (.inl rfl)) (Lt c (by omega) h20.2.1)
 ·have ha:=iN (n:=P.Groups) rfl hA;obtain ⟨k,rfl⟩:=nat ha;exact sG c (.inr (.inr (.inl rfl))) (Lu c (by omega) (iN (n:=8) rfl hB) h20.2.2)
 ·have ha:=iN (n:=P.Groups) rfl hA;obtain ⟨k,rfl⟩:=nat ha;exact sG c (.inr (.inr (.inr rfl))) (Lv c (by omega) hpc hi)
 ·have ha:=iN (n:=8) rfl hA;intro Now sl;have J:dD (p:Int) t ⟨21,a,b⟩ P.Code 0 Now sl m.tr m.ce m.ts m.pr m.gl m.pi m.lo m.gr=eD (p:Int) t ⟨21,a,b⟩ P.Code 0 Now sl m.tr m.ce m.ts m.pr m.gl m.pi m.lo m.gr (t-1) false:=by
   unfold dD;simp only [eW c.hp,mI c.inn c.inv.tl.2,gT c.inn,cx,cd,cj,Int.reduceBEq];unfold fD;simp only [eW c.hp,gT c.inn,cd,cj,Int.reduceBEq]
  by_cases h1:1000000000<(tk m.ts t).r.get a
  ·refine ⟨false,2,sl,m.pr,_,?_,DN c⟩;rw [J];unfold eD dH;simp only [eW c.hp,gT c.inn,cd,cj,Int.reduceBEq,kw (n:=((8:Nat):Int)) ha];show (bif decide ((1000000000:Int)<(tk m.ts t).r.get a) then _ else _)=_;rw [cG h1,cd,lB _ _ _ _ (show m.tr.length<=1000000 by omega)];rfl
  ·by_cases h2:(tk m.ts t).r.get a<1
   ·obtain ⟨m',e,g1,g2,g3,g4,g5,hD⟩:=Fy c hpc;obtain ⟨k1,k2⟩:=hD.inn c;refine ⟨false,0,sl,m'.pr,m',?_,hD⟩;rw [J];unfold eD;simp only [eW c.hp,gT c.inn,cd,cj,Int.reduceBEq,kw (n:=((8:Nat):Int)) ha];show (bif decide ((1000000000:Int)<(tk m.ts t).r.get a) then _ else bif decide ((tk m.ts t).r.get a<1) then _ else _)=_;rw [cP h1,cj,cG h2,cd,e];simp only [cx,eW k1,gT k2,cd,g1,g2,g3,g4,g5]
   ·let x:cq:=⟨(tk m.ts t).pc+1,(tk m.ts t).r,2,i64.wrap (Now+(tk m.ts t).r.get a),i64.wrap (sl+1)⟩;have hP:=c.hP;have hI:=c.wait x (by show 0<=(tk m.ts t).pc+1/\(tk m.ts t).pc+1<=_;omega);have hab:abs { offM m p with ts:=su m.ts t x }=abs m:=mN (m:=offM m p) c.inn (by show (tk m.ts t).state≠3;rw [c.st];decide) (show (2:Int)≠3 by decide);refine ⟨false,0,i64.wrap (sl+1),m.pr,{ offM m p with ts:=su m.ts t x },?_,.off _ [] ⟨by simp [offM],by rw [hab];exact .nil _,gD (λe he=>by cases he),by simp⟩ (hI.next c.n5) rfl (by rw [iM c.inn];exact (by decide:(2:Int)≠0)) (by rw [hab])⟩;rw [J];unfold eD;have e1:∀ ts y,List.set ts (t-1).toNat y=su ts t y:=λ_ _=>rfl;have e2:∀ ts,ix ts (t-1)=tk ts t:=λ_=>rfl;simp only [eW c.hp,gT c.inn,cd,cj,Int.reduceBEq,kw (n:=((8:Nat):Int)) ha,e1,e2,iM c.inn,iM c.inn.su,BZ];rw [show (bif decide ((1000000000:Int)<(tk m.ts t).r.get a) then _ else bif decide ((tk m.ts t).r.get a<1) then _ else _)=_ from by rw [cP h1,cj,cP h2,cj],fI (x:=(tk m.ts t).pc+1) (by omega) (by omega)];rfl
 ·intro Now sl;refine ⟨false,2,sl,m.pr,_,?_,DN c⟩;unfold dD;simp only [eW c.hp,mI c.inn c.inv.tl.2,gT c.inn,cx,cd,cj,Int.reduceBEq];unfold fD;simp only [eW c.hp,gT c.inn,cd,cj,Int.reduceBEq];unfold eD dH;simp only [eW c.hp,gT c.inn,cd,cj,Int.reduceBEq,cx,lB _ _ _ _ (show m.tr.length<=1000000 by omega)]
theorem Jr (c:iv P n m p t) (a b Now sl:Int):∃ ST sl' pr' m',dD (p:Int) t ⟨9,a,b⟩ P.Code 0 Now sl m.tr m.ce m.ts m.pr m.gl m.pi m.lo m.gr=some (false,ST,sl',m'.tr,m'.ts,m'.gl,m'.ce,pr',m'.pi,m'.lo,m'.gr)/\DR P n m p t false ST pr' m':=by
 have htr:=c.tr;let x:cq:=⟨(tk m.ts t).pc,(tk m.ts t).r,3,(tk m.ts t).when,(tk m.ts t).seq⟩;have hI:=(c.wait x (show 0<=(tk m.ts t).pc/\(tk m.ts t).pc<=(P.Code.length:Int) from c.inv.pc _ (m_ c.inn))).tell (m.tr++[⟨t,9,0,0⟩]);have hab:abs { offM m p with ts:=su m.ts t x,tr:=m.tr++[⟨t,9,0,0⟩] } = { abs m with en:=upd (abs m).en t true }:=Fw (m:=offM m p) c.inn x;have hch:Ch P m { offM m p with ts:=su m.ts t x,tr:=m.tr++[⟨t,9,0,0⟩] } [⟨t,9,0,0⟩] :=
  ⟨rfl,by rw [hab];exact hJ.one (.fin _ t ⟨c.alive.1,c.alive.2.1⟩) c.alive,gD (λe he=>by rw [fO] at he;subst he;show (9:Int)≠14;decide),by simp⟩
 have E:dD (p:Int) t ⟨9,a,b⟩ P.Code 0 Now sl m.tr m.ce m.ts m.pr m.gl m.pi m.lo m.gr=some (false,if t=1 then 1 else 0,sl,m.tr++[⟨t,9,0,0⟩],su m.ts t x,m.gl,m.ce,m.pr,m.pi,m.lo,m.gr):=by
  unfold dD jr;simp only [eW c.hp,mI c.inn c.inv.tl.2,gT c.inn,cx,cd,cj,Int.reduceBEq,lB _ _ _ _ (show m.tr.length<=1000000 by omega)];by_cases ht:t=1
  ·rw [show (t==1)=true from by simpa using ht,if_pos ht];rfl
  ·rw [show (t==1)=false from by simpa using ht,if_neg ht];rfl
 by_cases ht:t=1
 ·rw [if_pos ht] at E;exact ⟨_,_,_,_,E,.fin _ _ hch (hI.next c.n5) rfl (by rw [iM c.inn]) ht (by rw [hab,ht];exact oN (abs m).en 1 true)⟩
 ·rw [if_neg ht] at E;exact ⟨_,_,_,_,E,.off _ _ hch (hI.next c.n5) rfl (by rw [iM c.inn];exact (by decide:(3:Int)≠0)) (by rw [hab];unfold upd;exact if_neg λe=>ht e.symm)⟩
end
end
section
set_option maxRecDepth 100000
inductive SR (P:cz) (n:Nat) (m:M):Int->M->Prop
 | on (m' es) (c:Ch P m m' es) (i:fj P (n+1) m') (e1:(abs m').en 1=(abs m).en 1) (pl:m'.pr.length=m.pr.length):SR P n m 0 m'
 | fin (m' es) (c:Ch P m m' es) (i:fj P (n+1) m') (e1:(abs m').en 1=true):SR P n m 1 m'
 | pan (m' es w ob) (run:hJ P (abs m) es (abs m')) (mt:vw P es) (len:es.length<=70) (tr:m'.tr=m.tr++es++[⟨w,22,ob,0⟩]) (hw:1<=w/\w<=(abs m').n/\(abs m').en w=false) (ho:0<=ob/\ob<=20) (e1:(abs m').en 1=(abs m).en 1):SR P n m 2 m'
 | full (m':M) (c:Ch P m m' []) (i:fj P (n+1) m') (h:m'.ts.length=64) (e1:(abs m').en 1=(abs m).en 1):SR P n m 4 m'
section
variable {P:cz} {n:Nat} {m:M} {p:Nat} {t:Int}
theorem Ly (h:fj P n m) (hp:p<m.pr.length) (hn:m.pr[p].now=t) (ht:1<=t):In m.ts t/\(tk m.ts t).state=0 :=
 h.rs t ((z_ hp).subset (lL _ (by rw [hn,qz (by omega)];exact .head _)))
theorem Ch.nil (h:abs m=abs m):Ch P m m []:=⟨by simp,.nil _,gD (λe he=>by cases he),by simp⟩
def st (ST sl:Int) (m:M):Int×Int×List cy×List cq×List Int×List Int×List bV×List cR×List dj×(List cY):=(ST,sl,m.tr,m.ts,m.gl,m.ce,m.pr,m.pi,m.lo,m.gr)
theorem Bz (c:iv P n m p t) {i:df} (hL:oV i.Op=some false) (Now sl:Int) {b:Bool} {ST sl':Int} {pr':List bV} {m':M} (e:dD (p:Int) t i P.Code 0 Now sl m.tr m.ce m.ts m.pr m.gl m.pi m.lo m.gr=some (b,ST,sl',m'.tr,m'.ts,m'.gl,m'.ce,pr',m'.pi,m'.lo,m'.gr)) (hD:DR P n m p t b ST pr' m') (hpc:b=true->(tk m.ts t).pc<(P.Code.length:Int)) :
 ∃ST sl' m',eu (p:Int) P.Code m.tr 0 Now sl m.ce m.ts m.pi m.lo m.gr m.pr m.gl (t-1) i=some (st ST sl' m')/\SR P n m ST m':=by
 obtain ⟨g1,g2⟩:=hD.inn c;have hP:=c.hP;have hne:∀ x:cq,ix m'.ts (t-1)=tk m'.ts t:=λ_=>rfl;have E:eu (p:Int) P.Code m.tr 0 Now sl m.ce m.ts m.pi m.lo m.gr m.pr m.gl (t-1) i=(bif b then some (ST,sl',m'.tr,su m'.ts t ⟨i64.wrap ((tk m'.ts t).pc+1),(tk m'.ts t).r,(tk m'.ts t).state,(tk m'.ts t).when,(tk m'.ts t).seq⟩,m'.gl,m'.ce,pr',m'.pi,m'.lo,m'.gr)
   else (bif ((pr'[p].now==t)&&((tk m'.ts t).state != 0)) then some (ST,sl',m'.tr,m'.ts,m'.gl,m'.ce,pr'.set p ⟨0,pr'[p].Ring_Next,pr'[p].Ring_List⟩,m'.pi,m'.lo,m'.gr) else some (ST,sl',m'.tr,m'.ts,m'.gl,m'.ce,pr',m'.pi,m'.lo,m'.gr))):=by
  unfold eu;rw [eW c.hp,cd,gT c.inn,cd,hL,cx,cj,dp c.hp,c.now,e,cx];simp only [eW g1,gT g2,cd,dp g1,eU];rfl
 rw [E];have adv:∀ {m'':M},In m''.ts t->(tk m''.ts t).state=0->(tk m''.ts t).pc=(tk m.ts t).pc->(tk m.ts t).pc<(P.Code.length:Int)->fj P (n+1) m''->fj P (n+1) { m'' with ts:=su m''.ts t ⟨i64.wrap ((tk m''.ts t).pc+1),(tk m''.ts t).r,(tk m''.ts t).state,(tk m''.ts t).when,(tk m''.ts t).seq⟩ }:=λ{m''} h1 h2 h3 h4 h5=>by
  have:=(h5.pc _ (m_ h1)).1;exact h5.set h1 (h5.free (by rw [h2];decide)) (by show 0<=i64.wrap ((tk m''.ts t).pc+1)/\i64.wrap ((tk m''.ts t).pc+1)<=_;rw [fI (by omega) (by omega)];omega) λ_=>h2
 have advA:∀ {m'':M} (x:Int),In m''.ts t->(tk m''.ts t).state=0->abs { m'' with ts:=su m''.ts t ⟨x,(tk m''.ts t).r,(tk m''.ts t).state,(tk m''.ts t).when,(tk m''.ts t).seq⟩ }=abs m'':=λ{m''} x h1 h2=>mN h1 (by rw [h2];decide) (by show (tk m''.ts t).state≠3;rw [h2];decide);cases hD with
 | go _ es ch i' hp now pc e1 pl =>
  obtain ⟨h1,h2⟩:=Ly i' hp now c.pos;have ha:=advA (m'':=m') (i64.wrap ((tk m'.ts t).pc+1)) h1 h2;exact ⟨0,sl',{ m' with ts:=su m'.ts t ⟨i64.wrap ((tk m'.ts t).pc+1),(tk m'.ts t).r,(tk m'.ts t).state,(tk m'.ts t).when,(tk m'.ts t).seq⟩ },rfl,.on _ es ⟨ch.tr,by rw [ha];exact ch.run,ch.mt,ch.len⟩ (adv h1 h2 pc (hpc rfl) i') (by rw [ha];exact e1) pl⟩
 | yld _ es ch i' hp now e1 hst pl =>
  refine ⟨0,sl',m',?_,.on _ es ch i' e1 pl⟩;rw [cj,now,show ((0:Int)==t)=false from by have:=c.pos;simp;omega,Bool.false_and];rfl
 | off _ es ch i' pr hst e1 =>
  refine ⟨0,sl',m',?_,.on _ es ch i' e1 (by rw [pr,cr])⟩;rw [cj,c.now,show (t==t)=true from oO _,show ((tk m'.ts t).state != 0)=true from by simpa using hst,dc,cd];unfold st;rw [pr,AL c.hp]
 | fin _ es ch i' pr hst h1 e1 =>
  refine ⟨1,sl',m',?_,.fin _ es ch i' e1⟩;rw [cj,c.now,show (t==t)=true from oO _,show ((tk m'.ts t).state != 0)=true from by rw [hst];rfl,dc,cd];unfold st;rw [pr,AL c.hp]
 | pan b _ es w ob run mt len tr hw ho e1 hp now hst in' =>
  cases b with
  | true =>
   have ha:=advA (m'':=m') (i64.wrap ((tk m'.ts t).pc+1)) in' hst;exact ⟨2,sl',{ m' with ts:=su m'.ts t ⟨i64.wrap ((tk m'.ts t).pc+1),(tk m'.ts t).r,(tk m'.ts t).state,(tk m'.ts t).when,(tk m'.ts t).seq⟩ },rfl,.pan _ es w ob (by rw [ha];exact run) mt len tr (by rw [ha];exact hw) ho (by rw [ha];exact e1)⟩
  | false =>
   refine ⟨2,sl',m',?_,.pan _ es w ob run mt len tr hw ho e1⟩;rw [cj,hst,show ((0:Int) != 0)=false from rfl,ou];rfl
 | full h =>
  refine ⟨4,sl',m,?_,.full _ (Ch.nil rfl) (c.inv.next c.n5) h rfl⟩;rw [cj,c.st,show ((0:Int) != 0)=false from rfl,ou];rfl
theorem sm (c:iv P n m p t) (hpc:(tk m.ts t).pc<(P.Code.length:Int)) (hO:DC P (ix P.Code (tk m.ts t).pc)) (h7:(ix P.Code (tk m.ts t).pc).Op<=7) (Now sl:Int) :
 ∃ST sl' m',eu (p:Int) P.Code m.tr 0 Now sl m.ce m.ts m.pi m.lo m.gr m.pr m.gl (t-1) (ix P.Code (tk m.ts t).pc)=some (st ST sl' m')/\SR P n m ST m':=by
 have hpcb:=c.inv.pc _ (m_ c.inn);have hP:=c.hP;generalize hi:ix P.Code (tk m.ts t).pc=i at hO h7;obtain ⟨op,a,b⟩:=i;obtain ⟨h1,hA,hB⟩:=hO;simp only at h1 hA hB h7;have hn:i64.wrap ((tk m.ts t).pc+1)=(tk m.ts t).pc+1:=fI (by omega) (by omega);have key:∀ (pc:Int) (r:dn 8),0<=pc/\pc<=(P.Code.length:Int)->(∃ x:cq,mj ⟨op,a,b⟩ (tk m.ts t).pc (t-1) m.ts=some (pc,su m.ts t x)/\x.r=r/\x.state=0/\x.when=(tk m.ts t).when/\x.seq=(tk m.ts t).seq) ->
  ∃ST sl' m',eu (p:Int) P.Code m.tr 0 Now sl m.ce m.ts m.pi m.lo m.gr m.pr m.gl (t-1) ⟨op,a,b⟩=some (st ST sl' m')/\SR P n m ST m':=by
  rintro pc r hb ⟨x,e,hr,hs,_,_⟩;let y:cq:=⟨pc,x.r,x.state,x.when,x.seq⟩;have hI:=c.inv.set (x:=y) c.inn c.free hb λ_=>hs
  have ha:abs { m with ts:=su m.ts t y }=abs m:=mN c.inn (by rw [c.st];decide) (by show x.state≠3;rw [hs];decide);refine ⟨0,sl,{ m with ts:=su m.ts t y },?_,.on _ [] ⟨by simp,by rw [ha];exact .nil _,gD (λe he=>by cases he),by simp⟩ (hI.next c.n5) (by rw [ha]) rfl⟩;unfold eu oV;rw [eW c.hp,cd,gT c.inn,cd,cG h1.1,cG h7];simp only [dc,cx,cd];rw [show (ix m.ts (t-1)).pc=(tk m.ts t).pc from rfl,e];simp only [cx,qA,decide_true,cd,gT c.inn];have e1:∀ ts y,List.set ts (t-1).toNat y=su ts t y:=λ_ _=>rfl;have e2:∀ ts,ix ts (t-1)=tk ts t:=λ_=>rfl;simp only [e1,e2,iM c.inn,BZ];rfl
 have sux:∀ x:cq,m.ts.set (t-1).toNat x=su m.ts t x:=λ_=>rfl;have self:m.ts=su m.ts t (tk m.ts t):=by
  obtain ⟨k,hk⟩:=ib (show 0<=t-1 by have:=c.pos;omega);have hk2:k<m.ts.length:=by have:=c.inn.2;omega
  unfold su tk;rw [hk,eU,dp hk2,List.set_getElem_self]
 have hc:op=1\/op=2\/op=3\/op=4\/op=5\/op=6\/op=7:=by omega
 rcases hc with rfl|rfl|rfl|rfl|rfl|rfl|rfl
 ·have ha:=iN (n:=8) rfl hA;refine key ((tk m.ts t).pc+1) _ (by omega) ⟨⟨(tk m.ts t).pc,(tk m.ts t).r.set a b,(tk m.ts t).state,(tk m.ts t).when,(tk m.ts t).seq⟩,?_,rfl,c.st,rfl,rfl⟩;unfold mj gI;simp only [gT c.inn,cd,cj,Int.reduceBEq,kw (n:=((8:Nat):Int)) ha,hn];rfl
 ·have ha:=iN (n:=8) rfl hA;have hb:=iN (n:=8) rfl hB;refine key ((tk m.ts t).pc+1) _ (by omega) ⟨⟨(tk m.ts t).pc,(tk m.ts t).r.set a ((tk m.ts t).r.get b),(tk m.ts t).state,(tk m.ts t).when,(tk m.ts t).seq⟩,?_,rfl,c.st,rfl,rfl⟩;unfold mj gI;simp only [gT c.inn,cd,cj,Int.reduceBEq,kw (n:=((8:Nat):Int)) ha,kw (n:=((8:Nat):Int)) hb,hn];rfl
 ·have ha:=iN (n:=8) rfl hA;have hb:=iN (n:=8) rfl hB;refine key ((tk m.ts t).pc+1) _ (by omega) ⟨⟨(tk m.ts t).pc,(tk m.ts t).r.set a (i64.wrap ((tk m.ts t).r.get a+(tk m.ts t).r.get b)),(tk m.ts t).state,(tk m.ts t).when,(tk m.ts t).seq⟩,?_,rfl,c.st,rfl,rfl⟩;unfold mj gI;simp only [gT c.inn,cd,cj,Int.reduceBEq,kw (n:=((8:Nat):Int)) ha,kw (n:=((8:Nat):Int)) hb,hn];rfl
 ·have ha:=iN (n:=8) rfl hA;have hb:=iN (n:=8) rfl hB;refine key ((tk m.ts t).pc+1) _ (by omega) ⟨⟨(tk m.ts t).pc,(tk m.ts t).r.set a (i64.wrap ((tk m.ts t).r.get a-(tk m.ts t).r.get b)),(tk m.ts t).state,(tk m.ts t).when,(tk m.ts t).seq⟩,?_,rfl,c.st,rfl,rfl⟩;unfold mj gI;simp only [gT c.inn,cd,cj,Int.reduceBEq,kw (n:=((8:Nat):Int)) ha,kw (n:=((8:Nat):Int)) hb,hn];rfl
 ·have ha:=iN (n:=8) rfl hA;have hb:=iN (n:=8) rfl hB;refine key ((tk m.ts t).pc+1) _ (by omega) ⟨⟨(tk m.ts t).pc,(tk m.ts t).r.set a (mU [(true,1)] (decide ((tk m.ts t).r.get a<(tk m.ts t).r.get b))),(tk m.ts t).state,(tk m.ts t).when,(tk m.ts t).seq⟩,?_,rfl,c.st,rfl,rfl⟩;unfold mj gI;simp only [gT c.inn,cd,cj,Int.reduceBEq,kw (n:=((8:Nat):Int)) ha,kw (n:=((8:Nat):Int)) hb,hn];rfl
 ·have ha:=GM hA;refine key a _ (by omega) ⟨tk m.ts t,?_,rfl,c.st,rfl,rfl⟩;unfold mj;simp only [gT c.inn,cd,cj,Int.reduceBEq];rw [←self]
 ·have ha:=iN (n:=8) rfl hA;have hb:=GM hB;by_cases h0:(tk m.ts t).r.get a=0
  ·refine key b _ (by omega) ⟨tk m.ts t,?_,rfl,c.st,rfl,rfl⟩;unfold mj gI;simp only [gT c.inn,cd,cj,Int.reduceBEq,kw (n:=((8:Nat):Int)) ha,show ix m.ts (t-1)=tk m.ts t from rfl,h0];rw [←self]
  ·refine key ((tk m.ts t).pc+1) _ (by omega) ⟨tk m.ts t,?_,rfl,c.st,rfl,rfl⟩;unfold mj gI;simp only [gT c.inn,cd,cj,Int.reduceBEq,kw (n:=((8:Nat):Int)) ha,show ix m.ts (t-1)=tk m.ts t from rfl,show ((tk m.ts t).r.get a==0)=false from by simpa using h0,hn];rw [←self]
theorem SR.of {m1:M} (h:abs m1=abs m) (htr:m1.tr=m.tr) (hpl:m1.pr.length=m.pr.length) {ST:Int} {m':M} (s:SR P n m1 ST m'):SR P n m ST m':=by
 cases s with
 | on _ es c i e1 pl=>exact .on _ es ⟨by rw [c.tr,htr],by rw [←h];exact c.run,c.mt,c.len⟩ i (by rw [e1,h]) (pl.trans hpl)
 | fin _ es c i e1=>exact .fin _ es ⟨by rw [c.tr,htr],by rw [←h];exact c.run,c.mt,c.len⟩ i e1
 | pan _ es w ob run mt len tr hw ho e1=>exact .pan _ es w ob (by rw [←h];exact run) mt len (by rw [tr,htr]) hw ho (by rw [e1,h])
 | full _ c i h1 e1=>exact .full _ ⟨by rw [c.tr,htr],by rw [←h];exact c.run,c.mt,c.len⟩ i h1 (by rw [e1,h])
theorem M7 (h:fj P n m) (hn:n<=5000) (hOk:Ok P) (h20:P.Pipes.length<=20/\P.Locks<=20/\P.Groups<=20) (hp:p<m.pr.length) (htr:m.tr.length<=700000) (Steps Now sl:Int) (c2:List Int) :
 ∃ST sl' m',gq (p:Int) P.Code P.Cells P.Pipes P.Locks P.Groups m.tr 0 Steps Now c2 sl m.ce m.ts m.pr m.gl m.pi m.lo m.gr=some (st ST sl' m')/\SR P n m ST m':=by
 have hO:∀ i:Int,0<=i->i<(P.Code.length:Int)->DC P (ix P.Code i):=λi h0 h1=>hOk.at h0 h1
 -- a task is there
 have run:∀ {m1:M} {t:Int},iv P n m1 p t->∃ ST sl' m',gb (p:Int) P.Code m1.tr 0 Now sl m1.ce m1.ts m1.pi m1.lo m1.gr false m1.pr m1.gl=some (st ST sl' m')/\SR P n m1 ST m':=by
  intro m1 t c
  have hpcb:=c.inv.pc _ (m_ c.inn)
  unfold gb
  rw [eW c.hp,cd,cj,dp c.hp,c.now,mI c.inn c.inv.tl.2,cx,gT c.inn,cd,show ix m1.ts (t-1)=tk m1.ts t from rfl]
  have hend:∀ i:df,i.Op=9->∃ ST sl' m',eu (p:Int) P.Code m1.tr 0 Now sl m1.ce m1.ts m1.pi m1.lo m1.gr m1.pr m1.gl (t-1) i=some (st ST sl' m')/\SR P n m1 ST m':=by
   rintro ⟨op,a,b⟩ h9
   obtain rfl:op=9:=h9
   obtain ⟨ST,sl',pr',m',e,hD⟩:=Jr c a b Now sl
   exact Bz c rfl Now sl e hD (λh=>by cases h)
  by_cases hpc:(tk m1.ts t).pc<(P.Code.length:Int)
  ·rw [cG hpc,cd,cG hpcb.1,dc,cd]
   by_cases h7:(ix P.Code (tk m1.ts t).pc).Op<=7
   ·exact sm c hpc (hO _ hpcb.1 hpc) h7 Now sl
   ·by_cases h9:(ix P.Code (tk m1.ts t).pc).Op=9
    ·exact hend _ h9
    ·obtain ⟨b,ST,sl',pr',m',e,hD⟩:=M0 c hO h20 hpc (by omega) h9 Now sl
     refine Bz c ?_ Now sl e hD (λ_=>hpc)
     unfold oV
     rw [cP h7,ou]
  ·rw [cP hpc,cj]
   exact hend _ rfl
 have hnn:=(h.mv.nn _ (eL hp)).1
 unfold gq
 rw [j8,j7 hp,dc,cd,dp hp]
 by_cases h0:m.pr[p].now=0
 ·rw [h0,show ((0:Int)==0)=true from rfl,cd]
  obtain ⟨b,gl',pr',e,hm,hc,hl,hb⟩:=MR h.mv hp h0
  have hI:=h.procs hm λx hx=>h.rs x (hc.mem_iff.1 hx)
  have hp':p<pr'.length:=by omega
  rw [e,cx,eW hp',cd]
  cases b with
  | false =>
   refine ⟨0,sl,{ m with pr:=pr',gl:=gl' },?_,.on _ [] ⟨by simp,.nil _,gD (λe he=>by cases he),by simp⟩ (hI.next hn) rfl hl⟩
   unfold gb
   simp only
   rw [eW hp'];rfl
  | true =>
   obtain ⟨hp2,hb⟩:=hb rfl
   obtain ⟨ST,sl',m',e2,hs⟩:=run (m1:={ m with pr:=pr',gl:=gl' }) (t:=pr'[p].now) ⟨hI,hn,hOk.len,hp',htr,rfl,hb⟩
   exact ⟨ST,sl',m',e2,SR.of (m:=m) (m1:={ m with pr:=pr',gl:=gl' }) rfl rfl hl hs⟩
 ·rw [show (m.pr[p].now==0)=false from by simpa using h0,cj]
  exact run ⟨h,hn,hOk.len,hp,htr,rfl,by omega⟩
end
end
section
set_option maxRecDepth 100000
def yP (x y:Int):Int:=if x<y then -1 else if y<x then 1 else 0
def Fz (a b:Int):Int:=if a=0 then b else a
theorem HW (x y:Int):kT x y=some (yP x y):=by
 unfold kT nM yP;simp only [cx,bne_self_eq_false,cj];by_cases h:x<y
 ·rw [cG h,if_pos h];rfl
 ·rw [cP h,if_neg h,cj];by_cases h2:y<x
  ·rw [cG h2,if_pos h2];rfl
  ·rw [cP h2,if_neg h2];rfl
theorem N8 (a b:Int):qp [a,b]=some (Fz a b):=by
 have s0:pF [a,b] 0=(bif (a != 0) then some (.inr a) else some (.inl 1)):=rfl;have s1:pF [a,b] 1=(bif (b != 0) then some (.inr b) else some (.inl 2)):=rfl;unfold qp Fz;by_cases ha:a=0
 ·rw [show (a != 0)=false from by simpa using ha,cj] at s0;rw [kL s0,if_pos ha];by_cases hb:b=0
  ·rw [show (b != 0)=false from by simpa using hb,cj] at s1;rw [kL s1,hb];exact f5 rfl
  ·rw [show (b != 0)=true from by simpa using hb,cd] at s1;exact f5 s1
 ·rw [show (a != 0)=true from by simpa using ha,cd] at s0;rw [if_neg ha];exact f5 s0
theorem J0 {ts:List cq} {t:Int} (h:In ts t) (hl:ts.length<=64):iB (ts.map PT.mk) t=some (tk ts t):=by
 obtain ⟨k,hk⟩:=ib (show 0<=t-1 by have:=h.1;omega);have:=h.2;unfold iB tk;rw [fI (by omega) (by omega),hk,j8,ep,j7 (by omega),dc,cd,dp (by rw [ep];omega),dp (by omega),oq]
def DO (ts:List cq) (a b:Int):Int:=Fz (yP (tk ts a).when (tk ts b).when) (yP (tk ts a).seq (tk ts b).seq)
theorem DP {ts:List cq} {a b:Int} (ha:In ts a) (hb:In ts b) (hl:ts.length<=64):eH a b (ts.map PT.mk)=some (DO ts a b):=by
 unfold eH;simp only [J0 ha hl,J0 hb hl,cx,HW,N8];rfl
theorem M8:∀ (xs:List Int) (a:Int),a<=xs.foldl max a/\(∀ x∈xs,x<=xs.foldl max a)/\∀ b,a<=b->(∀ x∈xs,x<=b)->xs.foldl max a<=b
 | [],a=>⟨iW _,λx hx=>(by cases hx),λb h _=>h⟩
 | y::ys,a=>by
  obtain ⟨h1,h2,h3⟩:=M8 ys (max a y)
  refine ⟨by simp only [List.foldl_cons];omega,λx hx=>?_,λb hab h=>h3 b (by have:=h y (.head _);omega) λx hx=>h x (.tail _ hx)⟩
  rcases fg.1 hx with rfl|hx
  ·simp only [List.foldl_cons];omega
  ·exact h2 x hx
theorem Lz {ts:List cq} {xs:List Int} (h:∀ x∈xs,In ts x) (hl:ts.length<=64) (hx:xs.length<=64):∃ ys,ki xs (ts.map PT.mk)=some ys/\ys.Perm xs:=by
 obtain ⟨f1,f2,f3⟩:=M8 xs 0;have f4:=f3 ts.length (by omega) λx hx=>(h x hx).2
 have hin:∀ a:Int,1<=a/\a<=((((xs.foldl max 0).toNat):Nat):Int)->In ts a:=λa ha=>⟨ha.1,by omega⟩;have hO:Go.Sort.SWO (Go.Proofs.ltOf λ(a b:Rg ((xs.foldl max 0).toNat))=>(λa b:Int=>(eH a b (ts.map PT.mk)).getD 0) a.1 b.1):=by
  have e:∀ a b:Rg ((xs.foldl max 0).toNat),(eH a.1 b.1 (ts.map PT.mk)).getD 0=DO ts a.1 b.1:=λa b=>by rw [DP (hin _ a.2) (hin _ b.2) hl];rfl
  refine ⟨λa=>?_,λa b c h1 h2=>?_,λa b c h1 h2=>?_⟩
  ·simp only [Go.Proofs.ltOf,e,DO,Fz,yP];simp
  ·simp only [Go.Proofs.ltOf,e,DO,Fz,yP,iU] at h1 h2 ⊢;generalize (tk ts a.1).when=x1 at *;generalize (tk ts b.1).when=x2 at *;generalize (tk ts c.1).when=x3 at *;generalize (tk ts a.1).seq=y1 at *;generalize (tk ts b.1).seq=y2 at *;generalize (tk ts c.1).seq=y3 at *;omega
  ·simp only [Go.Proofs.ltOf,e,DO,Fz,yP,uP] at h1 h2 ⊢;generalize (tk ts a.1).when=x1 at *;generalize (tk ts b.1).when=x2 at *;generalize (tk ts c.1).when=x3 at *;generalize (tk ts a.1).seq=y1 at *;generalize (tk ts b.1).seq=y2 at *;generalize (tk ts c.1).seq=y3 at *;omega
 have hr:∀ x∈xs,1<=x/\x<=((((xs.foldl max 0).toNat):Nat):Int):=λx hx=>⟨(h x hx).1,by have:=f2 x hx;omega⟩;refine ⟨_,?_,(Gx (cf:=λa b:Int=>(eH a b (ts.map PT.mk)).getD 0) hr hO).1⟩;unfold ki;rw [if_pos ⟨λa b ha hb=>by rw [DP (hin _ ha) (hin _ hb) hl];rfl,hO,hr,by omega⟩]
section
variable {P:cz} {n:Nat} {m:M}
theorem M9 (h:fj P n m) (hn:n<=5000) (Now:Int):∃ m',jP Now m.ts m.gl=some (i64.wrap (Now+1),m'.gl,m'.ts)/\m'.pr=m.pr/\m'.tr=m.tr/\m'.ce=m.ce/\m'.pi=m.pi/\m'.lo=m.lo/\m'.gr=m.gr/\SR P n m 0 m':=by
 have hl:=h.tl;obtain ⟨r,e,m',hr,h1,h2,h3,h4,h5,h6,h7⟩:=ng (step:=j9 Now m.ts m.gl) (s0:=(0,m.ts,[])) (λs=>∃ (i:Nat) (ts:List cq) (up:List Int),s=(((i:Nat):Int),ts,up)/\i<=m.ts.length/\ts.length=m.ts.length/\fj P n { m with ts:=ts }/\abs { m with ts:=ts }=abs m/\up.Nodup/\∀ x∈up,1<=x/\x<=((i:Nat):Int)/\(tk ts x).state=0/\x∉al m.pr m.gl) (λs=>((m.ts.length:Int)-s.1).toNat) (λr=>∃ m':M,r=(i64.wrap (Now+1),m'.gl,m'.ts)/\m'.pr=m.pr/\m'.tr=m.tr/\m'.ce=m.ce/\m'.pi=m.pi/\m'.lo=m.lo/\m'.gr=m.gr/\SR P n m 0 m') (λs hs=>by
   obtain ⟨i,ts,up,rfl,hi,hlen,hI,ha,hnd,hup⟩:=hs;have hul:up.length<=64:=(dE.mk hnd λx hx=>⟨(hup x hx).1,by have:=(hup x hx).2.1;omega⟩).len;unfold j9 iP;simp only;by_cases hlt:i<m.ts.length
   ·have hin:In ts ((i+1:Nat):Int):=⟨by omega,by omega⟩;have htk:tk ts ((i+1:Nat):Int)=ts[i]:=by
     unfold tk;rw [show ((i+1:Nat):Int)-1=(i:Int) by omega,dp (by omega)]
    have hmu:((m.ts.length:Int)-((i+1:Nat):Int)).toNat<((m.ts.length:Int)-(i:Int)).toNat:=by omega
    rw [j7 hlt,j8,j7 (show i<ts.length by omega),dc,cd,cd,dp (show i<ts.length by omega),gC (by omega),eU];by_cases hd:(ts[i].state==2&&decide (ts[i].when<=i64.wrap (Now+1)))=true
    ·rw [hd,cd,cG (by simp;omega),cd];have hs2:ts[i].state=2:=by simpa using (Bool.and_eq_true_iff.1 hd).1
     have hst:(tk ts ((i+1:Nat):Int)).state=2:=by rw [htk];exact hs2
     have hnal:((i+1:Nat):Int)∉al m.pr m.gl:=λhm=>by
      have:=(hI.rs _ hm).2;rw [show (tk ts ((i+1:Nat):Int)).state=2 from hst] at this;exact absurd this (by decide)
     have hsu:ts.set i ⟨ts[i].pc,ts[i].r,0,ts[i].when,ts[i].seq⟩=su ts ((i+1:Nat):Int) ⟨ts[i].pc,ts[i].r,0,ts[i].when,ts[i].seq⟩:=by
      unfold su;rw [show (((i+1:Nat):Int)-1).toNat=i by omega]
     rw [hsu];have hI2:=hI.set (t:=((i+1:Nat):Int)) (x:=⟨ts[i].pc,ts[i].r,0,ts[i].when,ts[i].seq⟩) hin (hI.free (by show (tk ts _).state≠1;rw [hst];decide)) (show 0<=ts[i].pc/\ts[i].pc<=(P.Code.length:Int) from hI.pc _ (eL (show i<ts.length by omega))) λ_=>rfl
     have ha2:abs { m with ts:=su ts ((i+1:Nat):Int) ⟨ts[i].pc,ts[i].r,0,ts[i].when,ts[i].seq⟩ }=abs m:=(mN (m:={ m with ts:=ts }) hin (by show (tk ts _).state≠3;rw [hst];decide) (show (0:Int)≠3 by decide)).trans ha;refine .inl ⟨_,rfl,⟨i+1,_,_,rfl,hlt,by rw [qA];exact hlen,hI2,ha2,?_,λx hx=>?_⟩,hmu⟩
     ·refine rC.2 ⟨hnd,by simp,λx hx y hy e=>?_⟩;rw [fO] at hy;subst e hy;have:=(hup _ hx).2.1;omega
     ·rcases gy.1 hx with hx|hx
      ·obtain ⟨g1,g2,g3,g4⟩:=hup x hx;exact ⟨g1,by omega,by rw [ry ⟨g1,by omega⟩ hin (by omega)];exact g3,g4⟩
      ·rw [fO] at hx;subst hx;exact ⟨by omega,iW _,by rw [iM hin],hnal⟩
    ·rw [show (ts[i].state==2&&decide (ts[i].when<=i64.wrap (Now+1)))=false from by simpa using hd,cj];exact .inl ⟨_,rfl,⟨i+1,ts,up,rfl,hlt,hlen,hI,ha,hnd,λx hx=>⟨(hup x hx).1,by have:=(hup x hx).2.1;omega,(hup x hx).2.2⟩⟩,hmu⟩
   ·have hin:∀ x∈up,In ts x:=λx hx=>⟨(hup x hx).1,by have:=(hup x hx).2.1;omega⟩;obtain ⟨ys,e,hp⟩:=Lz hin (by omega) hul;have hgl:=h.mv.ids.right.len;have hyl:=hp.length_eq;have hal:(al m.pr (m.gl++ys)).Perm (al m.pr m.gl++up):=by
     unfold al;rw [←fJ];exact List.Perm.append_left _ hp
    have kM:dE (al m.pr m.gl++up):=⟨rC.2 ⟨h.mv.ids.nd,hnd,λx hx y hy e=>(hup y hy).2.2.2 (e▸hx)⟩,λx hx=>by
     rcases gy.1 hx with hx|hx
     ·exact h.mv.ids.rg x hx
     ·have:=hup x hx;omega⟩
    refine .inr ⟨_,?_,{ m with ts:=ts,gl:=m.gl++ys },rfl,rfl,rfl,rfl,rfl,rfl,rfl,.on _ [] ⟨by simp,?_,gD (λe he=>by cases he),by simp⟩ (fj.next (hI.procs ⟨kM.perm hal,h.mv.nn,h.mv.ln⟩ λx hx=>?_) hn) ?_ ?_⟩
    ·rw [cP (by omega),cj,e];simp only [cx,hyl,decide_true,cd];rw [cG (by simp;omega)];rfl
    ·rw [show abs { m with ts:=ts,gl:=m.gl++ys }=abs m from ha];exact .nil _
    ·rcases gy.1 (hal.mem_iff.1 hx) with hx|hx
     ·exact hI.rs x hx
     ·exact ⟨hin x hx,(hup x hx).2.2.1⟩
    ·rw [show abs { m with ts:=ts,gl:=m.gl++ys }=abs m from ha]
    ·rfl) ⟨0,m.ts,[],rfl,hU _,rfl,h,rfl,lC,λx hx=>by cases hx⟩
 exact ⟨m',by unfold jP;rw [e,hr],h1,h2,h3,h4,h5,h6,h7⟩
end
def goes (x:cq):Bool:=x.state==0||x.state==2
theorem Js {ts:List cq} (hl:ts.length<=64):js ts=some (!(ts.any goes)):=by
 have e:=rx (step:=ge ts) (λi=>((i:Nat):Int)) (λi=>if (ts[i]?.map goes).getD false=true then some ((i:Nat):Int) else none) (-1) ts.length (λi hi hb=>?_) (λi r hi hb=>?_) (λ_=>?_)
 ·unfold js jk ka;rw [show (0:Int)=((0:Nat):Int) from rfl,e,cx,cx];congr 2;cases hf:gf (λi=>if (ts[i]?.map goes).getD false=true then some ((i:Nat):Int) else none) ts.length with
  | none =>
   have h2:=(jV _).1 hf;rw [show ts.any goes=false from by
    rw [List.any_eq_false];intro x hx;obtain ⟨i,hi,rfl⟩:=List.mem_iff_getElem.1 hx;have:=h2 i hi;simp only [dz hi,fp,gY] at this;intro hg;rw [if_pos hg] at this;cases this]
   rfl
  | some r =>
   obtain ⟨i,hi,h2,_⟩:=je _ hf;simp only [dz hi,fp,gY] at h2;split at h2
   ·rename_i hg;cases h2;rw [show ts.any goes=true from nl.2 ⟨_,eL hi,hg⟩];simp
   ·cases h2
 ·unfold ge iQ;simp only [dz hi,fp,gY] at hb;have hg:goes ts[i]=false:=by
   cases h:goes ts[i] with
   | false=>rfl
   | true=>rw [h] at hb;cases hb
  simp only [j7 hi,j8,dc,cd,eW hi,dp hi,cx];rw [show (ts[i].state==0||ts[i].state==2)=false from hg,gC (by omega)];rfl
 ·unfold ge iQ;simp only [dz hi,fp,gY] at hb;split at hb
  ·rename_i hg;cases hb;simp only [j7 hi,j8,dc,cd,eW hi,dp hi,cx];rw [show (ts[i].state==0||ts[i].state==2)=true from hg];rfl
  ·cases hb
 ·unfold ge;rw [lY];rfl
end
section
set_option maxRecDepth 100000
noncomputable section
structure BA (p:cz):Prop where
 ok:Ok p
 f0:lA p=⟨0,0⟩
 pn:p.Pipes.length<=20
 pc:∀ x∈p.Pipes,0<=x/\x<=100
 ce:0<=p.Cells/\p.Cells<=20
 lo:0<=p.Locks/\p.Locks<=20
 gr:0<=p.Groups/\p.Groups<=20
theorem Ip {p:cz} (h:(lA p).Code=0):BA p:=by
 have h1:=NX h;have h2:=GK h;have h3:=h;unfold lA at h3;split at h3
 ·simp at h3
 ·rename_i a1;split at h3
  ·simp at h3
  ·rename_i a2;refine ⟨h1,h2,by omega,λx hx=>?_,by omega,by omega,by omega⟩;obtain ⟨i,hi,rfl⟩:=List.mem_iff_getElem.1 hx;cases hf0:gf (qy p) p.Pipes.length with
   | some f =>
    rw [hf0] at h3;obtain ⟨i,hi,hb,_⟩:=je _ hf0;unfold qy at hb;split at hb
    ·cases hb;simp at h3
    ·cases hb
   | none =>
    have hb:=(jV _).1 hf0 i hi;unfold qy at hb;split at hb
    ·cases hb
    ·rename_i hh;rw [dp hi] at hh;omega
def oh (c:Int):cR:=⟨c,[],false,[],[]⟩
def rep (N:Nat):List bV:=List.replicate N ⟨0,0,[]⟩
def m0 (p:cz) (N:Nat):M:=⟨[⟨0,default,0,0,0⟩],rep N,[1],List.replicate p.Cells.toNat default,p.Pipes.map oh,List.replicate p.Locks.toNat default,List.replicate p.Groups.toNat default,[]⟩
theorem GQ:dE [1]:=⟨by simp,λx hx=>by rw [fO] at hx;subst hx;decide⟩
theorem Ow (N:Nat):al (rep N) [1]=[1]:=by
 unfold al rep;rw [show (List.replicate N (⟨0,0,[]⟩:bV)).flatMap pl=[] from List.flatMap_eq_nil_iff.2 λx hx=>by rw [List.eq_of_mem_replicate hx];rfl];rfl
theorem OL {p:cz} (h:BA p) {N:Nat} (hN:1<=N/\N<=16):fj p 0 (m0 p N):=by
 have h1:=h.ce;have h2:=h.lo;have h3:=h.gr;refine ⟨by decide,(show 1<=1/\1<=64 by decide),λx hx=>?_,⟨by show dE (al (rep N) [1]);rw [Ow];exact GQ,λq hq=>by rw [List.eq_of_mem_replicate hq];decide,by show 1<=(rep N).length/\(rep N).length<=16;unfold rep;simpa using hN⟩,λx hx=>?_,by simp [m0];omega,by simp [m0],λk hk=>?_,by simp [m0];omega,λk hk=>?_,by simp [m0];omega,λk hk=>?_⟩
 ·rw [fO.1 hx];exact ⟨iW _,by show (0:Int)<=_;omega⟩
 ·have hx':x∈al (rep N) [1]:=hx;rw [Ow,fO] at hx';subst hx';exact ⟨(show (1:Int)<=1/\(1:Int)<=((1:Nat):Int) by decide),rfl⟩
 ·have hk':k<p.Pipes.length:=by simpa [m0] using hk
  have e:(m0 p N).pi[k]=oh p.Pipes[k]:=by simp [m0]
  rw [e,dp hk'];have:=h.pc _ (eL hk');exact ⟨⟨⟨this,this.1,⟨lC,λx hx=>by cases hx⟩,(λx hx=>by cases hx),(λx hx=>by cases hx),(λe=>absurd rfl e),(λe=>absurd rfl e)⟩,(λx hx=>by cases hx),(λx hx=>by cases hx)⟩,rfl⟩
 ·have e:(m0 p N).lo[k]=default:=by simp [m0]
  rw [e];exact ⟨⟨by decide,(λe=>by cases e),⟨lC,λx hx=>by cases hx⟩,(λx hx=>by cases hx),(λw ws e=>by cases e)⟩,(λx hx=>by cases hx),by decide⟩
 ·have e:(m0 p N).gr[k]=default:=by simp [m0]
  rw [e];exact ⟨⟨by decide,⟨lC,λx hx=>by cases hx⟩,λ_=>rfl⟩,(λx hx=>by cases hx)⟩
theorem M_ {p:cz} (h:BA p) {N:Nat} (hN:N<=16):lT p (N:Int)=some ((m0 p N).ce,(m0 p N).ts,(m0 p N).pr,(m0 p N).gl,(m0 p N).pi,(m0 p N).lo,(m0 p N).gr):=by
 have h1:=h.ce;have h2:=h.lo;have h3:=h.gr;have h4:=h.pn;unfold lT;rw [cG (by omega),cd];refine iI (step:=kh p (N:Int)) (λi=>(((i:Nat):Int),rep i)) _ N (λi hi=>?_) ?_
 ·unfold kh;simp only;rw [j7 hi,cd,cG (by simp [rep];omega),cd,gC (by omega),show rep i++[bV.mk 0 0 []]=rep (i+1) from by unfold rep;exact List.replicate_succ'.symm]
 ·unfold kh;simp only;rw [lY,cj];congr 1;refine iI (step:=kg p (rep N)) (λi=>(((i:Nat):Int),(p.Pipes.take i).map oh)) _ p.Pipes.length (λi hi=>?_) ?_
  ·unfold kg;simp only [j7 hi,j8,cd,dc];rw [cG (by simp;omega),cd,gC (by omega),dp hi,jZ hi,kJ];rfl
  ·unfold kg;simp only;rw [lY,cj,cG (by omega),cd,cG (by omega),cd,ov];rfl
abbrev PS:=Int×Int×Int×Int×Int×List cy×List Int×List Int×List cq×List bV×List Int×List cR×List dj×(List cY)
def ps (t:Nat) (S Ste Now sl:Int) (m:M):PS:=((t:Int),S,Ste,Now,sl,m.tr,[],m.ce,m.ts,m.pr,m.gl,m.pi,m.lo,m.gr)
def Ox (P:cz) (x:Int) (m:M) (Ste Now sl S' Now' sl':Int) (m':M):Prop:=∀ (script:List Int) (t:Nat),t<script.length->t<100000->ix script ((t:Nat):Int)=x->gJ P script (ps t 0 Ste Now sl m)=some (.inl (ps (t+1) S' (i64.wrap (Ste+1)) Now' sl' m'))
def fin (ST:Int) (m:M):Int:=if ST=0/\m.ts.any goes=false then 3 else ST
theorem j4 {t:Nat} (ht:t<100000) (Ste ST Now sl:Int) {m:M} (hl:m.ts.length<=64):mr (t:Int) Ste [] ST Now sl m.tr m.ce m.ts m.pr m.gl m.pi m.lo m.gr=some (.inl (ps (t+1) (fin ST m) (i64.wrap (Ste+1)) Now sl m)):=by
 unfold mr fin;by_cases h0:ST=0
 ·subst h0;rw [show ((0:Int)==0)=true from rfl,cd,Js hl,cx];unfold mq mo;cases hg:m.ts.any goes with
  | true=>rw [if_neg (by simp),gC ht];rfl
  | false=>rw [if_pos ⟨rfl,rfl⟩,gC ht];rfl
 ·rw [show (ST==0)=false from by simpa using h0,cj,if_neg (λh=>h0 h.1)];unfold mq mo;rw [gC ht];rfl
theorem SR.len {P:cz} {n:Nat} {m m':M} {ST:Int} (h:fj P n m) (s:SR P n m ST m'):m'.ts.length<=64:=by
 have key:∀ {a b:A} {es},hJ P a es b->a.n<=64->b.n<=64:=λ{a b es} r ha=>by
  induction r with
  | nil=>exact ha
  | snoc r hev ht ih =>
   cases hev<;>first|exact ih|(show _+1<=64;omega)
 have h0:(abs m).n<=64:=by show (m.ts.length:Int)<=64;have:=h.tl;omega
 have h1:(abs m').n<=64->m'.ts.length<=64:=λh=>by
  have h':((m'.ts.length:Nat):Int)<=64:=h;omega
 cases s with
 | on _ es c i e1 pl=>exact h1 (key c.run h0)
 | fin _ es c i e1=>exact h1 (key c.run h0)
 | pan _ es w ob run mt len tr hw ho e1=>exact h1 (key run h0)
 | full _ c i hh e1=>exact h1 (key c.run h0)
theorem N9 {P:cz} (hP:BA P) {N n:Nat} {m:M} (h:fj P n m) (hpl:m.pr.length=N) (hn:n<=5000) (htr:m.tr.length<=700000) {x:Int} (hx:-1<=x/\x<(N:Int)) (Ste Now sl:Int) :
 ∃ST Now' sl' m',Ox P x m Ste Now sl (fin ST m') Now' sl' m'/\SR P n m ST m':=by
 by_cases h1:x = -1
 ·subst h1;obtain ⟨m',e,g1,g2,g3,g4,g5,g6,hs⟩:=M9 h hn Now;refine ⟨0,i64.wrap (Now+1),sl,m',λscript t ht ht2 hx=>?_,hs⟩;unfold gJ ps;simp only;rw [j7 ht,j8,hx];simp only [dc,cd,show ((0:Int) != 0)=false from rfl,cj,show decide ((-1:Int)<0)=true from rfl,e,cx];have:=j4 ht2 Ste 0 (i64.wrap (Now+1)) sl (hs.len h);rw [g1,g2,g3,g4,g5,g6] at this;rw [this];unfold ps;rw [g1,g2,g3,g4,g5,g6]
 ·obtain ⟨p,rfl⟩:=ib (show 0<=x by omega);obtain ⟨ST,sl',m',e,hs⟩:=M7 h hn hP.ok ⟨hP.pn,hP.lo.2,hP.gr.2⟩ (p:=p) (by omega) htr (i64.wrap (Ste+1)) Now sl [];refine ⟨ST,Now,sl',m',λscript t ht ht2 hx=>?_,hs⟩;unfold gJ ps;simp only;rw [j7 ht,j8,hx];simp only [dc,cd,show ((0:Int) != 0)=false from rfl,cj];rw [cP (show ¬ (p:Int)<0 by omega),cj,e,cx];exact j4 ht2 Ste ST Now sl' (hs.len h)
theorem Na {S Ste Now sl:Int} {m:M} (hl:m.ts.length<=64):mn S Ste Now m.tr [] m.ce m.ts=some (S,Ste,Now,⟨0,0⟩,m.tr,m.ts.map (·.state),m.ce):=by
 unfold mn;refine iI (step:=nT S Ste Now m.tr m.ce m.ts) (λi=>(((i:Nat):Int),(m.ts.take i).map (·.state))) _ m.ts.length (λi hi=>?_) ?_
 ·unfold nT;simp only [j7 hi,j8,dc,cd,dp hi];rw [cG (by simp;omega),cd,gC (by omega),jZ hi,kJ];rfl
 ·unfold nT;simp only;rw [lY,cj,ov];try rfl
theorem DQ {P:cz} {script:List Int} {t:Nat} {S Ste Now sl:Int} {m:M} (hl:m.ts.length<=64) (h:t=script.length\/(t<script.length/\S≠0)):gJ P script (ps t S Ste Now sl m)=some (.inr (S,Ste,Now,⟨0,0⟩,m.tr,m.ts.map (·.state),m.ce)):=by
 have j1:=Na (S:=S) (Ste:=Ste) (Now:=Now) (sl:=sl) hl;unfold gJ ps;simp only;rcases h with h|⟨h,h0⟩
 ·subst h;rw [lY,cj,j1];rfl
 ·rw [j7 h,j8,show (S != 0)=true from by simpa using h0];simp only [dc,cd,j1];try rfl
inductive tt (P:cz) (N:Nat) (script:List Int):Nat->Int->Int->Int->M->Prop
 | zero:tt P N script 0 0 0 0 (m0 P N)
 | next {k Now sl m ST Now' sl' m'} (h:tt P N script k 0 Now sl m) (hk:k<script.length) (e:Ox P (ix script (k:Int)) m (k:Int) Now sl (fin ST m') Now' sl' m') (s:SR P k m ST m'):tt P N script (k+1) (fin ST m') Now' sl' m'
abbrev RT:=Int×Int×Int×cE×List cy×List Int×(List Int)
end
end
end Go.Proofs.YthcdpjkgdcpkmaaGreatDoor
end
