/-
 Lemmas, put together: TxZ, TyA, TyB, IH, HA, HX, HB, HY, HC, HD, HE, HF, HH, HI, HJ, HK, HG, HL, HM, HN, HO, HP, HS, HZ, HV, HW, HU.
 No conditions.
-/
import Derived.Test.YthcdpjkgdcpkmaaGreatDoorwkA2
import Derived.DataReads
import Derived.ChangeArms
import GoSem.ClaimChange
import Derived.Below
import Derived.ChangeSame
import Derived.WideKeyArgs
import Derived.WideShapes
import Derived.RowKit
import Derived.OpenShut
import Derived.Lib.LaidU8
import Derived.Deep.AppendSrc
import Derived.Lib.Overlaps
import Derived.Lib.AppendZerosOnto
import Derived.Laws.IdiomCopy
import Derived.Shelf.Spec.SlicesInsert
import Derived.Lib.Builder
import Derived.Lib.UnsafeStr
set_option linter.unusedSimpArgs false
set_option linter.unusedVariables false
set_option linter.unusedSectionVars false
section
namespace Go.Sx
section
open Go.RowKit
variable {P:Program}
def Nm.to (j k:Nm):Nm:=match k with
 | .t _=>j
 | .s _ i=>.s j.base i
def dh:List (Nm×Nm)->Nm->Option Nm
 | [],_=>none
 | p::r,k=>bif p.1.eqk k then some (p.2.to k) else dh r k
theorem Ho (a b:Nm) (r:List (Nm×Nm)) (k:Nm):dh ((a,b)::r) k=bif a.eqk k then some (b.to k) else dh r k:=rfl
theorem IB (k:Nm):dh [] k=none:=rfl
theorem js (σ:List (Nm×Nm)):rh (dh σ):=λF i=>by
 induction σ with
 | nil=>rfl
 | cons p r ih =>
  simp only [dh]
  have e:p.1.eqk (.s F i)=p.1.eqk (.s F 0):=by cases p.1<;>rfl
  rw [e]
  cases p.1.eqk (.s F 0) with
  | true=>rfl
  | false=>exact ih
mutual
def SV.st:SV->Bool
 | .v _=>true
 | .agg xs=>ir xs
 | .tup xs=>ir xs
 | .sl _ xs=>ir xs
 | .iptr xs _=>ir xs
 | .clo _ xs=>ir xs
 | .ifc _ x=>x.st
 | .mth _ x=>x.st
 | .asl _ _ _=>false
 | .bp _ _ _=>false
 | .any=>false
 | .gd _ _=>false
 | .own _ _ _=>false
 | .ptr _ _=>false
 | .mp _=>false
 | .it _=>false
def ir:List SV->Bool
 | []=>true
 | x::xs=>x.st&&ir xs
end
mutual
theorem BU:∀ {s:SV},s.st=true->s.cl=true
 | .v _,_=>rfl
 | .agg xs,h=>ju (xs:=xs) h
 | .tup xs,h=>ju (xs:=xs) h
 | .sl _ xs,h=>ju (xs:=xs) h
 | .iptr xs _,h=>ju (xs:=xs) h
 | .clo _ xs,h=>ju (xs:=xs) h
 | .ifc _ x,h=>BU (s:=x) h
 | .mth _ x,h=>BU (s:=x) h
theorem ju:∀ {xs:List SV},ir xs=true->mP xs=true
 | [],_=>rfl
 | x::xs,h=>by
  simp only [ir,cR] at h
  simp only [mP,cR]
  exact ⟨BU h.1,ju h.2⟩
end
mutual
def fu (hp hp':Hp) (σ:List (Nm×Nm)) (frz:List Nm):SV->SV->Prop
 | s,s'=>match s' with
  | .any=>True
  | .own k' o' n'=>match s with
   | .own k o n=>dh σ k'=some k/\o=o'/\n=n'/\(bW hp' k').live=true
   | .v x=>x = .slice none 0 0/\o'=0/\n'=0/\(bW hp' k').live=true/\dh σ k'=none
   | _=>False
  | .ptr k' o'=>match s with
   | .ptr k o=>dh σ k'=some k/\o=o'/\(bW hp' k').live=true
   | _=>False
  | .mp k'=>match s with
   | .mp k=>dh σ k'=some k/\(bW hp' k').live=true
   | _=>False
  | .it k'=>match s with
   | .it k=>dh σ k'=some k/\(bW hp' k').live=true
   | _=>False
  | .agg ys=>match s with
   | .agg xs=>(ir ys=true/\xs=ys)\/lT hp hp' σ frz xs ys
   | _=>False
  | .tup ys=>match s with
   | .tup xs=>lT hp hp' σ frz xs ys
   | _=>False
  | .clo f' ys=>match s with
   | .clo f xs=>f=f'/\lT hp hp' σ frz xs ys
   | _=>False
  | .asl _ _ _=>False
  | .bp k' e' n'=>match s with
   | .bp k e n=>dh σ k'=some k/\e=e'/\n=n'/\(bW hp' k').live=true
   | _=>False
  | .mth t' y=>match s with
   | .mth t x=>t=t'/\fu hp hp' σ frz x y
   | _=>False
  | .ifc t' y=>match s with
   | .ifc t x=>t=t'/\fu hp hp' σ frz x y
   | _=>False
  | .sl n' cs'=>match s with
   | .own k o n=>n=n'/\mz frz k/\∃ e cs q,bW hp k = .row e cs/\(n=0->q=0)/\((mP cs=true/\cs'=da cs o q)\/∃ cs2:List SV,cs2.length<=cs.length/\(∀ (P:Program) (i:Nat) (x y:SV),cs[i]? = some x->cs2[i]? = some y->jP P (bW hp) (bW hp') (dh σ) (mz frz) x y)/\cs'=da cs2 o q)
   | .v x=>x = .slice none 0 0/\n'=0/\cs'=[]
   | .sl n cs=>n=n'/\cs=cs'/\mP cs=true
   | _=>False
  | .iptr cs' o'=>match s with
   | .ptr k o=>o=o'/\mz frz k/\∃ e cs,bW hp k = .row e cs/\cs'.length<=cs.length/\∀ (P:Program) (i:Nat) (x y:SV),cs[i]? = some x->cs'[i]? = some y->jP P (bW hp) (bW hp') (dh σ) (mz frz) x y
   | .iptr cs o=>cs=cs'/\o=o'/\mP cs=true
   | _=>False
  | .v y=>s = .v y
  | .gd g y=>s = .gd g y/\y.cl=true
def lT (hp hp':Hp) (σ:List (Nm×Nm)) (frz:List Nm):List SV->List SV->Prop
 | xs,ys=>match ys with
  | []=>xs=[]
  | y::ys=>match xs with
   | x::xs=>fu hp hp' σ frz x y/\lT hp hp' σ frz xs ys
   | []=>False
end
theorem sJ {hp hp':Hp} {σ:List (Nm×Nm)} {frz:List Nm}:∀ {ys xs:List SV},lT hp hp' σ frz xs ys->xs.length=ys.length/\∀ (i:Nat) (x y:SV),xs[i]? = some x->ys[i]? = some y->fu hp hp' σ frz x y
 | [],xs,h=>by simp only [lT] at h;subst h;exact ⟨rfl,λi x y hx=>by simp at hx⟩
 | y::ys,[],h=>by simp [lT] at h
 | y::ys,x::xs,h=>by
  simp only [lT] at h
  obtain ⟨h1,h2⟩:=sJ h.2
  refine ⟨by simp [h1],λi a b ha hb=>?_⟩
  cases i with
  | zero=>simp at ha hb;subst ha;subst hb;exact h.1
  | succ i=>exact h2 i a b (by simpa using ha) (by simpa using hb)
theorem mC {hp hp':Hp} {σ:List (Nm×Nm)} {frz:List Nm}:∀ {s' s:SV},fu hp hp' σ frz s s'->jP P (bW hp) (bW hp') (dh σ) (mz frz) s s':=by
 have lst:∀ (n:Nat) {s' s:SV},SizeOf.sizeOf s'<n->fu hp hp' σ frz s s'->jP P (bW hp) (bW hp') (dh σ) (mz frz) s s':=by
  intro n;induction n with
  | zero=>intro s' s h;omega
  | succ n ih =>
   intro s' s hsz h;have sub:∀ {ys xs:List SV},SizeOf.sizeOf ys<n->lT hp hp' σ frz xs ys->xs.length=ys.length/\∀ (i:Nat) (x y:SV),xs[i]? = some x->ys[i]? = some y->jP P (bW hp) (bW hp') (dh σ) (mz frz) x y:=by
    intro ys xs hys hl;obtain ⟨h1,h2⟩:=sJ hl;refine ⟨h1,λi x y hx hy=>ih ?_ (h2 i x y hx hy)⟩;have:=List.sizeOf_lt_of_mem (pN hy);omega
   unfold fu at h;cases s' with
   | any=>exact .any
   | v y=>simp only at h;subst h;exact .cl rfl
   | gd g y=>simp only at h;obtain ⟨rfl,h2⟩:=h;exact .cl h2
   | own k' o' n' =>
    cases s<;>simp only at h<;>try exact h.elim
    ·obtain ⟨rfl,rfl,rfl,h,hs⟩:=h;exact .absent h hs
    ·obtain ⟨h1,rfl,rfl,h2⟩:=h;exact .own h1 h2
   | ptr k' o' =>
    cases s<;>simp only at h<;>try exact h.elim
    obtain ⟨h1,rfl,h2⟩:=h;exact .ptr h1 h2
   | mp k' =>
    cases s<;>simp only at h<;>try exact h.elim
    exact .mp h.1 h.2
   | it k' =>
    cases s<;>simp only at h<;>try exact h.elim
    exact .it h.1 h.2
   | agg ys =>
    cases s<;>simp only at h<;>try exact h.elim
    rename_i xs;rcases h with ⟨hst,h⟩|h
    ·subst h;exact .cl (ju (xs:=xs) hst)
    ·obtain ⟨h1,h2⟩:=sub (by simp at hsz;omega) h;exact .agg h1 h2
   | tup ys =>
    cases s<;>simp only at h<;>try exact h.elim
    obtain ⟨h1,h2⟩:=sub (by simp at hsz;omega) h;exact .tup h1 h2
   | clo f ys =>
    cases s<;>simp only at h<;>try exact h.elim
    obtain ⟨rfl,h⟩:=h;obtain ⟨h1,h2⟩:=sub (by simp at hsz;omega) h;exact .clo h1 h2
   | asl k o n=>simp only at h
   | bp k' e' n' =>
    cases s<;>simp only at h<;>try exact h.elim
    obtain ⟨h1,rfl,rfl,h2⟩:=h;exact .bp h1 h2
   | mth t y =>
    cases s<;>simp only at h<;>try exact h.elim
    obtain ⟨rfl,h⟩:=h;exact .mth (ih (by simp at hsz;omega) h)
   | ifc t y =>
    cases s<;>simp only at h<;>try exact h.elim
    obtain ⟨rfl,h⟩:=h;exact .ifc (ih (by simp at hsz;omega) h)
   | sl n' cs' =>
    cases s<;>simp only at h<;>try exact h.elim
    ·obtain ⟨rfl,rfl,rfl⟩:=h;exact .nilsl
    ·obtain ⟨rfl,rfl,h⟩:=h;exact .cl h
    ·obtain ⟨rfl,h1,e,cs,q,h2,h4,h3⟩:=h;rcases h3 with ⟨h3,rfl⟩|⟨cs2,h5,h3,rfl⟩
     ·exact .frz h2 h1 (cE _) (λi x y hx hy=>by rw [hx] at hy;cases hy;exact .cl (lI h3 i x hx)) q h4
     ·exact .frz h2 h1 h5 (h3 P) q h4
   | iptr cs' o' =>
    cases s<;>simp only at h<;>try exact h.elim
    ·obtain ⟨rfl,h1,e,cs,h2,h3,h4⟩:=h;exact .fptr h2 h1 h3 (h4 P)
    ·obtain ⟨rfl,rfl,h⟩:=h;exact .cl h
 exact λ{s' s} h=>lst (SizeOf.sizeOf s'+1) (by omega) h
def CL (hp hp':Hp) (σ:List (Nm×Nm)) (frz:List Nm) (fr:Fr):Fr->Prop
 | []=>True
 | p::r=>fu hp hp' σ frz (cM fr p.1) p.2/\CL hp hp' σ frz fr r
theorem Bk {hp hp':Hp} {σ:List (Nm×Nm)} {frz:List Nm} {fr:Fr}:∀ {fr':Fr},CL hp hp' σ frz fr fr'->∀ d,jP P (bW hp) (bW hp') (dh σ) (mz frz) (cM fr d) (cM fr' d)
 | [],_,d=>.any
 | p::r,h,d=>by
  simp only [cM]
  by_cases hd:p.1=d
  ·subst hd;simp only [nV,cd];exact mC h.1
  ·rw [show (p.1==d)=false from by simpa using hd,ck];exact Bk h.2 d
def Bl (hp hp':Hp) (σ:List (Nm×Nm)) (frz:List Nm):List (Value×SV)->List (Value×SV)->Prop
 | [],[]=>True
 | a::r,b::s=>a.1=b.1/\fu hp hp' σ frz a.2 b.2/\Bl hp hp' σ frz r s
 | _,_=>False
theorem EQ {hp hp':Hp} {σ:List (Nm×Nm)} {frz:List Nm}:∀ {ys xs:List (Value×SV)},Bl hp hp' σ frz xs ys->xs.length=ys.length/\∀ (i:Nat) (x y:Value×SV),xs[i]? = some x->ys[i]? = some y->x.1=y.1/\fu hp hp' σ frz x.2 y.2
 | [],[],h=>⟨rfl,λi x y hx=>by simp at hx⟩
 | [],_::_,h=>h.elim
 | y::ys,[],h=>h.elim
 | y::ys,x::xs,h=>by
  obtain ⟨h1,h2⟩:=EQ h.2.2
  refine ⟨by simp [h1],λi a b ha hb=>?_⟩
  cases i with
  | zero=>simp at ha hb;subst ha;subst hb;exact ⟨h.1,h.2.1⟩
  | succ i=>exact h2 i a b (by simpa using ha) (by simpa using hb)
def sY:List (Value×SV)->Bool
 | []=>true
 | p::r=>p.2.st&&sY r
theorem ER:∀ {es:List (Value×SV)},sY es=true->∀ (i:Nat) (x:Value×SV),es[i]? = some x->x.2.st=true
 | [],_,i,x,h=>by simp at h
 | y::ys,hc,i,x,h=>by
  simp only [sY,cR] at hc
  cases i with
  | zero=>simp at h;subst h;exact hc.1
  | succ i=>exact ER hc.2 i x (by simpa using h)
def n9 (hp hp':Hp) (σ:List (Nm×Nm)) (frz:List Nm) (k':Nm):cp->Prop
 | .unborn=>True
 | .dead=>True
 | .void=>match dh σ k' with
  | none=>True
  | some k=>bW hp k = .void
 | .row e cs'=>match dh σ k' with
  | none=>cs'=[]
  | some k=>match bW hp k with
   | .row e2 cs=>e2=e/\((ir cs'=true/\cs=cs')\/lT hp hp' σ frz cs cs'\/(ir cs'=true/\cs' <+: cs))
   | _=>False
 | .map es'=>match dh σ k' with
  | none=>False
  | some k=>match bW hp k with
   | .map es=>bif sY es' then es=es' else Bl hp hp' σ frz es es'
   | _=>False
 | .obj s pos=>match dh σ k' with
  | none=>False
  | some k=>bW hp k = .obj s pos
 | .fam _=>True
def zF (hp hp':Hp) (σ:List (Nm×Nm)) (frz:List Nm) (k':Nm) (c:cp):Prop:=match k' with
 | .t k=>n9 hp hp' σ frz (.t k) c
 | .s F _=>∀ i:Int,n9 hp hp' σ frz (.s F i) (c.at i)
def pk (hp hp':Hp) (σ:List (Nm×Nm)) (frz:List Nm):Hp->Prop
 | []=>True
 | p::r=>zF hp hp' σ frz p.1 p.2/\pk hp hp' σ frz r
theorem zG {hp hp':Hp} {σ:List (Nm×Nm)} {frz:List Nm} {k':Nm} {c:cp} (h:n9 hp hp' σ frz k' c):sT P (bW hp) (bW hp') (dh σ) (mz frz) k' c:=by
 cases c with
 | unborn=>trivial
 | dead=>trivial
 | void =>
  simp only [n9] at h;intro k hk;rw [hk] at h;exact h
 | row e cs' =>
  simp only [n9] at h;simp only [sT];cases hn:dh σ k' with
  | none=>rw [hn] at h;exact .inl ⟨rfl,h⟩
  | some k =>
   rw [hn] at h;simp only at h;cases hk:bW hp k with
   | row e2 cs =>
    rw [hk] at h;simp only at h;obtain ⟨rfl,h⟩:=h;rcases h with ⟨hst,h⟩|h|⟨hst,t,h⟩
    ·subst h;exact .inr ⟨k,cs,rfl,hk,cE _,λi x y hx hy=>by rw [hx] at hy;cases hy;exact .cl (lI (ju hst) i x hx)⟩
    ·obtain ⟨h1,h2⟩:=sJ h;exact .inr ⟨k,cs,rfl,hk,Nat.le_of_eq h1.symm,λi x y hx hy=>mC (h2 i x y hx hy)⟩
    ·subst h;refine .inr ⟨k,cs'++t,rfl,hk,by simp,λi x y hx hy=>?_⟩;rw [iQ (dx.1 hy).1,hy] at hx;cases hx;exact .cl (lI (ju hst) i x hy)
   | _=>rw [hk] at h;exact h.elim
 | map es' =>
  simp only [n9] at h;simp only [sT];cases hn:dh σ k' with
  | none=>rw [hn] at h;exact h.elim
  | some k =>
   rw [hn] at h;simp only at h;cases hk:bW hp k with
   | map es =>
    rw [hk] at h;simp only at h;cases hst:sY es' with
    | true =>
     rw [hst] at h;simp only [cd] at h;subst h;exact ⟨k,es,rfl,hk,rfl,λi x y hx hy=>by rw [hx] at hy;cases hy;exact ⟨rfl,.cl (BU (ER hst i x hx))⟩⟩
    | false =>
     rw [hst] at h;simp only [ck] at h;obtain ⟨h1,h2⟩:=EQ h;exact ⟨k,es,rfl,hk,h1,λi x y hx hy=>⟨(h2 i x y hx hy).1,mC (h2 i x y hx hy).2⟩⟩
   | _=>rw [hk] at h;exact h.elim
 | obj s pos =>
  simp only [n9] at h;simp only [sT];cases hn:dh σ k' with
  | none=>rw [hn] at h;exact h.elim
  | some k=>rw [hn] at h;exact ⟨k,rfl,h⟩
 | fam g=>trivial
theorem Hq {hp hp':Hp} {σ:List (Nm×Nm)} {frz:List Nm} {d k':Nm} {c:cp} (h:zF hp hp' σ frz d c) (hd:d.key=k'.key):sT P (bW hp) (bW hp') (dh σ) (mz frz) k' (c.mem k'):=by
 cases k' with
 | t a =>
  rw [Nm.key_t,Nm.key_eq_t] at hd;subst hd;exact zG h
 | s F i =>
  cases d with
  | t a=>simp [Nm.key] at hd
  | s G z =>
   simp only [Nm.key_s,Nm.s.injEq,k_] at hd;subst hd;exact zG (h i)
def w4:List (Nm×Nm)->Bool
 | []=>true
 | p::r=>r.all (λq=>!(q.2.eqk p.2))&&w4 r
theorem sZ {σ:List (Nm×Nm)} {k j:Nm} (h:dh σ k=some j):∃ p∈σ,p.1.key=k.key/\j=p.2.to k:=by
 induction σ with
 | nil=>cases h
 | cons p r ih =>
  simp only [dh] at h;by_cases hp:p.1.key=k.key
  ·rw [Nm.eqk_iff.2 hp] at h;cases h;exact ⟨p,by simp,hp,rfl⟩
  ·rw [Nm.eqk_no hp] at h;obtain ⟨q,hq,h1⟩:=ih h;exact ⟨q,by simp [hq],h1⟩
def LU (p:Nm×Nm):Bool:=match p.1,p.2 with
 | .s _ _,.t _=>false
 | _,_=>true
theorem CM {p:Nm×Nm} (h:LU p=true) {k:Nm} (hk:p.1.key=k.key):(p.2.to k).key=p.2.key:=by
 obtain ⟨a,b⟩:=p;cases k with
 | t c=>rfl
 | s F i =>
  cases a with
  | t c=>simp [Nm.key] at hk
  | s G z=>cases b with
   | t c=>cases h
   | s H y=>rfl
theorem zH:∀ {σ:List (Nm×Nm)},w4 σ=true->∀ p∈σ,∀ q∈σ,p.2.key=q.2.key->p=q
 | [],_,p,hp,_,_,_=>by cases hp
 | a::r,hn,p,hp,q,hq,h=>by
  simp only [w4,cR,dP] at hn
  rcases fc.1 hp with e1|hp2<;>rcases fc.1 hq with e2|hq2
  ·rw [e1,e2]
  ·rw [e1] at h;have:=hn.1 q hq2;rw [Nm.eqk_iff.2 h.symm] at this;cases this
  ·rw [e2] at h;have:=hn.1 p hp2;rw [Nm.eqk_iff.2 h] at this;cases this
  ·exact zH hn.2 p hp2 q hq2 h
theorem va {σ:List (Nm×Nm)} (hn:w4 σ=true) (hs:σ.all LU=true):∀ k1 k2 j,dh σ k1=some j->dh σ k2=some j->k1=k2:=λk1 k2 j h1 h2=>by
 obtain ⟨p,hp,hpk,rfl⟩:=sZ h1
 obtain ⟨q,hq,hqk,hj⟩:=sZ h2
 have sp:=dP.1 hs p hp
 have sq:=dP.1 hs q hq
 have hkey:p.2.key=q.2.key:=by rw [←CM sp hpk,hj,CM sq hqk]
 have:=zH hn p hp q hq hkey
 subst this
 have hk:k1.key=k2.key:=hpk.symm.trans hqk
 cases k1 with
 | t a=>cases k2 with
  | t b=>simpa [Nm.key] using hk
  | s F i=>simp [Nm.key] at hk
 | s F i=>cases k2 with
  | t b=>simp [Nm.key] at hk
  | s G z =>
   simp only [Nm.key_s,Nm.s.injEq,k_] at hk
   subst hk
   simp only [Nm.to,Nm.s.injEq,true_and] at hj
   rw [hj]
def Ns (hp':Hp) (k:Nm):Bool:=match k with
 | .t k=>(bW hp' (.t k)).live
 | .s _ _=>true
def o7 (m:Nat) (σ:List (Nm×Nm)) (frz:List Nm):Bool:=(w4 σ&&σ.all LU)&&σ.all (λp=>!frz.any (λk=>k.eqk p.2)&&(Nat.ble m p.1.base||p.1==p.2))
def Jo:cp->Bool
 | .fam _=>true
 | .void=>true
 | c=>c.live
def p8 (m nx':Nat) (σ:List (Nm×Nm)):Hp->Bool
 | []=>true
 | p::r=>Nat.blt p.1.base nx'&&(Nat.ble m p.1.base || !Jo p.2||(dh σ p.1).isSome)&&p8 m nx' σ r
theorem uo {hp hp':Hp} {σ:List (Nm×Nm)} {frz:List Nm} {m:Nat} (h2:pk hp hp' σ frz hp') (h3:o7 m σ frz=true):vy P (bW hp) (bW hp') (dh σ) (mz frz):=by
 simp only [o7,cR] at h3;refine ⟨λk'=>?_,λk1 k2 k _ _=>va h3.1.1 h3.1.2 k1 k2 k,λk hk k' _ hs=>?_⟩
 ·have gen:∀ (l:Hp),pk hp hp' σ frz l->sT P (bW hp) (bW hp') (dh σ) (mz frz) k' (bW l k'):=by
   intro l;induction l with
   | nil=>exact λ_=>trivial
   | cons p r ih =>
    intro hl;simp only [bW];by_cases hp:p.1.key=k'.key
    ·rw [Nm.eqk_iff.2 hp,cd];exact Hq hl.1 hp
    ·rw [Nm.eqk_no hp,ck];exact ih hl.2
  exact gen hp' h2
 ·obtain ⟨p,hp,hpk,rfl⟩:=sZ hs;have h4:=dP.1 h3.2 p hp;simp only [cR,ku,List.any_eq_false] at h4;obtain ⟨j,hj,hjk⟩:=hk;have h5:=h4.1 j hj;rw [Nm.eqk_iff.2 (hjk.trans (CM (dP.1 h3.1.2 p hp) hpk))] at h5;exact h5 rfl
theorem rI {m nx':Nat} {σ:List (Nm×Nm)}:∀ {l:Hp},p8 m nx' σ l=true->∀ k:Nm,nx'<=k.base->bW l k = .unborn
 | [],_,k,_=>rfl
 | p::r,h,k,hk=>by
  simp only [p8,cR] at h
  have hlt:p.1.base<nx':=by simpa [kH] using h.1.1
  simp only [bW]
  rw [Nm.eqk_no (λe=>by have:=dG Nm.base e;simp at this;omega),ck]
  exact rI h.2 k hk
theorem vb {m nx':Nat} {σ:List (Nm×Nm)} (hσ:∀ p∈σ,Nat.ble m p.1.base=true\/p.1=p.2):∀ {l:Hp},p8 m nx' σ l=true->∀ k:Nm,k.base<m->((bW l k).live=true\/bW l k = .void)->dh σ k=some k
 | [],_,k,_,hl=>by rcases hl with hl|hl<;>cases hl
 | p::r,h,k,hk,hl=>by
  simp only [p8,cR] at h
  simp only [bW] at hl
  by_cases hp:p.1.key=k.key
  ·rw [Nm.eqk_iff.2 hp,cd] at hl
   have h2:=h.1.2
   have hlE:Jo p.2=true:=by
    cases k with
    | t a =>
     simp only [cp.mem] at hl;rcases hl with hl|hl<;>cases hp2:p.2<;>rw [hp2] at hl<;>first|rfl|cases hl
    | s F i =>
     simp only [cp.mem,cp.at] at hl;rcases hl with hl|hl<;>cases hp2:p.2<;>rw [hp2] at hl<;>first|rfl|cases hl
   have hb:p.1.base=k.base:=by rw [←Nm.key_base,hp,Nm.key_base]
   rw [hlE] at h2;have hble:Nat.ble m p.1.base=false:=by cases hb2:Nat.ble m p.1.base with
    | false=>rfl
    | true=>have:=cU hb2;omega
   rw [hble] at h2;simp only [jq,Bool.or_false,Bool.false_or,qK] at h2;obtain ⟨j,hj⟩:=h2;have hjk:∃ j2,dh σ k=some j2:=by
    cases k with
    | t a=>rw [Nm.key_t,Nm.key_eq_t] at hp;rw [hp] at hj;exact ⟨j,hj⟩
    | s F i =>
     cases hp1:p.1 with
     | t a=>rw [hp1] at hp;simp [Nm.key] at hp
     | s G z =>
      rw [hp1] at hp hj;simp only [Nm.key_s,Nm.s.injEq,k_] at hp;subst hp;rw [js σ G z] at hj;rw [js σ G i];cases hs:dh σ (.s G 0) with
      | none=>rw [hs] at hj;cases hj
      | some y=>exact ⟨_,rfl⟩
   obtain ⟨j2,hj2⟩:=hjk;obtain ⟨q,hq,hqk,he⟩:=sZ hj2;have hqb:q.1.base=k.base:=by rw [←Nm.key_base,hqk,Nm.key_base]
   rcases hσ q hq with h3|h3
   ·have:=cU h3;omega
   ·rw [hj2,he,←h3];cases k with
    | t a=>rw [Nm.key_t,Nm.key_eq_t] at hqk;simp only [Nm.to,hqk]
    | s F i=>simp only [Nm.to,hqb,Nm.base_s]
  ·rw [Nm.eqk_no hp,ck] at hl;exact vb hσ h.2 k hk hl
theorem ES {m:Nat} {fr fr':Fr} {hp hp':Hp} {nx':Nat} (σ:List (Nm×Nm)) (frz:List Nm) (h1:CL hp hp' σ frz fr fr') (h2:pk hp hp' σ frz hp') (h3:o7 m σ frz=true) (h4:p8 m nx' σ hp'=true) (h5:m<=nx'):pb P m fr hp fr' hp' nx' :=
 ⟨⟨dh σ,frz,uo h2 h3,λk hk hl=>vb (λp hp=>by
  simp only [o7,cR,dP] at h3
  have:=(h3.2 p hp).2
  simpa using this) h4 k hk hl,Bk h1⟩,rI h4,h5⟩
theorem LX {m:Nat} {x:SV} {hp:Hp} {Post:SV->Hp->Nat->Prop} (x':SV) (hp':Hp) (nx':Nat) (σ:List (Nm×Nm)) (frz:List Nm) (hpost:Post x' hp' nx') (h1:fu hp hp' σ frz x x') (h2:pk hp hp' σ frz hp') (h3:o7 m σ frz=true) (h4:p8 m nx' σ hp'=true) (h5:m<=nx'):wU P m Post x hp :=
 ⟨x',hp',nx',hpost,ES σ frz ⟨h1,trivial⟩ h2 h3 h4 h5⟩
theorem Kd {m N:Nat} {c:Code} {Q:g8} {fr:Fr} {hp:Hp} {nx:Nat} {S:Type} (fr0:S->Fr) (hp0:S->Hp) (nx0:S->Nat) (I:S->Prop) (μ:S->Nat) (s0:S) (hI:I s0) (h0:pb P m fr hp (fr0 s0) (hp0 s0) (nx0 s0))
  (h:∀ (s:S) (R:g8),I s->(∀ fr' hp' nx' s',I s'->μ s'<μ s->pb P m fr' hp' (fr0 s') (hp0 s') (nx0 s')->R .normal fr' hp' nx')->(∀ id,R (.exit id)=Q (.exit id))->R .ret=Q .ret->lS P m N c R (fr0 s) (hp0 s) (nx0 s)):lS P m N (.loop c) Q fr hp nx:=by
 refine ⟨0,S,fr0,hp0,nx0,I,μ,⟨s0,hI,h0⟩,λs hs=>?_⟩;exact h s _ hs (λfr' hp' nx' s' h1 h2 h3=>⟨s',h1,h2,h3⟩) (λ_=>rfl) rfl
mutual
theorem s5 {τ:Nm->Nm}:∀ {s:SV},s.cl=true->iz τ s=s
 | .any,_=>rfl
 | .v _,_=>rfl
 | .agg xs,h=>by rw [iz,nY (xs:=xs) h]
 | .tup xs,h=>by rw [iz,nY (xs:=xs) h]
 | .sl _ xs,h=>by rw [iz,nY (xs:=xs) h]
 | .iptr xs _,h=>by rw [iz,nY (xs:=xs) h]
 | .clo _ xs,h=>by rw [iz,nY (xs:=xs) h]
 | .ifc _ x,h=>by rw [iz,s5 (s:=x) h]
 | .mth _ x,h=>by rw [iz,s5 (s:=x) h]
 | .gd _ x,h=>by rw [iz,s5 (s:=x) h]
theorem nY {τ:Nm->Nm}:∀ {xs:List SV},mP xs=true->jC τ xs=xs
 | [],_=>rfl
 | x::xs,h=>by
  simp only [mP,cR] at h
  rw [jC,s5 h.1,nY h.2]
end
def ET (m:Nat) (hin:Hp) (σ:List (Nm×Nm)):Bool:=σ.all λp=>Nat.blt p.1.base m&&Ns hin p.1
def qj (hp hin:Hp):List (Nm×Nm)->Prop
 | []=>True
 | p::r=>(match p.1 with
  | .t _=>True
  | .s F _=>∀ i:Int,(bW hin (.s F i)).live=true\/(bW hin (.s F i) = .dead/\bW hp (.s p.2.base i) = .dead)\/(bW hin (.s F i) = .void/\bW hp (.s p.2.base i) = .void))/\qj hp hin r
theorem Bm {hp hin:Hp}:∀ {σ:List (Nm×Nm)},qj hp hin σ->∀ p∈σ,∀ F z,p.1 = .s F z->∀ i:Int,(bW hin (.s F i)).live=true\/(bW hin (.s F i) = .dead/\bW hp (.s p.2.base i) = .dead)\/(bW hin (.s F i) = .void/\bW hp (.s p.2.base i) = .void)
 | [],_,p,hp,_,_,_=>by cases hp
 | q::r,h,p,hp,F,z,e=>by
  rcases fc.1 hp with rfl|hp
  ·have:=h.1;rw [e] at this;exact this
  ·exact Bm h.2 p hp F z e
theorem Bn {m:Nat} {hp hin:Hp} {σ:List (Nm×Nm)} (h5:ET m hin σ=true) (h6:qj hp hin σ):∀ k j,dh σ k=some j->k.base<m/\((bW hin k).live=true\/(bW hin k = .dead/\bW hp j = .dead)\/(bW hin k = .void/\bW hp j = .void)):=λk j hk=>by
 obtain ⟨p,hp,hpk,rfl⟩:=sZ hk
 simp only [ET,dP,cR] at h5
 obtain ⟨h7,h8⟩:=h5 p hp
 have hb:p.1.base=k.base:=by rw [←Nm.key_base,hpk,Nm.key_base]
 refine ⟨by rw [←hb];simpa [kH] using h7,?_⟩
 cases k with
 | t a=>rw [Nm.key_t,Nm.key_eq_t] at hpk;rw [hpk] at h8;exact .inl h8
 | s F i =>
  cases hp1:p.1 with
  | t a=>rw [hp1] at hpk;simp [Nm.key] at hpk
  | s G z =>
   rw [hp1] at hpk
   simp only [Nm.key_s,Nm.s.injEq,k_] at hpk
   subst hpk
   exact Bm h6 p hp G z hp1 i
theorem CN:rh λ_=>none:=λ_ _=>rfl
theorem c7 {f:FuncId} {args:List SV} {dst:Option Tmp} {ops:Array Oper} {rest:List Oper} {fr:Fr} {hp:Hp} {nx:Nat} {K:Fr->Hp->Nat->Prop} {x:SV} (m_:cS P f args [] 0 (λr h n=>r=x/\h=[]/\n=0)) (ha:mP args=true) (hx:x.cl=true)
  (h:lQ P ops rest (gg dst x fr) hp nx K):Hn P f args dst ops rest fr hp nx K:=by
 refine ⟨args,[],0,_,λ_=>none,[],m_,EP,CN,λk _=>⟨rfl,rfl⟩,(λ_ _ _ h=>by cases h),(λ_ _ h=>by cases h),rfl,λi y z hy hz=>?_,⟨x,[],0,rfl,rfl,rfl⟩,(λh=>by cases h),?_⟩
 ·rw [hy] at hz;cases hz;exact .cl (lI ha i y hy)
 ·rintro res hp' nx' ⟨rfl,rfl,rfl⟩;refine ⟨rfl,.inl rfl,_,sW.refl _ _ _,?_⟩;rw [s5 hx];exact h
end
section
abbrev iS (n:Int):SV:=.v (.int .i64 n)
abbrev bS (b:Bool):SV:=.v (.bool b)
end
section
end
section
theorem nZ {P:Program} {f:FuncId} {args:List SV} {dst:Option Tmp} {ops:Array Oper} {rest:List Oper} {fr:Fr} {hp:Hp} {nx:Nat} {acc:List fR} {K:Fr->Hp->Nat->Prop} {x:SV} (m_:cS P f args [] 0 (λr h n=>r=x/\h=[]/\n=0)) (ha:mP args=true) (hx:x.cl=true)
  (h:yv P ops rest (gg dst x fr) hp (nx+1) (acc++[⟨[],[],nx,nx⟩]) K):Jn P f args dst ops rest fr hp nx acc K:=by
 refine ⟨args,[],0,_,λ_=>none,[],m_,EP,CN,λk _=>⟨rfl,rfl⟩,(λ_ _ _ h=>by cases h),(λ_ _ h=>by cases h),rfl,λi y z hy hz=>?_,⟨x,[],0,rfl,rfl,rfl⟩,(λ_=>?_),?_⟩
 ·rw [hy] at hz;cases hz;exact .cl (lI ha i y hy)
 ·rintro r1 h1 n1 r2 h2 n2 ⟨rfl,rfl,rfl⟩ ⟨rfl,rfl,rfl⟩;exact ⟨rfl,rfl,rfl⟩
 ·rintro res hp' nx' ⟨rfl,rfl,rfl⟩;refine ⟨rfl,.inl rfl,_,sW.refl _ _ _,?_⟩;rw [s5 hx];exact h
end
section
open Go.RowKit
inductive Ty where
 | int (k:IntKind)
 | bool
 | str
 | sl (e:Ty)
 | unit
 | pair (a b:Ty)
 | arr (n:Nat) (e:Ty)
abbrev Ty.den:Ty->Type
 | .int _=>Int
 | .bool=>Bool
 | .str=>ByteArray
 | .sl e=>List e.den
 | .unit=>Unit
 | .pair a b=>a.den×b.den
 | .arr _ e=>List e.den
def Ty.width:Ty->Nat
 | .unit=>0
 | .pair a b=>a.width+b.width
 | .arr n e=>n*e.width
 | _=>1
def Ty.sv:(T:Ty)->T.den->List SV
 | .int k,x=>[.v (.int k x)]
 | .bool,x=>[.v (.bool x)]
 | .str,x=>[.v (.string x)]
 | .sl e,xs=>[.sl xs.length (xs.flatMap e.sv)]
 | .unit,_=>[]
 | .pair a b,x=>a.sv x.1++b.sv x.2
 | .arr _ e,xs=>xs.flatMap e.sv
def Ty.ok:(T:Ty)->T.den->Prop
 | .int k,x=>(Lit.int k x).wf=true
 | .bool,_=>True
 | .str,x=>x.size<=maxLen
 | .sl e,xs=>xs.length<=maxLen/\∀ x∈xs,e.ok x
 | .unit,_=>True
 | .pair a b,x=>a.ok x.1/\b.ok x.2
 | .arr n e,xs=>xs.length=n/\∀ x∈xs,e.ok x
def Ty.arg:(T:Ty)->T.den->SV
 | .int k,x=>.v (.int k x)
 | .bool,x=>.v (.bool x)
 | .str,x=>.v (.string x)
 | .sl e,xs=>.sl xs.length (xs.flatMap e.sv)
 | .unit,_=>.agg []
 | .pair a b,x=>.agg (a.sv x.1++b.sv x.2)
 | .arr _ e,xs=>.agg (xs.flatMap e.sv)
theorem Ty.sv_length:∀ (T:Ty) (x:T.den),T.ok x->(T.sv x).length=T.width
 | .int _,_,_=>rfl
 | .bool,_,_=>rfl
 | .str,_,_=>rfl
 | .sl _,_,_=>rfl
 | .unit,_,_=>rfl
 | .pair a b,x,h=>by simp only [Ty.sv,ec,Ty.width,Ty.sv_length a x.1 h.1,Ty.sv_length b x.2 h.2]
 | .arr n e,xs,h=>by
  obtain ⟨hn,h⟩:=h
  have:∀ xs:List e.den,(∀ x∈xs,e.ok x)->(xs.flatMap e.sv).length=xs.length*e.width:=by
   intro xs;induction xs with
   | nil=>exact λ_=>by simp
   | cons x xs ih=>exact λhx=>by rw [pL,ec,ih λy hy=>hx y (by simp [hy]),Ty.sv_length e x (hx x (by simp)),gq];rw [gZ];omega
  simp only [Ty.sv,Ty.width];rw [this xs h,hn]
mutual
def pm (P:Program):Nat->TypeId->Ty->Bool
 | 0,_,_=>false
 | F+1,t,T=>match P.underlying t,T with
  | some (.int k),.int k'=>k==k'
  | some .bool,.bool=>true
  | some .string,.str=>true
  | some (.slice e),.sl E=>P.cellsOf e==E.width && !(E.width==0)&&pm P F e E
  | some (.struct fs),.pair a b=>P.cellsOf t==(Ty.pair a b).width&&qS P F fs.toList 0 (.pair a b)
  | some (.struct fs),.unit=>P.cellsOf t==0&&fs.toList.isEmpty
  | some (.array n e),.arr n' E=>n==n'&&P.cellsOf e==E.width&&P.cellsOf t==n*E.width&&pm P F e E
  | _,_=>false
def qS (P:Program):Nat->List Field->Nat->Ty->Bool
 | 0,_,_,_=>false
 | F+1,fs,off,T=>match fs,T with
  | [],.unit=>true
  | f::r,.pair a b=>f.offset==off&&P.cellsOf f.type==a.width&&pm P F f.type a&&qS P F r (off+a.width) b
  | _,_=>false
end
theorem ub {α:Type} {f:α->List SV} {z:Nat} (hz:0<z):∀ (xs:List α),(∀ x∈xs,(f x).length=z)->∀ i s,(xs.flatMap f)[i]? = some s->∃ x,xs[i/z]? = some x/\(f x)[i%z]? = some s
 | [],_,i,s,h=>by simp at h
 | a::xs,hl,i,s,h=>by
  rw [pL,pJ] at h
  have ha:=hl a (by simp)
  rw [ha] at h
  by_cases hi:i<z
  ·rw [if_pos hi] at h
   rw [Nat.div_eq_of_lt hi,uJ hi]
   exact ⟨a,rfl,h⟩
  ·rw [if_neg hi] at h
   obtain ⟨x,h1,h2⟩:=ub hz xs (λx hx=>hl x (by simp [hx])) (i-z) s h
   refine ⟨x,?_,?_⟩
   ·rw [show i/z=(i-z)/z+1 from by rw [Nat.div_eq_sub_div hz (by omega)],List.getElem?_cons_succ];exact h1
   ·rw [Nat.mod_eq_sub_mod (by omega)];exact h2
def w5 (P:Program) (C:Nm->cp) (ids:dC) (I:Nat->Prop) (w:World) (cs:List Value) (off:Nat) (l:List SV):Prop :=
∀i s,l[i]? = some s->dS P C ids I w s (cs.getD (off+i) undef)
theorem Bo {α β:Type} {Q:Nat->α->β->Prop}:∀ (ys:List α) (o:Nat),(∀ i y,ys[i]? = some y->∃ x,Q (o+i) y x)->∃ xs:List β,xs.length=ys.length/\∀ i x,xs[i]? = some x->∃ y,ys[i]? = some y/\Q (o+i) y x
 | [],_,_=>⟨[],rfl,λi x h=>by simp at h⟩
 | a::ys,o,h=>by
  obtain ⟨x,hx⟩:=h 0 a rfl
  obtain ⟨xs,h1,h2⟩:=Bo (Q:=Q) ys (o+1) λi y hy=>by
   have:=h (i+1) y (by simpa using hy)
   rwa [show o+(i+1)=o+1+i from by omega] at this
  refine ⟨x::xs,by simp [h1],λi z hz=>?_⟩
  cases i with
  | zero=>simp at hz;subst hz;exact ⟨a,rfl,hx⟩
  | succ i =>
   obtain ⟨y,g1,g2⟩:=h2 i z (by simpa using hz)
   exact ⟨y,by simpa using g1,by rw [show o+(i+1)=o+1+i from by omega];exact g2⟩
section
variable {H:Type} {enc:TypeId×Value->H} {P:Program} {w:World} {sp:Nat->Bool} {held:Bool} {C:Nm->cp} {ids:dC} {I:Nat->Prop}
def Ty.rep (H:Type):(T:Ty)->T.den->DataW H->Prop
 | .int k,x,d=>d = .lit (.int k x)
 | .bool,x,d=>d = .lit (.bool x)
 | .str,x,d=>d = .lit (.string x.data.toList)
 | .sl e,xs,d=>(xs=[]/\d = .nil)\/∃ el spn,d = .slice el spn/\el.length=xs.length/\∀ (i:Nat) (x:e.den),(xs:List e.den)[i]? = some x->∃ y,el[i]? = some y/\e.rep H x y
 | .unit,_,_=>True
 | .pair a b,x,d=>∃ p r,d = .agg (p::r)/\a.rep H x.1 p/\b.rep H x.2 (.agg r)
 | .arr _ e,xs,d=>∃ el,d = .agg el/\el.length=xs.length/\∀ (i:Nat) (x:e.den),(xs:List e.den)[i]? = some x->∃ y,el[i]? = some y/\e.rep H x y
def Hs (H:Type) (enc:TypeId×Value->H) (P:Program) (w:World) (sp:Nat->Bool) (held:Bool) (C:Nm->cp) (ids:dC) (I:Nat->Prop) (T:Ty):Prop :=
∀(F fuel:Nat) (t:TypeId) (cs:List Value) (d:DataW H) (ps:List MemPlace),pm P F t T=true->DataW.trod enc P w 0 sp held fuel t cs=some (d,ps) ->
 ∃x:T.den,T.ok x/\cs.length=T.width/\w5 P C ids I w cs 0 (T.sv x)/\T.rep H x d
def CO (H:Type) (enc:TypeId×Value->H) (P:Program) (w:World) (sp:Nat->Bool) (held:Bool) (C:Nm->cp) (ids:dC) (I:Nat->Prop) (T:Ty):Prop :=
∀(F fuel:Nat) (fs:List Field) (off:Nat) (cs:List Value) (xs:List (DataW H×List MemPlace)),qS P F fs off T=true->xs.length=fs.length->(∀ (i:Nat) (f:Field),fs[i]? = some f->DataW.trod enc P w 0 sp held fuel f.type ((cs.drop f.offset).take (P.cellsOf f.type))=xs[i]?) ->
 ∃x:T.den,T.ok x/\w5 P C ids I w cs off (T.sv x)/\T.rep H x (.agg (xs.map (·.1)))
theorem IC {cs:List Value} {off:Nat} {l r:List SV} {n:Nat} (h:w5 P C ids I w cs off l) (hn:l.length=n) (g:w5 P C ids I w cs (off+n) r):w5 P C ids I w cs off (l++r):=λi s hi=>by
 rw [pJ] at hi
 by_cases hl:i<l.length
 ·rw [if_pos hl] at hi;exact h i s hi
 ·rw [if_neg hl] at hi
  have:=g _ s hi
  rwa [show off+n+(i-l.length)=off+i from by omega] at this
theorem s6 {v:Value} {s:SV} (h:dS P C ids I w s v):w5 P C ids I w [v] 0 [s]:=λi x hi=>by
 cases i with
 | zero=>simp at hi;subst hi;exact h
 | succ i=>simp at hi
theorem F7 {fuel:Nat} {t e:TypeId} {n:Nat} {cs:List Value} {x:DataW H×List MemPlace} (ht:P.underlying t=some (.array n e)) (h:DataW.trod enc P w 0 sp held fuel t cs=some x) :
 ∃(xs:List (DataW H×List MemPlace)) (m:Nat),x.1 = .agg (xs.map (·.1))/\cs.length=P.cellsOf t/\xs.length=n/\∀ i,i<n->DataW.trod enc P w 0 sp held m e ((cs.drop (i*P.cellsOf e)).take (P.cellsOf e))=xs[i]?:=by
 cases fuel with
 | zero=>simp [DataW.trod] at h
 | succ m =>
  unfold DataW.trod at h;rw [ht] at h;split at h<;>simp_all;obtain ⟨hl,xs,hp,hd⟩:=h;refine ⟨xs,by rw [←hd],?_,m,λi hi=>mapM_some_get hp i i (by simp [hi])⟩;simpa using mapM_some_length hp
theorem zI {e:Ty} (ih:Hs H enc P w sp held C ids I e) {F m:Nat} {te:TypeId} (hB:pm P F te e=true) {n:Nat} {row:Nat->List Value} {els:List (DataW H×List MemPlace)} (hl:els.length=n)
  (h:∀ i,i<n->DataW.trod enc P w 0 sp held m te (row i)=els[i]?):∃ xs:List e.den,xs.length=n/\(∀ x∈xs,e.ok x)/\(∀ (i:Nat) (x:e.den),xs[i]? = some x->(row i).length=e.width/\w5 P C ids I w (row i) 0 (e.sv x))/\∀ (i:Nat) (x:e.den),xs[i]? = some x->∃ y,(els.map (·.1))[i]? = some y/\e.rep H x y:=by
 obtain ⟨xs,h1,h2⟩:=Bo (β:=e.den) (Q:=λi (y:DataW H×List MemPlace) x=>e.ok x/\(row i).length=e.width/\w5 P C ids I w (row i) 0 (e.sv x)/\e.rep H x y.1) els 0 λi y hy=>by
  have hi:i<n:=by rw [←hl];exact (dx.1 hy).1
  rw [dj];exact ih F m te (row i) y.1 y.2 hB (by rw [h i hi,hy])
 refine ⟨xs,h1.trans hl,λx hx=>?_,λi x hx=>?_,λi x hx=>?_⟩
 ·obtain ⟨i,hi,rfl⟩:=uG hx;obtain ⟨y,_,g,_⟩:=h2 i _ (dy hi);exact g
 ·obtain ⟨y,_,_,g⟩:=h2 i x hx;rw [dj] at g;exact ⟨g.1,g.2.1⟩
 ·obtain ⟨y,g1,_,_,_,g⟩:=h2 i x hx;exact ⟨y.1,by rw [fW,g1];rfl,g⟩
theorem ID {a:Addr} {n:Nat} {v:Value} (h:w.cell? (a.add n)=some v):a.spot=none\/0<n:=by
 unfold Addr.add at h;by_cases hn:n=0
 ·rw [if_pos hn] at h;unfold World.cell? at h;split at h
  ·split at h
   ·cases h
   ·rename_i hs;left;cases hsp:a.spot with
    | none=>rfl
    | some _=>rw [hsp] at hs;simp at hs
  ·cases h
 ·exact .inr (by omega)
theorem reads (hI:∀ b,b<w.heap.size->I b):∀ (T:Ty),Hs H enc P w sp held C ids I T/\CO H enc P w sp held C ids I T:=by
 intro T
 have noF:∀ {T:Ty},(∀ a b,T≠.pair a b)->T≠.unit->CO H enc P w sp held C ids I T:=λ{T} h1 h2 F fuel fs off cs xs hB _ _=>by
  cases F with
  | zero=>simp [qS] at hB
  | succ F =>
   unfold qS at hB
   cases fs<;>cases T<;>simp at hB<;>first|exact absurd rfl h2|exact absurd rfl (h1 _ _)
 have inv:∀ {F:Nat} {t:TypeId} {T:Ty},pm P F t T=true->∃ F' d0,F=F'+1/\P.underlying t=some d0:=λ{F t T} hB=>by
  cases F with
  | zero=>simp [pm] at hB
  | succ F =>
   unfold pm at hB
   cases hu:P.underlying t with
   | none=>rw [hu] at hB;simp at hB
   | some d0=>exact ⟨F,d0,rfl,rfl⟩
 induction T with
 | int k =>
  refine ⟨λF fuel t cs d ps hB hr=>?_,noF (by simp) (by simp)⟩
  obtain ⟨F,d0,rfl,hu⟩:=inv hB
  unfold pm at hB
  rw [hu] at hB
  cases d0<;>simp at hB
  subst hB
  obtain ⟨n,rfl,h1,h2⟩:=DataW.trod_int hu hr
  cases h1
  exact ⟨n,h2,rfl,s6 .v,rfl⟩
 | bool =>
  refine ⟨λF fuel t cs d ps hB hr=>?_,noF (by simp) (by simp)⟩
  obtain ⟨F,d0,rfl,hu⟩:=inv hB
  unfold pm at hB
  rw [hu] at hB
  cases d0<;>simp at hB
  obtain ⟨n,rfl,h1⟩:=DataW.trod_bool hu hr
  cases h1
  exact ⟨n,trivial,rfl,s6 .v,rfl⟩
 | str =>
  refine ⟨λF fuel t cs d ps hB hr=>?_,noF (by simp) (by simp)⟩
  obtain ⟨F,d0,rfl,hu⟩:=inv hB
  unfold pm at hB
  rw [hu] at hB
  cases d0<;>simp at hB
  obtain ⟨n,rfl,h1,h2⟩:=DataW.trod_string hu hr
  cases h1
  exact ⟨n,h2,rfl,s6 .v,rfl⟩
 | sl e ih =>
  refine ⟨λF fuel t cs d ps hB hr=>?_,noF (by simp) (by simp)⟩
  obtain ⟨F,d0,rfl,hu⟩:=inv hB
  unfold pm at hB
  rw [hu] at hB
  cases d0<;>simp at hB
  rename_i te
  obtain ⟨⟨hw,h0⟩,hB⟩:=hB
  rcases DataW.trod_slice hu hr with ⟨rfl,h1⟩|⟨a,len,cap,els,rest,m,_,rfl,h1,_,h2,h3,h4,h5,_⟩
  ·cases h1
   exact ⟨[],⟨hX _,λx hx=>by cases hx⟩,rfl,s6 (.sl0 (hX _)),.inl ⟨rfl,rfl⟩⟩
  ·cases h1
   rw [hw] at h5
   -- the rows
   let row:Nat->List Value:=λi=>(w.cells? 0 (a.add (i*e.width)) e.width).getD []
   have hrow:∀ i,i<len->w.cells? 0 (a.add (i*e.width)) e.width=some (row i):=λi hi=>by
    have:=h5 i hi
    rw [dy (by omega)] at this
    cases hc:w.cells? 0 (a.add (i*e.width)) e.width with
    | none=>rw [hc] at this;cases this
    | some cs=>simp [row,hc]
   obtain ⟨xs,g1,g2,g3,g4⟩:=zI ih.1 hB (row:=row) h4 λi hi=>by rw [←h5 i hi,hrow i hi];rfl
   refine ⟨xs,⟨by rw [g1];omega,g2⟩,rfl,?_,.inr ⟨_,_,rfl,by rw [ew,h4,g1],g4⟩⟩
   refine s6 ?_
   rw [g1]
   by_cases hlen:len=0
   ·subst hlen
    have:xs=[]:=iU g1
    subst this
    exact .sl0 h3
   ·-- the first row's first cell
    obtain ⟨_,c1,c2⟩:=World.cells?_some (hrow 0 (by omega))
    have hc0:=c2 0 (by omega)
    rw [dy (by omega)] at hc0
    have hspot:a.spot=none:=by
     rw [lM] at hc0
     have e0:∀ a:Addr,a.add 0=a:=λa=>by simp [Addr.add]
     rw [e0] at hc0
     rcases ID hc0 with h|h
     ·exact h
     ·omega
    have hblk:a.block<w.heap.size:=by
     have:=World.cells?_block (hrow 0 (by omega)) (by omega)
     simpa [Addr.add] using this
    obtain ⟨ab,ao,asp⟩:=a
    simp only at hspot hblk
    subst hspot
    have hcell:∀ i s,(xs.flatMap e.sv)[i]? = some s->∃ c,w.cell? ⟨ab,ao+i,none⟩=some c/\dS P C ids I w s c:=λi s hi=>by
     obtain ⟨x,q1,q2⟩:=ub (sM h0) xs (λx hx=>Ty.sv_length e x (g2 x hx)) i s hi
     have hq:i/e.width<len:=by rw [←g1];exact (dx.1 q1).1
     obtain ⟨r1,r2⟩:=g3 _ x q1
     have r3:=r2 _ s q2
     rw [dj] at r3
     obtain ⟨_,_,c4⟩:=World.cells?_some (hrow _ hq)
     have hm:i%e.width<e.width:=Nat.mod_lt _ (sM h0)
     have c5:=c4 _ hm
     rw [dy (by omega)] at c5
     refine ⟨_,?_,r3⟩
     rw [dz,dy (by omega),gY,←c5]
     congr 1
     have hdm:=Nat.div_add_mod i e.width
     rw [Nat.mul_comm] at hdm
     unfold Addr.add
     by_cases hz1:i/e.width*e.width=0
     ·rw [if_pos hz1]
      by_cases hz2:i%e.width=0
      ·rw [if_pos hz2];simp;try omega
      ·rw [if_neg hz2];simp;try omega
     ·rw [if_neg hz1]
      by_cases hz2:i%e.width=0
      ·rw [if_pos hz2];simp;try omega
      ·rw [if_neg hz2];simp;try omega
    refine .sl ab ao cap (λi=>(w.cell? ⟨ab,ao+i,none⟩).getD undef) (hI _ hblk) h2 h3 (λi s hi=>?_) λi s hi=>?_
    ·obtain ⟨c,q1,_⟩:=hcell i s hi;rw [q1];rfl
    ·obtain ⟨c,q1,q2⟩:=hcell i s hi;rw [q1];exact q2
 | unit =>
  refine ⟨λF fuel t cs d ps hB hr=>?_,λF fuel fs off cs xs hB hl hx=>⟨(),trivial,λi s hi=>by simp [Ty.sv] at hi,trivial⟩⟩
  obtain ⟨F,d0,rfl,hu⟩:=inv hB
  unfold pm at hB
  rw [hu] at hB
  cases d0<;>simp at hB
  obtain ⟨xs,n,_,h1,h2,_⟩:=DataW.trod_struct hu hr
  exact ⟨(),trivial,by rw [h2,hB.1];rfl,λi s hi=>by simp [Ty.sv] at hi,trivial⟩
 | pair a b iha ihb =>
  have hF:CO H enc P w sp held C ids I (.pair a b):=λF fuel fs off cs xs hB hl hx=>by
   cases F with
   | zero=>simp [qS] at hB
   | succ F =>
    unfold qS at hB
    cases fs with
    | nil=>simp at hB
    | cons f r =>
     simp only [cR,jH] at hB
     obtain ⟨⟨⟨h1,h2⟩,h3⟩,h4⟩:=hB
     cases xs with
     | nil=>simp at hl
     | cons y ys =>
      have hy:=hx 0 f rfl
      simp only [pI] at hy
      obtain ⟨x1,p1,p2,p3,p4⟩:=iha.1 F fuel f.type _ y.1 y.2 h3 hy
      obtain ⟨x2,q1,q3,q4⟩:=ihb.2 F fuel r (off+a.width) cs ys h4 (by simpa using hl) λi f' hf'=>by
       have:=hx (i+1) f' (by simpa using hf')
       simpa using this
      refine ⟨(x1,x2),⟨p1,q1⟩,IC (n:=a.width) (λi s hi=>?_) (Ty.sv_length a x1 p1) q3,⟨y.1,ys.map (·.1),rfl,p4,q4⟩⟩
      have:=p3 i s hi
      have hi2:i<a.width:=by rw [←Ty.sv_length a x1 p1];exact (dx.1 hi).1
      rw [dj,dz,mJ,if_pos (by omega),ng,h1] at this
      rw [dz]
      exact this
  refine ⟨λF fuel t cs d ps hB hr=>?_,hF⟩
  obtain ⟨F,d0,rfl,hu⟩:=inv hB
  unfold pm at hB
  rw [hu] at hB
  cases d0<;>simp at hB
  rename_i fs
  obtain ⟨hw,hB⟩:=hB
  obtain ⟨xs,n,_,h1,h2,h3,h4⟩:=DataW.trod_struct hu hr
  cases h1
  obtain ⟨x,g1,g2,g3⟩:=hF F n fs.toList 0 cs xs (by simpa using hB) (by simpa using h3) λi f hf=>h4 i f (by simpa using hf)
  exact ⟨x,g1,by rw [h2,hw],g2,g3⟩
 | arr n e ih =>
  refine ⟨λF fuel t cs d ps hB hr=>?_,noF (by simp) (by simp)⟩
  obtain ⟨F,d0,rfl,hu⟩:=inv hB
  unfold pm at hB
  rw [hu] at hB
  cases d0<;>simp at hB
  rename_i n' te
  obtain ⟨⟨⟨rfl,h1⟩,h2⟩,hB⟩:=hB
  obtain ⟨els,m,h3,h4,h5,h6⟩:=F7 hu hr
  simp only at h3
  subst h3
  rw [h1] at h6
  obtain ⟨xs,g1,g2,g3,g4⟩:=zI ih.1 hB (row:=λi=>(cs.drop (i*e.width)).take e.width) h5 h6
  refine ⟨xs,⟨g1,g2⟩,by rw [h4,h2];rfl,λi s hi=>?_,⟨_,rfl,by rw [ew,h5,g1],g4⟩⟩
  by_cases h0:e.width=0
  ·have:xs.flatMap e.sv=[]:=iU (by
    have:=Ty.sv_length (.arr n' e) xs ⟨g1,g2⟩
    simp only [Ty.sv,Ty.width,h0,Nat.mul_zero] at this
    exact this)
   simp only [Ty.sv,this] at hi
   simp at hi
  ·obtain ⟨x,q1,q2⟩:=ub (sM h0) xs (λx hx=>Ty.sv_length e x (g2 x hx)) i s hi
   obtain ⟨r1,r2⟩:=g3 _ x q1
   have r3:=r2 _ s q2
   have hm:i%e.width<e.width:=Nat.mod_lt _ (sM h0)
   have hdm:=Nat.div_add_mod i e.width
   rw [Nat.mul_comm] at hdm
   rw [dj,dz,mJ,if_pos hm,ng,hdm] at r3
   rw [dj,dz]
   exact r3
end
end
section
open Go.RowKit Go.ChangeShapes Go.WideShapes
abbrev Tys.den:List Ty->Type
 | []=>Unit
 | T::r=>T.den×Tys.den r
def Tys.args:(l:List Ty)->Tys.den l->List SV
 | [],_=>[]
 | T::r,x=>T.arg x.1::Tys.args r x.2
def Tys.ok:(l:List Ty)->Tys.den l->Prop
 | [],_=>True
 | T::r,x=>T.ok x.1/\Tys.ok r x.2
def Tys.rep (H:Type):(l:List Ty)->Tys.den l->List (DataW H)->Prop
 | [],_,ds=>ds=[]
 | T::r,x,ds=>∃ d s,ds=d::s/\T.rep H x.1 d/\Tys.rep H r x.2 s
def vc (P:Program) (F:Nat):List TypeId->List Ty->Bool
 | [],[]=>true
 | t::r,T::s=>pm P F t T&&P.readableRec t&&Nat.blt t P.types.size&&vc P F r s
 | _,_=>false
section
variable {H:Type} {enc:TypeId×Value->H} {P:Program} {w:World} {C:Nm->cp} {ids:dC} {I:Nat->Prop}
theorem xq {r:Reach} {b0:Nat} {t:TypeId} {v:Value} {d:TypeDesc} (hu:P.underlying t=some d) (hd:(∃ k,d = .int k)\/d = .bool\/d = .string\/∃ e,d = .slice e) (h:Value.okWide P w r b0 t v):v.cells.toList=[v]:=by
 rcases hd with ⟨k,rfl⟩|rfl|rfl|⟨e,rfl⟩
 ·obtain ⟨n,rfl⟩:=okWide_int hu h;rfl
 ·obtain ⟨n,rfl⟩:=okWide_bool hu h;rfl
 ·obtain ⟨n,rfl⟩:=okWide_string hu h;rfl
 ·obtain ⟨a,l,c,rfl⟩:=okWide_slice hu h;rfl
theorem CP {r:Reach} {b0:Nat} {t:TypeId} {v:Value} {d:TypeDesc} (hu:P.underlying t=some d) (hd:(∃ fs,d = .struct fs)\/∃ n e,d = .array n e) (h:Value.okWide P w r b0 t v):∃ cs,v = .agg cs:=by
 unfold Value.okWide at h;rcases hd with ⟨fs,rfl⟩|⟨n,e,rfl⟩
 ·rw [hu] at h;obtain ⟨cs,rfl,_⟩:=h;exact ⟨cs,rfl⟩
 ·rw [hu] at h;obtain ⟨cs,rfl,_⟩:=h;exact ⟨cs,rfl⟩
theorem IE {F:Nat} {t:TypeId} {T:Ty} (h:pm P F t T=true):∃ d,P.underlying t=some d/\match T with
  | .int k=>d = .int k
  | .bool=>d = .bool
  | .str=>d = .string
  | .sl _=>∃ e,d = .slice e
  | .unit=>∃ fs,d = .struct fs
  | .pair _ _=>∃ fs,d = .struct fs
  | .arr _ _=>∃ n e,d = .array n e:=by
 cases F with
 | zero=>simp [pm] at h
 | succ F =>
  unfold pm at h;cases hu:P.underlying t with
  | none=>rw [hu] at h;simp at h
  | some d =>
   rw [hu] at h;refine ⟨d,rfl,?_⟩;cases d<;>cases T<;>simp at h<;>simp_all
theorem Ke {r:Reach} {b0:Nat} (hI:∀ b,b<w.heap.size->I b) {F:Nat} {t:TypeId} {T:Ty} (hB:pm P F t T=true) {v:Value} (hok:Value.okWide P w r b0 t v) {d:DataW H} {ps:List MemPlace} (hr:DataW.Trod enc P w 0 (λ_=>true) true t v d ps) :
 ∃x:T.den,T.ok x/\dS P C ids I w (T.arg x) v/\T.rep H x d:=by
 obtain ⟨fuel,hr⟩:=hr;obtain ⟨x,h1,h2,h3,h4⟩:=(reads (enc:=enc) (C:=C) (ids:=ids) hI T).1 F fuel t _ d ps hB hr;refine ⟨x,h1,?_,h4⟩;obtain ⟨dd,hu,hdd⟩:=IE hB;have one:∀ s,T.sv x=[s]->(v.cells.toList=[v])->dS P C ids I w s v:=λs hs hv=>by
  have:=h3 0 s (by rw [hs];rfl);rw [hv] at this;exact this
 have agg:∀ cs,v = .agg cs->dS P C ids I w (.agg (T.sv x)) v:=λcs hv=>by
  subst hv;have hl:(T.sv x).length=cs.size:=by rw [Ty.sv_length T x h1,←h2];simp [Value.cells]
  refine .agg cs hl λi s hi=>?_
  have:=h3 i s hi;rw [dj] at this;simpa [Value.cells,cP,dz] using this
 cases T with
 | int k=>exact one _ rfl (xq hu (.inl ⟨k,hdd⟩) hok)
 | bool=>exact one _ rfl (xq hu (.inr (.inl hdd)) hok)
 | str=>exact one _ rfl (xq hu (.inr (.inr (.inl hdd))) hok)
 | sl e=>obtain ⟨te,hdd⟩:=hdd;exact one _ rfl (xq hu (.inr (.inr (.inr ⟨te,hdd⟩))) hok)
 | unit=>obtain ⟨cs,hv⟩:=CP hu (.inl hdd) hok;exact agg cs hv
 | pair a b=>obtain ⟨cs,hv⟩:=CP hu (.inl hdd) hok;exact agg cs hv
 | arr n e=>obtain ⟨cs,hv⟩:=CP hu (.inr hdd) hok;exact agg cs hv
theorem CQ {r:Reach} {b0:Nat} (hI:∀ b,b<w.heap.size->I b) {F:Nat}:∀ (ts:List TypeId) (Ts:List Ty) (vs:List Value) (ds:List (DataW H)) (ps:List MemPlace),vc P F ts Ts=true->(∀ (j:Nat) t v,ts[j]? = some t->vs[j]? = some v->Value.okWide P w r b0 t v) ->
  DataW.TrodAll enc P w 0 (λ_=>true) true ts vs ds ps->∃ x:Tys.den Ts,Tys.ok Ts x/\vs.length=(Tys.args Ts x).length/\(∀ i s,(Tys.args Ts x)[i]? = some s->dS P C ids I w s (vs.getD i undef))/\Tys.rep H Ts x ds/\ds.length=Ts.length
 | [],[],[],[],ps,_,_,h=>⟨(),trivial,rfl,λi s hi=>by simp [Tys.args] at hi,rfl,rfl⟩
 | t::ts,T::Ts,v::vs,d::ds,ps,hB,hok,h=>by
  obtain ⟨p,q,h1,h2,_⟩:=h
  simp only [vc,cR] at hB
  obtain ⟨x,g1,g2,g3⟩:=Ke (C:=C) (ids:=ids) hI hB.1.1.1 (hok 0 t v rfl rfl) h1
  obtain ⟨y,k1,k2,k3,k4,k5⟩:=CQ hI ts Ts vs ds q hB.2 (λj t v hj hv=>hok (j+1) t v (by simpa using hj) (by simpa using hv)) h2
  refine ⟨(x,y),⟨g1,k1⟩,by simp [Tys.args,k2],λi s hi=>?_,⟨d,ds,rfl,g3,k4⟩,by simp [k5]⟩
  cases i with
  | zero=>simp [Tys.args] at hi;subst hi;exact g2
  | succ i=>exact k3 i s (by simpa [Tys.args] using hi)
 | [],[],_::_,_,_,_,_,h=>by cases h
 | [],[],[],_::_,_,_,_,h=>by cases h
 | [],_::_,_,_,_,hB,_,_=>by simp [vc] at hB
 | _::_,[],_,_,_,hB,_,_=>by simp [vc] at hB
 | _::_,_::_,[],_,_,_,_,h=>by cases h
 | _::_,_::_,_::_,[],_,_,_,h=>by cases h
theorem w6 (hlo:laidOutB P=true) {W W':World} (hb:Below W.heap.size W W') {sp:Nat->Bool} {F:Nat}:∀ (ts:List TypeId) (Ts:List Ty) (vs:List Value) (ds:List (DataW H)) (ps:List MemPlace),vc P F ts Ts=true->(∀ p∈ps,p.block<W.heap.size)->(∀ p∈ps,sp p.block=true) ->
  DataW.TrodAll enc P W 0 (λ_=>true) true ts vs ds ps->DataW.TrodAll enc P W' 0 sp true ts vs ds ps
 | [],_,[],[],ps,_,_,_,h=>h
 | t::ts,T::Ts,v::vs,d::ds,ps,hB,hlt,hsp,h=>by
  obtain ⟨p,q,h1,h2,rfl⟩:=h
  simp only [vc,cR,kH] at hB
  exact ⟨p,q,WideElems.Trod_stays hlo hB.1.1.2 hB.1.2 h1 (λx hx=>hb.same (hlt x (by simp [hx]))) (λx hx=>hsp x (by simp [hx])),
   w6 hlo hb ts Ts vs ds q hB.2 (λx hx=>hlt x (by simp [hx])) (λx hx=>hsp x (by simp [hx])) h2,rfl⟩
 | [],_,_::_,_,_,_,_,_,h=>by cases h
 | [],_,[],_::_,_,_,_,_,h=>by cases h
 | _::_,[],_,_,_,hB,_,_,_=>by simp [vc] at hB
 | _::_,_::_,[],_,_,_,_,_,h=>by cases h
 | _::_,_::_,_::_,[],_,_,_,_,h=>by cases h
theorem F8 {f:Func} {s:ChangeSpec} {apart fresh handsOn again:Bool} {W W':World} {args:Array Value} {v:Value} {ds gs:List (DataW H)} {before pa pv:List MemPlace}
  (hW:DataW.Whole enc P f.params.toList s.vars apart W args.toList ds gs before)
  (hres:∀ (b:Nat) (sp:Nat->Bool) (hd:Bool),DataW.TrodAll enc P W' b sp hd f.resultTypes.toList (v.resultList f.resultTypes.size) (s.fn H (ds++gs)).results [])
  (hargs:∀ sp:Nat->Bool,(∀ p∈before,sp p.block=true)->DataW.TrodAll enc P W' 0 sp true f.params.toList args.toList (s.fn H (ds++gs)).args pa)
  (hvars:∀ sp:Nat->Bool,(∀ p∈before,sp p.block=true)->DataW.TrodVars enc P W' sp s.vars (s.fn H (ds++gs)).vars pv)
  (hps:before=pa++pv) (hb:Below W.heap.size W W')
  (hok:∀ (j:Nat) (t:TypeId) (r:Value),f.resultTypes[j]? = some t->(v.resultList f.resultTypes.size)[j]? = some r->Value.okWide P W' .any 0 t r) :
  s.post enc P f apart fresh handsOn again W args v W':=by
 have hlt:∀ p∈before,p.block<W.heap.size:=λp hp=>hW.lt p hp;have hold:∀ p∈before,(λb=>decide (b<W.heap.size)) p.block=true:=λp hp=>by simpa using hlt p hp
 refine ⟨ds,gs,before,[],pa,pv,hW,hres _ _ _,hargs _ hold,hvars _ hold,World.keptBut_mono (λp hp=>⟨hp,?_⟩) (hb.frame (· ∈ before)),λ_=>?_⟩
 ·rw [hps,gv] at hp;exact Or.inr hp
 ·obtain ⟨_,_,_,_,_,hz,hn⟩:=hW;refine ⟨hok,_,_,([]++pa)++pv,⟨[]++pa,pv,trodAll_append (hargs _ (λ_ _=>rfl)) (hres _ _ _),hvars _ (λ_ _=>rfl),rfl,?_,?_⟩,?_⟩
  ·intro b off hp;have hin:MemPlace.cell b off∈before:=by rw [hps];simpa using hp
   rw [hb.frozen (hlt _ hin)];exact hz b off hin
  ·intro ha;have:=hn ha;rw [hps] at this;simpa using this
  ·intro p hp _;rw [hps];simpa using hp
theorem cS.mono {P:Program} {f:FuncId} {args:List SV} {hin:Hp} {m:Nat} {Post Post':SV->Hp->Nat->Prop} (h:cS P f args hin m Post) (hp:∀ r hp n,Post r hp n->Post' r hp n):cS P f args hin m Post' :=
 ⟨h.1,λX vals h1 h2 h3 h4 h5=>(h.2 X vals h1 h2 h3 h4 h5).mono λe w' ⟨r,res,hp',nx',ids',g1,g2,g3⟩=>⟨r,res,hp',nx',ids',g1,hp _ _ _ g2,g3⟩⟩
theorem yw {f:FuncId} {fn:Func} {s:ChangeSpec} {apart fresh handsOn again:Bool} (Ts:List Ty) (F:Nat) (hB:vc P F fn.params.toList Ts=true) (hv:s.vars=[]) (hs:∀ ds:List (DataW H),ds.length=Ts.length->s.fn H ds = { results:=[.lit (.bool true)],args:=ds })
  (hlo:laidOutB P=true) {tb:TypeId} (hrt:fn.resultTypes = #[tb]) (hub:P.underlying tb=some .bool)
  (W:World) (base:Nat) (args:Array Value) (ds gs:List (DataW H)) (before:List MemPlace) (hval:∀ (j:Nat) t v,fn.params[j]? = some t->args[j]? = some v->Value.okWide P W .any base t v)
  (hspec:∀ x:Tys.den Ts,Tys.ok Ts x->Tys.rep H Ts x (ds++gs)->cS P f (Tys.args Ts x) [] 0 (λr _ _=>r = .v (.bool true)))
  (hW:DataW.Whole enc P fn.params.toList s.vars apart W args.toList ds gs before) (htab:sa P (λb=>b<W.heap.size) W) :
  Calls P f args W λe W'=>∃ v,e = .returned v/\s.post enc P fn apart fresh handsOn again W args v W':=by
 have hW':=hW;obtain ⟨p,q,hA,hV,rfl,hfz,hnd⟩:=hW;rw [hv] at hV;have hgq:gs=[]/\q=[]:=by
  cases gs with
  | nil=>exact ⟨rfl,hV⟩
  | cons _ _=>cases hV
 obtain ⟨rfl,rfl⟩:=hgq;let C:Nm->cp:=bW [];let I:Nat->Prop:=λb=>b<W.heap.size;let X:Cx:={ gl:=htab,P:=P,w0:=W,I0:=λb=>b<W.heap.size,W0:=λ_=>False,m:=0,ids0:=λ_=>none,C0:=λ_=>.unborn };have hIm:∀ b,b<W.heap.size->Im W (λb=>b<W.heap.size) (λ_=>False) (bW []) (λ_=>none) W b:=λb hb=>⟨.inl hb,hb,λk hk=>by cases hk⟩;obtain ⟨x,h1,h2,h3,h4,h5⟩:=CQ (C:=bW []) (ids:=λ_=>none) hIm fn.params.toList Ts args.toList ds p hB (λj t v hj hv=>hval j t v (by simpa using hj) (by simpa using hv)) hA;have hsp:=hspec x h1 (by simpa using h4);have hH:nl X [] 0 X.ids0 X.w0:=⟨⟨⟨λk=>trivial,(λk k' b o o' hl=>by cases hl),(λk b o hl=>by cases hl),λb hb=>⟨hb,λh=>h⟩,λb _ _=>rfl,rfl,⟨rfl,cE _⟩,rfl,cE _⟩,λk hk=>absurd hk (pU _),λk hk=>absurd hk (pU _)⟩,λk _=>rfl,cE _⟩;refine (hsp.2 X args rfl rfl hH (by rw [←h2];simp) λi s hi=>?_).mono λe W' he=>?_
 ·have:=h3 i s hi;simpa [cP,dz] using this
 obtain ⟨r,res,hp',nx',ids',rfl,hres,hF,hd⟩:=he;subst hres;have hrv:=d6 hd;subst hrv;refine ⟨_,rfl,?_⟩;have hb:Below W.heap.size W W':=⟨hF.st.os,hF.st.tape.1,hF.st.output,hF.st.size,λk hk=>hF.st.evol k hk (λh=>h)⟩;have hfn:=hs ds h5;refine F8 (pa:=p) (pv:=[]) hW' (λb sp hd=>?_) (λsp hsp=>?_) (λsp _=>?_) rfl hb (ok_one hrt rfl (okWide_bool_mk hub true))
 ·rw [j9,hfn,hrt];exact trodAll_cons_mk (shut_bool hub true) trodAll_mk0
 ·rw [j9,hfn];exact w6 hlo hb fn.params.toList Ts args.toList ds p hB (λx hx=>hW'.lt x (by simp [hx])) (λx hx=>hsp x (by simp [hx])) hA
 ·rw [j9,hfn,hv];rfl
end
end
section
open Go.RowKit
def uq {α β:Type} (f:α->Option β):List α->Option (List β)
 | []=>some []
 | a::r=>match f a,uq f r with
  | some b,some l=>some (b::l)
  | _,_=>none
theorem ve {α β:Type} {f:α->Option β}:∀ {l:List α} {xs:List β},l.length=xs.length->(∀ (i:Nat) (x:β),xs[i]? = some x->∃ y,l[i]? = some y/\f y=some x)->uq f l=some xs
 | [],[],_,_=>rfl
 | [],_::_,h,_=>by cases h
 | _::_,[],h,_=>by cases h
 | a::l,x::xs,hl,h=>by
  obtain ⟨y,hy,hf⟩:=h 0 x rfl
  cases hy
  unfold uq
  rw [hf,ve (l:=l) (xs:=xs) (by simpa using hl) λi z hz=>by simpa using h (i+1) z (by simpa using hz)]
def Ty.unrep:(T:Ty)->DataW Unit->Option T.den
 | .int k,d=>match d with
  | .lit (.int k' x)=>if k=k' then some x else none
  | _=>none
 | .bool,d=>match d with
  | .lit (.bool b)=>some b
  | _=>none
 | .str,d=>match d with
  | .lit (.string l)=>some ⟨l.toArray⟩
  | _=>none
 | .sl e,d=>match d with
  | .nil=>some []
  | .slice el _=>uq e.unrep el
  | _=>none
 | .unit,_=>some ()
 | .pair a b,d=>match d with
  | .agg (p::r)=>match a.unrep p,b.unrep (.agg r) with
   | some x,some y=>some (x,y)
   | _,_=>none
  | _=>none
 | .arr _ e,d=>match d with
  | .agg el=>uq e.unrep el
  | _=>none
theorem s7:∀ (T:Ty) (x:T.den) (d:DataW Unit),T.rep Unit x d->T.unrep d=some x
 | .int k,x,d,h=>by
  simp only [Ty.rep] at h;subst h;simp [Ty.unrep]
 | .bool,x,d,h=>by simp only [Ty.rep] at h;subst h;rfl
 | .str,x,d,h=>by simp only [Ty.rep] at h;subst h;simp [Ty.unrep]
 | .sl e,xs,d,h=>by
  simp only [Ty.rep] at h
  rcases h with ⟨rfl,rfl⟩|⟨el,spn,rfl,hl,h⟩
  ·rfl
  ·simp only [Ty.unrep]
   exact ve hl λi x hx=>by
    obtain ⟨y,hy,hr⟩:=h i x hx
    exact ⟨y,hy,s7 e x y hr⟩
 | .unit,_,_,_=>rfl
 | .pair a b,x,d,h=>by
  simp only [Ty.rep] at h
  obtain ⟨p,r,rfl,h1,h2⟩:=h
  simp only [Ty.unrep]
  rw [s7 a x.1 p h1,s7 b x.2 (.agg r) h2]
 | .arr n e,xs,d,h=>by
  simp only [Ty.rep] at h
  obtain ⟨el,rfl,hl,h⟩:=h
  simp only [Ty.unrep]
  exact ve hl λi x hx=>by
   obtain ⟨y,hy,hr⟩:=h i x hx
   exact ⟨y,hy,s7 e x y hr⟩
def N_:SV->Bool
 | .v _=>true
 | _=>false
def Jp:SV->Bool
 | .v _=>true
 | .sl n l=>Nat.blt 0 n&&l.all N_
 | _=>false
theorem CR {P:Program} {W:World} {n:String} {d:DataW Unit} {g:Nat} {t:TypeId} {cs:List SV} (T:Ty) (F:Nat) (hv:Go.Lib.VarReads P W n d) (hg:P.globalNamed n=some g) (ht:(P.globals[g]?).map (·.type)=some t)
  (hB:pm P F t T=true) (hcs:(T.unrep d).map T.sv=some cs) (hc:cs.all Jp=true) (h0:0<cs.length) :
  g<W.heap.size/\∀ i x,cs[i]? = some x->∃ y,W.cell? ⟨g,i,none⟩=some y/\p_ (λb=>b<W.heap.size) W x y:=by
 obtain ⟨g',t',ca,fuel,p,h1,h2,h3,h4⟩:=hv;rw [hg] at h1;cases h1;rw [ht] at h2;cases h2;obtain ⟨x,hok,hlen,hd,hr⟩:=(reads (H:=Unit) (enc:=λ_=>()) (P:=P) (w:=W) (sp:=λ_=>true) (held:=false) (C:=λ_=>.unborn) (ids:=λ_=>none) (I:=λb=>b<W.heap.size) (λb h=>h) T).1 F fuel t ca.toList d p hB h4;rw [s7 T x d hr] at hcs;simp only [fj,fM] at hcs;unfold World.var? at h3;rw [hg] at h3;simp only [cw] at h3;have hcell:∀ i,i<ca.size->W.cell? ⟨g,i,none⟩=some (ca.getD i undef):=λi hi=>by
  split at h3
  ·rename_i arr e fr hw;cases h3;simp [World.cell?,hw,cP,hi]
  ·cases h3
 have hlt:g<W.heap.size:=by
  split at h3
  ·rename_i arr e fr hw;exact (qI.1 hw).1
  ·cases h3
 have hsz:cs.length<=ca.size:=by
  have:=Ty.sv_length T x hok;rw [hcs,←hlen] at this;simp at this;omega
 refine ⟨hlt,λi s hi=>?_⟩;have hil:=(dx.1 hi).1;refine ⟨_,hcell i (by omega),?_⟩;have hden:=hd i s (by rw [hcs];exact hi);rw [dj] at hden;have e1:(ca.toList.getD i undef)=ca.getD i undef:=by simp [dz,cP]
 rw [e1] at hden;have hb:=dP.1 hc s (pN hi);unfold Jp at hb;split at hb
 ·exact d6 hden
 ·rename_i m l;simp only [cR,kH] at hb;obtain ⟨a,cap,he,k1,k2,k3⟩:=sP hden;rcases k3 with ⟨k3,_⟩|⟨b,o,c,rfl,k4,k5,k6⟩
  ·omega
  ·refine ⟨b,o,cap,he,k4,k1,k2,λj z hz=>?_⟩;have hz2:=k6 j z hz;have hv:=dP.1 hb.2 z (pN hz);unfold N_ at hv;split at hv
   ·exact ⟨_,rfl,by rw [k5 j _ hz];exact dG some (d6 hz2)⟩
   ·cases hv
 ·cases hb
theorem Kf {P:Program} {W:World} (l:List Nat) (hl:((List.range P.globals.size).all λg=>l.contains g||(yR P g).isNone)=true)
  (h:∀ g∈l,∀ cs,yR P g=some cs->g<W.heap.size/\∀ i x,cs[i]? = some x->∃ y,W.cell? ⟨g,i,none⟩=some y/\p_ (λb=>b<W.heap.size) W x y):sa P (λb=>b<W.heap.size) W:=by
 intro g cs hg;by_cases hlt:g<P.globals.size
 ·have:=dP.1 hl g (jI.2 hlt);rw [kZ] at this;rcases this with h1|h1
  ·exact h g (by simpa using h1) cs hg
  ·rw [hg] at h1;cases h1
 ·unfold yR at hg;rw [Array.getElem?_eq_none_iff.2 (by omega)] at hg;cases hg
end
section
open Go.RowKit
section
variable {S ρ:Type}
def l0 (step:S->Option (S ⊕ ρ)):Nat->S->Option ρ
 | 0,_=>none
 | n+1,s=>match step s with
  | none=>none
  | some (.inl s')=>l0 step n s'
  | some (.inr r)=>some r
theorem yx {step:S->Option (S ⊕ ρ)}:∀ {n m:Nat} {s:S} {r:ρ},n<=m->l0 step n s=some r->l0 step m s=some r
 | 0,_,_,_,_,h=>by simp [l0] at h
 | n+1,0,_,_,hl,_=>by omega
 | n+1,m+1,s,r,hl,h=>by
  simp only [l0] at h ⊢
  cases hs:step s with
  | none=>rw [hs] at h;exact h
  | some o =>
   rw [hs] at h
   cases o with
   | inl s'=>exact yx (by omega) h
   | inr r'=>exact h
open Classical in
noncomputable def dD (step:S->Option (S ⊕ ρ)) (s:S):Option ρ :=
 if h:∃ n,(l0 step n s).isSome then l0 step h.choose s else none
theorem yy {step:S->Option (S ⊕ ρ)} {n:Nat} {s:S} {r:ρ} (h:l0 step n s=some r):dD step s=some r:=by
 have he:∃ n,(l0 step n s).isSome:=⟨n,by rw [h];rfl⟩;unfold dD;rw [dif_pos he];obtain ⟨r',hr⟩:=qK.1 he.choose_spec;rw [hr];rcases Nat.le_total n he.choose with hl|hl
 ·have:=yx hl h;rw [hr] at this;exact this
 ·have:=yx hl hr;rw [h] at this;exact this.symm
theorem vf {step:S->Option (S ⊕ ρ)} {s:S} {r:ρ} (h:dD step s=some r):∃ n,l0 step n s=some r:=by
 unfold dD at h;split at h
 ·exact ⟨_,h⟩
 ·cases h
theorem yz (step:S->Option (S ⊕ ρ)) (s:S):dD step s=(step s).bind λo=>match o with
  | .inl s'=>dD step s'
  | .inr r=>some r:=by
 cases hs:step s with
 | none =>
  cases hl:dD step s with
  | none=>rfl
  | some r=>obtain ⟨n,hn⟩:=vf hl;cases n<;>simp [l0,hs] at hn
 | some o =>
  cases o with
  | inr r=>exact yy (n:=1) (by simp [l0,hs])
  | inl s' =>
   show dD step s=dD step s';cases hl:dD step s' with
   | some r=>obtain ⟨n,hn⟩:=vf hl;exact yy (n:=n+1) (by simp [l0,hs,hn])
   | none =>
    cases hl2:dD step s with
    | none=>rfl
    | some r =>
     obtain ⟨n,hn⟩:=vf hl2;cases n with
     | zero=>simp [l0] at hn
     | succ n=>simp only [l0,hs] at hn;rw [yy hn] at hl;cases hl
theorem lF {step:S->Option (S ⊕ ρ)} {s s':S} (h:step s=some (.inl s')):dD step s=dD step s':=by rw [yz,h];rfl
theorem gh {step:S->Option (S ⊕ ρ)} {s:S} {r:ρ} (h:step s=some (.inr r)):dD step s=some r:=by rw [yz,h];rfl
theorem Ht {step:S->Option (S ⊕ ρ)} {s:S} {x:Option ρ} (h:step s=x.map .inr):dD step s=x:=by rw [yz,h];cases x<;>rfl
end
variable {P:Program} {m N:Nat} {Q:g8} {fr:Fr} {hp:Hp} {nx:Nat}
theorem eQ {S ρ:Type} {step:S->Option (S ⊕ ρ)} {s0:S} {r:ρ} {c:Code} (E:S->Fr×Hp×Nat) (h:dD step s0=some r) (h0:pb P m fr hp (E s0).1 (E s0).2.1 (E s0).2.2)
  (hb:∀ (s:S) (o:S ⊕ ρ) (R:g8),step s=some o->(∀ r',o = .inr r'->r'=r)->(∀ s' fr' hp' nx',o = .inl s'->pb P m fr' hp' (E s').1 (E s').2.1 (E s').2.2->R .normal fr' hp' nx')->(∀ id,R (.exit id)=Q (.exit id))->R .ret=Q .ret ->
   lS P m N c R (E s).1 (E s).2.1 (E s).2.2):lS P m N (.loop c) Q fr hp nx:=by
 obtain ⟨n0,hn0⟩:=vf h;refine Kd (S:={ p:S×Nat // l0 step p.2 p.1=some r }) (λp=>(E p.1.1).1) (λp=>(E p.1.1).2.1) (λp=>(E p.1.1).2.2) (λ_=>True) (λp=>p.1.2) ⟨(s0,n0),hn0⟩ trivial h0 ?_;rintro ⟨⟨s,n⟩,hn⟩ R _ h1 h2 h3;cases n with
 | zero=>simp [l0] at hn
 | succ n =>
  simp only [l0] at hn;cases hs:step s with
  | none=>rw [hs] at hn;cases hn
  | some o =>
   rw [hs] at hn;refine hb s o R hs (λr' ho=>?_) (λs' fr' hp' nx' ho hl=>?_) h2 h3
   ·subst ho;simp only [fM] at hn;exact hn
   ·subst ho;exact h1 fr' hp' nx' ⟨(s',n),hn⟩ trivial (tv n) hl
theorem cZ {A:Type} {x y:Code} (E:A->Fr×Hp×Nat) (G:A->Prop)
  (h1:∀ K:Fr->Hp->Nat->Prop,(∀ a fr' hp' nx',G a->pb P m fr' hp' (E a).1 (E a).2.1 (E a).2.2->Wk P m K fr' hp' nx')->lS P m N x (tI (Wk P m K) Q) fr hp nx)
  (h2:∀ a,G a->lS P m N y Q (E a).1 (E a).2.1 (E a).2.2):lS P m N (.seq x y) Q fr hp nx :=
 h1 (lS P m N y Q) (λa fr' hp' nx' hg hl=>nv _ _ _ hl (h2 a hg))
theorem ka {A:Type} {x:Code} {id:Nat} (E:A->Fr×Hp×Nat) (G:A->Prop)
  (h1:∀ K:Fr->Hp->Nat->Prop,(∀ a fr' hp' nx',G a->pb P m fr' hp' (E a).1 (E a).2.1 (E a).2.2->Wk P m K fr' hp' nx')->lS P m N x (zA id (tI (Wk P m K) Q)) fr hp nx)
  (h2:∀ a,G a->Q .normal (E a).1 (E a).2.1 (E a).2.2):lS P m N (.block id x) Q fr hp nx:=by
 have:=h1 (Q .normal) (λa fr' hp' nx' hg hl=>nv _ _ _ hl (h2 a hg));have e:tI (Wk P m (Q .normal)) Q=wS P m Q:=by funext e;cases e<;>rfl
 rw [e] at this;exact this
theorem cc {x y:Code} (h:lS P m N x (tI (Wk P m (lS P m N y Q)) Q) fr hp nx):lS P m N (.seq x y) Q fr hp nx:=h
theorem cT {x:Code} {id:Nat} (h:lS P m N x (zA id (wS P m Q)) fr hp nx):lS P m N (.block id x) Q fr hp nx:=h
theorem cj {ρ:Type} {c:Operand} {b:Bool} {X Y:Option ρ} {o:ρ} {x y:Code} (h:(bif b then X else Y)=some o) (e:dA true fr c = .v (.bool b)) (k1:b=true->X=some o->lS P m N x Q fr hp nx) (k2:b=false->Y=some o->lS P m N y Q fr hp nx):lS P m N (.cond c x y) Q fr hp nx:=by
 simp only [lS,pQ,e];exact ⟨λhb=>k1 hb (by rw [hb] at h;exact h),λhb=>k2 hb (by rw [hb] at h;exact h)⟩
theorem CS {c:Operand} {x y:Code} (e:dA true fr c = .v (.bool true)) (k:lS P m N x Q fr hp nx):lS P m N (.cond c x y) Q fr hp nx:=by
 simp only [lS,pQ,e];exact ⟨λ_=>k,λhb=>by cases hb⟩
theorem CT {c:Operand} {x y:Code} (e:dA true fr c = .v (.bool false)) (k:lS P m N y Q fr hp nx):lS P m N (.cond c x y) Q fr hp nx:=by
 simp only [lS,pQ,e];exact ⟨(λhb=>by cases hb),λ_=>k⟩
theorem cm {α β:Type} {x:Option α} {f:α->Option β} {o:β} (h:x.bind f=some o):∃ a,x=some a/\f a=some o:=by
 cases x with
 | none=>cases h
 | some a=>exact ⟨a,rfl,h⟩
theorem LY {α β:Type} {x:Option α} {f:α->β} {o:β} (h:x.map f=some o):∃ a,x=some a/\f a=o:=by
 cases x with
 | none=>cases h
 | some a=>cases h;exact ⟨a,rfl,rfl⟩
theorem Hu {m:Nat} {fr fr':Fr} {hp hp':Hp} {nx':Nat} (σ:List (Nm×Nm)) (frz:List Nm) (h1:CL hp hp' σ frz fr fr') (h2:pk hp hp' σ frz hp') (h3:o7 m σ frz=true) (h4:p8 m nx' σ hp'=true) (h5:Nat.ble m nx'=true):pb P m fr hp fr' hp' nx':=ES σ frz h1 h2 h3 h4 (cU h5)
theorem Jq {m:Nat} {x X:SV} {hp H:Hp} {nn:Nat} (σ:List (Nm×Nm)) (frz:List Nm) (h1:fu hp H σ frz x X) (h2:pk hp H σ frz H) (h3:o7 m σ frz=true) (h4:p8 m nn σ H=true) (h5:Nat.ble m nn=true):wU P m (λr h n=>r=X/\h=H/\n=nn) x hp:=LX X H nn σ frz ⟨rfl,rfl,rfl⟩ h1 h2 h3 h4 (cU h5)
end
section
open Go.RowKit
variable {P:Program} {m N:Nat} {Q:g8} {fr:Fr} {hp:Hp} {nx:Nat} {ops:Array Oper}
def uc:List Prop->Prop
 | []=>True
 | p::r=>p/\uc r
def gP (r:eX) (e:dw):Prop:=match r with
 | .ok s e'=>s/\e'.val=e.val/\e'.upd=e.upd/\e'.nx=e.nx/\e'.rds=e.rds
 | .bad=>False
structure zJ where
 fr:Fr
 hp:Hp
 nx:Nat
 acc:List fR
 obs:List Prop
def pB (ops:Array Oper) (fr:Fr) (o:Oper):Option Bool:=match o.guard with
 | none=>some true
 | some jw=>mB ops fr jw.1 jw.2
def F9 (P:Program) (o:Op):SV:=bif lP P o then .gd false .any else .v undef
def zK (P:Program) (o:Oper) (x:SV):SV:=match o.guard with
 | none=>x
 | some _=>bif lP P o.op then .gd true x else x
def vg (P:Program) (o:Oper) (nx:Nat) (e:dw):Bool:=o.guard.isSome&&(lP P o.op&&(!e.upd.isEmpty || !(e.nx==nx)))
def gk (P:Program) (d:Bool) (ops:Array Oper):Nat->List Oper->List (Option dw)->zJ->Option zJ
 | 0,_,_,s=>some s
 | _+1,[],_,s=>some s
 | n+1,o::rest,sc,s=>match pB ops s.fr o with
  | none=>none
  | some false=>gk P d ops n rest sc.tail ⟨gg o.dst (F9 P o.op) s.fr,s.hp,bif d then s.nx+1 else s.nx,s.acc++[⟨[],[],s.nx,s.nx⟩],s.obs⟩
  | some true=>match i_ true s.fr o.op with
   | some _=>none
   | none=>match sc with
    | some e::sc'=>bif vg P o s.nx e then none else
     gk P d ops n rest sc' ⟨gg o.dst (zK P o e.val) s.fr,e.upd++s.hp,bif d then e.nx+1 else e.nx,s.acc++[⟨e.upd.map (·.1.key),e.rds,s.nx,e.nx⟩],gP (kL P true s.fr s.hp s.nx o.type o.op) e::s.obs⟩
    | _=>match kL P true s.fr s.hp s.nx o.type o.op with
     | .bad=>none
     | .ok _ ⟨val,upd,nx',rds⟩=>bif CK P true s.fr s.hp o.op && !vg P o s.nx ⟨val,upd,nx',rds⟩ then
       gk P d ops n rest sc.tail ⟨gg o.dst (zK P o val) s.fr,upd++s.hp,bif d then nx'+1 else nx',s.acc++[⟨upd.map (·.1.key),rds,s.nx,nx'⟩],s.obs⟩
      else none
theorem so {dt:Bool} {o:Oper} {K:SV->Hp->Nat->List Nm->Prop} {s:Prop} {e:dw} (hd:pB ops fr o=some true) (hc:i_ true fr o.op=none) (hop:kL P true fr hp nx o.type o.op = .ok s e) (hs:s) (hu:vg P o nx e=false)
  (hk:K (zK P o e.val) e.upd e.nx e.rds):iv dt P ops o fr hp nx K:=by
 unfold iv;unfold pB at hd;cases hg:o.guard with
 | none =>
  simp only;unfold kC;rw [hc,hop];unfold zK at hk;rw [hg] at hk;exact .inr ⟨hs,hk⟩
 | some jw =>
  unfold vg at hu;rw [hg] at hd hu;simp only at hd ⊢;rw [hd];simp only;unfold zK at hk;rw [hg] at hk;simp only at hk;cases hq:lP P o.op with
  | true =>
   rw [hq] at hk hu;simp only [cd] at hk ⊢;refine .inr ?_;rw [hop];obtain ⟨val,upd,nx',rds⟩:=e;simp at hu;obtain ⟨hu,rfl⟩:=hu;subst hu;exact ⟨λ_=>hs,hk⟩
  | false =>
   rw [hq] at hk;simp only [ck] at hk ⊢;refine ⟨λ_=>?_,λhe=>by cases he⟩;unfold kC;rw [hc,hop];exact .inr ⟨hs,hk⟩
theorem zL {dt:Bool} {o:Oper} {K:SV->Hp->Nat->List Nm->Prop} (hd:pB ops fr o=some false) (hk:K (F9 P o.op) [] nx []):iv dt P ops o fr hp nx K:=by
 unfold iv;unfold pB at hd;cases hg:o.guard with
 | none=>rw [hg] at hd;cases hd
 | some jw =>
  rw [hg] at hd;simp only at hd ⊢;rw [hd];simp only;unfold F9 at hk;cases hq:lP P o.op with
  | true=>rw [hq] at hk;exact .inl ⟨rfl,hk⟩
  | false=>rw [hq] at hk;exact ⟨(λhe=>by cases he),λ_=>hk⟩
theorem CU {l:List Prop} (h:uc l) {l2:List Prop} (hs:∃ k,l=k++l2):uc l2:=by
 obtain ⟨k,rfl⟩:=hs;induction k with
 | nil=>exact h
 | cons p k ih=>exact ih h.2
theorem yA {r:eX} {e:dw} (h:gP r e):∃ s,r = .ok s e/\s:=by
 cases r with
 | bad=>exact h.elim
 | ok s e' =>
  obtain ⟨hs,h1,h2,h3,h4⟩:=h;obtain ⟨v,u,n,rd⟩:=e';simp only at h1 h2 h3 h4;subst h1;subst h2;subst h3;subst h4;exact ⟨s,rfl,hs⟩
theorem rJ {d:Bool}:∀ (n:Nat) (l:List Oper) (sc:List (Option dw)) (s s':zJ),gk P d ops n l sc s=some s'->∃ k,s'.obs=k++s.obs
 | 0,l,sc,s,s',h=>by cases h;exact ⟨[],rfl⟩
 | n+1,[],sc,s,s',h=>by cases h;exact ⟨[],rfl⟩
 | n+1,o::rest,sc,s,s',h=>by
  unfold gk at h
  split at h
  ·cases h
  ·obtain ⟨k,hk⟩:=rJ n rest _ _ _ h;exact ⟨k,hk⟩
  ·split at h
   ·cases h
   ·split at h
    ·rw [e_] at h
     rename_i e _
     split at h
     ·cases h
     ·obtain ⟨k,hk⟩:=rJ n rest _ _ _ h;exact ⟨k++[gP (kL P true s.fr s.hp s.nx o.type o.op) e],by rw [hk];simp⟩
    ·split at h
     ·cases h
     ·rw [e_] at h
      split at h
      ·obtain ⟨k,hk⟩:=rJ n rest _ _ _ h;exact ⟨k,hk⟩
      ·cases h
theorem xt {K:Fr->Hp->Nat->Prop}:∀ (n:Nat) (l:List Oper) (sc:List (Option dw)) (s s':zJ),gk P false ops n l sc s=some s'->uc s'.obs->lQ P ops (l.drop n) s'.fr s'.hp s'.nx K->lQ P ops l s.fr s.hp s.nx K
 | 0,l,sc,s,s',h,ho,hr=>by cases h;exact hr
 | n+1,[],sc,s,s',h,ho,hr=>by cases h;simpa using hr
 | n+1,o::rest,sc,s,s',h,ho,hr=>by
  unfold gk at h
  split at h
  ·cases h
  ·rename_i hd
   exact zL hd (xt n rest _ _ _ h ho hr)
  ·rename_i hd
   split at h
   ·cases h
   ·rename_i hc
    split at h
    ·rename_i e sc'
     rw [e_] at h
     split at h
     ·cases h
     ·rename_i hq
      obtain ⟨k,hk⟩:=rJ n rest _ _ _ h
      have hob:=(CU ho ⟨k,hk⟩).1
      obtain ⟨sd,hop,hs⟩:=yA hob
      exact so hd hc hop hs (by simpa using hq) (xt n rest _ _ _ h ho hr)
    ·split at h
     ·cases h
     ·rename_i sd val upd nx' rds hop
      rw [e_] at h
      split at h
      ·rename_i hq
       simp only [cR,ku] at hq
       exact so hd hc hop (Bj hop hq.1) hq.2 (xt n rest _ _ _ h ho hr)
      ·cases h
theorem vh {K:List fR->Fr->Hp->Nat->Prop}:∀ (n:Nat) (l:List Oper) (sc:List (Option dw)) (s s':zJ),gk P true ops n l sc s=some s'->uc s'.obs->u4 P ops (l.drop n) s'.fr s'.hp s'.nx s'.acc K->u4 P ops l s.fr s.hp s.nx s.acc K
 | 0,l,sc,s,s',h,ho,hr=>by cases h;exact hr
 | n+1,[],sc,s,s',h,ho,hr=>by cases h;simpa using hr
 | n+1,o::rest,sc,s,s',h,ho,hr=>by
  unfold gk at h
  split at h
  ·cases h
  ·rename_i hd
   exact zL hd (vh n rest _ _ _ h ho hr)
  ·rename_i hd
   split at h
   ·cases h
   ·rename_i hc
    split at h
    ·rename_i e sc'
     rw [e_] at h
     split at h
     ·cases h
     ·rename_i hq
      obtain ⟨k,hk⟩:=rJ n rest _ _ _ h
      have hob:=(CU ho ⟨k,hk⟩).1
      obtain ⟨sd,hop,hs⟩:=yA hob
      exact so hd hc hop hs (by simpa using hq) (vh n rest _ _ _ h ho hr)
    ·split at h
     ·cases h
     ·rename_i sd val upd nx' rds hop
      rw [e_] at h
      split at h
      ·rename_i hq
       simp only [cR,ku] at hq
       exact so hd hc hop (Bj hop hq.1) hq.2 (vh n rest _ _ _ h ho hr)
      ·cases h
def dY (P:Program) (d:Bool) (ops:Array Oper) (l:List Oper) (fr:Fr) (hp:Hp) (nx:Nat) (acc:List fR) (K:Fr->Hp->Nat->Prop):Prop:=match d with
 | false=>lQ P ops l fr hp nx (qD K)
 | true=>yv P ops l fr hp nx acc (qD K)
theorem cu {id:Nat} (h:dY P false ops ops.toList fr hp nx [] (Q .normal)):lS P m N (.region id ops false) Q fr hp nx:=h
theorem d9 {id:Nat} (h:dY P true ops ops.toList fr hp nx [] (Q .normal)):lS P m N (.region id ops true) Q fr hp nx:=h
def Jr (s:Option zJ):Bool:=s.isSome
def iN (s:Option zJ):zJ:=s.getD ⟨[],[],0,[],[]⟩
theorem Em {s:Option zJ} (h:Jr s=true):s=some (iN s):=by
 cases s with
 | none=>cases h
 | some s=>rfl
theorem Kg {d:Bool} {l:List Oper} {acc:List fR} {K:Fr->Hp->Nat->Prop} (n:Nat) (sc:List (Option dw)) (obs:List Prop) (h1:Jr (gk P d ops n l sc ⟨fr,hp,nx,acc,[]⟩)=true) (h2:(iN (gk P d ops n l sc ⟨fr,hp,nx,acc,[]⟩)).obs=obs) (ho:uc obs)
  (k:dY P d ops (l.drop n) (iN (gk P d ops n l sc ⟨fr,hp,nx,acc,[]⟩)).fr (iN (gk P d ops n l sc ⟨fr,hp,nx,acc,[]⟩)).hp (iN (gk P d ops n l sc ⟨fr,hp,nx,acc,[]⟩)).nx (iN (gk P d ops n l sc ⟨fr,hp,nx,acc,[]⟩)).acc K):dY P d ops l fr hp nx acc K:=by
 have h:=Em h1;rw [←h2] at ho;cases d with
 | false=>exact xt n l sc _ _ h ho k
 | true=>exact vh n l sc _ _ h ho k
def oS (fr ks:Fr):Fr:=ks.map λp=>(p.1,cM fr p.1)
def ip:Hp->Nm->cp
 | [],_=>.unborn
 | p::r,k=>bif p.1.eqk k then p.2 else ip r k
def l9 (hp ks:Hp):Hp:=ks.map λp=>(p.1,ip hp p.1)
def lj (hp ks:Hp):Bool:=(hp.all λp=>ks.any λq=>q.1.eqk p.1)&&ks.all λq=>match q.1 with
 | .t _=>true
 | .s _ _=>hp.any λp=>p.1.eqk q.1
theorem yB {a b:Nm} (h:a.key=b.key):∀ hp:Hp,ip hp a=ip hp b
 | []=>rfl
 | p::r=>by
  simp only [ip]
  have e:p.1.eqk a=p.1.eqk b:=by
   by_cases hk:p.1.key=a.key
   ·rw [Nm.eqk_iff.2 hk,Nm.eqk_iff.2 (hk.trans h)]
   ·rw [Nm.eqk_no hk,Nm.eqk_no (λe=>hk (e.trans h.symm))]
  rw [e,yB h r]
theorem yC (k:Nm):∀ {hp:Hp},(∃ p∈hp,p.1.key=k.key)->bW hp k=(ip hp k).mem k
 | [],h=>by obtain ⟨p,hp,_⟩:=h;cases hp
 | p::r,h=>by
  simp only [bW,ip]
  by_cases hk:p.1.key=k.key
  ·rw [Nm.eqk_iff.2 hk,cd,cd]
  ·rw [Nm.eqk_no hk,ck,ck]
   refine yC k ?_
   obtain ⟨q,hq,hqk⟩:=h
   rcases fc.1 hq with rfl|hq
   ·exact absurd hqk hk
   ·exact ⟨q,hq,hqk⟩
theorem Bp (a:Nat):∀ {hp:Hp},ip hp (.t a)=bW hp (.t a)
 | []=>rfl
 | p::r=>by simp only [ip,bW,cp.mem];rw [Bp a]
theorem w7 (fr:Fr) (d:Nat):∀ ks:Fr,cM (oS fr ks) d=cM fr d\/cM (oS fr ks) d = .any
 | []=>.inr rfl
 | p::r=>by
  simp only [oS,gu,cM]
  by_cases h:p.1=d
  ·subst h;left;simp
  ·rw [show (p.1==d)=false from by simpa using h,ck];exact w7 fr d r
theorem EU (hp:Hp) (k:Nm):∀ ks:Hp,(∃ q∈ks,q.1.key=k.key)->bW (l9 hp ks) k=(ip hp k).mem k
 | [],h=>by simp at h
 | p::r,h=>by
  simp only [l9,gu,bW]
  by_cases hk:p.1.key=k.key
  ·rw [Nm.eqk_iff.2 hk,cd,yB hk]
  ·rw [Nm.eqk_no hk,ck]
   refine EU hp k r ?_
   obtain ⟨q,hq,hqk⟩:=h
   rcases fc.1 hq with rfl|hq
   ·exact absurd hqk hk
   ·exact ⟨q,hq,hqk⟩
theorem xu {fr':Fr} {hp':Hp} (h1:oS fr fr'=fr') (h2:l9 hp hp'=hp') (h3:lj hp hp'=true):FU fr fr' hp hp':=by
 refine ⟨λd=>h1▸w7 fr d fr',λk=>?_⟩;simp only [lj,cR,dP,nk] at h3;rw [←h2];by_cases h:∃ q∈hp',q.1.key=k.key
 ·rw [EU hp k hp' h];cases k with
  | t a=>exact Bp a
  | s F i =>
   obtain ⟨q,hq,hqk⟩:=h;have:=h3.2 q hq;cases hq1:q.1 with
   | t a=>rw [hq1] at hqk;simp [Nm.key] at hqk
   | s G z =>
    rw [hq1] at this hqk;simp only [nk] at this;obtain ⟨p,hp1,hp2⟩:=this;exact (yC _ ⟨p,hp1,(Nm.eqk_iff.1 hp2).trans hqk⟩).symm
 ·have n1:¬∃q∈l9 hp hp',q.1.key=k.key:=λ⟨q,hq,hqk⟩=>by
   obtain ⟨p,hp1,rfl⟩:=fH.1 hq;exact h ⟨p,hp1,hqk⟩
  rw [pA n1];refine (pA λ⟨p,hp1,e⟩=>h ?_).symm;obtain ⟨q,hq,hqp⟩:=h3.1 p hp1;exact ⟨q,hq,(Nm.eqk_iff.1 hqp).trans e⟩
theorem Nt {l:List Oper} {acc:List fR} {K:Fr->Hp->Nat->Prop} (fr':Fr) (hp':Hp) (nx':Nat) (hl:l=[]) (h1:oS fr fr'=fr') (h2:l9 hp hp'=hp') (h3:lj hp hp'=true) (h4:nx=nx') (k:K fr' hp' nx'):dY P false ops l fr hp nx acc K:=by
 subst hl;subst h4;exact ⟨fr',hp',xu h1 h2 h3,k⟩
theorem Nu {l:List Oper} {acc:List fR} {K:Fr->Hp->Nat->Prop} (fr':Fr) (hp':Hp) (nx':Nat) (hl:l=[]) (h1:oS fr fr'=fr') (h2:l9 hp hp'=hp') (h3:lj hp hp'=true) (h4:nx=nx') (h5:P.follows .mixedOrders=true) (h6:m4 ops acc (wY ops.toList)=true) (k:K fr' hp' nx'):dY P true ops l fr hp nx acc K:=by
 subst hl;subst h4;exact ⟨⟨h5,h6⟩,fr',hp',xu h1 h2 h3,k⟩
theorem En {K:Fr->Hp->Nat->Prop} (ns:List fR):zD (EO P ops ns (qD K)):=λfr fr' hp nx h ⟨h1,h2⟩=>⟨h1,CJ K _ _ _ _ h h2⟩
theorem cI {d:Bool} {l:List Oper} {acc:List fR} {K:Fr->Hp->Nat->Prop} (t:Nat) (b:Bool) (h:cM fr t = .v (.bool b)\/cM fr t = .gd true (.v (.bool b)))
  (k1:b=true->dY P d ops l ((t,bif (match cM fr t with | .gd _ _=>true|_=>false) then .gd true (.v (.bool true)) else .v (.bool true))::fr) hp nx acc K)
  (k2:b=false->dY P d ops l ((t,bif (match cM fr t with | .gd _ _=>true|_=>false) then .gd true (.v (.bool false)) else .v (.bool false))::fr) hp nx acc K):dY P d ops l fr hp nx acc K:=by
 have gen:∀ c:Bool,b=c->dY P d ops l ((t,bif (match cM fr t with | .gd _ _=>true|_=>false) then .gd true (.v (.bool c)) else .v (.bool c))::fr) hp nx acc K->dY P d ops l fr hp nx acc K:=by
  intro c hc hk;subst hc;have e:cM ((t,bif (match cM fr t with | .gd _ _=>true|_=>false) then .gd true (.v (.bool b)) else .v (.bool b))::fr)=cM fr:=by
   funext q;simp only [cM];by_cases hq:t=q
   ·subst hq;rcases h with h|h<;>simp [h]
   ·rw [show (t==q)=false from by simpa using hq,ck]
  cases d with
  | false=>exact w3 (CJ K) l _ _ _ _ e hk
  | true=>exact zE (En ·) l _ _ _ _ _ e hk
 cases b with
 | true=>exact gen true rfl (k1 rfl)
 | false=>exact gen false rfl (k2 rfl)
def qT (ops:Array Oper) (fr:Fr):List Oper->Option (FuncId×List SV×Option Tmp)
 | o::_=>match pB ops fr o with
  | some true=>(i_ true fr o.op).map λc=>(c.1,c.2,o.dst)
  | _=>none
 | []=>none
theorem Eo {g:Bool} {o:Op} {c:FuncId×List SV} (h:i_ g fr o=some c):He o=false:=by
 cases o<;>simp only [i_] at h<;>try (cases h;done)
 rename_i cl;obtain ⟨callee,args,argTypes⟩:=cl;cases callee<;>simp only at h<;>first|rfl|cases h
theorem cD {d:Bool} {l:List Oper} {acc:List fR} {K:Fr->Hp->Nat->Prop} (f:FuncId) (args:List SV) (dst:Option Tmp) (h:qT ops fr l=some (f,args,dst))
  (k:match d with|false=>Hn P f args dst ops (l.drop 1) fr hp nx (qD K)|true=>Jn P f args dst ops (l.drop 1) fr hp nx acc (qD K)):dY P d ops l fr hp nx acc K:=by
 cases l with
 | nil=>cases h
 | cons o rest =>
  simp only [qT] at h;cases hd:pB ops fr o with
  | none=>rw [hd] at h;cases h
  | some b =>
   cases b with
   | false=>rw [hd] at h;cases h
   | true =>
    rw [hd] at h;simp only at h;cases hc:i_ true fr o.op with
    | none=>rw [hc] at h;cases h
    | some c =>
     rw [hc] at h;simp only [fj,fM,iH] at h;obtain ⟨rfl,rfl,rfl⟩:=h;have hq:lP P o.op=false:=by unfold lP;rw [Eo hc];rfl
     have step:∀ {dt:Bool} {K2:SV->Hp->Nat->List Nm->Prop},BT dt P c.1 c.2 hp nx K2->iv dt P ops o fr hp nx K2:=by
      intro dt K2 hk;unfold iv;unfold pB at hd;cases hg:o.guard with
      | none=>simp only;unfold kC;rw [hc];exact hk
      | some jw =>
       rw [hg] at hd;simp only at hd ⊢;rw [hd];simp only [hq,ck];refine ⟨λ_=>?_,(λhe=>by cases he)⟩;unfold kC;rw [hc];exact hk
     cases d with
     | false=>exact step k
     | true=>exact step k
end
section
open Go.RowKit
class b_ (α:Type) extends Inhabited α where
 sz:Nat
 cells:α->List SV
 len:∀ a,(cells a).length=sz
 one:∀ a,(cells a).all jr=true
 stc:∀ a,ir (cells a)=true
variable {α β:Type}
instance : b_ Int:=⟨1,λx=>[.v (.int .i64 x)],λ_=>rfl,λ_=>rfl,λ_=>rfl⟩
instance : b_ Bool:=⟨1,λx=>[.v (.bool x)],λ_=>rfl,λ_=>rfl,λ_=>rfl⟩
instance : b_ ByteArray:=⟨1,λx=>[.v (.string x)],λ_=>rfl,λ_=>rfl,λ_=>rfl⟩
def fl [b_ α] (xs:List α):List SV:=xs.flatMap b_.cells
theorem LZ [b_ α]:fl ([]:List α)=[]:=rfl
theorem kR [b_ α] (x:α) (xs:List α):fl (x::xs)=b_.cells x++fl xs:=rfl
theorem fF [b_ α] (xs ys:List α):fl (xs++ys)=fl xs++fl ys:=by simp [fl]
theorem iA [b_ α] (xs:List α):(fl xs).length=xs.length*b_.sz α:=by
 induction xs with
 | nil=>simp [fl]
 | cons x xs ih=>rw [kR,ec,ih,b_.len,gq,gZ,Nat.one_mul,Nat.add_comm]
theorem Kh {xs ys:List SV} (h:ir xs=true) (g:ir ys=true):ir (xs++ys)=true:=by
 induction xs with
 | nil=>exact g
 | cons x xs ih=>simp only [ir,cR,iy] at h ⊢;exact ⟨h.1,ih h.2⟩
theorem kS [b_ α] (xs:List α):ir (fl xs)=true:=by
 induction xs with
 | nil=>rfl
 | cons x xs ih=>rw [kR];exact Kh (b_.stc x) ih
theorem BV [b_ α] (xs:List α):mP (fl xs)=true:=ju (kS xs)
theorem Hv [b_ α] (xs:List α):(fl xs).all jr=true:=by
 induction xs with
 | nil=>rfl
 | cons x xs ih=>rw [kR,List.all_append,b_.one,ih];rfl
instance [b_ α]:b_ (List α):=⟨1,λx=>[.sl x.length (fl x)],λ_=>rfl,λ_=>rfl,λx=>by simp only [ir,SV.st,kS,rz]⟩
theorem EV [b_ α] (xs:List α) (i:Nat):(fl xs).drop (i*b_.sz α)=fl (xs.drop i):=by
 induction xs generalizing i with
 | nil=>simp [fl]
 | cons x xs ih =>
  cases i with
  | zero=>simp
  | succ i =>
   rw [kR,List.drop_succ_cons,←ih i,List.drop_append,List.drop_of_length_le (by rw [b_.len];exact Nat.le_mul_of_pos_left _ (Nat.succ_pos i)),pK,b_.len];congr 1;rw [gZ,Nat.one_mul,Nat.add_sub_cancel]
theorem EW [b_ α] (xs:List α) (i:Nat):(fl xs).take (i*b_.sz α)=fl (xs.take i):=by
 induction xs generalizing i with
 | nil=>simp [fl]
 | cons x xs ih =>
  cases i with
  | zero=>simp [fl]
  | succ i =>
   rw [kR,List.take_succ_cons,kR,←ih i,List.take_append,b_.len,kI (by rw [b_.len];exact Nat.le_mul_of_pos_left _ (Nat.succ_pos i))];congr 2;rw [gZ,Nat.one_mul,Nat.add_sub_cancel]
theorem L0 [b_ α] (xs:List α) (i n:Nat):da (fl xs) (i*b_.sz α) (n*b_.sz α)=fl ((xs.drop i).take n):=by
 simp only [da,EV,EW]
theorem Js [b_ α] (xs:List α) (i:Nat) (h:i<xs.length):((fl xs).drop (i*b_.sz α)).take (b_.sz α)=b_.cells (xs.getD i default):=by
 rw [EV];have:xs.drop i=xs.getD i default::xs.drop (i+1):=by rw [List.drop_eq_getElem_cons h];simp [dz,h]
 rw [this,kR,List.take_append,b_.len,Nat.sub_self,List.take_zero,j9,kI (by rw [b_.len];exact cE _)]
theorem EX [b_ α] (xs:List α) (i j:Nat) (h:i<xs.length) (hj:j<b_.sz α) (d:SV):(fl xs).getD (i*b_.sz α+j) d=(b_.cells (xs.getD i default)).getD j d:=by
 rw [←Js xs i h];simp only [dz,mJ,if_pos hj,ng]
theorem F_ (vs:List SV):∀ (us bs:List SV) (o:Nat),fQ (us++bs) (us.length+o) vs=us++fQ bs o vs:=by
 induction vs with
 | nil=>intro us bs o;rfl
 | cons v vs ih =>
  intro us bs o;simp only [fQ];rw [List.set_append_right _ _ (by omega),show us.length+o-us.length=o from by omega,iR,ih]
theorem Ep (vs:List SV):∀ (us bs:List SV) (o:Nat),o+vs.length<=us.length->fQ (us++bs) o vs=fQ us o vs++bs:=by
 induction vs with
 | nil=>intro us bs o _;rfl
 | cons v vs ih =>
  intro us bs o h;simp only [gq] at h;simp only [fQ];rw [List.set_append_left _ _ (by omega),ih _ _ _ (by simp;omega)]
theorem Bq [b_ α] (y:α) (vs:List SV) (j:Nat):∀ (xs:List α) (i:Nat),i<xs.length->j+vs.length<=b_.sz α->fQ (b_.cells (xs.getD i default)) j vs=b_.cells y->fQ (fl xs) (i*b_.sz α+j) vs=fl (xs.set i y)
 | [],i,h,_,_=>by simp at h
 | x::xs,0,h,hj,hy=>by
  rw [lM,dj,kR,Ep _ _ _ _ (by rw [b_.len];exact hj)]
  simp only [List.getD_cons_zero] at hy
  rw [hy,List.set_cons_zero,kR]
 | x::xs,i+1,h,hj,hy=>by
  rw [kR,show (i+1)*b_.sz α+j=(b_.cells x).length+(i*b_.sz α+j) from by rw [b_.len,gZ,Nat.one_mul];omega,F_,
   Bq y vs j xs i (by simpa using h) hj (by simpa using hy),List.set_cons_succ,kR]
def ix [b_ α] (xs:List α) (i:Int):α:=xs.getD i.toNat default
def cut (xs:List α) (l h:Int):List α:=(xs.drop l.toNat).take (h.toNat-l.toNat)
theorem fo [b_ α] (xs:List α) (i:Int) (j:Nat) (hj:j<b_.sz α) (d:SV) (hd:(b_.cells (default:α)).getD j d=d):(fl xs).getD (i.toNat*b_.sz α+j) d=(b_.cells (ix xs i)).getD j d:=by
 by_cases h:i.toNat<xs.length
 ·exact EX xs _ j h hj d
 ·have e:ix xs i=default:=by simp [ix,dz,nj (Nat.le_of_not_lt h)]
  rw [e,hd,dz,nj,Option.getD_none];rw [iA];have:xs.length*b_.sz α<=i.toNat*b_.sz α:=k8 _ (Nat.le_of_not_lt h);omega
theorem IF [b_ α] (xs:List α) (i:Int) (h:0<=i/\i<(xs.length:Int)):((fl xs).drop (i.toNat*b_.sz α)).take (b_.sz α)=b_.cells (ix xs i):=Js xs i.toNat (by omega)
theorem Ki [b_ α] (xs:List α) (i:Int) (j:Nat) (h:0<=i/\i<(xs.length:Int)) (d:SV) (hj:j<b_.sz α):(fl xs).getD (i.toNat*b_.sz α+j) d=(b_.cells (ix xs i)).getD j d:=EX xs i.toNat j (by omega) hj d
theorem L7 [b_ α] (xs:List α) (i:Int) (h:0<=i/\i<(xs.length:Int)) (y:α) (j:Nat) (vs:List SV) (hj:j+vs.length<=b_.sz α) (hy:fQ (b_.cells (ix xs i)) j vs=b_.cells y):fQ (fl xs) (i.toNat*b_.sz α+j) vs=fl (xs.set i.toNat y) :=
 Bq y vs j xs i.toNat (by omega) hj hy
theorem rm [b_ α] (xs:List α) (n:Nat) (h:n=xs.length*b_.sz α):(fl xs).take n=fl xs:=by
 rw [h,kI (by rw [iA];exact cE _)]
theorem IG [b_ α] (xs ys:List α):fl xs++fl ys=fl (xs++ys):=(fF xs ys).symm
theorem CV [b_ α] (xs:List (List α)) (y:List α):fl xs++[SV.sl y.length (fl y)]=fl (xs++[y]):=by rw [fF];rfl
theorem Er (xs:List Int) (y:Int):fl xs++[SV.v (.int .i64 y)]=fl (xs++[y]):=by rw [fF];rfl
theorem CW (xs:List Bool) (y:Bool):fl xs++[SV.v (.bool y)]=fl (xs++[y]):=by rw [fF];rfl
theorem Es (xs:List Int) (y:Int):SV.v (.int .i64 y)::fl xs=fl (y::xs):=rfl
theorem CX [b_ α] (n:Nat) (cs:List SV) (h:cs=b_.cells (default:α)):((List.range n).flatMap λ_=>cs)=fl (List.replicate n (default:α)):=by
 subst h;induction n with
 | zero=>rfl
 | succ n ih=>rw [List.range_succ,uI,ih,List.replicate_succ',fF];simp [fl]
theorem Kj [b_ α] (τ:Nm->Nm) (xs:List α):jC τ (fl xs)=fl xs:=nY (BV xs)
theorem L8:b_.sz Int=1:=rfl
theorem Kk:b_.sz Bool=1:=rfl
theorem Kl [b_ α]:b_.sz (List α)=1:=rfl
theorem Hw (x:Int):b_.cells x=[SV.v (.int .i64 x)]:=rfl
theorem Ga (x:Bool):b_.cells x=[SV.v (.bool x)]:=rfl
theorem Hx [b_ α] (x:List α):b_.cells x=[SV.sl x.length (fl x)]:=rfl
theorem Km:List.range 0=[]:=rfl
theorem Kn:List.range 1=[0]:=rfl
theorem Ko:List.range 2=[0,1]:=rfl
theorem Kp:List.range 3=[0,1,2]:=rfl
theorem Kq:List.range 4=[0,1,2,3]:=rfl
theorem Kr:List.range 5=[0,1,2,3,4]:=rfl
theorem Ks:List.range 6=[0,1,2,3,4,5]:=rfl
def qk:List Nm->Nm->Bool
 | [],_=>false
 | a::r,k=>a.eqk k||qk r k
theorem oF:∀ {l:List Nm} {k:Nm},qk l k=true->mz l k
 | a::r,k,h=>by
  simp only [qk,kZ] at h
  rcases h with h|h
  ·exact ⟨a,by simp,Nm.eqk_iff.1 h⟩
  ·obtain ⟨j,hj,he⟩:=oF h
   exact ⟨j,by simp [hj],he⟩
theorem L9 (l:List Nm) (k:Nm):mz l k=(qk l k=true):=by
 refine propext ⟨λ⟨j,hj,he⟩=>?_,oF⟩;induction l with
 | nil=>cases hj
 | cons a r ih =>
  simp only [qk,kZ];rcases fc.1 hj with rfl|hj
  ·exact .inl (Nm.eqk_iff.2 he)
  ·exact .inr (ih ⟨j,hj,he⟩ hj)
def sr (c:cp) (cs:List SV):Prop:=match c with
 | .row _ cs'=>cs'=cs
 | _=>False
theorem jv [b_ α] {hp hp':Hp} {σ:List (Nm×Nm)} {frz:List Nm} {k:Nm} {n n':Nat} (ys:List α) (h1:n=ys.length) (h23:qk frz k=true/\sr (bW hp k) (fl ys)) (h4:n'=ys.length):fu hp hp' σ frz (.own k 0 n) (.sl n' (fl ys))=True:=by
 obtain ⟨h2,h3⟩:=h23;refine eq_true ?_;simp only [fu];subst h1;refine ⟨h4.symm,oF h2,?_⟩;cases hk:bW hp k with
 | row e cs =>
  rw [hk] at h3;simp only [sr] at h3;subst h3;refine ⟨e,fl ys,ys.length*b_.sz α,rfl,λh0=>by rw [h0,lM],.inl ⟨BV ys,?_⟩⟩;rw [da,rA,rm ys _ rfl]
 | _=>rw [hk] at h3;exact h3.elim
theorem Gb [b_ α] (ys:List α) (b:Int):(fl (cut ys 0 b) <+: fl ys)=True:=by
 refine eq_true ?_;have:cut ys 0 b=ys.take b.toNat:=by simp [cut]
 rw [this,←EW];exact List.take_prefix _ _
def mi (m:List (Int×Int)):List (Value×SV):=m.map λp=>(.int .i64 p.1,.v (.int .i64 p.2))
def fU (m:List (Int×Int)) (k:Int):Int:=((m.find? λp=>k==p.1).map (·.2)).getD 0
def iw (m:List (Int×Int)) (k v:Int):List (Int×Int):=match m with
 | []=>[(k,v)]
 | p::r=>bif k==p.1 then (k,v)::r else p::iw r k v
theorem L_ (m:List (Int×Int)):sY (mi m)=true:=by
 induction m with
 | nil=>rfl
 | cons p r ih=>simp only [mi,gu,sY,SV.st,rz];exact ih
theorem Ma:mi []=[]:=rfl
theorem CY (m:List (Int×Int)) (k:Int):(mi m).all (λp=>gK (.int .i64 k) p.1)=true:=by simp [mi,gK]
theorem Hy (k a:Int):gO (.int .i64 k) (.int .i64 a)=(k==a):=by simp [gO,kg]
theorem Aw (k:Int):∀ (m:List (Int×Int)) (i:Nat),eV (.int .i64 k) (mi m) i=(m.findIdx? λp=>k==p.1).map λj=>(i+j,.v (.int .i64 (m.getD j (0,0)).2))
 | [],i=>rfl
 | p::r,i=>by
  show (bif gO (.int .i64 k) (.int .i64 p.1) then _ else eV _ (mi r) (i+1))=_
  rw [Hy,List.findIdx?_cons]
  cases h:k==p.1 with
  | true=>simp
  | false =>
   simp only [ck,Aw k r (i+1)]
   cases (r.findIdx? λp=>k==p.1) with
   | none=>simp
   | some j=>simp;omega
theorem IH (m:List (Int×Int)) (k:Int):gz (.int .i64 0) (.int .i64 k) (mi m) = .v (.int .i64 (fU m k)):=by
 unfold gz fU;induction m with
 | nil=>rfl
 | cons p r ih =>
  rw [Aw] at ih ⊢;rw [List.findIdx?_cons,List.find?_cons];cases h:k==p.1 with
  | true=>simp
  | false =>
   simp only [fx,lL];cases hr:(r.findIdx? λp=>k==p.1) with
   | none=>rw [hr] at ih;simpa using ih
   | some j=>rw [hr] at ih;simpa using ih
theorem Kt (m:List (Int×Int)) (k v:Int):lu (.int .i64 k) (.v (.int .i64 v)) (mi m)=mi (iw m k v):=by
 unfold lu;rw [Aw];induction m with
 | nil=>rfl
 | cons p r ih =>
  rw [List.findIdx?_cons];unfold iw;cases h:k==p.1 with
  | true=>simp [mi]
  | false =>
   simp only [fx,lL,ck];cases hr:(r.findIdx? λp=>k==p.1) with
   | none=>rw [hr] at ih;simp [mi] at ih ⊢;exact ih
   | some j=>rw [hr] at ih;simp [mi] at ih ⊢;exact ih
end
section
open Go.RowKit
variable {P:Program} {m N:Nat} {Q:g8} {fr:Fr} {hp:Hp} {nx:Nat} {ops:Array Oper}
theorem c_ {l:List Oper} {K:Fr->Hp->Nat->Prop} (h:dY P false ops l fr hp nx [] K):lQ P ops l fr hp nx (qD K):=h
theorem po {l:List Oper} {acc:List fR} {K:Fr->Hp->Nat->Prop} (h:dY P true ops l fr hp nx acc K):yv P ops l fr hp nx acc (qD K):=h
theorem cB {ρ:Type} {b:Bool} {X:Option ρ} {o:ρ} {G:Prop} (h:(bif b then X else none)=some o) (k:b=true->X=some o->G):G:=by
 cases b with
 | false=>cases h
 | true=>exact k rfl h
theorem ur {p b:Bool} (h:(!p||b)=true) (hp:p=true):b=true:=by subst hp;exact h
theorem ql {d:Bool} {l:List Oper} {acc:List fR} {K:Fr->Hp->Nat->Prop} {ρ:Type} {b:Bool} {X Y:Option ρ} {o:ρ} (h:(bif b then X else Y)=some o) (t:Nat) (ht:cM fr t = .v (.bool b)\/cM fr t = .gd true (.v (.bool b)))
  (k1:b=true->X=some o->dY P d ops l ((t,bif (match cM fr t with | .gd _ _=>true|_=>false) then .gd true (.v (.bool true)) else .v (.bool true))::fr) hp nx acc K)
  (k2:b=false->Y=some o->dY P d ops l ((t,bif (match cM fr t with | .gd _ _=>true|_=>false) then .gd true (.v (.bool false)) else .v (.bool false))::fr) hp nx acc K):dY P d ops l fr hp nx acc K :=
 cI t b ht (λhb=>k1 hb (by rw [hb] at h;exact h)) (λhb=>k2 hb (by rw [hb] at h;exact h))
theorem eC {R:g8} {id:Nat} (hx:∀ id,R (.exit id)=Q (.exit id)) (h:Q (.exit id) fr hp nx):R (.exit id) fr hp nx:=by rw [hx];exact h
theorem ff {R:g8} (hx:R .ret=Q .ret) (h:Q .ret fr hp nx):R .ret fr hp nx:=by rw [hx];exact h
def vi (P:Program) (fr:Fr) (hp:Hp) (nx:Nat):List ResultVar->Option (List SV)
 | []=>some []
 | .tmp t::r=>(vi P fr hp nx r).map λxs=>cM fr t::xs
 | .cell a t::r=>match cM fr a with
  | .ptr k off=>match bW hp k with
   | .row _ cs=>bif u_ P t cs off then (match kz P t cs off [k.key] nx with
    | .ok _ e=>(vi P fr hp nx r).map λxs=>e.val::xs
    | .bad=>none) else none
   | _=>none
  | _=>none
theorem xw:∀ (rs:List ResultVar) (xs:List SV) (K:List SV->Prop),vi P fr hp nx rs=some xs->K xs->wT P fr hp nx rs K
 | [],xs,K,h,k=>by cases h;exact k
 | .tmp t::r,xs,K,h,k=>by
  simp only [vi,mw] at h
  obtain ⟨ys,h1,rfl⟩:=h
  exact xw r ys (λxs=>K (cM fr t::xs)) h1 k
 | .cell a t::r,xs,K,h,k=>by
  simp only [vi] at h
  unfold wT oc
  split at h
  ·rename_i kk off ha
   rw [ha]
   simp only
   split at h
   ·rename_i e cs hk
    rw [hk]
    simp only [o9]
    rw [e_] at h
    split at h
    ·rename_i hb
     split at h
     ·rename_i s e ht
      rw [ht]
      simp only [mw] at h
      obtain ⟨ys,h1,rfl⟩:=h
      exact ⟨sX ht hb,xw r ys (λxs=>K (e.val::xs)) h1 k⟩
     ·cases h
    ·cases h
   ·cases h
  ·cases h
theorem CZ {rs:List ResultVar} {Post:SV->Hp->Nat->Prop} (x:SV) (h:(vi P fr hp nx rs).map uZ=some x) (k:wU P m Post x hp):CC P rs m Post .ret fr hp nx:=by
 obtain ⟨ys,h1,rfl⟩:=mw.1 h;exact xw rs ys _ h1 k
theorem qm {rs:List ResultVar} {Post:SV->Hp->Nat->Prop} (x:SV) (h:(vi P fr hp nx rs).map uZ=some x) (k:wU P m Post x hp):CC P rs m Post .normal fr hp nx:=by
 obtain ⟨ys,h1,rfl⟩:=mw.1 h;exact xw rs ys _ h1 k
theorem cn:uc []:=trivial
theorem bX {p:Prop} {l:List Prop} (h:p) (t:uc l):uc (p::l):=⟨h,t⟩
theorem jg {s:Prop} {v v':SV} {u u':Hp} {n:Nat} {r:List Nm} (hs:s) (hv:v=v') (hu:u=u'):gP (.ok s ⟨v,u,n,r⟩) ⟨v',u',n,r⟩:=⟨hs,hv,hu,rfl,rfl⟩
variable {α:Type}
theorem fk [b_ α] (xs:List α) (z nx:Nat) (i:Int) (k:0<=i/\i<(xs.length:Int)):gP (.ok (0<=i/\i<(xs.length:Int)) ⟨.iptr (fl xs) (i.toNat*z),[],nx,[]⟩) ⟨.iptr (fl xs) (i.toNat*z),[],nx,[]⟩:=jg k rfl rfl
theorem d_ (kk:Nm) (n off z nx:Nat) (i:Int) (k:0<=i/\i<(n:Int)):gP (.ok (0<=i/\i<(n:Int)) ⟨.ptr kk (off+i.toNat*z),[],nx,[kk.key]⟩) ⟨.ptr kk (off+i.toNat*z),[],nx,[kk.key]⟩:=jg k rfl rfl
theorem gQ [b_ α] (xs:List α) (i:Int) (z j off:Nat) (k:0<=i/\i<(xs.length:Int)) (hz:b_.sz α=z) (hj:j<z) (ho:off=i.toNat*z+j) (d v:SV) (hv:(b_.cells (ix xs i)).getD j d=v) (nx:Nat) (rds:List Nm):gP (.ok (off<(fl xs).length) ⟨(fl xs).getD off d,[],nx,rds⟩) ⟨v,[],nx,rds⟩:=by
 subst hz;have hlt:i.toNat<xs.length:=by omega
 have hle:(i.toNat+1)*b_.sz α<=xs.length*b_.sz α:=k8 _ hlt;rw [gZ] at hle;refine jg ?_ ?_ rfl
 ·rw [iA];omega
 ·rw [ho,←hv];exact Ki xs i j k d hj
theorem hM [b_ α] (xs:List α) (i:Int) (z off:Nat) (k:0<=i/\i<(xs.length:Int)) (hz:b_.sz α=z) (ho:off=i.toNat*z) (v:List SV) (hv:b_.cells (ix xs i)=v) (nx:Nat) (rds:List Nm):gP (.ok (off+z<=(fl xs).length) ⟨.agg (((fl xs).drop off).take z),[],nx,rds⟩) ⟨.agg v,[],nx,rds⟩:=by
 subst hz;have hlt:i.toNat<xs.length:=by omega
 have hle:(i.toNat+1)*b_.sz α<=xs.length*b_.sz α:=k8 _ hlt;rw [gZ] at hle;refine jg ?_ ?_ rfl
 ·rw [iA];omega
 ·rw [ho,←hv];exact dG SV.agg (IF xs i k)
theorem sw [b_ α] (xs:List α) (i:Int) (z j off:Nat) (k:0<=i/\i<(xs.length:Int)) (hz:b_.sz α=z) (vs:List SV) (y:α) (hj:j+vs.length<=z) (ho:off=i.toNat*z+j) (hy:fQ (b_.cells (ix xs i)) j vs=b_.cells y) (kk:Nat) (nx e t:Nat) (hs:jM P t=some vs.length) (h1:vs.all jr=true) :
  gP (.ok (jM P t=some vs.length/\vs.all jr=true/\off+vs.length<=(fl xs).length) ⟨.any,[(Nm.t kk,.row e (fQ (fl xs) off vs))],nx,[Nm.t kk]⟩) ⟨.any,[(Nm.t kk,.row e (fl (xs.set i.toNat y)))],nx,[Nm.t kk]⟩:=by
 subst hz;have hlt:i.toNat<xs.length:=by omega
 have hle:(i.toNat+1)*b_.sz α<=xs.length*b_.sz α:=k8 _ hlt;rw [gZ] at hle;refine jg ⟨hs,h1,?_⟩ rfl ?_
 ·rw [iA];omega
 ·rw [ho,L7 xs i k y j vs hj hy]
theorem hU [b_ α] (xs ys:List α) (z B:Nat) (hz:b_.sz α=z) (news:List SV) (m:Nat) (hn:news=fl ys) (hm:m=ys.length) (s0:Prop) (h0:s0) (e:TypeId) (hB:P.bytesOf e=B) (hpos:0<B) (hle:(xs++ys).length*B<=140737488355328) (kk nx:Nat) (rds:List Nm) :
  gP (.ok (s0/\e=e/\news.length=m*z/\news.all jr=true/\0+xs.length*z<=(fl xs).length/\0<P.bytesOf e/\(xs.length+m)*P.bytesOf e<=140737488355328) ⟨.own nx 0 (xs.length+m),[(Nm.t nx,.row e (da (fl xs) 0 (xs.length*z)++news)),(Nm.t kk,.dead)],nx+1,Nm.t kk::rds⟩) ⟨.own nx 0 (xs++ys).length,[(Nm.t nx,.row e (fl (xs++ys))),(Nm.t kk,.dead)],nx+1,Nm.t kk::rds⟩:=by
 subst hz;subst hn;subst hm;subst hB;rw [ec] at hle ⊢;refine jg ⟨h0,rfl,iA ys,Hv ys,by rw [iA,dj];exact cE _,hpos,hle⟩ rfl ?_;rw [da,rA,rm xs _ rfl,fF]
theorem iJ [b_ α] (ys:List α) (z:Nat) (hz:b_.sz α=z):da (fl ys) 0 (ys.length*z)=fl ys:=by
 subst hz;rw [da,rA,rm ys _ rfl]
theorem fI [b_ α] (ys:List α) (z:Nat) (hz:b_.sz α=z):0+ys.length*z<=(fl ys).length:=by
 subst hz;rw [iA,dj];exact cE _
theorem zM [b_ α] (ys:List α) (z:Nat) (hz:b_.sz α=z):(fl ys).length=ys.length*z:=by
 subst hz;exact iA ys
theorem Jt [b_ α] (n:Int) (e:TypeId) (B:Nat) (hB:P.bytesOf e=B) (zs:List SV) (hzs:zs=b_.cells (default:α)) (z:Nat) (hz:zs.length=z) (hpos:0<z) (k:0<=n/\n<=4611686018427387904/\(B:Int)*n<=140737488355328) (nx:Nat) :
  gP (.ok (0<=n/\n<=n/\n<=4611686018427387904/\(P.bytesOf e:Int)*n<=140737488355328/\zs.length=z/\0<z) ⟨.own nx 0 n.toNat,[(Nm.t nx,.row e ((List.range n.toNat).flatMap λ_=>zs))],nx+1,[]⟩) ⟨.own nx 0 (List.replicate n.toNat (default:α)).length,[(Nm.t nx,.row e (fl (List.replicate n.toNat (default:α))))],nx+1,[]⟩:=by
 subst hB;refine jg ⟨k.1,iV _,k.2.1,k.2.2,hz,hpos⟩ (by rw [tw]) (by rw [CX n.toNat zs hzs])
theorem ut (d:TypeDesc) (hd:lZ d (.int .i64 0)=true) (k:Int) (mm:List (Int×Int)) (kk:Nm) (nx:Nat):gP (.ok (lZ d (.int .i64 k)=true/\(mi mm).all (λp=>gK (.int .i64 k) p.1)=true) ⟨gz (.int .i64 0) (.int .i64 k) (mi mm),[],nx,[kk.key]⟩) ⟨.v (.int .i64 (fU mm k)),[],nx,[kk.key]⟩ :=
 jg ⟨hd,CY mm k⟩ (IH mm k) rfl
theorem qU (d:TypeDesc) (hd:lZ d (.int .i64 0)=true) (k v:Int) (mm:List (Int×Int)) (kk nx:Nat):gP (.ok (lZ d (.int .i64 k)=true/\(mi mm).all (λp=>gK (.int .i64 k) p.1)=true) ⟨.any,[(Nm.t kk,.map (lu (.int .i64 k) (.v (.int .i64 v)) (mi mm)))],nx,[Nm.t kk]⟩) ⟨.any,[(Nm.t kk,.map (mi (iw mm k v)))],nx,[Nm.t kk]⟩ :=
 jg ⟨hd,CY mm k⟩ rfl (by rw [Kt])
theorem Ax {s:Prop} {v:SV} {nx:Nat} {r:List Nm} (hs:s):gP (.ok s ⟨v,[],nx,r⟩) ⟨v,[],nx,r⟩:=jg hs rfl rfl
theorem rs {d:Bool} {l:List Oper} {acc:List fR} {K:Fr->Hp->Nat->Prop} (n:Nat) (sc:List (Option dw)) (obs:List Prop) (h:((gk P d ops n l sc ⟨fr,hp,nx,acc,[]⟩).map (·.obs))=some obs) (ho:uc obs)
  (k:dY P d ops (l.drop n) (iN (gk P d ops n l sc ⟨fr,hp,nx,acc,[]⟩)).fr (iN (gk P d ops n l sc ⟨fr,hp,nx,acc,[]⟩)).hp (iN (gk P d ops n l sc ⟨fr,hp,nx,acc,[]⟩)).nx (iN (gk P d ops n l sc ⟨fr,hp,nx,acc,[]⟩)).acc K):dY P d ops l fr hp nx acc K:=by
 obtain ⟨s,h1,h2⟩:=mw.1 h;exact Kg n sc obs (by rw [h1];rfl) (by rw [h1];exact h2) ho k
theorem rf {l:List Oper} {acc:List fR} {K:Fr->Hp->Nat->Prop} (fr':Fr) (hp':Hp) (nx':Nat) (h:(l,oS fr fr',l9 hp hp',lj hp hp',nx)=([],fr',hp',true,nx')) (k:K fr' hp' nx'):dY P false ops l fr hp nx acc K:=by
 simp only [iH] at h;exact Nt fr' hp' nx' h.1 h.2.1 h.2.2.1 h.2.2.2.1 h.2.2.2.2 k
theorem rt {l:List Oper} {acc:List fR} {K:Fr->Hp->Nat->Prop} (fr':Fr) (hp':Hp) (nx':Nat) (h5:P.follows .mixedOrders=true) (h:(l,oS fr fr',l9 hp hp',lj hp hp',nx,m4 ops acc (wY ops.toList))=([],fr',hp',true,nx',true)) (k:K fr' hp' nx'):dY P true ops l fr hp nx acc K:=by
 simp only [iH] at h;exact Nu fr' hp' nx' h.1 h.2.1 h.2.2.1 h.2.2.2.1 h.2.2.2.2.1 h5 h.2.2.2.2.2 k
end
section
open Go.RowKit
theorem Gc (e:TypeId) (cs:List SV):sr (.row e cs) cs=True:=eq_true rfl
theorem Ku (a b:Nat):Nat.ble a b=decide (a<=b):=by rw [sN];simp
attribute [push_cast] Ku cond_true cond_false Bool.and_true Bool.true_and Bool.or_true Bool.true_or Bool.or_false Bool.false_or Bool.and_false Bool.false_and Bool.and_self Bool.not_true Bool.not_false decide_true decide_false
attribute [push_cast] List.map_cons List.map_nil List.length_cons List.length_nil List.cons_append List.nil_append List.length_append List.append_nil List.length_set List.length_replicate
attribute [push_cast high] rm jv
attribute [push_cast] true_or or_true false_or or_false List.all_cons List.all_nil wJ iW
attribute [push_cast] Gb iA LZ IG CV Er CW Es Kj L8 Kk Kl Hw Ga Hx qk Gc Ma L_
theorem Mb (n:Nat):(OfNat.ofNat n:Nm) = .t n:=rfl
theorem Mc (a b:Nat):Nm.eqk (.t a) (.t b)=(a==b):=rfl
theorem Md (a F:Nat) (i:Int):Nm.eqk (.t a) (.s F i)=false:=rfl
theorem Me (a F:Nat) (i:Int):Nm.eqk (.s F i) (.t a)=false:=rfl
theorem Mf (F G:Nat) (i j:Int):Nm.eqk (.s F i) (.s G j)=(F==G):=rfl
theorem Nv (c:cp) (k:Nat):c.mem (.t k)=c:=rfl
theorem Nw (c:cp) (F:Nat) (i:Int):c.mem (.s F i)=c.at i:=rfl
theorem Ou (j:Nm) (k:Nat):j.to (.t k)=j:=rfl
theorem Ov (G F:Nat) (i j:Int):Nm.to (.s G j) (.s F i) = .s G i:=rfl
theorem Nx (hp hp':Hp) (σ:List (Nm×Nm)) (frz:List Nm) (k:Nat) (c:cp):zF hp hp' σ frz (.t k) c=n9 hp hp' σ frz (.t k) c:=rfl
theorem Ny (hp hp':Hp) (σ:List (Nm×Nm)) (frz:List Nm) (F:Nat) (z:Int) (c:cp):zF hp hp' σ frz (.s F z) c =∀i:Int,n9 hp hp' σ frz (.s F i) (c.at i):=rfl
theorem Mg (a b:Nat):((Nm.t a)==(Nm.t b))=(a==b):=rfl
theorem Mh (a F:Nat) (i:Int):((Nm.t a)==(Nm.s F i))=false:=rfl
theorem Mi (a F:Nat) (i:Int):((Nm.s F i)==(Nm.t a))=false:=rfl
attribute [push_cast] Mb Mc Md Me Mf Nv Nw Ou Ov Nx Ny Mg Mh Mi Nm.t.injEq Nm.s.injEq n9
attribute [push_cast] L9
section
variable {hp hp':Hp} {σ:List (Nm×Nm)} {frz:List Nm}
theorem Kv (s:SV):fu hp hp' σ frz s .any=True:=by simp only [fu]
theorem Kw (k k':Nm) (o n o' n':Nat):fu hp hp' σ frz (.own k o n) (.own k' o' n')=(dh σ k'=some k/\o=o'/\n=n'/\(bW hp' k').live=true):=by simp only [fu]
theorem II (x:Value) (k':Nm) (o' n':Nat):fu hp hp' σ frz (.v x) (.own k' o' n')=(x = .slice none 0 0/\o'=0/\n'=0/\(bW hp' k').live=true/\dh σ k'=none):=by simp only [fu]
theorem Kx (k k':Nm) (o o':Nat):fu hp hp' σ frz (.ptr k o) (.ptr k' o')=(dh σ k'=some k/\o=o'/\(bW hp' k').live=true):=by simp only [fu]
theorem Mj (k k':Nm):fu hp hp' σ frz (.mp k) (.mp k')=(dh σ k'=some k/\(bW hp' k').live=true):=by simp only [fu]
theorem Mk (k k':Nm):fu hp hp' σ frz (.it k) (.it k')=(dh σ k'=some k/\(bW hp' k').live=true):=by simp only [fu]
theorem Ky (xs ys:List SV):fu hp hp' σ frz (.agg xs) (.agg ys)=((ir ys=true/\xs=ys)\/lT hp hp' σ frz xs ys):=by simp only [fu]
theorem Kz (xs ys:List SV):fu hp hp' σ frz (.tup xs) (.tup ys)=lT hp hp' σ frz xs ys:=by simp only [fu]
theorem KA (f f':FuncId) (xs ys:List SV):fu hp hp' σ frz (.clo f xs) (.clo f' ys)=(f=f'/\lT hp hp' σ frz xs ys):=by simp only [fu]
theorem KB (t t':String) (x y:SV):fu hp hp' σ frz (.mth t x) (.mth t' y)=(t=t'/\fu hp hp' σ frz x y):=by simp only [fu]
theorem KC (t t':TypeId) (x y:SV):fu hp hp' σ frz (.ifc t x) (.ifc t' y)=(t=t'/\fu hp hp' σ frz x y):=by simp only [fu]
theorem KD (x:Value) (n':Nat) (cs':List SV):fu hp hp' σ frz (.v x) (.sl n' cs')=(x = .slice none 0 0/\n'=0/\cs'=[]):=by simp only [fu]
theorem IJ (n n':Nat) (cs cs':List SV):fu hp hp' σ frz (.sl n cs) (.sl n' cs')=(n=n'/\cs=cs'/\mP cs=true):=by simp only [fu]
def Hz (hp hp':Hp) (σ:List (Nm×Nm)) (frz:List Nm) (c:cp) (cs':List SV):Prop:=match c with
 | .row _ cs=>lT hp hp' σ frz cs cs'
 | _=>False
theorem Gd (e:TypeId) (cs cs':List SV):Hz hp hp' σ frz (.row e cs) cs'=lT hp hp' σ frz cs cs':=propext Iff.rfl
theorem KE {k:Nm} {o o':Nat} {cs':List SV} (h:o=o'/\qk frz k=true/\Hz hp hp' σ frz (bW hp k) cs'):fu hp hp' σ frz (.ptr k o) (.iptr cs' o')=True:=by
 obtain ⟨rfl,h2,h3⟩:=h;refine eq_true ?_;simp only [fu];refine ⟨trivial,oF h2,?_⟩;cases hk:bW hp k with
 | row e cs =>
  rw [hk] at h3;obtain ⟨l1,l2⟩:=sJ h3;exact ⟨e,cs,rfl,Nat.le_of_eq l1.symm,λP i x y hx hy=>mC (l2 i x y hx hy)⟩
 | _=>rw [hk] at h3;exact h3.elim
theorem IK (o o':Nat) (cs cs':List SV):fu hp hp' σ frz (.iptr cs o) (.iptr cs' o')=(cs=cs'/\o=o'/\mP cs=true):=by simp only [fu]
theorem Nz (s:SV) (y:Value):fu hp hp' σ frz s (.v y)=(s = .v y):=by simp only [fu]
end
attribute [push_cast] Kv Kw II Kx Mj Mk Ky Kz KA KC KB KD IJ KE IK Nz Gd
attribute [push_cast] lT CL pk Bl Ho IB GL Il rE Io ir SV.st sY mP SV.cl kS BV Hv cp.live eq_self Option.some.injEq and_self and_true true_and SV.nim iW t8 wJ iz jC io
end
section
open Go.RowKit
variable {P:Program} {m N:Nat} {Q:g8} {fr:Fr} {hp:Hp} {nx:Nat} {ops:Array Oper}
theorem w8 {dt:Bool} {o:Oper} {K:SV->Hp->Nat->List Nm->Prop} (hd:pB ops fr o=some true) (hg:o.guard.isNone || !lP P o.op=true) (hc:i_ true fr o.op=none) (hso:uY o.op=true) (hs:wO dt P o fr hp nx K):iv dt P ops o fr hp nx K:=by
 have core:kC dt P true o fr hp nx K:=by
  unfold kC;rw [hc];exact .inl ⟨rfl,hso,hs⟩
 unfold iv;unfold pB at hd;cases hq:o.guard with
 | none=>exact core
 | some jw =>
  rw [hq] at hd hg;simp only at hd ⊢;rw [hd];have:lP P o.op=false:=by simpa using hg
  simp only [this,ck];exact ⟨λ_=>core,(λhe=>by cases he)⟩
def Ju (P:Program) (fr:Fr):List Oper->Option (Nat×Option Tmp)
 | o::_=>match o.guard,o.op with
  | none,.binOp .eql t x (.const (.slice none 0 0)) _=>match P.underlying t,dA true fr x with
   | some (.slice _),.sl n _=>some (n,o.dst)
   | _,_=>none
  | _,_=>none
 | []=>none
theorem HA {P:Program} {t e:TypeId} (hu:P.underlying t=some (.slice e)) (a:Option Addr) (n cap:Nat) (w:World) :
  (binOp .eql t (.slice a n cap) (.slice none 0 0)).run P w = .ok (.bool a.isNone) w:=by
 have h0:∀ D,(Op.equalIn (D+1) t (.slice a n cap) (.slice none 0 0)).run P w = .ok a.isNone w:=λD=>by
  cases a<;>simp [Op.equalIn,dE hu]
 have h:(Op.equal t (.slice a n cap) (.slice none 0 0)).run P w = .ok a.isNone w:=h0 9999;simp only [binOp,cY,h];rfl
theorem Ay {l:List Oper} {acc:List fR} {K:Fr->Hp->Nat->Prop} (n:Nat) (dst:Option Tmp) (h:Ju P fr l=some (n,dst))
  (k1:n=0->dY P false ops (l.drop 1) (gg dst (.v (.bool true)) fr) hp nx acc K) (k2:dY P false ops (l.drop 1) (gg dst (.v (.bool false)) fr) hp nx acc K):dY P false ops l fr hp nx acc K:=by
 cases l with
 | nil=>cases h
 | cons o rest =>
  simp only [Ju] at h;split at h
  ·rename_i t x ty hg ho;split at h
   ·rename_i et n' cs hu hx;simp only [fM,iH] at h;obtain ⟨rfl,rfl⟩:=h;show iv false P ops o fr hp nx _;refine w8 (by unfold pB;rw [hg]) (by rw [hg];rfl) (by rw [ho];rfl) (by rw [ho];rfl) ?_;intro X ids w fr' hp' a hP h1 h2 h3 h4 h5 h6 KK Q hK;subst hP;have hx':dA true fr' x = .sl n' cs:=by
     rw [←hx];exact rH λt' ht=>h4 t' (p6 (o:=o.op) (by rw [ho];simp [Op.operands]) ht)
    have hev:=rG h3 (g:=true) rfl x;rw [hx'] at hev;obtain ⟨ad,cap,hv,hnil⟩:∃ (ad:Option Addr) (cap:Nat),a.eval x = .slice ad n' cap/\(ad=none->n'=0):=by
     rcases sP hev with ⟨ad,cap,hv,_,_,hd⟩;generalize hgen:a.eval x=y at hev hv;cases hev with
     | sl0 hc=>exact ⟨_,_,rfl,λ_=>rfl⟩
     | sl b o cap c hb hn hcap hc hx=>exact ⟨_,_,rfl,λhe=>by cases he⟩
    have hrun:(execOp a.eval o).run X.P w = .ok (.value (.bool ad.isNone)) w:=by
     unfold execOp;rw [ho];simp only [cY];rw [hv,show a.eval (.const (.slice none 0 0)) = .slice none 0 0 from rfl,ld (by simp) (by simp)];simp only [du,HA hu,eH]
    refine m3 (.inl hrun) ?_;cases ad with
    | none=>exact hK (.v (.bool true)) [] nx [] _ w ids (k1 (hnil rfl)) ⟨cE _,λp hp=>by cases hp⟩ h1 (ky.refl _ _ _ _) .v
    | some q=>exact hK (.v (.bool false)) [] nx [] _ w ids k2 ⟨cE _,λp hp=>by cases hp⟩ h1 (ky.refl _ _ _ _) .v
   ·cases h
  ·cases h
def s8 (P:Program) (ops:Array Oper) (fr:Fr):List Oper->Option Oper
 | o::_=>match pB ops fr o,i_ true fr o.op with
  | some true,none=>bif o.guard.isNone || !lP P o.op then some o else none
  | _,_=>none
 | []=>none
theorem xx {d:Bool} {l:List Oper} {acc:List fR} {K:Fr->Hp->Nat->Prop} (o:Oper) (e:dw) (h:s8 P ops fr l=some o) (hle:nx<=e.nx) (hso:uY o.op=true) (hs:n8 P o fr hp nx (tH e))
  (k:dY P d ops (l.drop 1) (gg o.dst e.val fr) (e.upd++hp) (bif d then e.nx+1 else e.nx) (acc++[⟨e.upd.map (·.1.key),e.rds,nx,e.nx⟩]) K):dY P d ops l fr hp nx acc K:=by
 cases l with
 | nil=>cases h
 | cons o' rest =>
  simp only [s8] at h;split at h
  ·rename_i h1 h2;rw [e_] at h;split at h
   ·rename_i h3;cases h;cases d with
    | false=>exact w8 h1 (by simpa using h3) h2 hso (K:=λval upd nx' _=>lQ P ops rest (gg o.dst val fr) (upd++hp) nx' (qD K)) (hs.mono rfl λv u n r he=>by obtain ⟨rfl,rfl,rfl,rfl⟩:=he;exact k)
    | true=>exact w8 (dt:=true) (hp:=hp) (nx:=nx) (P:=P) h1 (by simpa using h3) h2 hso (K:=λval upd nx' rds=>yv P ops rest (gg o.dst val fr) (upd++hp) (nx'+1) (acc++[fR.mk (upd.map (·.1.key)) rds nx nx']) (qD K)) ⟨e,hle,k,hs⟩
   ·cases h
  ·cases h
theorem EY {o:Oper} {e:dw} (hk:uX hp nx e.upd e.nx e.rds)
  (h:∀ (X:Cx) (ids:dC) (w:World) (fr':Fr) (hp':Hp) (a:Act),X.P=P->dR X hp' nx ids w->(∀ d,cV X hp' ids w (cM fr' d) (a.tmps.getD d undef))->(∀ x,x∈o.op.operands.toList->dA true fr' x=dA true fr x)->(∀ k:Nm,k.key∈e.rds->bW hp' k=bW hp k) ->
   zj X hp' ids w ((execOp a.eval o).run X.P w) e):n8 P o fr hp nx (tH e):=by
 intro X ids w fr' hp' a hP h1 h2 h3 h4 h5 h6 KK Q hK;obtain ⟨h7,h8⟩:=h6 e.val e.upd e.nx e.rds ⟨rfl,rfl,rfl,rfl⟩;obtain ⟨x,w',ids',g1,g2,g3,g4⟩:=h X ids w fr' hp' a hP ⟨h1,h5,h2⟩ h3 (λx hx=>rH λt ht=>h4 t (p6 hx ht)) h8;subst hP;exact m3 g1 (hK _ _ _ _ _ _ _ ⟨rfl,rfl,rfl,rfl⟩ hk g2 g3 g4)
theorem IL {o:Oper} {t e:TypeId} {x:Operand} {lo hi:Option Operand} {k:Nm} {z n:Nat} {cs:List SV} {l h:Int} (ho:o.op = .slice t x lo hi none) (hst:i8 P t=some (e,z)) (hx:dA true fr x = .own k 0 n) (hrow:bW hp k = .row e cs) (hz:P.cellsOf e=z)
  (b1:li (lo.map (dA true fr)) 0=some l) (b2:li (hi.map (dA true fr)) n=some h) (h0:0<=l) (h1:l<=h) (h2:h<=n) (hn:n*z<=cs.length) :
  n8 P o fr hp nx (tH ⟨.own nx 0 (h.toNat-l.toNat),[(Nm.t nx,.row e (da cs (l.toNat*z) ((h.toNat-l.toNat)*z))),d8 k .dead hp],nx+1,[k.key]⟩):=by
 have hlk:(bW hp k).live=true:=by rw [hrow];rfl
 refine EY ⟨om _,λp hp1=>?_⟩ ?_
 ·rcases fc.1 hp1 with rfl|hp1
  ·exact .inl ⟨cE _,tv _⟩
  ·rcases fc.1 hp1 with rfl|hp1
   ·exact .inr ⟨by simp [g7],k,by simp [g7],iX hlk⟩
   ·cases hp1
 intro X ids w fr' hp' a hP hH hf hev hrd;subst hP;rw [←lz (c:=.dead) hrd (List.mem_cons_self ..)];have hx':dA true fr' x = .own k 0 n:=by rw [hev x (by rw [ho];simp [Op.operands]),hx]
 have hrow':bW hp' k = .row e cs:=by rw [hrd k (List.mem_cons_self ..),hrow]
 have hlk':(bW hp' k).live=true:=by rw [hrow'];rfl
 have hd:=rG hf (g:=true) rfl x;rw [hx'] at hd;have hl':lo.map (dA true fr')=lo.map (dA true fr):=by
  cases lo with
  | none=>rfl
  | some q=>simp only [fj];rw [hev q (by rw [ho];simp [Op.operands])]
 have hh':hi.map (dA true fr')=hi.map (dA true fr):=by
  cases hi with
  | none=>rfl
  | some q=>simp only [fj];rw [hev q (by rw [ho];simp [Op.operands])]
 rw [←hl'] at b1;rw [←hh'] at b2;have hb1:oB (lo.map a.eval) 0 l:=j_ b1 (λhn=>by cases lo with|none=>rfl|some q=>cases hn) (λs hs=>by
  cases lo with
  | none=>cases hs
  | some q=>cases hs;exact ⟨_,rfl,rG hf (g:=true) rfl q⟩)
 have hb2:oB (hi.map a.eval) n h:=j_ b2 (λhn=>by cases hi with|none=>rfl|some q=>cases hn) (λs hs=>by
  cases hi with
  | none=>cases hs
  | some q=>cases hs;exact ⟨_,rfl,rG hf (g:=true) rfl q⟩)
 obtain ⟨i,hu,hi',rfl⟩:=gN hst;obtain ⟨ad,cap,hv,c1,c2,c4,c3⟩:=md hd hlk';have hkn:k≠nx:=λe'=>by subst e';rw [hH.fresh] at hlk';cases hlk'
 have hle:l.toNat*i.size+(h.toNat-l.toNat)*i.size<=cs.length:=by
  rw [←gZ];exact mb (k8 _ (by omega)) hn
 have hal:(da cs (l.toNat*i.size) ((h.toNat-l.toNat)*i.size)).length=(h.toNat-l.toNat)*i.size:=by
  simp only [da,gJ,jE];omega
 obtain ⟨g1,g2⟩:=xP hH hrow' (cs':=da cs (l.toNat*i.size) ((h.toNat-l.toNat)*i.size)) (off:=l.toNat*i.size) (by rw [hal];exact hle) (λj y hj=>(jN hj).2);refine ⟨.slice (if cap=l.toNat then ad else ad.map (·.add (l.toNat*i.size))) (h.toNat-l.toNat) (cap-l.toNat),w,_,.inl ?_,g1,g2,?_⟩
 ·unfold execOp;rw [ho];simp only [hv,cY];have:=mR hu hi' ad n cap hb1 hb2 h0 h1 h2 c1 w;simp only [Option.map_none] at this ⊢;rw [this];rfl
 ·refine .own _ _ (by
   show (bW ((Nm.t nx,cp.row e _)::d8 k .dead hp'::hp') nx).live=true;rw [dv,cF];rfl) ⟨by omega,by omega,λe2 cs2 hc2=>?_,?_⟩
  ·replace hc2:bW ((Nm.t nx,cp.row e _)::d8 k .dead hp'::hp') nx=_:=hc2;rw [dv,cF] at hc2;cases hc2;rw [hal,hz,dj];exact k8 _ (by omega)
  by_cases hc:cap=l.toNat
  ·exact .inl ⟨by omega,by omega⟩
  ·rw [if_neg hc];rcases c3 with ⟨_,rfl⟩|⟨b,o',e2,cs2,arr,hC,hid,rfl,hw,hsz⟩
   ·exact .inl ⟨by omega,by omega⟩
   ·rw [hrow'] at hC;cases hC;refine .inr ⟨b,o'+l.toNat*i.size,e,_,arr,by
     show bW ((Nm.t nx,cp.row e _)::d8 k .dead hp'::hp') nx=_;rw [dv,cF],by rw [cF,hid];rfl,by simp only [fj,qa,eE],hw,?_⟩
    rw [hz] at hsz ⊢;have:l.toNat*i.size+(cap-l.toNat)*i.size=cap*i.size:=by rw [←gZ];congr 1;omega
    omega
variable {α:Type}
theorem cut_len (ys:List α) (l h:Int) (k:0<=l/\l<=h/\h<=(ys.length:Int)):(cut ys l h).length=h.toNat-l.toNat:=by
 simp only [cut,gJ,jE];omega
theorem w9 [b_ α] (ys:List α) (l h:Int):da (fl ys) (l.toNat*b_.sz α) ((cut ys l h).length*b_.sz α)=fl (cut ys l h):=by
 rw [L0];congr 1;simp only [cut,gJ,jE];rw [List.take_eq_take_iff];simp
def Jv (P:Program) (ops:Array Oper) (fr:Fr) (hp:Hp) (l:List Oper):Option (Option Tmp×Nm×Nat×TypeId×List SV×Nat×Int×Int):=match s8 P ops fr l with
 | some o=>match o.op with
  | .slice t x lo hi none=>match i8 P t,dA true fr x with
   | some (e,z),.own k 0 n=>match bW hp k,li (lo.map (dA true fr)) 0,li (hi.map (dA true fr)) n with
    | .row e' cs,some a,some b=>bif e'==e&&P.cellsOf e==z then some (o.dst,k,n,e,cs,z,a,b) else none
    | _,_,_=>none
   | _,_=>none
  | _=>none
 | none=>none
theorem vj [b_ α] {d:Bool} {l:List Oper} {acc:List fR} {K:Fr->Hp->Nat->Prop} (ys:List α) (dst:Option Tmp) (k:Nm) (z:Nat) (e:TypeId) (a b:Int) (hc:Jv P ops fr hp l=some (dst,k,ys.length,e,fl ys,z,a,b)) (hz:b_.sz α=z) (hb:0<=a/\a<=b/\b<=(ys.length:Int))
  (h:dY P d ops (l.drop 1) (gg dst (.own nx 0 (cut ys a b).length) fr) ([(Nm.t nx,.row e (fl (cut ys a b))),d8 k .dead hp]++hp) (bif d then nx+2 else nx+1) (acc++[⟨[Nm.t nx,(d8 k .dead hp).1.key],[k.key],nx,nx+1⟩]) K):dY P d ops l fr hp nx acc K:=by
 unfold Jv at hc;split at hc
 ·rename_i o ho;split at hc
  ·rename_i t x lo hi hop;split at hc
   ·rename_i e1 z1 k1 n1 hst hx;split at hc
    ·rename_i e2 cs a1 b1 hrow h1 h2;rw [e_] at hc;split at hc
     ·rename_i hq;simp only [cR,jH] at hq;simp only [fM,iH] at hc;obtain ⟨rfl,rfl,rfl,rfl,rfl,rfl,rfl,rfl⟩:=hc;obtain ⟨rfl,hcz⟩:=hq;subst hz;have:=IL (P:=P) (fr:=fr) (hp:=hp) (nx:=nx) hop hst hx hrow hcz h1 h2 hb.1 hb.2.1 hb.2.2 (by rw [iA];exact cE _);rw [←cut_len ys _ _ hb,w9] at this;exact xx o _ ho (om _) (by rw [hop];rfl) this h
     ·cases hc
    ·cases hc
   ·cases hc
  ·cases hc
 ·cases hc
theorem qV [b_ α] (ys:List α) (a b:Int) (z nx:Nat) (k:Nm) (e:TypeId) (hz:P.cellsOf e=z) (hb:0<=a/\a<=b/\b<=(ys.length:Int)):gP (.ok (P.cellsOf e=z/\0<=a/\a<=b/\b<=(ys.length:Int)) ⟨.own k (0+a.toNat*z) (b.toNat-a.toNat),[],nx,[k.key]⟩) ⟨.own k (a.toNat*z) (cut ys a b).length,[],nx,[k.key]⟩ :=
 jg ⟨hz,hb⟩ (by rw [cut_len ys a b hb,dj]) rfl
theorem EZ [b_ α] (ys:List α) (a b:Int) (z:Nat) (hz:b_.sz α=z):da (fl ys) (a.toNat*z) ((cut ys a b).length*z)=fl (cut ys a b):=by
 subst hz;exact w9 ys a b
theorem zN [b_ α] (ys:List α) (a b:Int) (z:Nat) (hz:b_.sz α=z) (hb:0<=a/\a<=b/\b<=(ys.length:Int)):a.toNat*z+(cut ys a b).length*z<=(fl ys).length:=by
 subst hz;rw [iA,cut_len ys a b hb,←gZ];exact k8 _ (by omega)
theorem kT [b_ α] {hp hp':Hp} {σ:List (Nm×Nm)} {frz:List Nm} {k:Nm} {n n' off:Nat} (ys:List α) (a b:Int) (h0:off=a.toNat*b_.sz α) (h1:n=(cut ys a b).length) (h23:qk frz k=true/\sr (bW hp k) (fl ys)) (h4:n'=(cut ys a b).length):fu hp hp' σ frz (.own k off n) (.sl n' (fl (cut ys a b)))=True:=by
 obtain ⟨h2,h3⟩:=h23;refine eq_true ?_;simp only [fu];subst h0;subst h1;refine ⟨h4.symm,oF h2,?_⟩;cases hk:bW hp k with
 | row e cs =>
  rw [hk] at h3;simp only [sr] at h3;subst h3;exact ⟨e,fl ys,(cut ys a b).length*b_.sz α,rfl,λh0=>by rw [h0,lM],.inl ⟨BV ys,(w9 ys a b).symm⟩⟩
 | _=>rw [hk] at h3;exact h3.elim
attribute [push_cast high] kT
def Jw (P:Program) (ops:Array Oper) (fr:Fr) (l:List Oper):Option (Option Tmp×TypeId):=match s8 P ops fr l with
 | some o=>match o.op with
  | .buildSlice t 0 ps=>match i8 P t with
   | some (e,_)=>bif ps.size==0 then some (o.dst,e) else none
   | none=>none
  | _=>none
 | none=>none
theorem KF {o:Oper} {t e:TypeId} {z:Nat} (ho:o.op = .buildSlice t 0 #[]) (hst:i8 P t=some (e,z)):n8 P o fr hp nx (tH ⟨.own nx 0 0,[(Nm.t nx,.row e [])],nx+1,[]⟩):=by
 refine EY ⟨om _,λp hp1=>?_⟩ ?_
 ·rcases fc.1 hp1 with rfl|hp1
  ·exact .inl ⟨cE _,tv _⟩
  ·cases hp1
 intro X ids w fr' hp' a hP hH hf hev hrd;subst hP;obtain ⟨i,hu,hi',rfl⟩:=gN hst;obtain ⟨g1,g2⟩:=heap_alloc hH (e:=e) (cs:=[]) (arr:=#[]) (cE _) (λj x hj=>by simp at hj);refine ⟨.slice (some ⟨w.heap.size,0,none⟩) 0 0,_,_,.inl ?_,g1,g2,?_⟩
 ·unfold execOp;rw [ho];simp [Instr.buildSlice,dE hu,sizeOf,typeInfo,hi',Instr.fill,newRow,show Array.range 0 = #[] from by decide]
 ·refine .own _ _ (by
   show (bW ((nx,cp.row e _)::hp') nx).live=true;rw [dv,cF];rfl) ⟨cE _,by unfold maxLen;omega,λe2 cs2 hc2=>by
    replace hc2:bW ((nx,cp.row e _)::hp') nx=_:=hc2;rw [dv,cF] at hc2;cases hc2;exact hX _,.inl ⟨rfl,rfl⟩⟩
theorem Az {d:Bool} {l:List Oper} {acc:List fR} {K:Fr->Hp->Nat->Prop} (α:Type) [b_ α] (dst:Option Tmp) (e:TypeId) (hc:Jw P ops fr l=some (dst,e))
  (h:dY P d ops (l.drop 1) (gg dst (.own nx 0 ([]:List α).length) fr) ([(Nm.t nx,.row e (fl ([]:List α)))]++hp) (bif d then nx+2 else nx+1) (acc++[⟨[nx],[],nx,nx+1⟩]) K):dY P d ops l fr hp nx acc K:=by
 unfold Jw at hc;split at hc
 ·rename_i o ho;split at hc
  ·rename_i t ps hop;split at hc
   ·rename_i e1 z1 hst;rw [e_] at hc;split at hc
    ·rename_i hq;have hps:ps = #[]:=by simpa using hq
     subst hps;simp only [fM,iH] at hc;obtain ⟨rfl,rfl⟩:=hc;exact xx o _ ho (om _) (by rw [hop];rfl) (KF hop hst) h
    ·cases hc
   ·cases hc
  ·cases hc
 ·cases hc
theorem IM {xs ys:List SV} (h:iW xs=true) (g:iW ys=true):iW (xs++ys)=true:=by
 induction xs with
 | nil=>exact g
 | cons x xs ih=>simp only [iW,cR,iy] at h ⊢;exact ⟨h.1,ih h.2⟩
theorem m5 [b_ α] (h:∀ x:α,iW (b_.cells x)=true) (xs:List α):iW (fl xs)=true:=by
 induction xs with
 | nil=>rfl
 | cons x xs ih=>rw [kR];exact IM (h x) ih
@[push_cast] theorem OH (xs:List Int):iW (fl xs)=true:=m5 (λ_=>rfl) xs
@[push_cast] theorem Ow (xs:List Bool):iW (fl xs)=true:=m5 (λ_=>rfl) xs
theorem Bs {hp hpL:Hp} (h:(l9 hp hpL,lj hp hpL)=(hpL,true)):bW hp=bW hpL:=by
 simp only [iH] at h;exact funext λk=>((xu (fr:=[]) (fr':=[]) rfl h.1 h.2).2 k).symm
theorem kM {d:Bool} {f:FuncId} {args args':List SV} {dst:Option Tmp} {ops:Array Oper} {l:List Oper} {acc:List fR} {K:Fr->Hp->Nat->Prop} {hin H:Hp} {m nn:Nat} {X:SV}
  (m_:cS P f args' hin m (λx h n=>x=X/\h=H/\n=nn)) (h:qT ops fr l=some (f,args,dst)) (hpL:Hp) (nxL:Nat) (hh:(l9 hp hpL,lj hp hpL,nx)=(hpL,true,nxL)) (σ:List (Nm×Nm)) (bor:List Nm) (resL:SV) (hpB:Hp)
  (h1:lT hpL hin σ bor args args') (h2:pk hpL hin σ bor hin) (h3:(o7 0 σ bor,p8 0 m σ hin,ET m hin σ,o0 H)=(true,true,true,true))
  (h6:bor=[]\/(X.nim=true/\t8 H=true)) (e1:iz (f7 (dh σ) nxL) X=resL) (e2:ma (dh σ) nxL m H hpL=hpB)
  (k:dY P d ops (l.drop 1) (gg dst resL fr) (hpB++hp) (bif d then nxL+nn+1 else nxL+nn) (acc++[⟨hpB.map (·.1.key),bor.map Nm.key++mU (dh σ) m,nxL,nxL+nn⟩]) K) (hfam:qj hpL hin σ:=by simp only [qj,and_self]):dY P d ops l fr hp nx acc K:=by
 simp only [iH] at hh h3;obtain ⟨g1,g2,rfl⟩:=hh;obtain ⟨h3,h4,h5,h7⟩:=h3;have eh:=Bs (show (l9 hp hpL,lj hp hpL)=(hpL,true) by rw [g1,g2]);obtain ⟨l1,l2⟩:=sJ h1;have hok:=Bn h5 hfam;have inj:∀ k1 k2 j,dh σ k1=some j->dh σ k2=some j->k1=k2:=by
  simp only [o7,cR] at h3;exact va h3.1.1 h3.1.2
 have fresh:∀ k:Nm,m<=k.base->dh σ k=none/\bW hin k = .unborn:=λk hk=>⟨by
  cases hn:dh σ k with
  | none=>rfl
  | some j=>have:=(hok k j hn).1;omega,rI h4 k hk⟩
 have eb:ma (dh σ) nx m H hp=hpB:=by
  rw [←e2];exact sj (λk hk=>(fresh k hk).1) (js σ) (λk _=>by rw [eh]) H
 subst e1;subst eb;refine cD f args dst h ?_;cases d with
 | false =>
  refine ⟨args',hin,m,_,dh σ,bor,m_,by rw [eh];exact uo h2 h3,js σ,fresh,inj,λk j hk=>by rw [eh];exact (hok k j hk).2,l1,λi x y hx hy=>by rw [eh];exact mC (l2 i x y hx hy),⟨_,_,_,rfl,rfl,rfl⟩,(λh=>by cases h),?_⟩;rintro _ _ _ ⟨rfl,rfl,rfl⟩;exact ⟨h7,h6,_,sW.refl _ _ _,k⟩
 | true =>
  refine ⟨args',hin,m,_,dh σ,bor,m_,by rw [eh];exact uo h2 h3,js σ,fresh,inj,λk j hk=>by rw [eh];exact (hok k j hk).2,l1,λi x y hx hy=>by rw [eh];exact mC (l2 i x y hx hy),⟨_,_,_,rfl,rfl,rfl⟩,?_,?_⟩
  ·rintro _ _ _ _ _ _ _ ⟨rfl,rfl,rfl⟩ ⟨rfl,rfl,rfl⟩;exact ⟨rfl,rfl,rfl⟩
  ·rintro _ _ _ ⟨rfl,rfl,rfl⟩;exact ⟨h7,h6,_,sW.refl _ _ _,k⟩
def x7 (ks:List Nm) (p:Nm×cp):Bool:=!ks.any λk=>k.eqk p.1
theorem Et {hp:Hp} (ks rds:List Nm) (hr:ks.all (λk=>rds.contains k.key)=true):∀ b:Hp,(∀ kk∈ks,∀ k:Nm,kk.key=k.key->bW (b++hp) k=bW hp k)->sW hp b (b.filter (x7 ks)) rds:=by
 intro b hb;have yes:∀ (b:Hp) (k:Nm),(∃ kk∈ks,kk.key=k.key)->bW (b.filter (x7 ks)++hp) k=bW hp k:=by
  intro b k hk;induction b with
  | nil=>rfl
  | cons p r ih =>
   by_cases hp1:x7 ks p=true
   ·rw [kG hp1,iy,rE];have:p.1.eqk k=false:=by
     refine Nm.eqk_no λe=>?_
     obtain ⟨kk,h1,h2⟩:=hk;unfold x7 at hp1;rw [ku] at hp1;have h3:(ks.any λk=>k.eqk p.1)=true:=nk.2 ⟨kk,h1,Nm.eqk_iff.2 (h2.trans e.symm)⟩;rw [h3] at hp1;cases hp1
    rw [this,ck];exact ih
   ·rw [na hp1];exact ih
 have no:∀ (b:Hp) (k:Nm),¬ (∃ kk∈ks,kk.key=k.key)->bW (b.filter (x7 ks)++hp) k=bW (b++hp) k:=by
  intro b k hk;induction b with
  | nil=>rfl
  | cons p r ih =>
   by_cases hp1:x7 ks p=true
   ·rw [kG hp1,iy,iy,rE,rE,ih]
   ·rw [na hp1,iy,rE,ih];have:p.1.eqk k=false:=by
     refine Nm.eqk_no λe=>hk ?_
     unfold x7 at hp1;rw [ku,Bool.not_eq_false] at hp1;obtain ⟨kk,h1,h2⟩:=nk.1 hp1;exact ⟨kk,h1,(Nm.eqk_iff.1 h2).trans e⟩
    rw [this,ck]
 refine ⟨λp hp1=>⟨p,(List.mem_filter.1 hp1).1,rfl⟩,λp hp1=>?_,λk=>?_⟩
 ·by_cases h:x7 ks p=true
  ·exact .inl ⟨p,List.mem_filter.2 ⟨hp1,h⟩,rfl⟩
  ·right;unfold x7 at h;rw [ku,Bool.not_eq_false] at h;obtain ⟨kk,h1,h2⟩:=nk.1 h;have:=dP.1 hr kk h1;rw [←Nm.eqk_iff.1 h2];simpa using this
 ·by_cases hk:∃ kk∈ks,kk.key=k.key
  ·rw [yes b k hk];obtain ⟨kk,h1,h2⟩:=hk;exact (hb kk h1 k h2).symm
  ·exact no b k hk
def yD (hp b:Hp):List Nm->Prop
 | []=>True
 | kk::r=>(∀ k:Nm,kk.key=k.key->bW (b++hp) k=bW hp k)/\yD hp b r
theorem cK {hp b:Hp} {a:Nat} (h:bW (b++hp) (.t a)=bW hp (.t a)):∀ k:Nm,(Nm.t a).key=k.key->bW (b++hp) k=bW hp k:=λk hk=>by
 have:=Nm.key_eq_t.1 hk.symm
 subst this;exact h
theorem gX {hp b:Hp} {F:Nat} (h:∀ i,bW (b++hp) (.s F i)=bW hp (.s F i)):∀ k:Nm,(Nm.s F 0).key=k.key->bW (b++hp) k=bW hp k:=λk hk=>by
 cases k with
 | t a=>simp [Nm.key] at hk
 | s G i =>
  simp only [Nm.key_s,Nm.s.injEq,k_] at hk
  subst hk;exact h i
theorem Bt {hp b:Hp}:∀ {ks:List Nm},yD hp b ks->∀ kk∈ks,∀ k:Nm,kk.key=k.key->bW (b++hp) k=bW hp k
 | [],_,kk,h=>by cases h
 | q::r,hs,kk,h=>by
  rcases fc.1 h with rfl|h
  ·exact hs.1
  ·exact Bt hs.2 kk h
theorem me {d:Bool} {f:FuncId} {args args':List SV} {dst:Option Tmp} {ops:Array Oper} {l:List Oper} {acc:List fR} {K:Fr->Hp->Nat->Prop} {hin H:Hp} {m nn:Nat} {X:SV}
  (m_:cS P f args' hin m (λx h n=>x=X/\h=H/\n=nn)) (h:qT ops fr l=some (f,args,dst)) (hpL:Hp) (nxL:Nat) (hh:(l9 hp hpL,lj hp hpL,nx)=(hpL,true,nxL)) (σ:List (Nm×Nm)) (bor:List Nm) (resL:SV) (hpB:Hp) (ks:List Nm) (hpT:Hp)
  (h1:lT hpL hin σ bor args args') (h2:pk hpL hin σ bor hin) (h3:(o7 0 σ bor,p8 0 m σ hin,ET m hin σ,o0 H)=(true,true,true,true))
  (h6:bor=[]\/(X.nim=true/\t8 H=true)) (e1:iz (f7 (dh σ) nxL) X=resL) (e2:ma (dh σ) nxL m H hpL=hpB) (ht:(hpB.filter (x7 ks),ks.all λk=>(bor.map Nm.key++mU (dh σ) m).contains k.key)=(hpT,true)) (hs:yD hpL hpB ks)
  (k:dY P d ops (l.drop 1) (gg dst resL fr) (hpT++hp) (bif d then nxL+nn+1 else nxL+nn) (acc++[⟨hpT.map (·.1.key),bor.map Nm.key++mU (dh σ) m,nxL,nxL+nn⟩]) K) (hfam:qj hpL hin σ:=by simp only [qj,and_self]):dY P d ops l fr hp nx acc K:=by
 simp only [iH] at hh h3 ht;obtain ⟨g1,g2,rfl⟩:=hh;obtain ⟨h3,h4,h5,h7⟩:=h3;obtain ⟨ht,htk⟩:=ht;have eh:=Bs (show (l9 hp hpL,lj hp hpL)=(hpL,true) by rw [g1,g2]);obtain ⟨l1,l2⟩:=sJ h1;have hok:=Bn h5 hfam;have inj:∀ k1 k2 j,dh σ k1=some j->dh σ k2=some j->k1=k2:=by
  simp only [o7,cR] at h3;exact va h3.1.1 h3.1.2
 have fresh:∀ k:Nm,m<=k.base->dh σ k=none/\bW hin k = .unborn:=λk hk=>⟨by
  cases hn:dh σ k with
  | none=>rfl
  | some j=>have:=(hok k j hn).1;omega,rI h4 k hk⟩
 have eb:ma (dh σ) nx m H hp=hpB:=by
  rw [←e2];exact sj (λk hk=>(fresh k hk).1) (js σ) (λk _=>by rw [eh]) H
 have trim:sW hp hpB hpT (bor.map Nm.key++mU (dh σ) m):=by
  rw [←ht];refine Et ks _ htk hpB λkk hk k e=>?_
  have:=Bt hs kk hk k e;have e3:bW (hpB++hp) k=bW (hpB++hpL) k:=by rw [fD,fD,eh]
  rw [e3,this,eh]
 subst e1;subst eb;refine cD f args dst h ?_;cases d with
 | false =>
  refine ⟨args',hin,m,_,dh σ,bor,m_,by rw [eh];exact uo h2 h3,js σ,fresh,inj,λk j hk=>by rw [eh];exact (hok k j hk).2,l1,λi x y hx hy=>by rw [eh];exact mC (l2 i x y hx hy),⟨_,_,_,rfl,rfl,rfl⟩,(λh=>by cases h),?_⟩;rintro _ _ _ ⟨rfl,rfl,rfl⟩;exact ⟨h7,h6,_,trim,k⟩
 | true =>
  refine ⟨args',hin,m,_,dh σ,bor,m_,by rw [eh];exact uo h2 h3,js σ,fresh,inj,λk j hk=>by rw [eh];exact (hok k j hk).2,l1,λi x y hx hy=>by rw [eh];exact mC (l2 i x y hx hy),⟨_,_,_,rfl,rfl,rfl⟩,?_,?_⟩
  ·rintro _ _ _ _ _ _ _ ⟨rfl,rfl,rfl⟩ ⟨rfl,rfl,rfl⟩;exact ⟨rfl,rfl,rfl⟩
  ·rintro _ _ _ ⟨rfl,rfl,rfl⟩;exact ⟨h7,h6,_,trim,k⟩
theorem HB (σ:Nm->Option Nm) (nx:Nat) (hp:Hp):iY σ nx [] hp=[]:=rfl
theorem KG (σ:Nm->Option Nm) (nx k:Nat) (c:cp) (r hp:Hp):iY σ nx ((.t k,c)::r) hp=d8 (f7 σ nx (.t k)) (io (f7 σ nx) c) (iY σ nx r hp++hp)::iY σ nx r hp:=rfl
theorem KH (σ:Nm->Option Nm) (nx F:Nat) (z:Int) (c:cp) (r hp:Hp):iY σ nx ((.s F z,c)::r) hp=(.s (f7 σ nx (.s F 0)).base 0,io (f7 σ nx) c)::iY σ nx r hp:=rfl
theorem Ml (k:Nat) (c:cp) (hp:Hp):d8 (.t k) c hp=(.t k,c):=rfl
theorem Ox (nx k:Nat):Nm.sh nx (.t k) = .t (nx+k):=rfl
theorem Oy (nx F:Nat) (i:Int):Nm.sh nx (.s F i) = .s (nx+F) i:=rfl
attribute [push_cast] HB KG KH Ml Ox Oy pz List.flatMap_cons List.flatMap_nil Option.isSome_some Option.isSome_none Nm.base_t Nm.base_s
attribute [push_cast] f7 ma List.filterMap_cons List.filterMap_nil Option.map_some Option.map_none Km Kn Ko Kp Kq Kr Ks
end
section
open Go.RowKit
variable {P:Program} {m N:Nat} {Q:g8} {fr:Fr} {hp:Hp} {nx:Nat} {ops:Array Oper}
theorem n8.local {o:Oper} {fr2:Fr} {hp2:Hp} {K K':SV->Hp->Nat->List Nm->Prop} (h:n8 P o fr hp nx K) (hf:∀ t∈lJ o.op,cM fr2 t=cM fr t) (hh:bW hp2=bW hp) (hK:∀ v u n r,K v u n r->K' v u n r):n8 P o fr2 hp2 nx K' :=
 λX ids w fr' hp' a hP h1 h2 h3 h4 h5 h6 KK Q h7=>h X ids w fr' hp' a hP h1 h2 h3 (λt ht=>by rw [h4 t ht,hf t ht]) h5 (λv u n r hk=>by
  have:=h6 v u n r (hK v u n r hk);rw [hh] at this;exact this) KK Q (λv u n r x w' ids' hk hu=>h7 v u n r x w' ids' (hK v u n r hk) ⟨hu.le,by rw [hh];exact hu.keys⟩)
theorem wO.local {dt:Bool} {o:Oper} {fr2:Fr} {hp2:Hp} {K K':SV->Hp->Nat->List Nm->Prop} (h:wO dt P o fr hp nx K) (hf:∀ t∈lJ o.op,cM fr2 t=cM fr t) (hh:bW hp2=bW hp) (hK:∀ v u n r,K v u n r->K' v u n r):wO dt P o fr2 hp2 nx K':=by
 cases dt with
 | false=>exact n8.local (K:=K) h hf hh hK
 | true =>
  obtain ⟨e,h1,h2,h3⟩:=h;exact ⟨e,h1,hK _ _ _ _ h2,h3.local hf hh λ_ _ _ _ h=>h⟩
theorem zO {fr':Fr} {hp':Hp} {dt:Bool} {o:Oper} (hn:∀ t∈jQ ops o,cM fr' t=cM fr t) (hh:bW hp'=bW hp) {K K':SV->Hp->Nat->List Nm->Prop} (hK:∀ v u n r,K v u n r->K' v u n r) (hs:iv dt P ops o fr hp nx K):iv dt P ops o fr' hp' nx K':=by
 have hnm:∀ t∈lJ o.op,cM fr' t=cM fr t:=λt ht=>hn t (by unfold jQ;exact jJ _ ht);have core:∀ {g:Bool},kC dt P g o fr hp nx K->kC dt P g o fr' hp' nx K':=by
  intro g hc;unfold kC at hc ⊢;rw [wP hnm];cases hcl:i_ g fr o.op with
  | some c =>
   rw [hcl] at hc;obtain ⟨args',hin,m,Post,σ,bor,h1,h2,hsg,h3,h4,h5,h6,h7,h8,h9,h10⟩:=hc;refine ⟨args',hin,m,Post,σ,bor,h1,by rw [hh];exact h2,hsg,h3,h4,by rw [hh];exact h5,h6,by rw [hh];exact h7,h8,h9,λres hpx nx' hpp=>⟨(h10 res hpx nx' hpp).1,(h10 res hpx nx' hpp).2.1,?_⟩⟩;rw [sj (h1:=hp) (λk hk=>(h3 k hk).1) hsg (λk _=>by rw [hh]) hpx];obtain ⟨u,hu,hk⟩:=(h10 res hpx nx' hpp).2.2;exact ⟨u,⟨hu.keys,hu.drop,λk=>by rw [fD,fD,hh,←fD,←fD];exact hu.eq k⟩,hK _ _ _ _ hk⟩
  | none =>
   rw [hcl] at hc;simp only at hc ⊢;rcases hc with hc|hc
   ·exact .inl ⟨hc.1,hc.2.1,hc.2.2.local hnm hh hK⟩
   refine .inr ?_;cases hop:kL P g fr hp nx o.type o.op with
   | bad=>rw [hop] at hc;exact hc.elim
   | ok s e =>
    rw [hop] at hc;rw [p7 hop hnm (λk _=>by rw [hh])];exact ⟨hc.1,hK _ _ _ _ hc.2⟩
 unfold iv at hs ⊢;cases hg:o.guard with
 | none=>rw [hg] at hs;exact core hs
 | some jw =>
  rw [hg] at hs;simp only at hs ⊢;rw [wR hg hn];cases hgs:mB ops fr jw.1 jw.2 with
  | none=>rw [hgs] at hs;exact hs
  | some g =>
   rw [hgs] at hs;simp only at hs ⊢;cases hq:lP P o.op with
   | true =>
    rw [hq] at hs;simp only [cd] at hs ⊢;rcases hs with hs|hs
    ·exact .inl ⟨hs.1,hK _ _ _ _ hs.2⟩
    ·refine .inr ?_;cases hop:kL P g fr hp nx o.type o.op with
     | bad=>rw [hop] at hs;exact hs.elim
     | ok s e =>
      rw [hop] at hs;rw [p7 hop hnm (λk _=>by rw [hh])];simp only at hs ⊢;cases hu:e.upd with
      | nil=>rw [hu] at hs;exact ⟨hs.1,hK _ _ _ _ hs.2⟩
      | cons a b=>rw [hu] at hs;exact hs
   | false =>
    rw [hq] at hs;exact ⟨λhg=>core (hs.1 hg),λhg=>hK _ _ _ _ (hs.2 hg)⟩
def s9 (ops:Array Oper) (l:List Oper) (fr' fr:Fr):Prop:=∀ d,cM fr' d=cM fr d\/(cM fr' d = .any/\∀ o∈l,d∉jQ ops o)
theorem s9.names {l:List Oper} {o:Oper} {fr':Fr} (h:s9 ops (o::l) fr' fr):∀ t∈jQ ops o,cM fr t=cM fr' t:=λt ht=>by
 rcases h t with h|h
 ·exact h.symm
 ·exact absurd ht (h.2 o (List.mem_cons_self ..))
theorem s9.put {l:List Oper} {o:Oper} {fr':Fr} (h:s9 ops (o::l) fr' fr) (d:Option Tmp) (v:SV):s9 ops l (gg d v fr') (gg d v fr):=by
 intro t;cases d with
 | none=>exact (h t).imp id λh=>⟨h.1,λo' ho=>h.2 o' (uL _ ho)⟩
 | some d =>
  simp only [gg,cM];cases hd:(d==t) with
  | true=>exact .inl rfl
  | false=>exact (h t).imp id λh=>⟨h.1,λo' ho=>h.2 o' (uL _ ho)⟩
theorem C7 {K:Fr->Hp->Nat->Prop} {fr':Fr} {hp':Hp} (h:s9 ops [] fr' fr) (hh:bW hp=bW hp') (hk:qD K fr' hp' nx):qD K fr hp nx:=by
 obtain ⟨f,q,⟨h1,h2⟩,hk⟩:=hk;refine ⟨f,q,⟨λd=>?_,λk=>by rw [h2 k,hh]⟩,hk⟩;rcases h1 d with h1|h1
 ·rcases h d with h|h
  ·exact .inl (h1.trans h)
  ·exact .inr (h1.trans h.1)
 ·exact .inr h1
theorem C8 {hp hp':Hp} (h:bW hp=bW hp') (u:Hp):bW (u++hp)=bW (u++hp'):=funext λk=>qR λ_=>by rw [h]
theorem ro {K:Fr->Hp->Nat->Prop}:∀ (l:List Oper) (fr' fr:Fr) (hp' hp:Hp) (nx:Nat),s9 ops l fr' fr->bW hp=bW hp'->lQ P ops l fr' hp' nx (qD K)->lQ P ops l fr hp nx (qD K)
 | [],fr',fr,hp',hp,nx,h,hh,hr=>C7 h hh hr
 | o::l,fr',fr,hp',hp,nx,h,hh,hr=>zO h.names hh (λv u n r hk=>ro l _ _ _ _ _ (h.put o.dst v) (C8 hh u) hk) hr
theorem tK {K:Fr->Hp->Nat->Prop}:∀ (l:List Oper) (fr' fr:Fr) (hp' hp:Hp) (nx:Nat) (acc:List fR),s9 ops l fr' fr->bW hp=bW hp'->yv P ops l fr' hp' nx acc (qD K)->yv P ops l fr hp nx acc (qD K)
 | [],fr',fr,hp',hp,nx,acc,h,hh,hr=>⟨hr.1,C7 h hh hr.2⟩
 | o::l,fr',fr,hp',hp,nx,acc,h,hh,hr=>zO h.names hh (λv u n r hk=>tK l _ _ _ _ _ _ (h.put o.dst v) (C8 hh u) hk) hr
def NA:SV->Bool
 | .any=>true
 | _=>false
def Mm (ops:Array Oper) (l:List Oper) (fr fr':Fr):Bool:=l.all λo=>(jQ ops o).all λt=>fr'.any (λp=>p.1==t)||NA (cM fr t)
theorem C9 (fr:Fr) (d:Nat):∀ ks:Fr,(ks.any λp=>p.1==d)=true->cM (oS fr ks) d=cM fr d
 | [],h=>by simp at h
 | p::r,h=>by
  simp only [oS,gu,cM]
  by_cases hp:p.1=d
  ·subst hp;simp
  ·have hb:(p.1==d)=false:=by simpa using hp
   rw [hb,ck]
   refine C9 fr d r ?_
   simp only [List.any_cons,hb,Bool.false_or] at h
   exact h
theorem rn {d:Bool} {l:List Oper} {acc:List fR} {K:Fr->Hp->Nat->Prop} (i:Nat) (fr':Fr) (hp':Hp) (nx':Nat) (h:(l,oS fr fr',Mm ops l fr fr',l9 hp hp',lj hp hp',nx)=(ops.toList.drop i,fr',true,hp',true,nx'))
  (k:dY P d ops (ops.toList.drop i) fr' hp' nx' acc K):dY P d ops l fr hp nx acc K:=by
 simp only [iH] at h;obtain ⟨h1,h2,h3,h4,h5,h6⟩:=h;rw [←h1] at k;subst h6;have hh:bW hp=bW hp':=funext λk=>((xu (fr:=[]) (fr':=[]) rfl h4 h5).2 k).symm
 have hl:s9 ops l fr' fr:=λt=>by
  by_cases hm:(fr'.any λp=>p.1==t)=true
  ·left;have:=C9 fr t fr' hm;rw [h2] at this;exact this
  ·rcases w7 fr t fr' with hk|hk
   ·left;rw [h2] at hk;exact hk
   ·rw [h2] at hk;by_cases hl:∃ o∈l,t∈jQ ops o
    ·obtain ⟨o,ho,ht⟩:=hl;left;have:=dP.1 (dP.1 h3 o ho) t ht;have hm':(fr'.any λp=>p.1==t)=false:=Bool.eq_false_iff.2 hm;rw [hm',Bool.false_or] at this;rw [hk];cases hg:cM fr t<;>rw [hg] at this<;>first|rfl|cases this
    ·exact .inr ⟨hk,λo ho ht=>hl ⟨o,ho,ht⟩⟩
 cases d with
 | false=>exact ro l _ _ _ _ _ hl hh k
 | true=>exact tK l _ _ _ _ _ _ hl hh k
@[push_cast] theorem OJ (τ:Nm->Nm) (m:List (Int×Int)):(mi m).map (λp=>(p.1,iz τ p.2))=mi m:=by
 induction m with
 | nil=>rfl
 | cons p r ih=>simp only [mi,gu] at ih ⊢;rw [ih];rfl
end
section
open Go.RowKit
variable {P:Program} {m N:Nat} {Q:g8} {fr:Fr} {hp:Hp} {nx:Nat} {ops:Array Oper}
variable {α:Type}
theorem AA {d:Bool} {l:List Oper} {acc:List fR} {K:Fr->Hp->Nat->Prop} (t:Nat) (x x':SV) (e:x=x') (h:cM fr t=x) (k:dY P d ops l ((t,x')::fr) hp nx acc K):dY P d ops l fr hp nx acc K:=by
 subst e;have hl:s9 ops l ((t,x)::fr) fr:=λq=>.inl (by
  simp only [cM];by_cases hq:t=q
  ·subst hq;simp [h]
  ·rw [show (t==q)=false from by simpa using hq,ck])
 cases d with
 | false=>exact ro l _ _ _ _ _ hl rfl k
 | true=>exact tK l _ _ _ _ _ _ hl rfl k
theorem KI {d:Bool} {l:List Oper} {acc:List fR} {K:Fr->Hp->Nat->Prop} (p:Nm×cp) (h:∀ q,p.1.key=q.key->bW hp q=p.2.mem q) (k:dY P d ops l fr (p::hp) nx acc K):dY P d ops l fr hp nx acc K:=by
 have hh:bW hp=bW (p::hp):=funext λq=>by
  simp only [bW];by_cases hq:p.1.key=q.key
  ·rw [Nm.eqk_iff.2 hq,cd];exact h q hq
  ·rw [Nm.eqk_no hq,ck]
 have hl:s9 ops l fr fr:=λq=>.inl rfl;cases d with
 | false=>exact ro l _ _ _ _ _ hl hh k
 | true=>exact tK l _ _ _ _ _ _ hl hh k
theorem KJ {d:Bool} {l:List Oper} {acc:List fR} {K:Fr->Hp->Nat->Prop} (j:Nat) (c c':cp) (e:c=c') (h:bW hp (.t j)=c) (k:dY P d ops l fr ((.t j,c')::hp) nx acc K):dY P d ops l fr hp nx acc K:=by
 subst e;refine KI (.t j,c) (λq hq=>?_) k;rw [Nm.key_t] at hq;have:=Nm.key_eq_t.1 hq.symm;subst this;exact h
end
section
open Go.RowKit
theorem Mn {α:Type} [b_ α] (tab:List α) (raw:List SV) (hraw:raw=fl tab) (len z nx:Nat) (hl:tab.length=len) (i:Int) (k:0<=i/\i<(tab.length:Int)) :
  gP (.ok (0<=i/\i<(len:Int)) ⟨.iptr raw (0+i.toNat*z),[],nx,[]⟩) ⟨.iptr (fl tab) (i.toNat*z),[],nx,[]⟩:=jg (hl▸k) (by rw [hraw,dj]) rfl
end
section
open Go.RowKit
theorem cS.frz {P:Program} {f:FuncId} {args:List SV} {hin:Hp} {m n:Nat} {e:TypeId} {cs:List SV} (h:cS P f args hin m (λx h k=>x = .own 0 0 n/\h=[(Nm.t 0,.row e cs)]/\k=1)) :
  cS P f args hin m (λx h k=>x = .sl n cs/\h=[(Nm.t 0,.dead)]/\k=1):=by
 refine ⟨h.1,λX vals h1 h2 h3 h4 h5=>(h.2 X vals h1 h2 h3 h4 h5).mono ?_⟩;rintro ex w' ⟨r,res,hp',nx',ids',rfl,⟨rfl,rfl,rfl⟩,hF,hd⟩;have hrow:bW [(Nm.t 0,cp.row e cs)] (.t 0) = .row e cs:=rfl;have hl:(bW [(Nm.t 0,cp.row e cs)] (.t 0)).live=true:=rfl;have hG:bW ([(Nm.t 0,cp.dead)]++[(Nm.t 0,cp.row e cs)])=bW [(Nm.t 0,cp.dead)]:=by
  rw [fE,dv,dv,dv];funext k;simp only [upd];split<;>rfl
 obtain ⟨k1,k2⟩:=AS hF.toHeapC (k:=.t 0) (by rw [hrow];simp);have hnl:∀ k,(bW [(Nm.t 0,cp.dead)] k).live=true->False:=λk hk=>by
  rw [dv] at hk;simp only [upd] at hk;split at hk
  ·cases hk
  ·cases hk
 have hK:HeapC X [(Nm.t 0,.dead)] ids' w':=⟨by rw [←hG];exact k1.st,λk hk h0 hl=>(hnl k hl).elim,λk hk hv=>by rw [dv] at hv;simp only [upd] at hv;split at hv<;>cases hv⟩;have hE:fh X [(Nm.t 0,.row e cs)] ids' w' [(Nm.t 0,.dead)] ids' w':=by
  have:=k2;rw [show d8 (.t 0) cp.dead [(Nm.t 0,cp.row e cs)]=(.t 0,.dead) from rfl] at this;simp only [fh,hG] at this;exact this
 obtain ⟨a,cap,rfl,c1,c2,c4,c3⟩:=md hd hl;refine ⟨_,.sl n cs,[(Nm.t 0,.dead)],1,ids',rfl,⟨rfl,rfl,rfl⟩,⟨hK,λk hk=>?_,hF.m_le⟩,?_⟩
 ·rw [dv,dO _ _ (λe=>by subst e;simp at hk)];rfl
 ·rcases c3 with ⟨rfl,rfl⟩|⟨b,o,e2,cs2,arr,hC,hid,rfl,hw,hcapsz⟩
  ·have hcs:cs=[]:=by
    have:=c4 _ _ hrow;exact iU (by omega)
   subst hcs;exact .sl0 (by unfold maxLen;omega)
  ·have hc:=hF.st.ch (.t 0);rw [hrow] at hc;have hid':ids' (.t 0)=some (b,o):=hid;simp only [fG,hid'] at hc;obtain ⟨arr',ha',hl',hx'⟩:=hc;obtain ⟨hlt,hor⟩:=hF.st.lt (.t 0) b o hl hid;refine .sl b (o+0) cap (λi=>arr'.getD (o+i) undef) ⟨?_,hlt,λk hk=>(hnl k hk).elim⟩ c1 c2 (λi x hi=>?_) (λi x hi=>(hx' i x hi).mono hE)
   ·rcases hor with h|h
    ·exact .inr (.inl h)
    ·exact .inr (.inr h)
   ·have hi':=(dx.1 hi).1;simp only [World.cell?,ha',eE];simp [cP,d3 (show o+i<arr'.size by omega)]
end
section
open Go.RowKit
variable {P:Program}
theorem NB {f : FuncId} {fn : Func} (h : P.funcs[f]? = some fn) (hb : fn.body.isSome = true) (hn : (fn.name == "runtime.NumGoroutine") = false) : ∃ fn body, P.funcs[f]? = some fn /\ fn.body = some body /\ fn.name ≠ "runtime.NumGoroutine" := by
 obtain ⟨b,hb⟩:=qK.1 hb
 exact ⟨fn,b,h,hb,by simpa using hn⟩
end
section
open Go.RowKit
variable {P:Program}
def n_:SV->SV
 | .v (.slice none 0 0)=>.sl 0 []
 | x=>x
theorem C_ {C:Nm->cp} {ids:dC} {I:Nat->Prop} {w:World} {s:SV} {x:Value} (h:dS P C ids I w s x):dS P C ids I w (n_ s) x:=by
 unfold n_;split
 ·obtain rfl:=d6 h;exact .sl0 (by unfold maxLen;omega)
 ·exact h
theorem Mo {X:Cx} {hp:Hp} {ids:dC} {w:World} (h:HeapC X hp ids w) {k b o:Nat} {e:TypeId} {cs:List SV} (hk:bW hp (.t k) = .row e cs) (hi:ids (.t k)=some (b,o)) :
  HeapC X ((.t k,.row e (cs.map n_))::hp) ids w/\fh X hp ids w ((.t k,.row e (cs.map n_))::hp) ids w:=by
 have hlk:(bW hp (.t k)).live=true:=by rw [hk];rfl
 have hch:=h.st.ch (.t k);rw [hk] at hch;simp only [fG,hi] at hch;obtain ⟨arr,ha,hl,hx⟩:=hch;have hsk:dX (bW hp (.t k)) (.row e (cs.map n_)):=by rw [hk];exact ⟨rfl,by rw [ew];exact cE _⟩
 have hE:=h.st.turn_ext hlk hi (c:=.row e (cs.map n_)) rfl hsk (w':=w) rfl (λj _=>rfl) (dM.refl _);have hC:bW ((.t k,.row e (cs.map n_))::hp)=upd (bW hp) (.t k) (.row e (cs.map n_)):=dv k _ hp;refine ⟨⟨?_,λj hj h0 hjl=>?_,λj hj hv=>by rw [hC] at hv;exact mc h.nov (λe=>by cases e) j hj hv⟩,?_⟩
 ·rw [hC];refine h.st.turn hlk hi rfl hsk rfl (λj _=>rfl) (dM.refl _) rfl rfl rfl ?_;simp only [fG,hi];refine ⟨arr,ha,by rw [ew];exact hl,λi x hix=>?_⟩;rw [fW] at hix;cases hq:cs[i]? with
  | none=>rw [hq] at hix;cases hix
  | some y=>rw [hq] at hix;cases hix;exact (C_ (hx i y hq)).mono hE
 ·rw [hC] at hjl ⊢;have hlo:(bW hp j).live=true:=by
   by_cases hjk:j=Nm.t k
   ·subst hjk;exact hlk
   ·rwa [dO _ _ hjk] at hjl
  exact (h.kept j hj h0 hlo).step hE hlo hjl
 ·simp only [fh,hC];exact hE
variable {fr:Fr} {hp:Hp} {nx:Nat} {ops:Array Oper}
theorem HC {P:Program} {fr:Fr} {hp:Hp} {nx:Nat} {o:Oper} {s:Prop} {k:Nm} {off n:Nat} {p:Nm×cp} {nx':Nat} {r:List Nm} (h:kL P true fr hp nx o.type o.op = .ok s ⟨.own k off n,[p],nx',r⟩):uY o.op=true:=by
 cases hop:o.op<;>first|rfl|skip
 ·rw [hop] at h;have:=(wL h).1;cases this
 ·rw [hop] at h;simp only [kL] at h;unfold jt at h;split at h
  ·split at h
   ·obtain ⟨es,_,hf⟩:=iq h;cases hf
   ·cases h
  ·cases h
theorem IN {d:Bool} {l:List Oper} {acc:List fR} {K:Fr->Hp->Nat->Prop} (dst:Option Tmp) (n:Nat) (e:TypeId) (cs cs':List SV)
  (hc:(s8 P ops fr l).map (λo=>(o.dst,kL P true fr hp nx o.type o.op))=some (dst,.ok True ⟨.own nx 0 n,[(Nm.t nx,.row e cs)],nx+1,[]⟩)) (hn:Nat.blt 0 n=true) (hw:cs.map n_=cs')
  (h:dY P d ops (l.drop 1) (gg dst (.own nx 0 n) fr) ([(Nm.t nx,.row e cs')]++hp) (bif d then nx+2 else nx+1) (acc++[⟨[Nm.t nx],[],nx,nx+1⟩]) K):dY P d ops l fr hp nx acc K:=by
 obtain ⟨o,ho,hh⟩:=mw.1 hc;simp only [iH] at hh;obtain ⟨rfl,hop⟩:=hh;subst hw;refine xx o ⟨.own nx 0 n,[(Nm.t nx,.row e (cs.map n_))],nx+1,[]⟩ ho (om _) (HC hop) ?_ h;intro X ids w fr' hp' a hP h1 h2 h3 h4 h5 h6 KK Q hK;subst hP;have hop':=p7 (hp':=hp') hop h4 (λk hk=>by cases hk);obtain ⟨x,w',ids',g1,g2,g3,g4⟩:=uV (nx:=nx) ⟨h1,h5,h2⟩ h3 (g:=true) rfl hop' trivial;have g2':HeapC X ((Nm.t nx,cp.row e cs)::hp') ids' w':=g2;have hrow:bW ((Nm.t nx,cp.row e cs)::hp') (.t nx) = .row e cs:=by rw [dv,cF]
 have g4':cV X ((Nm.t nx,cp.row e cs)::hp') ids' w' (.own nx 0 n) x:=g4;obtain ⟨ad,cap,hxv,c1,c2,c3,c4⟩:=md g4' (by rw [hrow];rfl);have hn':0<n:=by simpa [kH] using hn
 obtain ⟨b,q,e2,cs2,arr,hC2,hid,_⟩:∃ b o e' cs' arr,bW ((Nm.t nx,cp.row e cs)::hp') (.t nx) = .row e' cs'/\ids' (.t nx)=some (b,o)/\ad=some ⟨b,o+0,none⟩/\w'.heap[b]? = some (.cells arr e' (0,0))/\o+0+cap*X.P.cellsOf e'<=arr.size:=by
  rcases c4 with ⟨h,_⟩|h
  ·omega
  ·exact h
 obtain ⟨r1,r2⟩:=Mo g2' hrow hid;have hg:bW ((Nm.t nx,cp.row e (cs.map n_))::(Nm.t nx,cp.row e cs)::hp')=bW ([(Nm.t nx,cp.row e (cs.map n_))]++hp'):=by
  show _=bW ((Nm.t nx,_)::hp');rw [dv,dv,dv];funext j;unfold upd;split<;>rfl
 refine m3 g1 (hK (.own nx 0 n) [(Nm.t nx,.row e (cs.map n_))] (nx+1) [] x w' ids' ⟨rfl,rfl,rfl,rfl⟩ ⟨om _,λp hp=>?_⟩ (r1.congr hg) ?_ ?_)
 ·simp only [fL] at hp;subst hp;exact .inl ⟨cE _,tv _⟩
 ·have:=lm g3 r2;simp only [fh,hg] at this;exact this
 ·exact cV.congr (g4'.mono r2) hg
end
section
open Go.RowKit
variable {X:Cx} {hp:Hp} {nx:Nat} {ids:dC} {w:World}
structure xy (C C':Nm->cp) (G:Nat) (ρ:Int->Option Nm) (e:TypeId):Prop where
 fresh:∀ k:Nm,k.base=G->C k = .unborn
 some_:∀ i k,ρ i=some k->C' (.s G i)=C k
 none_:∀ i,ρ i=none->C' (.s G i) = .row e []\/(C' (.s G i)).live=false
 top:(C' (.t G)).live=false
 dies:∀ i k,ρ i=some k->C' k = .dead
 oth:∀ k:Nm,k.base≠G->C' k=C k\/C' k = .dead
 inj:∀ i j k,ρ i=some k->ρ j=some k->i=j
def kN (G:Nat) (ρ:Int->Option Nm) (ids:dC):dC:=λk=>match k with
 | .t a=>ids (.t a)
 | .s F i=>if F=G then (ρ i).bind ids else ids (.s F i)
theorem rK (G:Nat) (ρ:Int->Option Nm) (ids:dC) (i:Int):kN G ρ ids (.s G i)=(ρ i).bind ids:=if_pos rfl
theorem rL (G:Nat) (ρ:Int->Option Nm) (ids:dC) {k:Nm} (h:k.base≠G):kN G ρ ids k=ids k:=by
 cases k with
 | t a=>rfl
 | s F i=>exact if_neg h
section sem
variable {P:Program} {w0:World} {I0 W0:Nat->Prop} {C C':Nm->cp} {G:Nat} {ρ:Int->Option Nm} {e:TypeId}
theorem xy.old (hh:xy C C' G ρ e) {k:Nm} {b o:Nat} (hl:(C' k).live=true) (hi:kN G ρ ids k=some (b,o)) :
 ∃k0,(C k0).live=true/\ids k0=some (b,o)/\C' k=C k0/\((k.base≠G/\k0=k)\/∃ i,k = .s G i/\ρ i=some k0):=by
 by_cases hb:k.base=G
 ·cases k with
  | t a=>simp only [Nm.base_t] at hb;subst hb;rw [hh.top] at hl;cases hl
  | s F i =>
   simp only [Nm.base_s] at hb;subst hb;rw [rK] at hi;cases hr:ρ i with
   | none=>rw [hr] at hi;cases hi
   | some k0 =>
    rw [hr] at hi;have h1:=hh.some_ i k0 hr;exact ⟨k0,by rw [←h1];exact hl,hi,h1,.inr ⟨i,rfl,hr⟩⟩
 ·rw [rL _ _ _ hb] at hi;rcases hh.oth k hb with h1|h1
  ·exact ⟨k,by rw [←h1];exact hl,hi,h1,.inl ⟨hb,rfl⟩⟩
  ·rw [h1] at hl;cases hl
theorem xy.ext (h:lE P w0 I0 W0 C ids w) (hh:xy C C' G ρ e):ky C ids (Im w0 I0 W0 C ids w) w C' (kN G ρ ids) (Im w0 I0 W0 C' (kN G ρ ids) w) w:=by
 refine ⟨λb hb=>⟨⟨hb.1,hb.2.1,λk hk o hi=>?_⟩,rfl⟩,λk hk=>?_,λk hk=>?_⟩
 ·obtain ⟨k0,h1,h2,_⟩:=hh.old hk hi;exact hb.2.2 k0 h1 o h2
 ·have hb:k.base≠G:=λe=>by rw [hh.fresh k e] at hk;cases hk
  rcases hh.oth k hb with h1|h1
  ·rw [h1];exact hk
  ·exact h1
 ·have hb:k.base≠G:=λe=>by rw [hh.fresh k e] at hk;cases hk
  rcases hh.oth k hb with h1|h1
  ·exact .inr ⟨by rw [h1];exact hk,rL _ _ _ hb,by rw [h1];exact dX.refl hk,λ_ _ _=>dM.refl _⟩
  ·exact .inl h1
theorem fG.rename {C':Nm->cp} {ids':dC} {I I':Nat->Prop} {k k':Nm} {c:cp} (hE:ky C ids I w C' ids' I' w) (h:fG P C ids I w k c) (hi:ids' k'=ids k):fG P C' ids' I' w k' c:=by
 cases c with
 | unborn=>trivial
 | dead=>trivial
 | void=>trivial
 | fam g=>trivial
 | row e cs =>
  simp only [fG,hi] at h ⊢;cases hid:ids k with
  | none=>rw [hid] at h;exact h
  | some p =>
   obtain ⟨b,o⟩:=p;rw [hid] at h;obtain ⟨arr,ha,hs,hx⟩:=h;exact ⟨arr,ha,hs,λi x hix=>(hx i x hix).mono hE⟩
 | map es =>
  obtain ⟨b,arr,clock,hid,ha,hs,hx,hbo⟩:=h;exact ⟨b,arr,clock,hi.trans hid,ha,hs,λi x hix=>⟨(hx i x hix).1,(hx i x hix).2.mono hE⟩,hbo⟩
 | obj s pos =>
  obtain ⟨b,hid,ha⟩:=h;exact ⟨b,hi.trans hid,ha⟩
theorem xy.st (h:lE P w0 I0 W0 C ids w) (hh:xy C C' G ρ e):lE P w0 I0 W0 C' (kN G ρ ids) w:=by
 have hE:=hh.ext h;refine ⟨λk=>?_,λk k' b o o' hk hk' hi hi'=>?_,λk b o hk hi=>?_,h.im0,h.evol,h.os,h.tape,h.output,h.size⟩
 ·by_cases hb:k.base=G
  ·cases k with
   | t a =>
    simp only [Nm.base_t] at hb;subst hb;have:=hh.top;cases hc:C' (.t a)<;>rw [hc] at this<;>first|trivial|cases this
   | s F i =>
    simp only [Nm.base_s] at hb;subst hb;cases hr:ρ i with
    | none =>
     rcases hh.none_ i hr with h1|h1
     ·have hn:kN F ρ ids (.s F i)=none:=by rw [rK,hr];rfl
      rw [h1];simp only [fG,hn]
     ·cases hc:C' (.s F i)<;>rw [hc] at h1<;>first|trivial|cases h1
    | some k0 =>
     rw [hh.some_ i k0 hr];exact fG.rename hE (h.ch k0) (by rw [rK,hr];rfl)
  ·rcases hh.oth k hb with h1|h1
   ·rw [h1];exact fG.rename hE (h.ch k) (rL _ _ _ hb)
   ·rw [h1];trivial
 ·obtain ⟨k0,a1,a2,_,a3⟩:=hh.old hk hi;obtain ⟨k0',b1,b2,_,b3⟩:=hh.old hk' hi';have:=h.inj k0 k0' b o o' a1 b1 a2 b2;subst this;rcases a3 with ⟨a3,rfl⟩|⟨i,rfl,a3⟩<;>rcases b3 with ⟨b3,b4⟩|⟨j,b4,b3⟩
  ·exact b4
  ·have:=hh.dies j _ b3;rw [this] at hk;cases hk
  ·have:=hh.dies i _ a3;subst b4;rw [this] at hk';cases hk'
  ·rw [b4,hh.inj i j _ a3 b3]
 ·obtain ⟨k0,a1,a2,_,_⟩:=hh.old hk hi;exact h.lt k0 b o a1 a2
end sem
variable {G:Nat} {ρ:Int->Option Nm} {e:TypeId} {hp':Hp}
theorem Eu (h:HeapC X hp ids w) {k:Nm} {e:TypeId} {cs cs':List SV} (hk:bW hp k = .row e cs) (hlen:cs'.length=cs.length)
  (hx:∀ (i:Nat) (x y:SV) (v:Value),cs[i]? = some x->cs'[i]? = some y->cV X hp ids w x v->cV X hp ids w y v) :
  HeapC X (d8 k (.row e cs') hp::hp) ids w/\fh X hp ids w (d8 k (.row e cs') hp::hp) ids w:=by
 have hlk:(bW hp k).live=true:=by rw [hk];rfl
 have hC:bW (d8 k (.row e cs') hp::hp)=upd (bW hp) k (.row e cs'):=jL (iX hlk) (by simp);have hsk:dX (bW hp k) (.row e cs'):=by rw [hk];exact ⟨rfl,Nat.le_of_eq hlen⟩
 have hE:ky (bW hp) ids (Im X.w0 X.I0 X.W0 (bW hp) ids w) w (upd (bW hp) k (.row e cs')) ids (Im X.w0 X.I0 X.W0 (upd (bW hp) k (.row e cs')) ids w) w:=by
  have lv:∀ j,(upd (bW hp) k (.row e cs') j).live=true↔(bW hp j).live=true:=λj=>by
   by_cases hj:j=k
   ·subst hj;rw [cF,hk];exact Iff.rfl
   ·rw [dO _ _ hj]
  refine ⟨λb hb=>⟨⟨hb.1,hb.2.1,λj hj o hi=>hb.2.2 j ((lv j).1 hj) o hi⟩,rfl⟩,λj hj=>?_,λj hj=>?_⟩
  ·have hjk:j≠k:=λe=>by subst e;rw [hj] at hlk;cases hlk
   rw [dO _ _ hjk];exact hj
  ·refine .inr ⟨(lv j).2 hj,rfl,?_,λ_ _ _=>dM.refl _⟩;by_cases hjk:j=k
   ·subst hjk;rw [cF];exact hsk
   ·rw [dO _ _ hjk];exact dX.refl hj
 have lv:∀ j,(upd (bW hp) k (.row e cs') j).live=true->(bW hp j).live=true:=λj hj=>by
  by_cases hjk:j=k
  ·subst hjk;exact hlk
  ·rwa [dO _ _ hjk] at hj
 refine ⟨⟨?_,λj hj h0 hjl=>?_,λj hj hv=>by rw [hC] at hv;exact mc h.nov (λe=>by cases e) j hj hv⟩,by simp only [fh,hC];exact hE⟩
 ·rw [hC];refine ⟨λj=>?_,λj j' b o o' hj hj'=>h.st.inj j j' b o o' (lv j hj) (lv j' hj'),λj b o hj=>h.st.lt j b o (lv j hj),h.st.im0,h.st.evol,h.st.os,h.st.tape,h.st.output,h.st.size⟩;by_cases hjk:j=k
  ·subst hjk;rw [cF];have hc:=h.st.ch j;rw [hk] at hc;simp only [fG] at hc ⊢;cases hid:ids j with
   | none =>
    rw [hid] at hc;simp only at hc;subst hc;exact iU hlen
   | some p =>
    obtain ⟨b,o⟩:=p;rw [hid] at hc;obtain ⟨arr,ha,hl,hxx⟩:=hc;refine ⟨arr,ha,by omega,λi y hi=>?_⟩;have hlt:=(dx.1 hi).1;have hi2:=dy (show i<cs.length by omega);exact (hx i _ y _ hi2 hi (hxx i _ hi2)).mono hE
  ·rw [dO _ _ hjk];exact fG.rename hE (h.st.ch j) rfl
 ·rw [hC] at hjl ⊢;exact (h.kept j hj h0 (lv j hjl)).step hE (lv j hjl) hjl
end
section
open Go.RowKit
inductive Hr (C C':Nm->cp) (G:Nat) (ρ:Int->Option Nm):SV->SV->Prop
 | same {x}:Hr C C' G ρ x x
 | own {i k off n} (hr:ρ i=some k) (hl:(C k).live=true):Hr C C' G ρ (.own k off n) (.own (.s G i) off n)
 | ptr {i k off} (hr:ρ i=some k) (hl:(C k).live=true):Hr C C' G ρ (.ptr k off) (.ptr (.s G i) off)
 | nil {i e} (hr:C' (.s G i) = .row e []):Hr C C' G ρ (.v (.slice none 0 0)) (.own (.s G i) 0 0)
structure s_ (C C':Nm->cp) (G:Nat) (ρ:Int->Option Nm) (R:Nm):Prop where
 fresh:∀ k:Nm,k.base=G->C k = .unborn
 some_:∀ i k,ρ i=some k->C' (.s G i)=C k
 none_:∀ i,ρ i=none->(∃ e,C' (.s G i) = .row e [])\/(C' (.s G i)).live=false
 top:(C' (.t G)).live=false
 dies:∀ i k,ρ i=some k->C' k = .dead
 oth:∀ k:Nm,k.base≠G->k≠R->C' k=C k\/C' k = .dead
 rb:R.base≠G
 row:∃ e cs cs',C R = .row e cs/\C' R = .row e cs'/\cs'.length=cs.length/\∀ (i:Nat) (x y:SV),cs[i]? = some x->cs'[i]? = some y->Hr C C' G ρ x y
 inj:∀ i j k,ρ i=some k->ρ j=some k->i=j
section sem
variable {P:Program} {w0:World} {I0 W0:Nat->Prop} {C C':Nm->cp} {G:Nat} {ρ:Int->Option Nm} {R:Nm} {ids:dC} {w:World}
theorem s_.liveR (hh:s_ C C' G ρ R):(C R).live=true/\(C' R).live=true:=by
 obtain ⟨e,cs,cs',h1,h2,_⟩:=hh.row;rw [h1,h2];exact ⟨rfl,rfl⟩
theorem s_.old (hh:s_ C C' G ρ R) {k:Nm} {b o:Nat} (hl:(C' k).live=true) (hi:kN G ρ ids k=some (b,o)) :
 ∃k0,(C k0).live=true/\ids k0=some (b,o)/\((k.base≠G/\k0=k)\/∃ i,k = .s G i/\ρ i=some k0):=by
 by_cases hb:k.base=G
 ·cases k with
  | t a=>simp only [Nm.base_t] at hb;subst hb;rw [hh.top] at hl;cases hl
  | s F i =>
   simp only [Nm.base_s] at hb;subst hb;rw [rK] at hi;cases hr:ρ i with
   | none=>rw [hr] at hi;cases hi
   | some k0 =>
    rw [hr] at hi;have h1:=hh.some_ i k0 hr;exact ⟨k0,by rw [←h1];exact hl,hi,.inr ⟨i,rfl,hr⟩⟩
 ·rw [rL _ _ _ hb] at hi;by_cases hR:k=R
  ·subst hR;exact ⟨k,hh.liveR.1,hi,.inl ⟨hb,rfl⟩⟩
  rcases hh.oth k hb hR with h1|h1
  ·exact ⟨k,by rw [←h1];exact hl,hi,.inl ⟨hb,rfl⟩⟩
  ·rw [h1] at hl;cases hl
theorem s_.ext (h:lE P w0 I0 W0 C ids w) (hh:s_ C C' G ρ R):ky C ids (Im w0 I0 W0 C ids w) w C' (kN G ρ ids) (Im w0 I0 W0 C' (kN G ρ ids) w) w:=by
 refine ⟨λb hb=>⟨⟨hb.1,hb.2.1,λk hk o hi=>?_⟩,rfl⟩,λk hk=>?_,λk hk=>?_⟩
 ·obtain ⟨k0,h1,h2,_⟩:=hh.old hk hi;exact hb.2.2 k0 h1 o h2
 ·have hb:k.base≠G:=λe=>by rw [hh.fresh k e] at hk;cases hk
  have hR:k≠R:=λe=>by subst e;have:=hh.liveR.1;rw [hk] at this;cases this
  rcases hh.oth k hb hR with h1|h1
  ·rw [h1];exact hk
  ·exact h1
 ·have hb:k.base≠G:=λe=>by rw [hh.fresh k e] at hk;cases hk
  by_cases hR:k=R
  ·subst hR;obtain ⟨e,cs,cs',h1,h2,h3,_⟩:=hh.row;exact .inr ⟨hh.liveR.2,rL _ _ _ hb,by rw [h1,h2];exact ⟨rfl,Nat.le_of_eq h3⟩,λ_ _ _=>dM.refl _⟩
  rcases hh.oth k hb hR with h1|h1
  ·exact .inr ⟨by rw [h1];exact hk,rL _ _ _ hb,by rw [h1];exact dX.refl hk,λ_ _ _=>dM.refl _⟩
  ·exact .inl h1
theorem Mp (h:lE P w0 I0 W0 C ids w) (hh:s_ C C' G ρ R) {x y:SV} {v:Value} (hr:Hr C C' G ρ x y) (hd:dS P C ids (Im w0 I0 W0 C ids w) w x v):dS P C' (kN G ρ ids) (Im w0 I0 W0 C' (kN G ρ ids) w) w y v:=by
 cases hr with
 | same=>exact hd.mono (hh.ext h)
 | own hr hl =>
  rename_i i k off n;obtain ⟨a,cap,rfl,c1,c2,c4,c3⟩:=md hd hl;have hs:=hh.some_ i k hr;refine .own a cap (by rw [hs];exact hl) ⟨c1,c2,λe' cs hc=>c4 e' cs (by rw [←hs];exact hc),?_⟩;rcases c3 with c3|⟨b,o,e',cs,arr,g1,g2,g3,g4,g5⟩
  ·exact .inl c3
  ·exact .inr ⟨b,o,e',cs,arr,by rw [hs];exact g1,by rw [rK,hr];exact g2,g3,g4,g5⟩
 | ptr hr hl =>
  rename_i i k off;obtain ⟨b,o,g1,rfl⟩:=pY hd hl;exact .ptr b o (by rw [hh.some_ i k hr];exact hl) (by rw [rK,hr];exact g1)
 | nil hr =>
  obtain rfl:=d6 hd;exact .own none 0 (by rw [hr];rfl) ⟨cE _,by unfold maxLen;omega,λe' cs hc=>by rw [hr] at hc;cases hc;exact hX _,.inl ⟨rfl,rfl⟩⟩
theorem s_.st (h:lE P w0 I0 W0 C ids w) (hh:s_ C C' G ρ R):lE P w0 I0 W0 C' (kN G ρ ids) w:=by
 have hE:=hh.ext h;refine ⟨λk=>?_,λk k' b o o' hk hk' hi hi'=>?_,λk b o hk hi=>?_,h.im0,h.evol,h.os,h.tape,h.output,h.size⟩
 ·by_cases hb:k.base=G
  ·cases k with
   | t a =>
    simp only [Nm.base_t] at hb;subst hb;have:=hh.top;cases hc:C' (.t a)<;>rw [hc] at this<;>first|trivial|cases this
   | s F i =>
    simp only [Nm.base_s] at hb;subst hb;cases hr:ρ i with
    | none =>
     rcases hh.none_ i hr with ⟨e,h1⟩|h1
     ·have hn:kN F ρ ids (.s F i)=none:=by rw [rK,hr];rfl
      rw [h1];simp only [fG,hn]
     ·cases hc:C' (.s F i)<;>rw [hc] at h1<;>first|trivial|cases h1
    | some k0 =>
     rw [hh.some_ i k0 hr];exact fG.rename hE (h.ch k0) (by rw [rK,hr];rfl)
  ·by_cases hR:k=R
   ·subst hR;obtain ⟨e,cs,cs',h1,h2,h3,h4⟩:=hh.row;have hc:=h.ch k;rw [h1] at hc;rw [h2];simp only [fG,rL _ _ _ hb] at hc ⊢;cases hid:ids k with
    | none =>
     rw [hid] at hc;simp only at hc;subst hc;exact iU h3
    | some p =>
     obtain ⟨b,o⟩:=p;rw [hid] at hc;obtain ⟨arr,ha,hl,hxx⟩:=hc;refine ⟨arr,ha,by omega,λi y hi=>?_⟩;have hlt:=(dx.1 hi).1;have hi2:=dy (show i<cs.length by omega);exact Mp h hh (h4 i _ y hi2 hi) (hxx i _ hi2)
   rcases hh.oth k hb hR with h1|h1
   ·rw [h1];exact fG.rename hE (h.ch k) (rL _ _ _ hb)
   ·rw [h1];trivial
 ·obtain ⟨k0,a1,a2,a3⟩:=hh.old hk hi;obtain ⟨k0',b1,b2,b3⟩:=hh.old hk' hi';have:=h.inj k0 k0' b o o' a1 b1 a2 b2;subst this;rcases a3 with ⟨a3,rfl⟩|⟨i,rfl,a3⟩<;>rcases b3 with ⟨b3,b4⟩|⟨j,b4,b3⟩
  ·exact b4
  ·have:=hh.dies j _ b3;rw [this] at hk;cases hk
  ·have:=hh.dies i _ a3;subst b4;rw [this] at hk';cases hk'
  ·rw [b4,hh.inj i j _ a3 b3]
 ·obtain ⟨k0,a1,a2,_⟩:=hh.old hk hi;exact h.lt k0 b o a1 a2
end sem
theorem HD {X:Cx} {hp hp':Hp} {ids:dC} {w:World} {G:Nat} {ρ:Int->Option Nm} {R:Nm} (h:HeapC X hp ids w) (hm:X.m<=G) (hh:s_ (bW hp) (bW hp') G ρ R):HeapC X hp' (kN G ρ ids) w/\fh X hp ids w hp' (kN G ρ ids) w:=by
 have hE:=hh.ext h.st;refine ⟨⟨hh.st h.st,λk hk h0 hl=>?_,λk hk hv=>?_⟩,hE⟩
 ·have hb:k.base≠G:=by omega
  by_cases hR:k=R
  ·subst hR;exact (h.kept k hk h0 hh.liveR.1).step hE hh.liveR.1 hl
  rcases hh.oth k hb hR with h1|h1
  ·exact (h.kept k hk h0 (by rw [←h1];exact hl)).step hE (by rw [←h1];exact hl) hl
  ·rw [h1] at hl;cases hl
 ·have hb:k.base≠G:=by omega
  by_cases hR:k=R
  ·subst hR;have:=hh.liveR.2;rw [hv] at this;cases this
  rcases hh.oth k hb hR with h1|h1
  ·exact h.nov k hk (by rw [←h1];exact hv)
  ·rw [h1] at hv;cases hv
def l_ (P:Program) (nx q:Nat) (rds:List Nm) (hp u:Hp):Prop :=
∀(X:Cx) (ids:dC) (w:World) (hp':Hp),X.P=P->X.m<=nx->HeapC X hp' ids w->(∀ k:Nm,k.key∈rds->bW hp' k=bW hp k)->(∀ k:Nm,nx<=k.base->k.base<nx+q->bW hp' k = .unborn) ->
 ∃ids',HeapC X (u++hp') ids' w/\fh X hp' ids w (u++hp') ids' w
def Ge (nx q:Nat) (rds:List Nm) (u:Hp):Bool:=u.all λp=>(Nat.ble nx p.1.base&&Nat.blt p.1.base (nx+q))||rds.any λk=>k==p.1.key
theorem l_.nil (P:Program) (nx:Nat) (hp:Hp):l_ P nx 0 [] hp []:=λX ids w hp' _ _ h _ _=>⟨ids,h,ky.refl _ _ _ _⟩
theorem l_.trans {P:Program} {nx q1 q2:Nat} {r1 r2:List Nm} {hp u1 u2:Hp} (g1:l_ P nx q1 r1 hp u1) (hk:(u1.all λp=>Nat.blt p.1.base (nx+q1))=true) (g2:l_ P (nx+q1) q2 r2 (u1++hp) u2):l_ P nx (q1+q2) (r1++r2) hp (u2++u1):=by
 intro X ids w hp' hP hm h hr hf;obtain ⟨GJ,a1,a2⟩:=g1 X ids w hp' hP hm h (λk hk=>hr k (lN _ hk)) (λk hk1 hk2=>hf k hk1 (by omega));obtain ⟨ids2,b1,b2⟩:=g2 X GJ w (u1++hp') hP (by omega) a1 (λk hk=>qR λ_=>hr k (jJ _ hk)) (λk hk1 hk2=>by
  have:k.key∉u1.map (·.1.key):=λhmem=>by
   obtain ⟨p,hp1,he⟩:=fH.1 hmem;have h3:=dP.1 hk p hp1;rw [kH] at h3;have:=dG Nm.base he;simp only [Nm.key_base] at this;omega
  rw [ja this];exact hf k (by omega) (by omega))
 rw [←f8] at b1 b2;exact ⟨ids2,b1,lm a2 b2⟩
theorem l_.cat {P:Program} {nx q1 q2 q:Nat} {r1 r2 r:List Nm} {hp u1 u2 u:Hp} (g1:l_ P nx q1 r1 hp u1) (g2:l_ P (nx+q1) q2 r2 (u1++hp) u2) (hk:(u1.all λp=>Nat.blt p.1.base (nx+q1))=true) (hq:q=q1+q2) (hr:r=r1++r2) (hu:u=u2++u1):l_ P nx q r hp u:=by
 subst hq;subst hr;subst hu;exact g1.trans hk g2
theorem zz.of {P:Program} {m nx q:Nat} {rds:List Nm} {hp u:Hp} {fr:Fr} (g:l_ P nx q rds hp u) (hk:(u.all λp=>Nat.blt p.1.base (nx+q))=true):zz P m fr hp nx fr (u++hp) (nx+q):=by
 intro X N a w hP hm ⟨ids,hH,hF,hN,hD⟩;obtain ⟨ids',h1,h2⟩:=g X ids w hp hP hH.m_le hH.toHeapC (λ_ _=>rfl) (λk hk _=>hH.fresh k hk);refine ⟨ids',⟨h1,λk hk'=>?_,mb hH.m_le (uM _ _)⟩,λd=>(hF d).mono h2,hN,hD⟩;rw [ja]
 ·exact hH.fresh k (by omega)
 ·intro hm;obtain ⟨p,hp1,hpk⟩:=fH.1 hm;have:=dP.1 hk p hp1;rw [kH] at this;have hb:p.1.base=k.base:=by rw [←Nm.key_base,hpk,Nm.key_base]
  omega
section run
variable {P:Program} {m N:Nat} {Q:g8} {fr:Fr} {hp:Hp} {nx:Nat} {ops:Array Oper}
theorem Gf {o:Oper} {e:dw} {u:Hp} {q:Nat} {r2:List Nm} (h:n8 P o fr hp nx (tH e)) (hle:nx<=e.nx) (g:l_ P e.nx q r2 (e.upd++hp) u) (hk:Ge e.nx q r2 u=true) (hb:∀ k∈r2,(k∈e.upd.map (·.1.key))\/bW hp k≠.unborn) (hkk:∀ k∈r2,k.key=k)
  (hlt:∀ p∈e.upd,p.1.base<e.nx) (r2e:List Nm) (hsub:∀ k∈r2,k∈e.upd.map (·.1.key)\/k∈r2e) :
  n8 P o fr hp nx (tH ⟨e.val,u++e.upd,e.nx+q,e.rds++r2e⟩):=by
 intro X ids w fr' hp' a hP h1 h2 h3 h4 h5 h6 KK Q hK;obtain ⟨h7,h8⟩:=h6 _ _ _ _ ⟨rfl,rfl,rfl,rfl⟩;simp only at h7 h8;refine h X ids w fr' hp' a hP h1 h2 h3 h4 h5 (λv u' n r he=>?_) KK Q (λv u' n r x w' ids' he hu k1 k2 k3=>?_)
 ·obtain ⟨rfl,rfl,rfl,rfl⟩:=he;exact ⟨λk a b=>h7 k a (by omega),λk hk=>h8 k (lN _ hk)⟩
 ·obtain ⟨rfl,rfl,rfl,rfl⟩:=he;have hag:∀ k:Nm,k.key∈r2->bW (e.upd++hp') k=bW (e.upd++hp) k:=λk hk=>qR λhn=>by
   rcases hsub _ hk with h9|h9
   ·exact absurd h9 hn
   ·exact h8 k (jJ _ h9)
  obtain ⟨ids2,d1,d2⟩:=g X ids' w' (e.upd++hp') hP (by omega) k1 hag (λk a b=>by
   have:k.key∉e.upd.map (·.1.key):=λhmem=>by
    obtain ⟨p,hp1,he⟩:=fH.1 hmem;have h3:=hlt p hp1;have:=dG Nm.base he;simp only [Nm.key_base] at this;omega
   rw [ja this];exact h7 k (by omega) (by omega))
  rw [←f8] at d1 d2;refine hK e.val (u++e.upd) (e.nx+q) (e.rds++r2e) x w' ids2 ⟨rfl,rfl,rfl,rfl⟩ ⟨by omega,λp hp1=>?_⟩ d1 (lm k2 d2) (k3.mono d2);rcases gv.1 hp1 with hp1|hp1
  ·have:=dP.1 hk p hp1;simp only [kZ,cR,nk,jH] at this;rcases this with ⟨c1,c2⟩|⟨k,c1,c2⟩
   ·have:=cU c1;rw [kH] at c2;exact .inl ⟨by omega,c2⟩
   ·subst c2;rcases hsub _ c1 with h9|h9
    ·obtain ⟨p2,hp2,he2⟩:=fH.1 h9;rcases hu.keys p2 hp2 with ⟨f1,f2⟩|⟨f1,f2⟩
     ·have:=dG Nm.base he2;simp only [Nm.key_base] at this;exact .inl ⟨by omega,by omega⟩
     ·rw [he2] at f1 f2;exact .inr ⟨lN _ f1,f2⟩
    ·rcases hb _ c1 with h10|h10
     ·obtain ⟨p2,hp2,he2⟩:=fH.1 h10;rcases hu.keys p2 hp2 with ⟨f1,f2⟩|⟨f1,f2⟩
      ·have:=dG Nm.base he2;simp only [Nm.key_base] at this;exact .inl ⟨by omega,by omega⟩
      ·rw [he2] at f1 f2;exact .inr ⟨lN _ f1,f2⟩
     ·exact .inr ⟨jJ _ h9,_,by rw [hkk _ c1],h10⟩
  ·rcases hu.keys p hp1 with ⟨f1,f2⟩|⟨f1,f2⟩
   ·exact .inl ⟨f1,by omega⟩
   ·exact .inr ⟨lN _ f1,f2⟩
theorem KL {o:Oper} {s:Prop} {e:dw} (hop:kL P true fr hp nx o.type o.op = .ok s e) (hs:s):n8 P o fr hp nx (tH e):=by
 obtain ⟨k1,k2⟩:=yr hop;refine λX ids w fr' hp' a hP h1 h2 h3 h4 h5 h6 KK Q hK=>?_
 subst hP;obtain ⟨_,hag⟩:=h6 _ _ _ _ ⟨rfl,rfl,rfl,rfl⟩;have hop':=p7 hop h4 hag;obtain ⟨x,w',ids',g1,g2,g3,g4⟩:=uV (X:=X) ⟨h1,h5,h2⟩ h3 (g:=true) rfl hop' hs;exact m3 g1 (hK _ _ _ _ _ _ _ ⟨rfl,rfl,rfl,rfl⟩ ⟨k1,λp hp1=>(k2 p hp1).imp (λhh=>by rw [hh.1];simp;omega) id⟩ g2 g3 g4)
def BW:cp->Bool
 | .unborn=>false
 | _=>true
theorem xz {d:Bool} {l:List Oper} {acc:List fR} {K:Fr->Hp->Nat->Prop} (dst:Option Tmp) (r:eX) (e:dw) (u:Hp) (q:Nat) (r2 r2e:List Nm) (hc:(s8 P ops fr l).map (λo=>(o.dst,kL P true fr hp nx o.type o.op,uY o.op))=some (dst,r,true)) (hob:gP r e) (g:l_ P e.nx q r2 (e.upd++hp) u)
  (hk:(Ge e.nx q r2 u,Nat.ble nx e.nx,r2.all (λk=>k.key==k),e.upd.all (λp=>Nat.blt p.1.base e.nx),r2.all (λk=>(e.upd.any λp=>p.1.key==k)||r2e.any λj=>j==k),r2e.all (λk=>BW (bW hp k)))=(true,true,true,true,true,true))
  (h:dY P d ops (l.drop 1) (gg dst e.val fr) (u++e.upd++hp) (bif d then e.nx+q+1 else e.nx+q) (acc++[⟨(u++e.upd).map (·.1.key),e.rds++r2e,nx,e.nx+q⟩]) K):dY P d ops l fr hp nx acc K:=by
 obtain ⟨o,ho,hh⟩:=mw.1 hc;simp only [iH] at hh hk;obtain ⟨rfl,hop,hso⟩:=hh;obtain ⟨s,rfl,hs⟩:=yA hob;obtain ⟨k1,k2,k3,k4,k5,k6⟩:=hk;have hb:∀ k∈r2e,bW hp k≠.unborn:=λk hk e=>by have:=dP.1 k6 k hk;rw [e] at this;cases this
 simp only [dP,kZ,nk,jH,kH] at k3 k4 k5;have hle:=cU k2;have hsub:∀ k∈r2,k∈e.upd.map (·.1.key)\/k∈r2e:=λk hk=>(k5 k hk).imp (λ⟨p,hp,he⟩=>fH.2 ⟨p,hp,he⟩) (λ⟨j,hj,he⟩=>he▸hj);exact xx o ⟨e.val,u++e.upd,e.nx+q,e.rds++r2e⟩ ho (by simp only;omega) hso (Gf (KL hop hs) hle g k1 (λk hk=>(hsub k hk).imp id (hb k)) k3 k4 r2e hsub) h
end run
end
section
open Go.RowKit
variable {α β:Type}
inductive DL where
 | p (s:SV)
 | o (e:TypeId) (n:Nat) (cs:List SV)
def DL.flat:DL->SV
 | .p s=>s
 | .o _ n cs=>.sl n cs
def DL.ok:DL->Bool
 | .p (.v x)=>x.oneCell'
 | .p (.sl _ cs)=>ir cs
 | .p _=>false
 | .o _ _ cs=>ir cs
def pd:List DL->List (TypeId×Nat×List SV)
 | []=>[]
 | .p _::r=>pd r
 | .o e n cs::r=>(e,n,cs)::pd r
def Da:List (TypeId×Nat×List SV)->Prop
 | []=>True
 | t::r=>(t.2.1=0->t.2.2=[])/\Da r
theorem Da.mem:∀ {l:List (TypeId×Nat×List SV)},Da l->∀ t∈l,t.2.1=0->t.2.2=[]
 | [],_,t,h=>by cases h
 | a::r,h,t,ht=>by
  rcases fc.1 ht with rfl|ht
  ·exact h.1
  ·exact Da.mem h.2 t ht
structure DE (α:Type) [b_ α] where
 dl:α->List DL
 no:Nat
 flat:∀ a,(dl a).map DL.flat=b_.cells a
 num:∀ a,(pd (dl a)).length=no
 dfl:(pd (dl default)).map (·.2)=List.replicate no (0,[])
 ok:∀ a,(dl a).all DL.ok=true
 wi:∀ a,Da (pd (dl a))
def E0:Option Nm->Nat->SV
 | some k,n=>.own k 0 n
 | none,_=>.v (.slice none 0 0)
def uu (N:Nat->Option Nm):Nat->List DL->List SV
 | _,[]=>[]
 | j,.p s::r=>s::uu N j r
 | j,.o _ n _::r=>E0 (N j) n::uu N (j+1) r
theorem w_ {N N':Nat->Option Nm}:∀ (l:List DL) (j:Nat),(∀ q,j<=q->q<j+(pd l).length->N q=N' q)->uu N j l=uu N' j l
 | [],_,_=>rfl
 | .p s::r,j,h=>by simp only [uu];rw [w_ r j h]
 | .o e n cs::r,j,h=>by
  simp only [uu]
  simp only [pd,gq] at h
  rw [h j (cE _) (by omega),w_ r (j+1) λq a b=>h q (by omega) (by omega)]
variable [b_ α]
theorem DE.len (D:DE α) (a:α):(D.dl a).length=b_.sz α:=by
 rw [←b_.len a,←D.flat a,ew]
def uv (D:DE α) (N:Nat->Int->Option Nm):Nat->List α->List SV
 | _,[]=>[]
 | b,x::xs=>uu (λj=>N j (b:Nat)) 0 (D.dl x)++uv D N (b+1) xs
def nF (Fs:List Nat) (j:Nat) (i:Int):Option Nm:=some (.s (Fs.getD j 0) i)
def E7 (D:DE α) (Fs:List Nat) (xs:List α):List SV:=uv D (nF Fs) 0 xs
def Db (D:DE α) (j:Nat) (a:α):cp:=match (pd (D.dl a))[j]? with
 | some t=>.row t.1 t.2.2
 | none=>.dead
def HE (xs:List α) (i:Int):α:=bif decide (0<=i) then ix xs i else default
def oa (D:DE α) (j:Nat) (xs:List α):Int->cp:=λi=>Db D j (HE xs i)
theorem HF (D:DE α) (j:Nat) (a:α) (g:Int->cp) (i:Int) (h:g i=Db D j a):(cp.fam g).at i=Db D j a:=by
 simp only [cp.at,h];unfold Db;split
 ·rename_i h2;split at h2<;>cases h2
 ·rename_i h2;split at h2<;>cases h2
 ·rfl
theorem E8 (D:DE α) (j:Nat) (xs:List α) (i:Int):(cp.fam (oa D j xs)).at i=oa D j xs i:=HF D j (HE xs i) _ i rfl
theorem KM (D:DE α) {j:Nat} (hj:j<D.no) (a:α):∃ e n cs,(pd (D.dl a))[j]? = some (e,n,cs)/\Db D j a = .row e cs:=by
 have h:j<(pd (D.dl a)).length:=by rw [D.num];exact hj
 refine ⟨_,_,_,dy h,?_⟩;unfold Db;rw [dy h];rfl
theorem Bu (D:DE α) {N N':Nat->Int->Option Nm}:∀ (xs:List α) (b:Nat),(∀ j (i:Nat),j<D.no->b<=i->i<b+xs.length->N j i=N' j i)->uv D N b xs=uv D N' b xs
 | [],_,_=>rfl
 | x::xs,b,h=>by
  simp only [gq] at h
  rw [uv,uv,Bu D xs (b+1) λj i hj h1 h2=>h j i hj (by omega) (by omega),w_ (N:=λj=>N j (b:Nat)) (N':=λj=>N' j (b:Nat)) (D.dl x) 0 λq _ hq=>h q b (by rw [D.num] at hq;omega) (cE _) (by omega)]
def Pw (Q:SV->SV->Prop):List SV->List SV->Prop
 | [],[]=>True
 | x::xs,y::ys=>Q x y/\Pw Q xs ys
 | _,_=>False
theorem Pw.app {Q:SV->SV->Prop}:∀ {xs ys zs ws:List SV},Pw Q xs ys->Pw Q zs ws->Pw Q (xs++zs) (ys++ws)
 | [],[],_,_,_,h=>h
 | a::xs,b::ys,_,_,h,g=>⟨h.1,Pw.app h.2 g⟩
 | [],_::_,_,_,h,_=>h.elim
 | _::_,[],_,_,h,_=>h.elim
theorem Pw.get {Q:SV->SV->Prop}:∀ {xs ys:List SV},Pw Q xs ys->ys.length=xs.length/\∀ (i:Nat) (x y:SV),xs[i]? = some x->ys[i]? = some y->Q x y
 | [],[],_=>⟨rfl,λi x y h=>by simp at h⟩
 | a::xs,b::ys,h=>by
  obtain ⟨h1,h2⟩:=Pw.get h.2
  refine ⟨by simp [h1],λi x y hx hy=>?_⟩
  cases i with
  | zero=>simp at hx hy;subst hx;subst hy;exact h.1
  | succ i=>exact h2 i x y (by simpa using hx) (by simpa using hy)
 | [],_::_,h=>h.elim
 | _::_,[],h=>h.elim
theorem Dc {Q:SV->SV->Prop} {N N':Nat->Option Nm}:∀ (l:List DL) (j:Nat),(∀ s,DL.p s∈l->Q s s)->(∀ q t,(pd l)[q]? = some t->Q (E0 (N (j+q)) t.2.1) (E0 (N' (j+q)) t.2.1))->Pw Q (uu N j l) (uu N' j l)
 | [],_,_,_=>trivial
 | .p s::r,j,hp,h=>⟨hp s (by simp),Dc r j (λs hs=>hp s (by simp [hs])) h⟩
 | .o e n cs::r,j,hp,h=>⟨h 0 (e,n,cs) rfl,Dc r (j+1) (λs hs=>hp s (by simp [hs])) λq t hq=>by
  have:=h (q+1) t (by simpa [pd] using hq)
  rwa [show j+(q+1)=j+1+q from by omega] at this⟩
theorem HG (D:DE α) {Q:SV->SV->Prop} {N N':Nat->Int->Option Nm}:∀ (xs:List α) (b:Nat),(∀ x∈xs,∀ s,DL.p s∈D.dl x->Q s s)->(∀ (i q:Nat) t,i<xs.length->(pd (D.dl (xs.getD i default)))[q]? = some t->Q (E0 (N q ((b+i:Nat):Int)) t.2.1) (E0 (N' q ((b+i:Nat):Int)) t.2.1))->Pw Q (uv D N b xs) (uv D N' b xs)
 | [],_,_,_=>trivial
 | x::xs,b,hp,h=>by
  refine Pw.app (Dc _ _ (hp x (by simp)) λq t hq=>?_) (HG D xs (b+1) (λy hy=>hp y (by simp [hy])) λi q t hi hq=>?_)
  ·rw [dj];exact h 0 q t (by simp) hq
  ·have:=h (i+1) q t (by simpa using hi) (by simpa using hq)
   rwa [show b+(i+1)=b+1+i from by omega] at this
variable {P:Program} {hp:Hp} {nx:Nat}
end
section
open Go.RowKit
variable {α β:Type} [b_ α] {P:Program} {hp:Hp} {nx:Nat}
end
section
open Go.RowKit
variable {α β:Type} [b_ α] {P:Program} {hp hp':Hp} {nx:Nat} {σ:List (Nm×Nm)} {frz:List Nm}
theorem Dd:∀ {xs ys:List SV},Pw (fu hp hp' σ frz) xs ys->lT hp hp' σ frz xs ys
 | [],[],_=>by simp only [lT]
 | x::xs,y::ys,h=>by simp only [lT];exact ⟨h.1,Dd h.2⟩
 | [],_::_,h=>h.elim
 | _::_,[],h=>h.elim
theorem HH {s:SV} (h:DL.ok (.p s)=true):fu hp hp' σ frz s s:=by
 cases s<;>simp only [DL.ok] at h<;>first|cases h|skip
 ·simp only [fu]
 ·simp only [fu];exact ⟨trivial,trivial,ju h⟩
def AB (hp':Hp) (σ:List (Nm×Nm)) (D:DE α) (xs:List α):Nat->List Nat->List Nat->Prop
 | j,F::Fs,F'::Fs'=>(dh σ (.s F' 0)=some (.s F 0)/\ip hp' (.s F' 0) = .fam (oa D j xs))/\AB hp' σ D xs (j+1) Fs Fs'
 | j,[],[]=>j=D.no
 | _,_,_=>False
theorem HI {D:DE α} {xs:List α} {j F F':Nat} {Fs Fs':List Nat}:AB hp' σ D xs j (F::Fs) (F'::Fs')=((dh σ (.s F' 0)=some (.s F 0)/\ip hp' (.s F' 0) = .fam (oa D j xs))/\AB hp' σ D xs (j+1) Fs Fs'):=propext Iff.rfl
theorem IP {D:DE α} {xs:List α} {j:Nat} :AB hp' σ D xs j [] []=(j=D.no):=propext Iff.rfl
theorem De {D:DE α} {xs:List α} :∀ {Fs Fs':List Nat} {j0:Nat},AB hp' σ D xs j0 Fs Fs'->j0+Fs.length=D.no/\∀ j,j<Fs.length->dh σ (.s (Fs'.getD j 0) 0)=some (.s (Fs.getD j 0) 0)/\ip hp' (.s (Fs'.getD j 0) 0) = .fam (oa D (j0+j) xs)
 | [],[],j0,h=>⟨h,λj hj=>by simp at hj⟩
 | F::Fs,F'::Fs',j0,h=>by
  obtain ⟨h1,h2⟩:=De h.2
  refine ⟨by rw [gq];omega,λj hj=>?_⟩
  cases j with
  | zero=>exact h.1
  | succ j =>
   have:=h2 j (by simpa using hj)
   rwa [show j0+1+j=j0+(j+1) from by omega] at this
 | [],_::_,_,h=>h.elim
 | _::_,[],_,h=>h.elim
theorem x8 {k:Nm}:∀ {hp:Hp},ip hp k≠.unborn->∃ p∈hp,p.1.key=k.key
 | [],h=>absurd rfl h
 | p::r,h=>by
  by_cases hk:p.1.key=k.key
  ·exact ⟨p,by simp,hk⟩
  ·simp only [ip] at h
   rw [Nm.eqk_no hk,ck] at h
   obtain ⟨q,hq,he⟩:=x8 h
   exact ⟨q,by simp [hq],he⟩
theorem nw {F:Nat} {g:Int->cp} (h:ip hp (.s F 0) = .fam g) (i:Int):bW hp (.s F i)=(cp.fam g).at i:=by
 have hx:=x8 (hp:=hp) (k:=.s F 0) (by rw [h];simp);rw [yC (.s F i) hx,yB (show (Nm.s F i).key=(Nm.s F 0).key from rfl),h];rfl
theorem Df {F F':Nat} (h:dh σ (.s F' 0)=some (.s F 0)) (i:Int):dh σ (.s F' i)=some (.s F i):=by
 rw [js σ F' i,h];rfl
theorem HJ {D:DE α} {j:Nat} (hj:j<D.no) (xs:List α) (i:Int):((cp.fam (oa D j xs)).at i).live=true:=by
 rw [E8];obtain ⟨e,n,cs,_,h⟩:=KM D hj (HE xs i);unfold oa;rw [h];rfl
theorem xA {D:DE α} {Fs Fs':List Nat} {xs:List α} (h:AB hp' σ D xs 0 Fs Fs'):lT hp hp' σ frz (E7 D Fs xs) (E7 D Fs' xs)=True:=by
 refine eq_true (Dd (HG D xs 0 (λx _ s hs=>HH (dP.1 (D.ok x) _ hs)) λi q t hi hq=>?_));obtain ⟨h1,h2⟩:=De h;have hq':q<D.no:=by rw [←D.num (xs.getD i default)];exact (dx.1 hq).1
 obtain ⟨h3,h4⟩:=h2 q (by omega);rw [dj] at h4;simp only [nF,E0,fu];exact ⟨Df h3 _,trivial,trivial,by rw [nw h4];exact HJ hq' xs _⟩
def BX (hp:Hp) (σ:List (Nm×Nm)) (F':Nat) (g:Int->cp):Prop:=match dh σ (.s F' 0) with
 | some k=>ip hp (.s k.base 0) = .fam g
 | none=>False
theorem NC (D:DE α) (a:α):∀ t∈pd (D.dl a),ir t.2.2=true:=by
 have gen:∀ l:List DL,l.all DL.ok=true->∀ t∈pd l,ir t.2.2=true:=by
  intro l;induction l with
  | nil=>intro _ t ht;cases ht
  | cons a l ih =>
   intro hl t ht;simp only [mK,cR] at hl;cases a with
   | p s=>exact ih hl.2 t ht
   | o e n cs =>
    rcases fc.1 ht with rfl|ht
    ·exact hl.1
    ·exact ih hl.2 t ht
 exact gen _ (D.ok a)
theorem IQ (τ:Nm->Nm) (D:DE α) (j:Nat) (xs:List α) (i:Int):io τ (oa D j xs i)=oa D j xs i:=by
 unfold oa Db;cases ho:(pd (D.dl (HE xs i)))[j]? with
 | none=>rfl
 | some t =>
  simp only [io];rw [nY (ju (NC D _ t (pN ho)))]
theorem AC (τ:Nm->Nm) (N N':Nat->Option Nm) (h:∀ j,(N j).map τ=N' j):∀ (l:List DL) (j:Nat),l.all DL.ok=true->jC τ (uu N j l)=uu N' j l
 | [],_,_=>rfl
 | .p s::r,j,hl=>by
  simp only [mK,cR] at hl
  simp only [uu,jC,AC τ N N' h r j hl.2]
  congr 1
  refine s5 ?_
  have:=hl.1
  cases s<;>simp only [DL.ok] at this<;>first|cases this|skip
  ·rfl
  ·exact ju this
 | .o e n cs::r,j,hl=>by
  simp only [mK,cR] at hl
  simp only [uu,jC,AC τ N N' h r (j+1) hl.2,←h j]
  congr 1
  cases N j<;>rfl
theorem IR (τ:Nm->Nm) (xs ys:List SV):jC τ (xs++ys)=jC τ xs++jC τ ys:=by rw [lf,lf,lf,kJ]
theorem E9 (D:DE α) (τ:Nm->Nm) (N N':Nat->Int->Option Nm) (h:∀ j i,(N j i).map τ=N' j i):∀ (xs:List α) (b:Nat),jC τ (uv D N b xs)=uv D N' b xs
 | [],_=>rfl
 | x::xs,b=>by rw [uv,uv,IR,E9 D τ N N' h xs,AC τ _ _ (λj=>h j b) _ _ (D.ok x)]
def Dg (σ:List (Nm×Nm)) (nx:Nat) (Fs:List Nat):List Nat:=Fs.map λF=>(f7 (dh σ) nx (.s F 0)).base
def Mq (Fs:List Nat) (D:DE α):Prop:=Fs.length=D.no
theorem KN (Fs:List Nat) (D:DE α):Mq Fs D=(Fs.length=D.no):=propext Iff.rfl
theorem vk (D:DE α) (Fs:List Nat) (xs:List α) (hF:Mq Fs D):jC (f7 (dh σ) nx) (E7 D Fs xs)=E7 D (Dg σ nx Fs) xs:=by
 have h1:jC (f7 (dh σ) nx) (E7 D Fs xs)=uv D (λj i=>(nF Fs j i).map (f7 (dh σ) nx)) 0 xs:=E9 D _ _ _ (λj i=>rfl) xs 0;rw [h1];refine Bu D xs 0 λj i hj _ _=>?_
 have hl:j<Fs.length:=by have:Fs.length=D.no:=hF;omega
 simp only [nF,fj,Dg,dz,fW,dy hl,gY];rw [uW (js σ)]
def Gg (hp:Hp) (frz:List Nm) (D:DE α) (xs:List α):Nat->List Nat->Prop
 | j,F::Fs=>(qk frz (.s F 0)=true/\ip hp (.s F 0) = .fam (oa D j xs))/\Gg hp frz D xs (j+1) Fs
 | j,[]=>j=D.no
theorem HK {D:DE α} {xs:List α} {j F:Nat} {Fs:List Nat}:Gg hp frz D xs j (F::Fs)=((qk frz (.s F 0)=true/\ip hp (.s F 0) = .fam (oa D j xs))/\Gg hp frz D xs (j+1) Fs):=propext Iff.rfl
theorem IS {D:DE α} {xs:List α} {j:Nat} :Gg hp frz D xs j []=(j=D.no):=propext Iff.rfl
theorem HL (d:Nm) (x:cp) (r:Hp) (t:Nm):ip ((d,x)::r) t=bif d.eqk t then x else ip r t:=rfl
theorem IT (t:Nm):ip [] t = .unborn:=rfl
theorem HM (σ:List (Nm×Nm)) (nx F:Nat) (Fs:List Nat):Dg σ nx (F::Fs)=(f7 (dh σ) nx (.s F 0)).base::Dg σ nx Fs:=rfl
theorem IU (σ:List (Nm×Nm)) (nx:Nat):Dg σ nx []=[]:=rfl
theorem KO (i:Int):cp.dead.at i = .dead:=rfl
attribute [push_cast] HI IP xA IQ HK IS HL IT HM IU KO vk KN
end
section
open Go.RowKit
variable {α:Type} [b_ α] {P:Program} {hp:Hp} {nx:Nat} {fr:Fr} {ops:Array Oper}
def rW (hp:Hp) (F:Nat):Int->cp:=λj=>bW hp (.s F j)
theorem Mr (F:Nat) (i:Int) (c:cp) (hp:Hp):d8 (.s F i) c hp=(.s F 0,.fam (sO (rW hp F) i c)):=rfl
theorem Ms (k:Nat) (c:cp) (r:Hp) (F:Nat):rW ((.t k,c)::r) F=rW r F:=rfl
theorem Mt (D:DE α) (j:Nat) (xs:List α) (G:Nat) (z:Int) (r:Hp) (F:Nat):rW ((.s G z,.fam (oa D j xs))::r) F=bif G==F then oa D j xs else rW r F:=by
 funext q;simp only [rW,bW,Nm.eqk];cases G==F with
 | true=>simp only [cd,cp.mem];exact E8 D j xs q
 | false=>rfl
theorem Mu (D:DE α) (j:Nat) (xs:List α) (i:Int) (G:Nat) (z:Int) (r:Hp) (F:Nat):rW ((.s G z,.fam (sO (oa D j xs) i .dead))::r) F=bif G==F then sO (oa D j xs) i .dead else rW r F:=by
 funext q;simp only [rW,bW,Nm.eqk];cases G==F with
 | true =>
  simp only [cd,cp.mem];by_cases hq:q=i
  ·subst hq;simp [cp.at,sO]
  ·have h:sO (oa D j xs) i .dead q=oa D j xs q:=by unfold sO;rw [show (q==i)=false from by simpa using hq];rfl
   rw [h];exact HF D j (HE xs q) _ q h
 | false=>rfl
theorem KP (g:Int->cp) (i:Int) (c c':cp):sO (sO g i c) i c'=sO g i c':=by
 funext q;unfold sO;cases q==i<;>rfl
theorem KQ (D:DE α) (Fs:List Nat):E7 D Fs []=[]:=rfl
def Dh (xs:List α):List SV:=fl xs
theorem Gh:Dh ([]:List α)=[]:=rfl
theorem Ew (x:α) (xs:List α):Dh (x::xs)=b_.cells x++Dh xs:=rfl
theorem IV {hp hp':Hp} {σ:List (Nm×Nm)} {frz:List Nm} {k:Nm} (h:qk frz k=true/\sr (bW hp k) []):fu hp hp' σ frz (.own k 0 0) (.sl 0 [])=True:=by
 obtain ⟨h2,h3⟩:=h;refine eq_true ?_;simp only [fu];refine ⟨trivial,oF h2,?_⟩;cases hk:bW hp k with
 | row e cs =>
  rw [hk] at h3;simp only [sr] at h3;subst h3;exact ⟨e,[],0,rfl,λ_=>rfl,.inl ⟨rfl,rfl⟩⟩
 | _=>rw [hk] at h3;exact h3.elim
theorem HN (τ:Nm->Nm) (b:Bool) (x y:SV):iz τ (bif b then x else y)=bif b then iz τ x else iz τ y:=by cases b<;>rfl
theorem IW {hp hp':Hp} {σ:List (Nm×Nm)} {frz:List Nm} {b:Bool} {x y x' y':SV} (h:fu hp hp' σ frz x x'/\fu hp hp' σ frz y y'):fu hp hp' σ frz (bif b then x else y) (bif b then x' else y')=True:=by
 refine eq_true ?_;cases b with
 | true=>exact h.1
 | false=>exact h.2
theorem Ex (i:Nat) (x:SV) (xs:List SV):qi i (x::xs)=(i,x)::qi (i+1) xs:=rfl
theorem Gi (i:Nat):qi i []=[]:=rfl
attribute [push_cast] IV HN IW Ex Gi
attribute [push_cast] Gh Ew
attribute [push_cast] Mr Ms Mt Mu KP implies_true KQ
def BY (hp:Hp):List Nm->Prop
 | []=>True
 | k::ks=>BW (bW hp k)=true/\BY hp ks
theorem BY.all {hp:Hp}:∀ {ks:List Nm},BY hp ks->ks.all (λk=>BW (bW hp k))=true
 | [],_=>rfl
 | k::ks,h=>by rw [mK,h.1,h.2.all];rfl
theorem Di {hp:Hp} {F:Nat} (g:Int->cp) (h:ip hp (.s F 0) = .fam g):BW (bW hp (.s F 0))=true:=by
 rw [nw h];cases hc:(cp.fam g).at 0 with
 | unborn=>exact absurd hc (xl _ _)
 | _=>rfl
theorem Dj {P:Program} {fr:Fr} {hp:Hp} {nx:Nat} {ops:Array Oper} {d:Bool} {l:List Oper} {acc:List fR} {K:Fr->Hp->Nat->Prop} (dst:Option Tmp) (r:eX) (e:dw) (u:Hp) (q:Nat) (r2 r2e:List Nm) (hc:(s8 P ops fr l).map (λo=>(o.dst,kL P true fr hp nx o.type o.op,uY o.op))=some (dst,r,true)) (hob:gP r e) (g:l_ P e.nx q r2 (e.upd++hp) u)
  (hk:(Ge e.nx q r2 u,Nat.ble nx e.nx,r2.all (λk=>k.key==k),e.upd.all (λp=>Nat.blt p.1.base e.nx),r2.all (λk=>(e.upd.any λp=>p.1.key==k)||r2e.any λj=>j==k))=(true,true,true,true,true)) (hb:BY hp r2e)
  (h:dY P d ops (l.drop 1) (gg dst e.val fr) (u++e.upd++hp) (bif d then e.nx+q+1 else e.nx+q) (acc++[⟨(u++e.upd).map (·.1.key),e.rds++r2e,nx,e.nx+q⟩]) K):dY P d ops l fr hp nx acc K:=by
 refine xz dst r e u q r2 r2e hc hob g ?_ h;simp only [iH] at hk ⊢;obtain ⟨k1,k2,k3,k4,k5⟩:=hk;exact ⟨k1,k2,k3,k4,k5,hb.all⟩
end
section
open Go.RowKit
variable {P:Program}
theorem xb {hp:Hp} {nx r:Nat} {e:TypeId} {cs cs':List SV} (hR:bW hp (.t r) = .row e cs) (hw:cs.map n_=cs'):l_ P nx 0 [Nm.t r] hp [(Nm.t r,.row e cs')]:=by
 intro X ids w hp' hP hm hC hag hf;have hk:bW hp' (.t r) = .row e cs:=(hag (.t r) (by simp [Nm.key])).trans hR;subst hw;have:=Eu hC hk (cs':=cs.map n_) (by simp) (λi x y v h1 h2 h3=>by
  rw [fW,h1] at h2;cases h2;exact C_ h3)
 exact ⟨ids,this⟩
theorem E_ {α:Type} [b_ α] (n:Nat) (zs:List SV) (hzs:zs.map n_=b_.cells (default:α)):((List.range n).flatMap λ_=>zs).map n_=fl (List.replicate n (default:α)):=by
 rw [←CX n (zs.map n_) hzs,List.map_flatMap]
theorem HO {α:Type} (n:Int) (e:TypeId) (B:Nat) (hB:P.bytesOf e=B) (zs:List SV) (z:Nat) (hz:zs.length=z) (hpos:0<z) (d:α) (k:0<=n/\n<=4611686018427387904/\(B:Int)*n<=140737488355328) (nx:Nat) :
  gP (.ok (0<=n/\n<=n/\n<=4611686018427387904/\(P.bytesOf e:Int)*n<=140737488355328/\zs.length=z/\0<z) ⟨.own nx 0 n.toNat,[(Nm.t nx,.row e ((List.range n.toNat).flatMap λ_=>zs))],nx+1,[]⟩) ⟨.own nx 0 (List.replicate n.toNat d).length,[(Nm.t nx,.row e ((List.range n.toNat).flatMap λ_=>zs))],nx+1,[]⟩:=by
 subst hB;exact jg ⟨k.1,iV _,k.2.1,k.2.2,hz,hpos⟩ (by rw [tw]) rfl
end
section
open Go.RowKit
variable {P:Program} {fr:Fr} {hp:Hp} {nx:Nat}
end
section
open Go.RowKit
variable {P:Program} {hp hin:Hp} {nx:Nat}
def isT:Nm->Bool
 | .t _=>true
 | _=>false
def Gj:Nat->Fr->Fr
 | 0,fr=>fr
 | _+1,[]=>[]
 | n+1,p::r=>p::(Gj n r).filter λq=>!(q.1==p.1)
def Gk:Nat->Hp->Hp
 | 0,hp=>hp
 | _+1,[]=>[]
 | n+1,p::r=>p::(Gk n r).filter λq=>!(q.1.eqk p.1)
theorem ud (a d:Nat) (h:a≠d):∀ fr:Fr,cM (fr.filter λq=>!(q.1==a)) d=cM fr d
 | []=>rfl
 | p::r=>by
  simp only [List.filter]
  cases he:p.1==a with
  | true =>
   simp only [jq,cM]
   rw [ud a d h r]
   have:p.1=a:=by simpa using he
   rw [show (p.1==d)=false from by simpa using λe=>h (this▸e)];rfl
  | false=>simp only [oo,cM];rw [ud a d h r]
theorem Dk:∀ (n:Nat) (fr:Fr) (d:Nat),cM (Gj n fr) d=cM fr d
 | 0,fr,d=>rfl
 | n+1,[],d=>rfl
 | n+1,p::r,d=>by
  simp only [Gj,cM]
  cases he:p.1==d with
  | true=>rfl
  | false=>simp only [ck];rw [ud p.1 d (by simpa using he),Dk n r d]
theorem ue (a d:Nm) (h:a.key≠d.key):∀ hp:Hp,bW (hp.filter λq=>!(q.1.eqk a)) d=bW hp d
 | []=>rfl
 | p::r=>by
  simp only [List.filter]
  cases he:p.1.eqk a with
  | true =>
   simp only [jq,bW]
   rw [ue a d h r]
   have:p.1.key=a.key:=Nm.eqk_iff.1 he
   rw [Nm.eqk_no (λe=>h (this▸e))];rfl
  | false=>simp only [oo,bW];rw [ue a d h r]
theorem Dl:∀ (n:Nat) (hp:Hp) (d:Nm),bW (Gk n hp) d=bW hp d
 | 0,hp,d=>rfl
 | n+1,[],d=>rfl
 | n+1,p::r,d=>by
  simp only [Gk,bW]
  cases he:p.1.eqk d with
  | true=>rfl
  | false =>
   simp only [ck]
   rw [ue p.1 d (λe=>by rw [Nm.eqk_iff.2 e] at he;cases he),Dl n r d]
theorem HP (a b:Nat) (fr:Fr) (hp:Hp):FU fr (Gj a fr) hp (Gk b hp):=⟨λd=>.inl (Dk a fr d),λk=>Dl b hp k⟩
end
section
open Go.RowKit
variable {P:Program} {hp:Hp} {nx:Nat}
def Bv (k:IntKind) (m:List (Int×Int)):List (Value×SV):=m.map λp=>(.int k p.1,.v (.int .i64 p.2))
theorem KR (j:IntKind) (k a:Int):gO (.int j k) (.int j a)=(k==a):=by simp [gO,kg]
theorem Dm (j:IntKind) (k:Int):∀ (m:List (Int×Int)) (i:Nat),(eV (.int j k) (Bv j m) i).map (·.2)=(m.find? λp=>k==p.1).map λp=>.v (.int .i64 p.2)
 | [],i=>rfl
 | p::r,i=>by
  show (bif gO (.int j k) (.int j p.1) then _ else eV _ (Bv j r) (i+1)).map (·.2)=_
  rw [KR,List.find?_cons]
  cases h:k==p.1 with
  | true=>simp
  | false=>simpa using Dm j k r (i+1)
theorem HQ (j:IntKind) (m:List (Int×Int)) (k:Int):gz (.int .i64 0) (.int j k) (Bv j m) = .v (.int .i64 (fU m k)):=by
 have:=Dm j k m 0;unfold gz fU;cases h:eV (.int j k) (Bv j m) 0 with
 | none=>rw [h] at this;cases hf:m.find? (λp=>k==p.1) with
  | none=>rfl
  | some p=>rw [hf] at this;simp at this
 | some q=>rw [h] at this;cases hf:m.find? (λp=>k==p.1) with
  | none=>rw [hf] at this;simp at this
  | some p=>rw [hf] at this;simp at this;simp [this]
theorem HR (j:IntKind) (m:List (Int×Int)) (k:Int):(Bv j m).all (λp=>gK (.int j k) p.1)=true:=by simp [Bv,gK]
theorem IX (j:IntKind) (k:Int) (mm:List (Int×Int)) (kk:Nm) (nx:Nat):gP (.ok (lZ (.int j) (.int j k)=true/\(Bv j mm).all (λp=>gK (.int j k) p.1)=true) ⟨gz (.int .i64 0) (.int j k) (Bv j mm),[],nx,[kk.key]⟩) ⟨.v (.int .i64 (fU mm k)),[],nx,[kk.key]⟩ :=
 jg ⟨rfl,HR j mm k⟩ (HQ j mm k) rfl
def Dn (m:List (Bool×Int)):List (Value×SV):=m.map λp=>(.bool p.1,.v (.int .i64 p.2))
def mV (m:List (Bool×Int)) (b:Bool):Int:=((m.find? λp=>b==p.1).map (·.2)).getD 0
theorem Do (k:Bool):∀ (m:List (Bool×Int)) (i:Nat),(eV (.bool k) (Dn m) i).map (·.2)=(m.find? λp=>k==p.1).map λp=>.v (.int .i64 p.2)
 | [],i=>rfl
 | p::r,i=>by
  show (bif gO (.bool k) (.bool p.1) then _ else eV _ (Dn r) (i+1)).map (·.2)=_
  rw [List.find?_cons]
  simp only [gO,kg]
  cases h:k==p.1 with
  | true=>simp
  | false=>simpa using Do k r (i+1)
theorem HS (m:List (Bool×Int)) (k:Bool):gz (.int .i64 0) (.bool k) (Dn m) = .v (.int .i64 (mV m k)):=by
 have:=Do k m 0;unfold gz mV;cases h:eV (.bool k) (Dn m) 0 with
 | none=>rw [h] at this;cases hf:m.find? (λp=>k==p.1) with
  | none=>rfl
  | some p=>rw [hf] at this;simp at this
 | some q=>rw [h] at this;cases hf:m.find? (λp=>k==p.1) with
  | none=>rw [hf] at this;simp at this
  | some p=>rw [hf] at this;simp at this;simp [this]
theorem Dp (b:Bool) (mm:List (Bool×Int)) (kk:Nm) (nx:Nat):gP (.ok (lZ .bool (.bool b)=true/\(Dn mm).all (λp=>gK (.bool b) p.1)=true) ⟨gz (.int .i64 0) (.bool b) (Dn mm),[],nx,[kk.key]⟩) ⟨.v (.int .i64 (mV mm b)),[],nx,[kk.key]⟩ :=
 jg ⟨rfl,by simp [Dn,gK]⟩ (HS mm b) rfl
theorem n4 (d:TypeDesc) (kv:Value) (v:SV) (es es':List (Value×SV)) (kk nx:Nat) (h1:lZ d kv=true) (h2:es.all (λp=>gK kv p.1)=true) (h3:lu kv v es=es'):gP (.ok (lZ d kv=true/\es.all (λp=>gK kv p.1)=true) ⟨.any,[(Nm.t kk,.map (lu kv v es))],nx,[Nm.t kk]⟩) ⟨.any,[(Nm.t kk,.map es')],nx,[Nm.t kk]⟩ :=
 jg ⟨h1,h2⟩ rfl (by rw [h3])
structure dm (n:Nat) where
 l:List Int
 h:l.length=n
variable {n:Nat}
theorem dm.ext:∀ {a b:dm n},a.l=b.l->a=b
 | ⟨_,_⟩,⟨_,_⟩,h=>by simp only at h;subst h;rfl
instance : DecidableEq (dm n):=λa b=>if h:a.l=b.l then .isTrue (dm.ext h) else .isFalse λe=>h (e▸rfl)
instance : Inhabited (dm n):=⟨⟨List.replicate n 0,by simp⟩⟩
def dm.get (a:dm n) (i:Int):Int:=a.l.getD i.toNat 0
def dm.set (a:dm n) (i v:Int):dm n:=⟨a.l.set i.toNat v,by rw [cq];exact a.h⟩
def dm.cells (a:dm n):List SV:=(List.range n).map λk=>.v (.int .i64 (a.l.getD k 0))
theorem dm.cells_fl (a:dm n):a.cells=a.l.map λx=>.v (.int .i64 x):=by
 refine List.ext_getElem (by simp [dm.cells,a.h]) λi h1 h2=>?_
 simp only [dm.cells,oq,List.getElem_range,ew] at h2 ⊢;rw [dz,dy h2];rfl
theorem dm.st (a:dm n):ir a.cells=true:=by
 rw [dm.cells_fl];induction a.l with
 | nil=>rfl
 | cons x l ih=>simpa [ir,SV.st] using ih
instance : b_ (dm n):=⟨n,dm.cells,λa=>by simp [dm.cells],λa=>by simp [dm.cells,jr,Value.oneCell'],dm.st⟩
theorem dm.len (a:dm n):(b_.cells a).length=n:=b_.len a
theorem dm.at (a:dm n) (e:Int) (k:0<=e/\e<(n:Int)) (d:SV):(b_.cells a).getD e.toNat d = .v (.int .i64 (a.get e)):=by
 show a.cells.getD e.toNat d=_;have hl:e.toNat<a.cells.length:=by have:=dm.len a;show _<(b_.cells a).length;omega
 rw [dz,dy hl];simp only [dm.cells,oq,List.getElem_range];rfl
theorem dm.put (a:dm n) (e v:Int) (k:0<=e/\e<(n:Int)):(b_.cells a).set e.toNat (.v (.int .i64 v))=b_.cells (a.set e v):=by
 show a.cells.set _ _=(a.set e v).cells;rw [dm.cells_fl,dm.cells_fl];simp only [dm.set,List.map_set]
theorem gV (kk:Nm) (off len z:Nat) (e:Int) (nx:Nat) (k:0<=e/\e<(len:Int)):gP (.ok (0<=e/\e<(len:Int)) ⟨.ptr kk (off+e.toNat*z),[],nx,[]⟩) ⟨.ptr kk (off+e.toNat*z),[],nx,[]⟩:=jg k rfl rfl
theorem jR (pre post:List SV) (a:dm n) (e:Int) (o:Nat) (k:0<=e/\e<(n:Int)) (ho:o=pre.length+e.toNat*1) (d:SV) (nx:Nat) (rds:List Nm) :
  gP (.ok (o<(pre++(b_.cells a++post)).length) ⟨(pre++(b_.cells a++post)).getD o d,[],nx,rds⟩) ⟨.v (.int .i64 (a.get e)),[],nx,rds⟩:=by
 have hl:=dm.len a;rw [pV] at ho;refine jg (by simp only [ec,hl];omega) ?_ rfl;rw [ho,dz,jG (by omega),yb,iQ (by omega),←dz];exact dm.at a e k d
theorem Gl (cs:List SV) (o:Nat) (x:SV):fQ cs o [x]=cs.set o x:=rfl
theorem lA (pre post:List SV) (a:dm n) (e v:Int) (o:Nat) (k:0<=e/\e<(n:Int)) (ho:o=pre.length+e.toNat*1):fQ (pre++(b_.cells a++post)) o [.v (.int .i64 v)]=pre++(b_.cells (a.set e v)++post):=by
 have hl:=dm.len a;rw [pV] at ho;rw [Gl,ho,List.set_append_right _ _ (by omega),yb,List.set_append_left _ _ (by omega),dm.put a e v k]
theorem Mv (pre post:List SV) (a:dm n) (e v:Int) (o:Nat) (k:0<=e/\e<(n:Int)) (ho:o=pre.length+e.toNat*1) (kk:Nat) (nx et t:Nat) (hs:jM P t=some 1) :
  gP (.ok (jM P t=some 1/\true=true/\o+1<=(pre++(b_.cells a++post)).length) ⟨.any,[(Nm.t kk,.row et (fQ (pre++(b_.cells a++post)) o [.v (.int .i64 v)]))],nx,[Nm.t kk]⟩) ⟨.any,[(Nm.t kk,.row et (pre++(b_.cells (a.set e v)++post)))],nx,[Nm.t kk]⟩:=by
 have hl:=dm.len a;refine jg ⟨hs,rfl,?_⟩ rfl ?_
 ·simp only [ec,hl];omega
 ·rw [lA pre post a e v o k ho]
theorem Fa {hp hp':Hp} {σ:List (Nm×Nm)} {frz:List Nm} (a:dm n) (xs ys:List SV):lT hp hp' σ frz (b_.cells a++xs) (b_.cells a++ys)=lT hp hp' σ frz xs ys:=by
 refine propext ?_;show lT hp hp' σ frz (a.cells++xs) (a.cells++ys)↔_;rw [dm.cells_fl];induction a.l with
 | nil=>exact Iff.rfl
 | cons x l ih =>
  simp only [gu,iy,lT];rw [ih];simp only [fu,true_and]
theorem IY (τ:Nm->Nm) (a:dm n) (xs:List SV):jC τ (b_.cells a++xs)=b_.cells a++jC τ xs:=by
 show jC τ (a.cells++xs)=a.cells++_;rw [dm.cells_fl];induction a.l with
 | nil=>rfl
 | cons x l ih=>simp only [gu,iy,jC,iz,ih]
theorem Fb (a:dm n) (xs:List SV):ir (b_.cells a++xs)=ir xs:=by
 show ir (a.cells++xs)=_;rw [dm.cells_fl];induction a.l with
 | nil=>rfl
 | cons x l ih=>simpa [ir,SV.st] using ih
theorem KS (a:dm n) (xs:List SV):mP (b_.cells a++xs)=mP xs:=by
 show mP (a.cells++xs)=_;rw [dm.cells_fl];induction a.l with
 | nil=>rfl
 | cons x l ih=>simpa [mP,SV.cl] using ih
theorem yE (a:dm n) (xs:List SV):iW (b_.cells a++xs)=iW xs:=by
 show iW (a.cells++xs)=_;rw [dm.cells_fl];induction a.l with
 | nil=>rfl
 | cons x l ih=>simpa [iW,SV.nim] using ih
theorem IZ (xs:List (dm n)):iW (fl xs)=true:=m5 (λa=>by have:=yE a [];simpa [iW] using this) xs
theorem KT:b_.sz (dm n)=n:=rfl
theorem I7 (a:dm n):ir (b_.cells a)=true:=b_.stc a
theorem Dq (a:dm n):mP (b_.cells a)=true:=ju (b_.stc a)
theorem HT (τ:Nm->Nm) (a:dm n):jC τ (b_.cells a)=b_.cells a:=nY (Dq a)
theorem HU (a:dm n):iW (b_.cells a)=true:=by have:=yE a [];simpa [iW] using this
theorem I8 {hp hp':Hp} {σ:List (Nm×Nm)} {frz:List Nm} (a:dm n):lT hp hp' σ frz (b_.cells a) (b_.cells a)=True:=by
 have:=Fa (hp:=hp) (hp':=hp') (σ:=σ) (frz:=frz) a [] [];simp only [j9,lT] at this;exact this
attribute [push_cast] Fa IY Fb KS yE IZ KT I7 Dq HT HU I8
def dm.c0 (a:dm n):Int:=a.l.getD 0 0
def dm.c1 (a:dm n):Int:=a.l.getD 1 0
def dm.c2 (a:dm n):Int:=a.l.getD 2 0
def dm.c3 (a:dm n):Int:=a.l.getD 3 0
def dm.c4 (a:dm n):Int:=a.l.getD 4 0
def dm.c5 (a:dm n):Int:=a.l.getD 5 0
def dm.c6 (a:dm n):Int:=a.l.getD 6 0
def dm.c8 (a:dm n):Int:=a.l.getD 8 0
def dm.c9 (a:dm n):Int:=a.l.getD 9 0
def dm.c10 (a:dm n):Int:=a.l.getD 10 0
def dm.c11 (a:dm n):Int:=a.l.getD 11 0
end
section
open Go.RowKit
variable {α β:Type} [b_ α] {P:Program} {hp hp':Hp} {nx:Nat} {σ:List (Nm×Nm)} {frz:List Nm}
def cA (F n:Nat):List SV:=(List.range n).map λ(i:Nat)=>SV.ptr (.s F ((i:Nat):Int)) 0
def cr (t:TypeId) (xs:List α):Int->cp:=λi=>bif decide (0<=i/\i<(xs.length:Int)) then .row t (b_.cells (ix xs i)) else .void
theorem jS (F n:Nat):(cA F n).length=n:=by simp [cA]
theorem dN {t:TypeId} {xs:List α} {i:Int} (k:0<=i/\i<(xs.length:Int)):cr t xs i = .row t (b_.cells (ix xs i)):=by
 unfold cr;rw [cG k];rfl
theorem lg {t:TypeId} {xs:List α} {i:Int} (k:¬ (0<=i/\i<(xs.length:Int))):cr t xs i = .void:=by
 unfold cr;rw [cH k];rfl
theorem lK (t:TypeId) (xs:List α) (i:Int):(cp.fam (cr t xs)).at i=cr t xs i:=by
 simp only [cp.at];by_cases k:0<=i/\i<(xs.length:Int)
 ·rw [dN k]
 ·rw [lg k]
theorem yF {t:TypeId} {xs:List α} {i:Int} (k:0<=i/\i<(xs.length:Int)):(cp.fam (cr t xs)).at i = .row t (b_.cells (ix xs i)):=(lK t xs i).trans (dN k)
theorem I9 {t:TypeId} {xs:List α} {i:Int} (k:0<=i/\i<(xs.length:Int)) (y:α):sO (λq=>(cp.fam (cr t xs)).at q) i (.row t (b_.cells y))=cr t (xs.set i.toNat y):=by
 funext q;unfold sO;by_cases hq:q=i
 ·subst hq;have k':0<=q/\q<(((xs.set q.toNat y).length:Nat):Int):=by rw [cq];exact k
  rw [dN k'];have:ix (xs.set q.toNat y) q=y:=by unfold ix;rw [dz,List.getElem?_set_self (by omega)];rfl
  simp only [this,nV,cd]
 ·rw [show (q==i)=false from by simpa using hq,ck];show (cp.fam (cr t xs)).at q=_;rw [lK];by_cases kq:0<=q/\q<(xs.length:Int)
  ·rw [dN kq,dN (xs:=xs.set i.toNat y) (by rw [cq];exact kq)];have:ix (xs.set i.toNat y) q=ix xs q:=by unfold ix;rw [dz,dz,List.getElem?_set_ne (by omega)]
   rw [this]
  ·rw [lg kq,lg (xs:=xs.set i.toNat y) (by rw [cq];exact kq)]
theorem d5 (t:TypeId) (xs:List α) (i:Int) (k:0<=i/\i<(xs.length:Int)) (ty:TypeId) (off nx:Nat) (rds:List Nm) {e:dw} (h:gP (kz P ty (b_.cells (ix xs i)) off rds nx) e) :
  gP (o9 ((cp.fam (cr t xs)).at i) λ_ cs=>kz P ty cs off rds nx) e:=by
 rw [yF k];exact h
theorem kh {x:α} {ty:TypeId} {off nx:Nat} {rds:List Nm} (ht:tX P ty=some false) (hj:off<b_.sz α) {v:SV} (hv:(b_.cells x).getD off (eW P ty)=v):gP (kz P ty (b_.cells x) off rds nx) ⟨v,[],nx,rds⟩:=by
 unfold kz;rw [ht];exact jg (by rw [b_.len];exact hj) hv rfl
theorem xc {x:α} {ty:TypeId} {off nx n:Nat} {rds:List Nm} (ht:tX P ty=some true) (hn:jM P ty=some n) (hj:off+n<=b_.sz α) {v:List SV} (hv:((b_.cells x).drop off).take n=v):gP (kz P ty (b_.cells x) off rds nx) ⟨.agg v,[],nx,rds⟩:=by
 unfold kz;rw [ht,hn];exact jg (by rw [b_.len];exact hj) (by rw [hv]) rfl
theorem gE (ty:TypeId) (xs:List α) (i:Int) (k:0<=i/\i<(xs.length:Int)) (off:Nat) (vs:List SV) (y:α) (hj:off+vs.length<=b_.sz α) (hy:fQ (b_.cells (ix xs i)) off vs=b_.cells y) (F nx t:Nat) (hs:jM P t=some vs.length) (h1:vs.all jr=true) :
  gP (o9 ((cp.fam (cr ty xs)).at i) λe cs=>.ok (jM P t=some vs.length/\vs.all jr=true/\off+vs.length<=cs.length) ⟨.any,[(Nm.s F 0,.fam (sO (λq=>(cp.fam (cr ty xs)).at q) i (.row e (fQ cs off vs))))],nx,[Nm.s F 0]⟩) ⟨.any,[(Nm.s F 0,.fam (cr ty (xs.set i.toNat y)))],nx,[Nm.s F 0]⟩:=by
 rw [yF k];refine jg ⟨hs,h1,by rw [b_.len];exact hj⟩ rfl ?_;rw [hy,I9 k]
structure pC (C C':Nm->cp) (Q K R:Nm):Prop where
 vd:C Q = .void
 kl:(C K).live=true
 q:C' Q=C K
 k:C' K = .dead
 oth:∀ j,j≠Q->j≠K->j≠R->C' j=C j
 kr:K≠R
 row:(∃ e cs cs',C R = .row e cs/\C' R = .row e cs'/\cs'.length=cs.length/\∀ (i:Nat) (x y:SV),cs[i]? = some x->cs'[i]? = some y->x=y\/(x = .ptr K 0/\y = .ptr Q 0)) \/
 ∃es es',C R = .map es/\C' R = .map es'/\es'.length=es.length/\∀ (i:Nat) (x y:Value×SV),es[i]? = some x->es'[i]? = some y->x.1=y.1/\(x.2=y.2\/(x.2 = .ptr K 0/\y.2 = .ptr Q 0))
section sem
variable {w0:World} {I0 W0:Nat->Prop} {C C':Nm->cp} {Q K R:Nm} {ids:dC} {w:World}
theorem pC.liveR (hh:pC C C' Q K R):(C R).live=true/\(C' R).live=true:=by
 rcases hh.row with ⟨e,cs,cs',h1,h2,_⟩|⟨es,es',h1,h2,_⟩<;>(rw [h1,h2];exact ⟨rfl,rfl⟩)
theorem pC.old (hh:pC C C' Q K R) {j:Nm} {b o:Nat} (hl:(C' j).live=true) (hi:upd ids Q (ids K) j=some (b,o)) :
 ∃k0,(C k0).live=true/\ids k0=some (b,o)/\((j≠Q/\k0=j/\j≠K)\/(j=Q/\k0=K)):=by
 by_cases hQ:j=Q
 ·subst hQ;rw [cF] at hi;exact ⟨K,hh.kl,hi,.inr ⟨rfl,rfl⟩⟩
 ·rw [dO _ _ hQ] at hi;by_cases hK:j=K
  ·subst hK;rw [hh.k] at hl;cases hl
  by_cases hR:j=R
  ·subst hR;exact ⟨j,hh.liveR.1,hi,.inl ⟨hQ,rfl,hK⟩⟩
  ·rw [hh.oth j hQ hK hR] at hl;exact ⟨j,hl,hi,.inl ⟨hQ,rfl,hK⟩⟩
theorem pC.ext (h:lE P w0 I0 W0 C ids w) (hh:pC C C' Q K R):ky C ids (Im w0 I0 W0 C ids w) w C' (upd ids Q (ids K)) (Im w0 I0 W0 C' (upd ids Q (ids K)) w) w:=by
 refine ⟨λb hb=>⟨⟨hb.1,hb.2.1,λk hk o hi=>?_⟩,rfl⟩,λj hj=>?_,λj hj=>?_⟩
 ·obtain ⟨k0,h1,h2,_⟩:=hh.old hk hi;exact hb.2.2 k0 h1 o h2
 ·have hQ:j≠Q:=λe=>by rw [e,hh.vd] at hj;cases hj
  have hK:j≠K:=λe=>by have:=hh.kl;rw [←e,hj] at this;cases this
  have hR:j≠R:=λe=>by have:=hh.liveR.1;rw [←e,hj] at this;cases this
  rw [hh.oth j hQ hK hR];exact hj
 ·have hQ:j≠Q:=λe=>by rw [e,hh.vd] at hj;cases hj
  by_cases hK:j=K
  ·subst hK;exact .inl hh.k
  by_cases hR:j=R
  ·subst hR;rcases hh.row with ⟨e,cs,cs',h1,h2,h3,_⟩|⟨es,es',h1,h2,_⟩
   ·exact .inr ⟨hh.liveR.2,dO _ _ hQ,by rw [h1,h2];exact ⟨rfl,Nat.le_of_eq h3⟩,λ_ _ _=>dM.refl _⟩
   ·exact .inr ⟨hh.liveR.2,dO _ _ hQ,by rw [h1,h2];exact trivial,λ_ _ _=>dM.refl _⟩
  ·have h1:=hh.oth j hQ hK hR;exact .inr ⟨by rw [h1];exact hj,dO _ _ hQ,by rw [h1];exact dX.refl hj,λ_ _ _=>dM.refl _⟩
theorem pC.den {off:Nat} (h:lE P w0 I0 W0 C ids w) (hh:pC C C' Q K R) {x y:SV} {v:Value} (hr:x=y\/(x = .ptr K off/\y = .ptr Q off)) (hd:dS P C ids (Im w0 I0 W0 C ids w) w x v):dS P C' (upd ids Q (ids K)) (Im w0 I0 W0 C' (upd ids Q (ids K)) w) w y v:=by
 rcases hr with rfl|⟨rfl,rfl⟩
 ·exact hd.mono (hh.ext h)
 ·obtain ⟨b,o,g1,rfl⟩:=pY hd hh.kl;exact .ptr b o (by rw [hh.q];exact hh.kl) (by rw [cF];exact g1)
theorem pC.st (h:lE P w0 I0 W0 C ids w) (hh:pC C C' Q K R):lE P w0 I0 W0 C' (upd ids Q (ids K)) w:=by
 have hE:=hh.ext h;refine ⟨λj=>?_,λk k' b o o' hk hk' hi hi'=>?_,λk b o hk hi=>?_,h.im0,h.evol,h.os,h.tape,h.output,h.size⟩
 ·by_cases hQ:j=Q
  ·subst hQ;rw [hh.q];exact fG.rename hE (h.ch K) (cF _ _ _)
  by_cases hK:j=K
  ·subst hK;rw [hh.k];trivial
  by_cases hR:j=R
  ·subst hR;have hc:=h.ch j;rcases hh.row with ⟨e,cs,cs',h1,h2,h3,h4⟩|⟨es,es',h1,h2,h3,h4⟩
   ·rw [h1] at hc;rw [h2];simp only [fG,dO _ _ hQ] at hc ⊢;cases hid:ids j with
    | none =>
     rw [hid] at hc;simp only at hc;subst hc;exact iU h3
    | some p =>
     obtain ⟨b,o⟩:=p;rw [hid] at hc;obtain ⟨arr,ha,hl,hxx⟩:=hc;refine ⟨arr,ha,by omega,λi y hi=>?_⟩;have hlt:=(dx.1 hi).1;have hi2:=dy (show i<cs.length by omega);exact hh.den h (h4 i _ y hi2 hi) (hxx i _ hi2)
   ·rw [h1] at hc;rw [h2];simp only [fG,dO _ _ hQ] at hc ⊢;obtain ⟨b,arr,clock,g1,g2,g3,g4,hbo⟩:=hc;refine ⟨b,arr,clock,g1,g2,by omega,λi y hi=>?_,hbo⟩;have hlt:=(dx.1 hi).1;have hi2:=dy (show i<es.length by omega);obtain ⟨a1,a2⟩:=h4 i _ y hi2 hi;obtain ⟨b1,b2⟩:=g4 i _ hi2;exact ⟨b1.trans a1,hh.den h a2 b2⟩
  ·rw [hh.oth j hQ hK hR];exact fG.rename hE (h.ch j) (dO _ _ hQ)
 ·obtain ⟨k0,a1,a2,a3⟩:=hh.old hk hi;obtain ⟨k0',b1,b2,b3⟩:=hh.old hk' hi';have:=h.inj k0 k0' b o o' a1 b1 a2 b2;subst this;rcases a3 with ⟨_,a3,a4⟩|⟨a3,a4⟩<;>rcases b3 with ⟨_,b3,b4⟩|⟨b3,b4⟩
  ·rw [←a3,←b3]
  ·rw [←a3] at a4;exact absurd b4 a4
  ·rw [←b3] at b4;exact absurd a4 b4
  ·rw [a3,b3]
 ·obtain ⟨k0,a1,a2,_⟩:=hh.old hk hi;exact h.lt k0 b o a1 a2
end sem
theorem Gm {X:Cx} {hp hp':Hp} {ids:dC} {w:World} {Q K R:Nm} (h:HeapC X hp ids w) (hh:pC (bW hp) (bW hp') Q K R):HeapC X hp' (upd ids Q (ids K)) w/\fh X hp ids w hp' (upd ids Q (ids K)) w:=by
 have hE:=hh.ext h.st;refine ⟨⟨hh.st h.st,λj hj h0 hl=>?_,λj hj hv=>?_⟩,hE⟩
 ·by_cases hQ:j=Q
  ·subst hQ;exact absurd (h.nov j hj hh.vd) h0
  by_cases hK:j=K
  ·subst hK;rw [hh.k] at hl;cases hl
  have hlo:(bW hp j).live=true:=by
   by_cases hR:j=R
   ·subst hR;exact hh.liveR.1
   ·rw [←hh.oth j hQ hK hR];exact hl
  exact (h.kept j hj h0 hlo).step hE hlo hl
 ·by_cases hQ:j=Q
  ·subst hQ;have:=hh.kl;rw [←hh.q,hv] at this;cases this
  by_cases hK:j=K
  ·subst hK;rw [hh.k] at hv;cases hv
  by_cases hR:j=R
  ·subst hR;have:=hh.liveR.2;rw [hv] at this;cases this
  ·exact h.nov j hj (by rw [←hh.oth j hQ hK hR];exact hv)
theorem Fc {t:TypeId} {xs:List α} {y:α} {r k F e:Nat} (hR:bW hp (.t r) = .row e (cA F xs.length++[.ptr (.t k) 0])) (hF:ip hp (.s F 0) = .fam (cr t xs)) (hk:bW hp (.t k) = .row t (b_.cells y)) (hb:(!(k==r))=true) :
  l_ P nx 0 [.t r,.s F 0,.t k] hp [(.s F 0,.fam (cr t (xs++[y]))),(.t r,.row e (cA F (xs++[y]).length)),(.t k,.dead)]:=by
 simp only [ku,beq_eq_false_iff_ne] at hb;intro X ids w hp' hP hm h hrd hf;have hRr:bW hp' (.t r) = .row e (cA F xs.length++[.ptr (.t k) 0]):=(hrd (.t r) (by simp)).trans hR;have hkk:bW hp' (.t k) = .row t (b_.cells y):=(hrd (.t k) (by simp)).trans hk;have hFi:∀ i,bW hp' (.s F i)=cr t xs i:=λi=>by
  rw [hrd (.s F i) (by simp [Nm.key]),nw hF i,lK]
 have hlen:(xs++[y]).length=xs.length+1:=by simp
 have lookG:∀ i,bW ([(.s F 0,.fam (cr t (xs++[y]))),(.t r,.row e (cA F (xs++[y]).length)),(.t k,.dead)]++hp') (.s F i)=cr t (xs++[y]) i:=λi=>by
  simp only [iy,bW,Nm.eqk,nV,cd,cp.mem];exact lK t (xs++[y]) i
 have lookR:bW ([(.s F 0,.fam (cr t (xs++[y]))),(.t r,.row e (cA F (xs++[y]).length)),(.t k,.dead)]++hp') (.t r) = .row e (cA F (xs++[y]).length):=by
  simp [bW,Nm.eqk,cp.mem]
 have lookK:bW ([(.s F 0,.fam (cr t (xs++[y]))),(.t r,.row e (cA F (xs++[y]).length)),(.t k,.dead)]++hp') (.t k) = .dead:=by
  have:(r==k)=false:=by simpa using λe=>hb e.symm
  simp [bW,Nm.eqk,cp.mem,this]
 have hh:pC (bW hp') (bW ([(.s F 0,.fam (cr t (xs++[y]))),(.t r,.row e (cA F (xs++[y]).length)),(.t k,.dead)]++hp')) (.s F (xs.length:Int)) (.t k) (.t r):=by
  refine ⟨?_,by rw [hkk];rfl,?_,lookK,λj hQ hK hR2=>?_,by simpa using hb,?_⟩
  ·rw [hFi,lg (by omega)]
  ·rw [lookG,hkk,dN (by rw [hlen];omega)];have:ix (xs++[y]) (xs.length:Int)=y:=by unfold ix;simp
   rw [this]
  ·by_cases hF2:∃ i,j = .s F i
   ·obtain ⟨i,rfl⟩:=hF2;rw [lookG,hFi];have hi:i≠(xs.length:Int):=λe=>hQ (by rw [e]);by_cases kk:0<=i/\i<(xs.length:Int)
    ·rw [dN kk,dN (xs:=xs++[y]) (by rw [hlen];omega)];have:ix (xs++[y]) i=ix xs i:=by unfold ix;rw [dz,dz,iQ (by omega)]
     rw [this]
    ·rw [lg kk,lg (xs:=xs++[y]) (by rw [hlen];omega)]
   ·refine ja λhm=>?_
    simp only [gu,k9,fc,List.not_mem_nil,or_false] at hm;rcases hm with hm|hm|hm
    ·cases j with
     | t a=>simp [Nm.key] at hm
     | s G z=>simp only [Nm.key_s,Nm.s.injEq,k_] at hm;exact hF2 ⟨z,by rw [hm]⟩
    ·exact hR2 (by rw [Nm.key_t] at hm;exact Nm.key_eq_t.1 hm)
    ·exact hK (by rw [Nm.key_t] at hm;exact Nm.key_eq_t.1 hm)
  ·refine .inl ⟨e,_,_,hRr,lookR,by rw [jS,hlen,ec,jS];rfl,λi x z hx hz=>?_⟩;have hi:i<xs.length+1:=by have:=(dx.1 hz).1;rwa [jS,hlen] at this
   have hz2:z = .ptr (.s F (i:Int)) 0:=by
    unfold cA at hz;rw [fW,List.getElem?_range (by rw [hlen];exact hi)] at hz;simpa using hz.symm
   subst hz2;by_cases hil:i<xs.length
   ·have hx2:x = .ptr (.s F (i:Int)) 0:=by
     rw [iQ (by rw [jS];exact hil)] at hx;unfold cA at hx;rw [fW,List.getElem?_range hil] at hx;simpa using hx.symm
    exact .inl hx2
   ·have he:i=xs.length:=by omega
    subst he;have hx2:x = .ptr (.t k) 0:=by
     rw [jG (by rw [jS];exact cE _),jS,Nat.sub_self] at hx;simpa using hx.symm
    exact .inr ⟨hx2,rfl⟩
 exact ⟨_,Gm h hh⟩
theorem fJ {hin:Hp} {t:TypeId} {xs:List α} {F F':Nat} (h1:ip hin (.s F' 0) = .fam (cr t xs)) (h2:ip hp (.s F 0) = .fam (cr t xs)) (i:Int):(bW hin (.s F' i)).live=true\/(bW hin (.s F' i) = .dead/\bW hp (.s F i) = .dead)\/(bW hin (.s F' i) = .void/\bW hp (.s F i) = .void):=by
 rw [nw h1 i,nw h2 i,lK];by_cases kk:0<=i/\i<(xs.length:Int)
 ·rw [dN kk];exact .inl rfl
 ·rw [lg kk];exact .inr (.inr ⟨rfl,rfl⟩)
theorem I_ {t:TypeId} {y:α} {r k e:Nat} (hR:bW hp (.t r) = .row e [.ptr (.t k) 0]) (hk:bW hp (.t k) = .row t (b_.cells y))
  (hb:(Nat.blt r nx,Nat.blt k nx,!(k==r))=(true,true,true)) :
  l_ P nx 1 [.t r,.t k] hp [(.s nx 0,.fam (cr t [y])),(.t r,.row e (cA nx [y].length)),(.t k,.dead)]:=by
 simp only [iH,kH,ku,beq_eq_false_iff_ne] at hb;obtain ⟨b1,b2,b4⟩:=hb;intro X ids w hp' hP hm h hrd hf;have hRr:bW hp' (.t r) = .row e [.ptr (.t k) 0]:=(hrd (.t r) (by simp)).trans hR;have hkk:bW hp' (.t k) = .row t (b_.cells y):=(hrd (.t k) (by simp)).trans hk;have look:∀ q:Nm,q.base≠nx->q≠.t r->bW ([(.s nx 0,.fam (cr t [y])),(.t r,.row e (cA nx [y].length)),(.t k,.dead)]++hp') q=bW ([(.t k,.dead)]++hp') q:=λq hb hq=>by
  simp only [iy,pK,bW];have h1:(Nm.s nx 0).eqk q=false:=Nm.eqk_no λe=>hb (by have:=dG Nm.base e;simpa using this.symm)
  have h2:(Nm.t r).eqk q=false:=Nm.eqk_no λe=>hq (by rw [Nm.key_t] at e;exact Nm.key_eq_t.1 e.symm)
  rw [h1,h2];rfl
 have lookR:bW ([(.s nx 0,.fam (cr t [y])),(.t r,.row e (cA nx [y].length)),(.t k,.dead)]++hp') (.t r) = .row e (cA nx [y].length):=by
  simp [bW,Nm.eqk,cp.mem]
 have lookG:∀ i,bW ([(.s nx 0,.fam (cr t [y])),(.t r,.row e (cA nx [y].length)),(.t k,.dead)]++hp') (.s nx i)=cr t [y] i:=λi=>by
  simp only [iy,bW,Nm.eqk,nV,cd,cp.mem];exact lK t [y] i
 have deadK:bW ([(.t k,.dead)]++hp') (.t k) = .dead:=by simp [bW,Nm.eqk,cp.mem]
 have hh:s_ (bW hp') (bW ([(.s nx 0,.fam (cr t [y])),(.t r,.row e (cA nx [y].length)),(.t k,.dead)]++hp')) nx (λi=>if i=0 then some (.t k) else none) (.t r):=by
  refine ⟨λq hq=>hf q (by omega) (by omega),λi q hi=>?_,λi hi=>?_,?_,λi q hi=>?_,λq hb hqR=>?_,by simp;omega,?_,λi i' q h1 h2=>?_⟩
  ·split at hi
   ·rename_i h0;cases hi;subst h0;rw [lookG,hkk,dN (xs:=[y]) (by simp)];rfl
   ·cases hi
  ·split at hi
   ·cases hi
   ·rename_i h0;rw [lookG];right;rw [lg (xs:=[y]) (by simp;omega)];rfl
  ·have h1:bW ([(.s nx 0,.fam (cr t [y])),(.t r,.row e (cA nx [y].length)),(.t k,.dead)]++hp') (.t nx)=bW hp' (.t nx):=by
    refine ja λhm=>?_
    simp [Nm.key] at hm;omega
   rw [h1,hf (.t nx) (cE _) (by simp)];rfl
  ·split at hi
   ·cases hi;rw [look _ (by simp;omega) (by simpa using b4)];exact deadK
   ·cases hi
  ·rw [look q hb hqR];by_cases h2:q = .t k
   ·right;subst h2;exact deadK
   ·left;refine ja λhm=>?_
    simp only [gu,k9,fc,List.not_mem_nil,or_false] at hm;exact h2 (by rw [Nm.key_t] at hm;exact Nm.key_eq_t.1 hm)
  ·refine ⟨e,_,_,hRr,lookR,by rw [jS];rfl,λi x z hx hz=>?_⟩;have hi:i<1:=(dx.1 hx).1;have he:i=0:=by omega
   subst he;have hx2:x = .ptr (.t k) 0:=by simpa using hx.symm
   have hz2:z = .ptr (.s nx 0) 0:=by simpa [cA] using hz.symm
   subst hx2;subst hz2;exact .ptr (i:=0) (by simp) (by rw [hkk];rfl)
  ·split at h1
   ·split at h2
    ·omega
    ·cases h2
   ·cases h1
 exact ⟨_,HD h hm hh⟩
omit [b_ α] in
theorem Fe (F:Nat) (xs:List α) (y:α) (k B:Nat) (s0:Prop) (h0:s0) (e:TypeId) (hB:P.bytesOf e=B) (hpos:0<B) (hle:(xs++[y]).length*B<=140737488355328) (kk nx:Nat) (rds:List Nm) :
  gP (.ok (s0/\e=e/\([SV.ptr (.t k) 0]:List SV).length=1*1/\([SV.ptr (.t k) 0]:List SV).all jr=true/\0+xs.length*1<=(cA F xs.length).length/\0<P.bytesOf e/\(xs.length+1)*P.bytesOf e<=140737488355328) ⟨.own nx 0 (xs.length+1),[(Nm.t nx,.row e (da (cA F xs.length) 0 (xs.length*1)++[.ptr (.t k) 0])),(Nm.t kk,.dead)],nx+1,Nm.t kk::rds⟩) ⟨.own nx 0 (xs++[y]).length,[(Nm.t nx,.row e (cA F xs.length++[.ptr (.t k) 0])),(Nm.t kk,.dead)],nx+1,Nm.t kk::rds⟩:=by
 subst hB;rw [ec,List.length_singleton] at hle ⊢;refine jg ⟨h0,rfl,rfl,rfl,by rw [jS,dj,pV];exact cE _,hpos,hle⟩ rfl ?_;rw [da,rA,pV,kI (by rw [jS];exact cE _)]
theorem tc (F n:Nat) (i:Int) (off:Nat) (k:0<=i/\i<(n:Int)) (ho:off=i.toNat*1) (d:SV) (nx:Nat) (rds:List Nm) :
  gP (.ok (off<(cA F n).length) ⟨(cA F n).getD off d,[],nx,rds⟩) ⟨.ptr (.s F i) 0,[],nx,rds⟩:=by
 rw [pV] at ho;subst ho;refine jg (by rw [jS];omega) ?_ rfl;unfold cA;rw [dz,fW,List.getElem?_range (by omega)];simp only [fj,gY];rw [show (i.toNat:Int)=i from by omega]
theorem HV {t:TypeId} {xs:List α} {i:Int} (k:0<=i/\i<(xs.length:Int)):((cp.fam (cr t xs)).at i).live=true:=by rw [yF k];rfl
def td (c:cp) (m:Nat):Prop:=∀ i:Nat,i<m->(c.at ((i:Nat):Int)).live=true
theorem dZ (t:TypeId) (xs:List α) (m:Nat):td (.fam (cr t xs)) m=(m<=xs.length):=by
 refine propext ⟨λh=>?_,λh i hi=>HV (by omega)⟩;by_cases hm:m<=xs.length
 ·exact hm
 ·have:=h xs.length (by omega);rw [lK,lg (by omega)] at this;cases this
theorem ed (t:TypeId) (xs:List α):td (.fam (cr t xs)) xs.length=True:=eq_true (by rw [dZ];exact cE _)
theorem eJ (t:TypeId) (x:α):td (.fam (cr t [x])) 1=True:=eq_true (by rw [dZ];exact cE _)
theorem eK (t:TypeId) (xs:List α) (x:α):td (.fam (cr t (xs++[x]))) (xs.length+1)=True:=eq_true (by rw [dZ];simp)
theorem eL (t:TypeId) (xs:List α) (i:Nat) (x:α):td (.fam (cr t (xs.set i x))) xs.length=True:=eq_true (by rw [dZ];simp)
theorem fv {F F':Nat} {n m:Nat} (h:n=m/\dh σ (.s F' 0)=some (.s F 0)/\td (ip hp' (.s F' 0)) m):lT hp hp' σ frz (cA F n) (cA F' m)=True:=by
 obtain ⟨rfl,h1,h2⟩:=h;refine eq_true (Dd ?_);have gen:∀ l:List Nat,(∀ i∈l,i<n)->Pw (fu hp hp' σ frz) (l.map λ(i:Nat)=>SV.ptr (.s F ((i:Nat):Int)) 0) (l.map λ(i:Nat)=>SV.ptr (.s F' ((i:Nat):Int)) 0):=by
  intro l;induction l with
  | nil=>intro _;trivial
  | cons a l ih =>
   intro hl;refine ⟨?_,ih λi hi=>hl i (by simp [hi])⟩;have ha:=hl a (by simp);simp only [fu];refine ⟨Df h1 _,trivial,?_⟩;have h3:=h2 a ha;cases hg:ip hp' (.s F' 0) with
   | fam g=>rw [nw hg];rw [hg] at h3;exact h3
   | _=>rw [hg] at h3;cases h3
 exact gen _ λi hi=>by simpa using hi
theorem HW {t:TypeId} {xs:List α} {F':Nat} {i:Int} (h:BX hp σ F' (cr t xs)):n9 hp hp' σ frz (.s F' i) (cr t xs i)=True:=by
 refine eq_true ?_;unfold BX at h;cases hn:dh σ (.s F' 0) with
 | none=>rw [hn] at h;exact h.elim
 | some k =>
  rw [hn] at h;simp only at h;have hs:dh σ (.s F' i)=some (.s k.base i):=by rw [js σ F' i,hn];rfl
  have hg:=nw h i;rw [lK] at hg;by_cases kk:0<=i/\i<(xs.length:Int)
  ·rw [dN kk] at hg ⊢;simp only [n9,hs,hg];exact ⟨trivial,.inl ⟨b_.stc _,trivial⟩⟩
  ·rw [lg kk] at hg ⊢;simp only [n9,hs,hg]
theorem eM (τ:Nm->Nm) (t:TypeId) (xs:List α) (i:Int):io τ (cr t xs i)=cr t xs i:=by
 by_cases kk:0<=i/\i<(xs.length:Int)
 ·rw [dN kk];simp only [io];rw [nY (ju (b_.stc _))]
 ·rw [lg kk];rfl
theorem eN (F n:Nat):jC (f7 (dh σ) nx) (cA F n)=cA (f7 (dh σ) nx (.s F 0)).base n:=by
 unfold cA;rw [lf,ot];refine pO λi _=>?_
 simp only [Function.comp,iz];rw [uW (js σ)]
theorem Mw (t:TypeId) (xs:List α) (G:Nat) (z:Int) (r:Hp) (F:Nat):rW ((.s G z,.fam (cr t xs))::r) F=bif G==F then cr t xs else rW r F:=by
 funext q;simp only [rW,bW,Nm.eqk];cases G==F with
 | true=>simp only [cd,cp.mem];exact lK t xs q
 | false=>rfl
theorem cS.frzA {f:FuncId} {args:List SV} {hin H:Hp} {m nn:Nat} {X:SV} (m_:cS P f args hin m (λx h n=>x=X/\h=H/\n=nn)) (G:List Nm) (sig:List (Nm×Nm)) (X2:SV) (H2:Hp) (n2:Nat)
  (h1:fu H H2 sig G X X2) (h2:pk H H2 sig G H2) (h3:(o7 m sig G,p8 m n2 sig H2,Nat.ble m n2)=(true,true,true)) :
  cS P f args hin m (λx h n=>x=X2/\h=H2/\n=n2):=by
 simp only [iH] at h3;obtain ⟨k1,k2,k3⟩:=h3;refine ⟨m_.1,λY vals hP hm hF hsz hd=>(m_.2 Y vals hP hm hF hsz hd).mono ?_⟩;rintro ex w' ⟨r,res,hp',nx',ids',rfl,⟨rfl,rfl,rfl⟩,hF',hden⟩;subst hP;have hsub:vy Y.P (bW hp') (bW H2) (dh sig) (mz G):=uo h2 k1;obtain ⟨ids2,hF2,hd2⟩:=weaken (nx':=n2) hF'.toHeapC hsub (rI k2) (λk hk hl=>by
  rw [hm] at hk;refine vb (λp hp=>?_) k2 k hk (.inl hl);simp only [o7,cR,dP] at k1;have:=(k1.2 p hp).2;simpa using this) (λk hk hl=>by
  rw [hm] at hk;refine vb (λp hp=>?_) k2 k hk (.inr hl);simp only [o7,cR,dP] at k1;have:=(k1.2 p hp).2;simpa using this) (by rw [hm];exact cU k3)
 exact ⟨r,X2,H2,n2,ids2,rfl,⟨rfl,rfl,rfl⟩,hF2,hd2 _ _ _ (mC h1) hden⟩
theorem eO {t:TypeId} {xs:List α} {F':Nat} {z:Int} (h:BX hp σ F' (cr t xs)):zF hp hp' σ frz (.s F' z) (.fam (cr t xs))=True:=by
 refine eq_true λi=>?_
 rw [lK];exact of_eq_true (HW h)
theorem KU (F':Nat) (t:TypeId) (xs:List α):BX hp σ F' (cr t xs)=match dh σ (.s F' 0) with
 | some k=>ip hp (.s k.base 0) = .fam (cr t xs)
 | none=>False:=propext Iff.rfl
theorem Ja (k:Nm) (c:cp) (r:Hp):pk hp hp' σ frz ((k,c)::r)=(zF hp hp' σ frz k c/\pk hp hp' σ frz r):=propext Iff.rfl
def Oa (σ:List (Nm×Nm)) (F:Nat):Prop:=dh σ (.s F 0)=none
theorem fS (σ:List (Nm×Nm)) (F:Nat):Oa σ F=(dh σ (.s F 0)=none):=propext Iff.rfl
theorem ee {t:TypeId} {F':Nat} {z:Int} (h:Oa σ F'):zF hp hp' σ frz (.s F' z) (.fam (cr t ([]:List α)))=True:=by
 refine eq_true λi=>?_
 have h:dh σ (.s F' 0)=none:=h;rw [lK,lg (by simp<;>omega)];have:dh σ (.s F' i)=none:=by rw [js σ F' i,h];rfl
 simp only [n9,this]
theorem g9 (F:Nat):cA F 0=[]:=rfl
attribute [push_cast high] eO ee Ja
attribute [push_cast] fS ed eJ eK eL g9 eM eN Mw lK KU
end
end Go.Sx
end
