/-
 Lemmas, put together: TxZ, TyA, TyB, IH, HA, HX, HB, HY, HC, HD, HE, HF, HH, HI, HJ, HK, HG, HL, HM, HN, HO, HP, HS, HZ, HV, HW, HU.
 No conditions.
-/
import Derived.Test.YthcdpjkgdcpkmaaGreatDoorwkA2
import Derived.DataReads
import Derived.ChangeArms
import GoSem.ClaimChange
import Derived.Below
import Derived.ChangeSame
import Derived.WideKeyArgs
import Derived.WideShapes
import Derived.RowKit
import Derived.OpenShut
import Derived.Lib.LaidU8
import Derived.Deep.AppendSrc
import Derived.Lib.Overlaps
import Derived.Lib.AppendZerosOnto
import Derived.Laws.IdiomCopy
import Derived.Shelf.Spec.SlicesInsert
import Derived.Lib.Builder
import Derived.Lib.UnsafeStr
set_option linter.unusedSimpArgs false
set_option linter.unusedVariables false
set_option linter.unusedSectionVars false
section
namespace Go.Sx
section
open Go.RowKit
variable {P:Program}
def Nm.to (j k:Nm):Nm:=match k with
 | .t _=>j
 | .s _ i=>.s j.base i
def dh:List (Nm×Nm)->Nm->Option Nm
 | [],_=>none
 | p::r,k=>bif p.1.eqk k then some (p.2.to k) else dh r k
theorem Hm (a b:Nm) (r:List (Nm×Nm)) (k:Nm):dh ((a,b)::r) k=bif a.eqk k then some (b.to k) else dh r k:=rfl
theorem Iy (k:Nm):dh [] k=none:=rfl
theorem jm (σ:List (Nm×Nm)):q_ (dh σ):=λF i=>by
 induction σ with
 | nil=>rfl
 | cons p r ih =>
  simp only [dh]
  have e:p.1.eqk (.s F i)=p.1.eqk (.s F 0):=by cases p.1<;>rfl
  rw [e]
  cases p.1.eqk (.s F 0) with
  | true=>rfl
  | false=>exact ih
mutual
def SV.st:SV->Bool
 | .v _=>true
 | .agg xs=>iq xs
 | .tup xs=>iq xs
 | .sl _ xs=>iq xs
 | .iptr xs _=>iq xs
 | .clo _ xs=>iq xs
 | .ifc _ x=>x.st
 | .mth _ x=>x.st
 | .asl _ _ _=>false
 | .bp _ _ _=>false
 | .any=>false
 | .gd _ _=>false
 | .own _ _ _=>false
 | .ptr _ _=>false
 | .mp _=>false
 | .it _=>false
def iq:List SV->Bool
 | []=>true
 | x::xs=>x.st&&iq xs
end
mutual
theorem BO:∀ {s:SV},s.st=true->s.cl=true
 | .v _,_=>rfl
 | .agg xs,h=>jq (xs:=xs) h
 | .tup xs,h=>jq (xs:=xs) h
 | .sl _ xs,h=>jq (xs:=xs) h
 | .iptr xs _,h=>jq (xs:=xs) h
 | .clo _ xs,h=>jq (xs:=xs) h
 | .ifc _ x,h=>BO (s:=x) h
 | .mth _ x,h=>BO (s:=x) h
theorem jq:∀ {xs:List SV},iq xs=true->mK xs=true
 | [],_=>rfl
 | x::xs,h=>by
  simp only [iq,cT] at h
  simp only [mK,cT]
  exact ⟨BO h.1,jq h.2⟩
end
mutual
def fv (hp hp':Hp) (σ:List (Nm×Nm)) (frz:List Nm):SV->SV->Prop
 | s,s'=>match s' with
  | .any=>True
  | .own k' o' n'=>match s with
   | .own k o n=>dh σ k'=some k/\o=o'/\n=n'/\(bW hp' k').live=true
   | .v x=>x = .slice none 0 0/\o'=0/\n'=0/\(bW hp' k').live=true/\dh σ k'=none
   | _=>False
  | .ptr k' o'=>match s with
   | .ptr k o=>dh σ k'=some k/\o=o'/\(bW hp' k').live=true
   | _=>False
  | .mp k'=>match s with
   | .mp k=>dh σ k'=some k/\(bW hp' k').live=true
   | _=>False
  | .it k'=>match s with
   | .it k=>dh σ k'=some k/\(bW hp' k').live=true
   | _=>False
  | .agg ys=>match s with
   | .agg xs=>(iq ys=true/\xs=ys)\/lP hp hp' σ frz xs ys
   | _=>False
  | .tup ys=>match s with
   | .tup xs=>lP hp hp' σ frz xs ys
   | _=>False
  | .clo f' ys=>match s with
   | .clo f xs=>f=f'/\lP hp hp' σ frz xs ys
   | _=>False
  | .asl _ _ _=>False
  | .bp k' e' n'=>match s with
   | .bp k e n=>dh σ k'=some k/\e=e'/\n=n'/\(bW hp' k').live=true
   | _=>False
  | .mth t' y=>match s with
   | .mth t x=>t=t'/\fv hp hp' σ frz x y
   | _=>False
  | .ifc t' y=>match s with
   | .ifc t x=>t=t'/\fv hp hp' σ frz x y
   | _=>False
  | .sl n' cs'=>match s with
   | .own k o n=>n=n'/\mq frz k/\∃ e cs q,bW hp k = .row e cs/\(n=0->q=0)/\((mK cs=true/\cs'=da cs o q)\/∃ cs2:List SV,cs2.length<=cs.length/\(∀ (P:Program) (i:Nat) (x y:SV),cs[i]? = some x->cs2[i]? = some y->jK P (bW hp) (bW hp') (dh σ) (mq frz) x y)/\cs'=da cs2 o q)
   | .v x=>x = .slice none 0 0/\n'=0/\cs'=[]
   | .sl n cs=>n=n'/\cs=cs'/\mK cs=true
   | _=>False
  | .iptr cs' o'=>match s with
   | .ptr k o=>o=o'/\mq frz k/\∃ e cs,bW hp k = .row e cs/\cs'.length<=cs.length/\∀ (P:Program) (i:Nat) (x y:SV),cs[i]? = some x->cs'[i]? = some y->jK P (bW hp) (bW hp') (dh σ) (mq frz) x y
   | .iptr cs o=>cs=cs'/\o=o'/\mK cs=true
   | _=>False
  | .v y=>s = .v y
  | .gd g y=>s = .gd g y/\y.cl=true
def lP (hp hp':Hp) (σ:List (Nm×Nm)) (frz:List Nm):List SV->List SV->Prop
 | xs,ys=>match ys with
  | []=>xs=[]
  | y::ys=>match xs with
   | x::xs=>fv hp hp' σ frz x y/\lP hp hp' σ frz xs ys
   | []=>False
end
theorem sC {hp hp':Hp} {σ:List (Nm×Nm)} {frz:List Nm}:∀ {ys xs:List SV},lP hp hp' σ frz xs ys->xs.length=ys.length/\∀ (i:Nat) (x y:SV),xs[i]? = some x->ys[i]? = some y->fv hp hp' σ frz x y
 | [],xs,h=>by simp only [lP] at h;subst h;exact ⟨rfl,λi x y hx=>by simp at hx⟩
 | y::ys,[],h=>by simp [lP] at h
 | y::ys,x::xs,h=>by
  simp only [lP] at h
  obtain ⟨h1,h2⟩:=sC h.2
  refine ⟨by simp [h1],λi a b ha hb=>?_⟩
  cases i with
  | zero=>simp at ha hb;subst ha;subst hb;exact h.1
  | succ i=>exact h2 i a b (by simpa using ha) (by simpa using hb)
theorem my {hp hp':Hp} {σ:List (Nm×Nm)} {frz:List Nm}:∀ {s' s:SV},fv hp hp' σ frz s s'->jK P (bW hp) (bW hp') (dh σ) (mq frz) s s':=by
 have lst:∀ (n:Nat) {s' s:SV},SizeOf.sizeOf s'<n->fv hp hp' σ frz s s'->jK P (bW hp) (bW hp') (dh σ) (mq frz) s s':=by
  intro n;induction n with
  | zero=>intro s' s h;omega
  | succ n ih =>
   intro s' s hsz h;have sub:∀ {ys xs:List SV},SizeOf.sizeOf ys<n->lP hp hp' σ frz xs ys->xs.length=ys.length/\∀ (i:Nat) (x y:SV),xs[i]? = some x->ys[i]? = some y->jK P (bW hp) (bW hp') (dh σ) (mq frz) x y:=by
    intro ys xs hys hl;obtain ⟨h1,h2⟩:=sC hl;refine ⟨h1,λi x y hx hy=>ih ?_ (h2 i x y hx hy)⟩;have:=List.sizeOf_lt_of_mem (pG hy);omega
   unfold fv at h;cases s' with
   | any=>exact .any
   | v y=>simp only at h;subst h;exact .cl rfl
   | gd g y=>simp only at h;obtain ⟨rfl,h2⟩:=h;exact .cl h2
   | own k' o' n' =>
    cases s<;>simp only at h<;>try exact h.elim
    ·obtain ⟨rfl,rfl,rfl,h,hs⟩:=h;exact .absent h hs
    ·obtain ⟨h1,rfl,rfl,h2⟩:=h;exact .own h1 h2
   | ptr k' o' =>
    cases s<;>simp only at h<;>try exact h.elim
    obtain ⟨h1,rfl,h2⟩:=h;exact .ptr h1 h2
   | mp k' =>
    cases s<;>simp only at h<;>try exact h.elim
    exact .mp h.1 h.2
   | it k' =>
    cases s<;>simp only at h<;>try exact h.elim
    exact .it h.1 h.2
   | agg ys =>
    cases s<;>simp only at h<;>try exact h.elim
    rename_i xs;rcases h with ⟨hst,h⟩|h
    ·subst h;exact .cl (jq (xs:=xs) hst)
    ·obtain ⟨h1,h2⟩:=sub (by simp at hsz;omega) h;exact .agg h1 h2
   | tup ys =>
    cases s<;>simp only at h<;>try exact h.elim
    obtain ⟨h1,h2⟩:=sub (by simp at hsz;omega) h;exact .tup h1 h2
   | clo f ys =>
    cases s<;>simp only at h<;>try exact h.elim
    obtain ⟨rfl,h⟩:=h;obtain ⟨h1,h2⟩:=sub (by simp at hsz;omega) h;exact .clo h1 h2
   | asl k o n=>simp only at h
   | bp k' e' n' =>
    cases s<;>simp only at h<;>try exact h.elim
    obtain ⟨h1,rfl,rfl,h2⟩:=h;exact .bp h1 h2
   | mth t y =>
    cases s<;>simp only at h<;>try exact h.elim
    obtain ⟨rfl,h⟩:=h;exact .mth (ih (by simp at hsz;omega) h)
   | ifc t y =>
    cases s<;>simp only at h<;>try exact h.elim
    obtain ⟨rfl,h⟩:=h;exact .ifc (ih (by simp at hsz;omega) h)
   | sl n' cs' =>
    cases s<;>simp only at h<;>try exact h.elim
    ·obtain ⟨rfl,rfl,rfl⟩:=h;exact .nilsl
    ·obtain ⟨rfl,rfl,h⟩:=h;exact .cl h
    ·obtain ⟨rfl,h1,e,cs,q,h2,h4,h3⟩:=h;rcases h3 with ⟨h3,rfl⟩|⟨cs2,h5,h3,rfl⟩
     ·exact .frz h2 h1 (cF _) (λi x y hx hy=>by rw [hx] at hy;cases hy;exact .cl (lE h3 i x hx)) q h4
     ·exact .frz h2 h1 h5 (h3 P) q h4
   | iptr cs' o' =>
    cases s<;>simp only at h<;>try exact h.elim
    ·obtain ⟨rfl,h1,e,cs,h2,h3,h4⟩:=h;exact .fptr h2 h1 h3 (h4 P)
    ·obtain ⟨rfl,rfl,h⟩:=h;exact .cl h
 exact λ{s' s} h=>lst (SizeOf.sizeOf s'+1) (by omega) h
def CF (hp hp':Hp) (σ:List (Nm×Nm)) (frz:List Nm) (fr:Fr):Fr->Prop
 | []=>True
 | p::r=>fv hp hp' σ frz (cL fr p.1) p.2/\CF hp hp' σ frz fr r
theorem Bd {hp hp':Hp} {σ:List (Nm×Nm)} {frz:List Nm} {fr:Fr}:∀ {fr':Fr},CF hp hp' σ frz fr fr'->∀ d,jK P (bW hp) (bW hp') (dh σ) (mq frz) (cL fr d) (cL fr' d)
 | [],_,d=>.any
 | p::r,h,d=>by
  simp only [cL]
  by_cases hd:p.1=d
  ·subst hd;simp only [oG,cd];exact my h.1
  ·rw [show (p.1==d)=false from by simpa using hd,cj];exact Bd h.2 d
def Be (hp hp':Hp) (σ:List (Nm×Nm)) (frz:List Nm):List (Value×SV)->List (Value×SV)->Prop
 | [],[]=>True
 | a::r,b::s=>a.1=b.1/\fv hp hp' σ frz a.2 b.2/\Be hp hp' σ frz r s
 | _,_=>False
theorem EN {hp hp':Hp} {σ:List (Nm×Nm)} {frz:List Nm}:∀ {ys xs:List (Value×SV)},Be hp hp' σ frz xs ys->xs.length=ys.length/\∀ (i:Nat) (x y:Value×SV),xs[i]? = some x->ys[i]? = some y->x.1=y.1/\fv hp hp' σ frz x.2 y.2
 | [],[],h=>⟨rfl,λi x y hx=>by simp at hx⟩
 | [],_::_,h=>h.elim
 | y::ys,[],h=>h.elim
 | y::ys,x::xs,h=>by
  obtain ⟨h1,h2⟩:=EN h.2.2
  refine ⟨by simp [h1],λi a b ha hb=>?_⟩
  cases i with
  | zero=>simp at ha hb;subst ha;subst hb;exact ⟨h.1,h.2.1⟩
  | succ i=>exact h2 i a b (by simpa using ha) (by simpa using hb)
def sR:List (Value×SV)->Bool
 | []=>true
 | p::r=>p.2.st&&sR r
theorem EO:∀ {es:List (Value×SV)},sR es=true->∀ (i:Nat) (x:Value×SV),es[i]? = some x->x.2.st=true
 | [],_,i,x,h=>by simp at h
 | y::ys,hc,i,x,h=>by
  simp only [sR,cT] at hc
  cases i with
  | zero=>simp at h;subst h;exact hc.1
  | succ i=>exact EO hc.2 i x (by simpa using h)
def nW (hp hp':Hp) (σ:List (Nm×Nm)) (frz:List Nm) (k':Nm):cp->Prop
 | .unborn=>True
 | .dead=>True
 | .void=>match dh σ k' with
  | none=>True
  | some k=>bW hp k = .void
 | .row e cs'=>match dh σ k' with
  | none=>cs'=[]
  | some k=>match bW hp k with
   | .row e2 cs=>e2=e/\((iq cs'=true/\cs=cs')\/lP hp hp' σ frz cs cs'\/(iq cs'=true/\cs' <+: cs))
   | _=>False
 | .map es'=>match dh σ k' with
  | none=>False
  | some k=>match bW hp k with
   | .map es=>bif sR es' then es=es' else Be hp hp' σ frz es es'
   | _=>False
 | .obj s pos=>match dh σ k' with
  | none=>False
  | some k=>bW hp k = .obj s pos
 | .fam _=>True
def zy (hp hp':Hp) (σ:List (Nm×Nm)) (frz:List Nm) (k':Nm) (c:cp):Prop:=match k' with
 | .t k=>nW hp hp' σ frz (.t k) c
 | .s F _=>∀ i:Int,nW hp hp' σ frz (.s F i) (c.at i)
def o_ (hp hp':Hp) (σ:List (Nm×Nm)) (frz:List Nm):Hp->Prop
 | []=>True
 | p::r=>zy hp hp' σ frz p.1 p.2/\o_ hp hp' σ frz r
theorem zz {hp hp':Hp} {σ:List (Nm×Nm)} {frz:List Nm} {k':Nm} {c:cp} (h:nW hp hp' σ frz k' c):sM P (bW hp) (bW hp') (dh σ) (mq frz) k' c:=by
 cases c with
 | unborn=>trivial
 | dead=>trivial
 | void =>
  simp only [nW] at h;intro k hk;rw [hk] at h;exact h
 | row e cs' =>
  simp only [nW] at h;simp only [sM];cases hn:dh σ k' with
  | none=>rw [hn] at h;exact .inl ⟨rfl,h⟩
  | some k =>
   rw [hn] at h;simp only at h;cases hk:bW hp k with
   | row e2 cs =>
    rw [hk] at h;simp only at h;obtain ⟨rfl,h⟩:=h;rcases h with ⟨hst,h⟩|h|⟨hst,t,h⟩
    ·subst h;exact .inr ⟨k,cs,rfl,hk,cF _,λi x y hx hy=>by rw [hx] at hy;cases hy;exact .cl (lE (jq hst) i x hx)⟩
    ·obtain ⟨h1,h2⟩:=sC h;exact .inr ⟨k,cs,rfl,hk,Nat.le_of_eq h1.symm,λi x y hx hy=>my (h2 i x y hx hy)⟩
    ·subst h;refine .inr ⟨k,cs'++t,rfl,hk,by simp,λi x y hx hy=>?_⟩;rw [iP (dy.1 hy).1,hy] at hx;cases hx;exact .cl (lE (jq hst) i x hy)
   | _=>rw [hk] at h;exact h.elim
 | map es' =>
  simp only [nW] at h;simp only [sM];cases hn:dh σ k' with
  | none=>rw [hn] at h;exact h.elim
  | some k =>
   rw [hn] at h;simp only at h;cases hk:bW hp k with
   | map es =>
    rw [hk] at h;simp only at h;cases hst:sR es' with
    | true =>
     rw [hst] at h;simp only [cd] at h;subst h;exact ⟨k,es,rfl,hk,rfl,λi x y hx hy=>by rw [hx] at hy;cases hy;exact ⟨rfl,.cl (BO (EO hst i x hx))⟩⟩
    | false =>
     rw [hst] at h;simp only [cj] at h;obtain ⟨h1,h2⟩:=EN h;exact ⟨k,es,rfl,hk,h1,λi x y hx hy=>⟨(h2 i x y hx hy).1,my (h2 i x y hx hy).2⟩⟩
   | _=>rw [hk] at h;exact h.elim
 | obj s pos =>
  simp only [nW] at h;simp only [sM];cases hn:dh σ k' with
  | none=>rw [hn] at h;exact h.elim
  | some k=>rw [hn] at h;exact ⟨k,rfl,h⟩
 | fam g=>trivial
theorem Hn {hp hp':Hp} {σ:List (Nm×Nm)} {frz:List Nm} {d k':Nm} {c:cp} (h:zy hp hp' σ frz d c) (hd:d.key=k'.key):sM P (bW hp) (bW hp') (dh σ) (mq frz) k' (c.mem k'):=by
 cases k' with
 | t a =>
  rw [Nm.key_t,Nm.key_eq_t] at hd;subst hd;exact zz h
 | s F i =>
  cases d with
  | t a=>simp [Nm.key] at hd
  | s G z =>
   simp only [Nm.key_s,Nm.s.injEq,kZ] at hd;subst hd;exact zz (h i)
def wT:List (Nm×Nm)->Bool
 | []=>true
 | p::r=>r.all (λq=>!(q.2.eqk p.2))&&wT r
theorem sS {σ:List (Nm×Nm)} {k j:Nm} (h:dh σ k=some j):∃ p∈σ,p.1.key=k.key/\j=p.2.to k:=by
 induction σ with
 | nil=>cases h
 | cons p r ih =>
  simp only [dh] at h;by_cases hp:p.1.key=k.key
  ·rw [Nm.eqk_iff.2 hp] at h;cases h;exact ⟨p,by simp,hp,rfl⟩
  ·rw [Nm.eqk_no hp] at h;obtain ⟨q,hq,h1⟩:=ih h;exact ⟨q,by simp [hq],h1⟩
def LL (p:Nm×Nm):Bool:=match p.1,p.2 with
 | .s _ _,.t _=>false
 | _,_=>true
theorem CG {p:Nm×Nm} (h:LL p=true) {k:Nm} (hk:p.1.key=k.key):(p.2.to k).key=p.2.key:=by
 obtain ⟨a,b⟩:=p;cases k with
 | t c=>rfl
 | s F i =>
  cases a with
  | t c=>simp [Nm.key] at hk
  | s G z=>cases b with
   | t c=>cases h
   | s H y=>rfl
theorem zA:∀ {σ:List (Nm×Nm)},wT σ=true->∀ p∈σ,∀ q∈σ,p.2.key=q.2.key->p=q
 | [],_,p,hp,_,_,_=>by cases hp
 | a::r,hn,p,hp,q,hq,h=>by
  simp only [wT,cT,dQ] at hn
  rcases ff.1 hp with e1|hp2<;>rcases ff.1 hq with e2|hq2
  ·rw [e1,e2]
  ·rw [e1] at h;have:=hn.1 q hq2;rw [Nm.eqk_iff.2 h.symm] at this;cases this
  ·rw [e2] at h;have:=hn.1 p hp2;rw [Nm.eqk_iff.2 h] at this;cases this
  ·exact zA hn.2 p hp2 q hq2 h
theorem uY {σ:List (Nm×Nm)} (hn:wT σ=true) (hs:σ.all LL=true):∀ k1 k2 j,dh σ k1=some j->dh σ k2=some j->k1=k2:=λk1 k2 j h1 h2=>by
 obtain ⟨p,hp,hpk,rfl⟩:=sS h1
 obtain ⟨q,hq,hqk,hj⟩:=sS h2
 have sp:=dQ.1 hs p hp
 have sq:=dQ.1 hs q hq
 have hkey:p.2.key=q.2.key:=by rw [←CG sp hpk,hj,CG sq hqk]
 have:=zA hn p hp q hq hkey
 subst this
 have hk:k1.key=k2.key:=hpk.symm.trans hqk
 cases k1 with
 | t a=>cases k2 with
  | t b=>simpa [Nm.key] using hk
  | s F i=>simp [Nm.key] at hk
 | s F i=>cases k2 with
  | t b=>simp [Nm.key] at hk
  | s G z =>
   simp only [Nm.key_s,Nm.s.injEq,kZ] at hk
   subst hk
   simp only [Nm.to,Nm.s.injEq,true_and] at hj
   rw [hj]
def Ni (hp':Hp) (k:Nm):Bool:=match k with
 | .t k=>(bW hp' (.t k)).live
 | .s _ _=>true
def oU (m:Nat) (σ:List (Nm×Nm)) (frz:List Nm):Bool:=(wT σ&&σ.all LL)&&σ.all (λp=>!frz.any (λk=>k.eqk p.2)&&(Nat.ble m p.1.base||p.1==p.2))
def Jl:cp->Bool
 | .fam _=>true
 | .void=>true
 | c=>c.live
def pY (m nx':Nat) (σ:List (Nm×Nm)):Hp->Bool
 | []=>true
 | p::r=>Nat.blt p.1.base nx'&&(Nat.ble m p.1.base || !Jl p.2||(dh σ p.1).isSome)&&pY m nx' σ r
theorem ui {hp hp':Hp} {σ:List (Nm×Nm)} {frz:List Nm} {m:Nat} (h2:o_ hp hp' σ frz hp') (h3:oU m σ frz=true):vp P (bW hp) (bW hp') (dh σ) (mq frz):=by
 simp only [oU,cT] at h3;refine ⟨λk'=>?_,λk1 k2 k _ _=>uY h3.1.1 h3.1.2 k1 k2 k,λk hk k' _ hs=>?_⟩
 ·have gen:∀ (l:Hp),o_ hp hp' σ frz l->sM P (bW hp) (bW hp') (dh σ) (mq frz) k' (bW l k'):=by
   intro l;induction l with
   | nil=>exact λ_=>trivial
   | cons p r ih =>
    intro hl;simp only [bW];by_cases hp:p.1.key=k'.key
    ·rw [Nm.eqk_iff.2 hp,cd];exact Hn hl.1 hp
    ·rw [Nm.eqk_no hp,cj];exact ih hl.2
  exact gen hp' h2
 ·obtain ⟨p,hp,hpk,rfl⟩:=sS hs;have h4:=dQ.1 h3.2 p hp;simp only [cT,kg,List.any_eq_false] at h4;obtain ⟨j,hj,hjk⟩:=hk;have h5:=h4.1 j hj;rw [Nm.eqk_iff.2 (hjk.trans (CG (dQ.1 h3.1.2 p hp) hpk))] at h5;exact h5 rfl
theorem rF {m nx':Nat} {σ:List (Nm×Nm)}:∀ {l:Hp},pY m nx' σ l=true->∀ k:Nm,nx'<=k.base->bW l k = .unborn
 | [],_,k,_=>rfl
 | p::r,h,k,hk=>by
  simp only [pY,cT] at h
  have hlt:p.1.base<nx':=by simpa [kD] using h.1.1
  simp only [bW]
  rw [Nm.eqk_no (λe=>by have:=dJ Nm.base e;simp at this;omega),cj]
  exact rF h.2 k hk
theorem uZ {m nx':Nat} {σ:List (Nm×Nm)} (hσ:∀ p∈σ,Nat.ble m p.1.base=true\/p.1=p.2):∀ {l:Hp},pY m nx' σ l=true->∀ k:Nm,k.base<m->((bW l k).live=true\/bW l k = .void)->dh σ k=some k
 | [],_,k,_,hl=>by rcases hl with hl|hl<;>cases hl
 | p::r,h,k,hk,hl=>by
  simp only [pY,cT] at h
  simp only [bW] at hl
  by_cases hp:p.1.key=k.key
  ·rw [Nm.eqk_iff.2 hp,cd] at hl
   have h2:=h.1.2
   have hlE:Jl p.2=true:=by
    cases k with
    | t a =>
     simp only [cp.mem] at hl;rcases hl with hl|hl<;>cases hp2:p.2<;>rw [hp2] at hl<;>first|rfl|cases hl
    | s F i =>
     simp only [cp.mem,cp.at] at hl;rcases hl with hl|hl<;>cases hp2:p.2<;>rw [hp2] at hl<;>first|rfl|cases hl
   have hb:p.1.base=k.base:=by rw [←Nm.key_base,hp,Nm.key_base]
   rw [hlE] at h2;have hble:Nat.ble m p.1.base=false:=by cases hb2:Nat.ble m p.1.base with
    | false=>rfl
    | true=>have:=cW hb2;omega
   rw [hble] at h2;simp only [jk,Bool.or_false,Bool.false_or,qH] at h2;obtain ⟨j,hj⟩:=h2;have hjk:∃ j2,dh σ k=some j2:=by
    cases k with
    | t a=>rw [Nm.key_t,Nm.key_eq_t] at hp;rw [hp] at hj;exact ⟨j,hj⟩
    | s F i =>
     cases hp1:p.1 with
     | t a=>rw [hp1] at hp;simp [Nm.key] at hp
     | s G z =>
      rw [hp1] at hp hj;simp only [Nm.key_s,Nm.s.injEq,kZ] at hp;subst hp;rw [jm σ G z] at hj;rw [jm σ G i];cases hs:dh σ (.s G 0) with
      | none=>rw [hs] at hj;cases hj
      | some y=>exact ⟨_,rfl⟩
   obtain ⟨j2,hj2⟩:=hjk;obtain ⟨q,hq,hqk,he⟩:=sS hj2;have hqb:q.1.base=k.base:=by rw [←Nm.key_base,hqk,Nm.key_base]
   rcases hσ q hq with h3|h3
   ·have:=cW h3;omega
   ·rw [hj2,he,←h3];cases k with
    | t a=>rw [Nm.key_t,Nm.key_eq_t] at hqk;simp only [Nm.to,hqk]
    | s F i=>simp only [Nm.to,hqb,Nm.base_s]
  ·rw [Nm.eqk_no hp,cj] at hl;exact uZ hσ h.2 k hk hl
theorem EP {m:Nat} {fr fr':Fr} {hp hp':Hp} {nx':Nat} (σ:List (Nm×Nm)) (frz:List Nm) (h1:CF hp hp' σ frz fr fr') (h2:o_ hp hp' σ frz hp') (h3:oU m σ frz=true) (h4:pY m nx' σ hp'=true) (h5:m<=nx'):oY P m fr hp fr' hp' nx' :=
 ⟨⟨dh σ,frz,ui h2 h3,λk hk hl=>uZ (λp hp=>by
  simp only [oU,cT,dQ] at h3
  have:=(h3.2 p hp).2
  simpa using this) h4 k hk hl,Bd h1⟩,rF h4,h5⟩
theorem LM {m:Nat} {x:SV} {hp:Hp} {Post:SV->Hp->Nat->Prop} (x':SV) (hp':Hp) (nx':Nat) (σ:List (Nm×Nm)) (frz:List Nm) (hpost:Post x' hp' nx') (h1:fv hp hp' σ frz x x') (h2:o_ hp hp' σ frz hp') (h3:oU m σ frz=true) (h4:pY m nx' σ hp'=true) (h5:m<=nx'):wM P m Post x hp :=
 ⟨x',hp',nx',hpost,EP σ frz ⟨h1,trivial⟩ h2 h3 h4 h5⟩
theorem J7 {m N:Nat} {c:Code} {Q:g9} {fr:Fr} {hp:Hp} {nx:Nat} {S:Type} (fr0:S->Fr) (hp0:S->Hp) (nx0:S->Nat) (I:S->Prop) (μ:S->Nat) (s0:S) (hI:I s0) (h0:oY P m fr hp (fr0 s0) (hp0 s0) (nx0 s0))
  (h:∀ (s:S) (R:g9),I s->(∀ fr' hp' nx' s',I s'->μ s'<μ s->oY P m fr' hp' (fr0 s') (hp0 s') (nx0 s')->R .normal fr' hp' nx')->(∀ id,R (.exit id)=Q (.exit id))->R .ret=Q .ret->lO P m N c R (fr0 s) (hp0 s) (nx0 s)):lO P m N (.loop c) Q fr hp nx:=by
 refine ⟨0,S,fr0,hp0,nx0,I,μ,⟨s0,hI,h0⟩,λs hs=>?_⟩;exact h s _ hs (λfr' hp' nx' s' h1 h2 h3=>⟨s',h1,h2,h3⟩) (λ_=>rfl) rfl
mutual
theorem sT {τ:Nm->Nm}:∀ {s:SV},s.cl=true->iz τ s=s
 | .any,_=>rfl
 | .v _,_=>rfl
 | .agg xs,h=>by rw [iz,nR (xs:=xs) h]
 | .tup xs,h=>by rw [iz,nR (xs:=xs) h]
 | .sl _ xs,h=>by rw [iz,nR (xs:=xs) h]
 | .iptr xs _,h=>by rw [iz,nR (xs:=xs) h]
 | .clo _ xs,h=>by rw [iz,nR (xs:=xs) h]
 | .ifc _ x,h=>by rw [iz,sT (s:=x) h]
 | .mth _ x,h=>by rw [iz,sT (s:=x) h]
 | .gd _ x,h=>by rw [iz,sT (s:=x) h]
theorem nR {τ:Nm->Nm}:∀ {xs:List SV},mK xs=true->jx τ xs=xs
 | [],_=>rfl
 | x::xs,h=>by
  simp only [mK,cT] at h
  rw [jx,sT h.1,nR h.2]
end
def EQ (m:Nat) (hin:Hp) (σ:List (Nm×Nm)):Bool:=σ.all λp=>Nat.blt p.1.base m&&Ni hin p.1
def qg (hp hin:Hp):List (Nm×Nm)->Prop
 | []=>True
 | p::r=>(match p.1 with
  | .t _=>True
  | .s F _=>∀ i:Int,(bW hin (.s F i)).live=true\/(bW hin (.s F i) = .dead/\bW hp (.s p.2.base i) = .dead)\/(bW hin (.s F i) = .void/\bW hp (.s p.2.base i) = .void))/\qg hp hin r
theorem Bf {hp hin:Hp}:∀ {σ:List (Nm×Nm)},qg hp hin σ->∀ p∈σ,∀ F z,p.1 = .s F z->∀ i:Int,(bW hin (.s F i)).live=true\/(bW hin (.s F i) = .dead/\bW hp (.s p.2.base i) = .dead)\/(bW hin (.s F i) = .void/\bW hp (.s p.2.base i) = .void)
 | [],_,p,hp,_,_,_=>by cases hp
 | q::r,h,p,hp,F,z,e=>by
  rcases ff.1 hp with rfl|hp
  ·have:=h.1;rw [e] at this;exact this
  ·exact Bf h.2 p hp F z e
theorem Bg {m:Nat} {hp hin:Hp} {σ:List (Nm×Nm)} (h5:EQ m hin σ=true) (h6:qg hp hin σ):∀ k j,dh σ k=some j->k.base<m/\((bW hin k).live=true\/(bW hin k = .dead/\bW hp j = .dead)\/(bW hin k = .void/\bW hp j = .void)):=λk j hk=>by
 obtain ⟨p,hp,hpk,rfl⟩:=sS hk
 simp only [EQ,dQ,cT] at h5
 obtain ⟨h7,h8⟩:=h5 p hp
 have hb:p.1.base=k.base:=by rw [←Nm.key_base,hpk,Nm.key_base]
 refine ⟨by rw [←hb];simpa [kD] using h7,?_⟩
 cases k with
 | t a=>rw [Nm.key_t,Nm.key_eq_t] at hpk;rw [hpk] at h8;exact .inl h8
 | s F i =>
  cases hp1:p.1 with
  | t a=>rw [hp1] at hpk;simp [Nm.key] at hpk
  | s G z =>
   rw [hp1] at hpk
   simp only [Nm.key_s,Nm.s.injEq,kZ] at hpk
   subst hpk
   exact Bf h6 p hp G z hp1 i
theorem CH:q_ λ_=>none:=λ_ _=>rfl
theorem cZ {f:FuncId} {args:List SV} {dst:Option Tmp} {ops:Array Oper} {rest:List Oper} {fr:Fr} {hp:Hp} {nx:Nat} {K:Fr->Hp->Nat->Prop} {x:SV} (m5:cS P f args [] 0 (λr h n=>r=x/\h=[]/\n=0)) (ha:mK args=true) (hx:x.cl=true)
  (h:lM P ops rest (gp dst x fr) hp nx K):Hl P f args dst ops rest fr hp nx K:=by
 refine ⟨args,[],0,_,λ_=>none,[],m5,EM,CH,λk _=>⟨rfl,rfl⟩,(λ_ _ _ h=>by cases h),(λ_ _ h=>by cases h),rfl,λi y z hy hz=>?_,⟨x,[],0,rfl,rfl,rfl⟩,(λh=>by cases h),?_⟩
 ·rw [hy] at hz;cases hz;exact .cl (lE ha i y hy)
 ·rintro res hp' nx' ⟨rfl,rfl,rfl⟩;refine ⟨rfl,.inl rfl,_,sP.refl _ _ _,?_⟩;rw [sT hx];exact h
end
section
abbrev iS (n:Int):SV:=.v (.int .i64 n)
abbrev bS (b:Bool):SV:=.v (.bool b)
end
section
end
section
theorem nS {P:Program} {f:FuncId} {args:List SV} {dst:Option Tmp} {ops:Array Oper} {rest:List Oper} {fr:Fr} {hp:Hp} {nx:Nat} {acc:List fV} {K:Fr->Hp->Nat->Prop} {x:SV} (m5:cS P f args [] 0 (λr h n=>r=x/\h=[]/\n=0)) (ha:mK args=true) (hx:x.cl=true)
  (h:ym P ops rest (gp dst x fr) hp (nx+1) (acc++[⟨[],[],nx,nx⟩]) K):Jk P f args dst ops rest fr hp nx acc K:=by
 refine ⟨args,[],0,_,λ_=>none,[],m5,EM,CH,λk _=>⟨rfl,rfl⟩,(λ_ _ _ h=>by cases h),(λ_ _ h=>by cases h),rfl,λi y z hy hz=>?_,⟨x,[],0,rfl,rfl,rfl⟩,(λ_=>?_),?_⟩
 ·rw [hy] at hz;cases hz;exact .cl (lE ha i y hy)
 ·rintro r1 h1 n1 r2 h2 n2 ⟨rfl,rfl,rfl⟩ ⟨rfl,rfl,rfl⟩;exact ⟨rfl,rfl,rfl⟩
 ·rintro res hp' nx' ⟨rfl,rfl,rfl⟩;refine ⟨rfl,.inl rfl,_,sP.refl _ _ _,?_⟩;rw [sT hx];exact h
end
section
open Go.RowKit
inductive Ty where
 | int (k:IntKind)
 | bool
 | str
 | sl (e:Ty)
 | unit
 | pair (a b:Ty)
 | arr (n:Nat) (e:Ty)
abbrev Ty.den:Ty->Type
 | .int _=>Int
 | .bool=>Bool
 | .str=>ByteArray
 | .sl e=>List e.den
 | .unit=>Unit
 | .pair a b=>a.den×b.den
 | .arr _ e=>List e.den
def Ty.width:Ty->Nat
 | .unit=>0
 | .pair a b=>a.width+b.width
 | .arr n e=>n*e.width
 | _=>1
def Ty.sv:(T:Ty)->T.den->List SV
 | .int k,x=>[.v (.int k x)]
 | .bool,x=>[.v (.bool x)]
 | .str,x=>[.v (.string x)]
 | .sl e,xs=>[.sl xs.length (xs.flatMap e.sv)]
 | .unit,_=>[]
 | .pair a b,x=>a.sv x.1++b.sv x.2
 | .arr _ e,xs=>xs.flatMap e.sv
def Ty.ok:(T:Ty)->T.den->Prop
 | .int k,x=>(Lit.int k x).wf=true
 | .bool,_=>True
 | .str,x=>x.size<=maxLen
 | .sl e,xs=>xs.length<=maxLen/\∀ x∈xs,e.ok x
 | .unit,_=>True
 | .pair a b,x=>a.ok x.1/\b.ok x.2
 | .arr n e,xs=>xs.length=n/\∀ x∈xs,e.ok x
def Ty.arg:(T:Ty)->T.den->SV
 | .int k,x=>.v (.int k x)
 | .bool,x=>.v (.bool x)
 | .str,x=>.v (.string x)
 | .sl e,xs=>.sl xs.length (xs.flatMap e.sv)
 | .unit,_=>.agg []
 | .pair a b,x=>.agg (a.sv x.1++b.sv x.2)
 | .arr _ e,xs=>.agg (xs.flatMap e.sv)
theorem Ty.sv_length:∀ (T:Ty) (x:T.den),T.ok x->(T.sv x).length=T.width
 | .int _,_,_=>rfl
 | .bool,_,_=>rfl
 | .str,_,_=>rfl
 | .sl _,_,_=>rfl
 | .unit,_,_=>rfl
 | .pair a b,x,h=>by simp only [Ty.sv,ea,Ty.width,Ty.sv_length a x.1 h.1,Ty.sv_length b x.2 h.2]
 | .arr n e,xs,h=>by
  obtain ⟨hn,h⟩:=h
  have:∀ xs:List e.den,(∀ x∈xs,e.ok x)->(xs.flatMap e.sv).length=xs.length*e.width:=by
   intro xs;induction xs with
   | nil=>exact λ_=>by simp
   | cons x xs ih=>exact λhx=>by rw [pE,ea,ih λy hy=>hx y (by simp [hy]),Ty.sv_length e x (hx x (by simp)),gy];rw [g7];omega
  simp only [Ty.sv,Ty.width];rw [this xs h,hn]
mutual
def pb (P:Program):Nat->TypeId->Ty->Bool
 | 0,_,_=>false
 | F+1,t,T=>match P.underlying t,T with
  | some (.int k),.int k'=>k==k'
  | some .bool,.bool=>true
  | some .string,.str=>true
  | some (.slice e),.sl E=>P.cellsOf e==E.width && !(E.width==0)&&pb P F e E
  | some (.struct fs),.pair a b=>P.cellsOf t==(Ty.pair a b).width&&qP P F fs.toList 0 (.pair a b)
  | some (.struct fs),.unit=>P.cellsOf t==0&&fs.toList.isEmpty
  | some (.array n e),.arr n' E=>n==n'&&P.cellsOf e==E.width&&P.cellsOf t==n*E.width&&pb P F e E
  | _,_=>false
def qP (P:Program):Nat->List Field->Nat->Ty->Bool
 | 0,_,_,_=>false
 | F+1,fs,off,T=>match fs,T with
  | [],.unit=>true
  | f::r,.pair a b=>f.offset==off&&P.cellsOf f.type==a.width&&pb P F f.type a&&qP P F r (off+a.width) b
  | _,_=>false
end
theorem tZ {α:Type} {f:α->List SV} {z:Nat} (hz:0<z):∀ (xs:List α),(∀ x∈xs,(f x).length=z)->∀ i s,(xs.flatMap f)[i]? = some s->∃ x,xs[i/z]? = some x/\(f x)[i%z]? = some s
 | [],_,i,s,h=>by simp at h
 | a::xs,hl,i,s,h=>by
  rw [pE,pC] at h
  have ha:=hl a (by simp)
  rw [ha] at h
  by_cases hi:i<z
  ·rw [if_pos hi] at h
   rw [Nat.div_eq_of_lt hi,uC hi]
   exact ⟨a,rfl,h⟩
  ·rw [if_neg hi] at h
   obtain ⟨x,h1,h2⟩:=tZ hz xs (λx hx=>hl x (by simp [hx])) (i-z) s h
   refine ⟨x,?_,?_⟩
   ·rw [show i/z=(i-z)/z+1 from by rw [Nat.div_eq_sub_div hz (by omega)],List.getElem?_cons_succ];exact h1
   ·rw [Nat.mod_eq_sub_mod (by omega)];exact h2
def wU (P:Program) (C:Nm->cp) (ids:dD) (I:Nat->Prop) (w:World) (cs:List Value) (off:Nat) (l:List SV):Prop :=
∀i s,l[i]? = some s->dT P C ids I w s (cs.getD (off+i) undef)
theorem Bh {α β:Type} {Q:Nat->α->β->Prop}:∀ (ys:List α) (o:Nat),(∀ i y,ys[i]? = some y->∃ x,Q (o+i) y x)->∃ xs:List β,xs.length=ys.length/\∀ i x,xs[i]? = some x->∃ y,ys[i]? = some y/\Q (o+i) y x
 | [],_,_=>⟨[],rfl,λi x h=>by simp at h⟩
 | a::ys,o,h=>by
  obtain ⟨x,hx⟩:=h 0 a rfl
  obtain ⟨xs,h1,h2⟩:=Bh (Q:=Q) ys (o+1) λi y hy=>by
   have:=h (i+1) y (by simpa using hy)
   rwa [show o+(i+1)=o+1+i from by omega] at this
  refine ⟨x::xs,by simp [h1],λi z hz=>?_⟩
  cases i with
  | zero=>simp at hz;subst hz;exact ⟨a,rfl,hx⟩
  | succ i =>
   obtain ⟨y,g1,g2⟩:=h2 i z (by simpa using hz)
   exact ⟨y,by simpa using g1,by rw [show o+(i+1)=o+1+i from by omega];exact g2⟩
section
variable {H:Type} {enc:TypeId×Value->H} {P:Program} {w:World} {sp:Nat->Bool} {held:Bool} {C:Nm->cp} {ids:dD} {I:Nat->Prop}
def Ty.rep (H:Type):(T:Ty)->T.den->DataW H->Prop
 | .int k,x,d=>d = .lit (.int k x)
 | .bool,x,d=>d = .lit (.bool x)
 | .str,x,d=>d = .lit (.string x.data.toList)
 | .sl e,xs,d=>(xs=[]/\d = .nil)\/∃ el spn,d = .slice el spn/\el.length=xs.length/\∀ (i:Nat) (x:e.den),(xs:List e.den)[i]? = some x->∃ y,el[i]? = some y/\e.rep H x y
 | .unit,_,_=>True
 | .pair a b,x,d=>∃ p r,d = .agg (p::r)/\a.rep H x.1 p/\b.rep H x.2 (.agg r)
 | .arr _ e,xs,d=>∃ el,d = .agg el/\el.length=xs.length/\∀ (i:Nat) (x:e.den),(xs:List e.den)[i]? = some x->∃ y,el[i]? = some y/\e.rep H x y
def Ho (H:Type) (enc:TypeId×Value->H) (P:Program) (w:World) (sp:Nat->Bool) (held:Bool) (C:Nm->cp) (ids:dD) (I:Nat->Prop) (T:Ty):Prop :=
∀(F fuel:Nat) (t:TypeId) (cs:List Value) (d:DataW H) (ps:List MemPlace),pb P F t T=true->DataW.trod enc P w 0 sp held fuel t cs=some (d,ps) ->
 ∃x:T.den,T.ok x/\cs.length=T.width/\wU P C ids I w cs 0 (T.sv x)/\T.rep H x d
def CI (H:Type) (enc:TypeId×Value->H) (P:Program) (w:World) (sp:Nat->Bool) (held:Bool) (C:Nm->cp) (ids:dD) (I:Nat->Prop) (T:Ty):Prop :=
∀(F fuel:Nat) (fs:List Field) (off:Nat) (cs:List Value) (xs:List (DataW H×List MemPlace)),qP P F fs off T=true->xs.length=fs.length->(∀ (i:Nat) (f:Field),fs[i]? = some f->DataW.trod enc P w 0 sp held fuel f.type ((cs.drop f.offset).take (P.cellsOf f.type))=xs[i]?) ->
 ∃x:T.den,T.ok x/\wU P C ids I w cs off (T.sv x)/\T.rep H x (.agg (xs.map (·.1)))
theorem Iz {cs:List Value} {off:Nat} {l r:List SV} {n:Nat} (h:wU P C ids I w cs off l) (hn:l.length=n) (g:wU P C ids I w cs (off+n) r):wU P C ids I w cs off (l++r):=λi s hi=>by
 rw [pC] at hi
 by_cases hl:i<l.length
 ·rw [if_pos hl] at hi;exact h i s hi
 ·rw [if_neg hl] at hi
  have:=g _ s hi
  rwa [show off+n+(i-l.length)=off+i from by omega] at this
theorem sU {v:Value} {s:SV} (h:dT P C ids I w s v):wU P C ids I w [v] 0 [s]:=λi x hi=>by
 cases i with
 | zero=>simp at hi;subst hi;exact h
 | succ i=>simp at hi
theorem FX {fuel:Nat} {t e:TypeId} {n:Nat} {cs:List Value} {x:DataW H×List MemPlace} (ht:P.underlying t=some (.array n e)) (h:DataW.trod enc P w 0 sp held fuel t cs=some x) :
 ∃(xs:List (DataW H×List MemPlace)) (m:Nat),x.1 = .agg (xs.map (·.1))/\cs.length=P.cellsOf t/\xs.length=n/\∀ i,i<n->DataW.trod enc P w 0 sp held m e ((cs.drop (i*P.cellsOf e)).take (P.cellsOf e))=xs[i]?:=by
 cases fuel with
 | zero=>simp [DataW.trod] at h
 | succ m =>
  unfold DataW.trod at h;rw [ht] at h;split at h<;>simp_all;obtain ⟨hl,xs,hp,hd⟩:=h;refine ⟨xs,by rw [←hd],?_,m,λi hi=>mapM_some_get hp i i (by simp [hi])⟩;simpa using mapM_some_length hp
theorem zB {e:Ty} (ih:Ho H enc P w sp held C ids I e) {F m:Nat} {te:TypeId} (hB:pb P F te e=true) {n:Nat} {row:Nat->List Value} {els:List (DataW H×List MemPlace)} (hl:els.length=n)
  (h:∀ i,i<n->DataW.trod enc P w 0 sp held m te (row i)=els[i]?):∃ xs:List e.den,xs.length=n/\(∀ x∈xs,e.ok x)/\(∀ (i:Nat) (x:e.den),xs[i]? = some x->(row i).length=e.width/\wU P C ids I w (row i) 0 (e.sv x))/\∀ (i:Nat) (x:e.den),xs[i]? = some x->∃ y,(els.map (·.1))[i]? = some y/\e.rep H x y:=by
 obtain ⟨xs,h1,h2⟩:=Bh (β:=e.den) (Q:=λi (y:DataW H×List MemPlace) x=>e.ok x/\(row i).length=e.width/\wU P C ids I w (row i) 0 (e.sv x)/\e.rep H x y.1) els 0 λi y hy=>by
  have hi:i<n:=by rw [←hl];exact (dy.1 hy).1
  rw [dm];exact ih F m te (row i) y.1 y.2 hB (by rw [h i hi,hy])
 refine ⟨xs,h1.trans hl,λx hx=>?_,λi x hx=>?_,λi x hx=>?_⟩
 ·obtain ⟨i,hi,rfl⟩:=uz hx;obtain ⟨y,_,g,_⟩:=h2 i _ (dz hi);exact g
 ·obtain ⟨y,_,_,g⟩:=h2 i x hx;rw [dm] at g;exact ⟨g.1,g.2.1⟩
 ·obtain ⟨y,g1,_,_,_,g⟩:=h2 i x hx;exact ⟨y.1,by rw [f5,g1];rfl,g⟩
theorem IA {a:Addr} {n:Nat} {v:Value} (h:w.cell? (a.add n)=some v):a.spot=none\/0<n:=by
 unfold Addr.add at h;by_cases hn:n=0
 ·rw [if_pos hn] at h;unfold World.cell? at h;split at h
  ·split at h
   ·cases h
   ·rename_i hs;left;cases hsp:a.spot with
    | none=>rfl
    | some _=>rw [hsp] at hs;simp at hs
  ·cases h
 ·exact .inr (by omega)
theorem reads (hI:∀ b,b<w.heap.size->I b):∀ (T:Ty),Ho H enc P w sp held C ids I T/\CI H enc P w sp held C ids I T:=by
 intro T
 have noF:∀ {T:Ty},(∀ a b,T≠.pair a b)->T≠.unit->CI H enc P w sp held C ids I T:=λ{T} h1 h2 F fuel fs off cs xs hB _ _=>by
  cases F with
  | zero=>simp [qP] at hB
  | succ F =>
   unfold qP at hB
   cases fs<;>cases T<;>simp at hB<;>first|exact absurd rfl h2|exact absurd rfl (h1 _ _)
 have inv:∀ {F:Nat} {t:TypeId} {T:Ty},pb P F t T=true->∃ F' d0,F=F'+1/\P.underlying t=some d0:=λ{F t T} hB=>by
  cases F with
  | zero=>simp [pb] at hB
  | succ F =>
   unfold pb at hB
   cases hu:P.underlying t with
   | none=>rw [hu] at hB;simp at hB
   | some d0=>exact ⟨F,d0,rfl,rfl⟩
 induction T with
 | int k =>
  refine ⟨λF fuel t cs d ps hB hr=>?_,noF (by simp) (by simp)⟩
  obtain ⟨F,d0,rfl,hu⟩:=inv hB
  unfold pb at hB
  rw [hu] at hB
  cases d0<;>simp at hB
  subst hB
  obtain ⟨n,rfl,h1,h2⟩:=DataW.trod_int hu hr
  cases h1
  exact ⟨n,h2,rfl,sU .v,rfl⟩
 | bool =>
  refine ⟨λF fuel t cs d ps hB hr=>?_,noF (by simp) (by simp)⟩
  obtain ⟨F,d0,rfl,hu⟩:=inv hB
  unfold pb at hB
  rw [hu] at hB
  cases d0<;>simp at hB
  obtain ⟨n,rfl,h1⟩:=DataW.trod_bool hu hr
  cases h1
  exact ⟨n,trivial,rfl,sU .v,rfl⟩
 | str =>
  refine ⟨λF fuel t cs d ps hB hr=>?_,noF (by simp) (by simp)⟩
  obtain ⟨F,d0,rfl,hu⟩:=inv hB
  unfold pb at hB
  rw [hu] at hB
  cases d0<;>simp at hB
  obtain ⟨n,rfl,h1,h2⟩:=DataW.trod_string hu hr
  cases h1
  exact ⟨n,h2,rfl,sU .v,rfl⟩
 | sl e ih =>
  refine ⟨λF fuel t cs d ps hB hr=>?_,noF (by simp) (by simp)⟩
  obtain ⟨F,d0,rfl,hu⟩:=inv hB
  unfold pb at hB
  rw [hu] at hB
  cases d0<;>simp at hB
  rename_i te
  obtain ⟨⟨hw,h0⟩,hB⟩:=hB
  rcases DataW.trod_slice hu hr with ⟨rfl,h1⟩|⟨a,len,cap,els,rest,m,_,rfl,h1,_,h2,h3,h4,h5,_⟩
  ·cases h1
   exact ⟨[],⟨io _,λx hx=>by cases hx⟩,rfl,sU (.sl0 (io _)),.inl ⟨rfl,rfl⟩⟩
  ·cases h1
   rw [hw] at h5
   -- the rows
   let row:Nat->List Value:=λi=>(w.cells? 0 (a.add (i*e.width)) e.width).getD []
   have hrow:∀ i,i<len->w.cells? 0 (a.add (i*e.width)) e.width=some (row i):=λi hi=>by
    have:=h5 i hi
    rw [dz (by omega)] at this
    cases hc:w.cells? 0 (a.add (i*e.width)) e.width with
    | none=>rw [hc] at this;cases this
    | some cs=>simp [row,hc]
   obtain ⟨xs,g1,g2,g3,g4⟩:=zB ih.1 hB (row:=row) h4 λi hi=>by rw [←h5 i hi,hrow i hi];rfl
   refine ⟨xs,⟨by rw [g1];omega,g2⟩,rfl,?_,.inr ⟨_,_,rfl,by rw [eD,h4,g1],g4⟩⟩
   refine sU ?_
   rw [g1]
   by_cases hlen:len=0
   ·subst hlen
    have:xs=[]:=iR g1
    subst this
    exact .sl0 h3
   ·-- the first row's first cell
    obtain ⟨_,c1,c2⟩:=World.cells?_some (hrow 0 (by omega))
    have hc0:=c2 0 (by omega)
    rw [dz (by omega)] at hc0
    have hspot:a.spot=none:=by
     rw [lI] at hc0
     have e0:∀ a:Addr,a.add 0=a:=λa=>by simp [Addr.add]
     rw [e0] at hc0
     rcases IA hc0 with h|h
     ·exact h
     ·omega
    have hblk:a.block<w.heap.size:=by
     have:=World.cells?_block (hrow 0 (by omega)) (by omega)
     simpa [Addr.add] using this
    obtain ⟨ab,ao,asp⟩:=a
    simp only at hspot hblk
    subst hspot
    have hcell:∀ i s,(xs.flatMap e.sv)[i]? = some s->∃ c,w.cell? ⟨ab,ao+i,none⟩=some c/\dT P C ids I w s c:=λi s hi=>by
     obtain ⟨x,q1,q2⟩:=tZ (sF h0) xs (λx hx=>Ty.sv_length e x (g2 x hx)) i s hi
     have hq:i/e.width<len:=by rw [←g1];exact (dy.1 q1).1
     obtain ⟨r1,r2⟩:=g3 _ x q1
     have r3:=r2 _ s q2
     rw [dm] at r3
     obtain ⟨_,_,c4⟩:=World.cells?_some (hrow _ hq)
     have hm:i%e.width<e.width:=Nat.mod_lt _ (sF h0)
     have c5:=c4 _ hm
     rw [dz (by omega)] at c5
     refine ⟨_,?_,r3⟩
     rw [dA,dz (by omega),gZ,←c5]
     congr 1
     have hdm:=Nat.div_add_mod i e.width
     rw [Nat.mul_comm] at hdm
     unfold Addr.add
     by_cases hz1:i/e.width*e.width=0
     ·rw [if_pos hz1]
      by_cases hz2:i%e.width=0
      ·rw [if_pos hz2];simp;try omega
      ·rw [if_neg hz2];simp;try omega
     ·rw [if_neg hz1]
      by_cases hz2:i%e.width=0
      ·rw [if_pos hz2];simp;try omega
      ·rw [if_neg hz2];simp;try omega
    refine .sl ab ao cap (λi=>(w.cell? ⟨ab,ao+i,none⟩).getD undef) (hI _ hblk) h2 h3 (λi s hi=>?_) λi s hi=>?_
    ·obtain ⟨c,q1,_⟩:=hcell i s hi;rw [q1];rfl
    ·obtain ⟨c,q1,q2⟩:=hcell i s hi;rw [q1];exact q2
 | unit =>
  refine ⟨λF fuel t cs d ps hB hr=>?_,λF fuel fs off cs xs hB hl hx=>⟨(),trivial,λi s hi=>by simp [Ty.sv] at hi,trivial⟩⟩
  obtain ⟨F,d0,rfl,hu⟩:=inv hB
  unfold pb at hB
  rw [hu] at hB
  cases d0<;>simp at hB
  obtain ⟨xs,n,_,h1,h2,_⟩:=DataW.trod_struct hu hr
  exact ⟨(),trivial,by rw [h2,hB.1];rfl,λi s hi=>by simp [Ty.sv] at hi,trivial⟩
 | pair a b iha ihb =>
  have hF:CI H enc P w sp held C ids I (.pair a b):=λF fuel fs off cs xs hB hl hx=>by
   cases F with
   | zero=>simp [qP] at hB
   | succ F =>
    unfold qP at hB
    cases fs with
    | nil=>simp at hB
    | cons f r =>
     simp only [cT,jB] at hB
     obtain ⟨⟨⟨h1,h2⟩,h3⟩,h4⟩:=hB
     cases xs with
     | nil=>simp at hl
     | cons y ys =>
      have hy:=hx 0 f rfl
      simp only [pB] at hy
      obtain ⟨x1,p1,p2,p3,p4⟩:=iha.1 F fuel f.type _ y.1 y.2 h3 hy
      obtain ⟨x2,q1,q3,q4⟩:=ihb.2 F fuel r (off+a.width) cs ys h4 (by simpa using hl) λi f' hf'=>by
       have:=hx (i+1) f' (by simpa using hf')
       simpa using this
      refine ⟨(x1,x2),⟨p1,q1⟩,Iz (n:=a.width) (λi s hi=>?_) (Ty.sv_length a x1 p1) q3,⟨y.1,ys.map (·.1),rfl,p4,q4⟩⟩
      have:=p3 i s hi
      have hi2:i<a.width:=by rw [←Ty.sv_length a x1 p1];exact (dy.1 hi).1
      rw [dm,dA,mD,if_pos (by omega),m9,h1] at this
      rw [dA]
      exact this
  refine ⟨λF fuel t cs d ps hB hr=>?_,hF⟩
  obtain ⟨F,d0,rfl,hu⟩:=inv hB
  unfold pb at hB
  rw [hu] at hB
  cases d0<;>simp at hB
  rename_i fs
  obtain ⟨hw,hB⟩:=hB
  obtain ⟨xs,n,_,h1,h2,h3,h4⟩:=DataW.trod_struct hu hr
  cases h1
  obtain ⟨x,g1,g2,g3⟩:=hF F n fs.toList 0 cs xs (by simpa using hB) (by simpa using h3) λi f hf=>h4 i f (by simpa using hf)
  exact ⟨x,g1,by rw [h2,hw],g2,g3⟩
 | arr n e ih =>
  refine ⟨λF fuel t cs d ps hB hr=>?_,noF (by simp) (by simp)⟩
  obtain ⟨F,d0,rfl,hu⟩:=inv hB
  unfold pb at hB
  rw [hu] at hB
  cases d0<;>simp at hB
  rename_i n' te
  obtain ⟨⟨⟨rfl,h1⟩,h2⟩,hB⟩:=hB
  obtain ⟨els,m,h3,h4,h5,h6⟩:=FX hu hr
  simp only at h3
  subst h3
  rw [h1] at h6
  obtain ⟨xs,g1,g2,g3,g4⟩:=zB ih.1 hB (row:=λi=>(cs.drop (i*e.width)).take e.width) h5 h6
  refine ⟨xs,⟨g1,g2⟩,by rw [h4,h2];rfl,λi s hi=>?_,⟨_,rfl,by rw [eD,h5,g1],g4⟩⟩
  by_cases h0:e.width=0
  ·have:xs.flatMap e.sv=[]:=iR (by
    have:=Ty.sv_length (.arr n' e) xs ⟨g1,g2⟩
    simp only [Ty.sv,Ty.width,h0,Nat.mul_zero] at this
    exact this)
   simp only [Ty.sv,this] at hi
   simp at hi
  ·obtain ⟨x,q1,q2⟩:=tZ (sF h0) xs (λx hx=>Ty.sv_length e x (g2 x hx)) i s hi
   obtain ⟨r1,r2⟩:=g3 _ x q1
   have r3:=r2 _ s q2
   have hm:i%e.width<e.width:=Nat.mod_lt _ (sF h0)
   have hdm:=Nat.div_add_mod i e.width
   rw [Nat.mul_comm] at hdm
   rw [dm,dA,mD,if_pos hm,m9,hdm] at r3
   rw [dm,dA]
   exact r3
end
end
section
open Go.RowKit Go.ChangeShapes Go.WideShapes
abbrev Tys.den:List Ty->Type
 | []=>Unit
 | T::r=>T.den×Tys.den r
def Tys.args:(l:List Ty)->Tys.den l->List SV
 | [],_=>[]
 | T::r,x=>T.arg x.1::Tys.args r x.2
def Tys.ok:(l:List Ty)->Tys.den l->Prop
 | [],_=>True
 | T::r,x=>T.ok x.1/\Tys.ok r x.2
def Tys.rep (H:Type):(l:List Ty)->Tys.den l->List (DataW H)->Prop
 | [],_,ds=>ds=[]
 | T::r,x,ds=>∃ d s,ds=d::s/\T.rep H x.1 d/\Tys.rep H r x.2 s
def u4 (P:Program) (F:Nat):List TypeId->List Ty->Bool
 | [],[]=>true
 | t::r,T::s=>pb P F t T&&P.readableRec t&&Nat.blt t P.types.size&&u4 P F r s
 | _,_=>false
section
variable {H:Type} {enc:TypeId×Value->H} {P:Program} {w:World} {C:Nm->cp} {ids:dD} {I:Nat->Prop}
theorem xg {r:Reach} {b0:Nat} {t:TypeId} {v:Value} {d:TypeDesc} (hu:P.underlying t=some d) (hd:(∃ k,d = .int k)\/d = .bool\/d = .string\/∃ e,d = .slice e) (h:Value.okWide P w r b0 t v):v.cells.toList=[v]:=by
 rcases hd with ⟨k,rfl⟩|rfl|rfl|⟨e,rfl⟩
 ·obtain ⟨n,rfl⟩:=okWide_int hu h;rfl
 ·obtain ⟨n,rfl⟩:=okWide_bool hu h;rfl
 ·obtain ⟨n,rfl⟩:=okWide_string hu h;rfl
 ·obtain ⟨a,l,c,rfl⟩:=okWide_slice hu h;rfl
theorem CJ {r:Reach} {b0:Nat} {t:TypeId} {v:Value} {d:TypeDesc} (hu:P.underlying t=some d) (hd:(∃ fs,d = .struct fs)\/∃ n e,d = .array n e) (h:Value.okWide P w r b0 t v):∃ cs,v = .agg cs:=by
 unfold Value.okWide at h;rcases hd with ⟨fs,rfl⟩|⟨n,e,rfl⟩
 ·rw [hu] at h;obtain ⟨cs,rfl,_⟩:=h;exact ⟨cs,rfl⟩
 ·rw [hu] at h;obtain ⟨cs,rfl,_⟩:=h;exact ⟨cs,rfl⟩
theorem IB {F:Nat} {t:TypeId} {T:Ty} (h:pb P F t T=true):∃ d,P.underlying t=some d/\match T with
  | .int k=>d = .int k
  | .bool=>d = .bool
  | .str=>d = .string
  | .sl _=>∃ e,d = .slice e
  | .unit=>∃ fs,d = .struct fs
  | .pair _ _=>∃ fs,d = .struct fs
  | .arr _ _=>∃ n e,d = .array n e:=by
 cases F with
 | zero=>simp [pb] at h
 | succ F =>
  unfold pb at h;cases hu:P.underlying t with
  | none=>rw [hu] at h;simp at h
  | some d =>
   rw [hu] at h;refine ⟨d,rfl,?_⟩;cases d<;>cases T<;>simp at h<;>simp_all
theorem J8 {r:Reach} {b0:Nat} (hI:∀ b,b<w.heap.size->I b) {F:Nat} {t:TypeId} {T:Ty} (hB:pb P F t T=true) {v:Value} (hok:Value.okWide P w r b0 t v) {d:DataW H} {ps:List MemPlace} (hr:DataW.Trod enc P w 0 (λ_=>true) true t v d ps) :
 ∃x:T.den,T.ok x/\dT P C ids I w (T.arg x) v/\T.rep H x d:=by
 obtain ⟨fuel,hr⟩:=hr;obtain ⟨x,h1,h2,h3,h4⟩:=(reads (enc:=enc) (C:=C) (ids:=ids) hI T).1 F fuel t _ d ps hB hr;refine ⟨x,h1,?_,h4⟩;obtain ⟨dd,hu,hdd⟩:=IB hB;have one:∀ s,T.sv x=[s]->(v.cells.toList=[v])->dT P C ids I w s v:=λs hs hv=>by
  have:=h3 0 s (by rw [hs];rfl);rw [hv] at this;exact this
 have agg:∀ cs,v = .agg cs->dT P C ids I w (.agg (T.sv x)) v:=λcs hv=>by
  subst hv;have hl:(T.sv x).length=cs.size:=by rw [Ty.sv_length T x h1,←h2];simp [Value.cells]
  refine .agg cs hl λi s hi=>?_
  have:=h3 i s hi;rw [dm] at this;simpa [Value.cells,cQ,dA] using this
 cases T with
 | int k=>exact one _ rfl (xg hu (.inl ⟨k,hdd⟩) hok)
 | bool=>exact one _ rfl (xg hu (.inr (.inl hdd)) hok)
 | str=>exact one _ rfl (xg hu (.inr (.inr (.inl hdd))) hok)
 | sl e=>obtain ⟨te,hdd⟩:=hdd;exact one _ rfl (xg hu (.inr (.inr (.inr ⟨te,hdd⟩))) hok)
 | unit=>obtain ⟨cs,hv⟩:=CJ hu (.inl hdd) hok;exact agg cs hv
 | pair a b=>obtain ⟨cs,hv⟩:=CJ hu (.inl hdd) hok;exact agg cs hv
 | arr n e=>obtain ⟨cs,hv⟩:=CJ hu (.inr hdd) hok;exact agg cs hv
theorem CK {r:Reach} {b0:Nat} (hI:∀ b,b<w.heap.size->I b) {F:Nat}:∀ (ts:List TypeId) (Ts:List Ty) (vs:List Value) (ds:List (DataW H)) (ps:List MemPlace),u4 P F ts Ts=true->(∀ (j:Nat) t v,ts[j]? = some t->vs[j]? = some v->Value.okWide P w r b0 t v) ->
  DataW.TrodAll enc P w 0 (λ_=>true) true ts vs ds ps->∃ x:Tys.den Ts,Tys.ok Ts x/\vs.length=(Tys.args Ts x).length/\(∀ i s,(Tys.args Ts x)[i]? = some s->dT P C ids I w s (vs.getD i undef))/\Tys.rep H Ts x ds/\ds.length=Ts.length
 | [],[],[],[],ps,_,_,h=>⟨(),trivial,rfl,λi s hi=>by simp [Tys.args] at hi,rfl,rfl⟩
 | t::ts,T::Ts,v::vs,d::ds,ps,hB,hok,h=>by
  obtain ⟨p,q,h1,h2,_⟩:=h
  simp only [u4,cT] at hB
  obtain ⟨x,g1,g2,g3⟩:=J8 (C:=C) (ids:=ids) hI hB.1.1.1 (hok 0 t v rfl rfl) h1
  obtain ⟨y,k1,k2,k3,k4,k5⟩:=CK hI ts Ts vs ds q hB.2 (λj t v hj hv=>hok (j+1) t v (by simpa using hj) (by simpa using hv)) h2
  refine ⟨(x,y),⟨g1,k1⟩,by simp [Tys.args,k2],λi s hi=>?_,⟨d,ds,rfl,g3,k4⟩,by simp [k5]⟩
  cases i with
  | zero=>simp [Tys.args] at hi;subst hi;exact g2
  | succ i=>exact k3 i s (by simpa [Tys.args] using hi)
 | [],[],_::_,_,_,_,_,h=>by cases h
 | [],[],[],_::_,_,_,_,h=>by cases h
 | [],_::_,_,_,_,hB,_,_=>by simp [u4] at hB
 | _::_,[],_,_,_,hB,_,_=>by simp [u4] at hB
 | _::_,_::_,[],_,_,_,_,h=>by cases h
 | _::_,_::_,_::_,[],_,_,_,h=>by cases h
theorem wV (hlo:laidOutB P=true) {W W':World} (hb:Below W.heap.size W W') {sp:Nat->Bool} {F:Nat}:∀ (ts:List TypeId) (Ts:List Ty) (vs:List Value) (ds:List (DataW H)) (ps:List MemPlace),u4 P F ts Ts=true->(∀ p∈ps,p.block<W.heap.size)->(∀ p∈ps,sp p.block=true) ->
  DataW.TrodAll enc P W 0 (λ_=>true) true ts vs ds ps->DataW.TrodAll enc P W' 0 sp true ts vs ds ps
 | [],_,[],[],ps,_,_,_,h=>h
 | t::ts,T::Ts,v::vs,d::ds,ps,hB,hlt,hsp,h=>by
  obtain ⟨p,q,h1,h2,rfl⟩:=h
  simp only [u4,cT,kD] at hB
  exact ⟨p,q,WideElems.Trod_stays hlo hB.1.1.2 hB.1.2 h1 (λx hx=>hb.same (hlt x (by simp [hx]))) (λx hx=>hsp x (by simp [hx])),
   wV hlo hb ts Ts vs ds q hB.2 (λx hx=>hlt x (by simp [hx])) (λx hx=>hsp x (by simp [hx])) h2,rfl⟩
 | [],_,_::_,_,_,_,_,_,h=>by cases h
 | [],_,[],_::_,_,_,_,_,h=>by cases h
 | _::_,[],_,_,_,hB,_,_,_=>by simp [u4] at hB
 | _::_,_::_,[],_,_,_,_,_,h=>by cases h
 | _::_,_::_,_::_,[],_,_,_,_,h=>by cases h
theorem FY {f:Func} {s:ChangeSpec} {apart fresh handsOn again:Bool} {W W':World} {args:Array Value} {v:Value} {ds gs:List (DataW H)} {before pa pv:List MemPlace}
  (hW:DataW.Whole enc P f.params.toList s.vars apart W args.toList ds gs before)
  (hres:∀ (b:Nat) (sp:Nat->Bool) (hd:Bool),DataW.TrodAll enc P W' b sp hd f.resultTypes.toList (v.resultList f.resultTypes.size) (s.fn H (ds++gs)).results [])
  (hargs:∀ sp:Nat->Bool,(∀ p∈before,sp p.block=true)->DataW.TrodAll enc P W' 0 sp true f.params.toList args.toList (s.fn H (ds++gs)).args pa)
  (hvars:∀ sp:Nat->Bool,(∀ p∈before,sp p.block=true)->DataW.TrodVars enc P W' sp s.vars (s.fn H (ds++gs)).vars pv)
  (hps:before=pa++pv) (hb:Below W.heap.size W W')
  (hok:∀ (j:Nat) (t:TypeId) (r:Value),f.resultTypes[j]? = some t->(v.resultList f.resultTypes.size)[j]? = some r->Value.okWide P W' .any 0 t r) :
  s.post enc P f apart fresh handsOn again W args v W':=by
 have hlt:∀ p∈before,p.block<W.heap.size:=λp hp=>hW.lt p hp;have hold:∀ p∈before,(λb=>decide (b<W.heap.size)) p.block=true:=λp hp=>by simpa using hlt p hp
 refine ⟨ds,gs,before,[],pa,pv,hW,hres _ _ _,hargs _ hold,hvars _ hold,World.keptBut_mono (λp hp=>⟨hp,?_⟩) (hb.frame (· ∈ before)),λ_=>?_⟩
 ·rw [hps,gA] at hp;exact Or.inr hp
 ·obtain ⟨_,_,_,_,_,hz,hn⟩:=hW;refine ⟨hok,_,_,([]++pa)++pv,⟨[]++pa,pv,trodAll_append (hargs _ (λ_ _=>rfl)) (hres _ _ _),hvars _ (λ_ _=>rfl),rfl,?_,?_⟩,?_⟩
  ·intro b off hp;have hin:MemPlace.cell b off∈before:=by rw [hps];simpa using hp
   rw [hb.frozen (hlt _ hin)];exact hz b off hin
  ·intro ha;have:=hn ha;rw [hps] at this;simpa using this
  ·intro p hp _;rw [hps];simpa using hp
theorem cS.mono {P:Program} {f:FuncId} {args:List SV} {hin:Hp} {m:Nat} {Post Post':SV->Hp->Nat->Prop} (h:cS P f args hin m Post) (hp:∀ r hp n,Post r hp n->Post' r hp n):cS P f args hin m Post' :=
 ⟨h.1,λX vals h1 h2 h3 h4 h5=>(h.2 X vals h1 h2 h3 h4 h5).mono λe w' ⟨r,res,hp',nx',ids',g1,g2,g3⟩=>⟨r,res,hp',nx',ids',g1,hp _ _ _ g2,g3⟩⟩
theorem yn {f:FuncId} {fn:Func} {s:ChangeSpec} {apart fresh handsOn again:Bool} (Ts:List Ty) (F:Nat) (hB:u4 P F fn.params.toList Ts=true) (hv:s.vars=[]) (hs:∀ ds:List (DataW H),ds.length=Ts.length->s.fn H ds = { results:=[.lit (.bool true)],args:=ds })
  (hlo:laidOutB P=true) {tb:TypeId} (hrt:fn.resultTypes = #[tb]) (hub:P.underlying tb=some .bool)
  (W:World) (base:Nat) (args:Array Value) (ds gs:List (DataW H)) (before:List MemPlace) (hval:∀ (j:Nat) t v,fn.params[j]? = some t->args[j]? = some v->Value.okWide P W .any base t v)
  (hspec:∀ x:Tys.den Ts,Tys.ok Ts x->Tys.rep H Ts x (ds++gs)->cS P f (Tys.args Ts x) [] 0 (λr _ _=>r = .v (.bool true)))
  (hW:DataW.Whole enc P fn.params.toList s.vars apart W args.toList ds gs before) (htab:r5 P (λb=>b<W.heap.size) W) :
  Calls P f args W λe W'=>∃ v,e = .returned v/\s.post enc P fn apart fresh handsOn again W args v W':=by
 have hW':=hW;obtain ⟨p,q,hA,hV,rfl,hfz,hnd⟩:=hW;rw [hv] at hV;have hgq:gs=[]/\q=[]:=by
  cases gs with
  | nil=>exact ⟨rfl,hV⟩
  | cons _ _=>cases hV
 obtain ⟨rfl,rfl⟩:=hgq;let C:Nm->cp:=bW [];let I:Nat->Prop:=λb=>b<W.heap.size;let X:Cx:={ gl:=htab,P:=P,w0:=W,I0:=λb=>b<W.heap.size,W0:=λ_=>False,m:=0,ids0:=λ_=>none,C0:=λ_=>.unborn };have hIm:∀ b,b<W.heap.size->Im W (λb=>b<W.heap.size) (λ_=>False) (bW []) (λ_=>none) W b:=λb hb=>⟨.inl hb,hb,λk hk=>by cases hk⟩;obtain ⟨x,h1,h2,h3,h4,h5⟩:=CK (C:=bW []) (ids:=λ_=>none) hIm fn.params.toList Ts args.toList ds p hB (λj t v hj hv=>hval j t v (by simpa using hj) (by simpa using hv)) hA;have hsp:=hspec x h1 (by simpa using h4);have hH:nf X [] 0 X.ids0 X.w0:=⟨⟨⟨λk=>trivial,(λk k' b o o' hl=>by cases hl),(λk b o hl=>by cases hl),λb hb=>⟨hb,λh=>h⟩,λb _ _=>rfl,rfl,⟨rfl,cF _⟩,rfl,cF _⟩,λk hk=>absurd hk (pN _),λk hk=>absurd hk (pN _)⟩,λk _=>rfl,cF _⟩;refine (hsp.2 X args rfl rfl hH (by rw [←h2];simp) λi s hi=>?_).mono λe W' he=>?_
 ·have:=h3 i s hi;simpa [cQ,dA] using this
 obtain ⟨r,res,hp',nx',ids',rfl,hres,hF,hd⟩:=he;subst hres;have hrv:=d9 hd;subst hrv;refine ⟨_,rfl,?_⟩;have hb:Below W.heap.size W W':=⟨hF.st.os,hF.st.tape.1,hF.st.output,hF.st.size,λk hk=>hF.st.evol k hk (λh=>h)⟩;have hfn:=hs ds h5;refine FY (pa:=p) (pv:=[]) hW' (λb sp hd=>?_) (λsp hsp=>?_) (λsp _=>?_) rfl hb (ok_one hrt rfl (okWide_bool_mk hub true))
 ·rw [jo,hfn,hrt];exact trodAll_cons_mk (shut_bool hub true) trodAll_mk0
 ·rw [jo,hfn];exact wV hlo hb fn.params.toList Ts args.toList ds p hB (λx hx=>hW'.lt x (by simp [hx])) (λx hx=>hsp x (by simp [hx])) hA
 ·rw [jo,hfn,hv];rfl
end
end
section
open Go.RowKit
def uj {α β:Type} (f:α->Option β):List α->Option (List β)
 | []=>some []
 | a::r=>match f a,uj f r with
  | some b,some l=>some (b::l)
  | _,_=>none
theorem u5 {α β:Type} {f:α->Option β}:∀ {l:List α} {xs:List β},l.length=xs.length->(∀ (i:Nat) (x:β),xs[i]? = some x->∃ y,l[i]? = some y/\f y=some x)->uj f l=some xs
 | [],[],_,_=>rfl
 | [],_::_,h,_=>by cases h
 | _::_,[],h,_=>by cases h
 | a::l,x::xs,hl,h=>by
  obtain ⟨y,hy,hf⟩:=h 0 x rfl
  cases hy
  unfold uj
  rw [hf,u5 (l:=l) (xs:=xs) (by simpa using hl) λi z hz=>by simpa using h (i+1) z (by simpa using hz)]
def Ty.unrep:(T:Ty)->DataW Unit->Option T.den
 | .int k,d=>match d with
  | .lit (.int k' x)=>if k=k' then some x else none
  | _=>none
 | .bool,d=>match d with
  | .lit (.bool b)=>some b
  | _=>none
 | .str,d=>match d with
  | .lit (.string l)=>some ⟨l.toArray⟩
  | _=>none
 | .sl e,d=>match d with
  | .nil=>some []
  | .slice el _=>uj e.unrep el
  | _=>none
 | .unit,_=>some ()
 | .pair a b,d=>match d with
  | .agg (p::r)=>match a.unrep p,b.unrep (.agg r) with
   | some x,some y=>some (x,y)
   | _,_=>none
  | _=>none
 | .arr _ e,d=>match d with
  | .agg el=>uj e.unrep el
  | _=>none
theorem sV:∀ (T:Ty) (x:T.den) (d:DataW Unit),T.rep Unit x d->T.unrep d=some x
 | .int k,x,d,h=>by
  simp only [Ty.rep] at h;subst h;simp [Ty.unrep]
 | .bool,x,d,h=>by simp only [Ty.rep] at h;subst h;rfl
 | .str,x,d,h=>by simp only [Ty.rep] at h;subst h;simp [Ty.unrep]
 | .sl e,xs,d,h=>by
  simp only [Ty.rep] at h
  rcases h with ⟨rfl,rfl⟩|⟨el,spn,rfl,hl,h⟩
  ·rfl
  ·simp only [Ty.unrep]
   exact u5 hl λi x hx=>by
    obtain ⟨y,hy,hr⟩:=h i x hx
    exact ⟨y,hy,sV e x y hr⟩
 | .unit,_,_,_=>rfl
 | .pair a b,x,d,h=>by
  simp only [Ty.rep] at h
  obtain ⟨p,r,rfl,h1,h2⟩:=h
  simp only [Ty.unrep]
  rw [sV a x.1 p h1,sV b x.2 (.agg r) h2]
 | .arr n e,xs,d,h=>by
  simp only [Ty.rep] at h
  obtain ⟨el,rfl,hl,h⟩:=h
  simp only [Ty.unrep]
  exact u5 hl λi x hx=>by
   obtain ⟨y,hy,hr⟩:=h i x hx
   exact ⟨y,hy,sV e x y hr⟩
def NW:SV->Bool
 | .v _=>true
 | _=>false
def Jm:SV->Bool
 | .v _=>true
 | .sl n l=>Nat.blt 0 n&&l.all NW
 | _=>false
theorem CL {P:Program} {W:World} {n:String} {d:DataW Unit} {g:Nat} {t:TypeId} {cs:List SV} (T:Ty) (F:Nat) (hv:Go.Lib.VarReads P W n d) (hg:P.globalNamed n=some g) (ht:(P.globals[g]?).map (·.type)=some t)
  (hB:pb P F t T=true) (hcs:(T.unrep d).map T.sv=some cs) (hc:cs.all Jm=true) (h0:0<cs.length) :
  g<W.heap.size/\∀ i x,cs[i]? = some x->∃ y,W.cell? ⟨g,i,none⟩=some y/\p7 (λb=>b<W.heap.size) W x y:=by
 obtain ⟨g',t',ca,fuel,p,h1,h2,h3,h4⟩:=hv;rw [hg] at h1;cases h1;rw [ht] at h2;cases h2;obtain ⟨x,hok,hlen,hd,hr⟩:=(reads (H:=Unit) (enc:=λ_=>()) (P:=P) (w:=W) (sp:=λ_=>true) (held:=false) (C:=λ_=>.unborn) (ids:=λ_=>none) (I:=λb=>b<W.heap.size) (λb h=>h) T).1 F fuel t ca.toList d p hB h4;rw [sV T x d hr] at hcs;simp only [fp,fw] at hcs;unfold World.var? at h3;rw [hg] at h3;simp only [cx] at h3;have hcell:∀ i,i<ca.size->W.cell? ⟨g,i,none⟩=some (ca.getD i undef):=λi hi=>by
  split at h3
  ·rename_i arr e fr hw;cases h3;simp [World.cell?,hw,cQ,hi]
  ·cases h3
 have hlt:g<W.heap.size:=by
  split at h3
  ·rename_i arr e fr hw;exact (qF.1 hw).1
  ·cases h3
 have hsz:cs.length<=ca.size:=by
  have:=Ty.sv_length T x hok;rw [hcs,←hlen] at this;simp at this;omega
 refine ⟨hlt,λi s hi=>?_⟩;have hil:=(dy.1 hi).1;refine ⟨_,hcell i (by omega),?_⟩;have hden:=hd i s (by rw [hcs];exact hi);rw [dm] at hden;have e1:(ca.toList.getD i undef)=ca.getD i undef:=by simp [dA,cQ]
 rw [e1] at hden;have hb:=dQ.1 hc s (pG hi);unfold Jm at hb;split at hb
 ·exact d9 hden
 ·rename_i m l;simp only [cT,kD] at hb;obtain ⟨a,cap,he,k1,k2,k3⟩:=sI hden;rcases k3 with ⟨k3,_⟩|⟨b,o,c,rfl,k4,k5,k6⟩
  ·omega
  ·refine ⟨b,o,cap,he,k4,k1,k2,λj z hz=>?_⟩;have hz2:=k6 j z hz;have hv:=dQ.1 hb.2 z (pG hz);unfold NW at hv;split at hv
   ·exact ⟨_,rfl,by rw [k5 j _ hz];exact dJ some (d9 hz2)⟩
   ·cases hv
 ·cases hb
theorem J9 {P:Program} {W:World} (l:List Nat) (hl:((List.range P.globals.size).all λg=>l.contains g||(yK P g).isNone)=true)
  (h:∀ g∈l,∀ cs,yK P g=some cs->g<W.heap.size/\∀ i x,cs[i]? = some x->∃ y,W.cell? ⟨g,i,none⟩=some y/\p7 (λb=>b<W.heap.size) W x y):r5 P (λb=>b<W.heap.size) W:=by
 intro g cs hg;by_cases hlt:g<P.globals.size
 ·have:=dQ.1 hl g (jD.2 hlt);rw [kW] at this;rcases this with h1|h1
  ·exact h g (by simpa using h1) cs hg
  ·rw [hg] at h1;cases h1
 ·unfold yK at hg;rw [Array.getElem?_eq_none_iff.2 (by omega)] at hg;cases hg
end
section
open Go.RowKit
section
variable {S ρ:Type}
def lX (step:S->Option (S ⊕ ρ)):Nat->S->Option ρ
 | 0,_=>none
 | n+1,s=>match step s with
  | none=>none
  | some (.inl s')=>lX step n s'
  | some (.inr r)=>some r
theorem yo {step:S->Option (S ⊕ ρ)}:∀ {n m:Nat} {s:S} {r:ρ},n<=m->lX step n s=some r->lX step m s=some r
 | 0,_,_,_,_,h=>by simp [lX] at h
 | n+1,0,_,_,hl,_=>by omega
 | n+1,m+1,s,r,hl,h=>by
  simp only [lX] at h ⊢
  cases hs:step s with
  | none=>rw [hs] at h;exact h
  | some o =>
   rw [hs] at h
   cases o with
   | inl s'=>exact yo (by omega) h
   | inr r'=>exact h
open Classical in
noncomputable def dE (step:S->Option (S ⊕ ρ)) (s:S):Option ρ :=
 if h:∃ n,(lX step n s).isSome then lX step h.choose s else none
theorem yp {step:S->Option (S ⊕ ρ)} {n:Nat} {s:S} {r:ρ} (h:lX step n s=some r):dE step s=some r:=by
 have he:∃ n,(lX step n s).isSome:=⟨n,by rw [h];rfl⟩;unfold dE;rw [dif_pos he];obtain ⟨r',hr⟩:=qH.1 he.choose_spec;rw [hr];rcases Nat.le_total n he.choose with hl|hl
 ·have:=yo hl h;rw [hr] at this;exact this
 ·have:=yo hl hr;rw [h] at this;exact this.symm
theorem u7 {step:S->Option (S ⊕ ρ)} {s:S} {r:ρ} (h:dE step s=some r):∃ n,lX step n s=some r:=by
 unfold dE at h;split at h
 ·exact ⟨_,h⟩
 ·cases h
theorem yq (step:S->Option (S ⊕ ρ)) (s:S):dE step s=(step s).bind λo=>match o with
  | .inl s'=>dE step s'
  | .inr r=>some r:=by
 cases hs:step s with
 | none =>
  cases hl:dE step s with
  | none=>rfl
  | some r=>obtain ⟨n,hn⟩:=u7 hl;cases n<;>simp [lX,hs] at hn
 | some o =>
  cases o with
  | inr r=>exact yp (n:=1) (by simp [lX,hs])
  | inl s' =>
   show dE step s=dE step s';cases hl:dE step s' with
   | some r=>obtain ⟨n,hn⟩:=u7 hl;exact yp (n:=n+1) (by simp [lX,hs,hn])
   | none =>
    cases hl2:dE step s with
    | none=>rfl
    | some r =>
     obtain ⟨n,hn⟩:=u7 hl2;cases n with
     | zero=>simp [lX] at hn
     | succ n=>simp only [lX,hs] at hn;rw [yp hn] at hl;cases hl
theorem kI {step:S->Option (S ⊕ ρ)} {s s':S} (h:step s=some (.inl s')):dE step s=dE step s':=by rw [yq,h];rfl
theorem f7 {step:S->Option (S ⊕ ρ)} {s:S} {r:ρ} (h:step s=some (.inr r)):dE step s=some r:=by rw [yq,h];rfl
theorem Hq {step:S->Option (S ⊕ ρ)} {s:S} {x:Option ρ} (h:step s=x.map .inr):dE step s=x:=by rw [yq,h];cases x<;>rfl
end
variable {P:Program} {m N:Nat} {Q:g9} {fr:Fr} {hp:Hp} {nx:Nat}
theorem eZ {S ρ:Type} {step:S->Option (S ⊕ ρ)} {s0:S} {r:ρ} {c:Code} (E:S->Fr×Hp×Nat) (h:dE step s0=some r) (h0:oY P m fr hp (E s0).1 (E s0).2.1 (E s0).2.2)
  (hb:∀ (s:S) (o:S ⊕ ρ) (R:g9),step s=some o->(∀ r',o = .inr r'->r'=r)->(∀ s' fr' hp' nx',o = .inl s'->oY P m fr' hp' (E s').1 (E s').2.1 (E s').2.2->R .normal fr' hp' nx')->(∀ id,R (.exit id)=Q (.exit id))->R .ret=Q .ret ->
   lO P m N c R (E s).1 (E s).2.1 (E s).2.2):lO P m N (.loop c) Q fr hp nx:=by
 obtain ⟨n0,hn0⟩:=u7 h;refine J7 (S:={ p:S×Nat // lX step p.2 p.1=some r }) (λp=>(E p.1.1).1) (λp=>(E p.1.1).2.1) (λp=>(E p.1.1).2.2) (λ_=>True) (λp=>p.1.2) ⟨(s0,n0),hn0⟩ trivial h0 ?_;rintro ⟨⟨s,n⟩,hn⟩ R _ h1 h2 h3;cases n with
 | zero=>simp [lX] at hn
 | succ n =>
  simp only [lX] at hn;cases hs:step s with
  | none=>rw [hs] at hn;cases hn
  | some o =>
   rw [hs] at hn;refine hb s o R hs (λr' ho=>?_) (λs' fr' hp' nx' ho hl=>?_) h2 h3
   ·subst ho;simp only [fw] at hn;exact hn
   ·subst ho;exact h1 fr' hp' nx' ⟨(s',n),hn⟩ trivial (ti n) hl
theorem dg {A:Type} {x y:Code} (E:A->Fr×Hp×Nat) (G:A->Prop)
  (h1:∀ K:Fr->Hp->Nat->Prop,(∀ a fr' hp' nx',G a->oY P m fr' hp' (E a).1 (E a).2.1 (E a).2.2->Wk P m K fr' hp' nx')->lO P m N x (tB (Wk P m K) Q) fr hp nx)
  (h2:∀ a,G a->lO P m N y Q (E a).1 (E a).2.1 (E a).2.2):lO P m N (.seq x y) Q fr hp nx :=
 h1 (lO P m N y Q) (λa fr' hp' nx' hg hl=>nk _ _ _ hl (h2 a hg))
theorem kJ {A:Type} {x:Code} {id:Nat} (E:A->Fr×Hp×Nat) (G:A->Prop)
  (h1:∀ K:Fr->Hp->Nat->Prop,(∀ a fr' hp' nx',G a->oY P m fr' hp' (E a).1 (E a).2.1 (E a).2.2->Wk P m K fr' hp' nx')->lO P m N x (zr id (tB (Wk P m K) Q)) fr hp nx)
  (h2:∀ a,G a->Q .normal (E a).1 (E a).2.1 (E a).2.2):lO P m N (.block id x) Q fr hp nx:=by
 have:=h1 (Q .normal) (λa fr' hp' nx' hg hl=>nk _ _ _ hl (h2 a hg));have e:tB (Wk P m (Q .normal)) Q=wK P m Q:=by funext e;cases e<;>rfl
 rw [e] at this;exact this
theorem cc {x y:Code} (h:lO P m N x (tB (Wk P m (lO P m N y Q)) Q) fr hp nx):lO P m N (.seq x y) Q fr hp nx:=h
theorem cY {x:Code} {id:Nat} (h:lO P m N x (zr id (wK P m Q)) fr hp nx):lO P m N (.block id x) Q fr hp nx:=h
theorem cm {ρ:Type} {c:Operand} {b:Bool} {X Y:Option ρ} {o:ρ} {x y:Code} (h:(bif b then X else Y)=some o) (e:dB true fr c = .v (.bool b)) (k1:b=true->X=some o->lO P m N x Q fr hp nx) (k2:b=false->Y=some o->lO P m N y Q fr hp nx):lO P m N (.cond c x y) Q fr hp nx:=by
 simp only [lO,pJ,e];exact ⟨λhb=>k1 hb (by rw [hb] at h;exact h),λhb=>k2 hb (by rw [hb] at h;exact h)⟩
theorem CM {c:Operand} {x y:Code} (e:dB true fr c = .v (.bool true)) (k:lO P m N x Q fr hp nx):lO P m N (.cond c x y) Q fr hp nx:=by
 simp only [lO,pJ,e];exact ⟨λ_=>k,λhb=>by cases hb⟩
theorem CN {c:Operand} {x y:Code} (e:dB true fr c = .v (.bool false)) (k:lO P m N y Q fr hp nx):lO P m N (.cond c x y) Q fr hp nx:=by
 simp only [lO,pJ,e];exact ⟨(λhb=>by cases hb),λ_=>k⟩
theorem ck {α β:Type} {x:Option α} {f:α->Option β} {o:β} (h:x.bind f=some o):∃ a,x=some a/\f a=some o:=by
 cases x with
 | none=>cases h
 | some a=>exact ⟨a,rfl,h⟩
theorem LN {α β:Type} {x:Option α} {f:α->β} {o:β} (h:x.map f=some o):∃ a,x=some a/\f a=o:=by
 cases x with
 | none=>cases h
 | some a=>cases h;exact ⟨a,rfl,rfl⟩
theorem Hs {m:Nat} {fr fr':Fr} {hp hp':Hp} {nx':Nat} (σ:List (Nm×Nm)) (frz:List Nm) (h1:CF hp hp' σ frz fr fr') (h2:o_ hp hp' σ frz hp') (h3:oU m σ frz=true) (h4:pY m nx' σ hp'=true) (h5:Nat.ble m nx'=true):oY P m fr hp fr' hp' nx':=EP σ frz h1 h2 h3 h4 (cW h5)
theorem Jn {m:Nat} {x X:SV} {hp H:Hp} {nn:Nat} (σ:List (Nm×Nm)) (frz:List Nm) (h1:fv hp H σ frz x X) (h2:o_ hp H σ frz H) (h3:oU m σ frz=true) (h4:pY m nn σ H=true) (h5:Nat.ble m nn=true):wM P m (λr h n=>r=X/\h=H/\n=nn) x hp:=LM X H nn σ frz ⟨rfl,rfl,rfl⟩ h1 h2 h3 h4 (cW h5)
end
section
open Go.RowKit
variable {P:Program} {m N:Nat} {Q:g9} {fr:Fr} {hp:Hp} {nx:Nat} {ops:Array Oper}
def t6:List Prop->Prop
 | []=>True
 | p::r=>p/\t6 r
def gI (r:eV) (e:dw):Prop:=match r with
 | .ok s e'=>s/\e'.val=e.val/\e'.upd=e.upd/\e'.nx=e.nx/\e'.rds=e.rds
 | .bad=>False
structure zC where
 fr:Fr
 hp:Hp
 nx:Nat
 acc:List fV
 obs:List Prop
def pq (ops:Array Oper) (fr:Fr) (o:Oper):Option Bool:=match o.guard with
 | none=>some true
 | some jw=>mw ops fr jw.1 jw.2
def FZ (P:Program) (o:Op):SV:=bif lL P o then .gd false .any else .v undef
def zD (P:Program) (o:Oper) (x:SV):SV:=match o.guard with
 | none=>x
 | some _=>bif lL P o.op then .gd true x else x
def u9 (P:Program) (o:Oper) (nx:Nat) (e:dw):Bool:=o.guard.isSome&&(lL P o.op&&(!e.upd.isEmpty || !(e.nx==nx)))
def gq (P:Program) (d:Bool) (ops:Array Oper):Nat->List Oper->List (Option dw)->zC->Option zC
 | 0,_,_,s=>some s
 | _+1,[],_,s=>some s
 | n+1,o::rest,sc,s=>match pq ops s.fr o with
  | none=>none
  | some false=>gq P d ops n rest sc.tail ⟨gp o.dst (FZ P o.op) s.fr,s.hp,bif d then s.nx+1 else s.nx,s.acc++[⟨[],[],s.nx,s.nx⟩],s.obs⟩
  | some true=>match i_ true s.fr o.op with
   | some _=>none
   | none=>match sc with
    | some e::sc'=>bif u9 P o s.nx e then none else
     gq P d ops n rest sc' ⟨gp o.dst (zD P o e.val) s.fr,e.upd++s.hp,bif d then e.nx+1 else e.nx,s.acc++[⟨e.upd.map (·.1.key),e.rds,s.nx,e.nx⟩],gI (kH P true s.fr s.hp s.nx o.type o.op) e::s.obs⟩
    | _=>match kH P true s.fr s.hp s.nx o.type o.op with
     | .bad=>none
     | .ok _ ⟨val,upd,nx',rds⟩=>bif CE P true s.fr s.hp o.op && !u9 P o s.nx ⟨val,upd,nx',rds⟩ then
       gq P d ops n rest sc.tail ⟨gp o.dst (zD P o val) s.fr,upd++s.hp,bif d then nx'+1 else nx',s.acc++[⟨upd.map (·.1.key),rds,s.nx,nx'⟩],s.obs⟩
      else none
theorem sf {dt:Bool} {o:Oper} {K:SV->Hp->Nat->List Nm->Prop} {s:Prop} {e:dw} (hd:pq ops fr o=some true) (hc:i_ true fr o.op=none) (hop:kH P true fr hp nx o.type o.op = .ok s e) (hs:s) (hu:u9 P o nx e=false)
  (hk:K (zD P o e.val) e.upd e.nx e.rds):iv dt P ops o fr hp nx K:=by
 unfold iv;unfold pq at hd;cases hg:o.guard with
 | none =>
  simp only;unfold ky;rw [hc,hop];unfold zD at hk;rw [hg] at hk;exact .inr ⟨hs,hk⟩
 | some jw =>
  unfold u9 at hu;rw [hg] at hd hu;simp only at hd ⊢;rw [hd];simp only;unfold zD at hk;rw [hg] at hk;simp only at hk;cases hq:lL P o.op with
  | true =>
   rw [hq] at hk hu;simp only [cd] at hk ⊢;refine .inr ?_;rw [hop];obtain ⟨val,upd,nx',rds⟩:=e;simp at hu;obtain ⟨hu,rfl⟩:=hu;subst hu;exact ⟨λ_=>hs,hk⟩
  | false =>
   rw [hq] at hk;simp only [cj] at hk ⊢;refine ⟨λ_=>?_,λhe=>by cases he⟩;unfold ky;rw [hc,hop];exact .inr ⟨hs,hk⟩
theorem zE {dt:Bool} {o:Oper} {K:SV->Hp->Nat->List Nm->Prop} (hd:pq ops fr o=some false) (hk:K (FZ P o.op) [] nx []):iv dt P ops o fr hp nx K:=by
 unfold iv;unfold pq at hd;cases hg:o.guard with
 | none=>rw [hg] at hd;cases hd
 | some jw =>
  rw [hg] at hd;simp only at hd ⊢;rw [hd];simp only;unfold FZ at hk;cases hq:lL P o.op with
  | true=>rw [hq] at hk;exact .inl ⟨rfl,hk⟩
  | false=>rw [hq] at hk;exact ⟨(λhe=>by cases he),λ_=>hk⟩
theorem CO {l:List Prop} (h:t6 l) {l2:List Prop} (hs:∃ k,l=k++l2):t6 l2:=by
 obtain ⟨k,rfl⟩:=hs;induction k with
 | nil=>exact h
 | cons p k ih=>exact ih h.2
theorem yr {r:eV} {e:dw} (h:gI r e):∃ s,r = .ok s e/\s:=by
 cases r with
 | bad=>exact h.elim
 | ok s e' =>
  obtain ⟨hs,h1,h2,h3,h4⟩:=h;obtain ⟨v,u,n,rd⟩:=e';simp only at h1 h2 h3 h4;subst h1;subst h2;subst h3;subst h4;exact ⟨s,rfl,hs⟩
theorem rG {d:Bool}:∀ (n:Nat) (l:List Oper) (sc:List (Option dw)) (s s':zC),gq P d ops n l sc s=some s'->∃ k,s'.obs=k++s.obs
 | 0,l,sc,s,s',h=>by cases h;exact ⟨[],rfl⟩
 | n+1,[],sc,s,s',h=>by cases h;exact ⟨[],rfl⟩
 | n+1,o::rest,sc,s,s',h=>by
  unfold gq at h
  split at h
  ·cases h
  ·obtain ⟨k,hk⟩:=rG n rest _ _ _ h;exact ⟨k,hk⟩
  ·split at h
   ·cases h
   ·split at h
    ·rw [fe] at h
     rename_i e _
     split at h
     ·cases h
     ·obtain ⟨k,hk⟩:=rG n rest _ _ _ h;exact ⟨k++[gI (kH P true s.fr s.hp s.nx o.type o.op) e],by rw [hk];simp⟩
    ·split at h
     ·cases h
     ·rw [fe] at h
      split at h
      ·obtain ⟨k,hk⟩:=rG n rest _ _ _ h;exact ⟨k,hk⟩
      ·cases h
theorem xh {K:Fr->Hp->Nat->Prop}:∀ (n:Nat) (l:List Oper) (sc:List (Option dw)) (s s':zC),gq P false ops n l sc s=some s'->t6 s'.obs->lM P ops (l.drop n) s'.fr s'.hp s'.nx K->lM P ops l s.fr s.hp s.nx K
 | 0,l,sc,s,s',h,ho,hr=>by cases h;exact hr
 | n+1,[],sc,s,s',h,ho,hr=>by cases h;simpa using hr
 | n+1,o::rest,sc,s,s',h,ho,hr=>by
  unfold gq at h
  split at h
  ·cases h
  ·rename_i hd
   exact zE hd (xh n rest _ _ _ h ho hr)
  ·rename_i hd
   split at h
   ·cases h
   ·rename_i hc
    split at h
    ·rename_i e sc'
     rw [fe] at h
     split at h
     ·cases h
     ·rename_i hq
      obtain ⟨k,hk⟩:=rG n rest _ _ _ h
      have hob:=(CO ho ⟨k,hk⟩).1
      obtain ⟨sd,hop,hs⟩:=yr hob
      exact sf hd hc hop hs (by simpa using hq) (xh n rest _ _ _ h ho hr)
    ·split at h
     ·cases h
     ·rename_i sd val upd nx' rds hop
      rw [fe] at h
      split at h
      ·rename_i hq
       simp only [cT,kg] at hq
       exact sf hd hc hop (Bc hop hq.1) hq.2 (xh n rest _ _ _ h ho hr)
      ·cases h
theorem u_ {K:List fV->Fr->Hp->Nat->Prop}:∀ (n:Nat) (l:List Oper) (sc:List (Option dw)) (s s':zC),gq P true ops n l sc s=some s'->t6 s'.obs->uT P ops (l.drop n) s'.fr s'.hp s'.nx s'.acc K->uT P ops l s.fr s.hp s.nx s.acc K
 | 0,l,sc,s,s',h,ho,hr=>by cases h;exact hr
 | n+1,[],sc,s,s',h,ho,hr=>by cases h;simpa using hr
 | n+1,o::rest,sc,s,s',h,ho,hr=>by
  unfold gq at h
  split at h
  ·cases h
  ·rename_i hd
   exact zE hd (u_ n rest _ _ _ h ho hr)
  ·rename_i hd
   split at h
   ·cases h
   ·rename_i hc
    split at h
    ·rename_i e sc'
     rw [fe] at h
     split at h
     ·cases h
     ·rename_i hq
      obtain ⟨k,hk⟩:=rG n rest _ _ _ h
      have hob:=(CO ho ⟨k,hk⟩).1
      obtain ⟨sd,hop,hs⟩:=yr hob
      exact sf hd hc hop hs (by simpa using hq) (u_ n rest _ _ _ h ho hr)
    ·split at h
     ·cases h
     ·rename_i sd val upd nx' rds hop
      rw [fe] at h
      split at h
      ·rename_i hq
       simp only [cT,kg] at hq
       exact sf hd hc hop (Bc hop hq.1) hq.2 (u_ n rest _ _ _ h ho hr)
      ·cases h
def dZ (P:Program) (d:Bool) (ops:Array Oper) (l:List Oper) (fr:Fr) (hp:Hp) (nx:Nat) (acc:List fV) (K:Fr->Hp->Nat->Prop):Prop:=match d with
 | false=>lM P ops l fr hp nx (qA K)
 | true=>ym P ops l fr hp nx acc (qA K)
theorem cw {id:Nat} (h:dZ P false ops ops.toList fr hp nx [] (Q .normal)):lO P m N (.region id ops false) Q fr hp nx:=h
theorem d7 {id:Nat} (h:dZ P true ops ops.toList fr hp nx [] (Q .normal)):lO P m N (.region id ops true) Q fr hp nx:=h
def Jo (s:Option zC):Bool:=s.isSome
def iM (s:Option zC):zC:=s.getD ⟨[],[],0,[],[]⟩
theorem Eh {s:Option zC} (h:Jo s=true):s=some (iM s):=by
 cases s with
 | none=>cases h
 | some s=>rfl
theorem J_ {d:Bool} {l:List Oper} {acc:List fV} {K:Fr->Hp->Nat->Prop} (n:Nat) (sc:List (Option dw)) (obs:List Prop) (h1:Jo (gq P d ops n l sc ⟨fr,hp,nx,acc,[]⟩)=true) (h2:(iM (gq P d ops n l sc ⟨fr,hp,nx,acc,[]⟩)).obs=obs) (ho:t6 obs)
  (k:dZ P d ops (l.drop n) (iM (gq P d ops n l sc ⟨fr,hp,nx,acc,[]⟩)).fr (iM (gq P d ops n l sc ⟨fr,hp,nx,acc,[]⟩)).hp (iM (gq P d ops n l sc ⟨fr,hp,nx,acc,[]⟩)).nx (iM (gq P d ops n l sc ⟨fr,hp,nx,acc,[]⟩)).acc K):dZ P d ops l fr hp nx acc K:=by
 have h:=Eh h1;rw [←h2] at ho;cases d with
 | false=>exact xh n l sc _ _ h ho k
 | true=>exact u_ n l sc _ _ h ho k
def oL (fr ks:Fr):Fr:=ks.map λp=>(p.1,cL fr p.1)
def il:Hp->Nm->cp
 | [],_=>.unborn
 | p::r,k=>bif p.1.eqk k then p.2 else il r k
def lY (hp ks:Hp):Hp:=ks.map λp=>(p.1,il hp p.1)
def lg (hp ks:Hp):Bool:=(hp.all λp=>ks.any λq=>q.1.eqk p.1)&&ks.all λq=>match q.1 with
 | .t _=>true
 | .s _ _=>hp.any λp=>p.1.eqk q.1
theorem yu {a b:Nm} (h:a.key=b.key):∀ hp:Hp,il hp a=il hp b
 | []=>rfl
 | p::r=>by
  simp only [il]
  have e:p.1.eqk a=p.1.eqk b:=by
   by_cases hk:p.1.key=a.key
   ·rw [Nm.eqk_iff.2 hk,Nm.eqk_iff.2 (hk.trans h)]
   ·rw [Nm.eqk_no hk,Nm.eqk_no (λe=>hk (e.trans h.symm))]
  rw [e,yu h r]
theorem yv (k:Nm):∀ {hp:Hp},(∃ p∈hp,p.1.key=k.key)->bW hp k=(il hp k).mem k
 | [],h=>by obtain ⟨p,hp,_⟩:=h;cases hp
 | p::r,h=>by
  simp only [bW,il]
  by_cases hk:p.1.key=k.key
  ·rw [Nm.eqk_iff.2 hk,cd,cd]
  ·rw [Nm.eqk_no hk,cj,cj]
   refine yv k ?_
   obtain ⟨q,hq,hqk⟩:=h
   rcases ff.1 hq with rfl|hq
   ·exact absurd hqk hk
   ·exact ⟨q,hq,hqk⟩
theorem Bi (a:Nat):∀ {hp:Hp},il hp (.t a)=bW hp (.t a)
 | []=>rfl
 | p::r=>by simp only [il,bW,cp.mem];rw [Bi a]
theorem wW (fr:Fr) (d:Nat):∀ ks:Fr,cL (oL fr ks) d=cL fr d\/cL (oL fr ks) d = .any
 | []=>.inr rfl
 | p::r=>by
  simp only [oL,gz,cL]
  by_cases h:p.1=d
  ·subst h;left;simp
  ·rw [show (p.1==d)=false from by simpa using h,cj];exact wW fr d r
theorem ER (hp:Hp) (k:Nm):∀ ks:Hp,(∃ q∈ks,q.1.key=k.key)->bW (lY hp ks) k=(il hp k).mem k
 | [],h=>by simp at h
 | p::r,h=>by
  simp only [lY,gz,bW]
  by_cases hk:p.1.key=k.key
  ·rw [Nm.eqk_iff.2 hk,cd,yu hk]
  ·rw [Nm.eqk_no hk,cj]
   refine ER hp k r ?_
   obtain ⟨q,hq,hqk⟩:=h
   rcases ff.1 hq with rfl|hq
   ·exact absurd hqk hk
   ·exact ⟨q,hq,hqk⟩
theorem xj {fr':Fr} {hp':Hp} (h1:oL fr fr'=fr') (h2:lY hp hp'=hp') (h3:lg hp hp'=true):FQ fr fr' hp hp':=by
 refine ⟨λd=>h1▸wW fr d fr',λk=>?_⟩;simp only [lg,cT,dQ,nc] at h3;rw [←h2];by_cases h:∃ q∈hp',q.1.key=k.key
 ·rw [ER hp k hp' h];cases k with
  | t a=>exact Bi a
  | s F i =>
   obtain ⟨q,hq,hqk⟩:=h;have:=h3.2 q hq;cases hq1:q.1 with
   | t a=>rw [hq1] at hqk;simp [Nm.key] at hqk
   | s G z =>
    rw [hq1] at this hqk;simp only [nc] at this;obtain ⟨p,hp1,hp2⟩:=this;exact (yv _ ⟨p,hp1,(Nm.eqk_iff.1 hp2).trans hqk⟩).symm
 ·have n1:¬∃q∈lY hp hp',q.1.key=k.key:=λ⟨q,hq,hqk⟩=>by
   obtain ⟨p,hp1,rfl⟩:=fM.1 hq;exact h ⟨p,hp1,hqk⟩
  rw [pp n1];refine (pp λ⟨p,hp1,e⟩=>h ?_).symm;obtain ⟨q,hq,hqp⟩:=h3.1 p hp1;exact ⟨q,hq,(Nm.eqk_iff.1 hqp).trans e⟩
theorem Nj {l:List Oper} {acc:List fV} {K:Fr->Hp->Nat->Prop} (fr':Fr) (hp':Hp) (nx':Nat) (hl:l=[]) (h1:oL fr fr'=fr') (h2:lY hp hp'=hp') (h3:lg hp hp'=true) (h4:nx=nx') (k:K fr' hp' nx'):dZ P false ops l fr hp nx acc K:=by
 subst hl;subst h4;exact ⟨fr',hp',xj h1 h2 h3,k⟩
theorem Nk {l:List Oper} {acc:List fV} {K:Fr->Hp->Nat->Prop} (fr':Fr) (hp':Hp) (nx':Nat) (hl:l=[]) (h1:oL fr fr'=fr') (h2:lY hp hp'=hp') (h3:lg hp hp'=true) (h4:nx=nx') (h5:P.follows .mixedOrders=true) (h6:mW ops acc (wQ ops.toList)=true) (k:K fr' hp' nx'):dZ P true ops l fr hp nx acc K:=by
 subst hl;subst h4;exact ⟨⟨h5,h6⟩,fr',hp',xj h1 h2 h3,k⟩
theorem Ei {K:Fr->Hp->Nat->Prop} (ns:List fV):zw (EL P ops ns (qA K)):=λfr fr' hp nx h ⟨h1,h2⟩=>⟨h1,CD K _ _ _ _ h h2⟩
theorem cP {d:Bool} {l:List Oper} {acc:List fV} {K:Fr->Hp->Nat->Prop} (t:Nat) (b:Bool) (h:cL fr t = .v (.bool b)\/cL fr t = .gd true (.v (.bool b)))
  (k1:b=true->dZ P d ops l ((t,bif (match cL fr t with | .gd _ _=>true|_=>false) then .gd true (.v (.bool true)) else .v (.bool true))::fr) hp nx acc K)
  (k2:b=false->dZ P d ops l ((t,bif (match cL fr t with | .gd _ _=>true|_=>false) then .gd true (.v (.bool false)) else .v (.bool false))::fr) hp nx acc K):dZ P d ops l fr hp nx acc K:=by
 have gen:∀ c:Bool,b=c->dZ P d ops l ((t,bif (match cL fr t with | .gd _ _=>true|_=>false) then .gd true (.v (.bool c)) else .v (.bool c))::fr) hp nx acc K->dZ P d ops l fr hp nx acc K:=by
  intro c hc hk;subst hc;have e:cL ((t,bif (match cL fr t with | .gd _ _=>true|_=>false) then .gd true (.v (.bool b)) else .v (.bool b))::fr)=cL fr:=by
   funext q;simp only [cL];by_cases hq:t=q
   ·subst hq;rcases h with h|h<;>simp [h]
   ·rw [show (t==q)=false from by simpa using hq,cj]
  cases d with
  | false=>exact wS (CD K) l _ _ _ _ e hk
  | true=>exact zx (Ei ·) l _ _ _ _ _ e hk
 cases b with
 | true=>exact gen true rfl (k1 rfl)
 | false=>exact gen false rfl (k2 rfl)
def qQ (ops:Array Oper) (fr:Fr):List Oper->Option (FuncId×List SV×Option Tmp)
 | o::_=>match pq ops fr o with
  | some true=>(i_ true fr o.op).map λc=>(c.1,c.2,o.dst)
  | _=>none
 | []=>none
theorem Ej {g:Bool} {o:Op} {c:FuncId×List SV} (h:i_ g fr o=some c):Hc o=false:=by
 cases o<;>simp only [i_] at h<;>try (cases h;done)
 rename_i cl;obtain ⟨callee,args,argTypes⟩:=cl;cases callee<;>simp only at h<;>first|rfl|cases h
theorem cD {d:Bool} {l:List Oper} {acc:List fV} {K:Fr->Hp->Nat->Prop} (f:FuncId) (args:List SV) (dst:Option Tmp) (h:qQ ops fr l=some (f,args,dst))
  (k:match d with|false=>Hl P f args dst ops (l.drop 1) fr hp nx (qA K)|true=>Jk P f args dst ops (l.drop 1) fr hp nx acc (qA K)):dZ P d ops l fr hp nx acc K:=by
 cases l with
 | nil=>cases h
 | cons o rest =>
  simp only [qQ] at h;cases hd:pq ops fr o with
  | none=>rw [hd] at h;cases h
  | some b =>
   cases b with
   | false=>rw [hd] at h;cases h
   | true =>
    rw [hd] at h;simp only at h;cases hc:i_ true fr o.op with
    | none=>rw [hc] at h;cases h
    | some c =>
     rw [hc] at h;simp only [fp,fw,gX] at h;obtain ⟨rfl,rfl,rfl⟩:=h;have hq:lL P o.op=false:=by unfold lL;rw [Ej hc];rfl
     have step:∀ {dt:Bool} {K2:SV->Hp->Nat->List Nm->Prop},BN dt P c.1 c.2 hp nx K2->iv dt P ops o fr hp nx K2:=by
      intro dt K2 hk;unfold iv;unfold pq at hd;cases hg:o.guard with
      | none=>simp only;unfold ky;rw [hc];exact hk
      | some jw =>
       rw [hg] at hd;simp only at hd ⊢;rw [hd];simp only [hq,cj];refine ⟨λ_=>?_,(λhe=>by cases he)⟩;unfold ky;rw [hc];exact hk
     cases d with
     | false=>exact step k
     | true=>exact step k
end
section
open Go.RowKit
class bZ (α:Type) extends Inhabited α where
 sz:Nat
 cells:α->List SV
 len:∀ a,(cells a).length=sz
 one:∀ a,(cells a).all jl=true
 stc:∀ a,iq (cells a)=true
variable {α β:Type}
instance : bZ Int:=⟨1,λx=>[.v (.int .i64 x)],λ_=>rfl,λ_=>rfl,λ_=>rfl⟩
instance : bZ Bool:=⟨1,λx=>[.v (.bool x)],λ_=>rfl,λ_=>rfl,λ_=>rfl⟩
instance : bZ ByteArray:=⟨1,λx=>[.v (.string x)],λ_=>rfl,λ_=>rfl,λ_=>rfl⟩
def fl [bZ α] (xs:List α):List SV:=xs.flatMap bZ.cells
theorem LO [bZ α]:fl ([]:List α)=[]:=rfl
theorem kO [bZ α] (x:α) (xs:List α):fl (x::xs)=bZ.cells x++fl xs:=rfl
theorem fJ [bZ α] (xs ys:List α):fl (xs++ys)=fl xs++fl ys:=by simp [fl]
theorem iA [bZ α] (xs:List α):(fl xs).length=xs.length*bZ.sz α:=by
 induction xs with
 | nil=>simp [fl]
 | cons x xs ih=>rw [kO,ea,ih,bZ.len,gy,g7,Nat.one_mul,Nat.add_comm]
theorem Ka {xs ys:List SV} (h:iq xs=true) (g:iq ys=true):iq (xs++ys)=true:=by
 induction xs with
 | nil=>exact g
 | cons x xs ih=>simp only [iq,cT,iy] at h ⊢;exact ⟨h.1,ih h.2⟩
theorem kP [bZ α] (xs:List α):iq (fl xs)=true:=by
 induction xs with
 | nil=>rfl
 | cons x xs ih=>rw [kO];exact Ka (bZ.stc x) ih
theorem BP [bZ α] (xs:List α):mK (fl xs)=true:=jq (kP xs)
theorem Ht [bZ α] (xs:List α):(fl xs).all jl=true:=by
 induction xs with
 | nil=>rfl
 | cons x xs ih=>rw [kO,List.all_append,bZ.one,ih];rfl
instance [bZ α]:bZ (List α):=⟨1,λx=>[.sl x.length (fl x)],λ_=>rfl,λ_=>rfl,λx=>by simp only [iq,SV.st,kP,rr]⟩
theorem ES [bZ α] (xs:List α) (i:Nat):(fl xs).drop (i*bZ.sz α)=fl (xs.drop i):=by
 induction xs generalizing i with
 | nil=>simp [fl]
 | cons x xs ih =>
  cases i with
  | zero=>simp
  | succ i =>
   rw [kO,List.drop_succ_cons,←ih i,List.drop_append,List.drop_of_length_le (by rw [bZ.len];exact Nat.le_mul_of_pos_left _ (Nat.succ_pos i)),pD,bZ.len];congr 1;rw [g7,Nat.one_mul,Nat.add_sub_cancel]
theorem ET [bZ α] (xs:List α) (i:Nat):(fl xs).take (i*bZ.sz α)=fl (xs.take i):=by
 induction xs generalizing i with
 | nil=>simp [fl]
 | cons x xs ih =>
  cases i with
  | zero=>simp [fl]
  | succ i =>
   rw [kO,List.take_succ_cons,kO,←ih i,List.take_append,bZ.len,kE (by rw [bZ.len];exact Nat.le_mul_of_pos_left _ (Nat.succ_pos i))];congr 2;rw [g7,Nat.one_mul,Nat.add_sub_cancel]
theorem Hu [bZ α] (xs:List α) (i n:Nat):da (fl xs) (i*bZ.sz α) (n*bZ.sz α)=fl ((xs.drop i).take n):=by
 simp only [da,ES,ET]
theorem Jp [bZ α] (xs:List α) (i:Nat) (h:i<xs.length):((fl xs).drop (i*bZ.sz α)).take (bZ.sz α)=bZ.cells (xs.getD i default):=by
 rw [ES];have:xs.drop i=xs.getD i default::xs.drop (i+1):=by rw [List.drop_eq_getElem_cons h];simp [dA,h]
 rw [this,kO,List.take_append,bZ.len,Nat.sub_self,List.take_zero,jo,kE (by rw [bZ.len];exact cF _)]
theorem EU [bZ α] (xs:List α) (i j:Nat) (h:i<xs.length) (hj:j<bZ.sz α) (d:SV):(fl xs).getD (i*bZ.sz α+j) d=(bZ.cells (xs.getD i default)).getD j d:=by
 rw [←Jp xs i h];simp only [dA,mD,if_pos hj,m9]
theorem F0 (vs:List SV):∀ (us bs:List SV) (o:Nat),fU (us++bs) (us.length+o) vs=us++fU bs o vs:=by
 induction vs with
 | nil=>intro us bs o;rfl
 | cons v vs ih =>
  intro us bs o;simp only [fU];rw [List.set_append_right _ _ (by omega),show us.length+o-us.length=o from by omega,iQ,ih]
theorem El (vs:List SV):∀ (us bs:List SV) (o:Nat),o+vs.length<=us.length->fU (us++bs) o vs=fU us o vs++bs:=by
 induction vs with
 | nil=>intro us bs o _;rfl
 | cons v vs ih =>
  intro us bs o h;simp only [gy] at h;simp only [fU];rw [List.set_append_left _ _ (by omega),ih _ _ _ (by simp;omega)]
theorem Bj [bZ α] (y:α) (vs:List SV) (j:Nat):∀ (xs:List α) (i:Nat),i<xs.length->j+vs.length<=bZ.sz α->fU (bZ.cells (xs.getD i default)) j vs=bZ.cells y->fU (fl xs) (i*bZ.sz α+j) vs=fl (xs.set i y)
 | [],i,h,_,_=>by simp at h
 | x::xs,0,h,hj,hy=>by
  rw [lI,dm,kO,El _ _ _ _ (by rw [bZ.len];exact hj)]
  simp only [List.getD_cons_zero] at hy
  rw [hy,List.set_cons_zero,kO]
 | x::xs,i+1,h,hj,hy=>by
  rw [kO,show (i+1)*bZ.sz α+j=(bZ.cells x).length+(i*bZ.sz α+j) from by rw [bZ.len,g7,Nat.one_mul];omega,F0,
   Bj y vs j xs i (by simpa using h) hj (by simpa using hy),List.set_cons_succ,kO]
def ix [bZ α] (xs:List α) (i:Int):α:=xs.getD i.toNat default
def cut (xs:List α) (l h:Int):List α:=(xs.drop l.toNat).take (h.toNat-l.toNat)
theorem fq [bZ α] (xs:List α) (i:Int) (j:Nat) (hj:j<bZ.sz α) (d:SV) (hd:(bZ.cells (default:α)).getD j d=d):(fl xs).getD (i.toNat*bZ.sz α+j) d=(bZ.cells (ix xs i)).getD j d:=by
 by_cases h:i.toNat<xs.length
 ·exact EU xs _ j h hj d
 ·have e:ix xs i=default:=by simp [ix,dA,nb (Nat.le_of_not_lt h)]
  rw [e,hd,dA,nb,Option.getD_none];rw [iA];have:xs.length*bZ.sz α<=i.toNat*bZ.sz α:=kX _ (Nat.le_of_not_lt h);omega
theorem IC [bZ α] (xs:List α) (i:Int) (h:0<=i/\i<(xs.length:Int)):((fl xs).drop (i.toNat*bZ.sz α)).take (bZ.sz α)=bZ.cells (ix xs i):=Jp xs i.toNat (by omega)
theorem Kb [bZ α] (xs:List α) (i:Int) (j:Nat) (h:0<=i/\i<(xs.length:Int)) (d:SV) (hj:j<bZ.sz α):(fl xs).getD (i.toNat*bZ.sz α+j) d=(bZ.cells (ix xs i)).getD j d:=EU xs i.toNat j (by omega) hj d
theorem LP [bZ α] (xs:List α) (i:Int) (h:0<=i/\i<(xs.length:Int)) (y:α) (j:Nat) (vs:List SV) (hj:j+vs.length<=bZ.sz α) (hy:fU (bZ.cells (ix xs i)) j vs=bZ.cells y):fU (fl xs) (i.toNat*bZ.sz α+j) vs=fl (xs.set i.toNat y) :=
 Bj y vs j xs i.toNat (by omega) hj hy
theorem LQ [bZ α] (xs:List α) (l h:Int) (k:0<=l/\l<=h/\h<=(xs.length:Int)):SV.sl (h.toNat-l.toNat) (da (fl xs) (l.toNat*bZ.sz α) ((h.toNat-l.toNat)*bZ.sz α))=SV.sl (cut xs l h).length (fl (cut xs l h)):=by
 rw [Hu];congr 1;simp only [cut,fH,jj];omega
theorem rc [bZ α] (xs:List α) (n:Nat) (h:n=xs.length*bZ.sz α):(fl xs).take n=fl xs:=by
 rw [h,kE (by rw [iA];exact cF _)]
theorem ID [bZ α] (xs ys:List α):fl xs++fl ys=fl (xs++ys):=(fJ xs ys).symm
theorem CP [bZ α] (xs:List (List α)) (y:List α):fl xs++[SV.sl y.length (fl y)]=fl (xs++[y]):=by rw [fJ];rfl
theorem Em (xs:List Int) (y:Int):fl xs++[SV.v (.int .i64 y)]=fl (xs++[y]):=by rw [fJ];rfl
theorem CQ (xs:List Bool) (y:Bool):fl xs++[SV.v (.bool y)]=fl (xs++[y]):=by rw [fJ];rfl
theorem En (xs:List Int) (y:Int):SV.v (.int .i64 y)::fl xs=fl (y::xs):=rfl
theorem CR [bZ α] (n:Nat) (cs:List SV) (h:cs=bZ.cells (default:α)):((List.range n).flatMap λ_=>cs)=fl (List.replicate n (default:α)):=by
 subst h;induction n with
 | zero=>rfl
 | succ n ih=>rw [List.range_succ,uB,ih,List.replicate_succ',fJ];simp [fl]
theorem Kc [bZ α] (τ:Nm->Nm) (xs:List α):jx τ (fl xs)=fl xs:=nR (BP xs)
theorem LR:bZ.sz Int=1:=rfl
theorem Kd:bZ.sz Bool=1:=rfl
theorem Ke [bZ α]:bZ.sz (List α)=1:=rfl
theorem Hv (x:Int):bZ.cells x=[SV.v (.int .i64 x)]:=rfl
theorem F7 (x:Bool):bZ.cells x=[SV.v (.bool x)]:=rfl
theorem Hw [bZ α] (x:List α):bZ.cells x=[SV.sl x.length (fl x)]:=rfl
theorem Kf:List.range 0=[]:=rfl
theorem Kg:List.range 1=[0]:=rfl
theorem Kh:List.range 2=[0,1]:=rfl
theorem Ki:List.range 3=[0,1,2]:=rfl
theorem Kj:List.range 4=[0,1,2,3]:=rfl
theorem Kk:List.range 5=[0,1,2,3,4]:=rfl
theorem Kl:List.range 6=[0,1,2,3,4,5]:=rfl
def qh:List Nm->Nm->Bool
 | [],_=>false
 | a::r,k=>a.eqk k||qh r k
theorem ot:∀ {l:List Nm} {k:Nm},qh l k=true->mq l k
 | a::r,k,h=>by
  simp only [qh,kW] at h
  rcases h with h|h
  ·exact ⟨a,by simp,Nm.eqk_iff.1 h⟩
  ·obtain ⟨j,hj,he⟩:=ot h
   exact ⟨j,by simp [hj],he⟩
theorem LS (l:List Nm) (k:Nm):mq l k=(qh l k=true):=by
 refine propext ⟨λ⟨j,hj,he⟩=>?_,ot⟩;induction l with
 | nil=>cases hj
 | cons a r ih =>
  simp only [qh,kW];rcases ff.1 hj with rfl|hj
  ·exact .inl (Nm.eqk_iff.2 he)
  ·exact .inr (ih ⟨j,hj,he⟩ hj)
def sg (c:cp) (cs:List SV):Prop:=match c with
 | .row _ cs'=>cs'=cs
 | _=>False
theorem jr [bZ α] {hp hp':Hp} {σ:List (Nm×Nm)} {frz:List Nm} {k:Nm} {n n':Nat} (ys:List α) (h1:n=ys.length) (h23:qh frz k=true/\sg (bW hp k) (fl ys)) (h4:n'=ys.length):fv hp hp' σ frz (.own k 0 n) (.sl n' (fl ys))=True:=by
 obtain ⟨h2,h3⟩:=h23;refine eq_true ?_;simp only [fv];subst h1;refine ⟨h4.symm,ot h2,?_⟩;cases hk:bW hp k with
 | row e cs =>
  rw [hk] at h3;simp only [sg] at h3;subst h3;refine ⟨e,fl ys,ys.length*bZ.sz α,rfl,λh0=>by rw [h0,lI],.inl ⟨BP ys,?_⟩⟩;rw [da,ru,rc ys _ rfl]
 | _=>rw [hk] at h3;exact h3.elim
theorem F8 [bZ α] (ys:List α) (b:Int):(fl (cut ys 0 b) <+: fl ys)=True:=by
 refine eq_true ?_;have:cut ys 0 b=ys.take b.toNat:=by simp [cut]
 rw [this,←ET];exact List.take_prefix _ _
def mi (m:List (Int×Int)):List (Value×SV):=m.map λp=>(.int .i64 p.1,.v (.int .i64 p.2))
def fY (m:List (Int×Int)) (k:Int):Int:=((m.find? λp=>k==p.1).map (·.2)).getD 0
def iw (m:List (Int×Int)) (k v:Int):List (Int×Int):=match m with
 | []=>[(k,v)]
 | p::r=>bif k==p.1 then (k,v)::r else p::iw r k v
theorem LU (m:List (Int×Int)):sR (mi m)=true:=by
 induction m with
 | nil=>rfl
 | cons p r ih=>simp only [mi,gz,sR,SV.st,rr];exact ih
theorem LX:mi []=[]:=rfl
theorem CS (m:List (Int×Int)) (k:Int):(mi m).all (λp=>gM (.int .i64 k) p.1)=true:=by simp [mi,gM]
theorem Hx (k a:Int):gQ (.int .i64 k) (.int .i64 a)=(k==a):=by simp [gQ,j9]
theorem Ao (k:Int):∀ (m:List (Int×Int)) (i:Nat),eY (.int .i64 k) (mi m) i=(m.findIdx? λp=>k==p.1).map λj=>(i+j,.v (.int .i64 (m.getD j (0,0)).2))
 | [],i=>rfl
 | p::r,i=>by
  show (bif gQ (.int .i64 k) (.int .i64 p.1) then _ else eY _ (mi r) (i+1))=_
  rw [Hx,List.findIdx?_cons]
  cases h:k==p.1 with
  | true=>simp
  | false =>
   simp only [cj,Ao k r (i+1)]
   cases (r.findIdx? λp=>k==p.1) with
   | none=>simp
   | some j=>simp;omega
theorem IE (m:List (Int×Int)) (k:Int):gC (.int .i64 0) (.int .i64 k) (mi m) = .v (.int .i64 (fY m k)):=by
 unfold gC fY;induction m with
 | nil=>rfl
 | cons p r ih =>
  rw [Ao] at ih ⊢;rw [List.findIdx?_cons,List.find?_cons];cases h:k==p.1 with
  | true=>simp
  | false =>
   simp only [fy,lH];cases hr:(r.findIdx? λp=>k==p.1) with
   | none=>rw [hr] at ih;simpa using ih
   | some j=>rw [hr] at ih;simpa using ih
theorem Km (m:List (Int×Int)) (k v:Int):ll (.int .i64 k) (.v (.int .i64 v)) (mi m)=mi (iw m k v):=by
 unfold ll;rw [Ao];induction m with
 | nil=>rfl
 | cons p r ih =>
  rw [List.findIdx?_cons];unfold iw;cases h:k==p.1 with
  | true=>simp [mi]
  | false =>
   simp only [fy,lH,cj];cases hr:(r.findIdx? λp=>k==p.1) with
   | none=>rw [hr] at ih;simp [mi] at ih ⊢;exact ih
   | some j=>rw [hr] at ih;simp [mi] at ih ⊢;exact ih
end
section
open Go.RowKit
variable {P:Program} {m N:Nat} {Q:g9} {fr:Fr} {hp:Hp} {nx:Nat} {ops:Array Oper}
theorem c7 {l:List Oper} {K:Fr->Hp->Nat->Prop} (h:dZ P false ops l fr hp nx [] K):lM P ops l fr hp nx (qA K):=h
theorem pd {l:List Oper} {acc:List fV} {K:Fr->Hp->Nat->Prop} (h:dZ P true ops l fr hp nx acc K):ym P ops l fr hp nx acc (qA K):=h
theorem cC {ρ:Type} {b:Bool} {X:Option ρ} {o:ρ} {G:Prop} (h:(bif b then X else none)=some o) (k:b=true->X=some o->G):G:=by
 cases b with
 | false=>cases h
 | true=>exact k rfl h
theorem zF {p b:Bool} (h:(!p||b)=true) (hp:p=true):b=true:=by subst hp;exact h
theorem j_ {d:Bool} {l:List Oper} {acc:List fV} {K:Fr->Hp->Nat->Prop} {ρ:Type} {b:Bool} {X Y:Option ρ} {o:ρ} (h:(bif b then X else Y)=some o) (t:Nat) (ht:cL fr t = .v (.bool b)\/cL fr t = .gd true (.v (.bool b)))
  (k1:b=true->X=some o->dZ P d ops l ((t,bif (match cL fr t with | .gd _ _=>true|_=>false) then .gd true (.v (.bool true)) else .v (.bool true))::fr) hp nx acc K)
  (k2:b=false->Y=some o->dZ P d ops l ((t,bif (match cL fr t with | .gd _ _=>true|_=>false) then .gd true (.v (.bool false)) else .v (.bool false))::fr) hp nx acc K):dZ P d ops l fr hp nx acc K :=
 cP t b ht (λhb=>k1 hb (by rw [hb] at h;exact h)) (λhb=>k2 hb (by rw [hb] at h;exact h))
theorem eG {R:g9} {id:Nat} (hx:∀ id,R (.exit id)=Q (.exit id)) (h:Q (.exit id) fr hp nx):R (.exit id) fr hp nx:=by rw [hx];exact h
theorem fE {R:g9} (hx:R .ret=Q .ret) (h:Q .ret fr hp nx):R .ret fr hp nx:=by rw [hx];exact h
def va (P:Program) (fr:Fr) (hp:Hp) (nx:Nat):List ResultVar->Option (List SV)
 | []=>some []
 | .tmp t::r=>(va P fr hp nx r).map λxs=>cL fr t::xs
 | .cell a t::r=>match cL fr a with
  | .ptr k off=>match bW hp k with
   | .row _ cs=>bif uX P t cs off then (match ku P t cs off [k.key] nx with
    | .ok _ e=>(va P fr hp nx r).map λxs=>e.val::xs
    | .bad=>none) else none
   | _=>none
  | _=>none
theorem xk:∀ (rs:List ResultVar) (xs:List SV) (K:List SV->Prop),va P fr hp nx rs=some xs->K xs->wL P fr hp nx rs K
 | [],xs,K,h,k=>by cases h;exact k
 | .tmp t::r,xs,K,h,k=>by
  simp only [va,mn] at h
  obtain ⟨ys,h1,rfl⟩:=h
  exact xk r ys (λxs=>K (cL fr t::xs)) h1 k
 | .cell a t::r,xs,K,h,k=>by
  simp only [va] at h
  unfold wL nZ
  split at h
  ·rename_i kk off ha
   rw [ha]
   simp only
   split at h
   ·rename_i e cs hk
    rw [hk]
    simp only [oW]
    rw [fe] at h
    split at h
    ·rename_i hb
     split at h
     ·rename_i s e ht
      rw [ht]
      simp only [mn] at h
      obtain ⟨ys,h1,rfl⟩:=h
      exact ⟨sQ ht hb,xk r ys (λxs=>K (e.val::xs)) h1 k⟩
     ·cases h
    ·cases h
   ·cases h
  ·cases h
theorem CT {rs:List ResultVar} {Post:SV->Hp->Nat->Prop} (x:SV) (h:(va P fr hp nx rs).map uS=some x) (k:wM P m Post x hp):Cv P rs m Post .ret fr hp nx:=by
 obtain ⟨ys,h1,rfl⟩:=mn.1 h;exact xk rs ys _ h1 k
theorem qi {rs:List ResultVar} {Post:SV->Hp->Nat->Prop} (x:SV) (h:(va P fr hp nx rs).map uS=some x) (k:wM P m Post x hp):Cv P rs m Post .normal fr hp nx:=by
 obtain ⟨ys,h1,rfl⟩:=mn.1 h;exact xk rs ys _ h1 k
theorem cn:t6 []:=trivial
theorem bX {p:Prop} {l:List Prop} (h:p) (t:t6 l):t6 (p::l):=⟨h,t⟩
theorem iX {s:Prop} {v v':SV} {u u':Hp} {n:Nat} {r:List Nm} (hs:s) (hv:v=v') (hu:u=u'):gI (.ok s ⟨v,u,n,r⟩) ⟨v',u',n,r⟩:=⟨hs,hv,hu,rfl,rfl⟩
variable {α:Type}
theorem e_ [bZ α] (xs:List α) (z nx:Nat) (i:Int) (k:0<=i/\i<(xs.length:Int)):gI (.ok (0<=i/\i<(xs.length:Int)) ⟨.iptr (fl xs) (i.toNat*z),[],nx,[]⟩) ⟨.iptr (fl xs) (i.toNat*z),[],nx,[]⟩:=iX k rfl rfl
theorem eR (kk:Nm) (n off z nx:Nat) (i:Int) (k:0<=i/\i<(n:Int)):gI (.ok (0<=i/\i<(n:Int)) ⟨.ptr kk (off+i.toNat*z),[],nx,[kk.key]⟩) ⟨.ptr kk (off+i.toNat*z),[],nx,[kk.key]⟩:=iX k rfl rfl
theorem hZ [bZ α] (xs:List α) (i:Int) (z j off:Nat) (k:0<=i/\i<(xs.length:Int)) (hz:bZ.sz α=z) (hj:j<z) (ho:off=i.toNat*z+j) (d v:SV) (hv:(bZ.cells (ix xs i)).getD j d=v) (nx:Nat) (rds:List Nm):gI (.ok (off<(fl xs).length) ⟨(fl xs).getD off d,[],nx,rds⟩) ⟨v,[],nx,rds⟩:=by
 subst hz;have hlt:i.toNat<xs.length:=by omega
 have hle:(i.toNat+1)*bZ.sz α<=xs.length*bZ.sz α:=kX _ hlt;rw [g7] at hle;refine iX ?_ ?_ rfl
 ·rw [iA];omega
 ·rw [ho,←hv];exact Kb xs i j k d hj
theorem hU [bZ α] (xs:List α) (i:Int) (z off:Nat) (k:0<=i/\i<(xs.length:Int)) (hz:bZ.sz α=z) (ho:off=i.toNat*z) (v:List SV) (hv:bZ.cells (ix xs i)=v) (nx:Nat) (rds:List Nm):gI (.ok (off+z<=(fl xs).length) ⟨.agg (((fl xs).drop off).take z),[],nx,rds⟩) ⟨.agg v,[],nx,rds⟩:=by
 subst hz;have hlt:i.toNat<xs.length:=by omega
 have hle:(i.toNat+1)*bZ.sz α<=xs.length*bZ.sz α:=kX _ hlt;rw [g7] at hle;refine iX ?_ ?_ rfl
 ·rw [iA];omega
 ·rw [ho,←hv];exact dJ SV.agg (IC xs i k)
theorem tD [bZ α] (xs:List α) (i:Int) (z j off:Nat) (k:0<=i/\i<(xs.length:Int)) (hz:bZ.sz α=z) (vs:List SV) (y:α) (hj:j+vs.length<=z) (ho:off=i.toNat*z+j) (hy:fU (bZ.cells (ix xs i)) j vs=bZ.cells y) (kk:Nat) (nx e t:Nat) (hs:jH P t=some vs.length) (h1:vs.all jl=true) :
  gI (.ok (jH P t=some vs.length/\vs.all jl=true/\off+vs.length<=(fl xs).length) ⟨.any,[(Nm.t kk,.row e (fU (fl xs) off vs))],nx,[Nm.t kk]⟩) ⟨.any,[(Nm.t kk,.row e (fl (xs.set i.toNat y)))],nx,[Nm.t kk]⟩:=by
 subst hz;have hlt:i.toNat<xs.length:=by omega
 have hle:(i.toNat+1)*bZ.sz α<=xs.length*bZ.sz α:=kX _ hlt;rw [g7] at hle;refine iX ⟨hs,h1,?_⟩ rfl ?_
 ·rw [iA];omega
 ·rw [ho,LP xs i k y j vs hj hy]
theorem LY [bZ α] (xs:List α) (l h:Int) (z nx:Nat) (hz:bZ.sz α=z) (k:0<=l/\l<=h/\h<=(xs.length:Int)):gI (.ok (0<=l/\l<=h/\h<=(xs.length:Int)) ⟨.sl (h.toNat-l.toNat) (da (fl xs) (l.toNat*z) ((h.toNat-l.toNat)*z)),[],nx,[]⟩) ⟨.sl (cut xs l h).length (fl (cut xs l h)),[],nx,[]⟩:=by
 subst hz;exact iX k (LQ xs l h k) rfl
theorem hX [bZ α] (xs ys:List α) (z B:Nat) (hz:bZ.sz α=z) (news:List SV) (m:Nat) (hn:news=fl ys) (hm:m=ys.length) (s0:Prop) (h0:s0) (e:TypeId) (hB:P.bytesOf e=B) (hpos:0<B) (hle:(xs++ys).length*B<=140737488355328) (kk nx:Nat) (rds:List Nm) :
  gI (.ok (s0/\e=e/\news.length=m*z/\news.all jl=true/\0+xs.length*z<=(fl xs).length/\0<P.bytesOf e/\(xs.length+m)*P.bytesOf e<=140737488355328) ⟨.own nx 0 (xs.length+m),[(Nm.t nx,.row e (da (fl xs) 0 (xs.length*z)++news)),(Nm.t kk,.dead)],nx+1,Nm.t kk::rds⟩) ⟨.own nx 0 (xs++ys).length,[(Nm.t nx,.row e (fl (xs++ys))),(Nm.t kk,.dead)],nx+1,Nm.t kk::rds⟩:=by
 subst hz;subst hn;subst hm;subst hB;rw [ea] at hle ⊢;refine iX ⟨h0,rfl,iA ys,Ht ys,by rw [iA,dm];exact cF _,hpos,hle⟩ rfl ?_;rw [da,ru,rc xs _ rfl,fJ]
theorem iI [bZ α] (ys:List α) (z:Nat) (hz:bZ.sz α=z):da (fl ys) 0 (ys.length*z)=fl ys:=by
 subst hz;rw [da,ru,rc ys _ rfl]
theorem fN [bZ α] (ys:List α) (z:Nat) (hz:bZ.sz α=z):0+ys.length*z<=(fl ys).length:=by
 subst hz;rw [iA,dm];exact cF _
theorem zG [bZ α] (ys:List α) (z:Nat) (hz:bZ.sz α=z):(fl ys).length=ys.length*z:=by
 subst hz;exact iA ys
theorem Nl [bZ α] (n:Int) (e:TypeId) (B:Nat) (hB:P.bytesOf e=B) (zs:List SV) (hzs:zs=bZ.cells (default:α)) (z:Nat) (hz:zs.length=z) (hpos:0<z) (k:0<=n/\n<=4611686018427387904/\(B:Int)*n<=140737488355328) (nx:Nat) :
  gI (.ok (0<=n/\n<=n/\n<=4611686018427387904/\(P.bytesOf e:Int)*n<=140737488355328/\zs.length=z/\0<z) ⟨.own nx 0 n.toNat,[(Nm.t nx,.row e ((List.range n.toNat).flatMap λ_=>zs))],nx+1,[]⟩) ⟨.own nx 0 (List.replicate n.toNat (default:α)).length,[(Nm.t nx,.row e (fl (List.replicate n.toNat (default:α))))],nx+1,[]⟩:=by
 subst hB;refine iX ⟨k.1,iT _,k.2.1,k.2.2,hz,hpos⟩ (by rw [rx]) (by rw [CR n.toNat zs hzs])
theorem uk (d:TypeDesc) (hd:lW d (.int .i64 0)=true) (k:Int) (mm:List (Int×Int)) (kk:Nm) (nx:Nat):gI (.ok (lW d (.int .i64 k)=true/\(mi mm).all (λp=>gM (.int .i64 k) p.1)=true) ⟨gC (.int .i64 0) (.int .i64 k) (mi mm),[],nx,[kk.key]⟩) ⟨.v (.int .i64 (fY mm k)),[],nx,[kk.key]⟩ :=
 iX ⟨hd,CS mm k⟩ (IE mm k) rfl
theorem qR (d:TypeDesc) (hd:lW d (.int .i64 0)=true) (k v:Int) (mm:List (Int×Int)) (kk nx:Nat):gI (.ok (lW d (.int .i64 k)=true/\(mi mm).all (λp=>gM (.int .i64 k) p.1)=true) ⟨.any,[(Nm.t kk,.map (ll (.int .i64 k) (.v (.int .i64 v)) (mi mm)))],nx,[Nm.t kk]⟩) ⟨.any,[(Nm.t kk,.map (mi (iw mm k v)))],nx,[Nm.t kk]⟩ :=
 iX ⟨hd,CS mm k⟩ rfl (by rw [Km])
theorem Ap {s:Prop} {v:SV} {nx:Nat} {r:List Nm} (hs:s):gI (.ok s ⟨v,[],nx,r⟩) ⟨v,[],nx,r⟩:=iX hs rfl rfl
theorem rs {d:Bool} {l:List Oper} {acc:List fV} {K:Fr->Hp->Nat->Prop} (n:Nat) (sc:List (Option dw)) (obs:List Prop) (h:((gq P d ops n l sc ⟨fr,hp,nx,acc,[]⟩).map (·.obs))=some obs) (ho:t6 obs)
  (k:dZ P d ops (l.drop n) (iM (gq P d ops n l sc ⟨fr,hp,nx,acc,[]⟩)).fr (iM (gq P d ops n l sc ⟨fr,hp,nx,acc,[]⟩)).hp (iM (gq P d ops n l sc ⟨fr,hp,nx,acc,[]⟩)).nx (iM (gq P d ops n l sc ⟨fr,hp,nx,acc,[]⟩)).acc K):dZ P d ops l fr hp nx acc K:=by
 obtain ⟨s,h1,h2⟩:=mn.1 h;exact J_ n sc obs (by rw [h1];rfl) (by rw [h1];exact h2) ho k
theorem rf {l:List Oper} {acc:List fV} {K:Fr->Hp->Nat->Prop} (fr':Fr) (hp':Hp) (nx':Nat) (h:(l,oL fr fr',lY hp hp',lg hp hp',nx)=([],fr',hp',true,nx')) (k:K fr' hp' nx'):dZ P false ops l fr hp nx acc K:=by
 simp only [gX] at h;exact Nj fr' hp' nx' h.1 h.2.1 h.2.2.1 h.2.2.2.1 h.2.2.2.2 k
theorem rt {l:List Oper} {acc:List fV} {K:Fr->Hp->Nat->Prop} (fr':Fr) (hp':Hp) (nx':Nat) (h5:P.follows .mixedOrders=true) (h:(l,oL fr fr',lY hp hp',lg hp hp',nx,mW ops acc (wQ ops.toList))=([],fr',hp',true,nx',true)) (k:K fr' hp' nx'):dZ P true ops l fr hp nx acc K:=by
 simp only [gX] at h;exact Nk fr' hp' nx' h.1 h.2.1 h.2.2.1 h.2.2.2.1 h.2.2.2.2.1 h5 h.2.2.2.2.2 k
end
section
open Go.RowKit
theorem F9 (e:TypeId) (cs:List SV):sg (.row e cs) cs=True:=eq_true rfl
theorem Kn (a b:Nat):Nat.ble a b=decide (a<=b):=by rw [sG];simp
attribute [push_cast] Kn cond_true cond_false Bool.and_true Bool.true_and Bool.or_true Bool.true_or Bool.or_false Bool.false_or Bool.and_false Bool.false_and Bool.and_self Bool.not_true Bool.not_false decide_true decide_false
attribute [push_cast] List.map_cons List.map_nil List.length_cons List.length_nil List.cons_append List.nil_append List.length_append List.append_nil List.length_set List.length_replicate
attribute [push_cast high] rc jr
attribute [push_cast] true_or or_true false_or or_false List.all_cons List.all_nil wB iU
attribute [push_cast] F8 iA LO ID CP Em CQ En Kc LR Kd Ke Hv F7 Hw qh F9 LX LU
theorem LZ (n:Nat):(OfNat.ofNat n:Nm) = .t n:=rfl
theorem L0 (a b:Nat):Nm.eqk (.t a) (.t b)=(a==b):=rfl
theorem L7 (a F:Nat) (i:Int):Nm.eqk (.t a) (.s F i)=false:=rfl
theorem L8 (a F:Nat) (i:Int):Nm.eqk (.s F i) (.t a)=false:=rfl
theorem L9 (F G:Nat) (i j:Int):Nm.eqk (.s F i) (.s G j)=(F==G):=rfl
theorem Nn (c:cp) (k:Nat):c.mem (.t k)=c:=rfl
theorem No (c:cp) (F:Nat) (i:Int):c.mem (.s F i)=c.at i:=rfl
theorem Oj (j:Nm) (k:Nat):j.to (.t k)=j:=rfl
theorem Ol (G F:Nat) (i j:Int):Nm.to (.s G j) (.s F i) = .s G i:=rfl
theorem Np (hp hp':Hp) (σ:List (Nm×Nm)) (frz:List Nm) (k:Nat) (c:cp):zy hp hp' σ frz (.t k) c=nW hp hp' σ frz (.t k) c:=rfl
theorem Nq (hp hp':Hp) (σ:List (Nm×Nm)) (frz:List Nm) (F:Nat) (z:Int) (c:cp):zy hp hp' σ frz (.s F z) c =∀i:Int,nW hp hp' σ frz (.s F i) (c.at i):=rfl
theorem L_ (a b:Nat):((Nm.t a)==(Nm.t b))=(a==b):=rfl
theorem Ma (a F:Nat) (i:Int):((Nm.t a)==(Nm.s F i))=false:=rfl
theorem Mb (a F:Nat) (i:Int):((Nm.s F i)==(Nm.t a))=false:=rfl
attribute [push_cast] LZ L0 L7 L8 L9 Nn No Oj Ol Np Nq L_ Ma Mb Nm.t.injEq Nm.s.injEq nW
attribute [push_cast] LS
section
variable {hp hp':Hp} {σ:List (Nm×Nm)} {frz:List Nm}
theorem Ko (s:SV):fv hp hp' σ frz s .any=True:=by simp only [fv]
theorem Kp (k k':Nm) (o n o' n':Nat):fv hp hp' σ frz (.own k o n) (.own k' o' n')=(dh σ k'=some k/\o=o'/\n=n'/\(bW hp' k').live=true):=by simp only [fv]
theorem IF (x:Value) (k':Nm) (o' n':Nat):fv hp hp' σ frz (.v x) (.own k' o' n')=(x = .slice none 0 0/\o'=0/\n'=0/\(bW hp' k').live=true/\dh σ k'=none):=by simp only [fv]
theorem Kq (k k':Nm) (o o':Nat):fv hp hp' σ frz (.ptr k o) (.ptr k' o')=(dh σ k'=some k/\o=o'/\(bW hp' k').live=true):=by simp only [fv]
theorem Mc (k k':Nm):fv hp hp' σ frz (.mp k) (.mp k')=(dh σ k'=some k/\(bW hp' k').live=true):=by simp only [fv]
theorem Md (k k':Nm):fv hp hp' σ frz (.it k) (.it k')=(dh σ k'=some k/\(bW hp' k').live=true):=by simp only [fv]
theorem Kr (xs ys:List SV):fv hp hp' σ frz (.agg xs) (.agg ys)=((iq ys=true/\xs=ys)\/lP hp hp' σ frz xs ys):=by simp only [fv]
theorem Ks (xs ys:List SV):fv hp hp' σ frz (.tup xs) (.tup ys)=lP hp hp' σ frz xs ys:=by simp only [fv]
theorem Kt (f f':FuncId) (xs ys:List SV):fv hp hp' σ frz (.clo f xs) (.clo f' ys)=(f=f'/\lP hp hp' σ frz xs ys):=by simp only [fv]
theorem Ku (t t':String) (x y:SV):fv hp hp' σ frz (.mth t x) (.mth t' y)=(t=t'/\fv hp hp' σ frz x y):=by simp only [fv]
theorem Kv (t t':TypeId) (x y:SV):fv hp hp' σ frz (.ifc t x) (.ifc t' y)=(t=t'/\fv hp hp' σ frz x y):=by simp only [fv]
theorem Kw (x:Value) (n':Nat) (cs':List SV):fv hp hp' σ frz (.v x) (.sl n' cs')=(x = .slice none 0 0/\n'=0/\cs'=[]):=by simp only [fv]
theorem IG (n n':Nat) (cs cs':List SV):fv hp hp' σ frz (.sl n cs) (.sl n' cs')=(n=n'/\cs=cs'/\mK cs=true):=by simp only [fv]
def Hy (hp hp':Hp) (σ:List (Nm×Nm)) (frz:List Nm) (c:cp) (cs':List SV):Prop:=match c with
 | .row _ cs=>lP hp hp' σ frz cs cs'
 | _=>False
theorem F_ (e:TypeId) (cs cs':List SV):Hy hp hp' σ frz (.row e cs) cs'=lP hp hp' σ frz cs cs':=propext Iff.rfl
theorem Kx {k:Nm} {o o':Nat} {cs':List SV} (h:o=o'/\qh frz k=true/\Hy hp hp' σ frz (bW hp k) cs'):fv hp hp' σ frz (.ptr k o) (.iptr cs' o')=True:=by
 obtain ⟨rfl,h2,h3⟩:=h;refine eq_true ?_;simp only [fv];refine ⟨trivial,ot h2,?_⟩;cases hk:bW hp k with
 | row e cs =>
  rw [hk] at h3;obtain ⟨l1,l2⟩:=sC h3;exact ⟨e,cs,rfl,Nat.le_of_eq l1.symm,λP i x y hx hy=>my (l2 i x y hx hy)⟩
 | _=>rw [hk] at h3;exact h3.elim
theorem IH (o o':Nat) (cs cs':List SV):fv hp hp' σ frz (.iptr cs o) (.iptr cs' o')=(cs=cs'/\o=o'/\mK cs=true):=by simp only [fv]
theorem Nr (s:SV) (y:Value):fv hp hp' σ frz s (.v y)=(s = .v y):=by simp only [fv]
end
attribute [push_cast] Ko Kp IF Kq Mc Md Kr Ks Kt Kv Ku Kw IG Kx IH Nr F_
attribute [push_cast] lP CF o_ Be Hm Iy GJ Ii rB Ij iq SV.st sR mK SV.cl kP BP Ht cp.live eq_self Option.some.injEq and_self and_true true_and SV.nim iU tW wB iz jx ik
end
section
open Go.RowKit
variable {P:Program} {m N:Nat} {Q:g9} {fr:Fr} {hp:Hp} {nx:Nat} {ops:Array Oper}
theorem wX {dt:Bool} {o:Oper} {K:SV->Hp->Nat->List Nm->Prop} (hd:pq ops fr o=some true) (hg:o.guard.isNone || !lL P o.op=true) (hc:i_ true fr o.op=none) (hso:uR o.op=true) (hs:wG dt P o fr hp nx K):iv dt P ops o fr hp nx K:=by
 have core:ky dt P true o fr hp nx K:=by
  unfold ky;rw [hc];exact .inl ⟨rfl,hso,hs⟩
 unfold iv;unfold pq at hd;cases hq:o.guard with
 | none=>exact core
 | some jw =>
  rw [hq] at hd hg;simp only at hd ⊢;rw [hd];have:lL P o.op=false:=by simpa using hg
  simp only [this,cj];exact ⟨λ_=>core,(λhe=>by cases he)⟩
def Jq (P:Program) (fr:Fr):List Oper->Option (Nat×Option Tmp)
 | o::_=>match o.guard,o.op with
  | none,.binOp .eql t x (.const (.slice none 0 0)) _=>match P.underlying t,dB true fr x with
   | some (.slice _),.sl n _=>some (n,o.dst)
   | _,_=>none
  | _,_=>none
 | []=>none
theorem Hz {P:Program} {t e:TypeId} (hu:P.underlying t=some (.slice e)) (a:Option Addr) (n cap:Nat) (w:World) :
  (binOp .eql t (.slice a n cap) (.slice none 0 0)).run P w = .ok (.bool a.isNone) w:=by
 have h0:∀ D,(Op.equalIn (D+1) t (.slice a n cap) (.slice none 0 0)).run P w = .ok a.isNone w:=λD=>by
  cases a<;>simp [Op.equalIn,dF hu]
 have h:(Op.equal t (.slice a n cap) (.slice none 0 0)).run P w = .ok a.isNone w:=h0 9999;simp only [binOp,c_,h];rfl
theorem Aq {l:List Oper} {acc:List fV} {K:Fr->Hp->Nat->Prop} (n:Nat) (dst:Option Tmp) (h:Jq P fr l=some (n,dst))
  (k1:n=0->dZ P false ops (l.drop 1) (gp dst (.v (.bool true)) fr) hp nx acc K) (k2:dZ P false ops (l.drop 1) (gp dst (.v (.bool false)) fr) hp nx acc K):dZ P false ops l fr hp nx acc K:=by
 cases l with
 | nil=>cases h
 | cons o rest =>
  simp only [Jq] at h;split at h
  ·rename_i t x ty hg ho;split at h
   ·rename_i et n' cs hu hx;simp only [fw,gX] at h;obtain ⟨rfl,rfl⟩:=h;show iv false P ops o fr hp nx _;refine wX (by unfold pq;rw [hg]) (by rw [hg];rfl) (by rw [ho];rfl) (by rw [ho];rfl) ?_;intro X ids w fr' hp' a hP h1 h2 h3 h4 h5 h6 KK Q hK;subst hP;have hx':dB true fr' x = .sl n' cs:=by
     rw [←hx];exact rE λt' ht=>h4 t' (pW (o:=o.op) (by rw [ho];simp [Op.operands]) ht)
    have hev:=rD h3 (g:=true) rfl x;rw [hx'] at hev;obtain ⟨ad,cap,hv,hnil⟩:∃ (ad:Option Addr) (cap:Nat),a.eval x = .slice ad n' cap/\(ad=none->n'=0):=by
     rcases sI hev with ⟨ad,cap,hv,_,_,hd⟩;generalize hgen:a.eval x=y at hev hv;cases hev with
     | sl0 hc=>exact ⟨_,_,rfl,λ_=>rfl⟩
     | sl b o cap c hb hn hcap hc hx=>exact ⟨_,_,rfl,λhe=>by cases he⟩
    have hrun:(execOp a.eval o).run X.P w = .ok (.value (.bool ad.isNone)) w:=by
     unfold execOp;rw [ho];simp only [c_];rw [hv,show a.eval (.const (.slice none 0 0)) = .slice none 0 0 from rfl,k9 (by simp) (by simp)];simp only [du,Hz hu,eH]
    refine mV (.inl hrun) ?_;cases ad with
    | none=>exact hK (.v (.bool true)) [] nx [] _ w ids (k1 (hnil rfl)) ⟨cF _,λp hp=>by cases hp⟩ h1 (km.refl _ _ _ _) .v
    | some q=>exact hK (.v (.bool false)) [] nx [] _ w ids k2 ⟨cF _,λp hp=>by cases hp⟩ h1 (km.refl _ _ _ _) .v
   ·cases h
  ·cases h
def sW (P:Program) (ops:Array Oper) (fr:Fr):List Oper->Option Oper
 | o::_=>match pq ops fr o,i_ true fr o.op with
  | some true,none=>bif o.guard.isNone || !lL P o.op then some o else none
  | _,_=>none
 | []=>none
theorem xl {d:Bool} {l:List Oper} {acc:List fV} {K:Fr->Hp->Nat->Prop} (o:Oper) (e:dw) (h:sW P ops fr l=some o) (hle:nx<=e.nx) (hso:uR o.op=true) (hs:nV P o fr hp nx (tA e))
  (k:dZ P d ops (l.drop 1) (gp o.dst e.val fr) (e.upd++hp) (bif d then e.nx+1 else e.nx) (acc++[⟨e.upd.map (·.1.key),e.rds,nx,e.nx⟩]) K):dZ P d ops l fr hp nx acc K:=by
 cases l with
 | nil=>cases h
 | cons o' rest =>
  simp only [sW] at h;split at h
  ·rename_i h1 h2;rw [fe] at h;split at h
   ·rename_i h3;cases h;cases d with
    | false=>exact wX h1 (by simpa using h3) h2 hso (K:=λval upd nx' _=>lM P ops rest (gp o.dst val fr) (upd++hp) nx' (qA K)) (hs.mono rfl λv u n r he=>by obtain ⟨rfl,rfl,rfl,rfl⟩:=he;exact k)
    | true=>exact wX (dt:=true) (hp:=hp) (nx:=nx) (P:=P) h1 (by simpa using h3) h2 hso (K:=λval upd nx' rds=>ym P ops rest (gp o.dst val fr) (upd++hp) (nx'+1) (acc++[fV.mk (upd.map (·.1.key)) rds nx nx']) (qA K)) ⟨e,hle,k,hs⟩
   ·cases h
  ·cases h
theorem EV {o:Oper} {e:dw} (hk:uQ hp nx e.upd e.nx e.rds)
  (h:∀ (X:Cx) (ids:dD) (w:World) (fr':Fr) (hp':Hp) (a:Act),X.P=P->dS X hp' nx ids w->(∀ d,cU X hp' ids w (cL fr' d) (a.tmps.getD d undef))->(∀ x,x∈o.op.operands.toList->dB true fr' x=dB true fr x)->(∀ k:Nm,k.key∈e.rds->bW hp' k=bW hp k) ->
   zc X hp' ids w ((execOp a.eval o).run X.P w) e):nV P o fr hp nx (tA e):=by
 intro X ids w fr' hp' a hP h1 h2 h3 h4 h5 h6 KK Q hK;obtain ⟨h7,h8⟩:=h6 e.val e.upd e.nx e.rds ⟨rfl,rfl,rfl,rfl⟩;obtain ⟨x,w',ids',g1,g2,g3,g4⟩:=h X ids w fr' hp' a hP ⟨h1,h5,h2⟩ h3 (λx hx=>rE λt ht=>h4 t (pW hx ht)) h8;subst hP;exact mV g1 (hK _ _ _ _ _ _ _ ⟨rfl,rfl,rfl,rfl⟩ hk g2 g3 g4)
theorem II {o:Oper} {t e:TypeId} {x:Operand} {lo hi:Option Operand} {k:Nm} {z n:Nat} {cs:List SV} {l h:Int} (ho:o.op = .slice t x lo hi none) (hst:i8 P t=some (e,z)) (hx:dB true fr x = .own k 0 n) (hrow:bW hp k = .row e cs) (hz:P.cellsOf e=z)
  (b1:lf (lo.map (dB true fr)) 0=some l) (b2:lf (hi.map (dB true fr)) n=some h) (h0:0<=l) (h1:l<=h) (h2:h<=n) (hn:n*z<=cs.length) :
  nV P o fr hp nx (tA ⟨.own nx 0 (h.toNat-l.toNat),[(Nm.t nx,.row e (da cs (l.toNat*z) ((h.toNat-l.toNat)*z))),ec k .dead hp],nx+1,[k.key]⟩):=by
 have hlk:(bW hp k).live=true:=by rw [hrow];rfl
 refine EV ⟨od _,λp hp1=>?_⟩ ?_
 ·rcases ff.1 hp1 with rfl|hp1
  ·exact .inl ⟨cF _,ti _⟩
  ·rcases ff.1 hp1 with rfl|hp1
   ·exact .inr ⟨by simp [g8],k,by simp [g8],iV hlk⟩
   ·cases hp1
 intro X ids w fr' hp' a hP hH hf hev hrd;subst hP;rw [←lm (c:=.dead) hrd (List.mem_cons_self ..)];have hx':dB true fr' x = .own k 0 n:=by rw [hev x (by rw [ho];simp [Op.operands]),hx]
 have hrow':bW hp' k = .row e cs:=by rw [hrd k (List.mem_cons_self ..),hrow]
 have hlk':(bW hp' k).live=true:=by rw [hrow'];rfl
 have hd:=rD hf (g:=true) rfl x;rw [hx'] at hd;have hl':lo.map (dB true fr')=lo.map (dB true fr):=by
  cases lo with
  | none=>rfl
  | some q=>simp only [fp];rw [hev q (by rw [ho];simp [Op.operands])]
 have hh':hi.map (dB true fr')=hi.map (dB true fr):=by
  cases hi with
  | none=>rfl
  | some q=>simp only [fp];rw [hev q (by rw [ho];simp [Op.operands])]
 rw [←hl'] at b1;rw [←hh'] at b2;have hb1:ol (lo.map a.eval) 0 l:=jY b1 (λhn=>by cases lo with|none=>rfl|some q=>cases hn) (λs hs=>by
  cases lo with
  | none=>cases hs
  | some q=>cases hs;exact ⟨_,rfl,rD hf (g:=true) rfl q⟩)
 have hb2:ol (hi.map a.eval) n h:=jY b2 (λhn=>by cases hi with|none=>rfl|some q=>cases hn) (λs hs=>by
  cases hi with
  | none=>cases hs
  | some q=>cases hs;exact ⟨_,rfl,rD hf (g:=true) rfl q⟩)
 obtain ⟨i,hu,hi',rfl⟩:=gP hst;obtain ⟨ad,cap,hv,c1,c2,c4,c3⟩:=l_ hd hlk';have hkn:k≠nx:=λe'=>by subst e';rw [hH.fresh] at hlk';cases hlk'
 have hle:l.toNat*i.size+(h.toNat-l.toNat)*i.size<=cs.length:=by
  rw [←g7];exact l0 (kX _ (by omega)) hn
 have hal:(da cs (l.toNat*i.size) ((h.toNat-l.toNat)*i.size)).length=(h.toNat-l.toNat)*i.size:=by
  simp only [da,fH,jj];omega
 obtain ⟨g1,g2⟩:=xI hH hrow' (cs':=da cs (l.toNat*i.size) ((h.toNat-l.toNat)*i.size)) (off:=l.toNat*i.size) (by rw [hal];exact hle) (λj y hj=>(jI hj).2);refine ⟨.slice (if cap=l.toNat then ad else ad.map (·.add (l.toNat*i.size))) (h.toNat-l.toNat) (cap-l.toNat),w,_,.inl ?_,g1,g2,?_⟩
 ·unfold execOp;rw [ho];simp only [hv,c_];have:=mM hu hi' ad n cap hb1 hb2 h0 h1 h2 c1 w;simp only [Option.map_none] at this ⊢;rw [this];rfl
 ·refine .own _ _ (by
   show (bW ((Nm.t nx,cp.row e _)::ec k .dead hp'::hp') nx).live=true;rw [dv,cG];rfl) ⟨by omega,by omega,λe2 cs2 hc2=>?_,?_⟩
  ·replace hc2:bW ((Nm.t nx,cp.row e _)::ec k .dead hp'::hp') nx=_:=hc2;rw [dv,cG] at hc2;cases hc2;rw [hal,hz,dm];exact kX _ (by omega)
  by_cases hc:cap=l.toNat
  ·exact .inl ⟨by omega,by omega⟩
  ·rw [if_neg hc];rcases c3 with ⟨_,rfl⟩|⟨b,o',e2,cs2,arr,hC,hid,rfl,hw,hsz⟩
   ·exact .inl ⟨by omega,by omega⟩
   ·rw [hrow'] at hC;cases hC;refine .inr ⟨b,o'+l.toNat*i.size,e,_,arr,by
     show bW ((Nm.t nx,cp.row e _)::ec k .dead hp'::hp') nx=_;rw [dv,cG],by rw [cG,hid];rfl,by simp only [fp,p8,eC],hw,?_⟩
    rw [hz] at hsz ⊢;have:l.toNat*i.size+(cap-l.toNat)*i.size=cap*i.size:=by rw [←g7];congr 1;omega
    omega
variable {α:Type}
theorem cut_len (ys:List α) (l h:Int) (k:0<=l/\l<=h/\h<=(ys.length:Int)):(cut ys l h).length=h.toNat-l.toNat:=by
 simp only [cut,fH,jj];omega
theorem wY [bZ α] (ys:List α) (l h:Int):da (fl ys) (l.toNat*bZ.sz α) ((cut ys l h).length*bZ.sz α)=fl (cut ys l h):=by
 rw [Hu];congr 1;simp only [cut,fH,jj];rw [List.take_eq_take_iff];simp
def Jr (P:Program) (ops:Array Oper) (fr:Fr) (hp:Hp) (l:List Oper):Option (Option Tmp×Nm×Nat×TypeId×List SV×Nat×Int×Int):=match sW P ops fr l with
 | some o=>match o.op with
  | .slice t x lo hi none=>match i8 P t,dB true fr x with
   | some (e,z),.own k 0 n=>match bW hp k,lf (lo.map (dB true fr)) 0,lf (hi.map (dB true fr)) n with
    | .row e' cs,some a,some b=>bif e'==e&&P.cellsOf e==z then some (o.dst,k,n,e,cs,z,a,b) else none
    | _,_,_=>none
   | _,_=>none
  | _=>none
 | none=>none
theorem vb [bZ α] {d:Bool} {l:List Oper} {acc:List fV} {K:Fr->Hp->Nat->Prop} (ys:List α) (dst:Option Tmp) (k:Nm) (z:Nat) (e:TypeId) (a b:Int) (hc:Jr P ops fr hp l=some (dst,k,ys.length,e,fl ys,z,a,b)) (hz:bZ.sz α=z) (hb:0<=a/\a<=b/\b<=(ys.length:Int))
  (h:dZ P d ops (l.drop 1) (gp dst (.own nx 0 (cut ys a b).length) fr) ([(Nm.t nx,.row e (fl (cut ys a b))),ec k .dead hp]++hp) (bif d then nx+2 else nx+1) (acc++[⟨[Nm.t nx,(ec k .dead hp).1.key],[k.key],nx,nx+1⟩]) K):dZ P d ops l fr hp nx acc K:=by
 unfold Jr at hc;split at hc
 ·rename_i o ho;split at hc
  ·rename_i t x lo hi hop;split at hc
   ·rename_i e1 z1 k1 n1 hst hx;split at hc
    ·rename_i e2 cs a1 b1 hrow h1 h2;rw [fe] at hc;split at hc
     ·rename_i hq;simp only [cT,jB] at hq;simp only [fw,gX] at hc;obtain ⟨rfl,rfl,rfl,rfl,rfl,rfl,rfl,rfl⟩:=hc;obtain ⟨rfl,hcz⟩:=hq;subst hz;have:=II (P:=P) (fr:=fr) (hp:=hp) (nx:=nx) hop hst hx hrow hcz h1 h2 hb.1 hb.2.1 hb.2.2 (by rw [iA];exact cF _);rw [←cut_len ys _ _ hb,wY] at this;exact xl o _ ho (od _) (by rw [hop];rfl) this h
     ·cases hc
    ·cases hc
   ·cases hc
  ·cases hc
 ·cases hc
theorem pZ [bZ α] (ys:List α) (a b:Int) (z nx:Nat) (k:Nm) (e:TypeId) (hz:P.cellsOf e=z) (hb:0<=a/\a<=b/\b<=(ys.length:Int)):gI (.ok (P.cellsOf e=z/\0<=a/\a<=b/\b<=(ys.length:Int)) ⟨.own k (0+a.toNat*z) (b.toNat-a.toNat),[],nx,[k.key]⟩) ⟨.own k (a.toNat*z) (cut ys a b).length,[],nx,[k.key]⟩ :=
 iX ⟨hz,hb⟩ (by rw [cut_len ys a b hb,dm]) rfl
theorem EW [bZ α] (ys:List α) (a b:Int) (z:Nat) (hz:bZ.sz α=z):da (fl ys) (a.toNat*z) ((cut ys a b).length*z)=fl (cut ys a b):=by
 subst hz;exact wY ys a b
theorem zH [bZ α] (ys:List α) (a b:Int) (z:Nat) (hz:bZ.sz α=z) (hb:0<=a/\a<=b/\b<=(ys.length:Int)):a.toNat*z+(cut ys a b).length*z<=(fl ys).length:=by
 subst hz;rw [iA,cut_len ys a b hb,←g7];exact kX _ (by omega)
theorem kQ [bZ α] {hp hp':Hp} {σ:List (Nm×Nm)} {frz:List Nm} {k:Nm} {n n' off:Nat} (ys:List α) (a b:Int) (h0:off=a.toNat*bZ.sz α) (h1:n=(cut ys a b).length) (h23:qh frz k=true/\sg (bW hp k) (fl ys)) (h4:n'=(cut ys a b).length):fv hp hp' σ frz (.own k off n) (.sl n' (fl (cut ys a b)))=True:=by
 obtain ⟨h2,h3⟩:=h23;refine eq_true ?_;simp only [fv];subst h0;subst h1;refine ⟨h4.symm,ot h2,?_⟩;cases hk:bW hp k with
 | row e cs =>
  rw [hk] at h3;simp only [sg] at h3;subst h3;exact ⟨e,fl ys,(cut ys a b).length*bZ.sz α,rfl,λh0=>by rw [h0,lI],.inl ⟨BP ys,(wY ys a b).symm⟩⟩
 | _=>rw [hk] at h3;exact h3.elim
attribute [push_cast high] kQ
def Js (P:Program) (ops:Array Oper) (fr:Fr) (l:List Oper):Option (Option Tmp×TypeId):=match sW P ops fr l with
 | some o=>match o.op with
  | .buildSlice t 0 ps=>match i8 P t with
   | some (e,_)=>bif ps.size==0 then some (o.dst,e) else none
   | none=>none
  | _=>none
 | none=>none
theorem Ky {o:Oper} {t e:TypeId} {z:Nat} (ho:o.op = .buildSlice t 0 #[]) (hst:i8 P t=some (e,z)):nV P o fr hp nx (tA ⟨.own nx 0 0,[(Nm.t nx,.row e [])],nx+1,[]⟩):=by
 refine EV ⟨od _,λp hp1=>?_⟩ ?_
 ·rcases ff.1 hp1 with rfl|hp1
  ·exact .inl ⟨cF _,ti _⟩
  ·cases hp1
 intro X ids w fr' hp' a hP hH hf hev hrd;subst hP;obtain ⟨i,hu,hi',rfl⟩:=gP hst;obtain ⟨g1,g2⟩:=heap_alloc hH (e:=e) (cs:=[]) (arr:=#[]) (cF _) (λj x hj=>by simp at hj);refine ⟨.slice (some ⟨w.heap.size,0,none⟩) 0 0,_,_,.inl ?_,g1,g2,?_⟩
 ·unfold execOp;rw [ho];simp [Instr.buildSlice,dF hu,sizeOf,typeInfo,hi',Instr.fill,newRow,show Array.range 0 = #[] from by decide]
 ·refine .own _ _ (by
   show (bW ((nx,cp.row e _)::hp') nx).live=true;rw [dv,cG];rfl) ⟨cF _,by unfold maxLen;omega,λe2 cs2 hc2=>by
    replace hc2:bW ((nx,cp.row e _)::hp') nx=_:=hc2;rw [dv,cG] at hc2;cases hc2;exact io _,.inl ⟨rfl,rfl⟩⟩
theorem Ar {d:Bool} {l:List Oper} {acc:List fV} {K:Fr->Hp->Nat->Prop} (α:Type) [bZ α] (dst:Option Tmp) (e:TypeId) (hc:Js P ops fr l=some (dst,e))
  (h:dZ P d ops (l.drop 1) (gp dst (.own nx 0 ([]:List α).length) fr) ([(Nm.t nx,.row e (fl ([]:List α)))]++hp) (bif d then nx+2 else nx+1) (acc++[⟨[nx],[],nx,nx+1⟩]) K):dZ P d ops l fr hp nx acc K:=by
 unfold Js at hc;split at hc
 ·rename_i o ho;split at hc
  ·rename_i t ps hop;split at hc
   ·rename_i e1 z1 hst;rw [fe] at hc;split at hc
    ·rename_i hq;have hps:ps = #[]:=by simpa using hq
     subst hps;simp only [fw,gX] at hc;obtain ⟨rfl,rfl⟩:=hc;exact xl o _ ho (od _) (by rw [hop];rfl) (Ky hop hst) h
    ·cases hc
   ·cases hc
  ·cases hc
 ·cases hc
theorem IJ {xs ys:List SV} (h:iU xs=true) (g:iU ys=true):iU (xs++ys)=true:=by
 induction xs with
 | nil=>exact g
 | cons x xs ih=>simp only [iU,cT,iy] at h ⊢;exact ⟨h.1,ih h.2⟩
theorem mX [bZ α] (h:∀ x:α,iU (bZ.cells x)=true) (xs:List α):iU (fl xs)=true:=by
 induction xs with
 | nil=>rfl
 | cons x xs ih=>rw [kO];exact IJ (h x) ih
@[push_cast] theorem OA (xs:List Int):iU (fl xs)=true:=mX (λ_=>rfl) xs
@[push_cast] theorem Om (xs:List Bool):iU (fl xs)=true:=mX (λ_=>rfl) xs
theorem Bk {hp hpL:Hp} (h:(lY hp hpL,lg hp hpL)=(hpL,true)):bW hp=bW hpL:=by
 simp only [gX] at h;exact funext λk=>((xj (fr:=[]) (fr':=[]) rfl h.1 h.2).2 k).symm
theorem jM {d:Bool} {f:FuncId} {args args':List SV} {dst:Option Tmp} {ops:Array Oper} {l:List Oper} {acc:List fV} {K:Fr->Hp->Nat->Prop} {hin H:Hp} {m nn:Nat} {X:SV}
  (m5:cS P f args' hin m (λx h n=>x=X/\h=H/\n=nn)) (h:qQ ops fr l=some (f,args,dst)) (hpL:Hp) (nxL:Nat) (hh:(lY hp hpL,lg hp hpL,nx)=(hpL,true,nxL)) (σ:List (Nm×Nm)) (bor:List Nm) (resL:SV) (hpB:Hp)
  (h1:lP hpL hin σ bor args args') (h2:o_ hpL hin σ bor hin) (h3:(oU 0 σ bor,pY 0 m σ hin,EQ m hin σ,oT H)=(true,true,true,true))
  (h6:bor=[]\/(X.nim=true/\tW H=true)) (e1:iz (gc (dh σ) nxL) X=resL) (e2:back (dh σ) nxL m H hpL=hpB)
  (k:dZ P d ops (l.drop 1) (gp dst resL fr) (hpB++hp) (bif d then nxL+nn+1 else nxL+nn) (acc++[⟨hpB.map (·.1.key),bor.map Nm.key++mP (dh σ) m,nxL,nxL+nn⟩]) K) (hfam:qg hpL hin σ:=by simp only [qg,and_self]):dZ P d ops l fr hp nx acc K:=by
 simp only [gX] at hh h3;obtain ⟨g1,g2,rfl⟩:=hh;obtain ⟨h3,h4,h5,h7⟩:=h3;have eh:=Bk (show (lY hp hpL,lg hp hpL)=(hpL,true) by rw [g1,g2]);obtain ⟨l1,l2⟩:=sC h1;have hok:=Bg h5 hfam;have inj:∀ k1 k2 j,dh σ k1=some j->dh σ k2=some j->k1=k2:=by
  simp only [oU,cT] at h3;exact uY h3.1.1 h3.1.2
 have fresh:∀ k:Nm,m<=k.base->dh σ k=none/\bW hin k = .unborn:=λk hk=>⟨by
  cases hn:dh σ k with
  | none=>rfl
  | some j=>have:=(hok k j hn).1;omega,rF h4 k hk⟩
 have eb:back (dh σ) nx m H hp=hpB:=by
  rw [←e2];exact sa (λk hk=>(fresh k hk).1) (jm σ) (λk _=>by rw [eh]) H
 subst e1;subst eb;refine cD f args dst h ?_;cases d with
 | false =>
  refine ⟨args',hin,m,_,dh σ,bor,m5,by rw [eh];exact ui h2 h3,jm σ,fresh,inj,λk j hk=>by rw [eh];exact (hok k j hk).2,l1,λi x y hx hy=>by rw [eh];exact my (l2 i x y hx hy),⟨_,_,_,rfl,rfl,rfl⟩,(λh=>by cases h),?_⟩;rintro _ _ _ ⟨rfl,rfl,rfl⟩;exact ⟨h7,h6,_,sP.refl _ _ _,k⟩
 | true =>
  refine ⟨args',hin,m,_,dh σ,bor,m5,by rw [eh];exact ui h2 h3,jm σ,fresh,inj,λk j hk=>by rw [eh];exact (hok k j hk).2,l1,λi x y hx hy=>by rw [eh];exact my (l2 i x y hx hy),⟨_,_,_,rfl,rfl,rfl⟩,?_,?_⟩
  ·rintro _ _ _ _ _ _ _ ⟨rfl,rfl,rfl⟩ ⟨rfl,rfl,rfl⟩;exact ⟨rfl,rfl,rfl⟩
  ·rintro _ _ _ ⟨rfl,rfl,rfl⟩;exact ⟨h7,h6,_,sP.refl _ _ _,k⟩
def xU (ks:List Nm) (p:Nm×cp):Bool:=!ks.any λk=>k.eqk p.1
theorem Eo {hp:Hp} (ks rds:List Nm) (hr:ks.all (λk=>rds.contains k.key)=true):∀ b:Hp,(∀ kk∈ks,∀ k:Nm,kk.key=k.key->bW (b++hp) k=bW hp k)->sP hp b (b.filter (xU ks)) rds:=by
 intro b hb;have yes:∀ (b:Hp) (k:Nm),(∃ kk∈ks,kk.key=k.key)->bW (b.filter (xU ks)++hp) k=bW hp k:=by
  intro b k hk;induction b with
  | nil=>rfl
  | cons p r ih =>
   by_cases hp1:xU ks p=true
   ·rw [kC hp1,iy,rB];have:p.1.eqk k=false:=by
     refine Nm.eqk_no λe=>?_
     obtain ⟨kk,h1,h2⟩:=hk;unfold xU at hp1;rw [kg] at hp1;have h3:(ks.any λk=>k.eqk p.1)=true:=nc.2 ⟨kk,h1,Nm.eqk_iff.2 (h2.trans e.symm)⟩;rw [h3] at hp1;cases hp1
    rw [this,cj];exact ih
   ·rw [m6 hp1];exact ih
 have no:∀ (b:Hp) (k:Nm),¬ (∃ kk∈ks,kk.key=k.key)->bW (b.filter (xU ks)++hp) k=bW (b++hp) k:=by
  intro b k hk;induction b with
  | nil=>rfl
  | cons p r ih =>
   by_cases hp1:xU ks p=true
   ·rw [kC hp1,iy,iy,rB,rB,ih]
   ·rw [m6 hp1,iy,rB,ih];have:p.1.eqk k=false:=by
     refine Nm.eqk_no λe=>hk ?_
     unfold xU at hp1;rw [kg,Bool.not_eq_false] at hp1;obtain ⟨kk,h1,h2⟩:=nc.1 hp1;exact ⟨kk,h1,(Nm.eqk_iff.1 h2).trans e⟩
    rw [this,cj]
 refine ⟨λp hp1=>⟨p,(List.mem_filter.1 hp1).1,rfl⟩,λp hp1=>?_,λk=>?_⟩
 ·by_cases h:xU ks p=true
  ·exact .inl ⟨p,List.mem_filter.2 ⟨hp1,h⟩,rfl⟩
  ·right;unfold xU at h;rw [kg,Bool.not_eq_false] at h;obtain ⟨kk,h1,h2⟩:=nc.1 h;have:=dQ.1 hr kk h1;rw [←Nm.eqk_iff.1 h2];simpa using this
 ·by_cases hk:∃ kk∈ks,kk.key=k.key
  ·rw [yes b k hk];obtain ⟨kk,h1,h2⟩:=hk;exact (hb kk h1 k h2).symm
  ·exact no b k hk
def yw (hp b:Hp):List Nm->Prop
 | []=>True
 | kk::r=>(∀ k:Nm,kk.key=k.key->bW (b++hp) k=bW hp k)/\yw hp b r
theorem cJ {hp b:Hp} {a:Nat} (h:bW (b++hp) (.t a)=bW hp (.t a)):∀ k:Nm,(Nm.t a).key=k.key->bW (b++hp) k=bW hp k:=λk hk=>by
 have:=Nm.key_eq_t.1 hk.symm
 subst this;exact h
theorem gY {hp b:Hp} {F:Nat} (h:∀ i,bW (b++hp) (.s F i)=bW hp (.s F i)):∀ k:Nm,(Nm.s F 0).key=k.key->bW (b++hp) k=bW hp k:=λk hk=>by
 cases k with
 | t a=>simp [Nm.key] at hk
 | s G i =>
  simp only [Nm.key_s,Nm.s.injEq,kZ] at hk
  subst hk;exact h i
theorem Bl {hp b:Hp}:∀ {ks:List Nm},yw hp b ks->∀ kk∈ks,∀ k:Nm,kk.key=k.key->bW (b++hp) k=bW hp k
 | [],_,kk,h=>by cases h
 | q::r,hs,kk,h=>by
  rcases ff.1 h with rfl|h
  ·exact hs.1
  ·exact Bl hs.2 kk h
theorem ma {d:Bool} {f:FuncId} {args args':List SV} {dst:Option Tmp} {ops:Array Oper} {l:List Oper} {acc:List fV} {K:Fr->Hp->Nat->Prop} {hin H:Hp} {m nn:Nat} {X:SV}
  (m5:cS P f args' hin m (λx h n=>x=X/\h=H/\n=nn)) (h:qQ ops fr l=some (f,args,dst)) (hpL:Hp) (nxL:Nat) (hh:(lY hp hpL,lg hp hpL,nx)=(hpL,true,nxL)) (σ:List (Nm×Nm)) (bor:List Nm) (resL:SV) (hpB:Hp) (ks:List Nm) (hpT:Hp)
  (h1:lP hpL hin σ bor args args') (h2:o_ hpL hin σ bor hin) (h3:(oU 0 σ bor,pY 0 m σ hin,EQ m hin σ,oT H)=(true,true,true,true))
  (h6:bor=[]\/(X.nim=true/\tW H=true)) (e1:iz (gc (dh σ) nxL) X=resL) (e2:back (dh σ) nxL m H hpL=hpB) (ht:(hpB.filter (xU ks),ks.all λk=>(bor.map Nm.key++mP (dh σ) m).contains k.key)=(hpT,true)) (hs:yw hpL hpB ks)
  (k:dZ P d ops (l.drop 1) (gp dst resL fr) (hpT++hp) (bif d then nxL+nn+1 else nxL+nn) (acc++[⟨hpT.map (·.1.key),bor.map Nm.key++mP (dh σ) m,nxL,nxL+nn⟩]) K) (hfam:qg hpL hin σ:=by simp only [qg,and_self]):dZ P d ops l fr hp nx acc K:=by
 simp only [gX] at hh h3 ht;obtain ⟨g1,g2,rfl⟩:=hh;obtain ⟨h3,h4,h5,h7⟩:=h3;obtain ⟨ht,htk⟩:=ht;have eh:=Bk (show (lY hp hpL,lg hp hpL)=(hpL,true) by rw [g1,g2]);obtain ⟨l1,l2⟩:=sC h1;have hok:=Bg h5 hfam;have inj:∀ k1 k2 j,dh σ k1=some j->dh σ k2=some j->k1=k2:=by
  simp only [oU,cT] at h3;exact uY h3.1.1 h3.1.2
 have fresh:∀ k:Nm,m<=k.base->dh σ k=none/\bW hin k = .unborn:=λk hk=>⟨by
  cases hn:dh σ k with
  | none=>rfl
  | some j=>have:=(hok k j hn).1;omega,rF h4 k hk⟩
 have eb:back (dh σ) nx m H hp=hpB:=by
  rw [←e2];exact sa (λk hk=>(fresh k hk).1) (jm σ) (λk _=>by rw [eh]) H
 have trim:sP hp hpB hpT (bor.map Nm.key++mP (dh σ) m):=by
  rw [←ht];refine Eo ks _ htk hpB λkk hk k e=>?_
  have:=Bl hs kk hk k e;have e3:bW (hpB++hp) k=bW (hpB++hpL) k:=by rw [fG,fG,eh]
  rw [e3,this,eh]
 subst e1;subst eb;refine cD f args dst h ?_;cases d with
 | false =>
  refine ⟨args',hin,m,_,dh σ,bor,m5,by rw [eh];exact ui h2 h3,jm σ,fresh,inj,λk j hk=>by rw [eh];exact (hok k j hk).2,l1,λi x y hx hy=>by rw [eh];exact my (l2 i x y hx hy),⟨_,_,_,rfl,rfl,rfl⟩,(λh=>by cases h),?_⟩;rintro _ _ _ ⟨rfl,rfl,rfl⟩;exact ⟨h7,h6,_,trim,k⟩
 | true =>
  refine ⟨args',hin,m,_,dh σ,bor,m5,by rw [eh];exact ui h2 h3,jm σ,fresh,inj,λk j hk=>by rw [eh];exact (hok k j hk).2,l1,λi x y hx hy=>by rw [eh];exact my (l2 i x y hx hy),⟨_,_,_,rfl,rfl,rfl⟩,?_,?_⟩
  ·rintro _ _ _ _ _ _ _ ⟨rfl,rfl,rfl⟩ ⟨rfl,rfl,rfl⟩;exact ⟨rfl,rfl,rfl⟩
  ·rintro _ _ _ ⟨rfl,rfl,rfl⟩;exact ⟨h7,h6,_,trim,k⟩
theorem HA (σ:Nm->Option Nm) (nx:Nat) (hp:Hp):iW σ nx [] hp=[]:=rfl
theorem Kz (σ:Nm->Option Nm) (nx k:Nat) (c:cp) (r hp:Hp):iW σ nx ((.t k,c)::r) hp=ec (gc σ nx (.t k)) (ik (gc σ nx) c) (iW σ nx r hp++hp)::iW σ nx r hp:=rfl
theorem KA (σ:Nm->Option Nm) (nx F:Nat) (z:Int) (c:cp) (r hp:Hp):iW σ nx ((.s F z,c)::r) hp=(.s (gc σ nx (.s F 0)).base 0,ik (gc σ nx) c)::iW σ nx r hp:=rfl
theorem Me (k:Nat) (c:cp) (hp:Hp):ec (.t k) c hp=(.t k,c):=rfl
theorem On (nx k:Nat):Nm.sh nx (.t k) = .t (nx+k):=rfl
theorem Oo (nx F:Nat) (i:Int):Nm.sh nx (.s F i) = .s (nx+F) i:=rfl
attribute [push_cast] HA Kz KA Me On Oo po List.flatMap_cons List.flatMap_nil Option.isSome_some Option.isSome_none Nm.base_t Nm.base_s
attribute [push_cast] gc back List.filterMap_cons List.filterMap_nil Option.map_some Option.map_none Kf Kg Kh Ki Kj Kk Kl
end
section
open Go.RowKit
variable {P:Program} {m N:Nat} {Q:g9} {fr:Fr} {hp:Hp} {nx:Nat} {ops:Array Oper}
theorem nV.local {o:Oper} {fr2:Fr} {hp2:Hp} {K K':SV->Hp->Nat->List Nm->Prop} (h:nV P o fr hp nx K) (hf:∀ t∈lF o.op,cL fr2 t=cL fr t) (hh:bW hp2=bW hp) (hK:∀ v u n r,K v u n r->K' v u n r):nV P o fr2 hp2 nx K' :=
 λX ids w fr' hp' a hP h1 h2 h3 h4 h5 h6 KK Q h7=>h X ids w fr' hp' a hP h1 h2 h3 (λt ht=>by rw [h4 t ht,hf t ht]) h5 (λv u n r hk=>by
  have:=h6 v u n r (hK v u n r hk);rw [hh] at this;exact this) KK Q (λv u n r x w' ids' hk hu=>h7 v u n r x w' ids' (hK v u n r hk) ⟨hu.le,by rw [hh];exact hu.keys⟩)
theorem wG.local {dt:Bool} {o:Oper} {fr2:Fr} {hp2:Hp} {K K':SV->Hp->Nat->List Nm->Prop} (h:wG dt P o fr hp nx K) (hf:∀ t∈lF o.op,cL fr2 t=cL fr t) (hh:bW hp2=bW hp) (hK:∀ v u n r,K v u n r->K' v u n r):wG dt P o fr2 hp2 nx K':=by
 cases dt with
 | false=>exact nV.local (K:=K) h hf hh hK
 | true =>
  obtain ⟨e,h1,h2,h3⟩:=h;exact ⟨e,h1,hK _ _ _ _ h2,h3.local hf hh λ_ _ _ _ h=>h⟩
theorem zI {fr':Fr} {hp':Hp} {dt:Bool} {o:Oper} (hn:∀ t∈jL ops o,cL fr' t=cL fr t) (hh:bW hp'=bW hp) {K K':SV->Hp->Nat->List Nm->Prop} (hK:∀ v u n r,K v u n r->K' v u n r) (hs:iv dt P ops o fr hp nx K):iv dt P ops o fr' hp' nx K':=by
 have hnm:∀ t∈lF o.op,cL fr' t=cL fr t:=λt ht=>hn t (by unfold jL;exact jE _ ht);have core:∀ {g:Bool},ky dt P g o fr hp nx K->ky dt P g o fr' hp' nx K':=by
  intro g hc;unfold ky at hc ⊢;rw [wH hnm];cases hcl:i_ g fr o.op with
  | some c =>
   rw [hcl] at hc;obtain ⟨args',hin,m,Post,σ,bor,h1,h2,hsg,h3,h4,h5,h6,h7,h8,h9,h10⟩:=hc;refine ⟨args',hin,m,Post,σ,bor,h1,by rw [hh];exact h2,hsg,h3,h4,by rw [hh];exact h5,h6,by rw [hh];exact h7,h8,h9,λres hpx nx' hpp=>⟨(h10 res hpx nx' hpp).1,(h10 res hpx nx' hpp).2.1,?_⟩⟩;rw [sa (h1:=hp) (λk hk=>(h3 k hk).1) hsg (λk _=>by rw [hh]) hpx];obtain ⟨u,hu,hk⟩:=(h10 res hpx nx' hpp).2.2;exact ⟨u,⟨hu.keys,hu.drop,λk=>by rw [fG,fG,hh,←fG,←fG];exact hu.eq k⟩,hK _ _ _ _ hk⟩
  | none =>
   rw [hcl] at hc;simp only at hc ⊢;rcases hc with hc|hc
   ·exact .inl ⟨hc.1,hc.2.1,hc.2.2.local hnm hh hK⟩
   refine .inr ?_;cases hop:kH P g fr hp nx o.type o.op with
   | bad=>rw [hop] at hc;exact hc.elim
   | ok s e =>
    rw [hop] at hc;rw [pX hop hnm (λk _=>by rw [hh])];exact ⟨hc.1,hK _ _ _ _ hc.2⟩
 unfold iv at hs ⊢;cases hg:o.guard with
 | none=>rw [hg] at hs;exact core hs
 | some jw =>
  rw [hg] at hs;simp only at hs ⊢;rw [wJ hg hn];cases hgs:mw ops fr jw.1 jw.2 with
  | none=>rw [hgs] at hs;exact hs
  | some g =>
   rw [hgs] at hs;simp only at hs ⊢;cases hq:lL P o.op with
   | true =>
    rw [hq] at hs;simp only [cd] at hs ⊢;rcases hs with hs|hs
    ·exact .inl ⟨hs.1,hK _ _ _ _ hs.2⟩
    ·refine .inr ?_;cases hop:kH P g fr hp nx o.type o.op with
     | bad=>rw [hop] at hs;exact hs.elim
     | ok s e =>
      rw [hop] at hs;rw [pX hop hnm (λk _=>by rw [hh])];simp only at hs ⊢;cases hu:e.upd with
      | nil=>rw [hu] at hs;exact ⟨hs.1,hK _ _ _ _ hs.2⟩
      | cons a b=>rw [hu] at hs;exact hs
   | false =>
    rw [hq] at hs;exact ⟨λhg=>core (hs.1 hg),λhg=>hK _ _ _ _ (hs.2 hg)⟩
def sX (ops:Array Oper) (l:List Oper) (fr' fr:Fr):Prop:=∀ d,cL fr' d=cL fr d\/(cL fr' d = .any/\∀ o∈l,d∉jL ops o)
theorem sX.names {l:List Oper} {o:Oper} {fr':Fr} (h:sX ops (o::l) fr' fr):∀ t∈jL ops o,cL fr t=cL fr' t:=λt ht=>by
 rcases h t with h|h
 ·exact h.symm
 ·exact absurd ht (h.2 o (List.mem_cons_self ..))
theorem sX.put {l:List Oper} {o:Oper} {fr':Fr} (h:sX ops (o::l) fr' fr) (d:Option Tmp) (v:SV):sX ops l (gp d v fr') (gp d v fr):=by
 intro t;cases d with
 | none=>exact (h t).imp id λh=>⟨h.1,λo' ho=>h.2 o' (uE _ ho)⟩
 | some d =>
  simp only [gp,cL];cases hd:(d==t) with
  | true=>exact .inl rfl
  | false=>exact (h t).imp id λh=>⟨h.1,λo' ho=>h.2 o' (uE _ ho)⟩
theorem CU {K:Fr->Hp->Nat->Prop} {fr':Fr} {hp':Hp} (h:sX ops [] fr' fr) (hh:bW hp=bW hp') (hk:qA K fr' hp' nx):qA K fr hp nx:=by
 obtain ⟨f,q,⟨h1,h2⟩,hk⟩:=hk;refine ⟨f,q,⟨λd=>?_,λk=>by rw [h2 k,hh]⟩,hk⟩;rcases h1 d with h1|h1
 ·rcases h d with h|h
  ·exact .inl (h1.trans h)
  ·exact .inr (h1.trans h.1)
 ·exact .inr h1
theorem CV {hp hp':Hp} (h:bW hp=bW hp') (u:Hp):bW (u++hp)=bW (u++hp'):=funext λk=>qO λ_=>by rw [h]
theorem rh {K:Fr->Hp->Nat->Prop}:∀ (l:List Oper) (fr' fr:Fr) (hp' hp:Hp) (nx:Nat),sX ops l fr' fr->bW hp=bW hp'->lM P ops l fr' hp' nx (qA K)->lM P ops l fr hp nx (qA K)
 | [],fr',fr,hp',hp,nx,h,hh,hr=>CU h hh hr
 | o::l,fr',fr,hp',hp,nx,h,hh,hr=>zI h.names hh (λv u n r hk=>rh l _ _ _ _ _ (h.put o.dst v) (CV hh u) hk) hr
theorem tE {K:Fr->Hp->Nat->Prop}:∀ (l:List Oper) (fr' fr:Fr) (hp' hp:Hp) (nx:Nat) (acc:List fV),sX ops l fr' fr->bW hp=bW hp'->ym P ops l fr' hp' nx acc (qA K)->ym P ops l fr hp nx acc (qA K)
 | [],fr',fr,hp',hp,nx,acc,h,hh,hr=>⟨hr.1,CU h hh hr.2⟩
 | o::l,fr',fr,hp',hp,nx,acc,h,hh,hr=>zI h.names hh (λv u n r hk=>tE l _ _ _ _ _ _ (h.put o.dst v) (CV hh u) hk) hr
def Ns:SV->Bool
 | .any=>true
 | _=>false
def Mf (ops:Array Oper) (l:List Oper) (fr fr':Fr):Bool:=l.all λo=>(jL ops o).all λt=>fr'.any (λp=>p.1==t)||Ns (cL fr t)
theorem CW (fr:Fr) (d:Nat):∀ ks:Fr,(ks.any λp=>p.1==d)=true->cL (oL fr ks) d=cL fr d
 | [],h=>by simp at h
 | p::r,h=>by
  simp only [oL,gz,cL]
  by_cases hp:p.1=d
  ·subst hp;simp
  ·have hb:(p.1==d)=false:=by simpa using hp
   rw [hb,cj]
   refine CW fr d r ?_
   simp only [List.any_cons,hb,Bool.false_or] at h
   exact h
theorem rn {d:Bool} {l:List Oper} {acc:List fV} {K:Fr->Hp->Nat->Prop} (i:Nat) (fr':Fr) (hp':Hp) (nx':Nat) (h:(l,oL fr fr',Mf ops l fr fr',lY hp hp',lg hp hp',nx)=(ops.toList.drop i,fr',true,hp',true,nx'))
  (k:dZ P d ops (ops.toList.drop i) fr' hp' nx' acc K):dZ P d ops l fr hp nx acc K:=by
 simp only [gX] at h;obtain ⟨h1,h2,h3,h4,h5,h6⟩:=h;rw [←h1] at k;subst h6;have hh:bW hp=bW hp':=funext λk=>((xj (fr:=[]) (fr':=[]) rfl h4 h5).2 k).symm
 have hl:sX ops l fr' fr:=λt=>by
  by_cases hm:(fr'.any λp=>p.1==t)=true
  ·left;have:=CW fr t fr' hm;rw [h2] at this;exact this
  ·rcases wW fr t fr' with hk|hk
   ·left;rw [h2] at hk;exact hk
   ·rw [h2] at hk;by_cases hl:∃ o∈l,t∈jL ops o
    ·obtain ⟨o,ho,ht⟩:=hl;left;have:=dQ.1 (dQ.1 h3 o ho) t ht;have hm':(fr'.any λp=>p.1==t)=false:=Bool.eq_false_iff.2 hm;rw [hm',Bool.false_or] at this;rw [hk];cases hg:cL fr t<;>rw [hg] at this<;>first|rfl|cases this
    ·exact .inr ⟨hk,λo ho ht=>hl ⟨o,ho,ht⟩⟩
 cases d with
 | false=>exact rh l _ _ _ _ _ hl hh k
 | true=>exact tE l _ _ _ _ _ _ hl hh k
@[push_cast] theorem OC (τ:Nm->Nm) (m:List (Int×Int)):(mi m).map (λp=>(p.1,iz τ p.2))=mi m:=by
 induction m with
 | nil=>rfl
 | cons p r ih=>simp only [mi,gz] at ih ⊢;rw [ih];rfl
end
section
open Go.RowKit
variable {P:Program} {m N:Nat} {Q:g9} {fr:Fr} {hp:Hp} {nx:Nat} {ops:Array Oper}
variable {α:Type}
theorem EX {d:Bool} {l:List Oper} {acc:List fV} {K:Fr->Hp->Nat->Prop} (t:Nat) (x x':SV) (e:x=x') (h:cL fr t=x) (k:dZ P d ops l ((t,x')::fr) hp nx acc K):dZ P d ops l fr hp nx acc K:=by
 subst e;have hl:sX ops l ((t,x)::fr) fr:=λq=>.inl (by
  simp only [cL];by_cases hq:t=q
  ·subst hq;simp [h]
  ·rw [show (t==q)=false from by simpa using hq,cj])
 cases d with
 | false=>exact rh l _ _ _ _ _ hl rfl k
 | true=>exact tE l _ _ _ _ _ _ hl rfl k
theorem KB {d:Bool} {l:List Oper} {acc:List fV} {K:Fr->Hp->Nat->Prop} (p:Nm×cp) (h:∀ q,p.1.key=q.key->bW hp q=p.2.mem q) (k:dZ P d ops l fr (p::hp) nx acc K):dZ P d ops l fr hp nx acc K:=by
 have hh:bW hp=bW (p::hp):=funext λq=>by
  simp only [bW];by_cases hq:p.1.key=q.key
  ·rw [Nm.eqk_iff.2 hq,cd];exact h q hq
  ·rw [Nm.eqk_no hq,cj]
 have hl:sX ops l fr fr:=λq=>.inl rfl;cases d with
 | false=>exact rh l _ _ _ _ _ hl hh k
 | true=>exact tE l _ _ _ _ _ _ hl hh k
theorem KC {d:Bool} {l:List Oper} {acc:List fV} {K:Fr->Hp->Nat->Prop} (j:Nat) (c c':cp) (e:c=c') (h:bW hp (.t j)=c) (k:dZ P d ops l fr ((.t j,c')::hp) nx acc K):dZ P d ops l fr hp nx acc K:=by
 subst e;refine KB (.t j,c) (λq hq=>?_) k;rw [Nm.key_t] at hq;have:=Nm.key_eq_t.1 hq.symm;subst this;exact h
end
section
open Go.RowKit
theorem Mg {α:Type} [bZ α] (tab:List α) (raw:List SV) (hraw:raw=fl tab) (len z nx:Nat) (hl:tab.length=len) (i:Int) (k:0<=i/\i<(tab.length:Int)) :
  gI (.ok (0<=i/\i<(len:Int)) ⟨.iptr raw (0+i.toNat*z),[],nx,[]⟩) ⟨.iptr (fl tab) (i.toNat*z),[],nx,[]⟩:=iX (hl▸k) (by rw [hraw,dm]) rfl
end
section
open Go.RowKit
theorem cS.frz {P:Program} {f:FuncId} {args:List SV} {hin:Hp} {m n:Nat} {e:TypeId} {cs:List SV} (h:cS P f args hin m (λx h k=>x = .own 0 0 n/\h=[(Nm.t 0,.row e cs)]/\k=1)) :
  cS P f args hin m (λx h k=>x = .sl n cs/\h=[(Nm.t 0,.dead)]/\k=1):=by
 refine ⟨h.1,λX vals h1 h2 h3 h4 h5=>(h.2 X vals h1 h2 h3 h4 h5).mono ?_⟩;rintro ex w' ⟨r,res,hp',nx',ids',rfl,⟨rfl,rfl,rfl⟩,hF,hd⟩;have hrow:bW [(Nm.t 0,cp.row e cs)] (.t 0) = .row e cs:=rfl;have hl:(bW [(Nm.t 0,cp.row e cs)] (.t 0)).live=true:=rfl;have hG:bW ([(Nm.t 0,cp.dead)]++[(Nm.t 0,cp.row e cs)])=bW [(Nm.t 0,cp.dead)]:=by
  rw [fI,dv,dv,dv];funext k;simp only [upd];split<;>rfl
 obtain ⟨k1,k2⟩:=AL hF.toHeapC (k:=.t 0) (by rw [hrow];simp);have hnl:∀ k,(bW [(Nm.t 0,cp.dead)] k).live=true->False:=λk hk=>by
  rw [dv] at hk;simp only [upd] at hk;split at hk
  ·cases hk
  ·cases hk
 have hK:HeapC X [(Nm.t 0,.dead)] ids' w':=⟨by rw [←hG];exact k1.st,λk hk h0 hl=>(hnl k hl).elim,λk hk hv=>by rw [dv] at hv;simp only [upd] at hv;split at hv<;>cases hv⟩;have hE:fm X [(Nm.t 0,.row e cs)] ids' w' [(Nm.t 0,.dead)] ids' w':=by
  have:=k2;rw [show ec (.t 0) cp.dead [(Nm.t 0,cp.row e cs)]=(.t 0,.dead) from rfl] at this;simp only [fm,hG] at this;exact this
 obtain ⟨a,cap,rfl,c1,c2,c4,c3⟩:=l_ hd hl;refine ⟨_,.sl n cs,[(Nm.t 0,.dead)],1,ids',rfl,⟨rfl,rfl,rfl⟩,⟨hK,λk hk=>?_,hF.m_le⟩,?_⟩
 ·rw [dv,dO _ _ (λe=>by subst e;simp at hk)];rfl
 ·rcases c3 with ⟨rfl,rfl⟩|⟨b,o,e2,cs2,arr,hC,hid,rfl,hw,hcapsz⟩
  ·have hcs:cs=[]:=by
    have:=c4 _ _ hrow;exact iR (by omega)
   subst hcs;exact .sl0 (by unfold maxLen;omega)
  ·have hc:=hF.st.ch (.t 0);rw [hrow] at hc;have hid':ids' (.t 0)=some (b,o):=hid;simp only [fK,hid'] at hc;obtain ⟨arr',ha',hl',hx'⟩:=hc;obtain ⟨hlt,hor⟩:=hF.st.lt (.t 0) b o hl hid;refine .sl b (o+0) cap (λi=>arr'.getD (o+i) undef) ⟨?_,hlt,λk hk=>(hnl k hk).elim⟩ c1 c2 (λi x hi=>?_) (λi x hi=>(hx' i x hi).mono hE)
   ·rcases hor with h|h
    ·exact .inr (.inl h)
    ·exact .inr (.inr h)
   ·have hi':=(dy.1 hi).1;simp only [World.cell?,ha',eC];simp [cQ,d5 (show o+i<arr'.size by omega)]
end
section
open Go.RowKit
variable {P:Program}
theorem Nt {f : FuncId} {fn : Func} (h : P.funcs[f]? = some fn) (hb : fn.body.isSome = true) (hn : (fn.name == "runtime.NumGoroutine") = false) : ∃ fn body, P.funcs[f]? = some fn /\ fn.body = some body /\ fn.name ≠ "runtime.NumGoroutine" := by
 obtain ⟨b,hb⟩:=qH.1 hb
 exact ⟨fn,b,h,hb,by simpa using hn⟩
end
section
open Go.RowKit
variable {P:Program}
def nX:SV->SV
 | .v (.slice none 0 0)=>.sl 0 []
 | x=>x
theorem CX {C:Nm->cp} {ids:dD} {I:Nat->Prop} {w:World} {s:SV} {x:Value} (h:dT P C ids I w s x):dT P C ids I w (nX s) x:=by
 unfold nX;split
 ·obtain rfl:=d9 h;exact .sl0 (by unfold maxLen;omega)
 ·exact h
theorem Mh {X:Cx} {hp:Hp} {ids:dD} {w:World} (h:HeapC X hp ids w) {k b o:Nat} {e:TypeId} {cs:List SV} (hk:bW hp (.t k) = .row e cs) (hi:ids (.t k)=some (b,o)) :
  HeapC X ((.t k,.row e (cs.map nX))::hp) ids w/\fm X hp ids w ((.t k,.row e (cs.map nX))::hp) ids w:=by
 have hlk:(bW hp (.t k)).live=true:=by rw [hk];rfl
 have hch:=h.st.ch (.t k);rw [hk] at hch;simp only [fK,hi] at hch;obtain ⟨arr,ha,hl,hx⟩:=hch;have hsk:dY (bW hp (.t k)) (.row e (cs.map nX)):=by rw [hk];exact ⟨rfl,by rw [eD];exact cF _⟩
 have hE:=h.st.turn_ext hlk hi (c:=.row e (cs.map nX)) rfl hsk (w':=w) rfl (λj _=>rfl) (dM.refl _);have hC:bW ((.t k,.row e (cs.map nX))::hp)=upd (bW hp) (.t k) (.row e (cs.map nX)):=dv k _ hp;refine ⟨⟨?_,λj hj h0 hjl=>?_,λj hj hv=>by rw [hC] at hv;exact l9 h.nov (λe=>by cases e) j hj hv⟩,?_⟩
 ·rw [hC];refine h.st.turn hlk hi rfl hsk rfl (λj _=>rfl) (dM.refl _) rfl rfl rfl ?_;simp only [fK,hi];refine ⟨arr,ha,by rw [eD];exact hl,λi x hix=>?_⟩;rw [f5] at hix;cases hq:cs[i]? with
  | none=>rw [hq] at hix;cases hix
  | some y=>rw [hq] at hix;cases hix;exact (CX (hx i y hq)).mono hE
 ·rw [hC] at hjl ⊢;have hlo:(bW hp j).live=true:=by
   by_cases hjk:j=Nm.t k
   ·subst hjk;exact hlk
   ·rwa [dO _ _ hjk] at hjl
  exact (h.kept j hj h0 hlo).step hE hlo hjl
 ·simp only [fm,hC];exact hE
variable {fr:Fr} {hp:Hp} {nx:Nat} {ops:Array Oper}
theorem HB {P:Program} {fr:Fr} {hp:Hp} {nx:Nat} {o:Oper} {s:Prop} {k:Nm} {off n:Nat} {p:Nm×cp} {nx':Nat} {r:List Nm} (h:kH P true fr hp nx o.type o.op = .ok s ⟨.own k off n,[p],nx',r⟩):uR o.op=true:=by
 cases hop:o.op<;>first|rfl|skip
 ·rw [hop] at h;have:=(wD h).1;cases this
 ·rw [hop] at h;simp only [kH] at h;unfold jp at h;split at h
  ·split at h
   ·obtain ⟨es,_,hf⟩:=ip h;cases hf
   ·cases h
  ·cases h
theorem IK {d:Bool} {l:List Oper} {acc:List fV} {K:Fr->Hp->Nat->Prop} (dst:Option Tmp) (n:Nat) (e:TypeId) (cs cs':List SV)
  (hc:(sW P ops fr l).map (λo=>(o.dst,kH P true fr hp nx o.type o.op))=some (dst,.ok True ⟨.own nx 0 n,[(Nm.t nx,.row e cs)],nx+1,[]⟩)) (hn:Nat.blt 0 n=true) (hw:cs.map nX=cs')
  (h:dZ P d ops (l.drop 1) (gp dst (.own nx 0 n) fr) ([(Nm.t nx,.row e cs')]++hp) (bif d then nx+2 else nx+1) (acc++[⟨[Nm.t nx],[],nx,nx+1⟩]) K):dZ P d ops l fr hp nx acc K:=by
 obtain ⟨o,ho,hh⟩:=mn.1 hc;simp only [gX] at hh;obtain ⟨rfl,hop⟩:=hh;subst hw;refine xl o ⟨.own nx 0 n,[(Nm.t nx,.row e (cs.map nX))],nx+1,[]⟩ ho (od _) (HB hop) ?_ h;intro X ids w fr' hp' a hP h1 h2 h3 h4 h5 h6 KK Q hK;subst hP;have hop':=pX (hp':=hp') hop h4 (λk hk=>by cases hk);obtain ⟨x,w',ids',g1,g2,g3,g4⟩:=uO (nx:=nx) ⟨h1,h5,h2⟩ h3 (g:=true) rfl hop' trivial;have g2':HeapC X ((Nm.t nx,cp.row e cs)::hp') ids' w':=g2;have hrow:bW ((Nm.t nx,cp.row e cs)::hp') (.t nx) = .row e cs:=by rw [dv,cG]
 have g4':cU X ((Nm.t nx,cp.row e cs)::hp') ids' w' (.own nx 0 n) x:=g4;obtain ⟨ad,cap,hxv,c1,c2,c3,c4⟩:=l_ g4' (by rw [hrow];rfl);have hn':0<n:=by simpa [kD] using hn
 obtain ⟨b,q,e2,cs2,arr,hC2,hid,_⟩:∃ b o e' cs' arr,bW ((Nm.t nx,cp.row e cs)::hp') (.t nx) = .row e' cs'/\ids' (.t nx)=some (b,o)/\ad=some ⟨b,o+0,none⟩/\w'.heap[b]? = some (.cells arr e' (0,0))/\o+0+cap*X.P.cellsOf e'<=arr.size:=by
  rcases c4 with ⟨h,_⟩|h
  ·omega
  ·exact h
 obtain ⟨r1,r2⟩:=Mh g2' hrow hid;have hg:bW ((Nm.t nx,cp.row e (cs.map nX))::(Nm.t nx,cp.row e cs)::hp')=bW ([(Nm.t nx,cp.row e (cs.map nX))]++hp'):=by
  show _=bW ((Nm.t nx,_)::hp');rw [dv,dv,dv];funext j;unfold upd;split<;>rfl
 refine mV g1 (hK (.own nx 0 n) [(Nm.t nx,.row e (cs.map nX))] (nx+1) [] x w' ids' ⟨rfl,rfl,rfl,rfl⟩ ⟨od _,λp hp=>?_⟩ (r1.congr hg) ?_ ?_)
 ·simp only [fQ] at hp;subst hp;exact .inl ⟨cF _,ti _⟩
 ·have:=lj g3 r2;simp only [fm,hg] at this;exact this
 ·exact cU.congr (g4'.mono r2) hg
end
section
open Go.RowKit
variable {X:Cx} {hp:Hp} {nx:Nat} {ids:dD} {w:World}
structure xm (C C':Nm->cp) (G:Nat) (ρ:Int->Option Nm) (e:TypeId):Prop where
 fresh:∀ k:Nm,k.base=G->C k = .unborn
 some_:∀ i k,ρ i=some k->C' (.s G i)=C k
 none_:∀ i,ρ i=none->C' (.s G i) = .row e []\/(C' (.s G i)).live=false
 top:(C' (.t G)).live=false
 dies:∀ i k,ρ i=some k->C' k = .dead
 oth:∀ k:Nm,k.base≠G->C' k=C k\/C' k = .dead
 inj:∀ i j k,ρ i=some k->ρ j=some k->i=j
def kK (G:Nat) (ρ:Int->Option Nm) (ids:dD):dD:=λk=>match k with
 | .t a=>ids (.t a)
 | .s F i=>if F=G then (ρ i).bind ids else ids (.s F i)
theorem rH (G:Nat) (ρ:Int->Option Nm) (ids:dD) (i:Int):kK G ρ ids (.s G i)=(ρ i).bind ids:=if_pos rfl
theorem rI (G:Nat) (ρ:Int->Option Nm) (ids:dD) {k:Nm} (h:k.base≠G):kK G ρ ids k=ids k:=by
 cases k with
 | t a=>rfl
 | s F i=>exact if_neg h
section sem
variable {P:Program} {w0:World} {I0 W0:Nat->Prop} {C C':Nm->cp} {G:Nat} {ρ:Int->Option Nm} {e:TypeId}
theorem xm.old (hh:xm C C' G ρ e) {k:Nm} {b o:Nat} (hl:(C' k).live=true) (hi:kK G ρ ids k=some (b,o)) :
 ∃k0,(C k0).live=true/\ids k0=some (b,o)/\C' k=C k0/\((k.base≠G/\k0=k)\/∃ i,k = .s G i/\ρ i=some k0):=by
 by_cases hb:k.base=G
 ·cases k with
  | t a=>simp only [Nm.base_t] at hb;subst hb;rw [hh.top] at hl;cases hl
  | s F i =>
   simp only [Nm.base_s] at hb;subst hb;rw [rH] at hi;cases hr:ρ i with
   | none=>rw [hr] at hi;cases hi
   | some k0 =>
    rw [hr] at hi;have h1:=hh.some_ i k0 hr;exact ⟨k0,by rw [←h1];exact hl,hi,h1,.inr ⟨i,rfl,hr⟩⟩
 ·rw [rI _ _ _ hb] at hi;rcases hh.oth k hb with h1|h1
  ·exact ⟨k,by rw [←h1];exact hl,hi,h1,.inl ⟨hb,rfl⟩⟩
  ·rw [h1] at hl;cases hl
theorem xm.ext (h:lB P w0 I0 W0 C ids w) (hh:xm C C' G ρ e):km C ids (Im w0 I0 W0 C ids w) w C' (kK G ρ ids) (Im w0 I0 W0 C' (kK G ρ ids) w) w:=by
 refine ⟨λb hb=>⟨⟨hb.1,hb.2.1,λk hk o hi=>?_⟩,rfl⟩,λk hk=>?_,λk hk=>?_⟩
 ·obtain ⟨k0,h1,h2,_⟩:=hh.old hk hi;exact hb.2.2 k0 h1 o h2
 ·have hb:k.base≠G:=λe=>by rw [hh.fresh k e] at hk;cases hk
  rcases hh.oth k hb with h1|h1
  ·rw [h1];exact hk
  ·exact h1
 ·have hb:k.base≠G:=λe=>by rw [hh.fresh k e] at hk;cases hk
  rcases hh.oth k hb with h1|h1
  ·exact .inr ⟨by rw [h1];exact hk,rI _ _ _ hb,by rw [h1];exact dY.refl hk,λ_ _ _=>dM.refl _⟩
  ·exact .inl h1
theorem fK.rename {C':Nm->cp} {ids':dD} {I I':Nat->Prop} {k k':Nm} {c:cp} (hE:km C ids I w C' ids' I' w) (h:fK P C ids I w k c) (hi:ids' k'=ids k):fK P C' ids' I' w k' c:=by
 cases c with
 | unborn=>trivial
 | dead=>trivial
 | void=>trivial
 | fam g=>trivial
 | row e cs =>
  simp only [fK,hi] at h ⊢;cases hid:ids k with
  | none=>rw [hid] at h;exact h
  | some p =>
   obtain ⟨b,o⟩:=p;rw [hid] at h;obtain ⟨arr,ha,hs,hx⟩:=h;exact ⟨arr,ha,hs,λi x hix=>(hx i x hix).mono hE⟩
 | map es =>
  obtain ⟨b,arr,clock,hid,ha,hs,hx,hbo⟩:=h;exact ⟨b,arr,clock,hi.trans hid,ha,hs,λi x hix=>⟨(hx i x hix).1,(hx i x hix).2.mono hE⟩,hbo⟩
 | obj s pos =>
  obtain ⟨b,hid,ha⟩:=h;exact ⟨b,hi.trans hid,ha⟩
theorem xm.st (h:lB P w0 I0 W0 C ids w) (hh:xm C C' G ρ e):lB P w0 I0 W0 C' (kK G ρ ids) w:=by
 have hE:=hh.ext h;refine ⟨λk=>?_,λk k' b o o' hk hk' hi hi'=>?_,λk b o hk hi=>?_,h.im0,h.evol,h.os,h.tape,h.output,h.size⟩
 ·by_cases hb:k.base=G
  ·cases k with
   | t a =>
    simp only [Nm.base_t] at hb;subst hb;have:=hh.top;cases hc:C' (.t a)<;>rw [hc] at this<;>first|trivial|cases this
   | s F i =>
    simp only [Nm.base_s] at hb;subst hb;cases hr:ρ i with
    | none =>
     rcases hh.none_ i hr with h1|h1
     ·have hn:kK F ρ ids (.s F i)=none:=by rw [rH,hr];rfl
      rw [h1];simp only [fK,hn]
     ·cases hc:C' (.s F i)<;>rw [hc] at h1<;>first|trivial|cases h1
    | some k0 =>
     rw [hh.some_ i k0 hr];exact fK.rename hE (h.ch k0) (by rw [rH,hr];rfl)
  ·rcases hh.oth k hb with h1|h1
   ·rw [h1];exact fK.rename hE (h.ch k) (rI _ _ _ hb)
   ·rw [h1];trivial
 ·obtain ⟨k0,a1,a2,_,a3⟩:=hh.old hk hi;obtain ⟨k0',b1,b2,_,b3⟩:=hh.old hk' hi';have:=h.inj k0 k0' b o o' a1 b1 a2 b2;subst this;rcases a3 with ⟨a3,rfl⟩|⟨i,rfl,a3⟩<;>rcases b3 with ⟨b3,b4⟩|⟨j,b4,b3⟩
  ·exact b4
  ·have:=hh.dies j _ b3;rw [this] at hk;cases hk
  ·have:=hh.dies i _ a3;subst b4;rw [this] at hk';cases hk'
  ·rw [b4,hh.inj i j _ a3 b3]
 ·obtain ⟨k0,a1,a2,_,_⟩:=hh.old hk hi;exact h.lt k0 b o a1 a2
end sem
variable {G:Nat} {ρ:Int->Option Nm} {e:TypeId} {hp':Hp}
theorem Ep (h:HeapC X hp ids w) {k:Nm} {e:TypeId} {cs cs':List SV} (hk:bW hp k = .row e cs) (hlen:cs'.length=cs.length)
  (hx:∀ (i:Nat) (x y:SV) (v:Value),cs[i]? = some x->cs'[i]? = some y->cU X hp ids w x v->cU X hp ids w y v) :
  HeapC X (ec k (.row e cs') hp::hp) ids w/\fm X hp ids w (ec k (.row e cs') hp::hp) ids w:=by
 have hlk:(bW hp k).live=true:=by rw [hk];rfl
 have hC:bW (ec k (.row e cs') hp::hp)=upd (bW hp) k (.row e cs'):=jG (iV hlk) (by simp);have hsk:dY (bW hp k) (.row e cs'):=by rw [hk];exact ⟨rfl,Nat.le_of_eq hlen⟩
 have hE:km (bW hp) ids (Im X.w0 X.I0 X.W0 (bW hp) ids w) w (upd (bW hp) k (.row e cs')) ids (Im X.w0 X.I0 X.W0 (upd (bW hp) k (.row e cs')) ids w) w:=by
  have lv:∀ j,(upd (bW hp) k (.row e cs') j).live=true↔(bW hp j).live=true:=λj=>by
   by_cases hj:j=k
   ·subst hj;rw [cG,hk];exact Iff.rfl
   ·rw [dO _ _ hj]
  refine ⟨λb hb=>⟨⟨hb.1,hb.2.1,λj hj o hi=>hb.2.2 j ((lv j).1 hj) o hi⟩,rfl⟩,λj hj=>?_,λj hj=>?_⟩
  ·have hjk:j≠k:=λe=>by subst e;rw [hj] at hlk;cases hlk
   rw [dO _ _ hjk];exact hj
  ·refine .inr ⟨(lv j).2 hj,rfl,?_,λ_ _ _=>dM.refl _⟩;by_cases hjk:j=k
   ·subst hjk;rw [cG];exact hsk
   ·rw [dO _ _ hjk];exact dY.refl hj
 have lv:∀ j,(upd (bW hp) k (.row e cs') j).live=true->(bW hp j).live=true:=λj hj=>by
  by_cases hjk:j=k
  ·subst hjk;exact hlk
  ·rwa [dO _ _ hjk] at hj
 refine ⟨⟨?_,λj hj h0 hjl=>?_,λj hj hv=>by rw [hC] at hv;exact l9 h.nov (λe=>by cases e) j hj hv⟩,by simp only [fm,hC];exact hE⟩
 ·rw [hC];refine ⟨λj=>?_,λj j' b o o' hj hj'=>h.st.inj j j' b o o' (lv j hj) (lv j' hj'),λj b o hj=>h.st.lt j b o (lv j hj),h.st.im0,h.st.evol,h.st.os,h.st.tape,h.st.output,h.st.size⟩;by_cases hjk:j=k
  ·subst hjk;rw [cG];have hc:=h.st.ch j;rw [hk] at hc;simp only [fK] at hc ⊢;cases hid:ids j with
   | none =>
    rw [hid] at hc;simp only at hc;subst hc;exact iR hlen
   | some p =>
    obtain ⟨b,o⟩:=p;rw [hid] at hc;obtain ⟨arr,ha,hl,hxx⟩:=hc;refine ⟨arr,ha,by omega,λi y hi=>?_⟩;have hlt:=(dy.1 hi).1;have hi2:=dz (show i<cs.length by omega);exact (hx i _ y _ hi2 hi (hxx i _ hi2)).mono hE
  ·rw [dO _ _ hjk];exact fK.rename hE (h.st.ch j) rfl
 ·rw [hC] at hjl ⊢;exact (h.kept j hj h0 (lv j hjl)).step hE (lv j hjl) hjl
end
section
open Go.RowKit
inductive Hr (C C':Nm->cp) (G:Nat) (ρ:Int->Option Nm):SV->SV->Prop
 | same {x}:Hr C C' G ρ x x
 | own {i k off n} (hr:ρ i=some k) (hl:(C k).live=true):Hr C C' G ρ (.own k off n) (.own (.s G i) off n)
 | ptr {i k off} (hr:ρ i=some k) (hl:(C k).live=true):Hr C C' G ρ (.ptr k off) (.ptr (.s G i) off)
 | nil {i e} (hr:C' (.s G i) = .row e []):Hr C C' G ρ (.v (.slice none 0 0)) (.own (.s G i) 0 0)
structure sY (C C':Nm->cp) (G:Nat) (ρ:Int->Option Nm) (R:Nm):Prop where
 fresh:∀ k:Nm,k.base=G->C k = .unborn
 some_:∀ i k,ρ i=some k->C' (.s G i)=C k
 none_:∀ i,ρ i=none->(∃ e,C' (.s G i) = .row e [])\/(C' (.s G i)).live=false
 top:(C' (.t G)).live=false
 dies:∀ i k,ρ i=some k->C' k = .dead
 oth:∀ k:Nm,k.base≠G->k≠R->C' k=C k\/C' k = .dead
 rb:R.base≠G
 row:∃ e cs cs',C R = .row e cs/\C' R = .row e cs'/\cs'.length=cs.length/\∀ (i:Nat) (x y:SV),cs[i]? = some x->cs'[i]? = some y->Hr C C' G ρ x y
 inj:∀ i j k,ρ i=some k->ρ j=some k->i=j
section sem
variable {P:Program} {w0:World} {I0 W0:Nat->Prop} {C C':Nm->cp} {G:Nat} {ρ:Int->Option Nm} {R:Nm} {ids:dD} {w:World}
theorem sY.liveR (hh:sY C C' G ρ R):(C R).live=true/\(C' R).live=true:=by
 obtain ⟨e,cs,cs',h1,h2,_⟩:=hh.row;rw [h1,h2];exact ⟨rfl,rfl⟩
theorem sY.old (hh:sY C C' G ρ R) {k:Nm} {b o:Nat} (hl:(C' k).live=true) (hi:kK G ρ ids k=some (b,o)) :
 ∃k0,(C k0).live=true/\ids k0=some (b,o)/\((k.base≠G/\k0=k)\/∃ i,k = .s G i/\ρ i=some k0):=by
 by_cases hb:k.base=G
 ·cases k with
  | t a=>simp only [Nm.base_t] at hb;subst hb;rw [hh.top] at hl;cases hl
  | s F i =>
   simp only [Nm.base_s] at hb;subst hb;rw [rH] at hi;cases hr:ρ i with
   | none=>rw [hr] at hi;cases hi
   | some k0 =>
    rw [hr] at hi;have h1:=hh.some_ i k0 hr;exact ⟨k0,by rw [←h1];exact hl,hi,.inr ⟨i,rfl,hr⟩⟩
 ·rw [rI _ _ _ hb] at hi;by_cases hR:k=R
  ·subst hR;exact ⟨k,hh.liveR.1,hi,.inl ⟨hb,rfl⟩⟩
  rcases hh.oth k hb hR with h1|h1
  ·exact ⟨k,by rw [←h1];exact hl,hi,.inl ⟨hb,rfl⟩⟩
  ·rw [h1] at hl;cases hl
theorem sY.ext (h:lB P w0 I0 W0 C ids w) (hh:sY C C' G ρ R):km C ids (Im w0 I0 W0 C ids w) w C' (kK G ρ ids) (Im w0 I0 W0 C' (kK G ρ ids) w) w:=by
 refine ⟨λb hb=>⟨⟨hb.1,hb.2.1,λk hk o hi=>?_⟩,rfl⟩,λk hk=>?_,λk hk=>?_⟩
 ·obtain ⟨k0,h1,h2,_⟩:=hh.old hk hi;exact hb.2.2 k0 h1 o h2
 ·have hb:k.base≠G:=λe=>by rw [hh.fresh k e] at hk;cases hk
  have hR:k≠R:=λe=>by subst e;have:=hh.liveR.1;rw [hk] at this;cases this
  rcases hh.oth k hb hR with h1|h1
  ·rw [h1];exact hk
  ·exact h1
 ·have hb:k.base≠G:=λe=>by rw [hh.fresh k e] at hk;cases hk
  by_cases hR:k=R
  ·subst hR;obtain ⟨e,cs,cs',h1,h2,h3,_⟩:=hh.row;exact .inr ⟨hh.liveR.2,rI _ _ _ hb,by rw [h1,h2];exact ⟨rfl,Nat.le_of_eq h3⟩,λ_ _ _=>dM.refl _⟩
  rcases hh.oth k hb hR with h1|h1
  ·exact .inr ⟨by rw [h1];exact hk,rI _ _ _ hb,by rw [h1];exact dY.refl hk,λ_ _ _=>dM.refl _⟩
  ·exact .inl h1
theorem Mi (h:lB P w0 I0 W0 C ids w) (hh:sY C C' G ρ R) {x y:SV} {v:Value} (hr:Hr C C' G ρ x y) (hd:dT P C ids (Im w0 I0 W0 C ids w) w x v):dT P C' (kK G ρ ids) (Im w0 I0 W0 C' (kK G ρ ids) w) w y v:=by
 cases hr with
 | same=>exact hd.mono (hh.ext h)
 | own hr hl =>
  rename_i i k off n;obtain ⟨a,cap,rfl,c1,c2,c4,c3⟩:=l_ hd hl;have hs:=hh.some_ i k hr;refine .own a cap (by rw [hs];exact hl) ⟨c1,c2,λe' cs hc=>c4 e' cs (by rw [←hs];exact hc),?_⟩;rcases c3 with c3|⟨b,o,e',cs,arr,g1,g2,g3,g4,g5⟩
  ·exact .inl c3
  ·exact .inr ⟨b,o,e',cs,arr,by rw [hs];exact g1,by rw [rH,hr];exact g2,g3,g4,g5⟩
 | ptr hr hl =>
  rename_i i k off;obtain ⟨b,o,g1,rfl⟩:=pT hd hl;exact .ptr b o (by rw [hh.some_ i k hr];exact hl) (by rw [rH,hr];exact g1)
 | nil hr =>
  obtain rfl:=d9 hd;exact .own none 0 (by rw [hr];rfl) ⟨cF _,by unfold maxLen;omega,λe' cs hc=>by rw [hr] at hc;cases hc;exact io _,.inl ⟨rfl,rfl⟩⟩
theorem sY.st (h:lB P w0 I0 W0 C ids w) (hh:sY C C' G ρ R):lB P w0 I0 W0 C' (kK G ρ ids) w:=by
 have hE:=hh.ext h;refine ⟨λk=>?_,λk k' b o o' hk hk' hi hi'=>?_,λk b o hk hi=>?_,h.im0,h.evol,h.os,h.tape,h.output,h.size⟩
 ·by_cases hb:k.base=G
  ·cases k with
   | t a =>
    simp only [Nm.base_t] at hb;subst hb;have:=hh.top;cases hc:C' (.t a)<;>rw [hc] at this<;>first|trivial|cases this
   | s F i =>
    simp only [Nm.base_s] at hb;subst hb;cases hr:ρ i with
    | none =>
     rcases hh.none_ i hr with ⟨e,h1⟩|h1
     ·have hn:kK F ρ ids (.s F i)=none:=by rw [rH,hr];rfl
      rw [h1];simp only [fK,hn]
     ·cases hc:C' (.s F i)<;>rw [hc] at h1<;>first|trivial|cases h1
    | some k0 =>
     rw [hh.some_ i k0 hr];exact fK.rename hE (h.ch k0) (by rw [rH,hr];rfl)
  ·by_cases hR:k=R
   ·subst hR;obtain ⟨e,cs,cs',h1,h2,h3,h4⟩:=hh.row;have hc:=h.ch k;rw [h1] at hc;rw [h2];simp only [fK,rI _ _ _ hb] at hc ⊢;cases hid:ids k with
    | none =>
     rw [hid] at hc;simp only at hc;subst hc;exact iR h3
    | some p =>
     obtain ⟨b,o⟩:=p;rw [hid] at hc;obtain ⟨arr,ha,hl,hxx⟩:=hc;refine ⟨arr,ha,by omega,λi y hi=>?_⟩;have hlt:=(dy.1 hi).1;have hi2:=dz (show i<cs.length by omega);exact Mi h hh (h4 i _ y hi2 hi) (hxx i _ hi2)
   rcases hh.oth k hb hR with h1|h1
   ·rw [h1];exact fK.rename hE (h.ch k) (rI _ _ _ hb)
   ·rw [h1];trivial
 ·obtain ⟨k0,a1,a2,a3⟩:=hh.old hk hi;obtain ⟨k0',b1,b2,b3⟩:=hh.old hk' hi';have:=h.inj k0 k0' b o o' a1 b1 a2 b2;subst this;rcases a3 with ⟨a3,rfl⟩|⟨i,rfl,a3⟩<;>rcases b3 with ⟨b3,b4⟩|⟨j,b4,b3⟩
  ·exact b4
  ·have:=hh.dies j _ b3;rw [this] at hk;cases hk
  ·have:=hh.dies i _ a3;subst b4;rw [this] at hk';cases hk'
  ·rw [b4,hh.inj i j _ a3 b3]
 ·obtain ⟨k0,a1,a2,_⟩:=hh.old hk hi;exact h.lt k0 b o a1 a2
end sem
theorem HC {X:Cx} {hp hp':Hp} {ids:dD} {w:World} {G:Nat} {ρ:Int->Option Nm} {R:Nm} (h:HeapC X hp ids w) (hm:X.m<=G) (hh:sY (bW hp) (bW hp') G ρ R):HeapC X hp' (kK G ρ ids) w/\fm X hp ids w hp' (kK G ρ ids) w:=by
 have hE:=hh.ext h.st;refine ⟨⟨hh.st h.st,λk hk h0 hl=>?_,λk hk hv=>?_⟩,hE⟩
 ·have hb:k.base≠G:=by omega
  by_cases hR:k=R
  ·subst hR;exact (h.kept k hk h0 hh.liveR.1).step hE hh.liveR.1 hl
  rcases hh.oth k hb hR with h1|h1
  ·exact (h.kept k hk h0 (by rw [←h1];exact hl)).step hE (by rw [←h1];exact hl) hl
  ·rw [h1] at hl;cases hl
 ·have hb:k.base≠G:=by omega
  by_cases hR:k=R
  ·subst hR;have:=hh.liveR.2;rw [hv] at this;cases this
  rcases hh.oth k hb hR with h1|h1
  ·exact h.nov k hk (by rw [←h1];exact hv)
  ·rw [h1] at hv;cases hv
def lZ (P:Program) (nx q:Nat) (rds:List Nm) (hp u:Hp):Prop :=
∀(X:Cx) (ids:dD) (w:World) (hp':Hp),X.P=P->X.m<=nx->HeapC X hp' ids w->(∀ k:Nm,k.key∈rds->bW hp' k=bW hp k)->(∀ k:Nm,nx<=k.base->k.base<nx+q->bW hp' k = .unborn) ->
 ∃ids',HeapC X (u++hp') ids' w/\fm X hp' ids w (u++hp') ids' w
def Ga (nx q:Nat) (rds:List Nm) (u:Hp):Bool:=u.all λp=>(Nat.ble nx p.1.base&&Nat.blt p.1.base (nx+q))||rds.any λk=>k==p.1.key
theorem lZ.nil (P:Program) (nx:Nat) (hp:Hp):lZ P nx 0 [] hp []:=λX ids w hp' _ _ h _ _=>⟨ids,h,km.refl _ _ _ _⟩
theorem lZ.trans {P:Program} {nx q1 q2:Nat} {r1 r2:List Nm} {hp u1 u2:Hp} (g1:lZ P nx q1 r1 hp u1) (hk:(u1.all λp=>Nat.blt p.1.base (nx+q1))=true) (g2:lZ P (nx+q1) q2 r2 (u1++hp) u2):lZ P nx (q1+q2) (r1++r2) hp (u2++u1):=by
 intro X ids w hp' hP hm h hr hf;obtain ⟨GF,a1,a2⟩:=g1 X ids w hp' hP hm h (λk hk=>hr k (lJ _ hk)) (λk hk1 hk2=>hf k hk1 (by omega));obtain ⟨ids2,b1,b2⟩:=g2 X GF w (u1++hp') hP (by omega) a1 (λk hk=>qO λ_=>hr k (jE _ hk)) (λk hk1 hk2=>by
  have:k.key∉u1.map (·.1.key):=λhmem=>by
   obtain ⟨p,hp1,he⟩:=fM.1 hmem;have h3:=dQ.1 hk p hp1;rw [kD] at h3;have:=dJ Nm.base he;simp only [Nm.key_base] at this;omega
  rw [ja this];exact hf k (by omega) (by omega))
 rw [←fL] at b1 b2;exact ⟨ids2,b1,lj a2 b2⟩
theorem lZ.cat {P:Program} {nx q1 q2 q:Nat} {r1 r2 r:List Nm} {hp u1 u2 u:Hp} (g1:lZ P nx q1 r1 hp u1) (g2:lZ P (nx+q1) q2 r2 (u1++hp) u2) (hk:(u1.all λp=>Nat.blt p.1.base (nx+q1))=true) (hq:q=q1+q2) (hr:r=r1++r2) (hu:u=u2++u1):lZ P nx q r hp u:=by
 subst hq;subst hr;subst hu;exact g1.trans hk g2
theorem zq.of {P:Program} {m nx q:Nat} {rds:List Nm} {hp u:Hp} {fr:Fr} (g:lZ P nx q rds hp u) (hk:(u.all λp=>Nat.blt p.1.base (nx+q))=true):zq P m fr hp nx fr (u++hp) (nx+q):=by
 intro X N a w hP hm ⟨ids,hH,hF,hN,hD⟩;obtain ⟨ids',h1,h2⟩:=g X ids w hp hP hH.m_le hH.toHeapC (λ_ _=>rfl) (λk hk _=>hH.fresh k hk);refine ⟨ids',⟨h1,λk hk'=>?_,l0 hH.m_le (uF _ _)⟩,λd=>(hF d).mono h2,hN,hD⟩;rw [ja]
 ·exact hH.fresh k (by omega)
 ·intro hm;obtain ⟨p,hp1,hpk⟩:=fM.1 hm;have:=dQ.1 hk p hp1;rw [kD] at this;have hb:p.1.base=k.base:=by rw [←Nm.key_base,hpk,Nm.key_base]
  omega
section run
variable {P:Program} {m N:Nat} {Q:g9} {fr:Fr} {hp:Hp} {nx:Nat} {ops:Array Oper}
theorem Gb {o:Oper} {e:dw} {u:Hp} {q:Nat} {r2:List Nm} (h:nV P o fr hp nx (tA e)) (hle:nx<=e.nx) (g:lZ P e.nx q r2 (e.upd++hp) u) (hk:Ga e.nx q r2 u=true) (hb:∀ k∈r2,(k∈e.upd.map (·.1.key))\/bW hp k≠.unborn) (hkk:∀ k∈r2,k.key=k)
  (hlt:∀ p∈e.upd,p.1.base<e.nx) (r2e:List Nm) (hsub:∀ k∈r2,k∈e.upd.map (·.1.key)\/k∈r2e) :
  nV P o fr hp nx (tA ⟨e.val,u++e.upd,e.nx+q,e.rds++r2e⟩):=by
 intro X ids w fr' hp' a hP h1 h2 h3 h4 h5 h6 KK Q hK;obtain ⟨h7,h8⟩:=h6 _ _ _ _ ⟨rfl,rfl,rfl,rfl⟩;simp only at h7 h8;refine h X ids w fr' hp' a hP h1 h2 h3 h4 h5 (λv u' n r he=>?_) KK Q (λv u' n r x w' ids' he hu k1 k2 k3=>?_)
 ·obtain ⟨rfl,rfl,rfl,rfl⟩:=he;exact ⟨λk a b=>h7 k a (by omega),λk hk=>h8 k (lJ _ hk)⟩
 ·obtain ⟨rfl,rfl,rfl,rfl⟩:=he;have hag:∀ k:Nm,k.key∈r2->bW (e.upd++hp') k=bW (e.upd++hp) k:=λk hk=>qO λhn=>by
   rcases hsub _ hk with h9|h9
   ·exact absurd h9 hn
   ·exact h8 k (jE _ h9)
  obtain ⟨ids2,d1,d2⟩:=g X ids' w' (e.upd++hp') hP (by omega) k1 hag (λk a b=>by
   have:k.key∉e.upd.map (·.1.key):=λhmem=>by
    obtain ⟨p,hp1,he⟩:=fM.1 hmem;have h3:=hlt p hp1;have:=dJ Nm.base he;simp only [Nm.key_base] at this;omega
   rw [ja this];exact h7 k (by omega) (by omega))
  rw [←fL] at d1 d2;refine hK e.val (u++e.upd) (e.nx+q) (e.rds++r2e) x w' ids2 ⟨rfl,rfl,rfl,rfl⟩ ⟨by omega,λp hp1=>?_⟩ d1 (lj k2 d2) (k3.mono d2);rcases gA.1 hp1 with hp1|hp1
  ·have:=dQ.1 hk p hp1;simp only [kW,cT,nc,jB] at this;rcases this with ⟨c1,c2⟩|⟨k,c1,c2⟩
   ·have:=cW c1;rw [kD] at c2;exact .inl ⟨by omega,c2⟩
   ·subst c2;rcases hsub _ c1 with h9|h9
    ·obtain ⟨p2,hp2,he2⟩:=fM.1 h9;rcases hu.keys p2 hp2 with ⟨f1,f2⟩|⟨f1,f2⟩
     ·have:=dJ Nm.base he2;simp only [Nm.key_base] at this;exact .inl ⟨by omega,by omega⟩
     ·rw [he2] at f1 f2;exact .inr ⟨lJ _ f1,f2⟩
    ·rcases hb _ c1 with h10|h10
     ·obtain ⟨p2,hp2,he2⟩:=fM.1 h10;rcases hu.keys p2 hp2 with ⟨f1,f2⟩|⟨f1,f2⟩
      ·have:=dJ Nm.base he2;simp only [Nm.key_base] at this;exact .inl ⟨by omega,by omega⟩
      ·rw [he2] at f1 f2;exact .inr ⟨lJ _ f1,f2⟩
     ·exact .inr ⟨jE _ h9,_,by rw [hkk _ c1],h10⟩
  ·rcases hu.keys p hp1 with ⟨f1,f2⟩|⟨f1,f2⟩
   ·exact .inl ⟨f1,by omega⟩
   ·exact .inr ⟨lJ _ f1,f2⟩
theorem KD {o:Oper} {s:Prop} {e:dw} (hop:kH P true fr hp nx o.type o.op = .ok s e) (hs:s):nV P o fr hp nx (tA e):=by
 obtain ⟨k1,k2⟩:=yk hop;refine λX ids w fr' hp' a hP h1 h2 h3 h4 h5 h6 KK Q hK=>?_
 subst hP;obtain ⟨_,hag⟩:=h6 _ _ _ _ ⟨rfl,rfl,rfl,rfl⟩;have hop':=pX hop h4 hag;obtain ⟨x,w',ids',g1,g2,g3,g4⟩:=uO (X:=X) ⟨h1,h5,h2⟩ h3 (g:=true) rfl hop' hs;exact mV g1 (hK _ _ _ _ _ _ _ ⟨rfl,rfl,rfl,rfl⟩ ⟨k1,λp hp1=>(k2 p hp1).imp (λhh=>by rw [hh.1];simp;omega) id⟩ g2 g3 g4)
def BQ:cp->Bool
 | .unborn=>false
 | _=>true
theorem xn {d:Bool} {l:List Oper} {acc:List fV} {K:Fr->Hp->Nat->Prop} (dst:Option Tmp) (r:eV) (e:dw) (u:Hp) (q:Nat) (r2 r2e:List Nm) (hc:(sW P ops fr l).map (λo=>(o.dst,kH P true fr hp nx o.type o.op,uR o.op))=some (dst,r,true)) (hob:gI r e) (g:lZ P e.nx q r2 (e.upd++hp) u)
  (hk:(Ga e.nx q r2 u,Nat.ble nx e.nx,r2.all (λk=>k.key==k),e.upd.all (λp=>Nat.blt p.1.base e.nx),r2.all (λk=>(e.upd.any λp=>p.1.key==k)||r2e.any λj=>j==k),r2e.all (λk=>BQ (bW hp k)))=(true,true,true,true,true,true))
  (h:dZ P d ops (l.drop 1) (gp dst e.val fr) (u++e.upd++hp) (bif d then e.nx+q+1 else e.nx+q) (acc++[⟨(u++e.upd).map (·.1.key),e.rds++r2e,nx,e.nx+q⟩]) K):dZ P d ops l fr hp nx acc K:=by
 obtain ⟨o,ho,hh⟩:=mn.1 hc;simp only [gX] at hh hk;obtain ⟨rfl,hop,hso⟩:=hh;obtain ⟨s,rfl,hs⟩:=yr hob;obtain ⟨k1,k2,k3,k4,k5,k6⟩:=hk;have hb:∀ k∈r2e,bW hp k≠.unborn:=λk hk e=>by have:=dQ.1 k6 k hk;rw [e] at this;cases this
 simp only [dQ,kW,nc,jB,kD] at k3 k4 k5;have hle:=cW k2;have hsub:∀ k∈r2,k∈e.upd.map (·.1.key)\/k∈r2e:=λk hk=>(k5 k hk).imp (λ⟨p,hp,he⟩=>fM.2 ⟨p,hp,he⟩) (λ⟨j,hj,he⟩=>he▸hj);exact xl o ⟨e.val,u++e.upd,e.nx+q,e.rds++r2e⟩ ho (by simp only;omega) hso (Gb (KD hop hs) hle g k1 (λk hk=>(hsub k hk).imp id (hb k)) k3 k4 r2e hsub) h
end run
end
section
open Go.RowKit
variable {α β:Type}
inductive DL where
 | p (s:SV)
 | o (e:TypeId) (n:Nat) (cs:List SV)
def DL.flat:DL->SV
 | .p s=>s
 | .o _ n cs=>.sl n cs
def DL.ok:DL->Bool
 | .p (.v x)=>x.oneCell'
 | .p (.sl _ cs)=>iq cs
 | .p _=>false
 | .o _ _ cs=>iq cs
def oZ:List DL->List (TypeId×Nat×List SV)
 | []=>[]
 | .p _::r=>oZ r
 | .o e n cs::r=>(e,n,cs)::oZ r
def CY:List (TypeId×Nat×List SV)->Prop
 | []=>True
 | t::r=>(t.2.1=0->t.2.2=[])/\CY r
theorem CY.mem:∀ {l:List (TypeId×Nat×List SV)},CY l->∀ t∈l,t.2.1=0->t.2.2=[]
 | [],_,t,h=>by cases h
 | a::r,h,t,ht=>by
  rcases ff.1 ht with rfl|ht
  ·exact h.1
  ·exact CY.mem h.2 t ht
structure DE (α:Type) [bZ α] where
 dl:α->List DL
 no:Nat
 flat:∀ a,(dl a).map DL.flat=bZ.cells a
 num:∀ a,(oZ (dl a)).length=no
 dfl:(oZ (dl default)).map (·.2)=List.replicate no (0,[])
 ok:∀ a,(dl a).all DL.ok=true
 wi:∀ a,CY (oZ (dl a))
def EY:Option Nm->Nat->SV
 | some k,n=>.own k 0 n
 | none,_=>.v (.slice none 0 0)
def ul (N:Nat->Option Nm):Nat->List DL->List SV
 | _,[]=>[]
 | j,.p s::r=>s::ul N j r
 | j,.o _ n _::r=>EY (N j) n::ul N (j+1) r
theorem wZ {N N':Nat->Option Nm}:∀ (l:List DL) (j:Nat),(∀ q,j<=q->q<j+(oZ l).length->N q=N' q)->ul N j l=ul N' j l
 | [],_,_=>rfl
 | .p s::r,j,h=>by simp only [ul];rw [wZ r j h]
 | .o e n cs::r,j,h=>by
  simp only [ul]
  simp only [oZ,gy] at h
  rw [h j (cF _) (by omega),wZ r (j+1) λq a b=>h q (by omega) (by omega)]
variable [bZ α]
theorem DE.len (D:DE α) (a:α):(D.dl a).length=bZ.sz α:=by
 rw [←bZ.len a,←D.flat a,eD]
def um (D:DE α) (N:Nat->Int->Option Nm):Nat->List α->List SV
 | _,[]=>[]
 | b,x::xs=>ul (λj=>N j (b:Nat)) 0 (D.dl x)++um D N (b+1) xs
def nF (Fs:List Nat) (j:Nat) (i:Int):Option Nm:=some (.s (Fs.getD j 0) i)
def EZ (D:DE α) (Fs:List Nat) (xs:List α):List SV:=um D (nF Fs) 0 xs
def CZ (D:DE α) (j:Nat) (a:α):cp:=match (oZ (D.dl a))[j]? with
 | some t=>.row t.1 t.2.2
 | none=>.dead
def HD (xs:List α) (i:Int):α:=bif decide (0<=i) then ix xs i else default
def nY (D:DE α) (j:Nat) (xs:List α):Int->cp:=λi=>CZ D j (HD xs i)
theorem HE (D:DE α) (j:Nat) (a:α) (g:Int->cp) (i:Int) (h:g i=CZ D j a):(cp.fam g).at i=CZ D j a:=by
 simp only [cp.at,h];unfold CZ;split
 ·rename_i h2;split at h2<;>cases h2
 ·rename_i h2;split at h2<;>cases h2
 ·rfl
theorem E0 (D:DE α) (j:Nat) (xs:List α) (i:Int):(cp.fam (nY D j xs)).at i=nY D j xs i:=HE D j (HD xs i) _ i rfl
theorem KE (D:DE α) {j:Nat} (hj:j<D.no) (a:α):∃ e n cs,(oZ (D.dl a))[j]? = some (e,n,cs)/\CZ D j a = .row e cs:=by
 have h:j<(oZ (D.dl a)).length:=by rw [D.num];exact hj
 refine ⟨_,_,_,dz h,?_⟩;unfold CZ;rw [dz h];rfl
theorem Bm (D:DE α) {N N':Nat->Int->Option Nm}:∀ (xs:List α) (b:Nat),(∀ j (i:Nat),j<D.no->b<=i->i<b+xs.length->N j i=N' j i)->um D N b xs=um D N' b xs
 | [],_,_=>rfl
 | x::xs,b,h=>by
  simp only [gy] at h
  rw [um,um,Bm D xs (b+1) λj i hj h1 h2=>h j i hj (by omega) (by omega),wZ (N:=λj=>N j (b:Nat)) (N':=λj=>N' j (b:Nat)) (D.dl x) 0 λq _ hq=>h q b (by rw [D.num] at hq;omega) (cF _) (by omega)]
def Pw (Q:SV->SV->Prop):List SV->List SV->Prop
 | [],[]=>True
 | x::xs,y::ys=>Q x y/\Pw Q xs ys
 | _,_=>False
theorem Pw.app {Q:SV->SV->Prop}:∀ {xs ys zs ws:List SV},Pw Q xs ys->Pw Q zs ws->Pw Q (xs++zs) (ys++ws)
 | [],[],_,_,_,h=>h
 | a::xs,b::ys,_,_,h,g=>⟨h.1,Pw.app h.2 g⟩
 | [],_::_,_,_,h,_=>h.elim
 | _::_,[],_,_,h,_=>h.elim
theorem Pw.get {Q:SV->SV->Prop}:∀ {xs ys:List SV},Pw Q xs ys->ys.length=xs.length/\∀ (i:Nat) (x y:SV),xs[i]? = some x->ys[i]? = some y->Q x y
 | [],[],_=>⟨rfl,λi x y h=>by simp at h⟩
 | a::xs,b::ys,h=>by
  obtain ⟨h1,h2⟩:=Pw.get h.2
  refine ⟨by simp [h1],λi x y hx hy=>?_⟩
  cases i with
  | zero=>simp at hx hy;subst hx;subst hy;exact h.1
  | succ i=>exact h2 i x y (by simpa using hx) (by simpa using hy)
 | [],_::_,h=>h.elim
 | _::_,[],h=>h.elim
theorem C7 {Q:SV->SV->Prop} {N N':Nat->Option Nm}:∀ (l:List DL) (j:Nat),(∀ s,DL.p s∈l->Q s s)->(∀ q t,(oZ l)[q]? = some t->Q (EY (N (j+q)) t.2.1) (EY (N' (j+q)) t.2.1))->Pw Q (ul N j l) (ul N' j l)
 | [],_,_,_=>trivial
 | .p s::r,j,hp,h=>⟨hp s (by simp),C7 r j (λs hs=>hp s (by simp [hs])) h⟩
 | .o e n cs::r,j,hp,h=>⟨h 0 (e,n,cs) rfl,C7 r (j+1) (λs hs=>hp s (by simp [hs])) λq t hq=>by
  have:=h (q+1) t (by simpa [oZ] using hq)
  rwa [show j+(q+1)=j+1+q from by omega] at this⟩
theorem HF (D:DE α) {Q:SV->SV->Prop} {N N':Nat->Int->Option Nm}:∀ (xs:List α) (b:Nat),(∀ x∈xs,∀ s,DL.p s∈D.dl x->Q s s)->(∀ (i q:Nat) t,i<xs.length->(oZ (D.dl (xs.getD i default)))[q]? = some t->Q (EY (N q ((b+i:Nat):Int)) t.2.1) (EY (N' q ((b+i:Nat):Int)) t.2.1))->Pw Q (um D N b xs) (um D N' b xs)
 | [],_,_,_=>trivial
 | x::xs,b,hp,h=>by
  refine Pw.app (C7 _ _ (hp x (by simp)) λq t hq=>?_) (HF D xs (b+1) (λy hy=>hp y (by simp [hy])) λi q t hi hq=>?_)
  ·rw [dm];exact h 0 q t (by simp) hq
  ·have:=h (i+1) q t (by simpa using hi) (by simpa using hq)
   rwa [show b+(i+1)=b+1+i from by omega] at this
variable {P:Program} {hp:Hp} {nx:Nat}
end
section
open Go.RowKit
variable {α β:Type} [bZ α] {P:Program} {hp:Hp} {nx:Nat}
end
section
open Go.RowKit
variable {α β:Type} [bZ α] {P:Program} {hp hp':Hp} {nx:Nat} {σ:List (Nm×Nm)} {frz:List Nm}
theorem C8:∀ {xs ys:List SV},Pw (fv hp hp' σ frz) xs ys->lP hp hp' σ frz xs ys
 | [],[],_=>by simp only [lP]
 | x::xs,y::ys,h=>by simp only [lP];exact ⟨h.1,C8 h.2⟩
 | [],_::_,h=>h.elim
 | _::_,[],h=>h.elim
theorem HG {s:SV} (h:DL.ok (.p s)=true):fv hp hp' σ frz s s:=by
 cases s<;>simp only [DL.ok] at h<;>first|cases h|skip
 ·simp only [fv]
 ·simp only [fv];exact ⟨trivial,trivial,jq h⟩
def As (hp':Hp) (σ:List (Nm×Nm)) (D:DE α) (xs:List α):Nat->List Nat->List Nat->Prop
 | j,F::Fs,F'::Fs'=>(dh σ (.s F' 0)=some (.s F 0)/\il hp' (.s F' 0) = .fam (nY D j xs))/\As hp' σ D xs (j+1) Fs Fs'
 | j,[],[]=>j=D.no
 | _,_,_=>False
theorem HH {D:DE α} {xs:List α} {j F F':Nat} {Fs Fs':List Nat}:As hp' σ D xs j (F::Fs) (F'::Fs')=((dh σ (.s F' 0)=some (.s F 0)/\il hp' (.s F' 0) = .fam (nY D j xs))/\As hp' σ D xs (j+1) Fs Fs'):=propext Iff.rfl
theorem IL {D:DE α} {xs:List α} {j:Nat} :As hp' σ D xs j [] []=(j=D.no):=propext Iff.rfl
theorem C9 {D:DE α} {xs:List α} :∀ {Fs Fs':List Nat} {j0:Nat},As hp' σ D xs j0 Fs Fs'->j0+Fs.length=D.no/\∀ j,j<Fs.length->dh σ (.s (Fs'.getD j 0) 0)=some (.s (Fs.getD j 0) 0)/\il hp' (.s (Fs'.getD j 0) 0) = .fam (nY D (j0+j) xs)
 | [],[],j0,h=>⟨h,λj hj=>by simp at hj⟩
 | F::Fs,F'::Fs',j0,h=>by
  obtain ⟨h1,h2⟩:=C9 h.2
  refine ⟨by rw [gy];omega,λj hj=>?_⟩
  cases j with
  | zero=>exact h.1
  | succ j =>
   have:=h2 j (by simpa using hj)
   rwa [show j0+1+j=j0+(j+1) from by omega] at this
 | [],_::_,_,h=>h.elim
 | _::_,[],_,h=>h.elim
theorem xV {k:Nm}:∀ {hp:Hp},il hp k≠.unborn->∃ p∈hp,p.1.key=k.key
 | [],h=>absurd rfl h
 | p::r,h=>by
  by_cases hk:p.1.key=k.key
  ·exact ⟨p,by simp,hk⟩
  ·simp only [il] at h
   rw [Nm.eqk_no hk,cj] at h
   obtain ⟨q,hq,he⟩:=xV h
   exact ⟨q,by simp [hq],he⟩
theorem nl {F:Nat} {g:Int->cp} (h:il hp (.s F 0) = .fam g) (i:Int):bW hp (.s F i)=(cp.fam g).at i:=by
 have hx:=xV (hp:=hp) (k:=.s F 0) (by rw [h];simp);rw [yv (.s F i) hx,yu (show (Nm.s F i).key=(Nm.s F 0).key from rfl),h];rfl
theorem C_ {F F':Nat} (h:dh σ (.s F' 0)=some (.s F 0)) (i:Int):dh σ (.s F' i)=some (.s F i):=by
 rw [jm σ F' i,h];rfl
theorem HI {D:DE α} {j:Nat} (hj:j<D.no) (xs:List α) (i:Int):((cp.fam (nY D j xs)).at i).live=true:=by
 rw [E0];obtain ⟨e,n,cs,_,h⟩:=KE D hj (HD xs i);unfold nY;rw [h];rfl
theorem xo {D:DE α} {Fs Fs':List Nat} {xs:List α} (h:As hp' σ D xs 0 Fs Fs'):lP hp hp' σ frz (EZ D Fs xs) (EZ D Fs' xs)=True:=by
 refine eq_true (C8 (HF D xs 0 (λx _ s hs=>HG (dQ.1 (D.ok x) _ hs)) λi q t hi hq=>?_));obtain ⟨h1,h2⟩:=C9 h;have hq':q<D.no:=by rw [←D.num (xs.getD i default)];exact (dy.1 hq).1
 obtain ⟨h3,h4⟩:=h2 q (by omega);rw [dm] at h4;simp only [nF,EY,fv];exact ⟨C_ h3 _,trivial,trivial,by rw [nl h4];exact HI hq' xs _⟩
def BR (hp:Hp) (σ:List (Nm×Nm)) (F':Nat) (g:Int->cp):Prop:=match dh σ (.s F' 0) with
 | some k=>il hp (.s k.base 0) = .fam g
 | none=>False
theorem Nu (D:DE α) (a:α):∀ t∈oZ (D.dl a),iq t.2.2=true:=by
 have gen:∀ l:List DL,l.all DL.ok=true->∀ t∈oZ l,iq t.2.2=true:=by
  intro l;induction l with
  | nil=>intro _ t ht;cases ht
  | cons a l ih =>
   intro hl t ht;simp only [mF,cT] at hl;cases a with
   | p s=>exact ih hl.2 t ht
   | o e n cs =>
    rcases ff.1 ht with rfl|ht
    ·exact hl.1
    ·exact ih hl.2 t ht
 exact gen _ (D.ok a)
theorem IM (τ:Nm->Nm) (D:DE α) (j:Nat) (xs:List α) (i:Int):ik τ (nY D j xs i)=nY D j xs i:=by
 unfold nY CZ;cases ho:(oZ (D.dl (HD xs i)))[j]? with
 | none=>rfl
 | some t =>
  simp only [ik];rw [nR (jq (Nu D _ t (pG ho)))]
theorem Au (τ:Nm->Nm) (N N':Nat->Option Nm) (h:∀ j,(N j).map τ=N' j):∀ (l:List DL) (j:Nat),l.all DL.ok=true->jx τ (ul N j l)=ul N' j l
 | [],_,_=>rfl
 | .p s::r,j,hl=>by
  simp only [mF,cT] at hl
  simp only [ul,jx,Au τ N N' h r j hl.2]
  congr 1
  refine sT ?_
  have:=hl.1
  cases s<;>simp only [DL.ok] at this<;>first|cases this|skip
  ·rfl
  ·exact jq this
 | .o e n cs::r,j,hl=>by
  simp only [mF,cT] at hl
  simp only [ul,jx,Au τ N N' h r (j+1) hl.2,←h j]
  congr 1
  cases N j<;>rfl
theorem IN (τ:Nm->Nm) (xs ys:List SV):jx τ (xs++ys)=jx τ xs++jx τ ys:=by rw [k_,k_,k_,kF]
theorem E7 (D:DE α) (τ:Nm->Nm) (N N':Nat->Int->Option Nm) (h:∀ j i,(N j i).map τ=N' j i):∀ (xs:List α) (b:Nat),jx τ (um D N b xs)=um D N' b xs
 | [],_=>rfl
 | x::xs,b=>by rw [um,um,IN,E7 D τ N N' h xs,Au τ _ _ (λj=>h j b) _ _ (D.ok x)]
def Da (σ:List (Nm×Nm)) (nx:Nat) (Fs:List Nat):List Nat:=Fs.map λF=>(gc (dh σ) nx (.s F 0)).base
def Mj (Fs:List Nat) (D:DE α):Prop:=Fs.length=D.no
theorem KF (Fs:List Nat) (D:DE α):Mj Fs D=(Fs.length=D.no):=propext Iff.rfl
theorem vc (D:DE α) (Fs:List Nat) (xs:List α) (hF:Mj Fs D):jx (gc (dh σ) nx) (EZ D Fs xs)=EZ D (Da σ nx Fs) xs:=by
 have h1:jx (gc (dh σ) nx) (EZ D Fs xs)=um D (λj i=>(nF Fs j i).map (gc (dh σ) nx)) 0 xs:=E7 D _ _ _ (λj i=>rfl) xs 0;rw [h1];refine Bm D xs 0 λj i hj _ _=>?_
 have hl:j<Fs.length:=by have:Fs.length=D.no:=hF;omega
 simp only [nF,fp,Da,dA,f5,dz hl,gZ];rw [uP (jm σ)]
def Gc (hp:Hp) (frz:List Nm) (D:DE α) (xs:List α):Nat->List Nat->Prop
 | j,F::Fs=>(qh frz (.s F 0)=true/\il hp (.s F 0) = .fam (nY D j xs))/\Gc hp frz D xs (j+1) Fs
 | j,[]=>j=D.no
theorem HJ {D:DE α} {xs:List α} {j F:Nat} {Fs:List Nat}:Gc hp frz D xs j (F::Fs)=((qh frz (.s F 0)=true/\il hp (.s F 0) = .fam (nY D j xs))/\Gc hp frz D xs (j+1) Fs):=propext Iff.rfl
theorem IP {D:DE α} {xs:List α} {j:Nat} :Gc hp frz D xs j []=(j=D.no):=propext Iff.rfl
theorem HK (d:Nm) (x:cp) (r:Hp) (t:Nm):il ((d,x)::r) t=bif d.eqk t then x else il r t:=rfl
theorem IQ (t:Nm):il [] t = .unborn:=rfl
theorem HL (σ:List (Nm×Nm)) (nx F:Nat) (Fs:List Nat):Da σ nx (F::Fs)=(gc (dh σ) nx (.s F 0)).base::Da σ nx Fs:=rfl
theorem IR (σ:List (Nm×Nm)) (nx:Nat):Da σ nx []=[]:=rfl
theorem KG (i:Int):cp.dead.at i = .dead:=rfl
attribute [push_cast] HH IL xo IM HJ IP HK IQ HL IR KG vc KF
end
section
open Go.RowKit
variable {α:Type} [bZ α] {P:Program} {hp:Hp} {nx:Nat} {fr:Fr} {ops:Array Oper}
def rS (hp:Hp) (F:Nat):Int->cp:=λj=>bW hp (.s F j)
theorem Mk (F:Nat) (i:Int) (c:cp) (hp:Hp):ec (.s F i) c hp=(.s F 0,.fam (sH (rS hp F) i c)):=rfl
theorem Ml (k:Nat) (c:cp) (r:Hp) (F:Nat):rS ((.t k,c)::r) F=rS r F:=rfl
theorem Mm (D:DE α) (j:Nat) (xs:List α) (G:Nat) (z:Int) (r:Hp) (F:Nat):rS ((.s G z,.fam (nY D j xs))::r) F=bif G==F then nY D j xs else rS r F:=by
 funext q;simp only [rS,bW,Nm.eqk];cases G==F with
 | true=>simp only [cd,cp.mem];exact E0 D j xs q
 | false=>rfl
theorem Mn (D:DE α) (j:Nat) (xs:List α) (i:Int) (G:Nat) (z:Int) (r:Hp) (F:Nat):rS ((.s G z,.fam (sH (nY D j xs) i .dead))::r) F=bif G==F then sH (nY D j xs) i .dead else rS r F:=by
 funext q;simp only [rS,bW,Nm.eqk];cases G==F with
 | true =>
  simp only [cd,cp.mem];by_cases hq:q=i
  ·subst hq;simp [cp.at,sH]
  ·have h:sH (nY D j xs) i .dead q=nY D j xs q:=by unfold sH;rw [show (q==i)=false from by simpa using hq];rfl
   rw [h];exact HE D j (HD xs q) _ q h
 | false=>rfl
theorem KH (g:Int->cp) (i:Int) (c c':cp):sH (sH g i c) i c'=sH g i c':=by
 funext q;unfold sH;cases q==i<;>rfl
theorem KI (D:DE α) (Fs:List Nat):EZ D Fs []=[]:=rfl
def Db (xs:List α):List SV:=fl xs
theorem Gd:Db ([]:List α)=[]:=rfl
theorem Er (x:α) (xs:List α):Db (x::xs)=bZ.cells x++Db xs:=rfl
theorem IS {hp hp':Hp} {σ:List (Nm×Nm)} {frz:List Nm} {k:Nm} (h:qh frz k=true/\sg (bW hp k) []):fv hp hp' σ frz (.own k 0 0) (.sl 0 [])=True:=by
 obtain ⟨h2,h3⟩:=h;refine eq_true ?_;simp only [fv];refine ⟨trivial,ot h2,?_⟩;cases hk:bW hp k with
 | row e cs =>
  rw [hk] at h3;simp only [sg] at h3;subst h3;exact ⟨e,[],0,rfl,λ_=>rfl,.inl ⟨rfl,rfl⟩⟩
 | _=>rw [hk] at h3;exact h3.elim
theorem HM (τ:Nm->Nm) (b:Bool) (x y:SV):iz τ (bif b then x else y)=bif b then iz τ x else iz τ y:=by cases b<;>rfl
theorem IT {hp hp':Hp} {σ:List (Nm×Nm)} {frz:List Nm} {b:Bool} {x y x' y':SV} (h:fv hp hp' σ frz x x'/\fv hp hp' σ frz y y'):fv hp hp' σ frz (bif b then x else y) (bif b then x' else y')=True:=by
 refine eq_true ?_;cases b with
 | true=>exact h.1
 | false=>exact h.2
theorem Es (i:Nat) (x:SV) (xs:List SV):qf i (x::xs)=(i,x)::qf (i+1) xs:=rfl
theorem Ge (i:Nat):qf i []=[]:=rfl
attribute [push_cast] IS HM IT Es Ge
attribute [push_cast] Gd Er
attribute [push_cast] Mk Ml Mm Mn KH implies_true KI
def BS (hp:Hp):List Nm->Prop
 | []=>True
 | k::ks=>BQ (bW hp k)=true/\BS hp ks
theorem BS.all {hp:Hp}:∀ {ks:List Nm},BS hp ks->ks.all (λk=>BQ (bW hp k))=true
 | [],_=>rfl
 | k::ks,h=>by rw [mF,h.1,h.2.all];rfl
theorem Dc {hp:Hp} {F:Nat} (g:Int->cp) (h:il hp (.s F 0) = .fam g):BQ (bW hp (.s F 0))=true:=by
 rw [nl h];cases hc:(cp.fam g).at 0 with
 | unborn=>exact absurd hc (xb _ _)
 | _=>rfl
theorem Dd {P:Program} {fr:Fr} {hp:Hp} {nx:Nat} {ops:Array Oper} {d:Bool} {l:List Oper} {acc:List fV} {K:Fr->Hp->Nat->Prop} (dst:Option Tmp) (r:eV) (e:dw) (u:Hp) (q:Nat) (r2 r2e:List Nm) (hc:(sW P ops fr l).map (λo=>(o.dst,kH P true fr hp nx o.type o.op,uR o.op))=some (dst,r,true)) (hob:gI r e) (g:lZ P e.nx q r2 (e.upd++hp) u)
  (hk:(Ga e.nx q r2 u,Nat.ble nx e.nx,r2.all (λk=>k.key==k),e.upd.all (λp=>Nat.blt p.1.base e.nx),r2.all (λk=>(e.upd.any λp=>p.1.key==k)||r2e.any λj=>j==k))=(true,true,true,true,true)) (hb:BS hp r2e)
  (h:dZ P d ops (l.drop 1) (gp dst e.val fr) (u++e.upd++hp) (bif d then e.nx+q+1 else e.nx+q) (acc++[⟨(u++e.upd).map (·.1.key),e.rds++r2e,nx,e.nx+q⟩]) K):dZ P d ops l fr hp nx acc K:=by
 refine xn dst r e u q r2 r2e hc hob g ?_ h;simp only [gX] at hk ⊢;obtain ⟨k1,k2,k3,k4,k5⟩:=hk;exact ⟨k1,k2,k3,k4,k5,hb.all⟩
end
section
open Go.RowKit
variable {P:Program}
theorem w3 {hp:Hp} {nx r:Nat} {e:TypeId} {cs cs':List SV} (hR:bW hp (.t r) = .row e cs) (hw:cs.map nX=cs'):lZ P nx 0 [Nm.t r] hp [(Nm.t r,.row e cs')]:=by
 intro X ids w hp' hP hm hC hag hf;have hk:bW hp' (.t r) = .row e cs:=(hag (.t r) (by simp [Nm.key])).trans hR;subst hw;have:=Ep hC hk (cs':=cs.map nX) (by simp) (λi x y v h1 h2 h3=>by
  rw [f5,h1] at h2;cases h2;exact CX h3)
 exact ⟨ids,this⟩
theorem E8 {α:Type} [bZ α] (n:Nat) (zs:List SV) (hzs:zs.map nX=bZ.cells (default:α)):((List.range n).flatMap λ_=>zs).map nX=fl (List.replicate n (default:α)):=by
 rw [←CR n (zs.map nX) hzs,List.map_flatMap]
theorem HN {α:Type} (n:Int) (e:TypeId) (B:Nat) (hB:P.bytesOf e=B) (zs:List SV) (z:Nat) (hz:zs.length=z) (hpos:0<z) (d:α) (k:0<=n/\n<=4611686018427387904/\(B:Int)*n<=140737488355328) (nx:Nat) :
  gI (.ok (0<=n/\n<=n/\n<=4611686018427387904/\(P.bytesOf e:Int)*n<=140737488355328/\zs.length=z/\0<z) ⟨.own nx 0 n.toNat,[(Nm.t nx,.row e ((List.range n.toNat).flatMap λ_=>zs))],nx+1,[]⟩) ⟨.own nx 0 (List.replicate n.toNat d).length,[(Nm.t nx,.row e ((List.range n.toNat).flatMap λ_=>zs))],nx+1,[]⟩:=by
 subst hB;exact iX ⟨k.1,iT _,k.2.1,k.2.2,hz,hpos⟩ (by rw [rx]) rfl
end
section
open Go.RowKit
variable {P:Program} {fr:Fr} {hp:Hp} {nx:Nat}
end
section
open Go.RowKit
variable {P:Program} {hp hin:Hp} {nx:Nat}
def isT:Nm->Bool
 | .t _=>true
 | _=>false
def Gf:Nat->Fr->Fr
 | 0,fr=>fr
 | _+1,[]=>[]
 | n+1,p::r=>p::(Gf n r).filter λq=>!(q.1==p.1)
def Gg:Nat->Hp->Hp
 | 0,hp=>hp
 | _+1,[]=>[]
 | n+1,p::r=>p::(Gg n r).filter λq=>!(q.1.eqk p.1)
theorem t7 (a d:Nat) (h:a≠d):∀ fr:Fr,cL (fr.filter λq=>!(q.1==a)) d=cL fr d
 | []=>rfl
 | p::r=>by
  simp only [List.filter]
  cases he:p.1==a with
  | true =>
   simp only [jk,cL]
   rw [t7 a d h r]
   have:p.1=a:=by simpa using he
   rw [show (p.1==d)=false from by simpa using λe=>h (this▸e)];rfl
  | false=>simp only [oe,cL];rw [t7 a d h r]
theorem De:∀ (n:Nat) (fr:Fr) (d:Nat),cL (Gf n fr) d=cL fr d
 | 0,fr,d=>rfl
 | n+1,[],d=>rfl
 | n+1,p::r,d=>by
  simp only [Gf,cL]
  cases he:p.1==d with
  | true=>rfl
  | false=>simp only [cj];rw [t7 p.1 d (by simpa using he),De n r d]
theorem t8 (a d:Nm) (h:a.key≠d.key):∀ hp:Hp,bW (hp.filter λq=>!(q.1.eqk a)) d=bW hp d
 | []=>rfl
 | p::r=>by
  simp only [List.filter]
  cases he:p.1.eqk a with
  | true =>
   simp only [jk,bW]
   rw [t8 a d h r]
   have:p.1.key=a.key:=Nm.eqk_iff.1 he
   rw [Nm.eqk_no (λe=>h (this▸e))];rfl
  | false=>simp only [oe,bW];rw [t8 a d h r]
theorem Df:∀ (n:Nat) (hp:Hp) (d:Nm),bW (Gg n hp) d=bW hp d
 | 0,hp,d=>rfl
 | n+1,[],d=>rfl
 | n+1,p::r,d=>by
  simp only [Gg,bW]
  cases he:p.1.eqk d with
  | true=>rfl
  | false =>
   simp only [cj]
   rw [t8 p.1 d (λe=>by rw [Nm.eqk_iff.2 e] at he;cases he),Df n r d]
theorem HO (a b:Nat) (fr:Fr) (hp:Hp):FQ fr (Gf a fr) hp (Gg b hp):=⟨λd=>.inl (De a fr d),λk=>Df b hp k⟩
end
section
open Go.RowKit
variable {P:Program} {hp:Hp} {nx:Nat}
def Bn (k:IntKind) (m:List (Int×Int)):List (Value×SV):=m.map λp=>(.int k p.1,.v (.int .i64 p.2))
theorem KJ (j:IntKind) (k a:Int):gQ (.int j k) (.int j a)=(k==a):=by simp [gQ,j9]
theorem Dg (j:IntKind) (k:Int):∀ (m:List (Int×Int)) (i:Nat),(eY (.int j k) (Bn j m) i).map (·.2)=(m.find? λp=>k==p.1).map λp=>.v (.int .i64 p.2)
 | [],i=>rfl
 | p::r,i=>by
  show (bif gQ (.int j k) (.int j p.1) then _ else eY _ (Bn j r) (i+1)).map (·.2)=_
  rw [KJ,List.find?_cons]
  cases h:k==p.1 with
  | true=>simp
  | false=>simpa using Dg j k r (i+1)
theorem HP (j:IntKind) (m:List (Int×Int)) (k:Int):gC (.int .i64 0) (.int j k) (Bn j m) = .v (.int .i64 (fY m k)):=by
 have:=Dg j k m 0;unfold gC fY;cases h:eY (.int j k) (Bn j m) 0 with
 | none=>rw [h] at this;cases hf:m.find? (λp=>k==p.1) with
  | none=>rfl
  | some p=>rw [hf] at this;simp at this
 | some q=>rw [h] at this;cases hf:m.find? (λp=>k==p.1) with
  | none=>rw [hf] at this;simp at this
  | some p=>rw [hf] at this;simp at this;simp [this]
theorem HQ (j:IntKind) (m:List (Int×Int)) (k:Int):(Bn j m).all (λp=>gM (.int j k) p.1)=true:=by simp [Bn,gM]
theorem IU (j:IntKind) (k:Int) (mm:List (Int×Int)) (kk:Nm) (nx:Nat):gI (.ok (lW (.int j) (.int j k)=true/\(Bn j mm).all (λp=>gM (.int j k) p.1)=true) ⟨gC (.int .i64 0) (.int j k) (Bn j mm),[],nx,[kk.key]⟩) ⟨.v (.int .i64 (fY mm k)),[],nx,[kk.key]⟩ :=
 iX ⟨rfl,HQ j mm k⟩ (HP j mm k) rfl
def Dh (m:List (Bool×Int)):List (Value×SV):=m.map λp=>(.bool p.1,.v (.int .i64 p.2))
def mQ (m:List (Bool×Int)) (b:Bool):Int:=((m.find? λp=>b==p.1).map (·.2)).getD 0
theorem Di (k:Bool):∀ (m:List (Bool×Int)) (i:Nat),(eY (.bool k) (Dh m) i).map (·.2)=(m.find? λp=>k==p.1).map λp=>.v (.int .i64 p.2)
 | [],i=>rfl
 | p::r,i=>by
  show (bif gQ (.bool k) (.bool p.1) then _ else eY _ (Dh r) (i+1)).map (·.2)=_
  rw [List.find?_cons]
  simp only [gQ,j9]
  cases h:k==p.1 with
  | true=>simp
  | false=>simpa using Di k r (i+1)
theorem HR (m:List (Bool×Int)) (k:Bool):gC (.int .i64 0) (.bool k) (Dh m) = .v (.int .i64 (mQ m k)):=by
 have:=Di k m 0;unfold gC mQ;cases h:eY (.bool k) (Dh m) 0 with
 | none=>rw [h] at this;cases hf:m.find? (λp=>k==p.1) with
  | none=>rfl
  | some p=>rw [hf] at this;simp at this
 | some q=>rw [h] at this;cases hf:m.find? (λp=>k==p.1) with
  | none=>rw [hf] at this;simp at this
  | some p=>rw [hf] at this;simp at this;simp [this]
theorem Dj (b:Bool) (mm:List (Bool×Int)) (kk:Nm) (nx:Nat):gI (.ok (lW .bool (.bool b)=true/\(Dh mm).all (λp=>gM (.bool b) p.1)=true) ⟨gC (.int .i64 0) (.bool b) (Dh mm),[],nx,[kk.key]⟩) ⟨.v (.int .i64 (mQ mm b)),[],nx,[kk.key]⟩ :=
 iX ⟨rfl,by simp [Dh,gM]⟩ (HR mm b) rfl
theorem nT (d:TypeDesc) (kv:Value) (v:SV) (es es':List (Value×SV)) (kk nx:Nat) (h1:lW d kv=true) (h2:es.all (λp=>gM kv p.1)=true) (h3:ll kv v es=es'):gI (.ok (lW d kv=true/\es.all (λp=>gM kv p.1)=true) ⟨.any,[(Nm.t kk,.map (ll kv v es))],nx,[Nm.t kk]⟩) ⟨.any,[(Nm.t kk,.map es')],nx,[Nm.t kk]⟩ :=
 iX ⟨h1,h2⟩ rfl (by rw [h3])
structure dn (n:Nat) where
 l:List Int
 h:l.length=n
variable {n:Nat}
theorem dn.ext:∀ {a b:dn n},a.l=b.l->a=b
 | ⟨_,_⟩,⟨_,_⟩,h=>by simp only at h;subst h;rfl
instance : DecidableEq (dn n):=λa b=>if h:a.l=b.l then .isTrue (dn.ext h) else .isFalse λe=>h (e▸rfl)
instance : Inhabited (dn n):=⟨⟨List.replicate n 0,by simp⟩⟩
def dn.get (a:dn n) (i:Int):Int:=a.l.getD i.toNat 0
def dn.set (a:dn n) (i v:Int):dn n:=⟨a.l.set i.toNat v,by rw [cr];exact a.h⟩
def dn.cells (a:dn n):List SV:=(List.range n).map λk=>.v (.int .i64 (a.l.getD k 0))
theorem dn.cells_fl (a:dn n):a.cells=a.l.map λx=>.v (.int .i64 x):=by
 refine List.ext_getElem (by simp [dn.cells,a.h]) λi h1 h2=>?_
 simp only [dn.cells,pO,List.getElem_range,eD] at h2 ⊢;rw [dA,dz h2];rfl
theorem dn.st (a:dn n):iq a.cells=true:=by
 rw [dn.cells_fl];induction a.l with
 | nil=>rfl
 | cons x l ih=>simpa [iq,SV.st] using ih
instance : bZ (dn n):=⟨n,dn.cells,λa=>by simp [dn.cells],λa=>by simp [dn.cells,jl,Value.oneCell'],dn.st⟩
theorem dn.len (a:dn n):(bZ.cells a).length=n:=bZ.len a
theorem dn.at (a:dn n) (e:Int) (k:0<=e/\e<(n:Int)) (d:SV):(bZ.cells a).getD e.toNat d = .v (.int .i64 (a.get e)):=by
 show a.cells.getD e.toNat d=_;have hl:e.toNat<a.cells.length:=by have:=dn.len a;show _<(bZ.cells a).length;omega
 rw [dA,dz hl];simp only [dn.cells,pO,List.getElem_range];rfl
theorem dn.put (a:dn n) (e v:Int) (k:0<=e/\e<(n:Int)):(bZ.cells a).set e.toNat (.v (.int .i64 v))=bZ.cells (a.set e v):=by
 show a.cells.set _ _=(a.set e v).cells;rw [dn.cells_fl,dn.cells_fl];simp only [dn.set,List.map_set]
theorem gV (kk:Nm) (off len z:Nat) (e:Int) (nx:Nat) (k:0<=e/\e<(len:Int)):gI (.ok (0<=e/\e<(len:Int)) ⟨.ptr kk (off+e.toNat*z),[],nx,[]⟩) ⟨.ptr kk (off+e.toNat*z),[],nx,[]⟩:=iX k rfl rfl
theorem jN (pre post:List SV) (a:dn n) (e:Int) (o:Nat) (k:0<=e/\e<(n:Int)) (ho:o=pre.length+e.toNat*1) (d:SV) (nx:Nat) (rds:List Nm) :
  gI (.ok (o<(pre++(bZ.cells a++post)).length) ⟨(pre++(bZ.cells a++post)).getD o d,[],nx,rds⟩) ⟨.v (.int .i64 (a.get e)),[],nx,rds⟩:=by
 have hl:=dn.len a;rw [pP] at ho;refine iX (by simp only [ea,hl];omega) ?_ rfl;rw [ho,dA,jA (by omega),xY,iP (by omega),←dA];exact dn.at a e k d
theorem Gh (cs:List SV) (o:Nat) (x:SV):fU cs o [x]=cs.set o x:=rfl
theorem lp (pre post:List SV) (a:dn n) (e v:Int) (o:Nat) (k:0<=e/\e<(n:Int)) (ho:o=pre.length+e.toNat*1):fU (pre++(bZ.cells a++post)) o [.v (.int .i64 v)]=pre++(bZ.cells (a.set e v)++post):=by
 have hl:=dn.len a;rw [pP] at ho;rw [Gh,ho,List.set_append_right _ _ (by omega),xY,List.set_append_left _ _ (by omega),dn.put a e v k]
theorem Mo (pre post:List SV) (a:dn n) (e v:Int) (o:Nat) (k:0<=e/\e<(n:Int)) (ho:o=pre.length+e.toNat*1) (kk:Nat) (nx et t:Nat) (hs:jH P t=some 1) :
  gI (.ok (jH P t=some 1/\true=true/\o+1<=(pre++(bZ.cells a++post)).length) ⟨.any,[(Nm.t kk,.row et (fU (pre++(bZ.cells a++post)) o [.v (.int .i64 v)]))],nx,[Nm.t kk]⟩) ⟨.any,[(Nm.t kk,.row et (pre++(bZ.cells (a.set e v)++post)))],nx,[Nm.t kk]⟩:=by
 have hl:=dn.len a;refine iX ⟨hs,rfl,?_⟩ rfl ?_
 ·simp only [ea,hl];omega
 ·rw [lp pre post a e v o k ho]
theorem E9 {hp hp':Hp} {σ:List (Nm×Nm)} {frz:List Nm} (a:dn n) (xs ys:List SV):lP hp hp' σ frz (bZ.cells a++xs) (bZ.cells a++ys)=lP hp hp' σ frz xs ys:=by
 refine propext ?_;show lP hp hp' σ frz (a.cells++xs) (a.cells++ys)↔_;rw [dn.cells_fl];induction a.l with
 | nil=>exact Iff.rfl
 | cons x l ih =>
  simp only [gz,iy,lP];rw [ih];simp only [fv,true_and]
theorem IV (τ:Nm->Nm) (a:dn n) (xs:List SV):jx τ (bZ.cells a++xs)=bZ.cells a++jx τ xs:=by
 show jx τ (a.cells++xs)=a.cells++_;rw [dn.cells_fl];induction a.l with
 | nil=>rfl
 | cons x l ih=>simp only [gz,iy,jx,iz,ih]
theorem E_ (a:dn n) (xs:List SV):iq (bZ.cells a++xs)=iq xs:=by
 show iq (a.cells++xs)=_;rw [dn.cells_fl];induction a.l with
 | nil=>rfl
 | cons x l ih=>simpa [iq,SV.st] using ih
theorem KL (a:dn n) (xs:List SV):mK (bZ.cells a++xs)=mK xs:=by
 show mK (a.cells++xs)=_;rw [dn.cells_fl];induction a.l with
 | nil=>rfl
 | cons x l ih=>simpa [mK,SV.cl] using ih
theorem yx (a:dn n) (xs:List SV):iU (bZ.cells a++xs)=iU xs:=by
 show iU (a.cells++xs)=_;rw [dn.cells_fl];induction a.l with
 | nil=>rfl
 | cons x l ih=>simpa [iU,SV.nim] using ih
theorem IW (xs:List (dn n)):iU (fl xs)=true:=mX (λa=>by have:=yx a [];simpa [iU] using this) xs
theorem KM:bZ.sz (dn n)=n:=rfl
theorem IX (a:dn n):iq (bZ.cells a)=true:=bZ.stc a
theorem Dk (a:dn n):mK (bZ.cells a)=true:=jq (bZ.stc a)
theorem HS (τ:Nm->Nm) (a:dn n):jx τ (bZ.cells a)=bZ.cells a:=nR (Dk a)
theorem HT (a:dn n):iU (bZ.cells a)=true:=by have:=yx a [];simpa [iU] using this
theorem IY {hp hp':Hp} {σ:List (Nm×Nm)} {frz:List Nm} (a:dn n):lP hp hp' σ frz (bZ.cells a) (bZ.cells a)=True:=by
 have:=E9 (hp:=hp) (hp':=hp') (σ:=σ) (frz:=frz) a [] [];simp only [jo,lP] at this;exact this
attribute [push_cast] E9 IV E_ KL yx IW KM IX Dk HS HT IY
def dn.c0 (a:dn n):Int:=a.l.getD 0 0
def dn.c1 (a:dn n):Int:=a.l.getD 1 0
def dn.c2 (a:dn n):Int:=a.l.getD 2 0
def dn.c3 (a:dn n):Int:=a.l.getD 3 0
def dn.c4 (a:dn n):Int:=a.l.getD 4 0
def dn.c5 (a:dn n):Int:=a.l.getD 5 0
def dn.c6 (a:dn n):Int:=a.l.getD 6 0
def dn.c8 (a:dn n):Int:=a.l.getD 8 0
def dn.c9 (a:dn n):Int:=a.l.getD 9 0
def dn.c10 (a:dn n):Int:=a.l.getD 10 0
def dn.c11 (a:dn n):Int:=a.l.getD 11 0
end
section
open Go.RowKit
variable {α β:Type} [bZ α] {P:Program} {hp hp':Hp} {nx:Nat} {σ:List (Nm×Nm)} {frz:List Nm}
def cB (F n:Nat):List SV:=(List.range n).map λ(i:Nat)=>SV.ptr (.s F ((i:Nat):Int)) 0
def cu (t:TypeId) (xs:List α):Int->cp:=λi=>bif decide (0<=i/\i<(xs.length:Int)) then .row t (bZ.cells (ix xs i)) else .void
theorem jO (F n:Nat):(cB F n).length=n:=by simp [cB]
theorem dN {t:TypeId} {xs:List α} {i:Int} (k:0<=i/\i<(xs.length:Int)):cu t xs i = .row t (bZ.cells (ix xs i)):=by
 unfold cu;rw [cH k];rfl
theorem lc {t:TypeId} {xs:List α} {i:Int} (k:¬ (0<=i/\i<(xs.length:Int))):cu t xs i = .void:=by
 unfold cu;rw [cK k];rfl
theorem lG (t:TypeId) (xs:List α) (i:Int):(cp.fam (cu t xs)).at i=cu t xs i:=by
 simp only [cp.at];by_cases k:0<=i/\i<(xs.length:Int)
 ·rw [dN k]
 ·rw [lc k]
theorem yy {t:TypeId} {xs:List α} {i:Int} (k:0<=i/\i<(xs.length:Int)):(cp.fam (cu t xs)).at i = .row t (bZ.cells (ix xs i)):=(lG t xs i).trans (dN k)
theorem IZ {t:TypeId} {xs:List α} {i:Int} (k:0<=i/\i<(xs.length:Int)) (y:α):sH (λq=>(cp.fam (cu t xs)).at q) i (.row t (bZ.cells y))=cu t (xs.set i.toNat y):=by
 funext q;unfold sH;by_cases hq:q=i
 ·subst hq;have k':0<=q/\q<(((xs.set q.toNat y).length:Nat):Int):=by rw [cr];exact k
  rw [dN k'];have:ix (xs.set q.toNat y) q=y:=by unfold ix;rw [dA,List.getElem?_set_self (by omega)];rfl
  simp only [this,oG,cd]
 ·rw [show (q==i)=false from by simpa using hq,cj];show (cp.fam (cu t xs)).at q=_;rw [lG];by_cases kq:0<=q/\q<(xs.length:Int)
  ·rw [dN kq,dN (xs:=xs.set i.toNat y) (by rw [cr];exact kq)];have:ix (xs.set i.toNat y) q=ix xs q:=by unfold ix;rw [dA,dA,List.getElem?_set_ne (by omega)]
   rw [this]
  ·rw [lc kq,lc (xs:=xs.set i.toNat y) (by rw [cr];exact kq)]
theorem d8 (t:TypeId) (xs:List α) (i:Int) (k:0<=i/\i<(xs.length:Int)) (ty:TypeId) (off nx:Nat) (rds:List Nm) {e:dw} (h:gI (ku P ty (bZ.cells (ix xs i)) off rds nx) e) :
  gI (oW ((cp.fam (cu t xs)).at i) λ_ cs=>ku P ty cs off rds nx) e:=by
 rw [yy k];exact h
theorem ka {x:α} {ty:TypeId} {off nx:Nat} {rds:List Nm} (ht:tS P ty=some false) (hj:off<bZ.sz α) {v:SV} (hv:(bZ.cells x).getD off (fi P ty)=v):gI (ku P ty (bZ.cells x) off rds nx) ⟨v,[],nx,rds⟩:=by
 unfold ku;rw [ht];exact iX (by rw [bZ.len];exact hj) hv rfl
theorem w4 {x:α} {ty:TypeId} {off nx n:Nat} {rds:List Nm} (ht:tS P ty=some true) (hn:jH P ty=some n) (hj:off+n<=bZ.sz α) {v:List SV} (hv:((bZ.cells x).drop off).take n=v):gI (ku P ty (bZ.cells x) off rds nx) ⟨.agg v,[],nx,rds⟩:=by
 unfold ku;rw [ht,hn];exact iX (by rw [bZ.len];exact hj) (by rw [hv]) rfl
theorem gF (ty:TypeId) (xs:List α) (i:Int) (k:0<=i/\i<(xs.length:Int)) (off:Nat) (vs:List SV) (y:α) (hj:off+vs.length<=bZ.sz α) (hy:fU (bZ.cells (ix xs i)) off vs=bZ.cells y) (F nx t:Nat) (hs:jH P t=some vs.length) (h1:vs.all jl=true) :
  gI (oW ((cp.fam (cu ty xs)).at i) λe cs=>.ok (jH P t=some vs.length/\vs.all jl=true/\off+vs.length<=cs.length) ⟨.any,[(Nm.s F 0,.fam (sH (λq=>(cp.fam (cu ty xs)).at q) i (.row e (fU cs off vs))))],nx,[Nm.s F 0]⟩) ⟨.any,[(Nm.s F 0,.fam (cu ty (xs.set i.toNat y)))],nx,[Nm.s F 0]⟩:=by
 rw [yy k];refine iX ⟨hs,h1,by rw [bZ.len];exact hj⟩ rfl ?_;rw [hy,IZ k]
structure pt (C C':Nm->cp) (Q K R:Nm):Prop where
 vd:C Q = .void
 kl:(C K).live=true
 q:C' Q=C K
 k:C' K = .dead
 oth:∀ j,j≠Q->j≠K->j≠R->C' j=C j
 kr:K≠R
 row:(∃ e cs cs',C R = .row e cs/\C' R = .row e cs'/\cs'.length=cs.length/\∀ (i:Nat) (x y:SV),cs[i]? = some x->cs'[i]? = some y->x=y\/(x = .ptr K 0/\y = .ptr Q 0)) \/
 ∃es es',C R = .map es/\C' R = .map es'/\es'.length=es.length/\∀ (i:Nat) (x y:Value×SV),es[i]? = some x->es'[i]? = some y->x.1=y.1/\(x.2=y.2\/(x.2 = .ptr K 0/\y.2 = .ptr Q 0))
section sem
variable {w0:World} {I0 W0:Nat->Prop} {C C':Nm->cp} {Q K R:Nm} {ids:dD} {w:World}
theorem pt.liveR (hh:pt C C' Q K R):(C R).live=true/\(C' R).live=true:=by
 rcases hh.row with ⟨e,cs,cs',h1,h2,_⟩|⟨es,es',h1,h2,_⟩<;>(rw [h1,h2];exact ⟨rfl,rfl⟩)
theorem pt.old (hh:pt C C' Q K R) {j:Nm} {b o:Nat} (hl:(C' j).live=true) (hi:upd ids Q (ids K) j=some (b,o)) :
 ∃k0,(C k0).live=true/\ids k0=some (b,o)/\((j≠Q/\k0=j/\j≠K)\/(j=Q/\k0=K)):=by
 by_cases hQ:j=Q
 ·subst hQ;rw [cG] at hi;exact ⟨K,hh.kl,hi,.inr ⟨rfl,rfl⟩⟩
 ·rw [dO _ _ hQ] at hi;by_cases hK:j=K
  ·subst hK;rw [hh.k] at hl;cases hl
  by_cases hR:j=R
  ·subst hR;exact ⟨j,hh.liveR.1,hi,.inl ⟨hQ,rfl,hK⟩⟩
  ·rw [hh.oth j hQ hK hR] at hl;exact ⟨j,hl,hi,.inl ⟨hQ,rfl,hK⟩⟩
theorem pt.ext (h:lB P w0 I0 W0 C ids w) (hh:pt C C' Q K R):km C ids (Im w0 I0 W0 C ids w) w C' (upd ids Q (ids K)) (Im w0 I0 W0 C' (upd ids Q (ids K)) w) w:=by
 refine ⟨λb hb=>⟨⟨hb.1,hb.2.1,λk hk o hi=>?_⟩,rfl⟩,λj hj=>?_,λj hj=>?_⟩
 ·obtain ⟨k0,h1,h2,_⟩:=hh.old hk hi;exact hb.2.2 k0 h1 o h2
 ·have hQ:j≠Q:=λe=>by rw [e,hh.vd] at hj;cases hj
  have hK:j≠K:=λe=>by have:=hh.kl;rw [←e,hj] at this;cases this
  have hR:j≠R:=λe=>by have:=hh.liveR.1;rw [←e,hj] at this;cases this
  rw [hh.oth j hQ hK hR];exact hj
 ·have hQ:j≠Q:=λe=>by rw [e,hh.vd] at hj;cases hj
  by_cases hK:j=K
  ·subst hK;exact .inl hh.k
  by_cases hR:j=R
  ·subst hR;rcases hh.row with ⟨e,cs,cs',h1,h2,h3,_⟩|⟨es,es',h1,h2,_⟩
   ·exact .inr ⟨hh.liveR.2,dO _ _ hQ,by rw [h1,h2];exact ⟨rfl,Nat.le_of_eq h3⟩,λ_ _ _=>dM.refl _⟩
   ·exact .inr ⟨hh.liveR.2,dO _ _ hQ,by rw [h1,h2];exact trivial,λ_ _ _=>dM.refl _⟩
  ·have h1:=hh.oth j hQ hK hR;exact .inr ⟨by rw [h1];exact hj,dO _ _ hQ,by rw [h1];exact dY.refl hj,λ_ _ _=>dM.refl _⟩
theorem pt.den {off:Nat} (h:lB P w0 I0 W0 C ids w) (hh:pt C C' Q K R) {x y:SV} {v:Value} (hr:x=y\/(x = .ptr K off/\y = .ptr Q off)) (hd:dT P C ids (Im w0 I0 W0 C ids w) w x v):dT P C' (upd ids Q (ids K)) (Im w0 I0 W0 C' (upd ids Q (ids K)) w) w y v:=by
 rcases hr with rfl|⟨rfl,rfl⟩
 ·exact hd.mono (hh.ext h)
 ·obtain ⟨b,o,g1,rfl⟩:=pT hd hh.kl;exact .ptr b o (by rw [hh.q];exact hh.kl) (by rw [cG];exact g1)
theorem pt.st (h:lB P w0 I0 W0 C ids w) (hh:pt C C' Q K R):lB P w0 I0 W0 C' (upd ids Q (ids K)) w:=by
 have hE:=hh.ext h;refine ⟨λj=>?_,λk k' b o o' hk hk' hi hi'=>?_,λk b o hk hi=>?_,h.im0,h.evol,h.os,h.tape,h.output,h.size⟩
 ·by_cases hQ:j=Q
  ·subst hQ;rw [hh.q];exact fK.rename hE (h.ch K) (cG _ _ _)
  by_cases hK:j=K
  ·subst hK;rw [hh.k];trivial
  by_cases hR:j=R
  ·subst hR;have hc:=h.ch j;rcases hh.row with ⟨e,cs,cs',h1,h2,h3,h4⟩|⟨es,es',h1,h2,h3,h4⟩
   ·rw [h1] at hc;rw [h2];simp only [fK,dO _ _ hQ] at hc ⊢;cases hid:ids j with
    | none =>
     rw [hid] at hc;simp only at hc;subst hc;exact iR h3
    | some p =>
     obtain ⟨b,o⟩:=p;rw [hid] at hc;obtain ⟨arr,ha,hl,hxx⟩:=hc;refine ⟨arr,ha,by omega,λi y hi=>?_⟩;have hlt:=(dy.1 hi).1;have hi2:=dz (show i<cs.length by omega);exact hh.den h (h4 i _ y hi2 hi) (hxx i _ hi2)
   ·rw [h1] at hc;rw [h2];simp only [fK,dO _ _ hQ] at hc ⊢;obtain ⟨b,arr,clock,g1,g2,g3,g4,hbo⟩:=hc;refine ⟨b,arr,clock,g1,g2,by omega,λi y hi=>?_,hbo⟩;have hlt:=(dy.1 hi).1;have hi2:=dz (show i<es.length by omega);obtain ⟨a1,a2⟩:=h4 i _ y hi2 hi;obtain ⟨b1,b2⟩:=g4 i _ hi2;exact ⟨b1.trans a1,hh.den h a2 b2⟩
  ·rw [hh.oth j hQ hK hR];exact fK.rename hE (h.ch j) (dO _ _ hQ)
 ·obtain ⟨k0,a1,a2,a3⟩:=hh.old hk hi;obtain ⟨k0',b1,b2,b3⟩:=hh.old hk' hi';have:=h.inj k0 k0' b o o' a1 b1 a2 b2;subst this;rcases a3 with ⟨_,a3,a4⟩|⟨a3,a4⟩<;>rcases b3 with ⟨_,b3,b4⟩|⟨b3,b4⟩
  ·rw [←a3,←b3]
  ·rw [←a3] at a4;exact absurd b4 a4
  ·rw [←b3] at b4;exact absurd a4 b4
  ·rw [a3,b3]
 ·obtain ⟨k0,a1,a2,_⟩:=hh.old hk hi;exact h.lt k0 b o a1 a2
end sem
theorem Gi {X:Cx} {hp hp':Hp} {ids:dD} {w:World} {Q K R:Nm} (h:HeapC X hp ids w) (hh:pt (bW hp) (bW hp') Q K R):HeapC X hp' (upd ids Q (ids K)) w/\fm X hp ids w hp' (upd ids Q (ids K)) w:=by
 have hE:=hh.ext h.st;refine ⟨⟨hh.st h.st,λj hj h0 hl=>?_,λj hj hv=>?_⟩,hE⟩
 ·by_cases hQ:j=Q
  ·subst hQ;exact absurd (h.nov j hj hh.vd) h0
  by_cases hK:j=K
  ·subst hK;rw [hh.k] at hl;cases hl
  have hlo:(bW hp j).live=true:=by
   by_cases hR:j=R
   ·subst hR;exact hh.liveR.1
   ·rw [←hh.oth j hQ hK hR];exact hl
  exact (h.kept j hj h0 hlo).step hE hlo hl
 ·by_cases hQ:j=Q
  ·subst hQ;have:=hh.kl;rw [←hh.q,hv] at this;cases this
  by_cases hK:j=K
  ·subst hK;rw [hh.k] at hv;cases hv
  by_cases hR:j=R
  ·subst hR;have:=hh.liveR.2;rw [hv] at this;cases this
  ·exact h.nov j hj (by rw [←hh.oth j hQ hK hR];exact hv)
theorem Fa {t:TypeId} {xs:List α} {y:α} {r k F e:Nat} (hR:bW hp (.t r) = .row e (cB F xs.length++[.ptr (.t k) 0])) (hF:il hp (.s F 0) = .fam (cu t xs)) (hk:bW hp (.t k) = .row t (bZ.cells y)) (hb:(!(k==r))=true) :
  lZ P nx 0 [.t r,.s F 0,.t k] hp [(.s F 0,.fam (cu t (xs++[y]))),(.t r,.row e (cB F (xs++[y]).length)),(.t k,.dead)]:=by
 simp only [kg,beq_eq_false_iff_ne] at hb;intro X ids w hp' hP hm h hrd hf;have hRr:bW hp' (.t r) = .row e (cB F xs.length++[.ptr (.t k) 0]):=(hrd (.t r) (by simp)).trans hR;have hkk:bW hp' (.t k) = .row t (bZ.cells y):=(hrd (.t k) (by simp)).trans hk;have hFi:∀ i,bW hp' (.s F i)=cu t xs i:=λi=>by
  rw [hrd (.s F i) (by simp [Nm.key]),nl hF i,lG]
 have hlen:(xs++[y]).length=xs.length+1:=by simp
 have lookG:∀ i,bW ([(.s F 0,.fam (cu t (xs++[y]))),(.t r,.row e (cB F (xs++[y]).length)),(.t k,.dead)]++hp') (.s F i)=cu t (xs++[y]) i:=λi=>by
  simp only [iy,bW,Nm.eqk,oG,cd,cp.mem];exact lG t (xs++[y]) i
 have lookR:bW ([(.s F 0,.fam (cu t (xs++[y]))),(.t r,.row e (cB F (xs++[y]).length)),(.t k,.dead)]++hp') (.t r) = .row e (cB F (xs++[y]).length):=by
  simp [bW,Nm.eqk,cp.mem]
 have lookK:bW ([(.s F 0,.fam (cu t (xs++[y]))),(.t r,.row e (cB F (xs++[y]).length)),(.t k,.dead)]++hp') (.t k) = .dead:=by
  have:(r==k)=false:=by simpa using λe=>hb e.symm
  simp [bW,Nm.eqk,cp.mem,this]
 have hh:pt (bW hp') (bW ([(.s F 0,.fam (cu t (xs++[y]))),(.t r,.row e (cB F (xs++[y]).length)),(.t k,.dead)]++hp')) (.s F (xs.length:Int)) (.t k) (.t r):=by
  refine ⟨?_,by rw [hkk];rfl,?_,lookK,λj hQ hK hR2=>?_,by simpa using hb,?_⟩
  ·rw [hFi,lc (by omega)]
  ·rw [lookG,hkk,dN (by rw [hlen];omega)];have:ix (xs++[y]) (xs.length:Int)=y:=by unfold ix;simp
   rw [this]
  ·by_cases hF2:∃ i,j = .s F i
   ·obtain ⟨i,rfl⟩:=hF2;rw [lookG,hFi];have hi:i≠(xs.length:Int):=λe=>hQ (by rw [e]);by_cases kk:0<=i/\i<(xs.length:Int)
    ·rw [dN kk,dN (xs:=xs++[y]) (by rw [hlen];omega)];have:ix (xs++[y]) i=ix xs i:=by unfold ix;rw [dA,dA,iP (by omega)]
     rw [this]
    ·rw [lc kk,lc (xs:=xs++[y]) (by rw [hlen];omega)]
   ·refine ja λhm=>?_
    simp only [gz,kY,ff,List.not_mem_nil,or_false] at hm;rcases hm with hm|hm|hm
    ·cases j with
     | t a=>simp [Nm.key] at hm
     | s G z=>simp only [Nm.key_s,Nm.s.injEq,kZ] at hm;exact hF2 ⟨z,by rw [hm]⟩
    ·exact hR2 (by rw [Nm.key_t] at hm;exact Nm.key_eq_t.1 hm)
    ·exact hK (by rw [Nm.key_t] at hm;exact Nm.key_eq_t.1 hm)
  ·refine .inl ⟨e,_,_,hRr,lookR,by rw [jO,hlen,ea,jO];rfl,λi x z hx hz=>?_⟩;have hi:i<xs.length+1:=by have:=(dy.1 hz).1;rwa [jO,hlen] at this
   have hz2:z = .ptr (.s F (i:Int)) 0:=by
    unfold cB at hz;rw [f5,List.getElem?_range (by rw [hlen];exact hi)] at hz;simpa using hz.symm
   subst hz2;by_cases hil:i<xs.length
   ·have hx2:x = .ptr (.s F (i:Int)) 0:=by
     rw [iP (by rw [jO];exact hil)] at hx;unfold cB at hx;rw [f5,List.getElem?_range hil] at hx;simpa using hx.symm
    exact .inl hx2
   ·have he:i=xs.length:=by omega
    subst he;have hx2:x = .ptr (.t k) 0:=by
     rw [jA (by rw [jO];exact cF _),jO,Nat.sub_self] at hx;simpa using hx.symm
    exact .inr ⟨hx2,rfl⟩
 exact ⟨_,Gi h hh⟩
theorem fO {hin:Hp} {t:TypeId} {xs:List α} {F F':Nat} (h1:il hin (.s F' 0) = .fam (cu t xs)) (h2:il hp (.s F 0) = .fam (cu t xs)) (i:Int):(bW hin (.s F' i)).live=true\/(bW hin (.s F' i) = .dead/\bW hp (.s F i) = .dead)\/(bW hin (.s F' i) = .void/\bW hp (.s F i) = .void):=by
 rw [nl h1 i,nl h2 i,lG];by_cases kk:0<=i/\i<(xs.length:Int)
 ·rw [dN kk];exact .inl rfl
 ·rw [lc kk];exact .inr (.inr ⟨rfl,rfl⟩)
theorem I7 {t:TypeId} {y:α} {r k e:Nat} (hR:bW hp (.t r) = .row e [.ptr (.t k) 0]) (hk:bW hp (.t k) = .row t (bZ.cells y))
  (hb:(Nat.blt r nx,Nat.blt k nx,!(k==r))=(true,true,true)) :
  lZ P nx 1 [.t r,.t k] hp [(.s nx 0,.fam (cu t [y])),(.t r,.row e (cB nx [y].length)),(.t k,.dead)]:=by
 simp only [gX,kD,kg,beq_eq_false_iff_ne] at hb;obtain ⟨b1,b2,b4⟩:=hb;intro X ids w hp' hP hm h hrd hf;have hRr:bW hp' (.t r) = .row e [.ptr (.t k) 0]:=(hrd (.t r) (by simp)).trans hR;have hkk:bW hp' (.t k) = .row t (bZ.cells y):=(hrd (.t k) (by simp)).trans hk;have look:∀ q:Nm,q.base≠nx->q≠.t r->bW ([(.s nx 0,.fam (cu t [y])),(.t r,.row e (cB nx [y].length)),(.t k,.dead)]++hp') q=bW ([(.t k,.dead)]++hp') q:=λq hb hq=>by
  simp only [iy,pD,bW];have h1:(Nm.s nx 0).eqk q=false:=Nm.eqk_no λe=>hb (by have:=dJ Nm.base e;simpa using this.symm)
  have h2:(Nm.t r).eqk q=false:=Nm.eqk_no λe=>hq (by rw [Nm.key_t] at e;exact Nm.key_eq_t.1 e.symm)
  rw [h1,h2];rfl
 have lookR:bW ([(.s nx 0,.fam (cu t [y])),(.t r,.row e (cB nx [y].length)),(.t k,.dead)]++hp') (.t r) = .row e (cB nx [y].length):=by
  simp [bW,Nm.eqk,cp.mem]
 have lookG:∀ i,bW ([(.s nx 0,.fam (cu t [y])),(.t r,.row e (cB nx [y].length)),(.t k,.dead)]++hp') (.s nx i)=cu t [y] i:=λi=>by
  simp only [iy,bW,Nm.eqk,oG,cd,cp.mem];exact lG t [y] i
 have deadK:bW ([(.t k,.dead)]++hp') (.t k) = .dead:=by simp [bW,Nm.eqk,cp.mem]
 have hh:sY (bW hp') (bW ([(.s nx 0,.fam (cu t [y])),(.t r,.row e (cB nx [y].length)),(.t k,.dead)]++hp')) nx (λi=>if i=0 then some (.t k) else none) (.t r):=by
  refine ⟨λq hq=>hf q (by omega) (by omega),λi q hi=>?_,λi hi=>?_,?_,λi q hi=>?_,λq hb hqR=>?_,by simp;omega,?_,λi i' q h1 h2=>?_⟩
  ·split at hi
   ·rename_i h0;cases hi;subst h0;rw [lookG,hkk,dN (xs:=[y]) (by simp)];rfl
   ·cases hi
  ·split at hi
   ·cases hi
   ·rename_i h0;rw [lookG];right;rw [lc (xs:=[y]) (by simp;omega)];rfl
  ·have h1:bW ([(.s nx 0,.fam (cu t [y])),(.t r,.row e (cB nx [y].length)),(.t k,.dead)]++hp') (.t nx)=bW hp' (.t nx):=by
    refine ja λhm=>?_
    simp [Nm.key] at hm;omega
   rw [h1,hf (.t nx) (cF _) (by simp)];rfl
  ·split at hi
   ·cases hi;rw [look _ (by simp;omega) (by simpa using b4)];exact deadK
   ·cases hi
  ·rw [look q hb hqR];by_cases h2:q = .t k
   ·right;subst h2;exact deadK
   ·left;refine ja λhm=>?_
    simp only [gz,kY,ff,List.not_mem_nil,or_false] at hm;exact h2 (by rw [Nm.key_t] at hm;exact Nm.key_eq_t.1 hm)
  ·refine ⟨e,_,_,hRr,lookR,by rw [jO];rfl,λi x z hx hz=>?_⟩;have hi:i<1:=(dy.1 hx).1;have he:i=0:=by omega
   subst he;have hx2:x = .ptr (.t k) 0:=by simpa using hx.symm
   have hz2:z = .ptr (.s nx 0) 0:=by simpa [cB] using hz.symm
   subst hx2;subst hz2;exact .ptr (i:=0) (by simp) (by rw [hkk];rfl)
  ·split at h1
   ·split at h2
    ·omega
    ·cases h2
   ·cases h1
 exact ⟨_,HC h hm hh⟩
omit [bZ α] in
theorem Fb (F:Nat) (xs:List α) (y:α) (k B:Nat) (s0:Prop) (h0:s0) (e:TypeId) (hB:P.bytesOf e=B) (hpos:0<B) (hle:(xs++[y]).length*B<=140737488355328) (kk nx:Nat) (rds:List Nm) :
  gI (.ok (s0/\e=e/\([SV.ptr (.t k) 0]:List SV).length=1*1/\([SV.ptr (.t k) 0]:List SV).all jl=true/\0+xs.length*1<=(cB F xs.length).length/\0<P.bytesOf e/\(xs.length+1)*P.bytesOf e<=140737488355328) ⟨.own nx 0 (xs.length+1),[(Nm.t nx,.row e (da (cB F xs.length) 0 (xs.length*1)++[.ptr (.t k) 0])),(Nm.t kk,.dead)],nx+1,Nm.t kk::rds⟩) ⟨.own nx 0 (xs++[y]).length,[(Nm.t nx,.row e (cB F xs.length++[.ptr (.t k) 0])),(Nm.t kk,.dead)],nx+1,Nm.t kk::rds⟩:=by
 subst hB;rw [ea,List.length_singleton] at hle ⊢;refine iX ⟨h0,rfl,rfl,rfl,by rw [jO,dm,pP];exact cF _,hpos,hle⟩ rfl ?_;rw [da,ru,pP,kE (by rw [jO];exact cF _)]
theorem sZ (F n:Nat) (i:Int) (off:Nat) (k:0<=i/\i<(n:Int)) (ho:off=i.toNat*1) (d:SV) (nx:Nat) (rds:List Nm) :
  gI (.ok (off<(cB F n).length) ⟨(cB F n).getD off d,[],nx,rds⟩) ⟨.ptr (.s F i) 0,[],nx,rds⟩:=by
 rw [pP] at ho;subst ho;refine iX (by rw [jO];omega) ?_ rfl;unfold cB;rw [dA,f5,List.getElem?_range (by omega)];simp only [fp,gZ];rw [show (i.toNat:Int)=i from by omega]
theorem HU {t:TypeId} {xs:List α} {i:Int} (k:0<=i/\i<(xs.length:Int)):((cp.fam (cu t xs)).at i).live=true:=by rw [yy k];rfl
def s5 (c:cp) (m:Nat):Prop:=∀ i:Nat,i<m->(c.at ((i:Nat):Int)).live=true
theorem d4 (t:TypeId) (xs:List α) (m:Nat):s5 (.fam (cu t xs)) m=(m<=xs.length):=by
 refine propext ⟨λh=>?_,λh i hi=>HU (by omega)⟩;by_cases hm:m<=xs.length
 ·exact hm
 ·have:=h xs.length (by omega);rw [lG,lc (by omega)] at this;cases this
theorem ee (t:TypeId) (xs:List α):s5 (.fam (cu t xs)) xs.length=True:=eq_true (by rw [d4];exact cF _)
theorem eJ (t:TypeId) (x:α):s5 (.fam (cu t [x])) 1=True:=eq_true (by rw [d4];exact cF _)
theorem eK (t:TypeId) (xs:List α) (x:α):s5 (.fam (cu t (xs++[x]))) (xs.length+1)=True:=eq_true (by rw [d4];simp)
theorem eL (t:TypeId) (xs:List α) (i:Nat) (x:α):s5 (.fam (cu t (xs.set i x))) xs.length=True:=eq_true (by rw [d4];simp)
theorem fx {F F':Nat} {n m:Nat} (h:n=m/\dh σ (.s F' 0)=some (.s F 0)/\s5 (il hp' (.s F' 0)) m):lP hp hp' σ frz (cB F n) (cB F' m)=True:=by
 obtain ⟨rfl,h1,h2⟩:=h;refine eq_true (C8 ?_);have gen:∀ l:List Nat,(∀ i∈l,i<n)->Pw (fv hp hp' σ frz) (l.map λ(i:Nat)=>SV.ptr (.s F ((i:Nat):Int)) 0) (l.map λ(i:Nat)=>SV.ptr (.s F' ((i:Nat):Int)) 0):=by
  intro l;induction l with
  | nil=>intro _;trivial
  | cons a l ih =>
   intro hl;refine ⟨?_,ih λi hi=>hl i (by simp [hi])⟩;have ha:=hl a (by simp);simp only [fv];refine ⟨C_ h1 _,trivial,?_⟩;have h3:=h2 a ha;cases hg:il hp' (.s F' 0) with
   | fam g=>rw [nl hg];rw [hg] at h3;exact h3
   | _=>rw [hg] at h3;cases h3
 exact gen _ λi hi=>by simpa using hi
theorem HV {t:TypeId} {xs:List α} {F':Nat} {i:Int} (h:BR hp σ F' (cu t xs)):nW hp hp' σ frz (.s F' i) (cu t xs i)=True:=by
 refine eq_true ?_;unfold BR at h;cases hn:dh σ (.s F' 0) with
 | none=>rw [hn] at h;exact h.elim
 | some k =>
  rw [hn] at h;simp only at h;have hs:dh σ (.s F' i)=some (.s k.base i):=by rw [jm σ F' i,hn];rfl
  have hg:=nl h i;rw [lG] at hg;by_cases kk:0<=i/\i<(xs.length:Int)
  ·rw [dN kk] at hg ⊢;simp only [nW,hs,hg];exact ⟨trivial,.inl ⟨bZ.stc _,trivial⟩⟩
  ·rw [lc kk] at hg ⊢;simp only [nW,hs,hg]
theorem eM (τ:Nm->Nm) (t:TypeId) (xs:List α) (i:Int):ik τ (cu t xs i)=cu t xs i:=by
 by_cases kk:0<=i/\i<(xs.length:Int)
 ·rw [dN kk];simp only [ik];rw [nR (jq (bZ.stc _))]
 ·rw [lc kk];rfl
theorem eN (F n:Nat):jx (gc (dh σ) nx) (cB F n)=cB (gc (dh σ) nx (.s F 0)).base n:=by
 unfold cB;rw [k_,og];refine pH λi _=>?_
 simp only [Function.comp,iz];rw [uP (jm σ)]
theorem Mp (t:TypeId) (xs:List α) (G:Nat) (z:Int) (r:Hp) (F:Nat):rS ((.s G z,.fam (cu t xs))::r) F=bif G==F then cu t xs else rS r F:=by
 funext q;simp only [rS,bW,Nm.eqk];cases G==F with
 | true=>simp only [cd,cp.mem];exact lG t xs q
 | false=>rfl
theorem cS.frzA {f:FuncId} {args:List SV} {hin H:Hp} {m nn:Nat} {X:SV} (m5:cS P f args hin m (λx h n=>x=X/\h=H/\n=nn)) (G:List Nm) (sig:List (Nm×Nm)) (X2:SV) (H2:Hp) (n2:Nat)
  (h1:fv H H2 sig G X X2) (h2:o_ H H2 sig G H2) (h3:(oU m sig G,pY m n2 sig H2,Nat.ble m n2)=(true,true,true)) :
  cS P f args hin m (λx h n=>x=X2/\h=H2/\n=n2):=by
 simp only [gX] at h3;obtain ⟨k1,k2,k3⟩:=h3;refine ⟨m5.1,λY vals hP hm hF hsz hd=>(m5.2 Y vals hP hm hF hsz hd).mono ?_⟩;rintro ex w' ⟨r,res,hp',nx',ids',rfl,⟨rfl,rfl,rfl⟩,hF',hden⟩;subst hP;have hsub:vp Y.P (bW hp') (bW H2) (dh sig) (mq G):=ui h2 k1;obtain ⟨ids2,hF2,hd2⟩:=weaken (nx':=n2) hF'.toHeapC hsub (rF k2) (λk hk hl=>by
  rw [hm] at hk;refine uZ (λp hp=>?_) k2 k hk (.inl hl);simp only [oU,cT,dQ] at k1;have:=(k1.2 p hp).2;simpa using this) (λk hk hl=>by
  rw [hm] at hk;refine uZ (λp hp=>?_) k2 k hk (.inr hl);simp only [oU,cT,dQ] at k1;have:=(k1.2 p hp).2;simpa using this) (by rw [hm];exact cW k3)
 exact ⟨r,X2,H2,n2,ids2,rfl,⟨rfl,rfl,rfl⟩,hF2,hd2 _ _ _ (my h1) hden⟩
theorem eO {t:TypeId} {xs:List α} {F':Nat} {z:Int} (h:BR hp σ F' (cu t xs)):zy hp hp' σ frz (.s F' z) (.fam (cu t xs))=True:=by
 refine eq_true λi=>?_
 rw [lG];exact of_eq_true (HV h)
theorem KN (F':Nat) (t:TypeId) (xs:List α):BR hp σ F' (cu t xs)=match dh σ (.s F' 0) with
 | some k=>il hp (.s k.base 0) = .fam (cu t xs)
 | none=>False:=propext Iff.rfl
theorem I8 (k:Nm) (c:cp) (r:Hp):o_ hp hp' σ frz ((k,c)::r)=(zy hp hp' σ frz k c/\o_ hp hp' σ frz r):=propext Iff.rfl
def NX (σ:List (Nm×Nm)) (F:Nat):Prop:=dh σ (.s F 0)=none
theorem fW (σ:List (Nm×Nm)) (F:Nat):NX σ F=(dh σ (.s F 0)=none):=propext Iff.rfl
theorem ei {t:TypeId} {F':Nat} {z:Int} (h:NX σ F'):zy hp hp' σ frz (.s F' z) (.fam (cu t ([]:List α)))=True:=by
 refine eq_true λi=>?_
 have h:dh σ (.s F' 0)=none:=h;rw [lG,lc (by simp<;>omega)];have:dh σ (.s F' i)=none:=by rw [jm σ F' i,h];rfl
 simp only [nW,this]
theorem g_ (F:Nat):cB F 0=[]:=rfl
attribute [push_cast high] eO ei I8
attribute [push_cast] fW ee eJ eK eL g_ eM eN Mp lG KN
end
end Go.Sx
end
