/-
 Lemmas, put together: TxZ, TyA, TyB, IH, HA, HX, HB, HY, HC, HD, HE, HF, HH, HI, HJ, HK, HG, HL, HM, HN, HO, HP, HS, HZ, HV, HW, HU.
 No conditions.
-/
import Derived.Test.YthcdpjkgdcpkmaaGreatDoorwkA2
import Derived.DataReads
import Derived.ChangeArms
import GoSem.ClaimChange
import Derived.Below
import Derived.ChangeSame
import Derived.WideKeyArgs
import Derived.WideShapes
import Derived.RowKit
import Derived.OpenShut
import Derived.Lib.LaidU8
import Derived.Deep.AppendSrc
import Derived.Lib.Overlaps
import Derived.Lib.AppendZerosOnto
import Derived.Laws.IdiomCopy
import Derived.Shelf.Spec.SlicesInsert
import Derived.Lib.Builder
import Derived.Lib.UnsafeStr
set_option linter.unusedSimpArgs false
set_option linter.unusedVariables false
set_option linter.unusedSectionVars false
section
namespace Go.Sx
section
open Go.RowKit
variable {P:Program}
def Nm.to (j k:Nm):Nm:=match k with
 | .t _=>j
 | .s _ i=>.s j.base i
def di:List (Nm×Nm)->Nm->Option Nm
 | [],_=>none
 | p::r,k=>bif p.1.eqk k then some (p.2.to k) else di r k
theorem Hh (a b:Nm) (r:List (Nm×Nm)) (k:Nm):di ((a,b)::r) k=bif a.eqk k then some (b.to k) else di r k:=rfl
theorem Iu (k:Nm):di [] k=none:=rfl
theorem jq (σ:List (Nm×Nm)):q9 (di σ):=λF i=>by
 induction σ with
 | nil=>rfl
 | cons p r ih =>
  simp only [di]
  have e:p.1.eqk (.s F i)=p.1.eqk (.s F 0):=by cases p.1<;>rfl
  rw [e]
  cases p.1.eqk (.s F 0) with
  | true=>rfl
  | false=>exact ih
mutual
def SV.st:SV->Bool
 | .v _=>true
 | .agg xs=>iq xs
 | .tup xs=>iq xs
 | .sl _ xs=>iq xs
 | .iptr xs _=>iq xs
 | .clo _ xs=>iq xs
 | .ifc _ x=>x.st
 | .mth _ x=>x.st
 | .asl _ _ _=>false
 | .bp _ _ _=>false
 | .any=>false
 | .gd _ _=>false
 | .own _ _ _=>false
 | .ptr _ _=>false
 | .mp _=>false
 | .it _=>false
def iq:List SV->Bool
 | []=>true
 | x::xs=>x.st&&iq xs
end
mutual
theorem BO:∀ {s:SV},s.st=true->s.cl=true
 | .v _,_=>rfl
 | .agg xs,h=>js (xs:=xs) h
 | .tup xs,h=>js (xs:=xs) h
 | .sl _ xs,h=>js (xs:=xs) h
 | .iptr xs _,h=>js (xs:=xs) h
 | .clo _ xs,h=>js (xs:=xs) h
 | .ifc _ x,h=>BO (s:=x) h
 | .mth _ x,h=>BO (s:=x) h
theorem js:∀ {xs:List SV},iq xs=true->mN xs=true
 | [],_=>rfl
 | x::xs,h=>by
  simp only [iq,cT] at h
  simp only [mN,cT]
  exact ⟨BO h.1,js h.2⟩
end
mutual
def fu (hp hp':Hp) (σ:List (Nm×Nm)) (frz:List Nm):SV->SV->Prop
 | s,s'=>match s' with
  | .any=>True
  | .own k' o' n'=>match s with
   | .own k o n=>di σ k'=some k/\o=o'/\n=n'/\(bW hp' k').live=true
   | .v x=>x = .slice none 0 0/\o'=0/\n'=0/\(bW hp' k').live=true/\di σ k'=none
   | _=>False
  | .ptr k' o'=>match s with
   | .ptr k o=>di σ k'=some k/\o=o'/\(bW hp' k').live=true
   | _=>False
  | .mp k'=>match s with
   | .mp k=>di σ k'=some k/\(bW hp' k').live=true
   | _=>False
  | .it k'=>match s with
   | .it k=>di σ k'=some k/\(bW hp' k').live=true
   | _=>False
  | .agg ys=>match s with
   | .agg xs=>(iq ys=true/\xs=ys)\/lQ hp hp' σ frz xs ys
   | _=>False
  | .tup ys=>match s with
   | .tup xs=>lQ hp hp' σ frz xs ys
   | _=>False
  | .clo f' ys=>match s with
   | .clo f xs=>f=f'/\lQ hp hp' σ frz xs ys
   | _=>False
  | .asl _ _ _=>False
  | .bp k' e' n'=>match s with
   | .bp k e n=>di σ k'=some k/\e=e'/\n=n'/\(bW hp' k').live=true
   | _=>False
  | .mth t' y=>match s with
   | .mth t x=>t=t'/\fu hp hp' σ frz x y
   | _=>False
  | .ifc t' y=>match s with
   | .ifc t x=>t=t'/\fu hp hp' σ frz x y
   | _=>False
  | .sl n' cs'=>match s with
   | .own k o n=>n=n'/\my frz k/\∃ e cs q,bW hp k = .row e cs/\(n=0->q=0)/\((mN cs=true/\cs'=da cs o q)\/∃ cs2:List SV,cs2.length<=cs.length/\(∀ (P:Program) (i:Nat) (x y:SV),cs[i]? = some x->cs2[i]? = some y->jM P (bW hp) (bW hp') (di σ) (my frz) x y)/\cs'=da cs2 o q)
   | .v x=>x = .slice none 0 0/\n'=0/\cs'=[]
   | .sl n cs=>n=n'/\cs=cs'/\mN cs=true
   | _=>False
  | .iptr cs' o'=>match s with
   | .ptr k o=>o=o'/\my frz k/\∃ e cs,bW hp k = .row e cs/\cs'.length<=cs.length/\∀ (P:Program) (i:Nat) (x y:SV),cs[i]? = some x->cs'[i]? = some y->jM P (bW hp) (bW hp') (di σ) (my frz) x y
   | .iptr cs o=>cs=cs'/\o=o'/\mN cs=true
   | _=>False
  | .v y=>s = .v y
  | .gd g y=>s = .gd g y/\y.cl=true
def lQ (hp hp':Hp) (σ:List (Nm×Nm)) (frz:List Nm):List SV->List SV->Prop
 | xs,ys=>match ys with
  | []=>xs=[]
  | y::ys=>match xs with
   | x::xs=>fu hp hp' σ frz x y/\lQ hp hp' σ frz xs ys
   | []=>False
end
theorem sD {hp hp':Hp} {σ:List (Nm×Nm)} {frz:List Nm}:∀ {ys xs:List SV},lQ hp hp' σ frz xs ys->xs.length=ys.length/\∀ (i:Nat) (x y:SV),xs[i]? = some x->ys[i]? = some y->fu hp hp' σ frz x y
 | [],xs,h=>by simp only [lQ] at h;subst h;exact ⟨rfl,λi x y hx=>by simp at hx⟩
 | y::ys,[],h=>by simp [lQ] at h
 | y::ys,x::xs,h=>by
  simp only [lQ] at h
  obtain ⟨h1,h2⟩:=sD h.2
  refine ⟨by simp [h1],λi a b ha hb=>?_⟩
  cases i with
  | zero=>simp at ha hb;subst ha;subst hb;exact h.1
  | succ i=>exact h2 i a b (by simpa using ha) (by simpa using hb)
theorem mB {hp hp':Hp} {σ:List (Nm×Nm)} {frz:List Nm}:∀ {s' s:SV},fu hp hp' σ frz s s'->jM P (bW hp) (bW hp') (di σ) (my frz) s s':=by
 have lst:∀ (n:Nat) {s' s:SV},SizeOf.sizeOf s'<n->fu hp hp' σ frz s s'->jM P (bW hp) (bW hp') (di σ) (my frz) s s':=by
  intro n;induction n with
  | zero=>intro s' s h;omega
  | succ n ih =>
   intro s' s hsz h;have sub:∀ {ys xs:List SV},SizeOf.sizeOf ys<n->lQ hp hp' σ frz xs ys->xs.length=ys.length/\∀ (i:Nat) (x y:SV),xs[i]? = some x->ys[i]? = some y->jM P (bW hp) (bW hp') (di σ) (my frz) x y:=by
    intro ys xs hys hl;obtain ⟨h1,h2⟩:=sD hl;refine ⟨h1,λi x y hx hy=>ih ?_ (h2 i x y hx hy)⟩;have:=List.sizeOf_lt_of_mem (pI hy);omega
   unfold fu at h;cases s' with
   | any=>exact .any
   | v y=>simp only at h;subst h;exact .cl rfl
   | gd g y=>simp only at h;obtain ⟨rfl,h2⟩:=h;exact .cl h2
   | own k' o' n' =>
    cases s<;>simp only at h<;>try exact h.elim
    ·obtain ⟨rfl,rfl,rfl,h,hs⟩:=h;exact .absent h hs
    ·obtain ⟨h1,rfl,rfl,h2⟩:=h;exact .own h1 h2
   | ptr k' o' =>
    cases s<;>simp only at h<;>try exact h.elim
    obtain ⟨h1,rfl,h2⟩:=h;exact .ptr h1 h2
   | mp k' =>
    cases s<;>simp only at h<;>try exact h.elim
    exact .mp h.1 h.2
   | it k' =>
    cases s<;>simp only at h<;>try exact h.elim
    exact .it h.1 h.2
   | agg ys =>
    cases s<;>simp only at h<;>try exact h.elim
    rename_i xs;rcases h with ⟨hst,h⟩|h
    ·subst h;exact .cl (js (xs:=xs) hst)
    ·obtain ⟨h1,h2⟩:=sub (by simp at hsz;omega) h;exact .agg h1 h2
   | tup ys =>
    cases s<;>simp only at h<;>try exact h.elim
    obtain ⟨h1,h2⟩:=sub (by simp at hsz;omega) h;exact .tup h1 h2
   | clo f ys =>
    cases s<;>simp only at h<;>try exact h.elim
    obtain ⟨rfl,h⟩:=h;obtain ⟨h1,h2⟩:=sub (by simp at hsz;omega) h;exact .clo h1 h2
   | asl k o n=>simp only at h
   | bp k' e' n' =>
    cases s<;>simp only at h<;>try exact h.elim
    obtain ⟨h1,rfl,rfl,h2⟩:=h;exact .bp h1 h2
   | mth t y =>
    cases s<;>simp only at h<;>try exact h.elim
    obtain ⟨rfl,h⟩:=h;exact .mth (ih (by simp at hsz;omega) h)
   | ifc t y =>
    cases s<;>simp only at h<;>try exact h.elim
    obtain ⟨rfl,h⟩:=h;exact .ifc (ih (by simp at hsz;omega) h)
   | sl n' cs' =>
    cases s<;>simp only at h<;>try exact h.elim
    ·obtain ⟨rfl,rfl,rfl⟩:=h;exact .nilsl
    ·obtain ⟨rfl,rfl,h⟩:=h;exact .cl h
    ·obtain ⟨rfl,h1,e,cs,q,h2,h4,h3⟩:=h;rcases h3 with ⟨h3,rfl⟩|⟨cs2,h5,h3,rfl⟩
     ·exact .frz h2 h1 (cF _) (λi x y hx hy=>by rw [hx] at hy;cases hy;exact .cl (lF h3 i x hx)) q h4
     ·exact .frz h2 h1 h5 (h3 P) q h4
   | iptr cs' o' =>
    cases s<;>simp only at h<;>try exact h.elim
    ·obtain ⟨rfl,h1,e,cs,h2,h3,h4⟩:=h;exact .fptr h2 h1 h3 (h4 P)
    ·obtain ⟨rfl,rfl,h⟩:=h;exact .cl h
 exact λ{s' s} h=>lst (SizeOf.sizeOf s'+1) (by omega) h
def CG (hp hp':Hp) (σ:List (Nm×Nm)) (frz:List Nm) (fr:Fr):Fr->Prop
 | []=>True
 | p::r=>fu hp hp' σ frz (cM fr p.1) p.2/\CG hp hp' σ frz fr r
theorem Be {hp hp':Hp} {σ:List (Nm×Nm)} {frz:List Nm} {fr:Fr}:∀ {fr':Fr},CG hp hp' σ frz fr fr'->∀ d,jM P (bW hp) (bW hp') (di σ) (my frz) (cM fr d) (cM fr' d)
 | [],_,d=>.any
 | p::r,h,d=>by
  simp only [cM]
  by_cases hd:p.1=d
  ·subst hd;simp only [oI,cd];exact mB h.1
  ·rw [show (p.1==d)=false from by simpa using hd,ck];exact Be h.2 d
def Bf (hp hp':Hp) (σ:List (Nm×Nm)) (frz:List Nm):List (Value×SV)->List (Value×SV)->Prop
 | [],[]=>True
 | a::r,b::s=>a.1=b.1/\fu hp hp' σ frz a.2 b.2/\Bf hp hp' σ frz r s
 | _,_=>False
theorem EM {hp hp':Hp} {σ:List (Nm×Nm)} {frz:List Nm}:∀ {ys xs:List (Value×SV)},Bf hp hp' σ frz xs ys->xs.length=ys.length/\∀ (i:Nat) (x y:Value×SV),xs[i]? = some x->ys[i]? = some y->x.1=y.1/\fu hp hp' σ frz x.2 y.2
 | [],[],h=>⟨rfl,λi x y hx=>by simp at hx⟩
 | [],_::_,h=>h.elim
 | y::ys,[],h=>h.elim
 | y::ys,x::xs,h=>by
  obtain ⟨h1,h2⟩:=EM h.2.2
  refine ⟨by simp [h1],λi a b ha hb=>?_⟩
  cases i with
  | zero=>simp at ha hb;subst ha;subst hb;exact ⟨h.1,h.2.1⟩
  | succ i=>exact h2 i a b (by simpa using ha) (by simpa using hb)
def sS:List (Value×SV)->Bool
 | []=>true
 | p::r=>p.2.st&&sS r
theorem EN:∀ {es:List (Value×SV)},sS es=true->∀ (i:Nat) (x:Value×SV),es[i]? = some x->x.2.st=true
 | [],_,i,x,h=>by simp at h
 | y::ys,hc,i,x,h=>by
  simp only [sS,cT] at hc
  cases i with
  | zero=>simp at h;subst h;exact hc.1
  | succ i=>exact EN hc.2 i x (by simpa using h)
def nX (hp hp':Hp) (σ:List (Nm×Nm)) (frz:List Nm) (k':Nm):cp->Prop
 | .unborn=>True
 | .dead=>True
 | .void=>match di σ k' with
  | none=>True
  | some k=>bW hp k = .void
 | .row e cs'=>match di σ k' with
  | none=>cs'=[]
  | some k=>match bW hp k with
   | .row e2 cs=>e2=e/\((iq cs'=true/\cs=cs')\/lQ hp hp' σ frz cs cs'\/(iq cs'=true/\cs' <+: cs))
   | _=>False
 | .map es'=>match di σ k' with
  | none=>False
  | some k=>match bW hp k with
   | .map es=>bif sS es' then es=es' else Bf hp hp' σ frz es es'
   | _=>False
 | .obj s pos=>match di σ k' with
  | none=>False
  | some k=>bW hp k = .obj s pos
 | .fam _=>True
def zA (hp hp':Hp) (σ:List (Nm×Nm)) (frz:List Nm) (k':Nm) (c:cp):Prop:=match k' with
 | .t k=>nX hp hp' σ frz (.t k) c
 | .s F _=>∀ i:Int,nX hp hp' σ frz (.s F i) (c.at i)
def pd (hp hp':Hp) (σ:List (Nm×Nm)) (frz:List Nm):Hp->Prop
 | []=>True
 | p::r=>zA hp hp' σ frz p.1 p.2/\pd hp hp' σ frz r
theorem zB {hp hp':Hp} {σ:List (Nm×Nm)} {frz:List Nm} {k':Nm} {c:cp} (h:nX hp hp' σ frz k' c):sN P (bW hp) (bW hp') (di σ) (my frz) k' c:=by
 cases c with
 | unborn=>trivial
 | dead=>trivial
 | void =>
  simp only [nX] at h;intro k hk;rw [hk] at h;exact h
 | row e cs' =>
  simp only [nX] at h;simp only [sN];cases hn:di σ k' with
  | none=>rw [hn] at h;exact .inl ⟨rfl,h⟩
  | some k =>
   rw [hn] at h;simp only at h;cases hk:bW hp k with
   | row e2 cs =>
    rw [hk] at h;simp only at h;obtain ⟨rfl,h⟩:=h;rcases h with ⟨hst,h⟩|h|⟨hst,t,h⟩
    ·subst h;exact .inr ⟨k,cs,rfl,hk,cF _,λi x y hx hy=>by rw [hx] at hy;cases hy;exact .cl (lF (js hst) i x hx)⟩
    ·obtain ⟨h1,h2⟩:=sD h;exact .inr ⟨k,cs,rfl,hk,Nat.le_of_eq h1.symm,λi x y hx hy=>mB (h2 i x y hx hy)⟩
    ·subst h;refine .inr ⟨k,cs'++t,rfl,hk,by simp,λi x y hx hy=>?_⟩;rw [iQ (dy.1 hy).1,hy] at hx;cases hx;exact .cl (lF (js hst) i x hy)
   | _=>rw [hk] at h;exact h.elim
 | map es' =>
  simp only [nX] at h;simp only [sN];cases hn:di σ k' with
  | none=>rw [hn] at h;exact h.elim
  | some k =>
   rw [hn] at h;simp only at h;cases hk:bW hp k with
   | map es =>
    rw [hk] at h;simp only at h;cases hst:sS es' with
    | true =>
     rw [hst] at h;simp only [cd] at h;subst h;exact ⟨k,es,rfl,hk,rfl,λi x y hx hy=>by rw [hx] at hy;cases hy;exact ⟨rfl,.cl (BO (EN hst i x hx))⟩⟩
    | false =>
     rw [hst] at h;simp only [ck] at h;obtain ⟨h1,h2⟩:=EM h;exact ⟨k,es,rfl,hk,h1,λi x y hx hy=>⟨(h2 i x y hx hy).1,mB (h2 i x y hx hy).2⟩⟩
   | _=>rw [hk] at h;exact h.elim
 | obj s pos =>
  simp only [nX] at h;simp only [sN];cases hn:di σ k' with
  | none=>rw [hn] at h;exact h.elim
  | some k=>rw [hn] at h;exact ⟨k,rfl,h⟩
 | fam g=>trivial
theorem Hi {hp hp':Hp} {σ:List (Nm×Nm)} {frz:List Nm} {d k':Nm} {c:cp} (h:zA hp hp' σ frz d c) (hd:d.key=k'.key):sN P (bW hp) (bW hp') (di σ) (my frz) k' (c.mem k'):=by
 cases k' with
 | t a =>
  rw [Nm.key_t,Nm.key_eq_t] at hd;subst hd;exact zB h
 | s F i =>
  cases d with
  | t a=>simp [Nm.key] at hd
  | s G z =>
   simp only [Nm.key_s,Nm.s.injEq,k8] at hd;subst hd;exact zB (h i)
def wV:List (Nm×Nm)->Bool
 | []=>true
 | p::r=>r.all (λq=>!(q.2.eqk p.2))&&wV r
theorem sT {σ:List (Nm×Nm)} {k j:Nm} (h:di σ k=some j):∃ p∈σ,p.1.key=k.key/\j=p.2.to k:=by
 induction σ with
 | nil=>cases h
 | cons p r ih =>
  simp only [di] at h;by_cases hp:p.1.key=k.key
  ·rw [Nm.eqk_iff.2 hp] at h;cases h;exact ⟨p,by simp,hp,rfl⟩
  ·rw [Nm.eqk_no hp] at h;obtain ⟨q,hq,h1⟩:=ih h;exact ⟨q,by simp [hq],h1⟩
def LJ (p:Nm×Nm):Bool:=match p.1,p.2 with
 | .s _ _,.t _=>false
 | _,_=>true
theorem CH {p:Nm×Nm} (h:LJ p=true) {k:Nm} (hk:p.1.key=k.key):(p.2.to k).key=p.2.key:=by
 obtain ⟨a,b⟩:=p;cases k with
 | t c=>rfl
 | s F i =>
  cases a with
  | t c=>simp [Nm.key] at hk
  | s G z=>cases b with
   | t c=>cases h
   | s H y=>rfl
theorem zC:∀ {σ:List (Nm×Nm)},wV σ=true->∀ p∈σ,∀ q∈σ,p.2.key=q.2.key->p=q
 | [],_,p,hp,_,_,_=>by cases hp
 | a::r,hn,p,hp,q,hq,h=>by
  simp only [wV,cT,dQ] at hn
  rcases fc.1 hp with e1|hp2<;>rcases fc.1 hq with e2|hq2
  ·rw [e1,e2]
  ·rw [e1] at h;have:=hn.1 q hq2;rw [Nm.eqk_iff.2 h.symm] at this;cases this
  ·rw [e2] at h;have:=hn.1 p hp2;rw [Nm.eqk_iff.2 h] at this;cases this
  ·exact zC hn.2 p hp2 q hq2 h
theorem uZ {σ:List (Nm×Nm)} (hn:wV σ=true) (hs:σ.all LJ=true):∀ k1 k2 j,di σ k1=some j->di σ k2=some j->k1=k2:=λk1 k2 j h1 h2=>by
 obtain ⟨p,hp,hpk,rfl⟩:=sT h1
 obtain ⟨q,hq,hqk,hj⟩:=sT h2
 have sp:=dQ.1 hs p hp
 have sq:=dQ.1 hs q hq
 have hkey:p.2.key=q.2.key:=by rw [←CH sp hpk,hj,CH sq hqk]
 have:=zC hn p hp q hq hkey
 subst this
 have hk:k1.key=k2.key:=hpk.symm.trans hqk
 cases k1 with
 | t a=>cases k2 with
  | t b=>simpa [Nm.key] using hk
  | s F i=>simp [Nm.key] at hk
 | s F i=>cases k2 with
  | t b=>simp [Nm.key] at hk
  | s G z =>
   simp only [Nm.key_s,Nm.s.injEq,k8] at hk
   subst hk
   simp only [Nm.to,Nm.s.injEq,true_and] at hj
   rw [hj]
def Ng (hp':Hp) (k:Nm):Bool:=match k with
 | .t k=>(bW hp' (.t k)).live
 | .s _ _=>true
def oW (m:Nat) (σ:List (Nm×Nm)) (frz:List Nm):Bool:=(wV σ&&σ.all LJ)&&σ.all (λp=>!frz.any (λk=>k.eqk p.2)&&(Nat.ble m p.1.base||p.1==p.2))
def Jh:cp->Bool
 | .fam _=>true
 | .void=>true
 | c=>c.live
def p5 (m nx':Nat) (σ:List (Nm×Nm)):Hp->Bool
 | []=>true
 | p::r=>Nat.blt p.1.base nx'&&(Nat.ble m p.1.base || !Jh p.2||(di σ p.1).isSome)&&p5 m nx' σ r
theorem ui {hp hp':Hp} {σ:List (Nm×Nm)} {frz:List Nm} {m:Nat} (h2:pd hp hp' σ frz hp') (h3:oW m σ frz=true):vr P (bW hp) (bW hp') (di σ) (my frz):=by
 simp only [oW,cT] at h3;refine ⟨λk'=>?_,λk1 k2 k _ _=>uZ h3.1.1 h3.1.2 k1 k2 k,λk hk k' _ hs=>?_⟩
 ·have gen:∀ (l:Hp),pd hp hp' σ frz l->sN P (bW hp) (bW hp') (di σ) (my frz) k' (bW l k'):=by
   intro l;induction l with
   | nil=>exact λ_=>trivial
   | cons p r ih =>
    intro hl;simp only [bW];by_cases hp:p.1.key=k'.key
    ·rw [Nm.eqk_iff.2 hp,cd];exact Hi hl.1 hp
    ·rw [Nm.eqk_no hp,ck];exact ih hl.2
  exact gen hp' h2
 ·obtain ⟨p,hp,hpk,rfl⟩:=sT hs;have h4:=dQ.1 h3.2 p hp;simp only [cT,kp,List.any_eq_false] at h4;obtain ⟨j,hj,hjk⟩:=hk;have h5:=h4.1 j hj;rw [Nm.eqk_iff.2 (hjk.trans (CH (dQ.1 h3.1.2 p hp) hpk))] at h5;exact h5 rfl
theorem rE {m nx':Nat} {σ:List (Nm×Nm)}:∀ {l:Hp},p5 m nx' σ l=true->∀ k:Nm,nx'<=k.base->bW l k = .unborn
 | [],_,k,_=>rfl
 | p::r,h,k,hk=>by
  simp only [p5,cT] at h
  have hlt:p.1.base<nx':=by simpa [kG] using h.1.1
  simp only [bW]
  rw [Nm.eqk_no (λe=>by have:=dH Nm.base e;simp at this;omega),ck]
  exact rE h.2 k hk
theorem u4 {m nx':Nat} {σ:List (Nm×Nm)} (hσ:∀ p∈σ,Nat.ble m p.1.base=true\/p.1=p.2):∀ {l:Hp},p5 m nx' σ l=true->∀ k:Nm,k.base<m->((bW l k).live=true\/bW l k = .void)->di σ k=some k
 | [],_,k,_,hl=>by rcases hl with hl|hl<;>cases hl
 | p::r,h,k,hk,hl=>by
  simp only [p5,cT] at h
  simp only [bW] at hl
  by_cases hp:p.1.key=k.key
  ·rw [Nm.eqk_iff.2 hp,cd] at hl
   have h2:=h.1.2
   have hlE:Jh p.2=true:=by
    cases k with
    | t a =>
     simp only [cp.mem] at hl;rcases hl with hl|hl<;>cases hp2:p.2<;>rw [hp2] at hl<;>first|rfl|cases hl
    | s F i =>
     simp only [cp.mem,cp.at] at hl;rcases hl with hl|hl<;>cases hp2:p.2<;>rw [hp2] at hl<;>first|rfl|cases hl
   have hb:p.1.base=k.base:=by rw [←Nm.key_base,hp,Nm.key_base]
   rw [hlE] at h2;have hble:Nat.ble m p.1.base=false:=by cases hb2:Nat.ble m p.1.base with
    | false=>rfl
    | true=>have:=cV hb2;omega
   rw [hble] at h2;simp only [jo,Bool.or_false,Bool.false_or,qG] at h2;obtain ⟨j,hj⟩:=h2;have hjk:∃ j2,di σ k=some j2:=by
    cases k with
    | t a=>rw [Nm.key_t,Nm.key_eq_t] at hp;rw [hp] at hj;exact ⟨j,hj⟩
    | s F i =>
     cases hp1:p.1 with
     | t a=>rw [hp1] at hp;simp [Nm.key] at hp
     | s G z =>
      rw [hp1] at hp hj;simp only [Nm.key_s,Nm.s.injEq,k8] at hp;subst hp;rw [jq σ G z] at hj;rw [jq σ G i];cases hs:di σ (.s G 0) with
      | none=>rw [hs] at hj;cases hj
      | some y=>exact ⟨_,rfl⟩
   obtain ⟨j2,hj2⟩:=hjk;obtain ⟨q,hq,hqk,he⟩:=sT hj2;have hqb:q.1.base=k.base:=by rw [←Nm.key_base,hqk,Nm.key_base]
   rcases hσ q hq with h3|h3
   ·have:=cV h3;omega
   ·rw [hj2,he,←h3];cases k with
    | t a=>rw [Nm.key_t,Nm.key_eq_t] at hqk;simp only [Nm.to,hqk]
    | s F i=>simp only [Nm.to,hqb,Nm.base_s]
  ·rw [Nm.eqk_no hp,ck] at hl;exact u4 hσ h.2 k hk hl
theorem EO {m:Nat} {fr fr':Fr} {hp hp':Hp} {nx':Nat} (σ:List (Nm×Nm)) (frz:List Nm) (h1:CG hp hp' σ frz fr fr') (h2:pd hp hp' σ frz hp') (h3:oW m σ frz=true) (h4:p5 m nx' σ hp'=true) (h5:m<=nx'):o0 P m fr hp fr' hp' nx' :=
 ⟨⟨di σ,frz,ui h2 h3,λk hk hl=>u4 (λp hp=>by
  simp only [oW,cT,dQ] at h3
  have:=(h3.2 p hp).2
  simpa using this) h4 k hk hl,Be h1⟩,rE h4,h5⟩
theorem LK {m:Nat} {x:SV} {hp:Hp} {Post:SV->Hp->Nat->Prop} (x':SV) (hp':Hp) (nx':Nat) (σ:List (Nm×Nm)) (frz:List Nm) (hpost:Post x' hp' nx') (h1:fu hp hp' σ frz x x') (h2:pd hp hp' σ frz hp') (h3:oW m σ frz=true) (h4:p5 m nx' σ hp'=true) (h5:m<=nx'):wO P m Post x hp :=
 ⟨x',hp',nx',hpost,EO σ frz ⟨h1,trivial⟩ h2 h3 h4 h5⟩
theorem JZ {m N:Nat} {c:Code} {Q:gY} {fr:Fr} {hp:Hp} {nx:Nat} {S:Type} (fr0:S->Fr) (hp0:S->Hp) (nx0:S->Nat) (I:S->Prop) (μ:S->Nat) (s0:S) (hI:I s0) (h0:o0 P m fr hp (fr0 s0) (hp0 s0) (nx0 s0))
  (h:∀ (s:S) (R:gY),I s->(∀ fr' hp' nx' s',I s'->μ s'<μ s->o0 P m fr' hp' (fr0 s') (hp0 s') (nx0 s')->R .normal fr' hp' nx')->(∀ id,R (.exit id)=Q (.exit id))->R .ret=Q .ret->lP P m N c R (fr0 s) (hp0 s) (nx0 s)):lP P m N (.loop c) Q fr hp nx:=by
 refine ⟨0,S,fr0,hp0,nx0,I,μ,⟨s0,hI,h0⟩,λs hs=>?_⟩;exact h s _ hs (λfr' hp' nx' s' h1 h2 h3=>⟨s',h1,h2,h3⟩) (λ_=>rfl) rfl
mutual
theorem sU {τ:Nm->Nm}:∀ {s:SV},s.cl=true->iy τ s=s
 | .any,_=>rfl
 | .v _,_=>rfl
 | .agg xs,h=>by rw [iy,nS (xs:=xs) h]
 | .tup xs,h=>by rw [iy,nS (xs:=xs) h]
 | .sl _ xs,h=>by rw [iy,nS (xs:=xs) h]
 | .iptr xs _,h=>by rw [iy,nS (xs:=xs) h]
 | .clo _ xs,h=>by rw [iy,nS (xs:=xs) h]
 | .ifc _ x,h=>by rw [iy,sU (s:=x) h]
 | .mth _ x,h=>by rw [iy,sU (s:=x) h]
 | .gd _ x,h=>by rw [iy,sU (s:=x) h]
theorem nS {τ:Nm->Nm}:∀ {xs:List SV},mN xs=true->jz τ xs=xs
 | [],_=>rfl
 | x::xs,h=>by
  simp only [mN,cT] at h
  rw [jz,sU h.1,nS h.2]
end
def EP (m:Nat) (hin:Hp) (σ:List (Nm×Nm)):Bool:=σ.all λp=>Nat.blt p.1.base m&&Ng hin p.1
def qg (hp hin:Hp):List (Nm×Nm)->Prop
 | []=>True
 | p::r=>(match p.1 with
  | .t _=>True
  | .s F _=>∀ i:Int,(bW hin (.s F i)).live=true\/(bW hin (.s F i) = .dead/\bW hp (.s p.2.base i) = .dead)\/(bW hin (.s F i) = .void/\bW hp (.s p.2.base i) = .void))/\qg hp hin r
theorem Bg {hp hin:Hp}:∀ {σ:List (Nm×Nm)},qg hp hin σ->∀ p∈σ,∀ F z,p.1 = .s F z->∀ i:Int,(bW hin (.s F i)).live=true\/(bW hin (.s F i) = .dead/\bW hp (.s p.2.base i) = .dead)\/(bW hin (.s F i) = .void/\bW hp (.s p.2.base i) = .void)
 | [],_,p,hp,_,_,_=>by cases hp
 | q::r,h,p,hp,F,z,e=>by
  rcases fc.1 hp with rfl|hp
  ·have:=h.1;rw [e] at this;exact this
  ·exact Bg h.2 p hp F z e
theorem Bh {m:Nat} {hp hin:Hp} {σ:List (Nm×Nm)} (h5:EP m hin σ=true) (h6:qg hp hin σ):∀ k j,di σ k=some j->k.base<m/\((bW hin k).live=true\/(bW hin k = .dead/\bW hp j = .dead)\/(bW hin k = .void/\bW hp j = .void)):=λk j hk=>by
 obtain ⟨p,hp,hpk,rfl⟩:=sT hk
 simp only [EP,dQ,cT] at h5
 obtain ⟨h7,h8⟩:=h5 p hp
 have hb:p.1.base=k.base:=by rw [←Nm.key_base,hpk,Nm.key_base]
 refine ⟨by rw [←hb];simpa [kG] using h7,?_⟩
 cases k with
 | t a=>rw [Nm.key_t,Nm.key_eq_t] at hpk;rw [hpk] at h8;exact .inl h8
 | s F i =>
  cases hp1:p.1 with
  | t a=>rw [hp1] at hpk;simp [Nm.key] at hpk
  | s G z =>
   rw [hp1] at hpk
   simp only [Nm.key_s,Nm.s.injEq,k8] at hpk
   subst hpk
   exact Bg h6 p hp G z hp1 i
theorem CI:q9 λ_=>none:=λ_ _=>rfl
theorem c7 {f:FuncId} {args:List SV} {dst:Option Tmp} {ops:Array Oper} {rest:List Oper} {fr:Fr} {hp:Hp} {nx:Nat} {K:Fr->Hp->Nat->Prop} {x:SV} (m8:cS P f args [] 0 (λr h n=>r=x/\h=[]/\n=0)) (ha:mN args=true) (hx:x.cl=true)
  (h:lN P ops rest (gg dst x fr) hp nx K):Hg P f args dst ops rest fr hp nx K:=by
 refine ⟨args,[],0,_,λ_=>none,[],m8,EL,CI,λk _=>⟨rfl,rfl⟩,(λ_ _ _ h=>by cases h),(λ_ _ h=>by cases h),rfl,λi y z hy hz=>?_,⟨x,[],0,rfl,rfl,rfl⟩,(λh=>by cases h),?_⟩
 ·rw [hy] at hz;cases hz;exact .cl (lF ha i y hy)
 ·rintro res hp' nx' ⟨rfl,rfl,rfl⟩;refine ⟨rfl,.inl rfl,_,sQ.refl _ _ _,?_⟩;rw [sU hx];exact h
end
section
abbrev iS (n:Int):SV:=.v (.int .i64 n)
abbrev bS (b:Bool):SV:=.v (.bool b)
end
section
end
section
theorem nT {P:Program} {f:FuncId} {args:List SV} {dst:Option Tmp} {ops:Array Oper} {rest:List Oper} {fr:Fr} {hp:Hp} {nx:Nat} {acc:List fR} {K:Fr->Hp->Nat->Prop} {x:SV} (m8:cS P f args [] 0 (λr h n=>r=x/\h=[]/\n=0)) (ha:mN args=true) (hx:x.cl=true)
  (h:yo P ops rest (gg dst x fr) hp (nx+1) (acc++[⟨[],[],nx,nx⟩]) K):Jg P f args dst ops rest fr hp nx acc K:=by
 refine ⟨args,[],0,_,λ_=>none,[],m8,EL,CI,λk _=>⟨rfl,rfl⟩,(λ_ _ _ h=>by cases h),(λ_ _ h=>by cases h),rfl,λi y z hy hz=>?_,⟨x,[],0,rfl,rfl,rfl⟩,(λ_=>?_),?_⟩
 ·rw [hy] at hz;cases hz;exact .cl (lF ha i y hy)
 ·rintro r1 h1 n1 r2 h2 n2 ⟨rfl,rfl,rfl⟩ ⟨rfl,rfl,rfl⟩;exact ⟨rfl,rfl,rfl⟩
 ·rintro res hp' nx' ⟨rfl,rfl,rfl⟩;refine ⟨rfl,.inl rfl,_,sQ.refl _ _ _,?_⟩;rw [sU hx];exact h
end
section
open Go.RowKit
inductive Ty where
 | int (k:IntKind)
 | bool
 | str
 | sl (e:Ty)
 | unit
 | pair (a b:Ty)
 | arr (n:Nat) (e:Ty)
abbrev Ty.den:Ty->Type
 | .int _=>Int
 | .bool=>Bool
 | .str=>ByteArray
 | .sl e=>List e.den
 | .unit=>Unit
 | .pair a b=>a.den×b.den
 | .arr _ e=>List e.den
def Ty.width:Ty->Nat
 | .unit=>0
 | .pair a b=>a.width+b.width
 | .arr n e=>n*e.width
 | _=>1
def Ty.sv:(T:Ty)->T.den->List SV
 | .int k,x=>[.v (.int k x)]
 | .bool,x=>[.v (.bool x)]
 | .str,x=>[.v (.string x)]
 | .sl e,xs=>[.sl xs.length (xs.flatMap e.sv)]
 | .unit,_=>[]
 | .pair a b,x=>a.sv x.1++b.sv x.2
 | .arr _ e,xs=>xs.flatMap e.sv
def Ty.ok:(T:Ty)->T.den->Prop
 | .int k,x=>(Lit.int k x).wf=true
 | .bool,_=>True
 | .str,x=>x.size<=maxLen
 | .sl e,xs=>xs.length<=maxLen/\∀ x∈xs,e.ok x
 | .unit,_=>True
 | .pair a b,x=>a.ok x.1/\b.ok x.2
 | .arr n e,xs=>xs.length=n/\∀ x∈xs,e.ok x
def Ty.arg:(T:Ty)->T.den->SV
 | .int k,x=>.v (.int k x)
 | .bool,x=>.v (.bool x)
 | .str,x=>.v (.string x)
 | .sl e,xs=>.sl xs.length (xs.flatMap e.sv)
 | .unit,_=>.agg []
 | .pair a b,x=>.agg (a.sv x.1++b.sv x.2)
 | .arr _ e,xs=>.agg (xs.flatMap e.sv)
theorem Ty.sv_length:∀ (T:Ty) (x:T.den),T.ok x->(T.sv x).length=T.width
 | .int _,_,_=>rfl
 | .bool,_,_=>rfl
 | .str,_,_=>rfl
 | .sl _,_,_=>rfl
 | .unit,_,_=>rfl
 | .pair a b,x,h=>by simp only [Ty.sv,ec,Ty.width,Ty.sv_length a x.1 h.1,Ty.sv_length b x.2 h.2]
 | .arr n e,xs,h=>by
  obtain ⟨hn,h⟩:=h
  have:∀ xs:List e.den,(∀ x∈xs,e.ok x)->(xs.flatMap e.sv).length=xs.length*e.width:=by
   intro xs;induction xs with
   | nil=>exact λ_=>by simp
   | cons x xs ih=>exact λhx=>by rw [pG,ec,ih λy hy=>hx y (by simp [hy]),Ty.sv_length e x (hx x (by simp)),gq];rw [gW];omega
  simp only [Ty.sv,Ty.width];rw [this xs h,hn]
mutual
def pe (P:Program):Nat->TypeId->Ty->Bool
 | 0,_,_=>false
 | F+1,t,T=>match P.underlying t,T with
  | some (.int k),.int k'=>k==k'
  | some .bool,.bool=>true
  | some .string,.str=>true
  | some (.slice e),.sl E=>P.cellsOf e==E.width && !(E.width==0)&&pe P F e E
  | some (.struct fs),.pair a b=>P.cellsOf t==(Ty.pair a b).width&&qO P F fs.toList 0 (.pair a b)
  | some (.struct fs),.unit=>P.cellsOf t==0&&fs.toList.isEmpty
  | some (.array n e),.arr n' E=>n==n'&&P.cellsOf e==E.width&&P.cellsOf t==n*E.width&&pe P F e E
  | _,_=>false
def qO (P:Program):Nat->List Field->Nat->Ty->Bool
 | 0,_,_,_=>false
 | F+1,fs,off,T=>match fs,T with
  | [],.unit=>true
  | f::r,.pair a b=>f.offset==off&&P.cellsOf f.type==a.width&&pe P F f.type a&&qO P F r (off+a.width) b
  | _,_=>false
end
theorem tZ {α:Type} {f:α->List SV} {z:Nat} (hz:0<z):∀ (xs:List α),(∀ x∈xs,(f x).length=z)->∀ i s,(xs.flatMap f)[i]? = some s->∃ x,xs[i/z]? = some x/\(f x)[i%z]? = some s
 | [],_,i,s,h=>by simp at h
 | a::xs,hl,i,s,h=>by
  rw [pG,pE] at h
  have ha:=hl a (by simp)
  rw [ha] at h
  by_cases hi:i<z
  ·rw [if_pos hi] at h
   rw [Nat.div_eq_of_lt hi,uD hi]
   exact ⟨a,rfl,h⟩
  ·rw [if_neg hi] at h
   obtain ⟨x,h1,h2⟩:=tZ hz xs (λx hx=>hl x (by simp [hx])) (i-z) s h
   refine ⟨x,?_,?_⟩
   ·rw [show i/z=(i-z)/z+1 from by rw [Nat.div_eq_sub_div hz (by omega)],List.getElem?_cons_succ];exact h1
   ·rw [Nat.mod_eq_sub_mod (by omega)];exact h2
def wW (P:Program) (C:Nm->cp) (ids:dD) (I:Nat->Prop) (w:World) (cs:List Value) (off:Nat) (l:List SV):Prop :=
∀i s,l[i]? = some s->dT P C ids I w s (cs.getD (off+i) undef)
theorem Bi {α β:Type} {Q:Nat->α->β->Prop}:∀ (ys:List α) (o:Nat),(∀ i y,ys[i]? = some y->∃ x,Q (o+i) y x)->∃ xs:List β,xs.length=ys.length/\∀ i x,xs[i]? = some x->∃ y,ys[i]? = some y/\Q (o+i) y x
 | [],_,_=>⟨[],rfl,λi x h=>by simp at h⟩
 | a::ys,o,h=>by
  obtain ⟨x,hx⟩:=h 0 a rfl
  obtain ⟨xs,h1,h2⟩:=Bi (Q:=Q) ys (o+1) λi y hy=>by
   have:=h (i+1) y (by simpa using hy)
   rwa [show o+(i+1)=o+1+i from by omega] at this
  refine ⟨x::xs,by simp [h1],λi z hz=>?_⟩
  cases i with
  | zero=>simp at hz;subst hz;exact ⟨a,rfl,hx⟩
  | succ i =>
   obtain ⟨y,g1,g2⟩:=h2 i z (by simpa using hz)
   exact ⟨y,by simpa using g1,by rw [show o+(i+1)=o+1+i from by omega];exact g2⟩
section
variable {H:Type} {enc:TypeId×Value->H} {P:Program} {w:World} {sp:Nat->Bool} {held:Bool} {C:Nm->cp} {ids:dD} {I:Nat->Prop}
def Ty.rep (H:Type):(T:Ty)->T.den->DataW H->Prop
 | .int k,x,d=>d = .lit (.int k x)
 | .bool,x,d=>d = .lit (.bool x)
 | .str,x,d=>d = .lit (.string x.data.toList)
 | .sl e,xs,d=>(xs=[]/\d = .nil)\/∃ el spn,d = .slice el spn/\el.length=xs.length/\∀ (i:Nat) (x:e.den),(xs:List e.den)[i]? = some x->∃ y,el[i]? = some y/\e.rep H x y
 | .unit,_,_=>True
 | .pair a b,x,d=>∃ p r,d = .agg (p::r)/\a.rep H x.1 p/\b.rep H x.2 (.agg r)
 | .arr _ e,xs,d=>∃ el,d = .agg el/\el.length=xs.length/\∀ (i:Nat) (x:e.den),(xs:List e.den)[i]? = some x->∃ y,el[i]? = some y/\e.rep H x y
def Hj (H:Type) (enc:TypeId×Value->H) (P:Program) (w:World) (sp:Nat->Bool) (held:Bool) (C:Nm->cp) (ids:dD) (I:Nat->Prop) (T:Ty):Prop :=
∀(F fuel:Nat) (t:TypeId) (cs:List Value) (d:DataW H) (ps:List MemPlace),pe P F t T=true->DataW.trod enc P w 0 sp held fuel t cs=some (d,ps) ->
 ∃x:T.den,T.ok x/\cs.length=T.width/\wW P C ids I w cs 0 (T.sv x)/\T.rep H x d
def CJ (H:Type) (enc:TypeId×Value->H) (P:Program) (w:World) (sp:Nat->Bool) (held:Bool) (C:Nm->cp) (ids:dD) (I:Nat->Prop) (T:Ty):Prop :=
∀(F fuel:Nat) (fs:List Field) (off:Nat) (cs:List Value) (xs:List (DataW H×List MemPlace)),qO P F fs off T=true->xs.length=fs.length->(∀ (i:Nat) (f:Field),fs[i]? = some f->DataW.trod enc P w 0 sp held fuel f.type ((cs.drop f.offset).take (P.cellsOf f.type))=xs[i]?) ->
 ∃x:T.den,T.ok x/\wW P C ids I w cs off (T.sv x)/\T.rep H x (.agg (xs.map (·.1)))
theorem Iv {cs:List Value} {off:Nat} {l r:List SV} {n:Nat} (h:wW P C ids I w cs off l) (hn:l.length=n) (g:wW P C ids I w cs (off+n) r):wW P C ids I w cs off (l++r):=λi s hi=>by
 rw [pE] at hi
 by_cases hl:i<l.length
 ·rw [if_pos hl] at hi;exact h i s hi
 ·rw [if_neg hl] at hi
  have:=g _ s hi
  rwa [show off+n+(i-l.length)=off+i from by omega] at this
theorem sV {v:Value} {s:SV} (h:dT P C ids I w s v):wW P C ids I w [v] 0 [s]:=λi x hi=>by
 cases i with
 | zero=>simp at hi;subst hi;exact h
 | succ i=>simp at hi
theorem FV {fuel:Nat} {t e:TypeId} {n:Nat} {cs:List Value} {x:DataW H×List MemPlace} (ht:P.underlying t=some (.array n e)) (h:DataW.trod enc P w 0 sp held fuel t cs=some x) :
 ∃(xs:List (DataW H×List MemPlace)) (m:Nat),x.1 = .agg (xs.map (·.1))/\cs.length=P.cellsOf t/\xs.length=n/\∀ i,i<n->DataW.trod enc P w 0 sp held m e ((cs.drop (i*P.cellsOf e)).take (P.cellsOf e))=xs[i]?:=by
 cases fuel with
 | zero=>simp [DataW.trod] at h
 | succ m =>
  unfold DataW.trod at h;rw [ht] at h;split at h<;>simp_all;obtain ⟨hl,xs,hp,hd⟩:=h;refine ⟨xs,by rw [←hd],?_,m,λi hi=>mapM_some_get hp i i (by simp [hi])⟩;simpa using mapM_some_length hp
theorem zD {e:Ty} (ih:Hj H enc P w sp held C ids I e) {F m:Nat} {te:TypeId} (hB:pe P F te e=true) {n:Nat} {row:Nat->List Value} {els:List (DataW H×List MemPlace)} (hl:els.length=n)
  (h:∀ i,i<n->DataW.trod enc P w 0 sp held m te (row i)=els[i]?):∃ xs:List e.den,xs.length=n/\(∀ x∈xs,e.ok x)/\(∀ (i:Nat) (x:e.den),xs[i]? = some x->(row i).length=e.width/\wW P C ids I w (row i) 0 (e.sv x))/\∀ (i:Nat) (x:e.den),xs[i]? = some x->∃ y,(els.map (·.1))[i]? = some y/\e.rep H x y:=by
 obtain ⟨xs,h1,h2⟩:=Bi (β:=e.den) (Q:=λi (y:DataW H×List MemPlace) x=>e.ok x/\(row i).length=e.width/\wW P C ids I w (row i) 0 (e.sv x)/\e.rep H x y.1) els 0 λi y hy=>by
  have hi:i<n:=by rw [←hl];exact (dy.1 hy).1
  rw [dm];exact ih F m te (row i) y.1 y.2 hB (by rw [h i hi,hy])
 refine ⟨xs,h1.trans hl,λx hx=>?_,λi x hx=>?_,λi x hx=>?_⟩
 ·obtain ⟨i,hi,rfl⟩:=uA hx;obtain ⟨y,_,g,_⟩:=h2 i _ (dz hi);exact g
 ·obtain ⟨y,_,_,g⟩:=h2 i x hx;rw [dm] at g;exact ⟨g.1,g.2.1⟩
 ·obtain ⟨y,g1,_,_,_,g⟩:=h2 i x hx;exact ⟨y.1,by rw [fW,g1];rfl,g⟩
theorem Iw {a:Addr} {n:Nat} {v:Value} (h:w.cell? (a.add n)=some v):a.spot=none\/0<n:=by
 unfold Addr.add at h;by_cases hn:n=0
 ·rw [if_pos hn] at h;unfold World.cell? at h;split at h
  ·split at h
   ·cases h
   ·rename_i hs;left;cases hsp:a.spot with
    | none=>rfl
    | some _=>rw [hsp] at hs;simp at hs
  ·cases h
 ·exact .inr (by omega)
theorem reads (hI:∀ b,b<w.heap.size->I b):∀ (T:Ty),Hj H enc P w sp held C ids I T/\CJ H enc P w sp held C ids I T:=by
 intro T
 have noF:∀ {T:Ty},(∀ a b,T≠.pair a b)->T≠.unit->CJ H enc P w sp held C ids I T:=λ{T} h1 h2 F fuel fs off cs xs hB _ _=>by
  cases F with
  | zero=>simp [qO] at hB
  | succ F =>
   unfold qO at hB
   cases fs<;>cases T<;>simp at hB<;>first|exact absurd rfl h2|exact absurd rfl (h1 _ _)
 have inv:∀ {F:Nat} {t:TypeId} {T:Ty},pe P F t T=true->∃ F' d0,F=F'+1/\P.underlying t=some d0:=λ{F t T} hB=>by
  cases F with
  | zero=>simp [pe] at hB
  | succ F =>
   unfold pe at hB
   cases hu:P.underlying t with
   | none=>rw [hu] at hB;simp at hB
   | some d0=>exact ⟨F,d0,rfl,rfl⟩
 induction T with
 | int k =>
  refine ⟨λF fuel t cs d ps hB hr=>?_,noF (by simp) (by simp)⟩
  obtain ⟨F,d0,rfl,hu⟩:=inv hB
  unfold pe at hB
  rw [hu] at hB
  cases d0<;>simp at hB
  subst hB
  obtain ⟨n,rfl,h1,h2⟩:=DataW.trod_int hu hr
  cases h1
  exact ⟨n,h2,rfl,sV .v,rfl⟩
 | bool =>
  refine ⟨λF fuel t cs d ps hB hr=>?_,noF (by simp) (by simp)⟩
  obtain ⟨F,d0,rfl,hu⟩:=inv hB
  unfold pe at hB
  rw [hu] at hB
  cases d0<;>simp at hB
  obtain ⟨n,rfl,h1⟩:=DataW.trod_bool hu hr
  cases h1
  exact ⟨n,trivial,rfl,sV .v,rfl⟩
 | str =>
  refine ⟨λF fuel t cs d ps hB hr=>?_,noF (by simp) (by simp)⟩
  obtain ⟨F,d0,rfl,hu⟩:=inv hB
  unfold pe at hB
  rw [hu] at hB
  cases d0<;>simp at hB
  obtain ⟨n,rfl,h1,h2⟩:=DataW.trod_string hu hr
  cases h1
  exact ⟨n,h2,rfl,sV .v,rfl⟩
 | sl e ih =>
  refine ⟨λF fuel t cs d ps hB hr=>?_,noF (by simp) (by simp)⟩
  obtain ⟨F,d0,rfl,hu⟩:=inv hB
  unfold pe at hB
  rw [hu] at hB
  cases d0<;>simp at hB
  rename_i te
  obtain ⟨⟨hw,h0⟩,hB⟩:=hB
  rcases DataW.trod_slice hu hr with ⟨rfl,h1⟩|⟨a,len,cap,els,rest,m,_,rfl,h1,_,h2,h3,h4,h5,_⟩
  ·cases h1
   exact ⟨[],⟨io _,λx hx=>by cases hx⟩,rfl,sV (.sl0 (io _)),.inl ⟨rfl,rfl⟩⟩
  ·cases h1
   rw [hw] at h5
   -- the rows
   let row:Nat->List Value:=λi=>(w.cells? 0 (a.add (i*e.width)) e.width).getD []
   have hrow:∀ i,i<len->w.cells? 0 (a.add (i*e.width)) e.width=some (row i):=λi hi=>by
    have:=h5 i hi
    rw [dz (by omega)] at this
    cases hc:w.cells? 0 (a.add (i*e.width)) e.width with
    | none=>rw [hc] at this;cases this
    | some cs=>simp [row,hc]
   obtain ⟨xs,g1,g2,g3,g4⟩:=zD ih.1 hB (row:=row) h4 λi hi=>by rw [←h5 i hi,hrow i hi];rfl
   refine ⟨xs,⟨by rw [g1];omega,g2⟩,rfl,?_,.inr ⟨_,_,rfl,by rw [eI,h4,g1],g4⟩⟩
   refine sV ?_
   rw [g1]
   by_cases hlen:len=0
   ·subst hlen
    have:xs=[]:=iT g1
    subst this
    exact .sl0 h3
   ·-- the first row's first cell
    obtain ⟨_,c1,c2⟩:=World.cells?_some (hrow 0 (by omega))
    have hc0:=c2 0 (by omega)
    rw [dz (by omega)] at hc0
    have hspot:a.spot=none:=by
     rw [lJ] at hc0
     have e0:∀ a:Addr,a.add 0=a:=λa=>by simp [Addr.add]
     rw [e0] at hc0
     rcases Iw hc0 with h|h
     ·exact h
     ·omega
    have hblk:a.block<w.heap.size:=by
     have:=World.cells?_block (hrow 0 (by omega)) (by omega)
     simpa [Addr.add] using this
    obtain ⟨ab,ao,asp⟩:=a
    simp only at hspot hblk
    subst hspot
    have hcell:∀ i s,(xs.flatMap e.sv)[i]? = some s->∃ c,w.cell? ⟨ab,ao+i,none⟩=some c/\dT P C ids I w s c:=λi s hi=>by
     obtain ⟨x,q1,q2⟩:=tZ (sG h0) xs (λx hx=>Ty.sv_length e x (g2 x hx)) i s hi
     have hq:i/e.width<len:=by rw [←g1];exact (dy.1 q1).1
     obtain ⟨r1,r2⟩:=g3 _ x q1
     have r3:=r2 _ s q2
     rw [dm] at r3
     obtain ⟨_,_,c4⟩:=World.cells?_some (hrow _ hq)
     have hm:i%e.width<e.width:=Nat.mod_lt _ (sG h0)
     have c5:=c4 _ hm
     rw [dz (by omega)] at c5
     refine ⟨_,?_,r3⟩
     rw [dA,dz (by omega),gV,←c5]
     congr 1
     have hdm:=Nat.div_add_mod i e.width
     rw [Nat.mul_comm] at hdm
     unfold Addr.add
     by_cases hz1:i/e.width*e.width=0
     ·rw [if_pos hz1]
      by_cases hz2:i%e.width=0
      ·rw [if_pos hz2];simp;try omega
      ·rw [if_neg hz2];simp;try omega
     ·rw [if_neg hz1]
      by_cases hz2:i%e.width=0
      ·rw [if_pos hz2];simp;try omega
      ·rw [if_neg hz2];simp;try omega
    refine .sl ab ao cap (λi=>(w.cell? ⟨ab,ao+i,none⟩).getD undef) (hI _ hblk) h2 h3 (λi s hi=>?_) λi s hi=>?_
    ·obtain ⟨c,q1,_⟩:=hcell i s hi;rw [q1];rfl
    ·obtain ⟨c,q1,q2⟩:=hcell i s hi;rw [q1];exact q2
 | unit =>
  refine ⟨λF fuel t cs d ps hB hr=>?_,λF fuel fs off cs xs hB hl hx=>⟨(),trivial,λi s hi=>by simp [Ty.sv] at hi,trivial⟩⟩
  obtain ⟨F,d0,rfl,hu⟩:=inv hB
  unfold pe at hB
  rw [hu] at hB
  cases d0<;>simp at hB
  obtain ⟨xs,n,_,h1,h2,_⟩:=DataW.trod_struct hu hr
  exact ⟨(),trivial,by rw [h2,hB.1];rfl,λi s hi=>by simp [Ty.sv] at hi,trivial⟩
 | pair a b iha ihb =>
  have hF:CJ H enc P w sp held C ids I (.pair a b):=λF fuel fs off cs xs hB hl hx=>by
   cases F with
   | zero=>simp [qO] at hB
   | succ F =>
    unfold qO at hB
    cases fs with
    | nil=>simp at hB
    | cons f r =>
     simp only [cT,jE] at hB
     obtain ⟨⟨⟨h1,h2⟩,h3⟩,h4⟩:=hB
     cases xs with
     | nil=>simp at hl
     | cons y ys =>
      have hy:=hx 0 f rfl
      simp only [pD] at hy
      obtain ⟨x1,p1,p2,p3,p4⟩:=iha.1 F fuel f.type _ y.1 y.2 h3 hy
      obtain ⟨x2,q1,q3,q4⟩:=ihb.2 F fuel r (off+a.width) cs ys h4 (by simpa using hl) λi f' hf'=>by
       have:=hx (i+1) f' (by simpa using hf')
       simpa using this
      refine ⟨(x1,x2),⟨p1,q1⟩,Iv (n:=a.width) (λi s hi=>?_) (Ty.sv_length a x1 p1) q3,⟨y.1,ys.map (·.1),rfl,p4,q4⟩⟩
      have:=p3 i s hi
      have hi2:i<a.width:=by rw [←Ty.sv_length a x1 p1];exact (dy.1 hi).1
      rw [dm,dA,mI,if_pos (by omega),na,h1] at this
      rw [dA]
      exact this
  refine ⟨λF fuel t cs d ps hB hr=>?_,hF⟩
  obtain ⟨F,d0,rfl,hu⟩:=inv hB
  unfold pe at hB
  rw [hu] at hB
  cases d0<;>simp at hB
  rename_i fs
  obtain ⟨hw,hB⟩:=hB
  obtain ⟨xs,n,_,h1,h2,h3,h4⟩:=DataW.trod_struct hu hr
  cases h1
  obtain ⟨x,g1,g2,g3⟩:=hF F n fs.toList 0 cs xs (by simpa using hB) (by simpa using h3) λi f hf=>h4 i f (by simpa using hf)
  exact ⟨x,g1,by rw [h2,hw],g2,g3⟩
 | arr n e ih =>
  refine ⟨λF fuel t cs d ps hB hr=>?_,noF (by simp) (by simp)⟩
  obtain ⟨F,d0,rfl,hu⟩:=inv hB
  unfold pe at hB
  rw [hu] at hB
  cases d0<;>simp at hB
  rename_i n' te
  obtain ⟨⟨⟨rfl,h1⟩,h2⟩,hB⟩:=hB
  obtain ⟨els,m,h3,h4,h5,h6⟩:=FV hu hr
  simp only at h3
  subst h3
  rw [h1] at h6
  obtain ⟨xs,g1,g2,g3,g4⟩:=zD ih.1 hB (row:=λi=>(cs.drop (i*e.width)).take e.width) h5 h6
  refine ⟨xs,⟨g1,g2⟩,by rw [h4,h2];rfl,λi s hi=>?_,⟨_,rfl,by rw [eI,h5,g1],g4⟩⟩
  by_cases h0:e.width=0
  ·have:xs.flatMap e.sv=[]:=iT (by
    have:=Ty.sv_length (.arr n' e) xs ⟨g1,g2⟩
    simp only [Ty.sv,Ty.width,h0,Nat.mul_zero] at this
    exact this)
   simp only [Ty.sv,this] at hi
   simp at hi
  ·obtain ⟨x,q1,q2⟩:=tZ (sG h0) xs (λx hx=>Ty.sv_length e x (g2 x hx)) i s hi
   obtain ⟨r1,r2⟩:=g3 _ x q1
   have r3:=r2 _ s q2
   have hm:i%e.width<e.width:=Nat.mod_lt _ (sG h0)
   have hdm:=Nat.div_add_mod i e.width
   rw [Nat.mul_comm] at hdm
   rw [dm,dA,mI,if_pos hm,na,hdm] at r3
   rw [dm,dA]
   exact r3
end
end
section
open Go.RowKit Go.ChangeShapes Go.WideShapes
abbrev Tys.den:List Ty->Type
 | []=>Unit
 | T::r=>T.den×Tys.den r
def Tys.args:(l:List Ty)->Tys.den l->List SV
 | [],_=>[]
 | T::r,x=>T.arg x.1::Tys.args r x.2
def Tys.ok:(l:List Ty)->Tys.den l->Prop
 | [],_=>True
 | T::r,x=>T.ok x.1/\Tys.ok r x.2
def Tys.rep (H:Type):(l:List Ty)->Tys.den l->List (DataW H)->Prop
 | [],_,ds=>ds=[]
 | T::r,x,ds=>∃ d s,ds=d::s/\T.rep H x.1 d/\Tys.rep H r x.2 s
def u5 (P:Program) (F:Nat):List TypeId->List Ty->Bool
 | [],[]=>true
 | t::r,T::s=>pe P F t T&&P.readableRec t&&Nat.blt t P.types.size&&u5 P F r s
 | _,_=>false
section
variable {H:Type} {enc:TypeId×Value->H} {P:Program} {w:World} {C:Nm->cp} {ids:dD} {I:Nat->Prop}
theorem xl {r:Reach} {b0:Nat} {t:TypeId} {v:Value} {d:TypeDesc} (hu:P.underlying t=some d) (hd:(∃ k,d = .int k)\/d = .bool\/d = .string\/∃ e,d = .slice e) (h:Value.okWide P w r b0 t v):v.cells.toList=[v]:=by
 rcases hd with ⟨k,rfl⟩|rfl|rfl|⟨e,rfl⟩
 ·obtain ⟨n,rfl⟩:=okWide_int hu h;rfl
 ·obtain ⟨n,rfl⟩:=okWide_bool hu h;rfl
 ·obtain ⟨n,rfl⟩:=okWide_string hu h;rfl
 ·obtain ⟨a,l,c,rfl⟩:=okWide_slice hu h;rfl
theorem CK {r:Reach} {b0:Nat} {t:TypeId} {v:Value} {d:TypeDesc} (hu:P.underlying t=some d) (hd:(∃ fs,d = .struct fs)\/∃ n e,d = .array n e) (h:Value.okWide P w r b0 t v):∃ cs,v = .agg cs:=by
 unfold Value.okWide at h;rcases hd with ⟨fs,rfl⟩|⟨n,e,rfl⟩
 ·rw [hu] at h;obtain ⟨cs,rfl,_⟩:=h;exact ⟨cs,rfl⟩
 ·rw [hu] at h;obtain ⟨cs,rfl,_⟩:=h;exact ⟨cs,rfl⟩
theorem Ix {F:Nat} {t:TypeId} {T:Ty} (h:pe P F t T=true):∃ d,P.underlying t=some d/\match T with
  | .int k=>d = .int k
  | .bool=>d = .bool
  | .str=>d = .string
  | .sl _=>∃ e,d = .slice e
  | .unit=>∃ fs,d = .struct fs
  | .pair _ _=>∃ fs,d = .struct fs
  | .arr _ _=>∃ n e,d = .array n e:=by
 cases F with
 | zero=>simp [pe] at h
 | succ F =>
  unfold pe at h;cases hu:P.underlying t with
  | none=>rw [hu] at h;simp at h
  | some d =>
   rw [hu] at h;refine ⟨d,rfl,?_⟩;cases d<;>cases T<;>simp at h<;>simp_all
theorem J0 {r:Reach} {b0:Nat} (hI:∀ b,b<w.heap.size->I b) {F:Nat} {t:TypeId} {T:Ty} (hB:pe P F t T=true) {v:Value} (hok:Value.okWide P w r b0 t v) {d:DataW H} {ps:List MemPlace} (hr:DataW.Trod enc P w 0 (λ_=>true) true t v d ps) :
 ∃x:T.den,T.ok x/\dT P C ids I w (T.arg x) v/\T.rep H x d:=by
 obtain ⟨fuel,hr⟩:=hr;obtain ⟨x,h1,h2,h3,h4⟩:=(reads (enc:=enc) (C:=C) (ids:=ids) hI T).1 F fuel t _ d ps hB hr;refine ⟨x,h1,?_,h4⟩;obtain ⟨dd,hu,hdd⟩:=Ix hB;have one:∀ s,T.sv x=[s]->(v.cells.toList=[v])->dT P C ids I w s v:=λs hs hv=>by
  have:=h3 0 s (by rw [hs];rfl);rw [hv] at this;exact this
 have agg:∀ cs,v = .agg cs->dT P C ids I w (.agg (T.sv x)) v:=λcs hv=>by
  subst hv;have hl:(T.sv x).length=cs.size:=by rw [Ty.sv_length T x h1,←h2];simp [Value.cells]
  refine .agg cs hl λi s hi=>?_
  have:=h3 i s hi;rw [dm] at this;simpa [Value.cells,cQ,dA] using this
 cases T with
 | int k=>exact one _ rfl (xl hu (.inl ⟨k,hdd⟩) hok)
 | bool=>exact one _ rfl (xl hu (.inr (.inl hdd)) hok)
 | str=>exact one _ rfl (xl hu (.inr (.inr (.inl hdd))) hok)
 | sl e=>obtain ⟨te,hdd⟩:=hdd;exact one _ rfl (xl hu (.inr (.inr (.inr ⟨te,hdd⟩))) hok)
 | unit=>obtain ⟨cs,hv⟩:=CK hu (.inl hdd) hok;exact agg cs hv
 | pair a b=>obtain ⟨cs,hv⟩:=CK hu (.inl hdd) hok;exact agg cs hv
 | arr n e=>obtain ⟨cs,hv⟩:=CK hu (.inr hdd) hok;exact agg cs hv
theorem CL {r:Reach} {b0:Nat} (hI:∀ b,b<w.heap.size->I b) {F:Nat}:∀ (ts:List TypeId) (Ts:List Ty) (vs:List Value) (ds:List (DataW H)) (ps:List MemPlace),u5 P F ts Ts=true->(∀ (j:Nat) t v,ts[j]? = some t->vs[j]? = some v->Value.okWide P w r b0 t v) ->
  DataW.TrodAll enc P w 0 (λ_=>true) true ts vs ds ps->∃ x:Tys.den Ts,Tys.ok Ts x/\vs.length=(Tys.args Ts x).length/\(∀ i s,(Tys.args Ts x)[i]? = some s->dT P C ids I w s (vs.getD i undef))/\Tys.rep H Ts x ds/\ds.length=Ts.length
 | [],[],[],[],ps,_,_,h=>⟨(),trivial,rfl,λi s hi=>by simp [Tys.args] at hi,rfl,rfl⟩
 | t::ts,T::Ts,v::vs,d::ds,ps,hB,hok,h=>by
  obtain ⟨p,q,h1,h2,_⟩:=h
  simp only [u5,cT] at hB
  obtain ⟨x,g1,g2,g3⟩:=J0 (C:=C) (ids:=ids) hI hB.1.1.1 (hok 0 t v rfl rfl) h1
  obtain ⟨y,k1,k2,k3,k4,k5⟩:=CL hI ts Ts vs ds q hB.2 (λj t v hj hv=>hok (j+1) t v (by simpa using hj) (by simpa using hv)) h2
  refine ⟨(x,y),⟨g1,k1⟩,by simp [Tys.args,k2],λi s hi=>?_,⟨d,ds,rfl,g3,k4⟩,by simp [k5]⟩
  cases i with
  | zero=>simp [Tys.args] at hi;subst hi;exact g2
  | succ i=>exact k3 i s (by simpa [Tys.args] using hi)
 | [],[],_::_,_,_,_,_,h=>by cases h
 | [],[],[],_::_,_,_,_,h=>by cases h
 | [],_::_,_,_,_,hB,_,_=>by simp [u5] at hB
 | _::_,[],_,_,_,hB,_,_=>by simp [u5] at hB
 | _::_,_::_,[],_,_,_,_,h=>by cases h
 | _::_,_::_,_::_,[],_,_,_,h=>by cases h
theorem wX (hlo:laidOutB P=true) {W W':World} (hb:Below W.heap.size W W') {sp:Nat->Bool} {F:Nat}:∀ (ts:List TypeId) (Ts:List Ty) (vs:List Value) (ds:List (DataW H)) (ps:List MemPlace),u5 P F ts Ts=true->(∀ p∈ps,p.block<W.heap.size)->(∀ p∈ps,sp p.block=true) ->
  DataW.TrodAll enc P W 0 (λ_=>true) true ts vs ds ps->DataW.TrodAll enc P W' 0 sp true ts vs ds ps
 | [],_,[],[],ps,_,_,_,h=>h
 | t::ts,T::Ts,v::vs,d::ds,ps,hB,hlt,hsp,h=>by
  obtain ⟨p,q,h1,h2,rfl⟩:=h
  simp only [u5,cT,kG] at hB
  exact ⟨p,q,WideElems.Trod_stays hlo hB.1.1.2 hB.1.2 h1 (λx hx=>hb.same (hlt x (by simp [hx]))) (λx hx=>hsp x (by simp [hx])),
   wX hlo hb ts Ts vs ds q hB.2 (λx hx=>hlt x (by simp [hx])) (λx hx=>hsp x (by simp [hx])) h2,rfl⟩
 | [],_,_::_,_,_,_,_,_,h=>by cases h
 | [],_,[],_::_,_,_,_,_,h=>by cases h
 | _::_,[],_,_,_,hB,_,_,_=>by simp [u5] at hB
 | _::_,_::_,[],_,_,_,_,_,h=>by cases h
 | _::_,_::_,_::_,[],_,_,_,_,h=>by cases h
theorem FW {f:Func} {s:ChangeSpec} {apart fresh handsOn again:Bool} {W W':World} {args:Array Value} {v:Value} {ds gs:List (DataW H)} {before pa pv:List MemPlace}
  (hW:DataW.Whole enc P f.params.toList s.vars apart W args.toList ds gs before)
  (hres:∀ (b:Nat) (sp:Nat->Bool) (hd:Bool),DataW.TrodAll enc P W' b sp hd f.resultTypes.toList (v.resultList f.resultTypes.size) (s.fn H (ds++gs)).results [])
  (hargs:∀ sp:Nat->Bool,(∀ p∈before,sp p.block=true)->DataW.TrodAll enc P W' 0 sp true f.params.toList args.toList (s.fn H (ds++gs)).args pa)
  (hvars:∀ sp:Nat->Bool,(∀ p∈before,sp p.block=true)->DataW.TrodVars enc P W' sp s.vars (s.fn H (ds++gs)).vars pv)
  (hps:before=pa++pv) (hb:Below W.heap.size W W')
  (hok:∀ (j:Nat) (t:TypeId) (r:Value),f.resultTypes[j]? = some t->(v.resultList f.resultTypes.size)[j]? = some r->Value.okWide P W' .any 0 t r) :
  s.post enc P f apart fresh handsOn again W args v W':=by
 have hlt:∀ p∈before,p.block<W.heap.size:=λp hp=>hW.lt p hp;have hold:∀ p∈before,(λb=>decide (b<W.heap.size)) p.block=true:=λp hp=>by simpa using hlt p hp
 refine ⟨ds,gs,before,[],pa,pv,hW,hres _ _ _,hargs _ hold,hvars _ hold,World.keptBut_mono (λp hp=>⟨hp,?_⟩) (hb.frame (· ∈ before)),λ_=>?_⟩
 ·rw [hps,gv] at hp;exact Or.inr hp
 ·obtain ⟨_,_,_,_,_,hz,hn⟩:=hW;refine ⟨hok,_,_,([]++pa)++pv,⟨[]++pa,pv,trodAll_append (hargs _ (λ_ _=>rfl)) (hres _ _ _),hvars _ (λ_ _=>rfl),rfl,?_,?_⟩,?_⟩
  ·intro b off hp;have hin:MemPlace.cell b off∈before:=by rw [hps];simpa using hp
   rw [hb.frozen (hlt _ hin)];exact hz b off hin
  ·intro ha;have:=hn ha;rw [hps] at this;simpa using this
  ·intro p hp _;rw [hps];simpa using hp
theorem cS.mono {P:Program} {f:FuncId} {args:List SV} {hin:Hp} {m:Nat} {Post Post':SV->Hp->Nat->Prop} (h:cS P f args hin m Post) (hp:∀ r hp n,Post r hp n->Post' r hp n):cS P f args hin m Post' :=
 ⟨h.1,λX vals h1 h2 h3 h4 h5=>(h.2 X vals h1 h2 h3 h4 h5).mono λe w' ⟨r,res,hp',nx',ids',g1,g2,g3⟩=>⟨r,res,hp',nx',ids',g1,hp _ _ _ g2,g3⟩⟩
theorem yp {f:FuncId} {fn:Func} {s:ChangeSpec} {apart fresh handsOn again:Bool} (Ts:List Ty) (F:Nat) (hB:u5 P F fn.params.toList Ts=true) (hv:s.vars=[]) (hs:∀ ds:List (DataW H),ds.length=Ts.length->s.fn H ds = { results:=[.lit (.bool true)],args:=ds })
  (hlo:laidOutB P=true) {tb:TypeId} (hrt:fn.resultTypes = #[tb]) (hub:P.underlying tb=some .bool)
  (W:World) (base:Nat) (args:Array Value) (ds gs:List (DataW H)) (before:List MemPlace) (hval:∀ (j:Nat) t v,fn.params[j]? = some t->args[j]? = some v->Value.okWide P W .any base t v)
  (hspec:∀ x:Tys.den Ts,Tys.ok Ts x->Tys.rep H Ts x (ds++gs)->cS P f (Tys.args Ts x) [] 0 (λr _ _=>r = .v (.bool true)))
  (hW:DataW.Whole enc P fn.params.toList s.vars apart W args.toList ds gs before) (htab:r5 P (λb=>b<W.heap.size) W) :
  Calls P f args W λe W'=>∃ v,e = .returned v/\s.post enc P fn apart fresh handsOn again W args v W':=by
 have hW':=hW;obtain ⟨p,q,hA,hV,rfl,hfz,hnd⟩:=hW;rw [hv] at hV;have hgq:gs=[]/\q=[]:=by
  cases gs with
  | nil=>exact ⟨rfl,hV⟩
  | cons _ _=>cases hV
 obtain ⟨rfl,rfl⟩:=hgq;let C:Nm->cp:=bW [];let I:Nat->Prop:=λb=>b<W.heap.size;let X:Cx:={ gl:=htab,P:=P,w0:=W,I0:=λb=>b<W.heap.size,W0:=λ_=>False,m:=0,ids0:=λ_=>none,C0:=λ_=>.unborn };have hIm:∀ b,b<W.heap.size->Im W (λb=>b<W.heap.size) (λ_=>False) (bW []) (λ_=>none) W b:=λb hb=>⟨.inl hb,hb,λk hk=>by cases hk⟩;obtain ⟨x,h1,h2,h3,h4,h5⟩:=CL (C:=bW []) (ids:=λ_=>none) hIm fn.params.toList Ts args.toList ds p hB (λj t v hj hv=>hval j t v (by simpa using hj) (by simpa using hv)) hA;have hsp:=hspec x h1 (by simpa using h4);have hH:nh X [] 0 X.ids0 X.w0:=⟨⟨⟨λk=>trivial,(λk k' b o o' hl=>by cases hl),(λk b o hl=>by cases hl),λb hb=>⟨hb,λh=>h⟩,λb _ _=>rfl,rfl,⟨rfl,cF _⟩,rfl,cF _⟩,λk hk=>absurd hk (pP _),λk hk=>absurd hk (pP _)⟩,λk _=>rfl,cF _⟩;refine (hsp.2 X args rfl rfl hH (by rw [←h2];simp) λi s hi=>?_).mono λe W' he=>?_
 ·have:=h3 i s hi;simpa [cQ,dA] using this
 obtain ⟨r,res,hp',nx',ids',rfl,hres,hF,hd⟩:=he;subst hres;have hrv:=d7 hd;subst hrv;refine ⟨_,rfl,?_⟩;have hb:Below W.heap.size W W':=⟨hF.st.os,hF.st.tape.1,hF.st.output,hF.st.size,λk hk=>hF.st.evol k hk (λh=>h)⟩;have hfn:=hs ds h5;refine FW (pa:=p) (pv:=[]) hW' (λb sp hd=>?_) (λsp hsp=>?_) (λsp _=>?_) rfl hb (ok_one hrt rfl (okWide_bool_mk hub true))
 ·rw [j5,hfn,hrt];exact trodAll_cons_mk (shut_bool hub true) trodAll_mk0
 ·rw [j5,hfn];exact wX hlo hb fn.params.toList Ts args.toList ds p hB (λx hx=>hW'.lt x (by simp [hx])) (λx hx=>hsp x (by simp [hx])) hA
 ·rw [j5,hfn,hv];rfl
end
end
section
open Go.RowKit
def uj {α β:Type} (f:α->Option β):List α->Option (List β)
 | []=>some []
 | a::r=>match f a,uj f r with
  | some b,some l=>some (b::l)
  | _,_=>none
theorem u7 {α β:Type} {f:α->Option β}:∀ {l:List α} {xs:List β},l.length=xs.length->(∀ (i:Nat) (x:β),xs[i]? = some x->∃ y,l[i]? = some y/\f y=some x)->uj f l=some xs
 | [],[],_,_=>rfl
 | [],_::_,h,_=>by cases h
 | _::_,[],h,_=>by cases h
 | a::l,x::xs,hl,h=>by
  obtain ⟨y,hy,hf⟩:=h 0 x rfl
  cases hy
  unfold uj
  rw [hf,u7 (l:=l) (xs:=xs) (by simpa using hl) λi z hz=>by simpa using h (i+1) z (by simpa using hz)]
def Ty.unrep:(T:Ty)->DataW Unit->Option T.den
 | .int k,d=>match d with
  | .lit (.int k' x)=>if k=k' then some x else none
  | _=>none
 | .bool,d=>match d with
  | .lit (.bool b)=>some b
  | _=>none
 | .str,d=>match d with
  | .lit (.string l)=>some ⟨l.toArray⟩
  | _=>none
 | .sl e,d=>match d with
  | .nil=>some []
  | .slice el _=>uj e.unrep el
  | _=>none
 | .unit,_=>some ()
 | .pair a b,d=>match d with
  | .agg (p::r)=>match a.unrep p,b.unrep (.agg r) with
   | some x,some y=>some (x,y)
   | _,_=>none
  | _=>none
 | .arr _ e,d=>match d with
  | .agg el=>uj e.unrep el
  | _=>none
theorem sW:∀ (T:Ty) (x:T.den) (d:DataW Unit),T.rep Unit x d->T.unrep d=some x
 | .int k,x,d,h=>by
  simp only [Ty.rep] at h;subst h;simp [Ty.unrep]
 | .bool,x,d,h=>by simp only [Ty.rep] at h;subst h;rfl
 | .str,x,d,h=>by simp only [Ty.rep] at h;subst h;simp [Ty.unrep]
 | .sl e,xs,d,h=>by
  simp only [Ty.rep] at h
  rcases h with ⟨rfl,rfl⟩|⟨el,spn,rfl,hl,h⟩
  ·rfl
  ·simp only [Ty.unrep]
   exact u7 hl λi x hx=>by
    obtain ⟨y,hy,hr⟩:=h i x hx
    exact ⟨y,hy,sW e x y hr⟩
 | .unit,_,_,_=>rfl
 | .pair a b,x,d,h=>by
  simp only [Ty.rep] at h
  obtain ⟨p,r,rfl,h1,h2⟩:=h
  simp only [Ty.unrep]
  rw [sW a x.1 p h1,sW b x.2 (.agg r) h2]
 | .arr n e,xs,d,h=>by
  simp only [Ty.rep] at h
  obtain ⟨el,rfl,hl,h⟩:=h
  simp only [Ty.unrep]
  exact u7 hl λi x hx=>by
   obtain ⟨y,hy,hr⟩:=h i x hx
   exact ⟨y,hy,sW e x y hr⟩
def NT:SV->Bool
 | .v _=>true
 | _=>false
def Ji:SV->Bool
 | .v _=>true
 | .sl n l=>Nat.blt 0 n&&l.all NT
 | _=>false
theorem CM {P:Program} {W:World} {n:String} {d:DataW Unit} {g:Nat} {t:TypeId} {cs:List SV} (T:Ty) (F:Nat) (hv:Go.Lib.VarReads P W n d) (hg:P.globalNamed n=some g) (ht:(P.globals[g]?).map (·.type)=some t)
  (hB:pe P F t T=true) (hcs:(T.unrep d).map T.sv=some cs) (hc:cs.all Ji=true) (h0:0<cs.length) :
  g<W.heap.size/\∀ i x,cs[i]? = some x->∃ y,W.cell? ⟨g,i,none⟩=some y/\p7 (λb=>b<W.heap.size) W x y:=by
 obtain ⟨g',t',ca,fuel,p,h1,h2,h3,h4⟩:=hv;rw [hg] at h1;cases h1;rw [ht] at h2;cases h2;obtain ⟨x,hok,hlen,hd,hr⟩:=(reads (H:=Unit) (enc:=λ_=>()) (P:=P) (w:=W) (sp:=λ_=>true) (held:=false) (C:=λ_=>.unborn) (ids:=λ_=>none) (I:=λb=>b<W.heap.size) (λb h=>h) T).1 F fuel t ca.toList d p hB h4;rw [sW T x d hr] at hcs;simp only [fk,fM] at hcs;unfold World.var? at h3;rw [hg] at h3;simp only [cx] at h3;have hcell:∀ i,i<ca.size->W.cell? ⟨g,i,none⟩=some (ca.getD i undef):=λi hi=>by
  split at h3
  ·rename_i arr e fr hw;cases h3;simp [World.cell?,hw,cQ,hi]
  ·cases h3
 have hlt:g<W.heap.size:=by
  split at h3
  ·rename_i arr e fr hw;exact (qE.1 hw).1
  ·cases h3
 have hsz:cs.length<=ca.size:=by
  have:=Ty.sv_length T x hok;rw [hcs,←hlen] at this;simp at this;omega
 refine ⟨hlt,λi s hi=>?_⟩;have hil:=(dy.1 hi).1;refine ⟨_,hcell i (by omega),?_⟩;have hden:=hd i s (by rw [hcs];exact hi);rw [dm] at hden;have e1:(ca.toList.getD i undef)=ca.getD i undef:=by simp [dA,cQ]
 rw [e1] at hden;have hb:=dQ.1 hc s (pI hi);unfold Ji at hb;split at hb
 ·exact d7 hden
 ·rename_i m l;simp only [cT,kG] at hb;obtain ⟨a,cap,he,k1,k2,k3⟩:=sJ hden;rcases k3 with ⟨k3,_⟩|⟨b,o,c,rfl,k4,k5,k6⟩
  ·omega
  ·refine ⟨b,o,cap,he,k4,k1,k2,λj z hz=>?_⟩;have hz2:=k6 j z hz;have hv:=dQ.1 hb.2 z (pI hz);unfold NT at hv;split at hv
   ·exact ⟨_,rfl,by rw [k5 j _ hz];exact dH some (d7 hz2)⟩
   ·cases hv
 ·cases hb
theorem J7 {P:Program} {W:World} (l:List Nat) (hl:((List.range P.globals.size).all λg=>l.contains g||(yM P g).isNone)=true)
  (h:∀ g∈l,∀ cs,yM P g=some cs->g<W.heap.size/\∀ i x,cs[i]? = some x->∃ y,W.cell? ⟨g,i,none⟩=some y/\p7 (λb=>b<W.heap.size) W x y):r5 P (λb=>b<W.heap.size) W:=by
 intro g cs hg;by_cases hlt:g<P.globals.size
 ·have:=dQ.1 hl g (jF.2 hlt);rw [kX] at this;rcases this with h1|h1
  ·exact h g (by simpa using h1) cs hg
  ·rw [hg] at h1;cases h1
 ·unfold yM at hg;rw [Array.getElem?_eq_none_iff.2 (by omega)] at hg;cases hg
end
section
open Go.RowKit
section
variable {S ρ:Type}
def lY (step:S->Option (S ⊕ ρ)):Nat->S->Option ρ
 | 0,_=>none
 | n+1,s=>match step s with
  | none=>none
  | some (.inl s')=>lY step n s'
  | some (.inr r)=>some r
theorem yq {step:S->Option (S ⊕ ρ)}:∀ {n m:Nat} {s:S} {r:ρ},n<=m->lY step n s=some r->lY step m s=some r
 | 0,_,_,_,_,h=>by simp [lY] at h
 | n+1,0,_,_,hl,_=>by omega
 | n+1,m+1,s,r,hl,h=>by
  simp only [lY] at h ⊢
  cases hs:step s with
  | none=>rw [hs] at h;exact h
  | some o =>
   rw [hs] at h
   cases o with
   | inl s'=>exact yq (by omega) h
   | inr r'=>exact h
open Classical in
noncomputable def dE (step:S->Option (S ⊕ ρ)) (s:S):Option ρ :=
 if h:∃ n,(lY step n s).isSome then lY step h.choose s else none
theorem yr {step:S->Option (S ⊕ ρ)} {n:Nat} {s:S} {r:ρ} (h:lY step n s=some r):dE step s=some r:=by
 have he:∃ n,(lY step n s).isSome:=⟨n,by rw [h];rfl⟩;unfold dE;rw [dif_pos he];obtain ⟨r',hr⟩:=qG.1 he.choose_spec;rw [hr];rcases Nat.le_total n he.choose with hl|hl
 ·have:=yq hl h;rw [hr] at this;exact this
 ·have:=yq hl hr;rw [h] at this;exact this.symm
theorem u9 {step:S->Option (S ⊕ ρ)} {s:S} {r:ρ} (h:dE step s=some r):∃ n,lY step n s=some r:=by
 unfold dE at h;split at h
 ·exact ⟨_,h⟩
 ·cases h
theorem yu (step:S->Option (S ⊕ ρ)) (s:S):dE step s=(step s).bind λo=>match o with
  | .inl s'=>dE step s'
  | .inr r=>some r:=by
 cases hs:step s with
 | none =>
  cases hl:dE step s with
  | none=>rfl
  | some r=>obtain ⟨n,hn⟩:=u9 hl;cases n<;>simp [lY,hs] at hn
 | some o =>
  cases o with
  | inr r=>exact yr (n:=1) (by simp [lY,hs])
  | inl s' =>
   show dE step s=dE step s';cases hl:dE step s' with
   | some r=>obtain ⟨n,hn⟩:=u9 hl;exact yr (n:=n+1) (by simp [lY,hs,hn])
   | none =>
    cases hl2:dE step s with
    | none=>rfl
    | some r =>
     obtain ⟨n,hn⟩:=u9 hl2;cases n with
     | zero=>simp [lY] at hn
     | succ n=>simp only [lY,hs] at hn;rw [yr hn] at hl;cases hl
theorem lC {step:S->Option (S ⊕ ρ)} {s s':S} (h:step s=some (.inl s')):dE step s=dE step s':=by rw [yu,h];rfl
theorem gh {step:S->Option (S ⊕ ρ)} {s:S} {r:ρ} (h:step s=some (.inr r)):dE step s=some r:=by rw [yu,h];rfl
theorem Hk {step:S->Option (S ⊕ ρ)} {s:S} {x:Option ρ} (h:step s=x.map .inr):dE step s=x:=by rw [yu,h];cases x<;>rfl
end
variable {P:Program} {m N:Nat} {Q:gY} {fr:Fr} {hp:Hp} {nx:Nat}
theorem eR {S ρ:Type} {step:S->Option (S ⊕ ρ)} {s0:S} {r:ρ} {c:Code} (E:S->Fr×Hp×Nat) (h:dE step s0=some r) (h0:o0 P m fr hp (E s0).1 (E s0).2.1 (E s0).2.2)
  (hb:∀ (s:S) (o:S ⊕ ρ) (R:gY),step s=some o->(∀ r',o = .inr r'->r'=r)->(∀ s' fr' hp' nx',o = .inl s'->o0 P m fr' hp' (E s').1 (E s').2.1 (E s').2.2->R .normal fr' hp' nx')->(∀ id,R (.exit id)=Q (.exit id))->R .ret=Q .ret ->
   lP P m N c R (E s).1 (E s).2.1 (E s).2.2):lP P m N (.loop c) Q fr hp nx:=by
 obtain ⟨n0,hn0⟩:=u9 h;refine JZ (S:={ p:S×Nat // lY step p.2 p.1=some r }) (λp=>(E p.1.1).1) (λp=>(E p.1.1).2.1) (λp=>(E p.1.1).2.2) (λ_=>True) (λp=>p.1.2) ⟨(s0,n0),hn0⟩ trivial h0 ?_;rintro ⟨⟨s,n⟩,hn⟩ R _ h1 h2 h3;cases n with
 | zero=>simp [lY] at hn
 | succ n =>
  simp only [lY] at hn;cases hs:step s with
  | none=>rw [hs] at hn;cases hn
  | some o =>
   rw [hs] at hn;refine hb s o R hs (λr' ho=>?_) (λs' fr' hp' nx' ho hl=>?_) h2 h3
   ·subst ho;simp only [fM] at hn;exact hn
   ·subst ho;exact h1 fr' hp' nx' ⟨(s',n),hn⟩ trivial (tm n) hl
theorem df {A:Type} {x y:Code} (E:A->Fr×Hp×Nat) (G:A->Prop)
  (h1:∀ K:Fr->Hp->Nat->Prop,(∀ a fr' hp' nx',G a->o0 P m fr' hp' (E a).1 (E a).2.1 (E a).2.2->Wk P m K fr' hp' nx')->lP P m N x (tC (Wk P m K) Q) fr hp nx)
  (h2:∀ a,G a->lP P m N y Q (E a).1 (E a).2.1 (E a).2.2):lP P m N (.seq x y) Q fr hp nx :=
 h1 (lP P m N y Q) (λa fr' hp' nx' hg hl=>nm _ _ _ hl (h2 a hg))
theorem j7 {A:Type} {x:Code} {id:Nat} (E:A->Fr×Hp×Nat) (G:A->Prop)
  (h1:∀ K:Fr->Hp->Nat->Prop,(∀ a fr' hp' nx',G a->o0 P m fr' hp' (E a).1 (E a).2.1 (E a).2.2->Wk P m K fr' hp' nx')->lP P m N x (zu id (tC (Wk P m K) Q)) fr hp nx)
  (h2:∀ a,G a->Q .normal (E a).1 (E a).2.1 (E a).2.2):lP P m N (.block id x) Q fr hp nx:=by
 have:=h1 (Q .normal) (λa fr' hp' nx' hg hl=>nm _ _ _ hl (h2 a hg));have e:tC (Wk P m (Q .normal)) Q=wM P m Q:=by funext e;cases e<;>rfl
 rw [e] at this;exact this
theorem cc {x y:Code} (h:lP P m N x (tC (Wk P m (lP P m N y Q)) Q) fr hp nx):lP P m N (.seq x y) Q fr hp nx:=h
theorem cU {x:Code} {id:Nat} (h:lP P m N x (zu id (wM P m Q)) fr hp nx):lP P m N (.block id x) Q fr hp nx:=h
theorem cj {ρ:Type} {c:Operand} {b:Bool} {X Y:Option ρ} {o:ρ} {x y:Code} (h:(bif b then X else Y)=some o) (e:dB true fr c = .v (.bool b)) (k1:b=true->X=some o->lP P m N x Q fr hp nx) (k2:b=false->Y=some o->lP P m N y Q fr hp nx):lP P m N (.cond c x y) Q fr hp nx:=by
 simp only [lP,pL,e];exact ⟨λhb=>k1 hb (by rw [hb] at h;exact h),λhb=>k2 hb (by rw [hb] at h;exact h)⟩
theorem CN {c:Operand} {x y:Code} (e:dB true fr c = .v (.bool true)) (k:lP P m N x Q fr hp nx):lP P m N (.cond c x y) Q fr hp nx:=by
 simp only [lP,pL,e];exact ⟨λ_=>k,λhb=>by cases hb⟩
theorem CO {c:Operand} {x y:Code} (e:dB true fr c = .v (.bool false)) (k:lP P m N y Q fr hp nx):lP P m N (.cond c x y) Q fr hp nx:=by
 simp only [lP,pL,e];exact ⟨(λhb=>by cases hb),λ_=>k⟩
theorem cm {α β:Type} {x:Option α} {f:α->Option β} {o:β} (h:x.bind f=some o):∃ a,x=some a/\f a=some o:=by
 cases x with
 | none=>cases h
 | some a=>exact ⟨a,rfl,h⟩
theorem LL {α β:Type} {x:Option α} {f:α->β} {o:β} (h:x.map f=some o):∃ a,x=some a/\f a=o:=by
 cases x with
 | none=>cases h
 | some a=>cases h;exact ⟨a,rfl,rfl⟩
theorem Hl {m:Nat} {fr fr':Fr} {hp hp':Hp} {nx':Nat} (σ:List (Nm×Nm)) (frz:List Nm) (h1:CG hp hp' σ frz fr fr') (h2:pd hp hp' σ frz hp') (h3:oW m σ frz=true) (h4:p5 m nx' σ hp'=true) (h5:Nat.ble m nx'=true):o0 P m fr hp fr' hp' nx':=EO σ frz h1 h2 h3 h4 (cV h5)
theorem Jj {m:Nat} {x X:SV} {hp H:Hp} {nn:Nat} (σ:List (Nm×Nm)) (frz:List Nm) (h1:fu hp H σ frz x X) (h2:pd hp H σ frz H) (h3:oW m σ frz=true) (h4:p5 m nn σ H=true) (h5:Nat.ble m nn=true):wO P m (λr h n=>r=X/\h=H/\n=nn) x hp:=LK X H nn σ frz ⟨rfl,rfl,rfl⟩ h1 h2 h3 h4 (cV h5)
end
section
open Go.RowKit
variable {P:Program} {m N:Nat} {Q:gY} {fr:Fr} {hp:Hp} {nx:Nat} {ops:Array Oper}
def t6:List Prop->Prop
 | []=>True
 | p::r=>p/\t6 r
def gO (r:eX) (e:dw):Prop:=match r with
 | .ok s e'=>s/\e'.val=e.val/\e'.upd=e.upd/\e'.nx=e.nx/\e'.rds=e.rds
 | .bad=>False
structure zE where
 fr:Fr
 hp:Hp
 nx:Nat
 acc:List fR
 obs:List Prop
def pu (ops:Array Oper) (fr:Fr) (o:Oper):Option Bool:=match o.guard with
 | none=>some true
 | some jw=>mA ops fr jw.1 jw.2
def FX (P:Program) (o:Op):SV:=bif lM P o then .gd false .any else .v undef
def zF (P:Program) (o:Oper) (x:SV):SV:=match o.guard with
 | none=>x
 | some _=>bif lM P o.op then .gd true x else x
def u_ (P:Program) (o:Oper) (nx:Nat) (e:dw):Bool:=o.guard.isSome&&(lM P o.op&&(!e.upd.isEmpty || !(e.nx==nx)))
def gk (P:Program) (d:Bool) (ops:Array Oper):Nat->List Oper->List (Option dw)->zE->Option zE
 | 0,_,_,s=>some s
 | _+1,[],_,s=>some s
 | n+1,o::rest,sc,s=>match pu ops s.fr o with
  | none=>none
  | some false=>gk P d ops n rest sc.tail ⟨gg o.dst (FX P o.op) s.fr,s.hp,bif d then s.nx+1 else s.nx,s.acc++[⟨[],[],s.nx,s.nx⟩],s.obs⟩
  | some true=>match i6 true s.fr o.op with
   | some _=>none
   | none=>match sc with
    | some e::sc'=>bif u_ P o s.nx e then none else
     gk P d ops n rest sc' ⟨gg o.dst (zF P o e.val) s.fr,e.upd++s.hp,bif d then e.nx+1 else e.nx,s.acc++[⟨e.upd.map (·.1.key),e.rds,s.nx,e.nx⟩],gO (kK P true s.fr s.hp s.nx o.type o.op) e::s.obs⟩
    | _=>match kK P true s.fr s.hp s.nx o.type o.op with
     | .bad=>none
     | .ok _ ⟨val,upd,nx',rds⟩=>bif CF P true s.fr s.hp o.op && !u_ P o s.nx ⟨val,upd,nx',rds⟩ then
       gk P d ops n rest sc.tail ⟨gg o.dst (zF P o val) s.fr,upd++s.hp,bif d then nx'+1 else nx',s.acc++[⟨upd.map (·.1.key),rds,s.nx,nx'⟩],s.obs⟩
      else none
theorem sf {dt:Bool} {o:Oper} {K:SV->Hp->Nat->List Nm->Prop} {s:Prop} {e:dw} (hd:pu ops fr o=some true) (hc:i6 true fr o.op=none) (hop:kK P true fr hp nx o.type o.op = .ok s e) (hs:s) (hu:u_ P o nx e=false)
  (hk:K (zF P o e.val) e.upd e.nx e.rds):iu dt P ops o fr hp nx K:=by
 unfold iu;unfold pu at hd;cases hg:o.guard with
 | none =>
  simp only;unfold kB;rw [hc,hop];unfold zF at hk;rw [hg] at hk;exact .inr ⟨hs,hk⟩
 | some jw =>
  unfold u_ at hu;rw [hg] at hd hu;simp only at hd ⊢;rw [hd];simp only;unfold zF at hk;rw [hg] at hk;simp only at hk;cases hq:lM P o.op with
  | true =>
   rw [hq] at hk hu;simp only [cd] at hk ⊢;refine .inr ?_;rw [hop];obtain ⟨val,upd,nx',rds⟩:=e;simp at hu;obtain ⟨hu,rfl⟩:=hu;subst hu;exact ⟨λ_=>hs,hk⟩
  | false =>
   rw [hq] at hk;simp only [ck] at hk ⊢;refine ⟨λ_=>?_,λhe=>by cases he⟩;unfold kB;rw [hc,hop];exact .inr ⟨hs,hk⟩
theorem zG {dt:Bool} {o:Oper} {K:SV->Hp->Nat->List Nm->Prop} (hd:pu ops fr o=some false) (hk:K (FX P o.op) [] nx []):iu dt P ops o fr hp nx K:=by
 unfold iu;unfold pu at hd;cases hg:o.guard with
 | none=>rw [hg] at hd;cases hd
 | some jw =>
  rw [hg] at hd;simp only at hd ⊢;rw [hd];simp only;unfold FX at hk;cases hq:lM P o.op with
  | true=>rw [hq] at hk;exact .inl ⟨rfl,hk⟩
  | false=>rw [hq] at hk;exact ⟨(λhe=>by cases he),λ_=>hk⟩
theorem CP {l:List Prop} (h:t6 l) {l2:List Prop} (hs:∃ k,l=k++l2):t6 l2:=by
 obtain ⟨k,rfl⟩:=hs;induction k with
 | nil=>exact h
 | cons p k ih=>exact ih h.2
theorem yv {r:eX} {e:dw} (h:gO r e):∃ s,r = .ok s e/\s:=by
 cases r with
 | bad=>exact h.elim
 | ok s e' =>
  obtain ⟨hs,h1,h2,h3,h4⟩:=h;obtain ⟨v,u,n,rd⟩:=e';simp only at h1 h2 h3 h4;subst h1;subst h2;subst h3;subst h4;exact ⟨s,rfl,hs⟩
theorem rF {d:Bool}:∀ (n:Nat) (l:List Oper) (sc:List (Option dw)) (s s':zE),gk P d ops n l sc s=some s'->∃ k,s'.obs=k++s.obs
 | 0,l,sc,s,s',h=>by cases h;exact ⟨[],rfl⟩
 | n+1,[],sc,s,s',h=>by cases h;exact ⟨[],rfl⟩
 | n+1,o::rest,sc,s,s',h=>by
  unfold gk at h
  split at h
  ·cases h
  ·obtain ⟨k,hk⟩:=rF n rest _ _ _ h;exact ⟨k,hk⟩
  ·split at h
   ·cases h
   ·split at h
    ·rw [e_] at h
     rename_i e _
     split at h
     ·cases h
     ·obtain ⟨k,hk⟩:=rF n rest _ _ _ h;exact ⟨k++[gO (kK P true s.fr s.hp s.nx o.type o.op) e],by rw [hk];simp⟩
    ·split at h
     ·cases h
     ·rw [e_] at h
      split at h
      ·obtain ⟨k,hk⟩:=rF n rest _ _ _ h;exact ⟨k,hk⟩
      ·cases h
theorem xm {K:Fr->Hp->Nat->Prop}:∀ (n:Nat) (l:List Oper) (sc:List (Option dw)) (s s':zE),gk P false ops n l sc s=some s'->t6 s'.obs->lN P ops (l.drop n) s'.fr s'.hp s'.nx K->lN P ops l s.fr s.hp s.nx K
 | 0,l,sc,s,s',h,ho,hr=>by cases h;exact hr
 | n+1,[],sc,s,s',h,ho,hr=>by cases h;simpa using hr
 | n+1,o::rest,sc,s,s',h,ho,hr=>by
  unfold gk at h
  split at h
  ·cases h
  ·rename_i hd
   exact zG hd (xm n rest _ _ _ h ho hr)
  ·rename_i hd
   split at h
   ·cases h
   ·rename_i hc
    split at h
    ·rename_i e sc'
     rw [e_] at h
     split at h
     ·cases h
     ·rename_i hq
      obtain ⟨k,hk⟩:=rF n rest _ _ _ h
      have hob:=(CP ho ⟨k,hk⟩).1
      obtain ⟨sd,hop,hs⟩:=yv hob
      exact sf hd hc hop hs (by simpa using hq) (xm n rest _ _ _ h ho hr)
    ·split at h
     ·cases h
     ·rename_i sd val upd nx' rds hop
      rw [e_] at h
      split at h
      ·rename_i hq
       simp only [cT,kp] at hq
       exact sf hd hc hop (Bd hop hq.1) hq.2 (xm n rest _ _ _ h ho hr)
      ·cases h
theorem va {K:List fR->Fr->Hp->Nat->Prop}:∀ (n:Nat) (l:List Oper) (sc:List (Option dw)) (s s':zE),gk P true ops n l sc s=some s'->t6 s'.obs->uU P ops (l.drop n) s'.fr s'.hp s'.nx s'.acc K->uU P ops l s.fr s.hp s.nx s.acc K
 | 0,l,sc,s,s',h,ho,hr=>by cases h;exact hr
 | n+1,[],sc,s,s',h,ho,hr=>by cases h;simpa using hr
 | n+1,o::rest,sc,s,s',h,ho,hr=>by
  unfold gk at h
  split at h
  ·cases h
  ·rename_i hd
   exact zG hd (va n rest _ _ _ h ho hr)
  ·rename_i hd
   split at h
   ·cases h
   ·rename_i hc
    split at h
    ·rename_i e sc'
     rw [e_] at h
     split at h
     ·cases h
     ·rename_i hq
      obtain ⟨k,hk⟩:=rF n rest _ _ _ h
      have hob:=(CP ho ⟨k,hk⟩).1
      obtain ⟨sd,hop,hs⟩:=yv hob
      exact sf hd hc hop hs (by simpa using hq) (va n rest _ _ _ h ho hr)
    ·split at h
     ·cases h
     ·rename_i sd val upd nx' rds hop
      rw [e_] at h
      split at h
      ·rename_i hq
       simp only [cT,kp] at hq
       exact sf hd hc hop (Bd hop hq.1) hq.2 (va n rest _ _ _ h ho hr)
      ·cases h
def dZ (P:Program) (d:Bool) (ops:Array Oper) (l:List Oper) (fr:Fr) (hp:Hp) (nx:Nat) (acc:List fR) (K:Fr->Hp->Nat->Prop):Prop:=match d with
 | false=>lN P ops l fr hp nx (qz K)
 | true=>yo P ops l fr hp nx acc (qz K)
theorem cw {id:Nat} (h:dZ P false ops ops.toList fr hp nx [] (Q .normal)):lP P m N (.region id ops false) Q fr hp nx:=h
theorem d_ {id:Nat} (h:dZ P true ops ops.toList fr hp nx [] (Q .normal)):lP P m N (.region id ops true) Q fr hp nx:=h
def Jk (s:Option zE):Bool:=s.isSome
def iN (s:Option zE):zE:=s.getD ⟨[],[],0,[],[]⟩
theorem Eh {s:Option zE} (h:Jk s=true):s=some (iN s):=by
 cases s with
 | none=>cases h
 | some s=>rfl
theorem J8 {d:Bool} {l:List Oper} {acc:List fR} {K:Fr->Hp->Nat->Prop} (n:Nat) (sc:List (Option dw)) (obs:List Prop) (h1:Jk (gk P d ops n l sc ⟨fr,hp,nx,acc,[]⟩)=true) (h2:(iN (gk P d ops n l sc ⟨fr,hp,nx,acc,[]⟩)).obs=obs) (ho:t6 obs)
  (k:dZ P d ops (l.drop n) (iN (gk P d ops n l sc ⟨fr,hp,nx,acc,[]⟩)).fr (iN (gk P d ops n l sc ⟨fr,hp,nx,acc,[]⟩)).hp (iN (gk P d ops n l sc ⟨fr,hp,nx,acc,[]⟩)).nx (iN (gk P d ops n l sc ⟨fr,hp,nx,acc,[]⟩)).acc K):dZ P d ops l fr hp nx acc K:=by
 have h:=Eh h1;rw [←h2] at ho;cases d with
 | false=>exact xm n l sc _ _ h ho k
 | true=>exact va n l sc _ _ h ho k
def oN (fr ks:Fr):Fr:=ks.map λp=>(p.1,cM fr p.1)
def il:Hp->Nm->cp
 | [],_=>.unborn
 | p::r,k=>bif p.1.eqk k then p.2 else il r k
def lZ (hp ks:Hp):Hp:=ks.map λp=>(p.1,il hp p.1)
def lh (hp ks:Hp):Bool:=(hp.all λp=>ks.any λq=>q.1.eqk p.1)&&ks.all λq=>match q.1 with
 | .t _=>true
 | .s _ _=>hp.any λp=>p.1.eqk q.1
theorem yw {a b:Nm} (h:a.key=b.key):∀ hp:Hp,il hp a=il hp b
 | []=>rfl
 | p::r=>by
  simp only [il]
  have e:p.1.eqk a=p.1.eqk b:=by
   by_cases hk:p.1.key=a.key
   ·rw [Nm.eqk_iff.2 hk,Nm.eqk_iff.2 (hk.trans h)]
   ·rw [Nm.eqk_no hk,Nm.eqk_no (λe=>hk (e.trans h.symm))]
  rw [e,yw h r]
theorem yx (k:Nm):∀ {hp:Hp},(∃ p∈hp,p.1.key=k.key)->bW hp k=(il hp k).mem k
 | [],h=>by obtain ⟨p,hp,_⟩:=h;cases hp
 | p::r,h=>by
  simp only [bW,il]
  by_cases hk:p.1.key=k.key
  ·rw [Nm.eqk_iff.2 hk,cd,cd]
  ·rw [Nm.eqk_no hk,ck,ck]
   refine yx k ?_
   obtain ⟨q,hq,hqk⟩:=h
   rcases fc.1 hq with rfl|hq
   ·exact absurd hqk hk
   ·exact ⟨q,hq,hqk⟩
theorem Bj (a:Nat):∀ {hp:Hp},il hp (.t a)=bW hp (.t a)
 | []=>rfl
 | p::r=>by simp only [il,bW,cp.mem];rw [Bj a]
theorem wY (fr:Fr) (d:Nat):∀ ks:Fr,cM (oN fr ks) d=cM fr d\/cM (oN fr ks) d = .any
 | []=>.inr rfl
 | p::r=>by
  simp only [oN,gu,cM]
  by_cases h:p.1=d
  ·subst h;left;simp
  ·rw [show (p.1==d)=false from by simpa using h,ck];exact wY fr d r
theorem EQ (hp:Hp) (k:Nm):∀ ks:Hp,(∃ q∈ks,q.1.key=k.key)->bW (lZ hp ks) k=(il hp k).mem k
 | [],h=>by simp at h
 | p::r,h=>by
  simp only [lZ,gu,bW]
  by_cases hk:p.1.key=k.key
  ·rw [Nm.eqk_iff.2 hk,cd,yw hk]
  ·rw [Nm.eqk_no hk,ck]
   refine EQ hp k r ?_
   obtain ⟨q,hq,hqk⟩:=h
   rcases fc.1 hq with rfl|hq
   ·exact absurd hqk hk
   ·exact ⟨q,hq,hqk⟩
theorem xn {fr':Fr} {hp':Hp} (h1:oN fr fr'=fr') (h2:lZ hp hp'=hp') (h3:lh hp hp'=true):FO fr fr' hp hp':=by
 refine ⟨λd=>h1▸wY fr d fr',λk=>?_⟩;simp only [lh,cT,dQ,ng] at h3;rw [←h2];by_cases h:∃ q∈hp',q.1.key=k.key
 ·rw [EQ hp k hp' h];cases k with
  | t a=>exact Bj a
  | s F i =>
   obtain ⟨q,hq,hqk⟩:=h;have:=h3.2 q hq;cases hq1:q.1 with
   | t a=>rw [hq1] at hqk;simp [Nm.key] at hqk
   | s G z =>
    rw [hq1] at this hqk;simp only [ng] at this;obtain ⟨p,hp1,hp2⟩:=this;exact (yx _ ⟨p,hp1,(Nm.eqk_iff.1 hp2).trans hqk⟩).symm
 ·have n1:¬∃q∈lZ hp hp',q.1.key=k.key:=λ⟨q,hq,hqk⟩=>by
   obtain ⟨p,hp1,rfl⟩:=fH.1 hq;exact h ⟨p,hp1,hqk⟩
  rw [pt n1];refine (pt λ⟨p,hp1,e⟩=>h ?_).symm;obtain ⟨q,hq,hqp⟩:=h3.1 p hp1;exact ⟨q,hq,(Nm.eqk_iff.1 hqp).trans e⟩
theorem Nh {l:List Oper} {acc:List fR} {K:Fr->Hp->Nat->Prop} (fr':Fr) (hp':Hp) (nx':Nat) (hl:l=[]) (h1:oN fr fr'=fr') (h2:lZ hp hp'=hp') (h3:lh hp hp'=true) (h4:nx=nx') (k:K fr' hp' nx'):dZ P false ops l fr hp nx acc K:=by
 subst hl;subst h4;exact ⟨fr',hp',xn h1 h2 h3,k⟩
theorem Ni {l:List Oper} {acc:List fR} {K:Fr->Hp->Nat->Prop} (fr':Fr) (hp':Hp) (nx':Nat) (hl:l=[]) (h1:oN fr fr'=fr') (h2:lZ hp hp'=hp') (h3:lh hp hp'=true) (h4:nx=nx') (h5:P.follows .mixedOrders=true) (h6:mZ ops acc (wS ops.toList)=true) (k:K fr' hp' nx'):dZ P true ops l fr hp nx acc K:=by
 subst hl;subst h4;exact ⟨⟨h5,h6⟩,fr',hp',xn h1 h2 h3,k⟩
theorem Ei {K:Fr->Hp->Nat->Prop} (ns:List fR):zy (EK P ops ns (qz K)):=λfr fr' hp nx h ⟨h1,h2⟩=>⟨h1,CE K _ _ _ _ h h2⟩
theorem cL {d:Bool} {l:List Oper} {acc:List fR} {K:Fr->Hp->Nat->Prop} (t:Nat) (b:Bool) (h:cM fr t = .v (.bool b)\/cM fr t = .gd true (.v (.bool b)))
  (k1:b=true->dZ P d ops l ((t,bif (match cM fr t with | .gd _ _=>true|_=>false) then .gd true (.v (.bool true)) else .v (.bool true))::fr) hp nx acc K)
  (k2:b=false->dZ P d ops l ((t,bif (match cM fr t with | .gd _ _=>true|_=>false) then .gd true (.v (.bool false)) else .v (.bool false))::fr) hp nx acc K):dZ P d ops l fr hp nx acc K:=by
 have gen:∀ c:Bool,b=c->dZ P d ops l ((t,bif (match cM fr t with | .gd _ _=>true|_=>false) then .gd true (.v (.bool c)) else .v (.bool c))::fr) hp nx acc K->dZ P d ops l fr hp nx acc K:=by
  intro c hc hk;subst hc;have e:cM ((t,bif (match cM fr t with | .gd _ _=>true|_=>false) then .gd true (.v (.bool b)) else .v (.bool b))::fr)=cM fr:=by
   funext q;simp only [cM];by_cases hq:t=q
   ·subst hq;rcases h with h|h<;>simp [h]
   ·rw [show (t==q)=false from by simpa using hq,ck]
  cases d with
  | false=>exact wU (CE K) l _ _ _ _ e hk
  | true=>exact zz (Ei ·) l _ _ _ _ _ e hk
 cases b with
 | true=>exact gen true rfl (k1 rfl)
 | false=>exact gen false rfl (k2 rfl)
def qP (ops:Array Oper) (fr:Fr):List Oper->Option (FuncId×List SV×Option Tmp)
 | o::_=>match pu ops fr o with
  | some true=>(i6 true fr o.op).map λc=>(c.1,c.2,o.dst)
  | _=>none
 | []=>none
theorem Ej {g:Bool} {o:Op} {c:FuncId×List SV} (h:i6 g fr o=some c):G8 o=false:=by
 cases o<;>simp only [i6] at h<;>try (cases h;done)
 rename_i cl;obtain ⟨callee,args,argTypes⟩:=cl;cases callee<;>simp only at h<;>first|rfl|cases h
theorem cE {d:Bool} {l:List Oper} {acc:List fR} {K:Fr->Hp->Nat->Prop} (f:FuncId) (args:List SV) (dst:Option Tmp) (h:qP ops fr l=some (f,args,dst))
  (k:match d with|false=>Hg P f args dst ops (l.drop 1) fr hp nx (qz K)|true=>Jg P f args dst ops (l.drop 1) fr hp nx acc (qz K)):dZ P d ops l fr hp nx acc K:=by
 cases l with
 | nil=>cases h
 | cons o rest =>
  simp only [qP] at h;cases hd:pu ops fr o with
  | none=>rw [hd] at h;cases h
  | some b =>
   cases b with
   | false=>rw [hd] at h;cases h
   | true =>
    rw [hd] at h;simp only at h;cases hc:i6 true fr o.op with
    | none=>rw [hc] at h;cases h
    | some c =>
     rw [hc] at h;simp only [fk,fM,iH] at h;obtain ⟨rfl,rfl,rfl⟩:=h;have hq:lM P o.op=false:=by unfold lM;rw [Ej hc];rfl
     have step:∀ {dt:Bool} {K2:SV->Hp->Nat->List Nm->Prop},BN dt P c.1 c.2 hp nx K2->iu dt P ops o fr hp nx K2:=by
      intro dt K2 hk;unfold iu;unfold pu at hd;cases hg:o.guard with
      | none=>simp only;unfold kB;rw [hc];exact hk
      | some jw =>
       rw [hg] at hd;simp only at hd ⊢;rw [hd];simp only [hq,ck];refine ⟨λ_=>?_,(λhe=>by cases he)⟩;unfold kB;rw [hc];exact hk
     cases d with
     | false=>exact step k
     | true=>exact step k
end
section
open Go.RowKit
class b_ (α:Type) extends Inhabited α where
 sz:Nat
 cells:α->List SV
 len:∀ a,(cells a).length=sz
 one:∀ a,(cells a).all jp=true
 stc:∀ a,iq (cells a)=true
variable {α β:Type}
instance : b_ Int:=⟨1,λx=>[.v (.int .i64 x)],λ_=>rfl,λ_=>rfl,λ_=>rfl⟩
instance : b_ Bool:=⟨1,λx=>[.v (.bool x)],λ_=>rfl,λ_=>rfl,λ_=>rfl⟩
instance : b_ ByteArray:=⟨1,λx=>[.v (.string x)],λ_=>rfl,λ_=>rfl,λ_=>rfl⟩
def fl [b_ α] (xs:List α):List SV:=xs.flatMap b_.cells
theorem LM [b_ α]:fl ([]:List α)=[]:=rfl
theorem kP [b_ α] (x:α) (xs:List α):fl (x::xs)=b_.cells x++fl xs:=rfl
theorem fF [b_ α] (xs ys:List α):fl (xs++ys)=fl xs++fl ys:=by simp [fl]
theorem iz [b_ α] (xs:List α):(fl xs).length=xs.length*b_.sz α:=by
 induction xs with
 | nil=>simp [fl]
 | cons x xs ih=>rw [kP,ec,ih,b_.len,gq,gW,Nat.one_mul,Nat.add_comm]
theorem J9 {xs ys:List SV} (h:iq xs=true) (g:iq ys=true):iq (xs++ys)=true:=by
 induction xs with
 | nil=>exact g
 | cons x xs ih=>simp only [iq,cT,iw] at h ⊢;exact ⟨h.1,ih h.2⟩
theorem kQ [b_ α] (xs:List α):iq (fl xs)=true:=by
 induction xs with
 | nil=>rfl
 | cons x xs ih=>rw [kP];exact J9 (b_.stc x) ih
theorem BP [b_ α] (xs:List α):mN (fl xs)=true:=js (kQ xs)
theorem Hm [b_ α] (xs:List α):(fl xs).all jp=true:=by
 induction xs with
 | nil=>rfl
 | cons x xs ih=>rw [kP,List.all_append,b_.one,ih];rfl
instance [b_ α]:b_ (List α):=⟨1,λx=>[.sl x.length (fl x)],λ_=>rfl,λ_=>rfl,λx=>by simp only [iq,SV.st,kQ,rp]⟩
theorem ER [b_ α] (xs:List α) (i:Nat):(fl xs).drop (i*b_.sz α)=fl (xs.drop i):=by
 induction xs generalizing i with
 | nil=>simp [fl]
 | cons x xs ih =>
  cases i with
  | zero=>simp
  | succ i =>
   rw [kP,List.drop_succ_cons,←ih i,List.drop_append,List.drop_of_length_le (by rw [b_.len];exact Nat.le_mul_of_pos_left _ (Nat.succ_pos i)),pF,b_.len];congr 1;rw [gW,Nat.one_mul,Nat.add_sub_cancel]
theorem ES [b_ α] (xs:List α) (i:Nat):(fl xs).take (i*b_.sz α)=fl (xs.take i):=by
 induction xs generalizing i with
 | nil=>simp [fl]
 | cons x xs ih =>
  cases i with
  | zero=>simp [fl]
  | succ i =>
   rw [kP,List.take_succ_cons,kP,←ih i,List.take_append,b_.len,kH (by rw [b_.len];exact Nat.le_mul_of_pos_left _ (Nat.succ_pos i))];congr 2;rw [gW,Nat.one_mul,Nat.add_sub_cancel]
theorem LN [b_ α] (xs:List α) (i n:Nat):da (fl xs) (i*b_.sz α) (n*b_.sz α)=fl ((xs.drop i).take n):=by
 simp only [da,ER,ES]
theorem Jl [b_ α] (xs:List α) (i:Nat) (h:i<xs.length):((fl xs).drop (i*b_.sz α)).take (b_.sz α)=b_.cells (xs.getD i default):=by
 rw [ER];have:xs.drop i=xs.getD i default::xs.drop (i+1):=by rw [List.drop_eq_getElem_cons h];simp [dA,h]
 rw [this,kP,List.take_append,b_.len,Nat.sub_self,List.take_zero,j5,kH (by rw [b_.len];exact cF _)]
theorem ET [b_ α] (xs:List α) (i j:Nat) (h:i<xs.length) (hj:j<b_.sz α) (d:SV):(fl xs).getD (i*b_.sz α+j) d=(b_.cells (xs.getD i default)).getD j d:=by
 rw [←Jl xs i h];simp only [dA,mI,if_pos hj,na]
theorem FY (vs:List SV):∀ (us bs:List SV) (o:Nat),fQ (us++bs) (us.length+o) vs=us++fQ bs o vs:=by
 induction vs with
 | nil=>intro us bs o;rfl
 | cons v vs ih =>
  intro us bs o;simp only [fQ];rw [List.set_append_right _ _ (by omega),show us.length+o-us.length=o from by omega,iR,ih]
theorem El (vs:List SV):∀ (us bs:List SV) (o:Nat),o+vs.length<=us.length->fQ (us++bs) o vs=fQ us o vs++bs:=by
 induction vs with
 | nil=>intro us bs o _;rfl
 | cons v vs ih =>
  intro us bs o h;simp only [gq] at h;simp only [fQ];rw [List.set_append_left _ _ (by omega),ih _ _ _ (by simp;omega)]
theorem Bk [b_ α] (y:α) (vs:List SV) (j:Nat):∀ (xs:List α) (i:Nat),i<xs.length->j+vs.length<=b_.sz α->fQ (b_.cells (xs.getD i default)) j vs=b_.cells y->fQ (fl xs) (i*b_.sz α+j) vs=fl (xs.set i y)
 | [],i,h,_,_=>by simp at h
 | x::xs,0,h,hj,hy=>by
  rw [lJ,dm,kP,El _ _ _ _ (by rw [b_.len];exact hj)]
  simp only [List.getD_cons_zero] at hy
  rw [hy,List.set_cons_zero,kP]
 | x::xs,i+1,h,hj,hy=>by
  rw [kP,show (i+1)*b_.sz α+j=(b_.cells x).length+(i*b_.sz α+j) from by rw [b_.len,gW,Nat.one_mul];omega,FY,
   Bk y vs j xs i (by simpa using h) hj (by simpa using hy),List.set_cons_succ,kP]
def ix [b_ α] (xs:List α) (i:Int):α:=xs.getD i.toNat default
def cut (xs:List α) (l h:Int):List α:=(xs.drop l.toNat).take (h.toNat-l.toNat)
theorem fo [b_ α] (xs:List α) (i:Int) (j:Nat) (hj:j<b_.sz α) (d:SV) (hd:(b_.cells (default:α)).getD j d=d):(fl xs).getD (i.toNat*b_.sz α+j) d=(b_.cells (ix xs i)).getD j d:=by
 by_cases h:i.toNat<xs.length
 ·exact ET xs _ j h hj d
 ·have e:ix xs i=default:=by simp [ix,dA,nf (Nat.le_of_not_lt h)]
  rw [e,hd,dA,nf,Option.getD_none];rw [iz];have:xs.length*b_.sz α<=i.toNat*b_.sz α:=kY _ (Nat.le_of_not_lt h);omega
theorem Iy [b_ α] (xs:List α) (i:Int) (h:0<=i/\i<(xs.length:Int)):((fl xs).drop (i.toNat*b_.sz α)).take (b_.sz α)=b_.cells (ix xs i):=Jl xs i.toNat (by omega)
theorem J_ [b_ α] (xs:List α) (i:Int) (j:Nat) (h:0<=i/\i<(xs.length:Int)) (d:SV) (hj:j<b_.sz α):(fl xs).getD (i.toNat*b_.sz α+j) d=(b_.cells (ix xs i)).getD j d:=ET xs i.toNat j (by omega) hj d
theorem LO [b_ α] (xs:List α) (i:Int) (h:0<=i/\i<(xs.length:Int)) (y:α) (j:Nat) (vs:List SV) (hj:j+vs.length<=b_.sz α) (hy:fQ (b_.cells (ix xs i)) j vs=b_.cells y):fQ (fl xs) (i.toNat*b_.sz α+j) vs=fl (xs.set i.toNat y) :=
 Bk y vs j xs i.toNat (by omega) hj hy
theorem ra [b_ α] (xs:List α) (n:Nat) (h:n=xs.length*b_.sz α):(fl xs).take n=fl xs:=by
 rw [h,kH (by rw [iz];exact cF _)]
theorem Iz [b_ α] (xs ys:List α):fl xs++fl ys=fl (xs++ys):=(fF xs ys).symm
theorem CQ [b_ α] (xs:List (List α)) (y:List α):fl xs++[SV.sl y.length (fl y)]=fl (xs++[y]):=by rw [fF];rfl
theorem Em (xs:List Int) (y:Int):fl xs++[SV.v (.int .i64 y)]=fl (xs++[y]):=by rw [fF];rfl
theorem CR (xs:List Bool) (y:Bool):fl xs++[SV.v (.bool y)]=fl (xs++[y]):=by rw [fF];rfl
theorem En (xs:List Int) (y:Int):SV.v (.int .i64 y)::fl xs=fl (y::xs):=rfl
theorem CS [b_ α] (n:Nat) (cs:List SV) (h:cs=b_.cells (default:α)):((List.range n).flatMap λ_=>cs)=fl (List.replicate n (default:α)):=by
 subst h;induction n with
 | zero=>rfl
 | succ n ih=>rw [List.range_succ,uC,ih,List.replicate_succ',fF];simp [fl]
theorem Ka [b_ α] (τ:Nm->Nm) (xs:List α):jz τ (fl xs)=fl xs:=nS (BP xs)
theorem LP:b_.sz Int=1:=rfl
theorem Kb:b_.sz Bool=1:=rfl
theorem Kc [b_ α]:b_.sz (List α)=1:=rfl
theorem Hn (x:Int):b_.cells x=[SV.v (.int .i64 x)]:=rfl
theorem FZ (x:Bool):b_.cells x=[SV.v (.bool x)]:=rfl
theorem Ho [b_ α] (x:List α):b_.cells x=[SV.sl x.length (fl x)]:=rfl
theorem Kd:List.range 0=[]:=rfl
theorem Ke:List.range 1=[0]:=rfl
theorem Kf:List.range 2=[0,1]:=rfl
theorem Kg:List.range 3=[0,1,2]:=rfl
theorem Kh:List.range 4=[0,1,2,3]:=rfl
theorem Ki:List.range 5=[0,1,2,3,4]:=rfl
theorem Kj:List.range 6=[0,1,2,3,4,5]:=rfl
def qh:List Nm->Nm->Bool
 | [],_=>false
 | a::r,k=>a.eqk k||qh r k
theorem ov:∀ {l:List Nm} {k:Nm},qh l k=true->my l k
 | a::r,k,h=>by
  simp only [qh,kX] at h
  rcases h with h|h
  ·exact ⟨a,by simp,Nm.eqk_iff.1 h⟩
  ·obtain ⟨j,hj,he⟩:=ov h
   exact ⟨j,by simp [hj],he⟩
theorem LQ (l:List Nm) (k:Nm):my l k=(qh l k=true):=by
 refine propext ⟨λ⟨j,hj,he⟩=>?_,ov⟩;induction l with
 | nil=>cases hj
 | cons a r ih =>
  simp only [qh,kX];rcases fc.1 hj with rfl|hj
  ·exact .inl (Nm.eqk_iff.2 he)
  ·exact .inr (ih ⟨j,hj,he⟩ hj)
def sg (c:cp) (cs:List SV):Prop:=match c with
 | .row _ cs'=>cs'=cs
 | _=>False
theorem jt [b_ α] {hp hp':Hp} {σ:List (Nm×Nm)} {frz:List Nm} {k:Nm} {n n':Nat} (ys:List α) (h1:n=ys.length) (h23:qh frz k=true/\sg (bW hp k) (fl ys)) (h4:n'=ys.length):fu hp hp' σ frz (.own k 0 n) (.sl n' (fl ys))=True:=by
 obtain ⟨h2,h3⟩:=h23;refine eq_true ?_;simp only [fu];subst h1;refine ⟨h4.symm,ov h2,?_⟩;cases hk:bW hp k with
 | row e cs =>
  rw [hk] at h3;simp only [sg] at h3;subst h3;refine ⟨e,fl ys,ys.length*b_.sz α,rfl,λh0=>by rw [h0,lJ],.inl ⟨BP ys,?_⟩⟩;rw [da,rr,ra ys _ rfl]
 | _=>rw [hk] at h3;exact h3.elim
theorem F0 [b_ α] (ys:List α) (b:Int):(fl (cut ys 0 b) <+: fl ys)=True:=by
 refine eq_true ?_;have:cut ys 0 b=ys.take b.toNat:=by simp [cut]
 rw [this,←ES];exact List.take_prefix _ _
def mi (m:List (Int×Int)):List (Value×SV):=m.map λp=>(.int .i64 p.1,.v (.int .i64 p.2))
def fU (m:List (Int×Int)) (k:Int):Int:=((m.find? λp=>k==p.1).map (·.2)).getD 0
def iv (m:List (Int×Int)) (k v:Int):List (Int×Int):=match m with
 | []=>[(k,v)]
 | p::r=>bif k==p.1 then (k,v)::r else p::iv r k v
theorem LR (m:List (Int×Int)):sS (mi m)=true:=by
 induction m with
 | nil=>rfl
 | cons p r ih=>simp only [mi,gu,sS,SV.st,rp];exact ih
theorem LS:mi []=[]:=rfl
theorem CT (m:List (Int×Int)) (k:Int):(mi m).all (λp=>gJ (.int .i64 k) p.1)=true:=by simp [mi,gJ]
theorem Hq (k a:Int):gN (.int .i64 k) (.int .i64 a)=(k==a):=by simp [gN,kc]
theorem Ap (k:Int):∀ (m:List (Int×Int)) (i:Nat),eW (.int .i64 k) (mi m) i=(m.findIdx? λp=>k==p.1).map λj=>(i+j,.v (.int .i64 (m.getD j (0,0)).2))
 | [],i=>rfl
 | p::r,i=>by
  show (bif gN (.int .i64 k) (.int .i64 p.1) then _ else eW _ (mi r) (i+1))=_
  rw [Hq,List.findIdx?_cons]
  cases h:k==p.1 with
  | true=>simp
  | false =>
   simp only [ck,Ap k r (i+1)]
   cases (r.findIdx? λp=>k==p.1) with
   | none=>simp
   | some j=>simp;omega
theorem IA (m:List (Int×Int)) (k:Int):gz (.int .i64 0) (.int .i64 k) (mi m) = .v (.int .i64 (fU m k)):=by
 unfold gz fU;induction m with
 | nil=>rfl
 | cons p r ih =>
  rw [Ap] at ih ⊢;rw [List.findIdx?_cons,List.find?_cons];cases h:k==p.1 with
  | true=>simp
  | false =>
   simp only [fx,lI];cases hr:(r.findIdx? λp=>k==p.1) with
   | none=>rw [hr] at ih;simpa using ih
   | some j=>rw [hr] at ih;simpa using ih
theorem Kk (m:List (Int×Int)) (k v:Int):lm (.int .i64 k) (.v (.int .i64 v)) (mi m)=mi (iv m k v):=by
 unfold lm;rw [Ap];induction m with
 | nil=>rfl
 | cons p r ih =>
  rw [List.findIdx?_cons];unfold iv;cases h:k==p.1 with
  | true=>simp [mi]
  | false =>
   simp only [fx,lI,ck];cases hr:(r.findIdx? λp=>k==p.1) with
   | none=>rw [hr] at ih;simp [mi] at ih ⊢;exact ih
   | some j=>rw [hr] at ih;simp [mi] at ih ⊢;exact ih
end
section
open Go.RowKit
variable {P:Program} {m N:Nat} {Q:gY} {fr:Fr} {hp:Hp} {nx:Nat} {ops:Array Oper}
theorem c_ {l:List Oper} {K:Fr->Hp->Nat->Prop} (h:dZ P false ops l fr hp nx [] K):lN P ops l fr hp nx (qz K):=h
theorem pf {l:List Oper} {acc:List fR} {K:Fr->Hp->Nat->Prop} (h:dZ P true ops l fr hp nx acc K):yo P ops l fr hp nx acc (qz K):=h
theorem cC {ρ:Type} {b:Bool} {X:Option ρ} {o:ρ} {G:Prop} (h:(bif b then X else none)=some o) (k:b=true->X=some o->G):G:=by
 cases b with
 | false=>cases h
 | true=>exact k rfl h
theorem wZ {p b:Bool} (h:(!p||b)=true) (hp:p=true):b=true:=by subst hp;exact h
theorem sX {d:Bool} {l:List Oper} {acc:List fR} {K:Fr->Hp->Nat->Prop} {ρ:Type} {b:Bool} {X Y:Option ρ} {o:ρ} (h:(bif b then X else Y)=some o) (t:Nat) (ht:cM fr t = .v (.bool b)\/cM fr t = .gd true (.v (.bool b)))
  (k1:b=true->X=some o->dZ P d ops l ((t,bif (match cM fr t with | .gd _ _=>true|_=>false) then .gd true (.v (.bool true)) else .v (.bool true))::fr) hp nx acc K)
  (k2:b=false->Y=some o->dZ P d ops l ((t,bif (match cM fr t with | .gd _ _=>true|_=>false) then .gd true (.v (.bool false)) else .v (.bool false))::fr) hp nx acc K):dZ P d ops l fr hp nx acc K :=
 cL t b ht (λhb=>k1 hb (by rw [hb] at h;exact h)) (λhb=>k2 hb (by rw [hb] at h;exact h))
theorem eC {R:gY} {id:Nat} (hx:∀ id,R (.exit id)=Q (.exit id)) (h:Q (.exit id) fr hp nx):R (.exit id) fr hp nx:=by rw [hx];exact h
theorem fm {R:gY} (hx:R .ret=Q .ret) (h:Q .ret fr hp nx):R .ret fr hp nx:=by rw [hx];exact h
def vb (P:Program) (fr:Fr) (hp:Hp) (nx:Nat):List ResultVar->Option (List SV)
 | []=>some []
 | .tmp t::r=>(vb P fr hp nx r).map λxs=>cM fr t::xs
 | .cell a t::r=>match cM fr a with
  | .ptr k off=>match bW hp k with
   | .row _ cs=>bif uY P t cs off then (match ky P t cs off [k.key] nx with
    | .ok _ e=>(vb P fr hp nx r).map λxs=>e.val::xs
    | .bad=>none) else none
   | _=>none
  | _=>none
theorem xo:∀ (rs:List ResultVar) (xs:List SV) (K:List SV->Prop),vb P fr hp nx rs=some xs->K xs->wN P fr hp nx rs K
 | [],xs,K,h,k=>by cases h;exact k
 | .tmp t::r,xs,K,h,k=>by
  simp only [vb,mr] at h
  obtain ⟨ys,h1,rfl⟩:=h
  exact xo r ys (λxs=>K (cM fr t::xs)) h1 k
 | .cell a t::r,xs,K,h,k=>by
  simp only [vb] at h
  unfold wN n4
  split at h
  ·rename_i kk off ha
   rw [ha]
   simp only
   split at h
   ·rename_i e cs hk
    rw [hk]
    simp only [oY]
    rw [e_] at h
    split at h
    ·rename_i hb
     split at h
     ·rename_i s e ht
      rw [ht]
      simp only [mr] at h
      obtain ⟨ys,h1,rfl⟩:=h
      exact ⟨sR ht hb,xo r ys (λxs=>K (e.val::xs)) h1 k⟩
     ·cases h
    ·cases h
   ·cases h
  ·cases h
theorem CU {rs:List ResultVar} {Post:SV->Hp->Nat->Prop} (x:SV) (h:(vb P fr hp nx rs).map uT=some x) (k:wO P m Post x hp):Cw P rs m Post .ret fr hp nx:=by
 obtain ⟨ys,h1,rfl⟩:=mr.1 h;exact xo rs ys _ h1 k
theorem qi {rs:List ResultVar} {Post:SV->Hp->Nat->Prop} (x:SV) (h:(vb P fr hp nx rs).map uT=some x) (k:wO P m Post x hp):Cw P rs m Post .normal fr hp nx:=by
 obtain ⟨ys,h1,rfl⟩:=mr.1 h;exact xo rs ys _ h1 k
theorem cn:t6 []:=trivial
theorem bX {p:Prop} {l:List Prop} (h:p) (t:t6 l):t6 (p::l):=⟨h,t⟩
theorem je {s:Prop} {v v':SV} {u u':Hp} {n:Nat} {r:List Nm} (hs:s) (hv:v=v') (hu:u=u'):gO (.ok s ⟨v,u,n,r⟩) ⟨v',u',n,r⟩:=⟨hs,hv,hu,rfl,rfl⟩
variable {α:Type}
theorem fg [b_ α] (xs:List α) (z nx:Nat) (i:Int) (k:0<=i/\i<(xs.length:Int)):gO (.ok (0<=i/\i<(xs.length:Int)) ⟨.iptr (fl xs) (i.toNat*z),[],nx,[]⟩) ⟨.iptr (fl xs) (i.toNat*z),[],nx,[]⟩:=je k rfl rfl
theorem eu (kk:Nm) (n off z nx:Nat) (i:Int) (k:0<=i/\i<(n:Int)):gO (.ok (0<=i/\i<(n:Int)) ⟨.ptr kk (off+i.toNat*z),[],nx,[kk.key]⟩) ⟨.ptr kk (off+i.toNat*z),[],nx,[kk.key]⟩:=je k rfl rfl
theorem gZ [b_ α] (xs:List α) (i:Int) (z j off:Nat) (k:0<=i/\i<(xs.length:Int)) (hz:b_.sz α=z) (hj:j<z) (ho:off=i.toNat*z+j) (d v:SV) (hv:(b_.cells (ix xs i)).getD j d=v) (nx:Nat) (rds:List Nm):gO (.ok (off<(fl xs).length) ⟨(fl xs).getD off d,[],nx,rds⟩) ⟨v,[],nx,rds⟩:=by
 subst hz;have hlt:i.toNat<xs.length:=by omega
 have hle:(i.toNat+1)*b_.sz α<=xs.length*b_.sz α:=kY _ hlt;rw [gW] at hle;refine je ?_ ?_ rfl
 ·rw [iz];omega
 ·rw [ho,←hv];exact J_ xs i j k d hj
theorem g_ [b_ α] (xs:List α) (i:Int) (z off:Nat) (k:0<=i/\i<(xs.length:Int)) (hz:b_.sz α=z) (ho:off=i.toNat*z) (v:List SV) (hv:b_.cells (ix xs i)=v) (nx:Nat) (rds:List Nm):gO (.ok (off+z<=(fl xs).length) ⟨.agg (((fl xs).drop off).take z),[],nx,rds⟩) ⟨.agg v,[],nx,rds⟩:=by
 subst hz;have hlt:i.toNat<xs.length:=by omega
 have hle:(i.toNat+1)*b_.sz α<=xs.length*b_.sz α:=kY _ hlt;rw [gW] at hle;refine je ?_ ?_ rfl
 ·rw [iz];omega
 ·rw [ho,←hv];exact dH SV.agg (Iy xs i k)
theorem si [b_ α] (xs:List α) (i:Int) (z j off:Nat) (k:0<=i/\i<(xs.length:Int)) (hz:b_.sz α=z) (vs:List SV) (y:α) (hj:j+vs.length<=z) (ho:off=i.toNat*z+j) (hy:fQ (b_.cells (ix xs i)) j vs=b_.cells y) (kk:Nat) (nx e t:Nat) (hs:jJ P t=some vs.length) (h1:vs.all jp=true) :
  gO (.ok (jJ P t=some vs.length/\vs.all jp=true/\off+vs.length<=(fl xs).length) ⟨.any,[(Nm.t kk,.row e (fQ (fl xs) off vs))],nx,[Nm.t kk]⟩) ⟨.any,[(Nm.t kk,.row e (fl (xs.set i.toNat y)))],nx,[Nm.t kk]⟩:=by
 subst hz;have hlt:i.toNat<xs.length:=by omega
 have hle:(i.toNat+1)*b_.sz α<=xs.length*b_.sz α:=kY _ hlt;rw [gW] at hle;refine je ⟨hs,h1,?_⟩ rfl ?_
 ·rw [iz];omega
 ·rw [ho,LO xs i k y j vs hj hy]
theorem hJ [b_ α] (xs ys:List α) (z B:Nat) (hz:b_.sz α=z) (news:List SV) (m:Nat) (hn:news=fl ys) (hm:m=ys.length) (s0:Prop) (h0:s0) (e:TypeId) (hB:P.bytesOf e=B) (hpos:0<B) (hle:(xs++ys).length*B<=140737488355328) (kk nx:Nat) (rds:List Nm) :
  gO (.ok (s0/\e=e/\news.length=m*z/\news.all jp=true/\0+xs.length*z<=(fl xs).length/\0<P.bytesOf e/\(xs.length+m)*P.bytesOf e<=140737488355328) ⟨.own nx 0 (xs.length+m),[(Nm.t nx,.row e (da (fl xs) 0 (xs.length*z)++news)),(Nm.t kk,.dead)],nx+1,Nm.t kk::rds⟩) ⟨.own nx 0 (xs++ys).length,[(Nm.t nx,.row e (fl (xs++ys))),(Nm.t kk,.dead)],nx+1,Nm.t kk::rds⟩:=by
 subst hz;subst hn;subst hm;subst hB;rw [ec] at hle ⊢;refine je ⟨h0,rfl,iz ys,Hm ys,by rw [iz,dm];exact cF _,hpos,hle⟩ rfl ?_;rw [da,rr,ra xs _ rfl,fF]
theorem iJ [b_ α] (ys:List α) (z:Nat) (hz:b_.sz α=z):da (fl ys) 0 (ys.length*z)=fl ys:=by
 subst hz;rw [da,rr,ra ys _ rfl]
theorem fI [b_ α] (ys:List α) (z:Nat) (hz:b_.sz α=z):0+ys.length*z<=(fl ys).length:=by
 subst hz;rw [iz,dm];exact cF _
theorem zH [b_ α] (ys:List α) (z:Nat) (hz:b_.sz α=z):(fl ys).length=ys.length*z:=by
 subst hz;exact iz ys
theorem Jm [b_ α] (n:Int) (e:TypeId) (B:Nat) (hB:P.bytesOf e=B) (zs:List SV) (hzs:zs=b_.cells (default:α)) (z:Nat) (hz:zs.length=z) (hpos:0<z) (k:0<=n/\n<=4611686018427387904/\(B:Int)*n<=140737488355328) (nx:Nat) :
  gO (.ok (0<=n/\n<=n/\n<=4611686018427387904/\(P.bytesOf e:Int)*n<=140737488355328/\zs.length=z/\0<z) ⟨.own nx 0 n.toNat,[(Nm.t nx,.row e ((List.range n.toNat).flatMap λ_=>zs))],nx+1,[]⟩) ⟨.own nx 0 (List.replicate n.toNat (default:α)).length,[(Nm.t nx,.row e (fl (List.replicate n.toNat (default:α))))],nx+1,[]⟩:=by
 subst hB;refine je ⟨k.1,iU _,k.2.1,k.2.2,hz,hpos⟩ (by rw [ru]) (by rw [CS n.toNat zs hzs])
theorem uk (d:TypeDesc) (hd:lX d (.int .i64 0)=true) (k:Int) (mm:List (Int×Int)) (kk:Nm) (nx:Nat):gO (.ok (lX d (.int .i64 k)=true/\(mi mm).all (λp=>gJ (.int .i64 k) p.1)=true) ⟨gz (.int .i64 0) (.int .i64 k) (mi mm),[],nx,[kk.key]⟩) ⟨.v (.int .i64 (fU mm k)),[],nx,[kk.key]⟩ :=
 je ⟨hd,CT mm k⟩ (IA mm k) rfl
theorem qQ (d:TypeDesc) (hd:lX d (.int .i64 0)=true) (k v:Int) (mm:List (Int×Int)) (kk nx:Nat):gO (.ok (lX d (.int .i64 k)=true/\(mi mm).all (λp=>gJ (.int .i64 k) p.1)=true) ⟨.any,[(Nm.t kk,.map (lm (.int .i64 k) (.v (.int .i64 v)) (mi mm)))],nx,[Nm.t kk]⟩) ⟨.any,[(Nm.t kk,.map (mi (iv mm k v)))],nx,[Nm.t kk]⟩ :=
 je ⟨hd,CT mm k⟩ rfl (by rw [Kk])
theorem Aq {s:Prop} {v:SV} {nx:Nat} {r:List Nm} (hs:s):gO (.ok s ⟨v,[],nx,r⟩) ⟨v,[],nx,r⟩:=je hs rfl rfl
theorem rs {d:Bool} {l:List Oper} {acc:List fR} {K:Fr->Hp->Nat->Prop} (n:Nat) (sc:List (Option dw)) (obs:List Prop) (h:((gk P d ops n l sc ⟨fr,hp,nx,acc,[]⟩).map (·.obs))=some obs) (ho:t6 obs)
  (k:dZ P d ops (l.drop n) (iN (gk P d ops n l sc ⟨fr,hp,nx,acc,[]⟩)).fr (iN (gk P d ops n l sc ⟨fr,hp,nx,acc,[]⟩)).hp (iN (gk P d ops n l sc ⟨fr,hp,nx,acc,[]⟩)).nx (iN (gk P d ops n l sc ⟨fr,hp,nx,acc,[]⟩)).acc K):dZ P d ops l fr hp nx acc K:=by
 obtain ⟨s,h1,h2⟩:=mr.1 h;exact J8 n sc obs (by rw [h1];rfl) (by rw [h1];exact h2) ho k
theorem rf {l:List Oper} {acc:List fR} {K:Fr->Hp->Nat->Prop} (fr':Fr) (hp':Hp) (nx':Nat) (h:(l,oN fr fr',lZ hp hp',lh hp hp',nx)=([],fr',hp',true,nx')) (k:K fr' hp' nx'):dZ P false ops l fr hp nx acc K:=by
 simp only [iH] at h;exact Nh fr' hp' nx' h.1 h.2.1 h.2.2.1 h.2.2.2.1 h.2.2.2.2 k
theorem rt {l:List Oper} {acc:List fR} {K:Fr->Hp->Nat->Prop} (fr':Fr) (hp':Hp) (nx':Nat) (h5:P.follows .mixedOrders=true) (h:(l,oN fr fr',lZ hp hp',lh hp hp',nx,mZ ops acc (wS ops.toList))=([],fr',hp',true,nx',true)) (k:K fr' hp' nx'):dZ P true ops l fr hp nx acc K:=by
 simp only [iH] at h;exact Ni fr' hp' nx' h.1 h.2.1 h.2.2.1 h.2.2.2.1 h.2.2.2.2.1 h5 h.2.2.2.2.2 k
end
section
open Go.RowKit
theorem F7 (e:TypeId) (cs:List SV):sg (.row e cs) cs=True:=eq_true rfl
theorem Kl (a b:Nat):Nat.ble a b=decide (a<=b):=by rw [sH];simp
attribute [push_cast] Kl cond_true cond_false Bool.and_true Bool.true_and Bool.or_true Bool.true_or Bool.or_false Bool.false_or Bool.and_false Bool.false_and Bool.and_self Bool.not_true Bool.not_false decide_true decide_false
attribute [push_cast] List.map_cons List.map_nil List.length_cons List.length_nil List.cons_append List.nil_append List.length_append List.append_nil List.length_set List.length_replicate
attribute [push_cast high] ra jt
attribute [push_cast] true_or or_true false_or or_false List.all_cons List.all_nil wD iV
attribute [push_cast] F0 iz LM Iz CQ Em CR En Ka LP Kb Kc Hn FZ Ho qh F7 LS LR
theorem LT (n:Nat):(OfNat.ofNat n:Nm) = .t n:=rfl
theorem LU (a b:Nat):Nm.eqk (.t a) (.t b)=(a==b):=rfl
theorem LX (a F:Nat) (i:Int):Nm.eqk (.t a) (.s F i)=false:=rfl
theorem LY (a F:Nat) (i:Int):Nm.eqk (.s F i) (.t a)=false:=rfl
theorem LZ (F G:Nat) (i j:Int):Nm.eqk (.s F i) (.s G j)=(F==G):=rfl
theorem Nj (c:cp) (k:Nat):c.mem (.t k)=c:=rfl
theorem Nk (c:cp) (F:Nat) (i:Int):c.mem (.s F i)=c.at i:=rfl
theorem Of (j:Nm) (k:Nat):j.to (.t k)=j:=rfl
theorem Og (G F:Nat) (i j:Int):Nm.to (.s G j) (.s F i) = .s G i:=rfl
theorem Nl (hp hp':Hp) (σ:List (Nm×Nm)) (frz:List Nm) (k:Nat) (c:cp):zA hp hp' σ frz (.t k) c=nX hp hp' σ frz (.t k) c:=rfl
theorem Nn (hp hp':Hp) (σ:List (Nm×Nm)) (frz:List Nm) (F:Nat) (z:Int) (c:cp):zA hp hp' σ frz (.s F z) c =∀i:Int,nX hp hp' σ frz (.s F i) (c.at i):=rfl
theorem L0 (a b:Nat):((Nm.t a)==(Nm.t b))=(a==b):=rfl
theorem L7 (a F:Nat) (i:Int):((Nm.t a)==(Nm.s F i))=false:=rfl
theorem L8 (a F:Nat) (i:Int):((Nm.s F i)==(Nm.t a))=false:=rfl
attribute [push_cast] LT LU LX LY LZ Nj Nk Of Og Nl Nn L0 L7 L8 Nm.t.injEq Nm.s.injEq nX
attribute [push_cast] LQ
section
variable {hp hp':Hp} {σ:List (Nm×Nm)} {frz:List Nm}
theorem Km (s:SV):fu hp hp' σ frz s .any=True:=by simp only [fu]
theorem Kn (k k':Nm) (o n o' n':Nat):fu hp hp' σ frz (.own k o n) (.own k' o' n')=(di σ k'=some k/\o=o'/\n=n'/\(bW hp' k').live=true):=by simp only [fu]
theorem IB (x:Value) (k':Nm) (o' n':Nat):fu hp hp' σ frz (.v x) (.own k' o' n')=(x = .slice none 0 0/\o'=0/\n'=0/\(bW hp' k').live=true/\di σ k'=none):=by simp only [fu]
theorem Ko (k k':Nm) (o o':Nat):fu hp hp' σ frz (.ptr k o) (.ptr k' o')=(di σ k'=some k/\o=o'/\(bW hp' k').live=true):=by simp only [fu]
theorem L9 (k k':Nm):fu hp hp' σ frz (.mp k) (.mp k')=(di σ k'=some k/\(bW hp' k').live=true):=by simp only [fu]
theorem L_ (k k':Nm):fu hp hp' σ frz (.it k) (.it k')=(di σ k'=some k/\(bW hp' k').live=true):=by simp only [fu]
theorem Kp (xs ys:List SV):fu hp hp' σ frz (.agg xs) (.agg ys)=((iq ys=true/\xs=ys)\/lQ hp hp' σ frz xs ys):=by simp only [fu]
theorem Kq (xs ys:List SV):fu hp hp' σ frz (.tup xs) (.tup ys)=lQ hp hp' σ frz xs ys:=by simp only [fu]
theorem Kr (f f':FuncId) (xs ys:List SV):fu hp hp' σ frz (.clo f xs) (.clo f' ys)=(f=f'/\lQ hp hp' σ frz xs ys):=by simp only [fu]
theorem Ks (t t':String) (x y:SV):fu hp hp' σ frz (.mth t x) (.mth t' y)=(t=t'/\fu hp hp' σ frz x y):=by simp only [fu]
theorem Kt (t t':TypeId) (x y:SV):fu hp hp' σ frz (.ifc t x) (.ifc t' y)=(t=t'/\fu hp hp' σ frz x y):=by simp only [fu]
theorem Ku (x:Value) (n':Nat) (cs':List SV):fu hp hp' σ frz (.v x) (.sl n' cs')=(x = .slice none 0 0/\n'=0/\cs'=[]):=by simp only [fu]
theorem IC (n n':Nat) (cs cs':List SV):fu hp hp' σ frz (.sl n cs) (.sl n' cs')=(n=n'/\cs=cs'/\mN cs=true):=by simp only [fu]
def Hs (hp hp':Hp) (σ:List (Nm×Nm)) (frz:List Nm) (c:cp) (cs':List SV):Prop:=match c with
 | .row _ cs=>lQ hp hp' σ frz cs cs'
 | _=>False
theorem F8 (e:TypeId) (cs cs':List SV):Hs hp hp' σ frz (.row e cs) cs'=lQ hp hp' σ frz cs cs':=propext Iff.rfl
theorem Kv {k:Nm} {o o':Nat} {cs':List SV} (h:o=o'/\qh frz k=true/\Hs hp hp' σ frz (bW hp k) cs'):fu hp hp' σ frz (.ptr k o) (.iptr cs' o')=True:=by
 obtain ⟨rfl,h2,h3⟩:=h;refine eq_true ?_;simp only [fu];refine ⟨trivial,ov h2,?_⟩;cases hk:bW hp k with
 | row e cs =>
  rw [hk] at h3;obtain ⟨l1,l2⟩:=sD h3;exact ⟨e,cs,rfl,Nat.le_of_eq l1.symm,λP i x y hx hy=>mB (l2 i x y hx hy)⟩
 | _=>rw [hk] at h3;exact h3.elim
theorem ID (o o':Nat) (cs cs':List SV):fu hp hp' σ frz (.iptr cs o) (.iptr cs' o')=(cs=cs'/\o=o'/\mN cs=true):=by simp only [fu]
theorem No (s:SV) (y:Value):fu hp hp' σ frz s (.v y)=(s = .v y):=by simp only [fu]
end
attribute [push_cast] Km Kn IB Ko L9 L_ Kp Kq Kr Kt Ks Ku IC Kv ID No F8
attribute [push_cast] lQ CG pd Bf Hh Iu GE Ie rA If iq SV.st sS mN SV.cl kQ BP Hm cp.live eq_self Option.some.injEq and_self and_true true_and SV.nim iV tW wD iy jz ik
end
section
open Go.RowKit
variable {P:Program} {m N:Nat} {Q:gY} {fr:Fr} {hp:Hp} {nx:Nat} {ops:Array Oper}
theorem w3 {dt:Bool} {o:Oper} {K:SV->Hp->Nat->List Nm->Prop} (hd:pu ops fr o=some true) (hg:o.guard.isNone || !lM P o.op=true) (hc:i6 true fr o.op=none) (hso:uS o.op=true) (hs:wI dt P o fr hp nx K):iu dt P ops o fr hp nx K:=by
 have core:kB dt P true o fr hp nx K:=by
  unfold kB;rw [hc];exact .inl ⟨rfl,hso,hs⟩
 unfold iu;unfold pu at hd;cases hq:o.guard with
 | none=>exact core
 | some jw =>
  rw [hq] at hd hg;simp only at hd ⊢;rw [hd];have:lM P o.op=false:=by simpa using hg
  simp only [this,ck];exact ⟨λ_=>core,(λhe=>by cases he)⟩
def Jn (P:Program) (fr:Fr):List Oper->Option (Nat×Option Tmp)
 | o::_=>match o.guard,o.op with
  | none,.binOp .eql t x (.const (.slice none 0 0)) _=>match P.underlying t,dB true fr x with
   | some (.slice _),.sl n _=>some (n,o.dst)
   | _,_=>none
  | _,_=>none
 | []=>none
theorem Ht {P:Program} {t e:TypeId} (hu:P.underlying t=some (.slice e)) (a:Option Addr) (n cap:Nat) (w:World) :
  (binOp .eql t (.slice a n cap) (.slice none 0 0)).run P w = .ok (.bool a.isNone) w:=by
 have h0:∀ D,(Op.equalIn (D+1) t (.slice a n cap) (.slice none 0 0)).run P w = .ok a.isNone w:=λD=>by
  cases a<;>simp [Op.equalIn,dF hu]
 have h:(Op.equal t (.slice a n cap) (.slice none 0 0)).run P w = .ok a.isNone w:=h0 9999;simp only [binOp,cZ,h];rfl
theorem Ar {l:List Oper} {acc:List fR} {K:Fr->Hp->Nat->Prop} (n:Nat) (dst:Option Tmp) (h:Jn P fr l=some (n,dst))
  (k1:n=0->dZ P false ops (l.drop 1) (gg dst (.v (.bool true)) fr) hp nx acc K) (k2:dZ P false ops (l.drop 1) (gg dst (.v (.bool false)) fr) hp nx acc K):dZ P false ops l fr hp nx acc K:=by
 cases l with
 | nil=>cases h
 | cons o rest =>
  simp only [Jn] at h;split at h
  ·rename_i t x ty hg ho;split at h
   ·rename_i et n' cs hu hx;simp only [fM,iH] at h;obtain ⟨rfl,rfl⟩:=h;show iu false P ops o fr hp nx _;refine w3 (by unfold pu;rw [hg]) (by rw [hg];rfl) (by rw [ho];rfl) (by rw [ho];rfl) ?_;intro X ids w fr' hp' a hP h1 h2 h3 h4 h5 h6 KK Q hK;subst hP;have hx':dB true fr' x = .sl n' cs:=by
     rw [←hx];exact rD λt' ht=>h4 t' (pY (o:=o.op) (by rw [ho];simp [Op.operands]) ht)
    have hev:=rC h3 (g:=true) rfl x;rw [hx'] at hev;obtain ⟨ad,cap,hv,hnil⟩:∃ (ad:Option Addr) (cap:Nat),a.eval x = .slice ad n' cap/\(ad=none->n'=0):=by
     rcases sJ hev with ⟨ad,cap,hv,_,_,hd⟩;generalize hgen:a.eval x=y at hev hv;cases hev with
     | sl0 hc=>exact ⟨_,_,rfl,λ_=>rfl⟩
     | sl b o cap c hb hn hcap hc hx=>exact ⟨_,_,rfl,λhe=>by cases he⟩
    have hrun:(execOp a.eval o).run X.P w = .ok (.value (.bool ad.isNone)) w:=by
     unfold execOp;rw [ho];simp only [cZ];rw [hv,show a.eval (.const (.slice none 0 0)) = .slice none 0 0 from rfl,k_ (by simp) (by simp)];simp only [du,Ht hu,eG]
    refine mY (.inl hrun) ?_;cases ad with
    | none=>exact hK (.v (.bool true)) [] nx [] _ w ids (k1 (hnil rfl)) ⟨cF _,λp hp=>by cases hp⟩ h1 (kx.refl _ _ _ _) .v
    | some q=>exact hK (.v (.bool false)) [] nx [] _ w ids k2 ⟨cF _,λp hp=>by cases hp⟩ h1 (kx.refl _ _ _ _) .v
   ·cases h
  ·cases h
def sY (P:Program) (ops:Array Oper) (fr:Fr):List Oper->Option Oper
 | o::_=>match pu ops fr o,i6 true fr o.op with
  | some true,none=>bif o.guard.isNone || !lM P o.op then some o else none
  | _,_=>none
 | []=>none
theorem xp {d:Bool} {l:List Oper} {acc:List fR} {K:Fr->Hp->Nat->Prop} (o:Oper) (e:dw) (h:sY P ops fr l=some o) (hle:nx<=e.nx) (hso:uS o.op=true) (hs:nW P o fr hp nx (tB e))
  (k:dZ P d ops (l.drop 1) (gg o.dst e.val fr) (e.upd++hp) (bif d then e.nx+1 else e.nx) (acc++[⟨e.upd.map (·.1.key),e.rds,nx,e.nx⟩]) K):dZ P d ops l fr hp nx acc K:=by
 cases l with
 | nil=>cases h
 | cons o' rest =>
  simp only [sY] at h;split at h
  ·rename_i h1 h2;rw [e_] at h;split at h
   ·rename_i h3;cases h;cases d with
    | false=>exact w3 h1 (by simpa using h3) h2 hso (K:=λval upd nx' _=>lN P ops rest (gg o.dst val fr) (upd++hp) nx' (qz K)) (hs.mono rfl λv u n r he=>by obtain ⟨rfl,rfl,rfl,rfl⟩:=he;exact k)
    | true=>exact w3 (dt:=true) (hp:=hp) (nx:=nx) (P:=P) h1 (by simpa using h3) h2 hso (K:=λval upd nx' rds=>yo P ops rest (gg o.dst val fr) (upd++hp) (nx'+1) (acc++[fR.mk (upd.map (·.1.key)) rds nx nx']) (qz K)) ⟨e,hle,k,hs⟩
   ·cases h
  ·cases h
theorem EU {o:Oper} {e:dw} (hk:uR hp nx e.upd e.nx e.rds)
  (h:∀ (X:Cx) (ids:dD) (w:World) (fr':Fr) (hp':Hp) (a:Act),X.P=P->dS X hp' nx ids w->(∀ d,cW X hp' ids w (cM fr' d) (a.tmps.getD d undef))->(∀ x,x∈o.op.operands.toList->dB true fr' x=dB true fr x)->(∀ k:Nm,k.key∈e.rds->bW hp' k=bW hp k) ->
   ze X hp' ids w ((execOp a.eval o).run X.P w) e):nW P o fr hp nx (tB e):=by
 intro X ids w fr' hp' a hP h1 h2 h3 h4 h5 h6 KK Q hK;obtain ⟨h7,h8⟩:=h6 e.val e.upd e.nx e.rds ⟨rfl,rfl,rfl,rfl⟩;obtain ⟨x,w',ids',g1,g2,g3,g4⟩:=h X ids w fr' hp' a hP ⟨h1,h5,h2⟩ h3 (λx hx=>rD λt ht=>h4 t (pY hx ht)) h8;subst hP;exact mY g1 (hK _ _ _ _ _ _ _ ⟨rfl,rfl,rfl,rfl⟩ hk g2 g3 g4)
theorem IE {o:Oper} {t e:TypeId} {x:Operand} {lo hi:Option Operand} {k:Nm} {z n:Nat} {cs:List SV} {l h:Int} (ho:o.op = .slice t x lo hi none) (hst:i5 P t=some (e,z)) (hx:dB true fr x = .own k 0 n) (hrow:bW hp k = .row e cs) (hz:P.cellsOf e=z)
  (b1:lg (lo.map (dB true fr)) 0=some l) (b2:lg (hi.map (dB true fr)) n=some h) (h0:0<=l) (h1:l<=h) (h2:h<=n) (hn:n*z<=cs.length) :
  nW P o fr hp nx (tB ⟨.own nx 0 (h.toNat-l.toNat),[(Nm.t nx,.row e (da cs (l.toNat*z) ((h.toNat-l.toNat)*z))),d9 k .dead hp],nx+1,[k.key]⟩):=by
 have hlk:(bW hp k).live=true:=by rw [hrow];rfl
 refine EU ⟨oe _,λp hp1=>?_⟩ ?_
 ·rcases fc.1 hp1 with rfl|hp1
  ·exact .inl ⟨cF _,tm _⟩
  ·rcases fc.1 hp1 with rfl|hp1
   ·exact .inr ⟨by simp [gX],k,by simp [gX],iW hlk⟩
   ·cases hp1
 intro X ids w fr' hp' a hP hH hf hev hrd;subst hP;rw [←lp (c:=.dead) hrd (List.mem_cons_self ..)];have hx':dB true fr' x = .own k 0 n:=by rw [hev x (by rw [ho];simp [Op.operands]),hx]
 have hrow':bW hp' k = .row e cs:=by rw [hrd k (List.mem_cons_self ..),hrow]
 have hlk':(bW hp' k).live=true:=by rw [hrow'];rfl
 have hd:=rC hf (g:=true) rfl x;rw [hx'] at hd;have hl':lo.map (dB true fr')=lo.map (dB true fr):=by
  cases lo with
  | none=>rfl
  | some q=>simp only [fk];rw [hev q (by rw [ho];simp [Op.operands])]
 have hh':hi.map (dB true fr')=hi.map (dB true fr):=by
  cases hi with
  | none=>rfl
  | some q=>simp only [fk];rw [hev q (by rw [ho];simp [Op.operands])]
 rw [←hl'] at b1;rw [←hh'] at b2;have hb1:oo (lo.map a.eval) 0 l:=j6 b1 (λhn=>by cases lo with|none=>rfl|some q=>cases hn) (λs hs=>by
  cases lo with
  | none=>cases hs
  | some q=>cases hs;exact ⟨_,rfl,rC hf (g:=true) rfl q⟩)
 have hb2:oo (hi.map a.eval) n h:=j6 b2 (λhn=>by cases hi with|none=>rfl|some q=>cases hn) (λs hs=>by
  cases hi with
  | none=>cases hs
  | some q=>cases hs;exact ⟨_,rfl,rC hf (g:=true) rfl q⟩)
 obtain ⟨i,hu,hi',rfl⟩:=gM hst;obtain ⟨ad,cap,hv,c1,c2,c4,c3⟩:=mc hd hlk';have hkn:k≠nx:=λe'=>by subst e';rw [hH.fresh] at hlk';cases hlk'
 have hle:l.toNat*i.size+(h.toNat-l.toNat)*i.size<=cs.length:=by
  rw [←gW];exact ma (kY _ (by omega)) hn
 have hal:(da cs (l.toNat*i.size) ((h.toNat-l.toNat)*i.size)).length=(h.toNat-l.toNat)*i.size:=by
  simp only [da,gI,jB];omega
 obtain ⟨g1,g2⟩:=xK hH hrow' (cs':=da cs (l.toNat*i.size) ((h.toNat-l.toNat)*i.size)) (off:=l.toNat*i.size) (by rw [hal];exact hle) (λj y hj=>(jK hj).2);refine ⟨.slice (if cap=l.toNat then ad else ad.map (·.add (l.toNat*i.size))) (h.toNat-l.toNat) (cap-l.toNat),w,_,.inl ?_,g1,g2,?_⟩
 ·unfold execOp;rw [ho];simp only [hv,cZ];have:=mP hu hi' ad n cap hb1 hb2 h0 h1 h2 c1 w;simp only [Option.map_none] at this ⊢;rw [this];rfl
 ·refine .own _ _ (by
   show (bW ((Nm.t nx,cp.row e _)::d9 k .dead hp'::hp') nx).live=true;rw [dv,cG];rfl) ⟨by omega,by omega,λe2 cs2 hc2=>?_,?_⟩
  ·replace hc2:bW ((Nm.t nx,cp.row e _)::d9 k .dead hp'::hp') nx=_:=hc2;rw [dv,cG] at hc2;cases hc2;rw [hal,hz,dm];exact kY _ (by omega)
  by_cases hc:cap=l.toNat
  ·exact .inl ⟨by omega,by omega⟩
  ·rw [if_neg hc];rcases c3 with ⟨_,rfl⟩|⟨b,o',e2,cs2,arr,hC,hid,rfl,hw,hsz⟩
   ·exact .inl ⟨by omega,by omega⟩
   ·rw [hrow'] at hC;cases hC;refine .inr ⟨b,o'+l.toNat*i.size,e,_,arr,by
     show bW ((Nm.t nx,cp.row e _)::d9 k .dead hp'::hp') nx=_;rw [dv,cG],by rw [cG,hid];rfl,by simp only [fk,p8,eE],hw,?_⟩
    rw [hz] at hsz ⊢;have:l.toNat*i.size+(cap-l.toNat)*i.size=cap*i.size:=by rw [←gW];congr 1;omega
    omega
variable {α:Type}
theorem cut_len (ys:List α) (l h:Int) (k:0<=l/\l<=h/\h<=(ys.length:Int)):(cut ys l h).length=h.toNat-l.toNat:=by
 simp only [cut,gI,jB];omega
theorem w4 [b_ α] (ys:List α) (l h:Int):da (fl ys) (l.toNat*b_.sz α) ((cut ys l h).length*b_.sz α)=fl (cut ys l h):=by
 rw [LN];congr 1;simp only [cut,gI,jB];rw [List.take_eq_take_iff];simp
def Jo (P:Program) (ops:Array Oper) (fr:Fr) (hp:Hp) (l:List Oper):Option (Option Tmp×Nm×Nat×TypeId×List SV×Nat×Int×Int):=match sY P ops fr l with
 | some o=>match o.op with
  | .slice t x lo hi none=>match i5 P t,dB true fr x with
   | some (e,z),.own k 0 n=>match bW hp k,lg (lo.map (dB true fr)) 0,lg (hi.map (dB true fr)) n with
    | .row e' cs,some a,some b=>bif e'==e&&P.cellsOf e==z then some (o.dst,k,n,e,cs,z,a,b) else none
    | _,_,_=>none
   | _,_=>none
  | _=>none
 | none=>none
theorem vc [b_ α] {d:Bool} {l:List Oper} {acc:List fR} {K:Fr->Hp->Nat->Prop} (ys:List α) (dst:Option Tmp) (k:Nm) (z:Nat) (e:TypeId) (a b:Int) (hc:Jo P ops fr hp l=some (dst,k,ys.length,e,fl ys,z,a,b)) (hz:b_.sz α=z) (hb:0<=a/\a<=b/\b<=(ys.length:Int))
  (h:dZ P d ops (l.drop 1) (gg dst (.own nx 0 (cut ys a b).length) fr) ([(Nm.t nx,.row e (fl (cut ys a b))),d9 k .dead hp]++hp) (bif d then nx+2 else nx+1) (acc++[⟨[Nm.t nx,(d9 k .dead hp).1.key],[k.key],nx,nx+1⟩]) K):dZ P d ops l fr hp nx acc K:=by
 unfold Jo at hc;split at hc
 ·rename_i o ho;split at hc
  ·rename_i t x lo hi hop;split at hc
   ·rename_i e1 z1 k1 n1 hst hx;split at hc
    ·rename_i e2 cs a1 b1 hrow h1 h2;rw [e_] at hc;split at hc
     ·rename_i hq;simp only [cT,jE] at hq;simp only [fM,iH] at hc;obtain ⟨rfl,rfl,rfl,rfl,rfl,rfl,rfl,rfl⟩:=hc;obtain ⟨rfl,hcz⟩:=hq;subst hz;have:=IE (P:=P) (fr:=fr) (hp:=hp) (nx:=nx) hop hst hx hrow hcz h1 h2 hb.1 hb.2.1 hb.2.2 (by rw [iz];exact cF _);rw [←cut_len ys _ _ hb,w4] at this;exact xp o _ ho (oe _) (by rw [hop];rfl) this h
     ·cases hc
    ·cases hc
   ·cases hc
  ·cases hc
 ·cases hc
theorem qR [b_ α] (ys:List α) (a b:Int) (z nx:Nat) (k:Nm) (e:TypeId) (hz:P.cellsOf e=z) (hb:0<=a/\a<=b/\b<=(ys.length:Int)):gO (.ok (P.cellsOf e=z/\0<=a/\a<=b/\b<=(ys.length:Int)) ⟨.own k (0+a.toNat*z) (b.toNat-a.toNat),[],nx,[k.key]⟩) ⟨.own k (a.toNat*z) (cut ys a b).length,[],nx,[k.key]⟩ :=
 je ⟨hz,hb⟩ (by rw [cut_len ys a b hb,dm]) rfl
theorem EV [b_ α] (ys:List α) (a b:Int) (z:Nat) (hz:b_.sz α=z):da (fl ys) (a.toNat*z) ((cut ys a b).length*z)=fl (cut ys a b):=by
 subst hz;exact w4 ys a b
theorem zI [b_ α] (ys:List α) (a b:Int) (z:Nat) (hz:b_.sz α=z) (hb:0<=a/\a<=b/\b<=(ys.length:Int)):a.toNat*z+(cut ys a b).length*z<=(fl ys).length:=by
 subst hz;rw [iz,cut_len ys a b hb,←gW];exact kY _ (by omega)
theorem kR [b_ α] {hp hp':Hp} {σ:List (Nm×Nm)} {frz:List Nm} {k:Nm} {n n' off:Nat} (ys:List α) (a b:Int) (h0:off=a.toNat*b_.sz α) (h1:n=(cut ys a b).length) (h23:qh frz k=true/\sg (bW hp k) (fl ys)) (h4:n'=(cut ys a b).length):fu hp hp' σ frz (.own k off n) (.sl n' (fl (cut ys a b)))=True:=by
 obtain ⟨h2,h3⟩:=h23;refine eq_true ?_;simp only [fu];subst h0;subst h1;refine ⟨h4.symm,ov h2,?_⟩;cases hk:bW hp k with
 | row e cs =>
  rw [hk] at h3;simp only [sg] at h3;subst h3;exact ⟨e,fl ys,(cut ys a b).length*b_.sz α,rfl,λh0=>by rw [h0,lJ],.inl ⟨BP ys,(w4 ys a b).symm⟩⟩
 | _=>rw [hk] at h3;exact h3.elim
attribute [push_cast high] kR
def Jp (P:Program) (ops:Array Oper) (fr:Fr) (l:List Oper):Option (Option Tmp×TypeId):=match sY P ops fr l with
 | some o=>match o.op with
  | .buildSlice t 0 ps=>match i5 P t with
   | some (e,_)=>bif ps.size==0 then some (o.dst,e) else none
   | none=>none
  | _=>none
 | none=>none
theorem Kw {o:Oper} {t e:TypeId} {z:Nat} (ho:o.op = .buildSlice t 0 #[]) (hst:i5 P t=some (e,z)):nW P o fr hp nx (tB ⟨.own nx 0 0,[(Nm.t nx,.row e [])],nx+1,[]⟩):=by
 refine EU ⟨oe _,λp hp1=>?_⟩ ?_
 ·rcases fc.1 hp1 with rfl|hp1
  ·exact .inl ⟨cF _,tm _⟩
  ·cases hp1
 intro X ids w fr' hp' a hP hH hf hev hrd;subst hP;obtain ⟨i,hu,hi',rfl⟩:=gM hst;obtain ⟨g1,g2⟩:=heap_alloc hH (e:=e) (cs:=[]) (arr:=#[]) (cF _) (λj x hj=>by simp at hj);refine ⟨.slice (some ⟨w.heap.size,0,none⟩) 0 0,_,_,.inl ?_,g1,g2,?_⟩
 ·unfold execOp;rw [ho];simp [Instr.buildSlice,dF hu,sizeOf,typeInfo,hi',Instr.fill,newRow,show Array.range 0 = #[] from by decide]
 ·refine .own _ _ (by
   show (bW ((nx,cp.row e _)::hp') nx).live=true;rw [dv,cG];rfl) ⟨cF _,by unfold maxLen;omega,λe2 cs2 hc2=>by
    replace hc2:bW ((nx,cp.row e _)::hp') nx=_:=hc2;rw [dv,cG] at hc2;cases hc2;exact io _,.inl ⟨rfl,rfl⟩⟩
theorem As {d:Bool} {l:List Oper} {acc:List fR} {K:Fr->Hp->Nat->Prop} (α:Type) [b_ α] (dst:Option Tmp) (e:TypeId) (hc:Jp P ops fr l=some (dst,e))
  (h:dZ P d ops (l.drop 1) (gg dst (.own nx 0 ([]:List α).length) fr) ([(Nm.t nx,.row e (fl ([]:List α)))]++hp) (bif d then nx+2 else nx+1) (acc++[⟨[nx],[],nx,nx+1⟩]) K):dZ P d ops l fr hp nx acc K:=by
 unfold Jp at hc;split at hc
 ·rename_i o ho;split at hc
  ·rename_i t ps hop;split at hc
   ·rename_i e1 z1 hst;rw [e_] at hc;split at hc
    ·rename_i hq;have hps:ps = #[]:=by simpa using hq
     subst hps;simp only [fM,iH] at hc;obtain ⟨rfl,rfl⟩:=hc;exact xp o _ ho (oe _) (by rw [hop];rfl) (Kw hop hst) h
    ·cases hc
   ·cases hc
  ·cases hc
 ·cases hc
theorem IF {xs ys:List SV} (h:iV xs=true) (g:iV ys=true):iV (xs++ys)=true:=by
 induction xs with
 | nil=>exact g
 | cons x xs ih=>simp only [iV,cT,iw] at h ⊢;exact ⟨h.1,ih h.2⟩
theorem m3 [b_ α] (h:∀ x:α,iV (b_.cells x)=true) (xs:List α):iV (fl xs)=true:=by
 induction xs with
 | nil=>rfl
 | cons x xs ih=>rw [kP];exact IF (h x) ih
@[push_cast] theorem Ow (xs:List Int):iV (fl xs)=true:=m3 (λ_=>rfl) xs
@[push_cast] theorem Oh (xs:List Bool):iV (fl xs)=true:=m3 (λ_=>rfl) xs
theorem Bl {hp hpL:Hp} (h:(lZ hp hpL,lh hp hpL)=(hpL,true)):bW hp=bW hpL:=by
 simp only [iH] at h;exact funext λk=>((xn (fr:=[]) (fr':=[]) rfl h.1 h.2).2 k).symm
theorem ke {d:Bool} {f:FuncId} {args args':List SV} {dst:Option Tmp} {ops:Array Oper} {l:List Oper} {acc:List fR} {K:Fr->Hp->Nat->Prop} {hin H:Hp} {m nn:Nat} {X:SV}
  (m8:cS P f args' hin m (λx h n=>x=X/\h=H/\n=nn)) (h:qP ops fr l=some (f,args,dst)) (hpL:Hp) (nxL:Nat) (hh:(lZ hp hpL,lh hp hpL,nx)=(hpL,true,nxL)) (σ:List (Nm×Nm)) (bor:List Nm) (resL:SV) (hpB:Hp)
  (h1:lQ hpL hin σ bor args args') (h2:pd hpL hin σ bor hin) (h3:(oW 0 σ bor,p5 0 m σ hin,EP m hin σ,oV H)=(true,true,true,true))
  (h6:bor=[]\/(X.nim=true/\tW H=true)) (e1:iy (f9 (di σ) nxL) X=resL) (e2:l9 (di σ) nxL m H hpL=hpB)
  (k:dZ P d ops (l.drop 1) (gg dst resL fr) (hpB++hp) (bif d then nxL+nn+1 else nxL+nn) (acc++[⟨hpB.map (·.1.key),bor.map Nm.key++mS (di σ) m,nxL,nxL+nn⟩]) K) (hfam:qg hpL hin σ:=by simp only [qg,and_self]):dZ P d ops l fr hp nx acc K:=by
 simp only [iH] at hh h3;obtain ⟨g1,g2,rfl⟩:=hh;obtain ⟨h3,h4,h5,h7⟩:=h3;have eh:=Bl (show (lZ hp hpL,lh hp hpL)=(hpL,true) by rw [g1,g2]);obtain ⟨l1,l2⟩:=sD h1;have hok:=Bh h5 hfam;have inj:∀ k1 k2 j,di σ k1=some j->di σ k2=some j->k1=k2:=by
  simp only [oW,cT] at h3;exact uZ h3.1.1 h3.1.2
 have fresh:∀ k:Nm,m<=k.base->di σ k=none/\bW hin k = .unborn:=λk hk=>⟨by
  cases hn:di σ k with
  | none=>rfl
  | some j=>have:=(hok k j hn).1;omega,rE h4 k hk⟩
 have eb:l9 (di σ) nx m H hp=hpB:=by
  rw [←e2];exact sa (λk hk=>(fresh k hk).1) (jq σ) (λk _=>by rw [eh]) H
 subst e1;subst eb;refine cE f args dst h ?_;cases d with
 | false =>
  refine ⟨args',hin,m,_,di σ,bor,m8,by rw [eh];exact ui h2 h3,jq σ,fresh,inj,λk j hk=>by rw [eh];exact (hok k j hk).2,l1,λi x y hx hy=>by rw [eh];exact mB (l2 i x y hx hy),⟨_,_,_,rfl,rfl,rfl⟩,(λh=>by cases h),?_⟩;rintro _ _ _ ⟨rfl,rfl,rfl⟩;exact ⟨h7,h6,_,sQ.refl _ _ _,k⟩
 | true =>
  refine ⟨args',hin,m,_,di σ,bor,m8,by rw [eh];exact ui h2 h3,jq σ,fresh,inj,λk j hk=>by rw [eh];exact (hok k j hk).2,l1,λi x y hx hy=>by rw [eh];exact mB (l2 i x y hx hy),⟨_,_,_,rfl,rfl,rfl⟩,?_,?_⟩
  ·rintro _ _ _ _ _ _ _ ⟨rfl,rfl,rfl⟩ ⟨rfl,rfl,rfl⟩;exact ⟨rfl,rfl,rfl⟩
  ·rintro _ _ _ ⟨rfl,rfl,rfl⟩;exact ⟨h7,h6,_,sQ.refl _ _ _,k⟩
def xW (ks:List Nm) (p:Nm×cp):Bool:=!ks.any λk=>k.eqk p.1
theorem Eo {hp:Hp} (ks rds:List Nm) (hr:ks.all (λk=>rds.contains k.key)=true):∀ b:Hp,(∀ kk∈ks,∀ k:Nm,kk.key=k.key->bW (b++hp) k=bW hp k)->sQ hp b (b.filter (xW ks)) rds:=by
 intro b hb;have yes:∀ (b:Hp) (k:Nm),(∃ kk∈ks,kk.key=k.key)->bW (b.filter (xW ks)++hp) k=bW hp k:=by
  intro b k hk;induction b with
  | nil=>rfl
  | cons p r ih =>
   by_cases hp1:xW ks p=true
   ·rw [kF hp1,iw,rA];have:p.1.eqk k=false:=by
     refine Nm.eqk_no λe=>?_
     obtain ⟨kk,h1,h2⟩:=hk;unfold xW at hp1;rw [kp] at hp1;have h3:(ks.any λk=>k.eqk p.1)=true:=ng.2 ⟨kk,h1,Nm.eqk_iff.2 (h2.trans e.symm)⟩;rw [h3] at hp1;cases hp1
    rw [this,ck];exact ih
   ·rw [m9 hp1];exact ih
 have no:∀ (b:Hp) (k:Nm),¬ (∃ kk∈ks,kk.key=k.key)->bW (b.filter (xW ks)++hp) k=bW (b++hp) k:=by
  intro b k hk;induction b with
  | nil=>rfl
  | cons p r ih =>
   by_cases hp1:xW ks p=true
   ·rw [kF hp1,iw,iw,rA,rA,ih]
   ·rw [m9 hp1,iw,rA,ih];have:p.1.eqk k=false:=by
     refine Nm.eqk_no λe=>hk ?_
     unfold xW at hp1;rw [kp,Bool.not_eq_false] at hp1;obtain ⟨kk,h1,h2⟩:=ng.1 hp1;exact ⟨kk,h1,(Nm.eqk_iff.1 h2).trans e⟩
    rw [this,ck]
 refine ⟨λp hp1=>⟨p,(List.mem_filter.1 hp1).1,rfl⟩,λp hp1=>?_,λk=>?_⟩
 ·by_cases h:xW ks p=true
  ·exact .inl ⟨p,List.mem_filter.2 ⟨hp1,h⟩,rfl⟩
  ·right;unfold xW at h;rw [kp,Bool.not_eq_false] at h;obtain ⟨kk,h1,h2⟩:=ng.1 h;have:=dQ.1 hr kk h1;rw [←Nm.eqk_iff.1 h2];simpa using this
 ·by_cases hk:∃ kk∈ks,kk.key=k.key
  ·rw [yes b k hk];obtain ⟨kk,h1,h2⟩:=hk;exact (hb kk h1 k h2).symm
  ·exact no b k hk
def yy (hp b:Hp):List Nm->Prop
 | []=>True
 | kk::r=>(∀ k:Nm,kk.key=k.key->bW (b++hp) k=bW hp k)/\yy hp b r
theorem cJ {hp b:Hp} {a:Nat} (h:bW (b++hp) (.t a)=bW hp (.t a)):∀ k:Nm,(Nm.t a).key=k.key->bW (b++hp) k=bW hp k:=λk hk=>by
 have:=Nm.key_eq_t.1 hk.symm
 subst this;exact h
theorem gU {hp b:Hp} {F:Nat} (h:∀ i,bW (b++hp) (.s F i)=bW hp (.s F i)):∀ k:Nm,(Nm.s F 0).key=k.key->bW (b++hp) k=bW hp k:=λk hk=>by
 cases k with
 | t a=>simp [Nm.key] at hk
 | s G i =>
  simp only [Nm.key_s,Nm.s.injEq,k8] at hk
  subst hk;exact h i
theorem Bm {hp b:Hp}:∀ {ks:List Nm},yy hp b ks->∀ kk∈ks,∀ k:Nm,kk.key=k.key->bW (b++hp) k=bW hp k
 | [],_,kk,h=>by cases h
 | q::r,hs,kk,h=>by
  rcases fc.1 h with rfl|h
  ·exact hs.1
  ·exact Bm hs.2 kk h
theorem md {d:Bool} {f:FuncId} {args args':List SV} {dst:Option Tmp} {ops:Array Oper} {l:List Oper} {acc:List fR} {K:Fr->Hp->Nat->Prop} {hin H:Hp} {m nn:Nat} {X:SV}
  (m8:cS P f args' hin m (λx h n=>x=X/\h=H/\n=nn)) (h:qP ops fr l=some (f,args,dst)) (hpL:Hp) (nxL:Nat) (hh:(lZ hp hpL,lh hp hpL,nx)=(hpL,true,nxL)) (σ:List (Nm×Nm)) (bor:List Nm) (resL:SV) (hpB:Hp) (ks:List Nm) (hpT:Hp)
  (h1:lQ hpL hin σ bor args args') (h2:pd hpL hin σ bor hin) (h3:(oW 0 σ bor,p5 0 m σ hin,EP m hin σ,oV H)=(true,true,true,true))
  (h6:bor=[]\/(X.nim=true/\tW H=true)) (e1:iy (f9 (di σ) nxL) X=resL) (e2:l9 (di σ) nxL m H hpL=hpB) (ht:(hpB.filter (xW ks),ks.all λk=>(bor.map Nm.key++mS (di σ) m).contains k.key)=(hpT,true)) (hs:yy hpL hpB ks)
  (k:dZ P d ops (l.drop 1) (gg dst resL fr) (hpT++hp) (bif d then nxL+nn+1 else nxL+nn) (acc++[⟨hpT.map (·.1.key),bor.map Nm.key++mS (di σ) m,nxL,nxL+nn⟩]) K) (hfam:qg hpL hin σ:=by simp only [qg,and_self]):dZ P d ops l fr hp nx acc K:=by
 simp only [iH] at hh h3 ht;obtain ⟨g1,g2,rfl⟩:=hh;obtain ⟨h3,h4,h5,h7⟩:=h3;obtain ⟨ht,htk⟩:=ht;have eh:=Bl (show (lZ hp hpL,lh hp hpL)=(hpL,true) by rw [g1,g2]);obtain ⟨l1,l2⟩:=sD h1;have hok:=Bh h5 hfam;have inj:∀ k1 k2 j,di σ k1=some j->di σ k2=some j->k1=k2:=by
  simp only [oW,cT] at h3;exact uZ h3.1.1 h3.1.2
 have fresh:∀ k:Nm,m<=k.base->di σ k=none/\bW hin k = .unborn:=λk hk=>⟨by
  cases hn:di σ k with
  | none=>rfl
  | some j=>have:=(hok k j hn).1;omega,rE h4 k hk⟩
 have eb:l9 (di σ) nx m H hp=hpB:=by
  rw [←e2];exact sa (λk hk=>(fresh k hk).1) (jq σ) (λk _=>by rw [eh]) H
 have trim:sQ hp hpB hpT (bor.map Nm.key++mS (di σ) m):=by
  rw [←ht];refine Eo ks _ htk hpB λkk hk k e=>?_
  have:=Bm hs kk hk k e;have e3:bW (hpB++hp) k=bW (hpB++hpL) k:=by rw [fD,fD,eh]
  rw [e3,this,eh]
 subst e1;subst eb;refine cE f args dst h ?_;cases d with
 | false =>
  refine ⟨args',hin,m,_,di σ,bor,m8,by rw [eh];exact ui h2 h3,jq σ,fresh,inj,λk j hk=>by rw [eh];exact (hok k j hk).2,l1,λi x y hx hy=>by rw [eh];exact mB (l2 i x y hx hy),⟨_,_,_,rfl,rfl,rfl⟩,(λh=>by cases h),?_⟩;rintro _ _ _ ⟨rfl,rfl,rfl⟩;exact ⟨h7,h6,_,trim,k⟩
 | true =>
  refine ⟨args',hin,m,_,di σ,bor,m8,by rw [eh];exact ui h2 h3,jq σ,fresh,inj,λk j hk=>by rw [eh];exact (hok k j hk).2,l1,λi x y hx hy=>by rw [eh];exact mB (l2 i x y hx hy),⟨_,_,_,rfl,rfl,rfl⟩,?_,?_⟩
  ·rintro _ _ _ _ _ _ _ ⟨rfl,rfl,rfl⟩ ⟨rfl,rfl,rfl⟩;exact ⟨rfl,rfl,rfl⟩
  ·rintro _ _ _ ⟨rfl,rfl,rfl⟩;exact ⟨h7,h6,_,trim,k⟩
theorem Hu (σ:Nm->Option Nm) (nx:Nat) (hp:Hp):iX σ nx [] hp=[]:=rfl
theorem Kx (σ:Nm->Option Nm) (nx k:Nat) (c:cp) (r hp:Hp):iX σ nx ((.t k,c)::r) hp=d9 (f9 σ nx (.t k)) (ik (f9 σ nx) c) (iX σ nx r hp++hp)::iX σ nx r hp:=rfl
theorem Ky (σ:Nm->Option Nm) (nx F:Nat) (z:Int) (c:cp) (r hp:Hp):iX σ nx ((.s F z,c)::r) hp=(.s (f9 σ nx (.s F 0)).base 0,ik (f9 σ nx) c)::iX σ nx r hp:=rfl
theorem Ma (k:Nat) (c:cp) (hp:Hp):d9 (.t k) c hp=(.t k,c):=rfl
theorem Oi (nx k:Nat):Nm.sh nx (.t k) = .t (nx+k):=rfl
theorem Oj (nx F:Nat) (i:Int):Nm.sh nx (.s F i) = .s (nx+F) i:=rfl
attribute [push_cast] Hu Kx Ky Ma Oi Oj pq List.flatMap_cons List.flatMap_nil Option.isSome_some Option.isSome_none Nm.base_t Nm.base_s
attribute [push_cast] f9 l9 List.filterMap_cons List.filterMap_nil Option.map_some Option.map_none Kd Ke Kf Kg Kh Ki Kj
end
section
open Go.RowKit
variable {P:Program} {m N:Nat} {Q:gY} {fr:Fr} {hp:Hp} {nx:Nat} {ops:Array Oper}
theorem nW.local {o:Oper} {fr2:Fr} {hp2:Hp} {K K':SV->Hp->Nat->List Nm->Prop} (h:nW P o fr hp nx K) (hf:∀ t∈lG o.op,cM fr2 t=cM fr t) (hh:bW hp2=bW hp) (hK:∀ v u n r,K v u n r->K' v u n r):nW P o fr2 hp2 nx K' :=
 λX ids w fr' hp' a hP h1 h2 h3 h4 h5 h6 KK Q h7=>h X ids w fr' hp' a hP h1 h2 h3 (λt ht=>by rw [h4 t ht,hf t ht]) h5 (λv u n r hk=>by
  have:=h6 v u n r (hK v u n r hk);rw [hh] at this;exact this) KK Q (λv u n r x w' ids' hk hu=>h7 v u n r x w' ids' (hK v u n r hk) ⟨hu.le,by rw [hh];exact hu.keys⟩)
theorem wI.local {dt:Bool} {o:Oper} {fr2:Fr} {hp2:Hp} {K K':SV->Hp->Nat->List Nm->Prop} (h:wI dt P o fr hp nx K) (hf:∀ t∈lG o.op,cM fr2 t=cM fr t) (hh:bW hp2=bW hp) (hK:∀ v u n r,K v u n r->K' v u n r):wI dt P o fr2 hp2 nx K':=by
 cases dt with
 | false=>exact nW.local (K:=K) h hf hh hK
 | true =>
  obtain ⟨e,h1,h2,h3⟩:=h;exact ⟨e,h1,hK _ _ _ _ h2,h3.local hf hh λ_ _ _ _ h=>h⟩
theorem zJ {fr':Fr} {hp':Hp} {dt:Bool} {o:Oper} (hn:∀ t∈jN ops o,cM fr' t=cM fr t) (hh:bW hp'=bW hp) {K K':SV->Hp->Nat->List Nm->Prop} (hK:∀ v u n r,K v u n r->K' v u n r) (hs:iu dt P ops o fr hp nx K):iu dt P ops o fr' hp' nx K':=by
 have hnm:∀ t∈lG o.op,cM fr' t=cM fr t:=λt ht=>hn t (by unfold jN;exact jG _ ht);have core:∀ {g:Bool},kB dt P g o fr hp nx K->kB dt P g o fr' hp' nx K':=by
  intro g hc;unfold kB at hc ⊢;rw [wJ hnm];cases hcl:i6 g fr o.op with
  | some c =>
   rw [hcl] at hc;obtain ⟨args',hin,m,Post,σ,bor,h1,h2,hsg,h3,h4,h5,h6,h7,h8,h9,h10⟩:=hc;refine ⟨args',hin,m,Post,σ,bor,h1,by rw [hh];exact h2,hsg,h3,h4,by rw [hh];exact h5,h6,by rw [hh];exact h7,h8,h9,λres hpx nx' hpp=>⟨(h10 res hpx nx' hpp).1,(h10 res hpx nx' hpp).2.1,?_⟩⟩;rw [sa (h1:=hp) (λk hk=>(h3 k hk).1) hsg (λk _=>by rw [hh]) hpx];obtain ⟨u,hu,hk⟩:=(h10 res hpx nx' hpp).2.2;exact ⟨u,⟨hu.keys,hu.drop,λk=>by rw [fD,fD,hh,←fD,←fD];exact hu.eq k⟩,hK _ _ _ _ hk⟩
  | none =>
   rw [hcl] at hc;simp only at hc ⊢;rcases hc with hc|hc
   ·exact .inl ⟨hc.1,hc.2.1,hc.2.2.local hnm hh hK⟩
   refine .inr ?_;cases hop:kK P g fr hp nx o.type o.op with
   | bad=>rw [hop] at hc;exact hc.elim
   | ok s e =>
    rw [hop] at hc;rw [pZ hop hnm (λk _=>by rw [hh])];exact ⟨hc.1,hK _ _ _ _ hc.2⟩
 unfold iu at hs ⊢;cases hg:o.guard with
 | none=>rw [hg] at hs;exact core hs
 | some jw =>
  rw [hg] at hs;simp only at hs ⊢;rw [wL hg hn];cases hgs:mA ops fr jw.1 jw.2 with
  | none=>rw [hgs] at hs;exact hs
  | some g =>
   rw [hgs] at hs;simp only at hs ⊢;cases hq:lM P o.op with
   | true =>
    rw [hq] at hs;simp only [cd] at hs ⊢;rcases hs with hs|hs
    ·exact .inl ⟨hs.1,hK _ _ _ _ hs.2⟩
    ·refine .inr ?_;cases hop:kK P g fr hp nx o.type o.op with
     | bad=>rw [hop] at hs;exact hs.elim
     | ok s e =>
      rw [hop] at hs;rw [pZ hop hnm (λk _=>by rw [hh])];simp only at hs ⊢;cases hu:e.upd with
      | nil=>rw [hu] at hs;exact ⟨hs.1,hK _ _ _ _ hs.2⟩
      | cons a b=>rw [hu] at hs;exact hs
   | false =>
    rw [hq] at hs;exact ⟨λhg=>core (hs.1 hg),λhg=>hK _ _ _ _ (hs.2 hg)⟩
def sZ (ops:Array Oper) (l:List Oper) (fr' fr:Fr):Prop:=∀ d,cM fr' d=cM fr d\/(cM fr' d = .any/\∀ o∈l,d∉jN ops o)
theorem sZ.names {l:List Oper} {o:Oper} {fr':Fr} (h:sZ ops (o::l) fr' fr):∀ t∈jN ops o,cM fr t=cM fr' t:=λt ht=>by
 rcases h t with h|h
 ·exact h.symm
 ·exact absurd ht (h.2 o (List.mem_cons_self ..))
theorem sZ.put {l:List Oper} {o:Oper} {fr':Fr} (h:sZ ops (o::l) fr' fr) (d:Option Tmp) (v:SV):sZ ops l (gg d v fr') (gg d v fr):=by
 intro t;cases d with
 | none=>exact (h t).imp id λh=>⟨h.1,λo' ho=>h.2 o' (uF _ ho)⟩
 | some d =>
  simp only [gg,cM];cases hd:(d==t) with
  | true=>exact .inl rfl
  | false=>exact (h t).imp id λh=>⟨h.1,λo' ho=>h.2 o' (uF _ ho)⟩
theorem CV {K:Fr->Hp->Nat->Prop} {fr':Fr} {hp':Hp} (h:sZ ops [] fr' fr) (hh:bW hp=bW hp') (hk:qz K fr' hp' nx):qz K fr hp nx:=by
 obtain ⟨f,q,⟨h1,h2⟩,hk⟩:=hk;refine ⟨f,q,⟨λd=>?_,λk=>by rw [h2 k,hh]⟩,hk⟩;rcases h1 d with h1|h1
 ·rcases h d with h|h
  ·exact .inl (h1.trans h)
  ·exact .inr (h1.trans h.1)
 ·exact .inr h1
theorem CW {hp hp':Hp} (h:bW hp=bW hp') (u:Hp):bW (u++hp)=bW (u++hp'):=funext λk=>qN λ_=>by rw [h]
theorem rc {K:Fr->Hp->Nat->Prop}:∀ (l:List Oper) (fr' fr:Fr) (hp' hp:Hp) (nx:Nat),sZ ops l fr' fr->bW hp=bW hp'->lN P ops l fr' hp' nx (qz K)->lN P ops l fr hp nx (qz K)
 | [],fr',fr,hp',hp,nx,h,hh,hr=>CV h hh hr
 | o::l,fr',fr,hp',hp,nx,h,hh,hr=>zJ h.names hh (λv u n r hk=>rc l _ _ _ _ _ (h.put o.dst v) (CW hh u) hk) hr
theorem tE {K:Fr->Hp->Nat->Prop}:∀ (l:List Oper) (fr' fr:Fr) (hp' hp:Hp) (nx:Nat) (acc:List fR),sZ ops l fr' fr->bW hp=bW hp'->yo P ops l fr' hp' nx acc (qz K)->yo P ops l fr hp nx acc (qz K)
 | [],fr',fr,hp',hp,nx,acc,h,hh,hr=>⟨hr.1,CV h hh hr.2⟩
 | o::l,fr',fr,hp',hp,nx,acc,h,hh,hr=>zJ h.names hh (λv u n r hk=>tE l _ _ _ _ _ _ (h.put o.dst v) (CW hh u) hk) hr
def Np:SV->Bool
 | .any=>true
 | _=>false
def Mb (ops:Array Oper) (l:List Oper) (fr fr':Fr):Bool:=l.all λo=>(jN ops o).all λt=>fr'.any (λp=>p.1==t)||Np (cM fr t)
theorem CX (fr:Fr) (d:Nat):∀ ks:Fr,(ks.any λp=>p.1==d)=true->cM (oN fr ks) d=cM fr d
 | [],h=>by simp at h
 | p::r,h=>by
  simp only [oN,gu,cM]
  by_cases hp:p.1=d
  ·subst hp;simp
  ·have hb:(p.1==d)=false:=by simpa using hp
   rw [hb,ck]
   refine CX fr d r ?_
   simp only [List.any_cons,hb,Bool.false_or] at h
   exact h
theorem rn {d:Bool} {l:List Oper} {acc:List fR} {K:Fr->Hp->Nat->Prop} (i:Nat) (fr':Fr) (hp':Hp) (nx':Nat) (h:(l,oN fr fr',Mb ops l fr fr',lZ hp hp',lh hp hp',nx)=(ops.toList.drop i,fr',true,hp',true,nx'))
  (k:dZ P d ops (ops.toList.drop i) fr' hp' nx' acc K):dZ P d ops l fr hp nx acc K:=by
 simp only [iH] at h;obtain ⟨h1,h2,h3,h4,h5,h6⟩:=h;rw [←h1] at k;subst h6;have hh:bW hp=bW hp':=funext λk=>((xn (fr:=[]) (fr':=[]) rfl h4 h5).2 k).symm
 have hl:sZ ops l fr' fr:=λt=>by
  by_cases hm:(fr'.any λp=>p.1==t)=true
  ·left;have:=CX fr t fr' hm;rw [h2] at this;exact this
  ·rcases wY fr t fr' with hk|hk
   ·left;rw [h2] at hk;exact hk
   ·rw [h2] at hk;by_cases hl:∃ o∈l,t∈jN ops o
    ·obtain ⟨o,ho,ht⟩:=hl;left;have:=dQ.1 (dQ.1 h3 o ho) t ht;have hm':(fr'.any λp=>p.1==t)=false:=Bool.eq_false_iff.2 hm;rw [hm',Bool.false_or] at this;rw [hk];cases hg:cM fr t<;>rw [hg] at this<;>first|rfl|cases this
    ·exact .inr ⟨hk,λo ho ht=>hl ⟨o,ho,ht⟩⟩
 cases d with
 | false=>exact rc l _ _ _ _ _ hl hh k
 | true=>exact tE l _ _ _ _ _ _ hl hh k
@[push_cast] theorem Oy (τ:Nm->Nm) (m:List (Int×Int)):(mi m).map (λp=>(p.1,iy τ p.2))=mi m:=by
 induction m with
 | nil=>rfl
 | cons p r ih=>simp only [mi,gu] at ih ⊢;rw [ih];rfl
end
section
open Go.RowKit
variable {P:Program} {m N:Nat} {Q:gY} {fr:Fr} {hp:Hp} {nx:Nat} {ops:Array Oper}
variable {α:Type}
theorem Au {d:Bool} {l:List Oper} {acc:List fR} {K:Fr->Hp->Nat->Prop} (t:Nat) (x x':SV) (e:x=x') (h:cM fr t=x) (k:dZ P d ops l ((t,x')::fr) hp nx acc K):dZ P d ops l fr hp nx acc K:=by
 subst e;have hl:sZ ops l ((t,x)::fr) fr:=λq=>.inl (by
  simp only [cM];by_cases hq:t=q
  ·subst hq;simp [h]
  ·rw [show (t==q)=false from by simpa using hq,ck])
 cases d with
 | false=>exact rc l _ _ _ _ _ hl rfl k
 | true=>exact tE l _ _ _ _ _ _ hl rfl k
theorem Kz {d:Bool} {l:List Oper} {acc:List fR} {K:Fr->Hp->Nat->Prop} (p:Nm×cp) (h:∀ q,p.1.key=q.key->bW hp q=p.2.mem q) (k:dZ P d ops l fr (p::hp) nx acc K):dZ P d ops l fr hp nx acc K:=by
 have hh:bW hp=bW (p::hp):=funext λq=>by
  simp only [bW];by_cases hq:p.1.key=q.key
  ·rw [Nm.eqk_iff.2 hq,cd];exact h q hq
  ·rw [Nm.eqk_no hq,ck]
 have hl:sZ ops l fr fr:=λq=>.inl rfl;cases d with
 | false=>exact rc l _ _ _ _ _ hl hh k
 | true=>exact tE l _ _ _ _ _ _ hl hh k
theorem KA {d:Bool} {l:List Oper} {acc:List fR} {K:Fr->Hp->Nat->Prop} (j:Nat) (c c':cp) (e:c=c') (h:bW hp (.t j)=c) (k:dZ P d ops l fr ((.t j,c')::hp) nx acc K):dZ P d ops l fr hp nx acc K:=by
 subst e;refine Kz (.t j,c) (λq hq=>?_) k;rw [Nm.key_t] at hq;have:=Nm.key_eq_t.1 hq.symm;subst this;exact h
end
section
open Go.RowKit
theorem Mc {α:Type} [b_ α] (tab:List α) (raw:List SV) (hraw:raw=fl tab) (len z nx:Nat) (hl:tab.length=len) (i:Int) (k:0<=i/\i<(tab.length:Int)) :
  gO (.ok (0<=i/\i<(len:Int)) ⟨.iptr raw (0+i.toNat*z),[],nx,[]⟩) ⟨.iptr (fl tab) (i.toNat*z),[],nx,[]⟩:=je (hl▸k) (by rw [hraw,dm]) rfl
end
section
open Go.RowKit
theorem cS.frz {P:Program} {f:FuncId} {args:List SV} {hin:Hp} {m n:Nat} {e:TypeId} {cs:List SV} (h:cS P f args hin m (λx h k=>x = .own 0 0 n/\h=[(Nm.t 0,.row e cs)]/\k=1)) :
  cS P f args hin m (λx h k=>x = .sl n cs/\h=[(Nm.t 0,.dead)]/\k=1):=by
 refine ⟨h.1,λX vals h1 h2 h3 h4 h5=>(h.2 X vals h1 h2 h3 h4 h5).mono ?_⟩;rintro ex w' ⟨r,res,hp',nx',ids',rfl,⟨rfl,rfl,rfl⟩,hF,hd⟩;have hrow:bW [(Nm.t 0,cp.row e cs)] (.t 0) = .row e cs:=rfl;have hl:(bW [(Nm.t 0,cp.row e cs)] (.t 0)).live=true:=rfl;have hG:bW ([(Nm.t 0,cp.dead)]++[(Nm.t 0,cp.row e cs)])=bW [(Nm.t 0,cp.dead)]:=by
  rw [fE,dv,dv,dv];funext k;simp only [upd];split<;>rfl
 obtain ⟨k1,k2⟩:=AM hF.toHeapC (k:=.t 0) (by rw [hrow];simp);have hnl:∀ k,(bW [(Nm.t 0,cp.dead)] k).live=true->False:=λk hk=>by
  rw [dv] at hk;simp only [upd] at hk;split at hk
  ·cases hk
  ·cases hk
 have hK:HeapC X [(Nm.t 0,.dead)] ids' w':=⟨by rw [←hG];exact k1.st,λk hk h0 hl=>(hnl k hl).elim,λk hk hv=>by rw [dv] at hv;simp only [upd] at hv;split at hv<;>cases hv⟩;have hE:fi X [(Nm.t 0,.row e cs)] ids' w' [(Nm.t 0,.dead)] ids' w':=by
  have:=k2;rw [show d9 (.t 0) cp.dead [(Nm.t 0,cp.row e cs)]=(.t 0,.dead) from rfl] at this;simp only [fi,hG] at this;exact this
 obtain ⟨a,cap,rfl,c1,c2,c4,c3⟩:=mc hd hl;refine ⟨_,.sl n cs,[(Nm.t 0,.dead)],1,ids',rfl,⟨rfl,rfl,rfl⟩,⟨hK,λk hk=>?_,hF.m_le⟩,?_⟩
 ·rw [dv,dP _ _ (λe=>by subst e;simp at hk)];rfl
 ·rcases c3 with ⟨rfl,rfl⟩|⟨b,o,e2,cs2,arr,hC,hid,rfl,hw,hcapsz⟩
  ·have hcs:cs=[]:=by
    have:=c4 _ _ hrow;exact iT (by omega)
   subst hcs;exact .sl0 (by unfold maxLen;omega)
  ·have hc:=hF.st.ch (.t 0);rw [hrow] at hc;have hid':ids' (.t 0)=some (b,o):=hid;simp only [fG,hid'] at hc;obtain ⟨arr',ha',hl',hx'⟩:=hc;obtain ⟨hlt,hor⟩:=hF.st.lt (.t 0) b o hl hid;refine .sl b (o+0) cap (λi=>arr'.getD (o+i) undef) ⟨?_,hlt,λk hk=>(hnl k hk).elim⟩ c1 c2 (λi x hi=>?_) (λi x hi=>(hx' i x hi).mono hE)
   ·rcases hor with h|h
    ·exact .inr (.inl h)
    ·exact .inr (.inr h)
   ·have hi':=(dy.1 hi).1;simp only [World.cell?,ha',eE];simp [cQ,d4 (show o+i<arr'.size by omega)]
end
section
open Go.RowKit
variable {P:Program}
theorem Nq {f : FuncId} {fn : Func} (h : P.funcs[f]? = some fn) (hb : fn.body.isSome = true) (hn : (fn.name == "runtime.NumGoroutine") = false) : ∃ fn body, P.funcs[f]? = some fn /\ fn.body = some body /\ fn.name ≠ "runtime.NumGoroutine" := by
 obtain ⟨b,hb⟩:=qG.1 hb
 exact ⟨fn,b,h,hb,by simpa using hn⟩
end
section
open Go.RowKit
variable {P:Program}
def nY:SV->SV
 | .v (.slice none 0 0)=>.sl 0 []
 | x=>x
theorem CY {C:Nm->cp} {ids:dD} {I:Nat->Prop} {w:World} {s:SV} {x:Value} (h:dT P C ids I w s x):dT P C ids I w (nY s) x:=by
 unfold nY;split
 ·obtain rfl:=d7 h;exact .sl0 (by unfold maxLen;omega)
 ·exact h
theorem Md {X:Cx} {hp:Hp} {ids:dD} {w:World} (h:HeapC X hp ids w) {k b o:Nat} {e:TypeId} {cs:List SV} (hk:bW hp (.t k) = .row e cs) (hi:ids (.t k)=some (b,o)) :
  HeapC X ((.t k,.row e (cs.map nY))::hp) ids w/\fi X hp ids w ((.t k,.row e (cs.map nY))::hp) ids w:=by
 have hlk:(bW hp (.t k)).live=true:=by rw [hk];rfl
 have hch:=h.st.ch (.t k);rw [hk] at hch;simp only [fG,hi] at hch;obtain ⟨arr,ha,hl,hx⟩:=hch;have hsk:dY (bW hp (.t k)) (.row e (cs.map nY)):=by rw [hk];exact ⟨rfl,by rw [eI];exact cF _⟩
 have hE:=h.st.turn_ext hlk hi (c:=.row e (cs.map nY)) rfl hsk (w':=w) rfl (λj _=>rfl) (dN.refl _);have hC:bW ((.t k,.row e (cs.map nY))::hp)=upd (bW hp) (.t k) (.row e (cs.map nY)):=dv k _ hp;refine ⟨⟨?_,λj hj h0 hjl=>?_,λj hj hv=>by rw [hC] at hv;exact mb h.nov (λe=>by cases e) j hj hv⟩,?_⟩
 ·rw [hC];refine h.st.turn hlk hi rfl hsk rfl (λj _=>rfl) (dN.refl _) rfl rfl rfl ?_;simp only [fG,hi];refine ⟨arr,ha,by rw [eI];exact hl,λi x hix=>?_⟩;rw [fW] at hix;cases hq:cs[i]? with
  | none=>rw [hq] at hix;cases hix
  | some y=>rw [hq] at hix;cases hix;exact (CY (hx i y hq)).mono hE
 ·rw [hC] at hjl ⊢;have hlo:(bW hp j).live=true:=by
   by_cases hjk:j=Nm.t k
   ·subst hjk;exact hlk
   ·rwa [dP _ _ hjk] at hjl
  exact (h.kept j hj h0 hlo).step hE hlo hjl
 ·simp only [fi,hC];exact hE
variable {fr:Fr} {hp:Hp} {nx:Nat} {ops:Array Oper}
theorem Hv {P:Program} {fr:Fr} {hp:Hp} {nx:Nat} {o:Oper} {s:Prop} {k:Nm} {off n:Nat} {p:Nm×cp} {nx':Nat} {r:List Nm} (h:kK P true fr hp nx o.type o.op = .ok s ⟨.own k off n,[p],nx',r⟩):uS o.op=true:=by
 cases hop:o.op<;>first|rfl|skip
 ·rw [hop] at h;have:=(wF h).1;cases this
 ·rw [hop] at h;simp only [kK] at h;unfold jr at h;split at h
  ·split at h
   ·obtain ⟨es,_,hf⟩:=ip h;cases hf
   ·cases h
  ·cases h
theorem IG {d:Bool} {l:List Oper} {acc:List fR} {K:Fr->Hp->Nat->Prop} (dst:Option Tmp) (n:Nat) (e:TypeId) (cs cs':List SV)
  (hc:(sY P ops fr l).map (λo=>(o.dst,kK P true fr hp nx o.type o.op))=some (dst,.ok True ⟨.own nx 0 n,[(Nm.t nx,.row e cs)],nx+1,[]⟩)) (hn:Nat.blt 0 n=true) (hw:cs.map nY=cs')
  (h:dZ P d ops (l.drop 1) (gg dst (.own nx 0 n) fr) ([(Nm.t nx,.row e cs')]++hp) (bif d then nx+2 else nx+1) (acc++[⟨[Nm.t nx],[],nx,nx+1⟩]) K):dZ P d ops l fr hp nx acc K:=by
 obtain ⟨o,ho,hh⟩:=mr.1 hc;simp only [iH] at hh;obtain ⟨rfl,hop⟩:=hh;subst hw;refine xp o ⟨.own nx 0 n,[(Nm.t nx,.row e (cs.map nY))],nx+1,[]⟩ ho (oe _) (Hv hop) ?_ h;intro X ids w fr' hp' a hP h1 h2 h3 h4 h5 h6 KK Q hK;subst hP;have hop':=pZ (hp':=hp') hop h4 (λk hk=>by cases hk);obtain ⟨x,w',ids',g1,g2,g3,g4⟩:=uP (nx:=nx) ⟨h1,h5,h2⟩ h3 (g:=true) rfl hop' trivial;have g2':HeapC X ((Nm.t nx,cp.row e cs)::hp') ids' w':=g2;have hrow:bW ((Nm.t nx,cp.row e cs)::hp') (.t nx) = .row e cs:=by rw [dv,cG]
 have g4':cW X ((Nm.t nx,cp.row e cs)::hp') ids' w' (.own nx 0 n) x:=g4;obtain ⟨ad,cap,hxv,c1,c2,c3,c4⟩:=mc g4' (by rw [hrow];rfl);have hn':0<n:=by simpa [kG] using hn
 obtain ⟨b,q,e2,cs2,arr,hC2,hid,_⟩:∃ b o e' cs' arr,bW ((Nm.t nx,cp.row e cs)::hp') (.t nx) = .row e' cs'/\ids' (.t nx)=some (b,o)/\ad=some ⟨b,o+0,none⟩/\w'.heap[b]? = some (.cells arr e' (0,0))/\o+0+cap*X.P.cellsOf e'<=arr.size:=by
  rcases c4 with ⟨h,_⟩|h
  ·omega
  ·exact h
 obtain ⟨r1,r2⟩:=Md g2' hrow hid;have hg:bW ((Nm.t nx,cp.row e (cs.map nY))::(Nm.t nx,cp.row e cs)::hp')=bW ([(Nm.t nx,cp.row e (cs.map nY))]++hp'):=by
  show _=bW ((Nm.t nx,_)::hp');rw [dv,dv,dv];funext j;unfold upd;split<;>rfl
 refine mY g1 (hK (.own nx 0 n) [(Nm.t nx,.row e (cs.map nY))] (nx+1) [] x w' ids' ⟨rfl,rfl,rfl,rfl⟩ ⟨oe _,λp hp=>?_⟩ (r1.congr hg) ?_ ?_)
 ·simp only [fL] at hp;subst hp;exact .inl ⟨cF _,tm _⟩
 ·have:=lk g3 r2;simp only [fi,hg] at this;exact this
 ·exact cW.congr (g4'.mono r2) hg
end
section
open Go.RowKit
variable {X:Cx} {hp:Hp} {nx:Nat} {ids:dD} {w:World}
structure xq (C C':Nm->cp) (G:Nat) (ρ:Int->Option Nm) (e:TypeId):Prop where
 fresh:∀ k:Nm,k.base=G->C k = .unborn
 some_:∀ i k,ρ i=some k->C' (.s G i)=C k
 none_:∀ i,ρ i=none->C' (.s G i) = .row e []\/(C' (.s G i)).live=false
 top:(C' (.t G)).live=false
 dies:∀ i k,ρ i=some k->C' k = .dead
 oth:∀ k:Nm,k.base≠G->C' k=C k\/C' k = .dead
 inj:∀ i j k,ρ i=some k->ρ j=some k->i=j
def kL (G:Nat) (ρ:Int->Option Nm) (ids:dD):dD:=λk=>match k with
 | .t a=>ids (.t a)
 | .s F i=>if F=G then (ρ i).bind ids else ids (.s F i)
theorem rG (G:Nat) (ρ:Int->Option Nm) (ids:dD) (i:Int):kL G ρ ids (.s G i)=(ρ i).bind ids:=if_pos rfl
theorem rH (G:Nat) (ρ:Int->Option Nm) (ids:dD) {k:Nm} (h:k.base≠G):kL G ρ ids k=ids k:=by
 cases k with
 | t a=>rfl
 | s F i=>exact if_neg h
section sem
variable {P:Program} {w0:World} {I0 W0:Nat->Prop} {C C':Nm->cp} {G:Nat} {ρ:Int->Option Nm} {e:TypeId}
theorem xq.old (hh:xq C C' G ρ e) {k:Nm} {b o:Nat} (hl:(C' k).live=true) (hi:kL G ρ ids k=some (b,o)) :
 ∃k0,(C k0).live=true/\ids k0=some (b,o)/\C' k=C k0/\((k.base≠G/\k0=k)\/∃ i,k = .s G i/\ρ i=some k0):=by
 by_cases hb:k.base=G
 ·cases k with
  | t a=>simp only [Nm.base_t] at hb;subst hb;rw [hh.top] at hl;cases hl
  | s F i =>
   simp only [Nm.base_s] at hb;subst hb;rw [rG] at hi;cases hr:ρ i with
   | none=>rw [hr] at hi;cases hi
   | some k0 =>
    rw [hr] at hi;have h1:=hh.some_ i k0 hr;exact ⟨k0,by rw [←h1];exact hl,hi,h1,.inr ⟨i,rfl,hr⟩⟩
 ·rw [rH _ _ _ hb] at hi;rcases hh.oth k hb with h1|h1
  ·exact ⟨k,by rw [←h1];exact hl,hi,h1,.inl ⟨hb,rfl⟩⟩
  ·rw [h1] at hl;cases hl
theorem xq.ext (h:lB P w0 I0 W0 C ids w) (hh:xq C C' G ρ e):kx C ids (Im w0 I0 W0 C ids w) w C' (kL G ρ ids) (Im w0 I0 W0 C' (kL G ρ ids) w) w:=by
 refine ⟨λb hb=>⟨⟨hb.1,hb.2.1,λk hk o hi=>?_⟩,rfl⟩,λk hk=>?_,λk hk=>?_⟩
 ·obtain ⟨k0,h1,h2,_⟩:=hh.old hk hi;exact hb.2.2 k0 h1 o h2
 ·have hb:k.base≠G:=λe=>by rw [hh.fresh k e] at hk;cases hk
  rcases hh.oth k hb with h1|h1
  ·rw [h1];exact hk
  ·exact h1
 ·have hb:k.base≠G:=λe=>by rw [hh.fresh k e] at hk;cases hk
  rcases hh.oth k hb with h1|h1
  ·exact .inr ⟨by rw [h1];exact hk,rH _ _ _ hb,by rw [h1];exact dY.refl hk,λ_ _ _=>dN.refl _⟩
  ·exact .inl h1
theorem fG.rename {C':Nm->cp} {ids':dD} {I I':Nat->Prop} {k k':Nm} {c:cp} (hE:kx C ids I w C' ids' I' w) (h:fG P C ids I w k c) (hi:ids' k'=ids k):fG P C' ids' I' w k' c:=by
 cases c with
 | unborn=>trivial
 | dead=>trivial
 | void=>trivial
 | fam g=>trivial
 | row e cs =>
  simp only [fG,hi] at h ⊢;cases hid:ids k with
  | none=>rw [hid] at h;exact h
  | some p =>
   obtain ⟨b,o⟩:=p;rw [hid] at h;obtain ⟨arr,ha,hs,hx⟩:=h;exact ⟨arr,ha,hs,λi x hix=>(hx i x hix).mono hE⟩
 | map es =>
  obtain ⟨b,arr,clock,hid,ha,hs,hx,hbo⟩:=h;exact ⟨b,arr,clock,hi.trans hid,ha,hs,λi x hix=>⟨(hx i x hix).1,(hx i x hix).2.mono hE⟩,hbo⟩
 | obj s pos =>
  obtain ⟨b,hid,ha⟩:=h;exact ⟨b,hi.trans hid,ha⟩
theorem xq.st (h:lB P w0 I0 W0 C ids w) (hh:xq C C' G ρ e):lB P w0 I0 W0 C' (kL G ρ ids) w:=by
 have hE:=hh.ext h;refine ⟨λk=>?_,λk k' b o o' hk hk' hi hi'=>?_,λk b o hk hi=>?_,h.im0,h.evol,h.os,h.tape,h.output,h.size⟩
 ·by_cases hb:k.base=G
  ·cases k with
   | t a =>
    simp only [Nm.base_t] at hb;subst hb;have:=hh.top;cases hc:C' (.t a)<;>rw [hc] at this<;>first|trivial|cases this
   | s F i =>
    simp only [Nm.base_s] at hb;subst hb;cases hr:ρ i with
    | none =>
     rcases hh.none_ i hr with h1|h1
     ·have hn:kL F ρ ids (.s F i)=none:=by rw [rG,hr];rfl
      rw [h1];simp only [fG,hn]
     ·cases hc:C' (.s F i)<;>rw [hc] at h1<;>first|trivial|cases h1
    | some k0 =>
     rw [hh.some_ i k0 hr];exact fG.rename hE (h.ch k0) (by rw [rG,hr];rfl)
  ·rcases hh.oth k hb with h1|h1
   ·rw [h1];exact fG.rename hE (h.ch k) (rH _ _ _ hb)
   ·rw [h1];trivial
 ·obtain ⟨k0,a1,a2,_,a3⟩:=hh.old hk hi;obtain ⟨k0',b1,b2,_,b3⟩:=hh.old hk' hi';have:=h.inj k0 k0' b o o' a1 b1 a2 b2;subst this;rcases a3 with ⟨a3,rfl⟩|⟨i,rfl,a3⟩<;>rcases b3 with ⟨b3,b4⟩|⟨j,b4,b3⟩
  ·exact b4
  ·have:=hh.dies j _ b3;rw [this] at hk;cases hk
  ·have:=hh.dies i _ a3;subst b4;rw [this] at hk';cases hk'
  ·rw [b4,hh.inj i j _ a3 b3]
 ·obtain ⟨k0,a1,a2,_,_⟩:=hh.old hk hi;exact h.lt k0 b o a1 a2
end sem
variable {G:Nat} {ρ:Int->Option Nm} {e:TypeId} {hp':Hp}
theorem Ep (h:HeapC X hp ids w) {k:Nm} {e:TypeId} {cs cs':List SV} (hk:bW hp k = .row e cs) (hlen:cs'.length=cs.length)
  (hx:∀ (i:Nat) (x y:SV) (v:Value),cs[i]? = some x->cs'[i]? = some y->cW X hp ids w x v->cW X hp ids w y v) :
  HeapC X (d9 k (.row e cs') hp::hp) ids w/\fi X hp ids w (d9 k (.row e cs') hp::hp) ids w:=by
 have hlk:(bW hp k).live=true:=by rw [hk];rfl
 have hC:bW (d9 k (.row e cs') hp::hp)=upd (bW hp) k (.row e cs'):=jI (iW hlk) (by simp);have hsk:dY (bW hp k) (.row e cs'):=by rw [hk];exact ⟨rfl,Nat.le_of_eq hlen⟩
 have hE:kx (bW hp) ids (Im X.w0 X.I0 X.W0 (bW hp) ids w) w (upd (bW hp) k (.row e cs')) ids (Im X.w0 X.I0 X.W0 (upd (bW hp) k (.row e cs')) ids w) w:=by
  have lv:∀ j,(upd (bW hp) k (.row e cs') j).live=true↔(bW hp j).live=true:=λj=>by
   by_cases hj:j=k
   ·subst hj;rw [cG,hk];exact Iff.rfl
   ·rw [dP _ _ hj]
  refine ⟨λb hb=>⟨⟨hb.1,hb.2.1,λj hj o hi=>hb.2.2 j ((lv j).1 hj) o hi⟩,rfl⟩,λj hj=>?_,λj hj=>?_⟩
  ·have hjk:j≠k:=λe=>by subst e;rw [hj] at hlk;cases hlk
   rw [dP _ _ hjk];exact hj
  ·refine .inr ⟨(lv j).2 hj,rfl,?_,λ_ _ _=>dN.refl _⟩;by_cases hjk:j=k
   ·subst hjk;rw [cG];exact hsk
   ·rw [dP _ _ hjk];exact dY.refl hj
 have lv:∀ j,(upd (bW hp) k (.row e cs') j).live=true->(bW hp j).live=true:=λj hj=>by
  by_cases hjk:j=k
  ·subst hjk;exact hlk
  ·rwa [dP _ _ hjk] at hj
 refine ⟨⟨?_,λj hj h0 hjl=>?_,λj hj hv=>by rw [hC] at hv;exact mb h.nov (λe=>by cases e) j hj hv⟩,by simp only [fi,hC];exact hE⟩
 ·rw [hC];refine ⟨λj=>?_,λj j' b o o' hj hj'=>h.st.inj j j' b o o' (lv j hj) (lv j' hj'),λj b o hj=>h.st.lt j b o (lv j hj),h.st.im0,h.st.evol,h.st.os,h.st.tape,h.st.output,h.st.size⟩;by_cases hjk:j=k
  ·subst hjk;rw [cG];have hc:=h.st.ch j;rw [hk] at hc;simp only [fG] at hc ⊢;cases hid:ids j with
   | none =>
    rw [hid] at hc;simp only at hc;subst hc;exact iT hlen
   | some p =>
    obtain ⟨b,o⟩:=p;rw [hid] at hc;obtain ⟨arr,ha,hl,hxx⟩:=hc;refine ⟨arr,ha,by omega,λi y hi=>?_⟩;have hlt:=(dy.1 hi).1;have hi2:=dz (show i<cs.length by omega);exact (hx i _ y _ hi2 hi (hxx i _ hi2)).mono hE
  ·rw [dP _ _ hjk];exact fG.rename hE (h.st.ch j) rfl
 ·rw [hC] at hjl ⊢;exact (h.kept j hj h0 (lv j hjl)).step hE (lv j hjl) hjl
end
section
open Go.RowKit
inductive Hr (C C':Nm->cp) (G:Nat) (ρ:Int->Option Nm):SV->SV->Prop
 | same {x}:Hr C C' G ρ x x
 | own {i k off n} (hr:ρ i=some k) (hl:(C k).live=true):Hr C C' G ρ (.own k off n) (.own (.s G i) off n)
 | ptr {i k off} (hr:ρ i=some k) (hl:(C k).live=true):Hr C C' G ρ (.ptr k off) (.ptr (.s G i) off)
 | nil {i e} (hr:C' (.s G i) = .row e []):Hr C C' G ρ (.v (.slice none 0 0)) (.own (.s G i) 0 0)
structure s5 (C C':Nm->cp) (G:Nat) (ρ:Int->Option Nm) (R:Nm):Prop where
 fresh:∀ k:Nm,k.base=G->C k = .unborn
 some_:∀ i k,ρ i=some k->C' (.s G i)=C k
 none_:∀ i,ρ i=none->(∃ e,C' (.s G i) = .row e [])\/(C' (.s G i)).live=false
 top:(C' (.t G)).live=false
 dies:∀ i k,ρ i=some k->C' k = .dead
 oth:∀ k:Nm,k.base≠G->k≠R->C' k=C k\/C' k = .dead
 rb:R.base≠G
 row:∃ e cs cs',C R = .row e cs/\C' R = .row e cs'/\cs'.length=cs.length/\∀ (i:Nat) (x y:SV),cs[i]? = some x->cs'[i]? = some y->Hr C C' G ρ x y
 inj:∀ i j k,ρ i=some k->ρ j=some k->i=j
section sem
variable {P:Program} {w0:World} {I0 W0:Nat->Prop} {C C':Nm->cp} {G:Nat} {ρ:Int->Option Nm} {R:Nm} {ids:dD} {w:World}
theorem s5.liveR (hh:s5 C C' G ρ R):(C R).live=true/\(C' R).live=true:=by
 obtain ⟨e,cs,cs',h1,h2,_⟩:=hh.row;rw [h1,h2];exact ⟨rfl,rfl⟩
theorem s5.old (hh:s5 C C' G ρ R) {k:Nm} {b o:Nat} (hl:(C' k).live=true) (hi:kL G ρ ids k=some (b,o)) :
 ∃k0,(C k0).live=true/\ids k0=some (b,o)/\((k.base≠G/\k0=k)\/∃ i,k = .s G i/\ρ i=some k0):=by
 by_cases hb:k.base=G
 ·cases k with
  | t a=>simp only [Nm.base_t] at hb;subst hb;rw [hh.top] at hl;cases hl
  | s F i =>
   simp only [Nm.base_s] at hb;subst hb;rw [rG] at hi;cases hr:ρ i with
   | none=>rw [hr] at hi;cases hi
   | some k0 =>
    rw [hr] at hi;have h1:=hh.some_ i k0 hr;exact ⟨k0,by rw [←h1];exact hl,hi,.inr ⟨i,rfl,hr⟩⟩
 ·rw [rH _ _ _ hb] at hi;by_cases hR:k=R
  ·subst hR;exact ⟨k,hh.liveR.1,hi,.inl ⟨hb,rfl⟩⟩
  rcases hh.oth k hb hR with h1|h1
  ·exact ⟨k,by rw [←h1];exact hl,hi,.inl ⟨hb,rfl⟩⟩
  ·rw [h1] at hl;cases hl
theorem s5.ext (h:lB P w0 I0 W0 C ids w) (hh:s5 C C' G ρ R):kx C ids (Im w0 I0 W0 C ids w) w C' (kL G ρ ids) (Im w0 I0 W0 C' (kL G ρ ids) w) w:=by
 refine ⟨λb hb=>⟨⟨hb.1,hb.2.1,λk hk o hi=>?_⟩,rfl⟩,λk hk=>?_,λk hk=>?_⟩
 ·obtain ⟨k0,h1,h2,_⟩:=hh.old hk hi;exact hb.2.2 k0 h1 o h2
 ·have hb:k.base≠G:=λe=>by rw [hh.fresh k e] at hk;cases hk
  have hR:k≠R:=λe=>by subst e;have:=hh.liveR.1;rw [hk] at this;cases this
  rcases hh.oth k hb hR with h1|h1
  ·rw [h1];exact hk
  ·exact h1
 ·have hb:k.base≠G:=λe=>by rw [hh.fresh k e] at hk;cases hk
  by_cases hR:k=R
  ·subst hR;obtain ⟨e,cs,cs',h1,h2,h3,_⟩:=hh.row;exact .inr ⟨hh.liveR.2,rH _ _ _ hb,by rw [h1,h2];exact ⟨rfl,Nat.le_of_eq h3⟩,λ_ _ _=>dN.refl _⟩
  rcases hh.oth k hb hR with h1|h1
  ·exact .inr ⟨by rw [h1];exact hk,rH _ _ _ hb,by rw [h1];exact dY.refl hk,λ_ _ _=>dN.refl _⟩
  ·exact .inl h1
theorem Me (h:lB P w0 I0 W0 C ids w) (hh:s5 C C' G ρ R) {x y:SV} {v:Value} (hr:Hr C C' G ρ x y) (hd:dT P C ids (Im w0 I0 W0 C ids w) w x v):dT P C' (kL G ρ ids) (Im w0 I0 W0 C' (kL G ρ ids) w) w y v:=by
 cases hr with
 | same=>exact hd.mono (hh.ext h)
 | own hr hl =>
  rename_i i k off n;obtain ⟨a,cap,rfl,c1,c2,c4,c3⟩:=mc hd hl;have hs:=hh.some_ i k hr;refine .own a cap (by rw [hs];exact hl) ⟨c1,c2,λe' cs hc=>c4 e' cs (by rw [←hs];exact hc),?_⟩;rcases c3 with c3|⟨b,o,e',cs,arr,g1,g2,g3,g4,g5⟩
  ·exact .inl c3
  ·exact .inr ⟨b,o,e',cs,arr,by rw [hs];exact g1,by rw [rG,hr];exact g2,g3,g4,g5⟩
 | ptr hr hl =>
  rename_i i k off;obtain ⟨b,o,g1,rfl⟩:=pV hd hl;exact .ptr b o (by rw [hh.some_ i k hr];exact hl) (by rw [rG,hr];exact g1)
 | nil hr =>
  obtain rfl:=d7 hd;exact .own none 0 (by rw [hr];rfl) ⟨cF _,by unfold maxLen;omega,λe' cs hc=>by rw [hr] at hc;cases hc;exact io _,.inl ⟨rfl,rfl⟩⟩
theorem s5.st (h:lB P w0 I0 W0 C ids w) (hh:s5 C C' G ρ R):lB P w0 I0 W0 C' (kL G ρ ids) w:=by
 have hE:=hh.ext h;refine ⟨λk=>?_,λk k' b o o' hk hk' hi hi'=>?_,λk b o hk hi=>?_,h.im0,h.evol,h.os,h.tape,h.output,h.size⟩
 ·by_cases hb:k.base=G
  ·cases k with
   | t a =>
    simp only [Nm.base_t] at hb;subst hb;have:=hh.top;cases hc:C' (.t a)<;>rw [hc] at this<;>first|trivial|cases this
   | s F i =>
    simp only [Nm.base_s] at hb;subst hb;cases hr:ρ i with
    | none =>
     rcases hh.none_ i hr with ⟨e,h1⟩|h1
     ·have hn:kL F ρ ids (.s F i)=none:=by rw [rG,hr];rfl
      rw [h1];simp only [fG,hn]
     ·cases hc:C' (.s F i)<;>rw [hc] at h1<;>first|trivial|cases h1
    | some k0 =>
     rw [hh.some_ i k0 hr];exact fG.rename hE (h.ch k0) (by rw [rG,hr];rfl)
  ·by_cases hR:k=R
   ·subst hR;obtain ⟨e,cs,cs',h1,h2,h3,h4⟩:=hh.row;have hc:=h.ch k;rw [h1] at hc;rw [h2];simp only [fG,rH _ _ _ hb] at hc ⊢;cases hid:ids k with
    | none =>
     rw [hid] at hc;simp only at hc;subst hc;exact iT h3
    | some p =>
     obtain ⟨b,o⟩:=p;rw [hid] at hc;obtain ⟨arr,ha,hl,hxx⟩:=hc;refine ⟨arr,ha,by omega,λi y hi=>?_⟩;have hlt:=(dy.1 hi).1;have hi2:=dz (show i<cs.length by omega);exact Me h hh (h4 i _ y hi2 hi) (hxx i _ hi2)
   rcases hh.oth k hb hR with h1|h1
   ·rw [h1];exact fG.rename hE (h.ch k) (rH _ _ _ hb)
   ·rw [h1];trivial
 ·obtain ⟨k0,a1,a2,a3⟩:=hh.old hk hi;obtain ⟨k0',b1,b2,b3⟩:=hh.old hk' hi';have:=h.inj k0 k0' b o o' a1 b1 a2 b2;subst this;rcases a3 with ⟨a3,rfl⟩|⟨i,rfl,a3⟩<;>rcases b3 with ⟨b3,b4⟩|⟨j,b4,b3⟩
  ·exact b4
  ·have:=hh.dies j _ b3;rw [this] at hk;cases hk
  ·have:=hh.dies i _ a3;subst b4;rw [this] at hk';cases hk'
  ·rw [b4,hh.inj i j _ a3 b3]
 ·obtain ⟨k0,a1,a2,_⟩:=hh.old hk hi;exact h.lt k0 b o a1 a2
end sem
theorem Hw {X:Cx} {hp hp':Hp} {ids:dD} {w:World} {G:Nat} {ρ:Int->Option Nm} {R:Nm} (h:HeapC X hp ids w) (hm:X.m<=G) (hh:s5 (bW hp) (bW hp') G ρ R):HeapC X hp' (kL G ρ ids) w/\fi X hp ids w hp' (kL G ρ ids) w:=by
 have hE:=hh.ext h.st;refine ⟨⟨hh.st h.st,λk hk h0 hl=>?_,λk hk hv=>?_⟩,hE⟩
 ·have hb:k.base≠G:=by omega
  by_cases hR:k=R
  ·subst hR;exact (h.kept k hk h0 hh.liveR.1).step hE hh.liveR.1 hl
  rcases hh.oth k hb hR with h1|h1
  ·exact (h.kept k hk h0 (by rw [←h1];exact hl)).step hE (by rw [←h1];exact hl) hl
  ·rw [h1] at hl;cases hl
 ·have hb:k.base≠G:=by omega
  by_cases hR:k=R
  ·subst hR;have:=hh.liveR.2;rw [hv] at this;cases this
  rcases hh.oth k hb hR with h1|h1
  ·exact h.nov k hk (by rw [←h1];exact hv)
  ·rw [h1] at hv;cases hv
def l0 (P:Program) (nx q:Nat) (rds:List Nm) (hp u:Hp):Prop :=
∀(X:Cx) (ids:dD) (w:World) (hp':Hp),X.P=P->X.m<=nx->HeapC X hp' ids w->(∀ k:Nm,k.key∈rds->bW hp' k=bW hp k)->(∀ k:Nm,nx<=k.base->k.base<nx+q->bW hp' k = .unborn) ->
 ∃ids',HeapC X (u++hp') ids' w/\fi X hp' ids w (u++hp') ids' w
def F9 (nx q:Nat) (rds:List Nm) (u:Hp):Bool:=u.all λp=>(Nat.ble nx p.1.base&&Nat.blt p.1.base (nx+q))||rds.any λk=>k==p.1.key
theorem l0.nil (P:Program) (nx:Nat) (hp:Hp):l0 P nx 0 [] hp []:=λX ids w hp' _ _ h _ _=>⟨ids,h,kx.refl _ _ _ _⟩
theorem l0.trans {P:Program} {nx q1 q2:Nat} {r1 r2:List Nm} {hp u1 u2:Hp} (g1:l0 P nx q1 r1 hp u1) (hk:(u1.all λp=>Nat.blt p.1.base (nx+q1))=true) (g2:l0 P (nx+q1) q2 r2 (u1++hp) u2):l0 P nx (q1+q2) (r1++r2) hp (u2++u1):=by
 intro X ids w hp' hP hm h hr hf;obtain ⟨GC,a1,a2⟩:=g1 X ids w hp' hP hm h (λk hk=>hr k (lK _ hk)) (λk hk1 hk2=>hf k hk1 (by omega));obtain ⟨ids2,b1,b2⟩:=g2 X GC w (u1++hp') hP (by omega) a1 (λk hk=>qN λ_=>hr k (jG _ hk)) (λk hk1 hk2=>by
  have:k.key∉u1.map (·.1.key):=λhmem=>by
   obtain ⟨p,hp1,he⟩:=fH.1 hmem;have h3:=dQ.1 hk p hp1;rw [kG] at h3;have:=dH Nm.base he;simp only [Nm.key_base] at this;omega
  rw [i8 this];exact hf k (by omega) (by omega))
 rw [←f_] at b1 b2;exact ⟨ids2,b1,lk a2 b2⟩
theorem l0.cat {P:Program} {nx q1 q2 q:Nat} {r1 r2 r:List Nm} {hp u1 u2 u:Hp} (g1:l0 P nx q1 r1 hp u1) (g2:l0 P (nx+q1) q2 r2 (u1++hp) u2) (hk:(u1.all λp=>Nat.blt p.1.base (nx+q1))=true) (hq:q=q1+q2) (hr:r=r1++r2) (hu:u=u2++u1):l0 P nx q r hp u:=by
 subst hq;subst hr;subst hu;exact g1.trans hk g2
theorem zt.of {P:Program} {m nx q:Nat} {rds:List Nm} {hp u:Hp} {fr:Fr} (g:l0 P nx q rds hp u) (hk:(u.all λp=>Nat.blt p.1.base (nx+q))=true):zt P m fr hp nx fr (u++hp) (nx+q):=by
 intro X N a w hP hm ⟨ids,hH,hF,hN,hD⟩;obtain ⟨ids',h1,h2⟩:=g X ids w hp hP hH.m_le hH.toHeapC (λ_ _=>rfl) (λk hk _=>hH.fresh k hk);refine ⟨ids',⟨h1,λk hk'=>?_,ma hH.m_le (uG _ _)⟩,λd=>(hF d).mono h2,hN,hD⟩;rw [i8]
 ·exact hH.fresh k (by omega)
 ·intro hm;obtain ⟨p,hp1,hpk⟩:=fH.1 hm;have:=dQ.1 hk p hp1;rw [kG] at this;have hb:p.1.base=k.base:=by rw [←Nm.key_base,hpk,Nm.key_base]
  omega
section run
variable {P:Program} {m N:Nat} {Q:gY} {fr:Fr} {hp:Hp} {nx:Nat} {ops:Array Oper}
theorem F_ {o:Oper} {e:dw} {u:Hp} {q:Nat} {r2:List Nm} (h:nW P o fr hp nx (tB e)) (hle:nx<=e.nx) (g:l0 P e.nx q r2 (e.upd++hp) u) (hk:F9 e.nx q r2 u=true) (hb:∀ k∈r2,(k∈e.upd.map (·.1.key))\/bW hp k≠.unborn) (hkk:∀ k∈r2,k.key=k)
  (hlt:∀ p∈e.upd,p.1.base<e.nx) (r2e:List Nm) (hsub:∀ k∈r2,k∈e.upd.map (·.1.key)\/k∈r2e) :
  nW P o fr hp nx (tB ⟨e.val,u++e.upd,e.nx+q,e.rds++r2e⟩):=by
 intro X ids w fr' hp' a hP h1 h2 h3 h4 h5 h6 KK Q hK;obtain ⟨h7,h8⟩:=h6 _ _ _ _ ⟨rfl,rfl,rfl,rfl⟩;simp only at h7 h8;refine h X ids w fr' hp' a hP h1 h2 h3 h4 h5 (λv u' n r he=>?_) KK Q (λv u' n r x w' ids' he hu k1 k2 k3=>?_)
 ·obtain ⟨rfl,rfl,rfl,rfl⟩:=he;exact ⟨λk a b=>h7 k a (by omega),λk hk=>h8 k (lK _ hk)⟩
 ·obtain ⟨rfl,rfl,rfl,rfl⟩:=he;have hag:∀ k:Nm,k.key∈r2->bW (e.upd++hp') k=bW (e.upd++hp) k:=λk hk=>qN λhn=>by
   rcases hsub _ hk with h9|h9
   ·exact absurd h9 hn
   ·exact h8 k (jG _ h9)
  obtain ⟨ids2,d1,d2⟩:=g X ids' w' (e.upd++hp') hP (by omega) k1 hag (λk a b=>by
   have:k.key∉e.upd.map (·.1.key):=λhmem=>by
    obtain ⟨p,hp1,he⟩:=fH.1 hmem;have h3:=hlt p hp1;have:=dH Nm.base he;simp only [Nm.key_base] at this;omega
   rw [i8 this];exact h7 k (by omega) (by omega))
  rw [←f_] at d1 d2;refine hK e.val (u++e.upd) (e.nx+q) (e.rds++r2e) x w' ids2 ⟨rfl,rfl,rfl,rfl⟩ ⟨by omega,λp hp1=>?_⟩ d1 (lk k2 d2) (k3.mono d2);rcases gv.1 hp1 with hp1|hp1
  ·have:=dQ.1 hk p hp1;simp only [kX,cT,ng,jE] at this;rcases this with ⟨c1,c2⟩|⟨k,c1,c2⟩
   ·have:=cV c1;rw [kG] at c2;exact .inl ⟨by omega,c2⟩
   ·subst c2;rcases hsub _ c1 with h9|h9
    ·obtain ⟨p2,hp2,he2⟩:=fH.1 h9;rcases hu.keys p2 hp2 with ⟨f1,f2⟩|⟨f1,f2⟩
     ·have:=dH Nm.base he2;simp only [Nm.key_base] at this;exact .inl ⟨by omega,by omega⟩
     ·rw [he2] at f1 f2;exact .inr ⟨lK _ f1,f2⟩
    ·rcases hb _ c1 with h10|h10
     ·obtain ⟨p2,hp2,he2⟩:=fH.1 h10;rcases hu.keys p2 hp2 with ⟨f1,f2⟩|⟨f1,f2⟩
      ·have:=dH Nm.base he2;simp only [Nm.key_base] at this;exact .inl ⟨by omega,by omega⟩
      ·rw [he2] at f1 f2;exact .inr ⟨lK _ f1,f2⟩
     ·exact .inr ⟨jG _ h9,_,by rw [hkk _ c1],h10⟩
  ·rcases hu.keys p hp1 with ⟨f1,f2⟩|⟨f1,f2⟩
   ·exact .inl ⟨f1,by omega⟩
   ·exact .inr ⟨lK _ f1,f2⟩
theorem KB {o:Oper} {s:Prop} {e:dw} (hop:kK P true fr hp nx o.type o.op = .ok s e) (hs:s):nW P o fr hp nx (tB e):=by
 obtain ⟨k1,k2⟩:=ym hop;refine λX ids w fr' hp' a hP h1 h2 h3 h4 h5 h6 KK Q hK=>?_
 subst hP;obtain ⟨_,hag⟩:=h6 _ _ _ _ ⟨rfl,rfl,rfl,rfl⟩;have hop':=pZ hop h4 hag;obtain ⟨x,w',ids',g1,g2,g3,g4⟩:=uP (X:=X) ⟨h1,h5,h2⟩ h3 (g:=true) rfl hop' hs;exact mY g1 (hK _ _ _ _ _ _ _ ⟨rfl,rfl,rfl,rfl⟩ ⟨k1,λp hp1=>(k2 p hp1).imp (λhh=>by rw [hh.1];simp;omega) id⟩ g2 g3 g4)
def BQ:cp->Bool
 | .unborn=>false
 | _=>true
theorem xt {d:Bool} {l:List Oper} {acc:List fR} {K:Fr->Hp->Nat->Prop} (dst:Option Tmp) (r:eX) (e:dw) (u:Hp) (q:Nat) (r2 r2e:List Nm) (hc:(sY P ops fr l).map (λo=>(o.dst,kK P true fr hp nx o.type o.op,uS o.op))=some (dst,r,true)) (hob:gO r e) (g:l0 P e.nx q r2 (e.upd++hp) u)
  (hk:(F9 e.nx q r2 u,Nat.ble nx e.nx,r2.all (λk=>k.key==k),e.upd.all (λp=>Nat.blt p.1.base e.nx),r2.all (λk=>(e.upd.any λp=>p.1.key==k)||r2e.any λj=>j==k),r2e.all (λk=>BQ (bW hp k)))=(true,true,true,true,true,true))
  (h:dZ P d ops (l.drop 1) (gg dst e.val fr) (u++e.upd++hp) (bif d then e.nx+q+1 else e.nx+q) (acc++[⟨(u++e.upd).map (·.1.key),e.rds++r2e,nx,e.nx+q⟩]) K):dZ P d ops l fr hp nx acc K:=by
 obtain ⟨o,ho,hh⟩:=mr.1 hc;simp only [iH] at hh hk;obtain ⟨rfl,hop,hso⟩:=hh;obtain ⟨s,rfl,hs⟩:=yv hob;obtain ⟨k1,k2,k3,k4,k5,k6⟩:=hk;have hb:∀ k∈r2e,bW hp k≠.unborn:=λk hk e=>by have:=dQ.1 k6 k hk;rw [e] at this;cases this
 simp only [dQ,kX,ng,jE,kG] at k3 k4 k5;have hle:=cV k2;have hsub:∀ k∈r2,k∈e.upd.map (·.1.key)\/k∈r2e:=λk hk=>(k5 k hk).imp (λ⟨p,hp,he⟩=>fH.2 ⟨p,hp,he⟩) (λ⟨j,hj,he⟩=>he▸hj);exact xp o ⟨e.val,u++e.upd,e.nx+q,e.rds++r2e⟩ ho (by simp only;omega) hso (F_ (KB hop hs) hle g k1 (λk hk=>(hsub k hk).imp id (hb k)) k3 k4 r2e hsub) h
end run
end
section
open Go.RowKit
variable {α β:Type}
inductive DL where
 | p (s:SV)
 | o (e:TypeId) (n:Nat) (cs:List SV)
def DL.flat:DL->SV
 | .p s=>s
 | .o _ n cs=>.sl n cs
def DL.ok:DL->Bool
 | .p (.v x)=>x.oneCell'
 | .p (.sl _ cs)=>iq cs
 | .p _=>false
 | .o _ _ cs=>iq cs
def o7:List DL->List (TypeId×Nat×List SV)
 | []=>[]
 | .p _::r=>o7 r
 | .o e n cs::r=>(e,n,cs)::o7 r
def CZ:List (TypeId×Nat×List SV)->Prop
 | []=>True
 | t::r=>(t.2.1=0->t.2.2=[])/\CZ r
theorem CZ.mem:∀ {l:List (TypeId×Nat×List SV)},CZ l->∀ t∈l,t.2.1=0->t.2.2=[]
 | [],_,t,h=>by cases h
 | a::r,h,t,ht=>by
  rcases fc.1 ht with rfl|ht
  ·exact h.1
  ·exact CZ.mem h.2 t ht
structure DE (α:Type) [b_ α] where
 dl:α->List DL
 no:Nat
 flat:∀ a,(dl a).map DL.flat=b_.cells a
 num:∀ a,(o7 (dl a)).length=no
 dfl:(o7 (dl default)).map (·.2)=List.replicate no (0,[])
 ok:∀ a,(dl a).all DL.ok=true
 wi:∀ a,CZ (o7 (dl a))
def EW:Option Nm->Nat->SV
 | some k,n=>.own k 0 n
 | none,_=>.v (.slice none 0 0)
def ul (N:Nat->Option Nm):Nat->List DL->List SV
 | _,[]=>[]
 | j,.p s::r=>s::ul N j r
 | j,.o _ n _::r=>EW (N j) n::ul N (j+1) r
theorem w5 {N N':Nat->Option Nm}:∀ (l:List DL) (j:Nat),(∀ q,j<=q->q<j+(o7 l).length->N q=N' q)->ul N j l=ul N' j l
 | [],_,_=>rfl
 | .p s::r,j,h=>by simp only [ul];rw [w5 r j h]
 | .o e n cs::r,j,h=>by
  simp only [ul]
  simp only [o7,gq] at h
  rw [h j (cF _) (by omega),w5 r (j+1) λq a b=>h q (by omega) (by omega)]
variable [b_ α]
theorem DE.len (D:DE α) (a:α):(D.dl a).length=b_.sz α:=by
 rw [←b_.len a,←D.flat a,eI]
def um (D:DE α) (N:Nat->Int->Option Nm):Nat->List α->List SV
 | _,[]=>[]
 | b,x::xs=>ul (λj=>N j (b:Nat)) 0 (D.dl x)++um D N (b+1) xs
def nF (Fs:List Nat) (j:Nat) (i:Int):Option Nm:=some (.s (Fs.getD j 0) i)
def EX (D:DE α) (Fs:List Nat) (xs:List α):List SV:=um D (nF Fs) 0 xs
def C7 (D:DE α) (j:Nat) (a:α):cp:=match (o7 (D.dl a))[j]? with
 | some t=>.row t.1 t.2.2
 | none=>.dead
def Hx (xs:List α) (i:Int):α:=bif decide (0<=i) then ix xs i else default
def nZ (D:DE α) (j:Nat) (xs:List α):Int->cp:=λi=>C7 D j (Hx xs i)
theorem Hy (D:DE α) (j:Nat) (a:α) (g:Int->cp) (i:Int) (h:g i=C7 D j a):(cp.fam g).at i=C7 D j a:=by
 simp only [cp.at,h];unfold C7;split
 ·rename_i h2;split at h2<;>cases h2
 ·rename_i h2;split at h2<;>cases h2
 ·rfl
theorem EY (D:DE α) (j:Nat) (xs:List α) (i:Int):(cp.fam (nZ D j xs)).at i=nZ D j xs i:=Hy D j (Hx xs i) _ i rfl
theorem KC (D:DE α) {j:Nat} (hj:j<D.no) (a:α):∃ e n cs,(o7 (D.dl a))[j]? = some (e,n,cs)/\C7 D j a = .row e cs:=by
 have h:j<(o7 (D.dl a)).length:=by rw [D.num];exact hj
 refine ⟨_,_,_,dz h,?_⟩;unfold C7;rw [dz h];rfl
theorem Bn (D:DE α) {N N':Nat->Int->Option Nm}:∀ (xs:List α) (b:Nat),(∀ j (i:Nat),j<D.no->b<=i->i<b+xs.length->N j i=N' j i)->um D N b xs=um D N' b xs
 | [],_,_=>rfl
 | x::xs,b,h=>by
  simp only [gq] at h
  rw [um,um,Bn D xs (b+1) λj i hj h1 h2=>h j i hj (by omega) (by omega),w5 (N:=λj=>N j (b:Nat)) (N':=λj=>N' j (b:Nat)) (D.dl x) 0 λq _ hq=>h q b (by rw [D.num] at hq;omega) (cF _) (by omega)]
def Pw (Q:SV->SV->Prop):List SV->List SV->Prop
 | [],[]=>True
 | x::xs,y::ys=>Q x y/\Pw Q xs ys
 | _,_=>False
theorem Pw.app {Q:SV->SV->Prop}:∀ {xs ys zs ws:List SV},Pw Q xs ys->Pw Q zs ws->Pw Q (xs++zs) (ys++ws)
 | [],[],_,_,_,h=>h
 | a::xs,b::ys,_,_,h,g=>⟨h.1,Pw.app h.2 g⟩
 | [],_::_,_,_,h,_=>h.elim
 | _::_,[],_,_,h,_=>h.elim
theorem Pw.get {Q:SV->SV->Prop}:∀ {xs ys:List SV},Pw Q xs ys->ys.length=xs.length/\∀ (i:Nat) (x y:SV),xs[i]? = some x->ys[i]? = some y->Q x y
 | [],[],_=>⟨rfl,λi x y h=>by simp at h⟩
 | a::xs,b::ys,h=>by
  obtain ⟨h1,h2⟩:=Pw.get h.2
  refine ⟨by simp [h1],λi x y hx hy=>?_⟩
  cases i with
  | zero=>simp at hx hy;subst hx;subst hy;exact h.1
  | succ i=>exact h2 i x y (by simpa using hx) (by simpa using hy)
 | [],_::_,h=>h.elim
 | _::_,[],h=>h.elim
theorem C8 {Q:SV->SV->Prop} {N N':Nat->Option Nm}:∀ (l:List DL) (j:Nat),(∀ s,DL.p s∈l->Q s s)->(∀ q t,(o7 l)[q]? = some t->Q (EW (N (j+q)) t.2.1) (EW (N' (j+q)) t.2.1))->Pw Q (ul N j l) (ul N' j l)
 | [],_,_,_=>trivial
 | .p s::r,j,hp,h=>⟨hp s (by simp),C8 r j (λs hs=>hp s (by simp [hs])) h⟩
 | .o e n cs::r,j,hp,h=>⟨h 0 (e,n,cs) rfl,C8 r (j+1) (λs hs=>hp s (by simp [hs])) λq t hq=>by
  have:=h (q+1) t (by simpa [o7] using hq)
  rwa [show j+(q+1)=j+1+q from by omega] at this⟩
theorem Hz (D:DE α) {Q:SV->SV->Prop} {N N':Nat->Int->Option Nm}:∀ (xs:List α) (b:Nat),(∀ x∈xs,∀ s,DL.p s∈D.dl x->Q s s)->(∀ (i q:Nat) t,i<xs.length->(o7 (D.dl (xs.getD i default)))[q]? = some t->Q (EW (N q ((b+i:Nat):Int)) t.2.1) (EW (N' q ((b+i:Nat):Int)) t.2.1))->Pw Q (um D N b xs) (um D N' b xs)
 | [],_,_,_=>trivial
 | x::xs,b,hp,h=>by
  refine Pw.app (C8 _ _ (hp x (by simp)) λq t hq=>?_) (Hz D xs (b+1) (λy hy=>hp y (by simp [hy])) λi q t hi hq=>?_)
  ·rw [dm];exact h 0 q t (by simp) hq
  ·have:=h (i+1) q t (by simpa using hi) (by simpa using hq)
   rwa [show b+(i+1)=b+1+i from by omega] at this
variable {P:Program} {hp:Hp} {nx:Nat}
end
section
open Go.RowKit
variable {α β:Type} [b_ α] {P:Program} {hp:Hp} {nx:Nat}
end
section
open Go.RowKit
variable {α β:Type} [b_ α] {P:Program} {hp hp':Hp} {nx:Nat} {σ:List (Nm×Nm)} {frz:List Nm}
theorem C9:∀ {xs ys:List SV},Pw (fu hp hp' σ frz) xs ys->lQ hp hp' σ frz xs ys
 | [],[],_=>by simp only [lQ]
 | x::xs,y::ys,h=>by simp only [lQ];exact ⟨h.1,C9 h.2⟩
 | [],_::_,h=>h.elim
 | _::_,[],h=>h.elim
theorem HA {s:SV} (h:DL.ok (.p s)=true):fu hp hp' σ frz s s:=by
 cases s<;>simp only [DL.ok] at h<;>first|cases h|skip
 ·simp only [fu]
 ·simp only [fu];exact ⟨trivial,trivial,js h⟩
def Av (hp':Hp) (σ:List (Nm×Nm)) (D:DE α) (xs:List α):Nat->List Nat->List Nat->Prop
 | j,F::Fs,F'::Fs'=>(di σ (.s F' 0)=some (.s F 0)/\il hp' (.s F' 0) = .fam (nZ D j xs))/\Av hp' σ D xs (j+1) Fs Fs'
 | j,[],[]=>j=D.no
 | _,_,_=>False
theorem HB {D:DE α} {xs:List α} {j F F':Nat} {Fs Fs':List Nat}:Av hp' σ D xs j (F::Fs) (F'::Fs')=((di σ (.s F' 0)=some (.s F 0)/\il hp' (.s F' 0) = .fam (nZ D j xs))/\Av hp' σ D xs (j+1) Fs Fs'):=propext Iff.rfl
theorem IH {D:DE α} {xs:List α} {j:Nat} :Av hp' σ D xs j [] []=(j=D.no):=propext Iff.rfl
theorem C_ {D:DE α} {xs:List α} :∀ {Fs Fs':List Nat} {j0:Nat},Av hp' σ D xs j0 Fs Fs'->j0+Fs.length=D.no/\∀ j,j<Fs.length->di σ (.s (Fs'.getD j 0) 0)=some (.s (Fs.getD j 0) 0)/\il hp' (.s (Fs'.getD j 0) 0) = .fam (nZ D (j0+j) xs)
 | [],[],j0,h=>⟨h,λj hj=>by simp at hj⟩
 | F::Fs,F'::Fs',j0,h=>by
  obtain ⟨h1,h2⟩:=C_ h.2
  refine ⟨by rw [gq];omega,λj hj=>?_⟩
  cases j with
  | zero=>exact h.1
  | succ j =>
   have:=h2 j (by simpa using hj)
   rwa [show j0+1+j=j0+(j+1) from by omega] at this
 | [],_::_,_,h=>h.elim
 | _::_,[],_,h=>h.elim
theorem xX {k:Nm}:∀ {hp:Hp},il hp k≠.unborn->∃ p∈hp,p.1.key=k.key
 | [],h=>absurd rfl h
 | p::r,h=>by
  by_cases hk:p.1.key=k.key
  ·exact ⟨p,by simp,hk⟩
  ·simp only [il] at h
   rw [Nm.eqk_no hk,ck] at h
   obtain ⟨q,hq,he⟩:=xX h
   exact ⟨q,by simp [hq],he⟩
theorem np {F:Nat} {g:Int->cp} (h:il hp (.s F 0) = .fam g) (i:Int):bW hp (.s F i)=(cp.fam g).at i:=by
 have hx:=xX (hp:=hp) (k:=.s F 0) (by rw [h];simp);rw [yx (.s F i) hx,yw (show (Nm.s F i).key=(Nm.s F 0).key from rfl),h];rfl
theorem Da {F F':Nat} (h:di σ (.s F' 0)=some (.s F 0)) (i:Int):di σ (.s F' i)=some (.s F i):=by
 rw [jq σ F' i,h];rfl
theorem HC {D:DE α} {j:Nat} (hj:j<D.no) (xs:List α) (i:Int):((cp.fam (nZ D j xs)).at i).live=true:=by
 rw [EY];obtain ⟨e,n,cs,_,h⟩:=KC D hj (Hx xs i);unfold nZ;rw [h];rfl
theorem xu {D:DE α} {Fs Fs':List Nat} {xs:List α} (h:Av hp' σ D xs 0 Fs Fs'):lQ hp hp' σ frz (EX D Fs xs) (EX D Fs' xs)=True:=by
 refine eq_true (C9 (Hz D xs 0 (λx _ s hs=>HA (dQ.1 (D.ok x) _ hs)) λi q t hi hq=>?_));obtain ⟨h1,h2⟩:=C_ h;have hq':q<D.no:=by rw [←D.num (xs.getD i default)];exact (dy.1 hq).1
 obtain ⟨h3,h4⟩:=h2 q (by omega);rw [dm] at h4;simp only [nF,EW,fu];exact ⟨Da h3 _,trivial,trivial,by rw [np h4];exact HC hq' xs _⟩
def BR (hp:Hp) (σ:List (Nm×Nm)) (F':Nat) (g:Int->cp):Prop:=match di σ (.s F' 0) with
 | some k=>il hp (.s k.base 0) = .fam g
 | none=>False
theorem Nr (D:DE α) (a:α):∀ t∈o7 (D.dl a),iq t.2.2=true:=by
 have gen:∀ l:List DL,l.all DL.ok=true->∀ t∈o7 l,iq t.2.2=true:=by
  intro l;induction l with
  | nil=>intro _ t ht;cases ht
  | cons a l ih =>
   intro hl t ht;simp only [mJ,cT] at hl;cases a with
   | p s=>exact ih hl.2 t ht
   | o e n cs =>
    rcases fc.1 ht with rfl|ht
    ·exact hl.1
    ·exact ih hl.2 t ht
 exact gen _ (D.ok a)
theorem II (τ:Nm->Nm) (D:DE α) (j:Nat) (xs:List α) (i:Int):ik τ (nZ D j xs i)=nZ D j xs i:=by
 unfold nZ C7;cases ho:(o7 (D.dl (Hx xs i)))[j]? with
 | none=>rfl
 | some t =>
  simp only [ik];rw [nS (js (Nr D _ t (pI ho)))]
theorem Aw (τ:Nm->Nm) (N N':Nat->Option Nm) (h:∀ j,(N j).map τ=N' j):∀ (l:List DL) (j:Nat),l.all DL.ok=true->jz τ (ul N j l)=ul N' j l
 | [],_,_=>rfl
 | .p s::r,j,hl=>by
  simp only [mJ,cT] at hl
  simp only [ul,jz,Aw τ N N' h r j hl.2]
  congr 1
  refine sU ?_
  have:=hl.1
  cases s<;>simp only [DL.ok] at this<;>first|cases this|skip
  ·rfl
  ·exact js this
 | .o e n cs::r,j,hl=>by
  simp only [mJ,cT] at hl
  simp only [ul,jz,Aw τ N N' h r (j+1) hl.2,←h j]
  congr 1
  cases N j<;>rfl
theorem IJ (τ:Nm->Nm) (xs ys:List SV):jz τ (xs++ys)=jz τ xs++jz τ ys:=by rw [lc,lc,lc,kI]
theorem EZ (D:DE α) (τ:Nm->Nm) (N N':Nat->Int->Option Nm) (h:∀ j i,(N j i).map τ=N' j i):∀ (xs:List α) (b:Nat),jz τ (um D N b xs)=um D N' b xs
 | [],_=>rfl
 | x::xs,b=>by rw [um,um,IJ,EZ D τ N N' h xs,Aw τ _ _ (λj=>h j b) _ _ (D.ok x)]
def Db (σ:List (Nm×Nm)) (nx:Nat) (Fs:List Nat):List Nat:=Fs.map λF=>(f9 (di σ) nx (.s F 0)).base
def Mf (Fs:List Nat) (D:DE α):Prop:=Fs.length=D.no
theorem KD (Fs:List Nat) (D:DE α):Mf Fs D=(Fs.length=D.no):=propext Iff.rfl
theorem ve (D:DE α) (Fs:List Nat) (xs:List α) (hF:Mf Fs D):jz (f9 (di σ) nx) (EX D Fs xs)=EX D (Db σ nx Fs) xs:=by
 have h1:jz (f9 (di σ) nx) (EX D Fs xs)=um D (λj i=>(nF Fs j i).map (f9 (di σ) nx)) 0 xs:=EZ D _ _ _ (λj i=>rfl) xs 0;rw [h1];refine Bn D xs 0 λj i hj _ _=>?_
 have hl:j<Fs.length:=by have:Fs.length=D.no:=hF;omega
 simp only [nF,fk,Db,dA,fW,dz hl,gV];rw [uQ (jq σ)]
def Ga (hp:Hp) (frz:List Nm) (D:DE α) (xs:List α):Nat->List Nat->Prop
 | j,F::Fs=>(qh frz (.s F 0)=true/\il hp (.s F 0) = .fam (nZ D j xs))/\Ga hp frz D xs (j+1) Fs
 | j,[]=>j=D.no
theorem HD {D:DE α} {xs:List α} {j F:Nat} {Fs:List Nat}:Ga hp frz D xs j (F::Fs)=((qh frz (.s F 0)=true/\il hp (.s F 0) = .fam (nZ D j xs))/\Ga hp frz D xs (j+1) Fs):=propext Iff.rfl
theorem IK {D:DE α} {xs:List α} {j:Nat} :Ga hp frz D xs j []=(j=D.no):=propext Iff.rfl
theorem HE (d:Nm) (x:cp) (r:Hp) (t:Nm):il ((d,x)::r) t=bif d.eqk t then x else il r t:=rfl
theorem IL (t:Nm):il [] t = .unborn:=rfl
theorem HF (σ:List (Nm×Nm)) (nx F:Nat) (Fs:List Nat):Db σ nx (F::Fs)=(f9 (di σ) nx (.s F 0)).base::Db σ nx Fs:=rfl
theorem IM (σ:List (Nm×Nm)) (nx:Nat):Db σ nx []=[]:=rfl
theorem KE (i:Int):cp.dead.at i = .dead:=rfl
attribute [push_cast] HB IH xu II HD IK HE IL HF IM KE ve KD
end
section
open Go.RowKit
variable {α:Type} [b_ α] {P:Program} {hp:Hp} {nx:Nat} {fr:Fr} {ops:Array Oper}
def rS (hp:Hp) (F:Nat):Int->cp:=λj=>bW hp (.s F j)
theorem Mg (F:Nat) (i:Int) (c:cp) (hp:Hp):d9 (.s F i) c hp=(.s F 0,.fam (sI (rS hp F) i c)):=rfl
theorem Mh (k:Nat) (c:cp) (r:Hp) (F:Nat):rS ((.t k,c)::r) F=rS r F:=rfl
theorem Mi (D:DE α) (j:Nat) (xs:List α) (G:Nat) (z:Int) (r:Hp) (F:Nat):rS ((.s G z,.fam (nZ D j xs))::r) F=bif G==F then nZ D j xs else rS r F:=by
 funext q;simp only [rS,bW,Nm.eqk];cases G==F with
 | true=>simp only [cd,cp.mem];exact EY D j xs q
 | false=>rfl
theorem Mj (D:DE α) (j:Nat) (xs:List α) (i:Int) (G:Nat) (z:Int) (r:Hp) (F:Nat):rS ((.s G z,.fam (sI (nZ D j xs) i .dead))::r) F=bif G==F then sI (nZ D j xs) i .dead else rS r F:=by
 funext q;simp only [rS,bW,Nm.eqk];cases G==F with
 | true =>
  simp only [cd,cp.mem];by_cases hq:q=i
  ·subst hq;simp [cp.at,sI]
  ·have h:sI (nZ D j xs) i .dead q=nZ D j xs q:=by unfold sI;rw [show (q==i)=false from by simpa using hq];rfl
   rw [h];exact Hy D j (Hx xs q) _ q h
 | false=>rfl
theorem KF (g:Int->cp) (i:Int) (c c':cp):sI (sI g i c) i c'=sI g i c':=by
 funext q;unfold sI;cases q==i<;>rfl
theorem KG (D:DE α) (Fs:List Nat):EX D Fs []=[]:=rfl
def Dc (xs:List α):List SV:=fl xs
theorem Gb:Dc ([]:List α)=[]:=rfl
theorem Er (x:α) (xs:List α):Dc (x::xs)=b_.cells x++Dc xs:=rfl
theorem IN {hp hp':Hp} {σ:List (Nm×Nm)} {frz:List Nm} {k:Nm} (h:qh frz k=true/\sg (bW hp k) []):fu hp hp' σ frz (.own k 0 0) (.sl 0 [])=True:=by
 obtain ⟨h2,h3⟩:=h;refine eq_true ?_;simp only [fu];refine ⟨trivial,ov h2,?_⟩;cases hk:bW hp k with
 | row e cs =>
  rw [hk] at h3;simp only [sg] at h3;subst h3;exact ⟨e,[],0,rfl,λ_=>rfl,.inl ⟨rfl,rfl⟩⟩
 | _=>rw [hk] at h3;exact h3.elim
theorem HG (τ:Nm->Nm) (b:Bool) (x y:SV):iy τ (bif b then x else y)=bif b then iy τ x else iy τ y:=by cases b<;>rfl
theorem IO {hp hp':Hp} {σ:List (Nm×Nm)} {frz:List Nm} {b:Bool} {x y x' y':SV} (h:fu hp hp' σ frz x x'/\fu hp hp' σ frz y y'):fu hp hp' σ frz (bif b then x else y) (bif b then x' else y')=True:=by
 refine eq_true ?_;cases b with
 | true=>exact h.1
 | false=>exact h.2
theorem Es (i:Nat) (x:SV) (xs:List SV):qf i (x::xs)=(i,x)::qf (i+1) xs:=rfl
theorem Gc (i:Nat):qf i []=[]:=rfl
attribute [push_cast] IN HG IO Es Gc
attribute [push_cast] Gb Er
attribute [push_cast] Mg Mh Mi Mj KF implies_true KG
def BS (hp:Hp):List Nm->Prop
 | []=>True
 | k::ks=>BQ (bW hp k)=true/\BS hp ks
theorem BS.all {hp:Hp}:∀ {ks:List Nm},BS hp ks->ks.all (λk=>BQ (bW hp k))=true
 | [],_=>rfl
 | k::ks,h=>by rw [mJ,h.1,h.2.all];rfl
theorem Dd {hp:Hp} {F:Nat} (g:Int->cp) (h:il hp (.s F 0) = .fam g):BQ (bW hp (.s F 0))=true:=by
 rw [np h];cases hc:(cp.fam g).at 0 with
 | unborn=>exact absurd hc (xf _ _)
 | _=>rfl
theorem De {P:Program} {fr:Fr} {hp:Hp} {nx:Nat} {ops:Array Oper} {d:Bool} {l:List Oper} {acc:List fR} {K:Fr->Hp->Nat->Prop} (dst:Option Tmp) (r:eX) (e:dw) (u:Hp) (q:Nat) (r2 r2e:List Nm) (hc:(sY P ops fr l).map (λo=>(o.dst,kK P true fr hp nx o.type o.op,uS o.op))=some (dst,r,true)) (hob:gO r e) (g:l0 P e.nx q r2 (e.upd++hp) u)
  (hk:(F9 e.nx q r2 u,Nat.ble nx e.nx,r2.all (λk=>k.key==k),e.upd.all (λp=>Nat.blt p.1.base e.nx),r2.all (λk=>(e.upd.any λp=>p.1.key==k)||r2e.any λj=>j==k))=(true,true,true,true,true)) (hb:BS hp r2e)
  (h:dZ P d ops (l.drop 1) (gg dst e.val fr) (u++e.upd++hp) (bif d then e.nx+q+1 else e.nx+q) (acc++[⟨(u++e.upd).map (·.1.key),e.rds++r2e,nx,e.nx+q⟩]) K):dZ P d ops l fr hp nx acc K:=by
 refine xt dst r e u q r2 r2e hc hob g ?_ h;simp only [iH] at hk ⊢;obtain ⟨k1,k2,k3,k4,k5⟩:=hk;exact ⟨k1,k2,k3,k4,k5,hb.all⟩
end
section
open Go.RowKit
variable {P:Program}
theorem w6 {hp:Hp} {nx r:Nat} {e:TypeId} {cs cs':List SV} (hR:bW hp (.t r) = .row e cs) (hw:cs.map nY=cs'):l0 P nx 0 [Nm.t r] hp [(Nm.t r,.row e cs')]:=by
 intro X ids w hp' hP hm hC hag hf;have hk:bW hp' (.t r) = .row e cs:=(hag (.t r) (by simp [Nm.key])).trans hR;subst hw;have:=Ep hC hk (cs':=cs.map nY) (by simp) (λi x y v h1 h2 h3=>by
  rw [fW,h1] at h2;cases h2;exact CY h3)
 exact ⟨ids,this⟩
theorem E0 {α:Type} [b_ α] (n:Nat) (zs:List SV) (hzs:zs.map nY=b_.cells (default:α)):((List.range n).flatMap λ_=>zs).map nY=fl (List.replicate n (default:α)):=by
 rw [←CS n (zs.map nY) hzs,List.map_flatMap]
theorem HH {α:Type} (n:Int) (e:TypeId) (B:Nat) (hB:P.bytesOf e=B) (zs:List SV) (z:Nat) (hz:zs.length=z) (hpos:0<z) (d:α) (k:0<=n/\n<=4611686018427387904/\(B:Int)*n<=140737488355328) (nx:Nat) :
  gO (.ok (0<=n/\n<=n/\n<=4611686018427387904/\(P.bytesOf e:Int)*n<=140737488355328/\zs.length=z/\0<z) ⟨.own nx 0 n.toNat,[(Nm.t nx,.row e ((List.range n.toNat).flatMap λ_=>zs))],nx+1,[]⟩) ⟨.own nx 0 (List.replicate n.toNat d).length,[(Nm.t nx,.row e ((List.range n.toNat).flatMap λ_=>zs))],nx+1,[]⟩:=by
 subst hB;exact je ⟨k.1,iU _,k.2.1,k.2.2,hz,hpos⟩ (by rw [ru]) rfl
end
section
open Go.RowKit
variable {P:Program} {fr:Fr} {hp:Hp} {nx:Nat}
end
section
open Go.RowKit
variable {P:Program} {hp hin:Hp} {nx:Nat}
def isT:Nm->Bool
 | .t _=>true
 | _=>false
def Gd:Nat->Fr->Fr
 | 0,fr=>fr
 | _+1,[]=>[]
 | n+1,p::r=>p::(Gd n r).filter λq=>!(q.1==p.1)
def Ge:Nat->Hp->Hp
 | 0,hp=>hp
 | _+1,[]=>[]
 | n+1,p::r=>p::(Ge n r).filter λq=>!(q.1.eqk p.1)
theorem t7 (a d:Nat) (h:a≠d):∀ fr:Fr,cM (fr.filter λq=>!(q.1==a)) d=cM fr d
 | []=>rfl
 | p::r=>by
  simp only [List.filter]
  cases he:p.1==a with
  | true =>
   simp only [jo,cM]
   rw [t7 a d h r]
   have:p.1=a:=by simpa using he
   rw [show (p.1==d)=false from by simpa using λe=>h (this▸e)];rfl
  | false=>simp only [og,cM];rw [t7 a d h r]
theorem Df:∀ (n:Nat) (fr:Fr) (d:Nat),cM (Gd n fr) d=cM fr d
 | 0,fr,d=>rfl
 | n+1,[],d=>rfl
 | n+1,p::r,d=>by
  simp only [Gd,cM]
  cases he:p.1==d with
  | true=>rfl
  | false=>simp only [ck];rw [t7 p.1 d (by simpa using he),Df n r d]
theorem t8 (a d:Nm) (h:a.key≠d.key):∀ hp:Hp,bW (hp.filter λq=>!(q.1.eqk a)) d=bW hp d
 | []=>rfl
 | p::r=>by
  simp only [List.filter]
  cases he:p.1.eqk a with
  | true =>
   simp only [jo,bW]
   rw [t8 a d h r]
   have:p.1.key=a.key:=Nm.eqk_iff.1 he
   rw [Nm.eqk_no (λe=>h (this▸e))];rfl
  | false=>simp only [og,bW];rw [t8 a d h r]
theorem Dg:∀ (n:Nat) (hp:Hp) (d:Nm),bW (Ge n hp) d=bW hp d
 | 0,hp,d=>rfl
 | n+1,[],d=>rfl
 | n+1,p::r,d=>by
  simp only [Ge,bW]
  cases he:p.1.eqk d with
  | true=>rfl
  | false =>
   simp only [ck]
   rw [t8 p.1 d (λe=>by rw [Nm.eqk_iff.2 e] at he;cases he),Dg n r d]
theorem HI (a b:Nat) (fr:Fr) (hp:Hp):FO fr (Gd a fr) hp (Ge b hp):=⟨λd=>.inl (Df a fr d),λk=>Dg b hp k⟩
end
section
open Go.RowKit
variable {P:Program} {hp:Hp} {nx:Nat}
def Bo (k:IntKind) (m:List (Int×Int)):List (Value×SV):=m.map λp=>(.int k p.1,.v (.int .i64 p.2))
theorem KH (j:IntKind) (k a:Int):gN (.int j k) (.int j a)=(k==a):=by simp [gN,kc]
theorem Dh (j:IntKind) (k:Int):∀ (m:List (Int×Int)) (i:Nat),(eW (.int j k) (Bo j m) i).map (·.2)=(m.find? λp=>k==p.1).map λp=>.v (.int .i64 p.2)
 | [],i=>rfl
 | p::r,i=>by
  show (bif gN (.int j k) (.int j p.1) then _ else eW _ (Bo j r) (i+1)).map (·.2)=_
  rw [KH,List.find?_cons]
  cases h:k==p.1 with
  | true=>simp
  | false=>simpa using Dh j k r (i+1)
theorem HJ (j:IntKind) (m:List (Int×Int)) (k:Int):gz (.int .i64 0) (.int j k) (Bo j m) = .v (.int .i64 (fU m k)):=by
 have:=Dh j k m 0;unfold gz fU;cases h:eW (.int j k) (Bo j m) 0 with
 | none=>rw [h] at this;cases hf:m.find? (λp=>k==p.1) with
  | none=>rfl
  | some p=>rw [hf] at this;simp at this
 | some q=>rw [h] at this;cases hf:m.find? (λp=>k==p.1) with
  | none=>rw [hf] at this;simp at this
  | some p=>rw [hf] at this;simp at this;simp [this]
theorem HK (j:IntKind) (m:List (Int×Int)) (k:Int):(Bo j m).all (λp=>gJ (.int j k) p.1)=true:=by simp [Bo,gJ]
theorem IP (j:IntKind) (k:Int) (mm:List (Int×Int)) (kk:Nm) (nx:Nat):gO (.ok (lX (.int j) (.int j k)=true/\(Bo j mm).all (λp=>gJ (.int j k) p.1)=true) ⟨gz (.int .i64 0) (.int j k) (Bo j mm),[],nx,[kk.key]⟩) ⟨.v (.int .i64 (fU mm k)),[],nx,[kk.key]⟩ :=
 je ⟨rfl,HK j mm k⟩ (HJ j mm k) rfl
def Di (m:List (Bool×Int)):List (Value×SV):=m.map λp=>(.bool p.1,.v (.int .i64 p.2))
def mT (m:List (Bool×Int)) (b:Bool):Int:=((m.find? λp=>b==p.1).map (·.2)).getD 0
theorem Dj (k:Bool):∀ (m:List (Bool×Int)) (i:Nat),(eW (.bool k) (Di m) i).map (·.2)=(m.find? λp=>k==p.1).map λp=>.v (.int .i64 p.2)
 | [],i=>rfl
 | p::r,i=>by
  show (bif gN (.bool k) (.bool p.1) then _ else eW _ (Di r) (i+1)).map (·.2)=_
  rw [List.find?_cons]
  simp only [gN,kc]
  cases h:k==p.1 with
  | true=>simp
  | false=>simpa using Dj k r (i+1)
theorem HL (m:List (Bool×Int)) (k:Bool):gz (.int .i64 0) (.bool k) (Di m) = .v (.int .i64 (mT m k)):=by
 have:=Dj k m 0;unfold gz mT;cases h:eW (.bool k) (Di m) 0 with
 | none=>rw [h] at this;cases hf:m.find? (λp=>k==p.1) with
  | none=>rfl
  | some p=>rw [hf] at this;simp at this
 | some q=>rw [h] at this;cases hf:m.find? (λp=>k==p.1) with
  | none=>rw [hf] at this;simp at this
  | some p=>rw [hf] at this;simp at this;simp [this]
theorem Dk (b:Bool) (mm:List (Bool×Int)) (kk:Nm) (nx:Nat):gO (.ok (lX .bool (.bool b)=true/\(Di mm).all (λp=>gJ (.bool b) p.1)=true) ⟨gz (.int .i64 0) (.bool b) (Di mm),[],nx,[kk.key]⟩) ⟨.v (.int .i64 (mT mm b)),[],nx,[kk.key]⟩ :=
 je ⟨rfl,by simp [Di,gJ]⟩ (HL mm b) rfl
theorem nU (d:TypeDesc) (kv:Value) (v:SV) (es es':List (Value×SV)) (kk nx:Nat) (h1:lX d kv=true) (h2:es.all (λp=>gJ kv p.1)=true) (h3:lm kv v es=es'):gO (.ok (lX d kv=true/\es.all (λp=>gJ kv p.1)=true) ⟨.any,[(Nm.t kk,.map (lm kv v es))],nx,[Nm.t kk]⟩) ⟨.any,[(Nm.t kk,.map es')],nx,[Nm.t kk]⟩ :=
 je ⟨h1,h2⟩ rfl (by rw [h3])
structure dn (n:Nat) where
 l:List Int
 h:l.length=n
variable {n:Nat}
theorem dn.ext:∀ {a b:dn n},a.l=b.l->a=b
 | ⟨_,_⟩,⟨_,_⟩,h=>by simp only at h;subst h;rfl
instance : DecidableEq (dn n):=λa b=>if h:a.l=b.l then .isTrue (dn.ext h) else .isFalse λe=>h (e▸rfl)
instance : Inhabited (dn n):=⟨⟨List.replicate n 0,by simp⟩⟩
def dn.get (a:dn n) (i:Int):Int:=a.l.getD i.toNat 0
def dn.set (a:dn n) (i v:Int):dn n:=⟨a.l.set i.toNat v,by rw [cq];exact a.h⟩
def dn.cells (a:dn n):List SV:=(List.range n).map λk=>.v (.int .i64 (a.l.getD k 0))
theorem dn.cells_fl (a:dn n):a.cells=a.l.map λx=>.v (.int .i64 x):=by
 refine List.ext_getElem (by simp [dn.cells,a.h]) λi h1 h2=>?_
 simp only [dn.cells,pQ,List.getElem_range,eI] at h2 ⊢;rw [dA,dz h2];rfl
theorem dn.st (a:dn n):iq a.cells=true:=by
 rw [dn.cells_fl];induction a.l with
 | nil=>rfl
 | cons x l ih=>simpa [iq,SV.st] using ih
instance : b_ (dn n):=⟨n,dn.cells,λa=>by simp [dn.cells],λa=>by simp [dn.cells,jp,Value.oneCell'],dn.st⟩
theorem dn.len (a:dn n):(b_.cells a).length=n:=b_.len a
theorem dn.at (a:dn n) (e:Int) (k:0<=e/\e<(n:Int)) (d:SV):(b_.cells a).getD e.toNat d = .v (.int .i64 (a.get e)):=by
 show a.cells.getD e.toNat d=_;have hl:e.toNat<a.cells.length:=by have:=dn.len a;show _<(b_.cells a).length;omega
 rw [dA,dz hl];simp only [dn.cells,pQ,List.getElem_range];rfl
theorem dn.put (a:dn n) (e v:Int) (k:0<=e/\e<(n:Int)):(b_.cells a).set e.toNat (.v (.int .i64 v))=b_.cells (a.set e v):=by
 show a.cells.set _ _=(a.set e v).cells;rw [dn.cells_fl,dn.cells_fl];simp only [dn.set,List.map_set]
theorem gS (kk:Nm) (off len z:Nat) (e:Int) (nx:Nat) (k:0<=e/\e<(len:Int)):gO (.ok (0<=e/\e<(len:Int)) ⟨.ptr kk (off+e.toNat*z),[],nx,[]⟩) ⟨.ptr kk (off+e.toNat*z),[],nx,[]⟩:=je k rfl rfl
theorem jO (pre post:List SV) (a:dn n) (e:Int) (o:Nat) (k:0<=e/\e<(n:Int)) (ho:o=pre.length+e.toNat*1) (d:SV) (nx:Nat) (rds:List Nm) :
  gO (.ok (o<(pre++(b_.cells a++post)).length) ⟨(pre++(b_.cells a++post)).getD o d,[],nx,rds⟩) ⟨.v (.int .i64 (a.get e)),[],nx,rds⟩:=by
 have hl:=dn.len a;rw [pR] at ho;refine je (by simp only [ec,hl];omega) ?_ rfl;rw [ho,dA,jD (by omega),x6,iQ (by omega),←dA];exact dn.at a e k d
theorem Gf (cs:List SV) (o:Nat) (x:SV):fQ cs o [x]=cs.set o x:=rfl
theorem lr (pre post:List SV) (a:dn n) (e v:Int) (o:Nat) (k:0<=e/\e<(n:Int)) (ho:o=pre.length+e.toNat*1):fQ (pre++(b_.cells a++post)) o [.v (.int .i64 v)]=pre++(b_.cells (a.set e v)++post):=by
 have hl:=dn.len a;rw [pR] at ho;rw [Gf,ho,List.set_append_right _ _ (by omega),x6,List.set_append_left _ _ (by omega),dn.put a e v k]
theorem Mk (pre post:List SV) (a:dn n) (e v:Int) (o:Nat) (k:0<=e/\e<(n:Int)) (ho:o=pre.length+e.toNat*1) (kk:Nat) (nx et t:Nat) (hs:jJ P t=some 1) :
  gO (.ok (jJ P t=some 1/\true=true/\o+1<=(pre++(b_.cells a++post)).length) ⟨.any,[(Nm.t kk,.row et (fQ (pre++(b_.cells a++post)) o [.v (.int .i64 v)]))],nx,[Nm.t kk]⟩) ⟨.any,[(Nm.t kk,.row et (pre++(b_.cells (a.set e v)++post)))],nx,[Nm.t kk]⟩:=by
 have hl:=dn.len a;refine je ⟨hs,rfl,?_⟩ rfl ?_
 ·simp only [ec,hl];omega
 ·rw [lr pre post a e v o k ho]
theorem E7 {hp hp':Hp} {σ:List (Nm×Nm)} {frz:List Nm} (a:dn n) (xs ys:List SV):lQ hp hp' σ frz (b_.cells a++xs) (b_.cells a++ys)=lQ hp hp' σ frz xs ys:=by
 refine propext ?_;show lQ hp hp' σ frz (a.cells++xs) (a.cells++ys)↔_;rw [dn.cells_fl];induction a.l with
 | nil=>exact Iff.rfl
 | cons x l ih =>
  simp only [gu,iw,lQ];rw [ih];simp only [fu,true_and]
theorem IQ (τ:Nm->Nm) (a:dn n) (xs:List SV):jz τ (b_.cells a++xs)=b_.cells a++jz τ xs:=by
 show jz τ (a.cells++xs)=a.cells++_;rw [dn.cells_fl];induction a.l with
 | nil=>rfl
 | cons x l ih=>simp only [gu,iw,jz,iy,ih]
theorem E8 (a:dn n) (xs:List SV):iq (b_.cells a++xs)=iq xs:=by
 show iq (a.cells++xs)=_;rw [dn.cells_fl];induction a.l with
 | nil=>rfl
 | cons x l ih=>simpa [iq,SV.st] using ih
theorem KI (a:dn n) (xs:List SV):mN (b_.cells a++xs)=mN xs:=by
 show mN (a.cells++xs)=_;rw [dn.cells_fl];induction a.l with
 | nil=>rfl
 | cons x l ih=>simpa [mN,SV.cl] using ih
theorem yz (a:dn n) (xs:List SV):iV (b_.cells a++xs)=iV xs:=by
 show iV (a.cells++xs)=_;rw [dn.cells_fl];induction a.l with
 | nil=>rfl
 | cons x l ih=>simpa [iV,SV.nim] using ih
theorem IR (xs:List (dn n)):iV (fl xs)=true:=m3 (λa=>by have:=yz a [];simpa [iV] using this) xs
theorem KJ:b_.sz (dn n)=n:=rfl
theorem IS (a:dn n):iq (b_.cells a)=true:=b_.stc a
theorem Dl (a:dn n):mN (b_.cells a)=true:=js (b_.stc a)
theorem HM (τ:Nm->Nm) (a:dn n):jz τ (b_.cells a)=b_.cells a:=nS (Dl a)
theorem HN (a:dn n):iV (b_.cells a)=true:=by have:=yz a [];simpa [iV] using this
theorem IT {hp hp':Hp} {σ:List (Nm×Nm)} {frz:List Nm} (a:dn n):lQ hp hp' σ frz (b_.cells a) (b_.cells a)=True:=by
 have:=E7 (hp:=hp) (hp':=hp') (σ:=σ) (frz:=frz) a [] [];simp only [j5,lQ] at this;exact this
attribute [push_cast] E7 IQ E8 KI yz IR KJ IS Dl HM HN IT
def dn.c0 (a:dn n):Int:=a.l.getD 0 0
def dn.c1 (a:dn n):Int:=a.l.getD 1 0
def dn.c2 (a:dn n):Int:=a.l.getD 2 0
def dn.c3 (a:dn n):Int:=a.l.getD 3 0
def dn.c4 (a:dn n):Int:=a.l.getD 4 0
def dn.c5 (a:dn n):Int:=a.l.getD 5 0
def dn.c6 (a:dn n):Int:=a.l.getD 6 0
def dn.c8 (a:dn n):Int:=a.l.getD 8 0
def dn.c9 (a:dn n):Int:=a.l.getD 9 0
def dn.c10 (a:dn n):Int:=a.l.getD 10 0
def dn.c11 (a:dn n):Int:=a.l.getD 11 0
end
section
open Go.RowKit
variable {α β:Type} [b_ α] {P:Program} {hp hp':Hp} {nx:Nat} {σ:List (Nm×Nm)} {frz:List Nm}
def cB (F n:Nat):List SV:=(List.range n).map λ(i:Nat)=>SV.ptr (.s F ((i:Nat):Int)) 0
def cu (t:TypeId) (xs:List α):Int->cp:=λi=>bif decide (0<=i/\i<(xs.length:Int)) then .row t (b_.cells (ix xs i)) else .void
theorem jP (F n:Nat):(cB F n).length=n:=by simp [cB]
theorem dO {t:TypeId} {xs:List α} {i:Int} (k:0<=i/\i<(xs.length:Int)):cu t xs i = .row t (b_.cells (ix xs i)):=by
 unfold cu;rw [cH k];rfl
theorem ld {t:TypeId} {xs:List α} {i:Int} (k:¬ (0<=i/\i<(xs.length:Int))):cu t xs i = .void:=by
 unfold cu;rw [cK k];rfl
theorem lH (t:TypeId) (xs:List α) (i:Int):(cp.fam (cu t xs)).at i=cu t xs i:=by
 simp only [cp.at];by_cases k:0<=i/\i<(xs.length:Int)
 ·rw [dO k]
 ·rw [ld k]
theorem yA {t:TypeId} {xs:List α} {i:Int} (k:0<=i/\i<(xs.length:Int)):(cp.fam (cu t xs)).at i = .row t (b_.cells (ix xs i)):=(lH t xs i).trans (dO k)
theorem IU {t:TypeId} {xs:List α} {i:Int} (k:0<=i/\i<(xs.length:Int)) (y:α):sI (λq=>(cp.fam (cu t xs)).at q) i (.row t (b_.cells y))=cu t (xs.set i.toNat y):=by
 funext q;unfold sI;by_cases hq:q=i
 ·subst hq;have k':0<=q/\q<(((xs.set q.toNat y).length:Nat):Int):=by rw [cq];exact k
  rw [dO k'];have:ix (xs.set q.toNat y) q=y:=by unfold ix;rw [dA,List.getElem?_set_self (by omega)];rfl
  simp only [this,oI,cd]
 ·rw [show (q==i)=false from by simpa using hq,ck];show (cp.fam (cu t xs)).at q=_;rw [lH];by_cases kq:0<=q/\q<(xs.length:Int)
  ·rw [dO kq,dO (xs:=xs.set i.toNat y) (by rw [cq];exact kq)];have:ix (xs.set i.toNat y) q=ix xs q:=by unfold ix;rw [dA,dA,List.getElem?_set_ne (by omega)]
   rw [this]
  ·rw [ld kq,ld (xs:=xs.set i.toNat y) (by rw [cq];exact kq)]
theorem d6 (t:TypeId) (xs:List α) (i:Int) (k:0<=i/\i<(xs.length:Int)) (ty:TypeId) (off nx:Nat) (rds:List Nm) {e:dw} (h:gO (ky P ty (b_.cells (ix xs i)) off rds nx) e) :
  gO (oY ((cp.fam (cu t xs)).at i) λ_ cs=>ky P ty cs off rds nx) e:=by
 rw [yA k];exact h
theorem kf {x:α} {ty:TypeId} {off nx:Nat} {rds:List Nm} (ht:tS P ty=some false) (hj:off<b_.sz α) {v:SV} (hv:(b_.cells x).getD off (fd P ty)=v):gO (ky P ty (b_.cells x) off rds nx) ⟨v,[],nx,rds⟩:=by
 unfold ky;rw [ht];exact je (by rw [b_.len];exact hj) hv rfl
theorem w7 {x:α} {ty:TypeId} {off nx n:Nat} {rds:List Nm} (ht:tS P ty=some true) (hn:jJ P ty=some n) (hj:off+n<=b_.sz α) {v:List SV} (hv:((b_.cells x).drop off).take n=v):gO (ky P ty (b_.cells x) off rds nx) ⟨.agg v,[],nx,rds⟩:=by
 unfold ky;rw [ht,hn];exact je (by rw [b_.len];exact hj) (by rw [hv]) rfl
theorem gC (ty:TypeId) (xs:List α) (i:Int) (k:0<=i/\i<(xs.length:Int)) (off:Nat) (vs:List SV) (y:α) (hj:off+vs.length<=b_.sz α) (hy:fQ (b_.cells (ix xs i)) off vs=b_.cells y) (F nx t:Nat) (hs:jJ P t=some vs.length) (h1:vs.all jp=true) :
  gO (oY ((cp.fam (cu ty xs)).at i) λe cs=>.ok (jJ P t=some vs.length/\vs.all jp=true/\off+vs.length<=cs.length) ⟨.any,[(Nm.s F 0,.fam (sI (λq=>(cp.fam (cu ty xs)).at q) i (.row e (fQ cs off vs))))],nx,[Nm.s F 0]⟩) ⟨.any,[(Nm.s F 0,.fam (cu ty (xs.set i.toNat y)))],nx,[Nm.s F 0]⟩:=by
 rw [yA k];refine je ⟨hs,h1,by rw [b_.len];exact hj⟩ rfl ?_;rw [hy,IU k]
structure px (C C':Nm->cp) (Q K R:Nm):Prop where
 vd:C Q = .void
 kl:(C K).live=true
 q:C' Q=C K
 k:C' K = .dead
 oth:∀ j,j≠Q->j≠K->j≠R->C' j=C j
 kr:K≠R
 row:(∃ e cs cs',C R = .row e cs/\C' R = .row e cs'/\cs'.length=cs.length/\∀ (i:Nat) (x y:SV),cs[i]? = some x->cs'[i]? = some y->x=y\/(x = .ptr K 0/\y = .ptr Q 0)) \/
 ∃es es',C R = .map es/\C' R = .map es'/\es'.length=es.length/\∀ (i:Nat) (x y:Value×SV),es[i]? = some x->es'[i]? = some y->x.1=y.1/\(x.2=y.2\/(x.2 = .ptr K 0/\y.2 = .ptr Q 0))
section sem
variable {w0:World} {I0 W0:Nat->Prop} {C C':Nm->cp} {Q K R:Nm} {ids:dD} {w:World}
theorem px.liveR (hh:px C C' Q K R):(C R).live=true/\(C' R).live=true:=by
 rcases hh.row with ⟨e,cs,cs',h1,h2,_⟩|⟨es,es',h1,h2,_⟩<;>(rw [h1,h2];exact ⟨rfl,rfl⟩)
theorem px.old (hh:px C C' Q K R) {j:Nm} {b o:Nat} (hl:(C' j).live=true) (hi:upd ids Q (ids K) j=some (b,o)) :
 ∃k0,(C k0).live=true/\ids k0=some (b,o)/\((j≠Q/\k0=j/\j≠K)\/(j=Q/\k0=K)):=by
 by_cases hQ:j=Q
 ·subst hQ;rw [cG] at hi;exact ⟨K,hh.kl,hi,.inr ⟨rfl,rfl⟩⟩
 ·rw [dP _ _ hQ] at hi;by_cases hK:j=K
  ·subst hK;rw [hh.k] at hl;cases hl
  by_cases hR:j=R
  ·subst hR;exact ⟨j,hh.liveR.1,hi,.inl ⟨hQ,rfl,hK⟩⟩
  ·rw [hh.oth j hQ hK hR] at hl;exact ⟨j,hl,hi,.inl ⟨hQ,rfl,hK⟩⟩
theorem px.ext (h:lB P w0 I0 W0 C ids w) (hh:px C C' Q K R):kx C ids (Im w0 I0 W0 C ids w) w C' (upd ids Q (ids K)) (Im w0 I0 W0 C' (upd ids Q (ids K)) w) w:=by
 refine ⟨λb hb=>⟨⟨hb.1,hb.2.1,λk hk o hi=>?_⟩,rfl⟩,λj hj=>?_,λj hj=>?_⟩
 ·obtain ⟨k0,h1,h2,_⟩:=hh.old hk hi;exact hb.2.2 k0 h1 o h2
 ·have hQ:j≠Q:=λe=>by rw [e,hh.vd] at hj;cases hj
  have hK:j≠K:=λe=>by have:=hh.kl;rw [←e,hj] at this;cases this
  have hR:j≠R:=λe=>by have:=hh.liveR.1;rw [←e,hj] at this;cases this
  rw [hh.oth j hQ hK hR];exact hj
 ·have hQ:j≠Q:=λe=>by rw [e,hh.vd] at hj;cases hj
  by_cases hK:j=K
  ·subst hK;exact .inl hh.k
  by_cases hR:j=R
  ·subst hR;rcases hh.row with ⟨e,cs,cs',h1,h2,h3,_⟩|⟨es,es',h1,h2,_⟩
   ·exact .inr ⟨hh.liveR.2,dP _ _ hQ,by rw [h1,h2];exact ⟨rfl,Nat.le_of_eq h3⟩,λ_ _ _=>dN.refl _⟩
   ·exact .inr ⟨hh.liveR.2,dP _ _ hQ,by rw [h1,h2];exact trivial,λ_ _ _=>dN.refl _⟩
  ·have h1:=hh.oth j hQ hK hR;exact .inr ⟨by rw [h1];exact hj,dP _ _ hQ,by rw [h1];exact dY.refl hj,λ_ _ _=>dN.refl _⟩
theorem px.den {off:Nat} (h:lB P w0 I0 W0 C ids w) (hh:px C C' Q K R) {x y:SV} {v:Value} (hr:x=y\/(x = .ptr K off/\y = .ptr Q off)) (hd:dT P C ids (Im w0 I0 W0 C ids w) w x v):dT P C' (upd ids Q (ids K)) (Im w0 I0 W0 C' (upd ids Q (ids K)) w) w y v:=by
 rcases hr with rfl|⟨rfl,rfl⟩
 ·exact hd.mono (hh.ext h)
 ·obtain ⟨b,o,g1,rfl⟩:=pV hd hh.kl;exact .ptr b o (by rw [hh.q];exact hh.kl) (by rw [cG];exact g1)
theorem px.st (h:lB P w0 I0 W0 C ids w) (hh:px C C' Q K R):lB P w0 I0 W0 C' (upd ids Q (ids K)) w:=by
 have hE:=hh.ext h;refine ⟨λj=>?_,λk k' b o o' hk hk' hi hi'=>?_,λk b o hk hi=>?_,h.im0,h.evol,h.os,h.tape,h.output,h.size⟩
 ·by_cases hQ:j=Q
  ·subst hQ;rw [hh.q];exact fG.rename hE (h.ch K) (cG _ _ _)
  by_cases hK:j=K
  ·subst hK;rw [hh.k];trivial
  by_cases hR:j=R
  ·subst hR;have hc:=h.ch j;rcases hh.row with ⟨e,cs,cs',h1,h2,h3,h4⟩|⟨es,es',h1,h2,h3,h4⟩
   ·rw [h1] at hc;rw [h2];simp only [fG,dP _ _ hQ] at hc ⊢;cases hid:ids j with
    | none =>
     rw [hid] at hc;simp only at hc;subst hc;exact iT h3
    | some p =>
     obtain ⟨b,o⟩:=p;rw [hid] at hc;obtain ⟨arr,ha,hl,hxx⟩:=hc;refine ⟨arr,ha,by omega,λi y hi=>?_⟩;have hlt:=(dy.1 hi).1;have hi2:=dz (show i<cs.length by omega);exact hh.den h (h4 i _ y hi2 hi) (hxx i _ hi2)
   ·rw [h1] at hc;rw [h2];simp only [fG,dP _ _ hQ] at hc ⊢;obtain ⟨b,arr,clock,g1,g2,g3,g4,hbo⟩:=hc;refine ⟨b,arr,clock,g1,g2,by omega,λi y hi=>?_,hbo⟩;have hlt:=(dy.1 hi).1;have hi2:=dz (show i<es.length by omega);obtain ⟨a1,a2⟩:=h4 i _ y hi2 hi;obtain ⟨b1,b2⟩:=g4 i _ hi2;exact ⟨b1.trans a1,hh.den h a2 b2⟩
  ·rw [hh.oth j hQ hK hR];exact fG.rename hE (h.ch j) (dP _ _ hQ)
 ·obtain ⟨k0,a1,a2,a3⟩:=hh.old hk hi;obtain ⟨k0',b1,b2,b3⟩:=hh.old hk' hi';have:=h.inj k0 k0' b o o' a1 b1 a2 b2;subst this;rcases a3 with ⟨_,a3,a4⟩|⟨a3,a4⟩<;>rcases b3 with ⟨_,b3,b4⟩|⟨b3,b4⟩
  ·rw [←a3,←b3]
  ·rw [←a3] at a4;exact absurd b4 a4
  ·rw [←b3] at b4;exact absurd a4 b4
  ·rw [a3,b3]
 ·obtain ⟨k0,a1,a2,_⟩:=hh.old hk hi;exact h.lt k0 b o a1 a2
end sem
theorem Gg {X:Cx} {hp hp':Hp} {ids:dD} {w:World} {Q K R:Nm} (h:HeapC X hp ids w) (hh:px (bW hp) (bW hp') Q K R):HeapC X hp' (upd ids Q (ids K)) w/\fi X hp ids w hp' (upd ids Q (ids K)) w:=by
 have hE:=hh.ext h.st;refine ⟨⟨hh.st h.st,λj hj h0 hl=>?_,λj hj hv=>?_⟩,hE⟩
 ·by_cases hQ:j=Q
  ·subst hQ;exact absurd (h.nov j hj hh.vd) h0
  by_cases hK:j=K
  ·subst hK;rw [hh.k] at hl;cases hl
  have hlo:(bW hp j).live=true:=by
   by_cases hR:j=R
   ·subst hR;exact hh.liveR.1
   ·rw [←hh.oth j hQ hK hR];exact hl
  exact (h.kept j hj h0 hlo).step hE hlo hl
 ·by_cases hQ:j=Q
  ·subst hQ;have:=hh.kl;rw [←hh.q,hv] at this;cases this
  by_cases hK:j=K
  ·subst hK;rw [hh.k] at hv;cases hv
  by_cases hR:j=R
  ·subst hR;have:=hh.liveR.2;rw [hv] at this;cases this
  ·exact h.nov j hj (by rw [←hh.oth j hQ hK hR];exact hv)
theorem E9 {t:TypeId} {xs:List α} {y:α} {r k F e:Nat} (hR:bW hp (.t r) = .row e (cB F xs.length++[.ptr (.t k) 0])) (hF:il hp (.s F 0) = .fam (cu t xs)) (hk:bW hp (.t k) = .row t (b_.cells y)) (hb:(!(k==r))=true) :
  l0 P nx 0 [.t r,.s F 0,.t k] hp [(.s F 0,.fam (cu t (xs++[y]))),(.t r,.row e (cB F (xs++[y]).length)),(.t k,.dead)]:=by
 simp only [kp,beq_eq_false_iff_ne] at hb;intro X ids w hp' hP hm h hrd hf;have hRr:bW hp' (.t r) = .row e (cB F xs.length++[.ptr (.t k) 0]):=(hrd (.t r) (by simp)).trans hR;have hkk:bW hp' (.t k) = .row t (b_.cells y):=(hrd (.t k) (by simp)).trans hk;have hFi:∀ i,bW hp' (.s F i)=cu t xs i:=λi=>by
  rw [hrd (.s F i) (by simp [Nm.key]),np hF i,lH]
 have hlen:(xs++[y]).length=xs.length+1:=by simp
 have lookG:∀ i,bW ([(.s F 0,.fam (cu t (xs++[y]))),(.t r,.row e (cB F (xs++[y]).length)),(.t k,.dead)]++hp') (.s F i)=cu t (xs++[y]) i:=λi=>by
  simp only [iw,bW,Nm.eqk,oI,cd,cp.mem];exact lH t (xs++[y]) i
 have lookR:bW ([(.s F 0,.fam (cu t (xs++[y]))),(.t r,.row e (cB F (xs++[y]).length)),(.t k,.dead)]++hp') (.t r) = .row e (cB F (xs++[y]).length):=by
  simp [bW,Nm.eqk,cp.mem]
 have lookK:bW ([(.s F 0,.fam (cu t (xs++[y]))),(.t r,.row e (cB F (xs++[y]).length)),(.t k,.dead)]++hp') (.t k) = .dead:=by
  have:(r==k)=false:=by simpa using λe=>hb e.symm
  simp [bW,Nm.eqk,cp.mem,this]
 have hh:px (bW hp') (bW ([(.s F 0,.fam (cu t (xs++[y]))),(.t r,.row e (cB F (xs++[y]).length)),(.t k,.dead)]++hp')) (.s F (xs.length:Int)) (.t k) (.t r):=by
  refine ⟨?_,by rw [hkk];rfl,?_,lookK,λj hQ hK hR2=>?_,by simpa using hb,?_⟩
  ·rw [hFi,ld (by omega)]
  ·rw [lookG,hkk,dO (by rw [hlen];omega)];have:ix (xs++[y]) (xs.length:Int)=y:=by unfold ix;simp
   rw [this]
  ·by_cases hF2:∃ i,j = .s F i
   ·obtain ⟨i,rfl⟩:=hF2;rw [lookG,hFi];have hi:i≠(xs.length:Int):=λe=>hQ (by rw [e]);by_cases kk:0<=i/\i<(xs.length:Int)
    ·rw [dO kk,dO (xs:=xs++[y]) (by rw [hlen];omega)];have:ix (xs++[y]) i=ix xs i:=by unfold ix;rw [dA,dA,iQ (by omega)]
     rw [this]
    ·rw [ld kk,ld (xs:=xs++[y]) (by rw [hlen];omega)]
   ·refine i8 λhm=>?_
    simp only [gu,kZ,fc,List.not_mem_nil,or_false] at hm;rcases hm with hm|hm|hm
    ·cases j with
     | t a=>simp [Nm.key] at hm
     | s G z=>simp only [Nm.key_s,Nm.s.injEq,k8] at hm;exact hF2 ⟨z,by rw [hm]⟩
    ·exact hR2 (by rw [Nm.key_t] at hm;exact Nm.key_eq_t.1 hm)
    ·exact hK (by rw [Nm.key_t] at hm;exact Nm.key_eq_t.1 hm)
  ·refine .inl ⟨e,_,_,hRr,lookR,by rw [jP,hlen,ec,jP];rfl,λi x z hx hz=>?_⟩;have hi:i<xs.length+1:=by have:=(dy.1 hz).1;rwa [jP,hlen] at this
   have hz2:z = .ptr (.s F (i:Int)) 0:=by
    unfold cB at hz;rw [fW,List.getElem?_range (by rw [hlen];exact hi)] at hz;simpa using hz.symm
   subst hz2;by_cases hil:i<xs.length
   ·have hx2:x = .ptr (.s F (i:Int)) 0:=by
     rw [iQ (by rw [jP];exact hil)] at hx;unfold cB at hx;rw [fW,List.getElem?_range hil] at hx;simpa using hx.symm
    exact .inl hx2
   ·have he:i=xs.length:=by omega
    subst he;have hx2:x = .ptr (.t k) 0:=by
     rw [jD (by rw [jP];exact cF _),jP,Nat.sub_self] at hx;simpa using hx.symm
    exact .inr ⟨hx2,rfl⟩
 exact ⟨_,Gg h hh⟩
theorem fJ {hin:Hp} {t:TypeId} {xs:List α} {F F':Nat} (h1:il hin (.s F' 0) = .fam (cu t xs)) (h2:il hp (.s F 0) = .fam (cu t xs)) (i:Int):(bW hin (.s F' i)).live=true\/(bW hin (.s F' i) = .dead/\bW hp (.s F i) = .dead)\/(bW hin (.s F' i) = .void/\bW hp (.s F i) = .void):=by
 rw [np h1 i,np h2 i,lH];by_cases kk:0<=i/\i<(xs.length:Int)
 ·rw [dO kk];exact .inl rfl
 ·rw [ld kk];exact .inr (.inr ⟨rfl,rfl⟩)
theorem IV {t:TypeId} {y:α} {r k e:Nat} (hR:bW hp (.t r) = .row e [.ptr (.t k) 0]) (hk:bW hp (.t k) = .row t (b_.cells y))
  (hb:(Nat.blt r nx,Nat.blt k nx,!(k==r))=(true,true,true)) :
  l0 P nx 1 [.t r,.t k] hp [(.s nx 0,.fam (cu t [y])),(.t r,.row e (cB nx [y].length)),(.t k,.dead)]:=by
 simp only [iH,kG,kp,beq_eq_false_iff_ne] at hb;obtain ⟨b1,b2,b4⟩:=hb;intro X ids w hp' hP hm h hrd hf;have hRr:bW hp' (.t r) = .row e [.ptr (.t k) 0]:=(hrd (.t r) (by simp)).trans hR;have hkk:bW hp' (.t k) = .row t (b_.cells y):=(hrd (.t k) (by simp)).trans hk;have look:∀ q:Nm,q.base≠nx->q≠.t r->bW ([(.s nx 0,.fam (cu t [y])),(.t r,.row e (cB nx [y].length)),(.t k,.dead)]++hp') q=bW ([(.t k,.dead)]++hp') q:=λq hb hq=>by
  simp only [iw,pF,bW];have h1:(Nm.s nx 0).eqk q=false:=Nm.eqk_no λe=>hb (by have:=dH Nm.base e;simpa using this.symm)
  have h2:(Nm.t r).eqk q=false:=Nm.eqk_no λe=>hq (by rw [Nm.key_t] at e;exact Nm.key_eq_t.1 e.symm)
  rw [h1,h2];rfl
 have lookR:bW ([(.s nx 0,.fam (cu t [y])),(.t r,.row e (cB nx [y].length)),(.t k,.dead)]++hp') (.t r) = .row e (cB nx [y].length):=by
  simp [bW,Nm.eqk,cp.mem]
 have lookG:∀ i,bW ([(.s nx 0,.fam (cu t [y])),(.t r,.row e (cB nx [y].length)),(.t k,.dead)]++hp') (.s nx i)=cu t [y] i:=λi=>by
  simp only [iw,bW,Nm.eqk,oI,cd,cp.mem];exact lH t [y] i
 have deadK:bW ([(.t k,.dead)]++hp') (.t k) = .dead:=by simp [bW,Nm.eqk,cp.mem]
 have hh:s5 (bW hp') (bW ([(.s nx 0,.fam (cu t [y])),(.t r,.row e (cB nx [y].length)),(.t k,.dead)]++hp')) nx (λi=>if i=0 then some (.t k) else none) (.t r):=by
  refine ⟨λq hq=>hf q (by omega) (by omega),λi q hi=>?_,λi hi=>?_,?_,λi q hi=>?_,λq hb hqR=>?_,by simp;omega,?_,λi i' q h1 h2=>?_⟩
  ·split at hi
   ·rename_i h0;cases hi;subst h0;rw [lookG,hkk,dO (xs:=[y]) (by simp)];rfl
   ·cases hi
  ·split at hi
   ·cases hi
   ·rename_i h0;rw [lookG];right;rw [ld (xs:=[y]) (by simp;omega)];rfl
  ·have h1:bW ([(.s nx 0,.fam (cu t [y])),(.t r,.row e (cB nx [y].length)),(.t k,.dead)]++hp') (.t nx)=bW hp' (.t nx):=by
    refine i8 λhm=>?_
    simp [Nm.key] at hm;omega
   rw [h1,hf (.t nx) (cF _) (by simp)];rfl
  ·split at hi
   ·cases hi;rw [look _ (by simp;omega) (by simpa using b4)];exact deadK
   ·cases hi
  ·rw [look q hb hqR];by_cases h2:q = .t k
   ·right;subst h2;exact deadK
   ·left;refine i8 λhm=>?_
    simp only [gu,kZ,fc,List.not_mem_nil,or_false] at hm;exact h2 (by rw [Nm.key_t] at hm;exact Nm.key_eq_t.1 hm)
  ·refine ⟨e,_,_,hRr,lookR,by rw [jP];rfl,λi x z hx hz=>?_⟩;have hi:i<1:=(dy.1 hx).1;have he:i=0:=by omega
   subst he;have hx2:x = .ptr (.t k) 0:=by simpa using hx.symm
   have hz2:z = .ptr (.s nx 0) 0:=by simpa [cB] using hz.symm
   subst hx2;subst hz2;exact .ptr (i:=0) (by simp) (by rw [hkk];rfl)
  ·split at h1
   ·split at h2
    ·omega
    ·cases h2
   ·cases h1
 exact ⟨_,Hw h hm hh⟩
omit [b_ α] in
theorem E_ (F:Nat) (xs:List α) (y:α) (k B:Nat) (s0:Prop) (h0:s0) (e:TypeId) (hB:P.bytesOf e=B) (hpos:0<B) (hle:(xs++[y]).length*B<=140737488355328) (kk nx:Nat) (rds:List Nm) :
  gO (.ok (s0/\e=e/\([SV.ptr (.t k) 0]:List SV).length=1*1/\([SV.ptr (.t k) 0]:List SV).all jp=true/\0+xs.length*1<=(cB F xs.length).length/\0<P.bytesOf e/\(xs.length+1)*P.bytesOf e<=140737488355328) ⟨.own nx 0 (xs.length+1),[(Nm.t nx,.row e (da (cB F xs.length) 0 (xs.length*1)++[.ptr (.t k) 0])),(Nm.t kk,.dead)],nx+1,Nm.t kk::rds⟩) ⟨.own nx 0 (xs++[y]).length,[(Nm.t nx,.row e (cB F xs.length++[.ptr (.t k) 0])),(Nm.t kk,.dead)],nx+1,Nm.t kk::rds⟩:=by
 subst hB;rw [ec,List.length_singleton] at hle ⊢;refine je ⟨h0,rfl,rfl,rfl,by rw [jP,dm,pR];exact cF _,hpos,hle⟩ rfl ?_;rw [da,rr,pR,kH (by rw [jP];exact cF _)]
theorem s6 (F n:Nat) (i:Int) (off:Nat) (k:0<=i/\i<(n:Int)) (ho:off=i.toNat*1) (d:SV) (nx:Nat) (rds:List Nm) :
  gO (.ok (off<(cB F n).length) ⟨(cB F n).getD off d,[],nx,rds⟩) ⟨.ptr (.s F i) 0,[],nx,rds⟩:=by
 rw [pR] at ho;subst ho;refine je (by rw [jP];omega) ?_ rfl;unfold cB;rw [dA,fW,List.getElem?_range (by omega)];simp only [fk,gV];rw [show (i.toNat:Int)=i from by omega]
theorem HO {t:TypeId} {xs:List α} {i:Int} (k:0<=i/\i<(xs.length:Int)):((cp.fam (cu t xs)).at i).live=true:=by rw [yA k];rfl
def s7 (c:cp) (m:Nat):Prop:=∀ i:Nat,i<m->(c.at ((i:Nat):Int)).live=true
theorem d3 (t:TypeId) (xs:List α) (m:Nat):s7 (.fam (cu t xs)) m=(m<=xs.length):=by
 refine propext ⟨λh=>?_,λh i hi=>HO (by omega)⟩;by_cases hm:m<=xs.length
 ·exact hm
 ·have:=h xs.length (by omega);rw [lH,ld (by omega)] at this;cases this
theorem ed (t:TypeId) (xs:List α):s7 (.fam (cu t xs)) xs.length=True:=eq_true (by rw [d3];exact cF _)
theorem eJ (t:TypeId) (x:α):s7 (.fam (cu t [x])) 1=True:=eq_true (by rw [d3];exact cF _)
theorem eK (t:TypeId) (xs:List α) (x:α):s7 (.fam (cu t (xs++[x]))) (xs.length+1)=True:=eq_true (by rw [d3];simp)
theorem eL (t:TypeId) (xs:List α) (i:Nat) (x:α):s7 (.fam (cu t (xs.set i x))) xs.length=True:=eq_true (by rw [d3];simp)
theorem fw {F F':Nat} {n m:Nat} (h:n=m/\di σ (.s F' 0)=some (.s F 0)/\s7 (il hp' (.s F' 0)) m):lQ hp hp' σ frz (cB F n) (cB F' m)=True:=by
 obtain ⟨rfl,h1,h2⟩:=h;refine eq_true (C9 ?_);have gen:∀ l:List Nat,(∀ i∈l,i<n)->Pw (fu hp hp' σ frz) (l.map λ(i:Nat)=>SV.ptr (.s F ((i:Nat):Int)) 0) (l.map λ(i:Nat)=>SV.ptr (.s F' ((i:Nat):Int)) 0):=by
  intro l;induction l with
  | nil=>intro _;trivial
  | cons a l ih =>
   intro hl;refine ⟨?_,ih λi hi=>hl i (by simp [hi])⟩;have ha:=hl a (by simp);simp only [fu];refine ⟨Da h1 _,trivial,?_⟩;have h3:=h2 a ha;cases hg:il hp' (.s F' 0) with
   | fam g=>rw [np hg];rw [hg] at h3;exact h3
   | _=>rw [hg] at h3;cases h3
 exact gen _ λi hi=>by simpa using hi
theorem HP {t:TypeId} {xs:List α} {F':Nat} {i:Int} (h:BR hp σ F' (cu t xs)):nX hp hp' σ frz (.s F' i) (cu t xs i)=True:=by
 refine eq_true ?_;unfold BR at h;cases hn:di σ (.s F' 0) with
 | none=>rw [hn] at h;exact h.elim
 | some k =>
  rw [hn] at h;simp only at h;have hs:di σ (.s F' i)=some (.s k.base i):=by rw [jq σ F' i,hn];rfl
  have hg:=np h i;rw [lH] at hg;by_cases kk:0<=i/\i<(xs.length:Int)
  ·rw [dO kk] at hg ⊢;simp only [nX,hs,hg];exact ⟨trivial,.inl ⟨b_.stc _,trivial⟩⟩
  ·rw [ld kk] at hg ⊢;simp only [nX,hs,hg]
theorem eM (τ:Nm->Nm) (t:TypeId) (xs:List α) (i:Int):ik τ (cu t xs i)=cu t xs i:=by
 by_cases kk:0<=i/\i<(xs.length:Int)
 ·rw [dO kk];simp only [ik];rw [nS (js (b_.stc _))]
 ·rw [ld kk];rfl
theorem eN (F n:Nat):jz (f9 (di σ) nx) (cB F n)=cB (f9 (di σ) nx (.s F 0)).base n:=by
 unfold cB;rw [lc,oh];refine pJ λi _=>?_
 simp only [Function.comp,iy];rw [uQ (jq σ)]
theorem Ml (t:TypeId) (xs:List α) (G:Nat) (z:Int) (r:Hp) (F:Nat):rS ((.s G z,.fam (cu t xs))::r) F=bif G==F then cu t xs else rS r F:=by
 funext q;simp only [rS,bW,Nm.eqk];cases G==F with
 | true=>simp only [cd,cp.mem];exact lH t xs q
 | false=>rfl
theorem cS.frzA {f:FuncId} {args:List SV} {hin H:Hp} {m nn:Nat} {X:SV} (m8:cS P f args hin m (λx h n=>x=X/\h=H/\n=nn)) (G:List Nm) (sig:List (Nm×Nm)) (X2:SV) (H2:Hp) (n2:Nat)
  (h1:fu H H2 sig G X X2) (h2:pd H H2 sig G H2) (h3:(oW m sig G,p5 m n2 sig H2,Nat.ble m n2)=(true,true,true)) :
  cS P f args hin m (λx h n=>x=X2/\h=H2/\n=n2):=by
 simp only [iH] at h3;obtain ⟨k1,k2,k3⟩:=h3;refine ⟨m8.1,λY vals hP hm hF hsz hd=>(m8.2 Y vals hP hm hF hsz hd).mono ?_⟩;rintro ex w' ⟨r,res,hp',nx',ids',rfl,⟨rfl,rfl,rfl⟩,hF',hden⟩;subst hP;have hsub:vr Y.P (bW hp') (bW H2) (di sig) (my G):=ui h2 k1;obtain ⟨ids2,hF2,hd2⟩:=weaken (nx':=n2) hF'.toHeapC hsub (rE k2) (λk hk hl=>by
  rw [hm] at hk;refine u4 (λp hp=>?_) k2 k hk (.inl hl);simp only [oW,cT,dQ] at k1;have:=(k1.2 p hp).2;simpa using this) (λk hk hl=>by
  rw [hm] at hk;refine u4 (λp hp=>?_) k2 k hk (.inr hl);simp only [oW,cT,dQ] at k1;have:=(k1.2 p hp).2;simpa using this) (by rw [hm];exact cV k3)
 exact ⟨r,X2,H2,n2,ids2,rfl,⟨rfl,rfl,rfl⟩,hF2,hd2 _ _ _ (mB h1) hden⟩
theorem eO {t:TypeId} {xs:List α} {F':Nat} {z:Int} (h:BR hp σ F' (cu t xs)):zA hp hp' σ frz (.s F' z) (.fam (cu t xs))=True:=by
 refine eq_true λi=>?_
 rw [lH];exact of_eq_true (HP h)
theorem KL (F':Nat) (t:TypeId) (xs:List α):BR hp σ F' (cu t xs)=match di σ (.s F' 0) with
 | some k=>il hp (.s k.base 0) = .fam (cu t xs)
 | none=>False:=propext Iff.rfl
theorem IW (k:Nm) (c:cp) (r:Hp):pd hp hp' σ frz ((k,c)::r)=(zA hp hp' σ frz k c/\pd hp hp' σ frz r):=propext Iff.rfl
def NU (σ:List (Nm×Nm)) (F:Nat):Prop:=di σ (.s F 0)=none
theorem fS (σ:List (Nm×Nm)) (F:Nat):NU σ F=(di σ (.s F 0)=none):=propext Iff.rfl
theorem ee {t:TypeId} {F':Nat} {z:Int} (h:NU σ F'):zA hp hp' σ frz (.s F' z) (.fam (cu t ([]:List α)))=True:=by
 refine eq_true λi=>?_
 have h:di σ (.s F' 0)=none:=h;rw [lH,ld (by simp<;>omega)];have:di σ (.s F' i)=none:=by rw [jq σ F' i,h];rfl
 simp only [nX,this]
theorem g7 (F:Nat):cB F 0=[]:=rfl
attribute [push_cast high] eO ee IW
attribute [push_cast] fS ed eJ eK eL g7 eM eN Ml lH KL
end
end Go.Sx
end
