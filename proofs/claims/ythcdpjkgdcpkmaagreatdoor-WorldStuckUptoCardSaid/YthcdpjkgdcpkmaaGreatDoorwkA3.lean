/-
 Lemmas, put together: TxZ, TyA, TyB, IH, HA, HX, HB, HY, HC, HD, HE, HF, HH, HI, HJ, HK, HG, HL, HM, HN, HO, HP, HS, HZ, HV, HW, HU.
 No conditions.
-/
import Derived.Test.YthcdpjkgdcpkmaaGreatDoorwkA2
import Derived.DataReads
import Derived.ChangeArms
import GoSem.ClaimChange
import Derived.Below
import Derived.ChangeSame
import Derived.WideKeyArgs
import Derived.WideShapes
import Derived.RowKit
import Derived.OpenShut
import Derived.Lib.LaidU8
import Derived.Deep.AppendSrc
import Derived.Lib.Overlaps
import Derived.Lib.AppendZerosOnto
import Derived.Laws.IdiomCopy
import Derived.Shelf.Spec.SlicesInsert
import Derived.Lib.Builder
import Derived.Lib.UnsafeStr
set_option linter.unusedSimpArgs false
set_option linter.unusedVariables false
set_option linter.unusedSectionVars false
section
namespace Go.Sx
section
open Go.RowKit
variable {P:Program}
def Nm.to (j k:Nm):Nm:=match k with
 | .t _=>j
 | .s _ i=>.s j.base i
def di:List (Nm×Nm)->Nm->Option Nm
 | [],_=>none
 | p::r,k=>bif p.1.eqk k then some (p.2.to k) else di r k
theorem Hy (a b:Nm) (r:List (Nm×Nm)) (k:Nm):di ((a,b)::r) k=bif a.eqk k then some (b.to k) else di r k:=rfl
theorem IJ (k:Nm):di [] k=none:=rfl
theorem jm (σ:List (Nm×Nm)):rj (di σ):=λF i=>by
 induction σ with
 | nil=>rfl
 | cons p r ih =>
  simp only [di]
  have e:p.1.eqk (.s F i)=p.1.eqk (.s F 0):=by cases p.1<;>rfl
  rw [e]
  cases p.1.eqk (.s F 0) with
  | true=>rfl
  | false=>exact ih
mutual
def SV.st:SV->Bool
 | .v _=>true
 | .agg xs=>iu xs
 | .tup xs=>iu xs
 | .sl _ xs=>iu xs
 | .iptr xs _=>iu xs
 | .clo _ xs=>iu xs
 | .ifc _ x=>x.st
 | .mth _ x=>x.st
 | .asl _ _ _=>false
 | .bp _ _ _=>false
 | .any=>false
 | .gd _ _=>false
 | .own _ _ _=>false
 | .ptr _ _=>false
 | .mp _=>false
 | .it _=>false
def iu:List SV->Bool
 | []=>true
 | x::xs=>x.st&&iu xs
end
mutual
theorem BT:∀ {s:SV},s.st=true->s.cl=true
 | .v _,_=>rfl
 | .agg xs,h=>jp (xs:=xs) h
 | .tup xs,h=>jp (xs:=xs) h
 | .sl _ xs,h=>jp (xs:=xs) h
 | .iptr xs _,h=>jp (xs:=xs) h
 | .clo _ xs,h=>jp (xs:=xs) h
 | .ifc _ x,h=>BT (s:=x) h
 | .mth _ x,h=>BT (s:=x) h
theorem jp:∀ {xs:List SV},iu xs=true->mO xs=true
 | [],_=>rfl
 | x::xs,h=>by
  simp only [iu,cT] at h
  simp only [mO,cT]
  exact ⟨BT h.1,jp h.2⟩
end
mutual
def fv (hp hp':Hp) (σ:List (Nm×Nm)) (frz:List Nm):SV->SV->Prop
 | s,s'=>match s' with
  | .any=>True
  | .own k' o' n'=>match s with
   | .own k o n=>di σ k'=some k/\o=o'/\n=n'/\(bX hp' k').live=true
   | .v x=>x = .slice none 0 0/\o'=0/\n'=0/\(bX hp' k').live=true/\di σ k'=none
   | _=>False
  | .ptr k' o'=>match s with
   | .ptr k o=>di σ k'=some k/\o=o'/\(bX hp' k').live=true
   | _=>False
  | .mp k'=>match s with
   | .mp k=>di σ k'=some k/\(bX hp' k').live=true
   | _=>False
  | .it k'=>match s with
   | .it k=>di σ k'=some k/\(bX hp' k').live=true
   | _=>False
  | .agg ys=>match s with
   | .agg xs=>(iu ys=true/\xs=ys)\/lR hp hp' σ frz xs ys
   | _=>False
  | .tup ys=>match s with
   | .tup xs=>lR hp hp' σ frz xs ys
   | _=>False
  | .clo f' ys=>match s with
   | .clo f xs=>f=f'/\lR hp hp' σ frz xs ys
   | _=>False
  | .asl _ _ _=>False
  | .bp k' e' n'=>match s with
   | .bp k e n=>di σ k'=some k/\e=e'/\n=n'/\(bX hp' k').live=true
   | _=>False
  | .mth t' y=>match s with
   | .mth t x=>t=t'/\fv hp hp' σ frz x y
   | _=>False
  | .ifc t' y=>match s with
   | .ifc t x=>t=t'/\fv hp hp' σ frz x y
   | _=>False
  | .sl n' cs'=>match s with
   | .own k o n=>n=n'/\mz frz k/\∃ e cs q,bX hp k = .row e cs/\(n=0->q=0)/\((mO cs=true/\cs'=da cs o q)\/∃ cs2:List SV,cs2.length<=cs.length/\(∀ (P:Program) (i:Nat) (x y:SV),cs[i]? = some x->cs2[i]? = some y->jL P (bX hp) (bX hp') (di σ) (mz frz) x y)/\cs'=da cs2 o q)
   | .v x=>x = .slice none 0 0/\n'=0/\cs'=[]
   | .sl n cs=>n=n'/\cs=cs'/\mO cs=true
   | _=>False
  | .iptr cs' o'=>match s with
   | .ptr k o=>o=o'/\mz frz k/\∃ e cs,bX hp k = .row e cs/\cs'.length<=cs.length/\∀ (P:Program) (i:Nat) (x y:SV),cs[i]? = some x->cs'[i]? = some y->jL P (bX hp) (bX hp') (di σ) (mz frz) x y
   | .iptr cs o=>cs=cs'/\o=o'/\mO cs=true
   | _=>False
  | .v y=>s = .v y
  | .gd g y=>s = .gd g y/\y.cl=true
def lR (hp hp':Hp) (σ:List (Nm×Nm)) (frz:List Nm):List SV->List SV->Prop
 | xs,ys=>match ys with
  | []=>xs=[]
  | y::ys=>match xs with
   | x::xs=>fv hp hp' σ frz x y/\lR hp hp' σ frz xs ys
   | []=>False
end
theorem sJ {hp hp':Hp} {σ:List (Nm×Nm)} {frz:List Nm}:∀ {ys xs:List SV},lR hp hp' σ frz xs ys->xs.length=ys.length/\∀ (i:Nat) (x y:SV),xs[i]? = some x->ys[i]? = some y->fv hp hp' σ frz x y
 | [],xs,h=>by simp only [lR] at h;subst h;exact ⟨rfl,λi x y hx=>by simp at hx⟩
 | y::ys,[],h=>by simp [lR] at h
 | y::ys,x::xs,h=>by
  simp only [lR] at h
  obtain ⟨h1,h2⟩:=sJ h.2
  refine ⟨by simp [h1],λi a b ha hb=>?_⟩
  cases i with
  | zero=>simp at ha hb;subst ha;subst hb;exact h.1
  | succ i=>exact h2 i a b (by simpa using ha) (by simpa using hb)
theorem mC {hp hp':Hp} {σ:List (Nm×Nm)} {frz:List Nm}:∀ {s' s:SV},fv hp hp' σ frz s s'->jL P (bX hp) (bX hp') (di σ) (mz frz) s s':=by
 have lst:∀ (n:Nat) {s' s:SV},SizeOf.sizeOf s'<n->fv hp hp' σ frz s s'->jL P (bX hp) (bX hp') (di σ) (mz frz) s s':=by
  intro n;induction n with
  | zero=>intro s' s h;omega
  | succ n ih =>
   intro s' s hsz h;have sub:∀ {ys xs:List SV},SizeOf.sizeOf ys<n->lR hp hp' σ frz xs ys->xs.length=ys.length/\∀ (i:Nat) (x y:SV),xs[i]? = some x->ys[i]? = some y->jL P (bX hp) (bX hp') (di σ) (mz frz) x y:=by
    intro ys xs hys hl;obtain ⟨h1,h2⟩:=sJ hl;refine ⟨h1,λi x y hx hy=>ih ?_ (h2 i x y hx hy)⟩;have:=List.sizeOf_lt_of_mem (pO hy);omega
   unfold fv at h;cases s' with
   | any=>exact .any
   | v y=>simp only at h;subst h;exact .cl rfl
   | gd g y=>simp only at h;obtain ⟨rfl,h2⟩:=h;exact .cl h2
   | own k' o' n' =>
    cases s<;>simp only at h<;>try exact h.elim
    ·obtain ⟨rfl,rfl,rfl,h,hs⟩:=h;exact .absent h hs
    ·obtain ⟨h1,rfl,rfl,h2⟩:=h;exact .own h1 h2
   | ptr k' o' =>
    cases s<;>simp only at h<;>try exact h.elim
    obtain ⟨h1,rfl,h2⟩:=h;exact .ptr h1 h2
   | mp k' =>
    cases s<;>simp only at h<;>try exact h.elim
    exact .mp h.1 h.2
   | it k' =>
    cases s<;>simp only at h<;>try exact h.elim
    exact .it h.1 h.2
   | agg ys =>
    cases s<;>simp only at h<;>try exact h.elim
    rename_i xs;rcases h with ⟨hst,h⟩|h
    ·subst h;exact .cl (jp (xs:=xs) hst)
    ·obtain ⟨h1,h2⟩:=sub (by simp at hsz;omega) h;exact .agg h1 h2
   | tup ys =>
    cases s<;>simp only at h<;>try exact h.elim
    obtain ⟨h1,h2⟩:=sub (by simp at hsz;omega) h;exact .tup h1 h2
   | clo f ys =>
    cases s<;>simp only at h<;>try exact h.elim
    obtain ⟨rfl,h⟩:=h;obtain ⟨h1,h2⟩:=sub (by simp at hsz;omega) h;exact .clo h1 h2
   | asl k o n=>simp only at h
   | bp k' e' n' =>
    cases s<;>simp only at h<;>try exact h.elim
    obtain ⟨h1,rfl,rfl,h2⟩:=h;exact .bp h1 h2
   | mth t y =>
    cases s<;>simp only at h<;>try exact h.elim
    obtain ⟨rfl,h⟩:=h;exact .mth (ih (by simp at hsz;omega) h)
   | ifc t y =>
    cases s<;>simp only at h<;>try exact h.elim
    obtain ⟨rfl,h⟩:=h;exact .ifc (ih (by simp at hsz;omega) h)
   | sl n' cs' =>
    cases s<;>simp only at h<;>try exact h.elim
    ·obtain ⟨rfl,rfl,rfl⟩:=h;exact .nilsl
    ·obtain ⟨rfl,rfl,h⟩:=h;exact .cl h
    ·obtain ⟨rfl,h1,e,cs,q,h2,h4,h3⟩:=h;rcases h3 with ⟨h3,rfl⟩|⟨cs2,h5,h3,rfl⟩
     ·exact .frz h2 h1 (cF _) (λi x y hx hy=>by rw [hx] at hy;cases hy;exact .cl (lG h3 i x hx)) q h4
     ·exact .frz h2 h1 h5 (h3 P) q h4
   | iptr cs' o' =>
    cases s<;>simp only at h<;>try exact h.elim
    ·obtain ⟨rfl,h1,e,cs,h2,h3,h4⟩:=h;exact .fptr h2 h1 h3 (h4 P)
    ·obtain ⟨rfl,rfl,h⟩:=h;exact .cl h
 exact λ{s' s} h=>lst (SizeOf.sizeOf s'+1) (by omega) h
def CL (hp hp':Hp) (σ:List (Nm×Nm)) (frz:List Nm) (fr:Fr):Fr->Prop
 | []=>True
 | p::r=>fv hp hp' σ frz (cL fr p.1) p.2/\CL hp hp' σ frz fr r
theorem Bi {hp hp':Hp} {σ:List (Nm×Nm)} {frz:List Nm} {fr:Fr}:∀ {fr':Fr},CL hp hp' σ frz fr fr'->∀ d,jL P (bX hp) (bX hp') (di σ) (mz frz) (cL fr d) (cL fr' d)
 | [],_,d=>.any
 | p::r,h,d=>by
  simp only [cL]
  by_cases hd:p.1=d
  ·subst hd;simp only [oO,cd];exact mC h.1
  ·rw [show (p.1==d)=false from by simpa using hd,cj];exact Bi h.2 d
def Bj (hp hp':Hp) (σ:List (Nm×Nm)) (frz:List Nm):List (Value×SV)->List (Value×SV)->Prop
 | [],[]=>True
 | a::r,b::s=>a.1=b.1/\fv hp hp' σ frz a.2 b.2/\Bj hp hp' σ frz r s
 | _,_=>False
theorem EU {hp hp':Hp} {σ:List (Nm×Nm)} {frz:List Nm}:∀ {ys xs:List (Value×SV)},Bj hp hp' σ frz xs ys->xs.length=ys.length/\∀ (i:Nat) (x y:Value×SV),xs[i]? = some x->ys[i]? = some y->x.1=y.1/\fv hp hp' σ frz x.2 y.2
 | [],[],h=>⟨rfl,λi x y hx=>by simp at hx⟩
 | [],_::_,h=>h.elim
 | y::ys,[],h=>h.elim
 | y::ys,x::xs,h=>by
  obtain ⟨h1,h2⟩:=EU h.2.2
  refine ⟨by simp [h1],λi a b ha hb=>?_⟩
  cases i with
  | zero=>simp at ha hb;subst ha;subst hb;exact ⟨h.1,h.2.1⟩
  | succ i=>exact h2 i a b (by simpa using ha) (by simpa using hb)
def sY:List (Value×SV)->Bool
 | []=>true
 | p::r=>p.2.st&&sY r
theorem EV:∀ {es:List (Value×SV)},sY es=true->∀ (i:Nat) (x:Value×SV),es[i]? = some x->x.2.st=true
 | [],_,i,x,h=>by simp at h
 | y::ys,hc,i,x,h=>by
  simp only [sY,cT] at hc
  cases i with
  | zero=>simp at h;subst h;exact hc.1
  | succ i=>exact EV hc.2 i x (by simpa using h)
def n8 (hp hp':Hp) (σ:List (Nm×Nm)) (frz:List Nm) (k':Nm):cp->Prop
 | .unborn=>True
 | .dead=>True
 | .void=>match di σ k' with
  | none=>True
  | some k=>bX hp k = .void
 | .row e cs'=>match di σ k' with
  | none=>cs'=[]
  | some k=>match bX hp k with
   | .row e2 cs=>e2=e/\((iu cs'=true/\cs=cs')\/lR hp hp' σ frz cs cs'\/(iu cs'=true/\cs' <+: cs))
   | _=>False
 | .map es'=>match di σ k' with
  | none=>False
  | some k=>match bX hp k with
   | .map es=>bif sY es' then es=es' else Bj hp hp' σ frz es es'
   | _=>False
 | .obj s pos=>match di σ k' with
  | none=>False
  | some k=>bX hp k = .obj s pos
 | .fam _=>True
def zH (hp hp':Hp) (σ:List (Nm×Nm)) (frz:List Nm) (k':Nm) (c:cp):Prop:=match k' with
 | .t k=>n8 hp hp' σ frz (.t k) c
 | .s F _=>∀ i:Int,n8 hp hp' σ frz (.s F i) (c.at i)
def pm (hp hp':Hp) (σ:List (Nm×Nm)) (frz:List Nm):Hp->Prop
 | []=>True
 | p::r=>zH hp hp' σ frz p.1 p.2/\pm hp hp' σ frz r
theorem zI {hp hp':Hp} {σ:List (Nm×Nm)} {frz:List Nm} {k':Nm} {c:cp} (h:n8 hp hp' σ frz k' c):sT P (bX hp) (bX hp') (di σ) (mz frz) k' c:=by
 cases c with
 | unborn=>trivial
 | dead=>trivial
 | void =>
  simp only [n8] at h;intro k hk;rw [hk] at h;exact h
 | row e cs' =>
  simp only [n8] at h;simp only [sT];cases hn:di σ k' with
  | none=>rw [hn] at h;exact .inl ⟨rfl,h⟩
  | some k =>
   rw [hn] at h;simp only at h;cases hk:bX hp k with
   | row e2 cs =>
    rw [hk] at h;simp only at h;obtain ⟨rfl,h⟩:=h;rcases h with ⟨hst,h⟩|h|⟨hst,t,h⟩
    ·subst h;exact .inr ⟨k,cs,rfl,hk,cF _,λi x y hx hy=>by rw [hx] at hy;cases hy;exact .cl (lG (jp hst) i x hx)⟩
    ·obtain ⟨h1,h2⟩:=sJ h;exact .inr ⟨k,cs,rfl,hk,Nat.le_of_eq h1.symm,λi x y hx hy=>mC (h2 i x y hx hy)⟩
    ·subst h;refine .inr ⟨k,cs'++t,rfl,hk,by simp,λi x y hx hy=>?_⟩;rw [iR (dy.1 hy).1,hy] at hx;cases hx;exact .cl (lG (jp hst) i x hy)
   | _=>rw [hk] at h;exact h.elim
 | map es' =>
  simp only [n8] at h;simp only [sT];cases hn:di σ k' with
  | none=>rw [hn] at h;exact h.elim
  | some k =>
   rw [hn] at h;simp only at h;cases hk:bX hp k with
   | map es =>
    rw [hk] at h;simp only at h;cases hst:sY es' with
    | true =>
     rw [hst] at h;simp only [cd] at h;subst h;exact ⟨k,es,rfl,hk,rfl,λi x y hx hy=>by rw [hx] at hy;cases hy;exact ⟨rfl,.cl (BT (EV hst i x hx))⟩⟩
    | false =>
     rw [hst] at h;simp only [cj] at h;obtain ⟨h1,h2⟩:=EU h;exact ⟨k,es,rfl,hk,h1,λi x y hx hy=>⟨(h2 i x y hx hy).1,mC (h2 i x y hx hy).2⟩⟩
   | _=>rw [hk] at h;exact h.elim
 | obj s pos =>
  simp only [n8] at h;simp only [sT];cases hn:di σ k' with
  | none=>rw [hn] at h;exact h.elim
  | some k=>rw [hn] at h;exact ⟨k,rfl,h⟩
 | fam g=>trivial
theorem Hz {hp hp':Hp} {σ:List (Nm×Nm)} {frz:List Nm} {d k':Nm} {c:cp} (h:zH hp hp' σ frz d c) (hd:d.key=k'.key):sT P (bX hp) (bX hp') (di σ) (mz frz) k' (c.mem k'):=by
 cases k' with
 | t a =>
  rw [Nm.key_t,Nm.key_eq_t] at hd;subst hd;exact zI h
 | s F i =>
  cases d with
  | t a=>simp [Nm.key] at hd
  | s G z =>
   simp only [Nm.key_s,Nm.s.injEq,k_] at hd;subst hd;exact zI (h i)
def w6:List (Nm×Nm)->Bool
 | []=>true
 | p::r=>r.all (λq=>!(q.2.eqk p.2))&&w6 r
theorem sZ {σ:List (Nm×Nm)} {k j:Nm} (h:di σ k=some j):∃ p∈σ,p.1.key=k.key/\j=p.2.to k:=by
 induction σ with
 | nil=>cases h
 | cons p r ih =>
  simp only [di] at h;by_cases hp:p.1.key=k.key
  ·rw [Nm.eqk_iff.2 hp] at h;cases h;exact ⟨p,by simp,hp,rfl⟩
  ·rw [Nm.eqk_no hp] at h;obtain ⟨q,hq,h1⟩:=ih h;exact ⟨q,by simp [hq],h1⟩
def L7 (p:Nm×Nm):Bool:=match p.1,p.2 with
 | .s _ _,.t _=>false
 | _,_=>true
theorem CM {p:Nm×Nm} (h:L7 p=true) {k:Nm} (hk:p.1.key=k.key):(p.2.to k).key=p.2.key:=by
 obtain ⟨a,b⟩:=p;cases k with
 | t c=>rfl
 | s F i =>
  cases a with
  | t c=>simp [Nm.key] at hk
  | s G z=>cases b with
   | t c=>cases h
   | s H y=>rfl
theorem zJ:∀ {σ:List (Nm×Nm)},w6 σ=true->∀ p∈σ,∀ q∈σ,p.2.key=q.2.key->p=q
 | [],_,p,hp,_,_,_=>by cases hp
 | a::r,hn,p,hp,q,hq,h=>by
  simp only [w6,cT,dQ] at hn
  rcases fg.1 hp with e1|hp2<;>rcases fg.1 hq with e2|hq2
  ·rw [e1,e2]
  ·rw [e1] at h;have:=hn.1 q hq2;rw [Nm.eqk_iff.2 h.symm] at this;cases this
  ·rw [e2] at h;have:=hn.1 p hp2;rw [Nm.eqk_iff.2 h] at this;cases this
  ·exact zJ hn.2 p hp2 q hq2 h
theorem vc {σ:List (Nm×Nm)} (hn:w6 σ=true) (hs:σ.all L7=true):∀ k1 k2 j,di σ k1=some j->di σ k2=some j->k1=k2:=λk1 k2 j h1 h2=>by
 obtain ⟨p,hp,hpk,rfl⟩:=sZ h1
 obtain ⟨q,hq,hqk,hj⟩:=sZ h2
 have sp:=dQ.1 hs p hp
 have sq:=dQ.1 hs q hq
 have hkey:p.2.key=q.2.key:=by rw [←CM sp hpk,hj,CM sq hqk]
 have:=zJ hn p hp q hq hkey
 subst this
 have hk:k1.key=k2.key:=hpk.symm.trans hqk
 cases k1 with
 | t a=>cases k2 with
  | t b=>simpa [Nm.key] using hk
  | s F i=>simp [Nm.key] at hk
 | s F i=>cases k2 with
  | t b=>simp [Nm.key] at hk
  | s G z =>
   simp only [Nm.key_s,Nm.s.injEq,k_] at hk
   subst hk
   simp only [Nm.to,Nm.s.injEq,true_and] at hj
   rw [hj]
def Ny (hp':Hp) (k:Nm):Bool:=match k with
 | .t k=>(bX hp' (.t k)).live
 | .s _ _=>true
def o8 (m:Nat) (σ:List (Nm×Nm)) (frz:List Nm):Bool:=(w6 σ&&σ.all L7)&&σ.all (λp=>!frz.any (λk=>k.eqk p.2)&&(Nat.ble m p.1.base||p.1==p.2))
def Jw:cp->Bool
 | .fam _=>true
 | .void=>true
 | c=>c.live
def p8 (m nx':Nat) (σ:List (Nm×Nm)):Hp->Bool
 | []=>true
 | p::r=>Nat.blt p.1.base nx'&&(Nat.ble m p.1.base || !Jw p.2||(di σ p.1).isSome)&&p8 m nx' σ r
theorem uq {hp hp':Hp} {σ:List (Nm×Nm)} {frz:List Nm} {m:Nat} (h2:pm hp hp' σ frz hp') (h3:o8 m σ frz=true):vX P (bX hp) (bX hp') (di σ) (mz frz):=by
 simp only [o8,cT] at h3;refine ⟨λk'=>?_,λk1 k2 k _ _=>vc h3.1.1 h3.1.2 k1 k2 k,λk hk k' _ hs=>?_⟩
 ·have gen:∀ (l:Hp),pm hp hp' σ frz l->sT P (bX hp) (bX hp') (di σ) (mz frz) k' (bX l k'):=by
   intro l;induction l with
   | nil=>exact λ_=>trivial
   | cons p r ih =>
    intro hl;simp only [bX];by_cases hp:p.1.key=k'.key
    ·rw [Nm.eqk_iff.2 hp,cd];exact Hz hl.1 hp
    ·rw [Nm.eqk_no hp,cj];exact ih hl.2
  exact gen hp' h2
 ·obtain ⟨p,hp,hpk,rfl⟩:=sZ hs;have h4:=dQ.1 h3.2 p hp;simp only [cT,km,List.any_eq_false] at h4;obtain ⟨j,hj,hjk⟩:=hk;have h5:=h4.1 j hj;rw [Nm.eqk_iff.2 (hjk.trans (CM (dQ.1 h3.1.2 p hp) hpk))] at h5;exact h5 rfl
theorem rJ {m nx':Nat} {σ:List (Nm×Nm)}:∀ {l:Hp},p8 m nx' σ l=true->∀ k:Nm,nx'<=k.base->bX l k = .unborn
 | [],_,k,_=>rfl
 | p::r,h,k,hk=>by
  simp only [p8,cT] at h
  have hlt:p.1.base<nx':=by simpa [kH] using h.1.1
  simp only [bX]
  rw [Nm.eqk_no (λe=>by have:=dJ Nm.base e;simp at this;omega),cj]
  exact rJ h.2 k hk
theorem ve {m nx':Nat} {σ:List (Nm×Nm)} (hσ:∀ p∈σ,Nat.ble m p.1.base=true\/p.1=p.2):∀ {l:Hp},p8 m nx' σ l=true->∀ k:Nm,k.base<m->((bX l k).live=true\/bX l k = .void)->di σ k=some k
 | [],_,k,_,hl=>by rcases hl with hl|hl<;>cases hl
 | p::r,h,k,hk,hl=>by
  simp only [p8,cT] at h
  simp only [bX] at hl
  by_cases hp:p.1.key=k.key
  ·rw [Nm.eqk_iff.2 hp,cd] at hl
   have h2:=h.1.2
   have hlE:Jw p.2=true:=by
    cases k with
    | t a =>
     simp only [cp.mem] at hl;rcases hl with hl|hl<;>cases hp2:p.2<;>rw [hp2] at hl<;>first|rfl|cases hl
    | s F i =>
     simp only [cp.mem,cp.at] at hl;rcases hl with hl|hl<;>cases hp2:p.2<;>rw [hp2] at hl<;>first|rfl|cases hl
   have hb:p.1.base=k.base:=by rw [←Nm.key_base,hp,Nm.key_base]
   rw [hlE] at h2;have hble:Nat.ble m p.1.base=false:=by cases hb2:Nat.ble m p.1.base with
    | false=>rfl
    | true=>have:=cX hb2;omega
   rw [hble] at h2;simp only [jF,Bool.or_false,Bool.false_or,qL] at h2;obtain ⟨j,hj⟩:=h2;have hjk:∃ j2,di σ k=some j2:=by
    cases k with
    | t a=>rw [Nm.key_t,Nm.key_eq_t] at hp;rw [hp] at hj;exact ⟨j,hj⟩
    | s F i =>
     cases hp1:p.1 with
     | t a=>rw [hp1] at hp;simp [Nm.key] at hp
     | s G z =>
      rw [hp1] at hp hj;simp only [Nm.key_s,Nm.s.injEq,k_] at hp;subst hp;rw [jm σ G z] at hj;rw [jm σ G i];cases hs:di σ (.s G 0) with
      | none=>rw [hs] at hj;cases hj
      | some y=>exact ⟨_,rfl⟩
   obtain ⟨j2,hj2⟩:=hjk;obtain ⟨q,hq,hqk,he⟩:=sZ hj2;have hqb:q.1.base=k.base:=by rw [←Nm.key_base,hqk,Nm.key_base]
   rcases hσ q hq with h3|h3
   ·have:=cX h3;omega
   ·rw [hj2,he,←h3];cases k with
    | t a=>rw [Nm.key_t,Nm.key_eq_t] at hqk;simp only [Nm.to,hqk]
    | s F i=>simp only [Nm.to,hqb,Nm.base_s]
  ·rw [Nm.eqk_no hp,cj] at hl;exact ve hσ h.2 k hk hl
theorem EW {m:Nat} {fr fr':Fr} {hp hp':Hp} {nx':Nat} (σ:List (Nm×Nm)) (frz:List Nm) (h1:CL hp hp' σ frz fr fr') (h2:pm hp hp' σ frz hp') (h3:o8 m σ frz=true) (h4:p8 m nx' σ hp'=true) (h5:m<=nx'):pd P m fr hp fr' hp' nx' :=
 ⟨⟨di σ,frz,uq h2 h3,λk hk hl=>ve (λp hp=>by
  simp only [o8,cT,dQ] at h3
  have:=(h3.2 p hp).2
  simpa using this) h4 k hk hl,Bi h1⟩,rJ h4,h5⟩
theorem L8 {m:Nat} {x:SV} {hp:Hp} {Post:SV->Hp->Nat->Prop} (x':SV) (hp':Hp) (nx':Nat) (σ:List (Nm×Nm)) (frz:List Nm) (hpost:Post x' hp' nx') (h1:fv hp hp' σ frz x x') (h2:pm hp hp' σ frz hp') (h3:o8 m σ frz=true) (h4:p8 m nx' σ hp'=true) (h5:m<=nx'):wW P m Post x hp :=
 ⟨x',hp',nx',hpost,EW σ frz ⟨h1,trivial⟩ h2 h3 h4 h5⟩
theorem Kh {m N:Nat} {c:Code} {Q:g8} {fr:Fr} {hp:Hp} {nx:Nat} {S:Type} (fr0:S->Fr) (hp0:S->Hp) (nx0:S->Nat) (I:S->Prop) (μ:S->Nat) (s0:S) (hI:I s0) (h0:pd P m fr hp (fr0 s0) (hp0 s0) (nx0 s0))
  (h:∀ (s:S) (R:g8),I s->(∀ fr' hp' nx' s',I s'->μ s'<μ s->pd P m fr' hp' (fr0 s') (hp0 s') (nx0 s')->R .normal fr' hp' nx')->(∀ id,R (.exit id)=Q (.exit id))->R .ret=Q .ret->lQ P m N c R (fr0 s) (hp0 s) (nx0 s)):lQ P m N (.loop c) Q fr hp nx:=by
 refine ⟨0,S,fr0,hp0,nx0,I,μ,⟨s0,hI,h0⟩,λs hs=>?_⟩;exact h s _ hs (λfr' hp' nx' s' h1 h2 h3=>⟨s',h1,h2,h3⟩) (λ_=>rfl) rfl
mutual
theorem s5 {τ:Nm->Nm}:∀ {s:SV},s.cl=true->iA τ s=s
 | .any,_=>rfl
 | .v _,_=>rfl
 | .agg xs,h=>by rw [iA,nX (xs:=xs) h]
 | .tup xs,h=>by rw [iA,nX (xs:=xs) h]
 | .sl _ xs,h=>by rw [iA,nX (xs:=xs) h]
 | .iptr xs _,h=>by rw [iA,nX (xs:=xs) h]
 | .clo _ xs,h=>by rw [iA,nX (xs:=xs) h]
 | .ifc _ x,h=>by rw [iA,s5 (s:=x) h]
 | .mth _ x,h=>by rw [iA,s5 (s:=x) h]
 | .gd _ x,h=>by rw [iA,s5 (s:=x) h]
theorem nX {τ:Nm->Nm}:∀ {xs:List SV},mO xs=true->jx τ xs=xs
 | [],_=>rfl
 | x::xs,h=>by
  simp only [mO,cT] at h
  rw [jx,s5 h.1,nX h.2]
end
def EX (m:Nat) (hin:Hp) (σ:List (Nm×Nm)):Bool:=σ.all λp=>Nat.blt p.1.base m&&Ny hin p.1
def qk (hp hin:Hp):List (Nm×Nm)->Prop
 | []=>True
 | p::r=>(match p.1 with
  | .t _=>True
  | .s F _=>∀ i:Int,(bX hin (.s F i)).live=true\/(bX hin (.s F i) = .dead/\bX hp (.s p.2.base i) = .dead)\/(bX hin (.s F i) = .void/\bX hp (.s p.2.base i) = .void))/\qk hp hin r
theorem Bk {hp hin:Hp}:∀ {σ:List (Nm×Nm)},qk hp hin σ->∀ p∈σ,∀ F z,p.1 = .s F z->∀ i:Int,(bX hin (.s F i)).live=true\/(bX hin (.s F i) = .dead/\bX hp (.s p.2.base i) = .dead)\/(bX hin (.s F i) = .void/\bX hp (.s p.2.base i) = .void)
 | [],_,p,hp,_,_,_=>by cases hp
 | q::r,h,p,hp,F,z,e=>by
  rcases fg.1 hp with rfl|hp
  ·have:=h.1;rw [e] at this;exact this
  ·exact Bk h.2 p hp F z e
theorem Bl {m:Nat} {hp hin:Hp} {σ:List (Nm×Nm)} (h5:EX m hin σ=true) (h6:qk hp hin σ):∀ k j,di σ k=some j->k.base<m/\((bX hin k).live=true\/(bX hin k = .dead/\bX hp j = .dead)\/(bX hin k = .void/\bX hp j = .void)):=λk j hk=>by
 obtain ⟨p,hp,hpk,rfl⟩:=sZ hk
 simp only [EX,dQ,cT] at h5
 obtain ⟨h7,h8⟩:=h5 p hp
 have hb:p.1.base=k.base:=by rw [←Nm.key_base,hpk,Nm.key_base]
 refine ⟨by rw [←hb];simpa [kH] using h7,?_⟩
 cases k with
 | t a=>rw [Nm.key_t,Nm.key_eq_t] at hpk;rw [hpk] at h8;exact .inl h8
 | s F i =>
  cases hp1:p.1 with
  | t a=>rw [hp1] at hpk;simp [Nm.key] at hpk
  | s G z =>
   rw [hp1] at hpk
   simp only [Nm.key_s,Nm.s.injEq,k_] at hpk
   subst hpk
   exact Bk h6 p hp G z hp1 i
theorem CN:rj λ_=>none:=λ_ _=>rfl
theorem cZ {f:FuncId} {args:List SV} {dst:Option Tmp} {ops:Array Oper} {rest:List Oper} {fr:Fr} {hp:Hp} {nx:Nat} {K:Fr->Hp->Nat->Prop} {x:SV} (na:cS P f args [] 0 (λr h n=>r=x/\h=[]/\n=0)) (ha:mO args=true) (hx:x.cl=true)
  (h:lO P ops rest (gh dst x fr) hp nx K):Hx P f args dst ops rest fr hp nx K:=by
 refine ⟨args,[],0,_,λ_=>none,[],na,ET,CN,λk _=>⟨rfl,rfl⟩,(λ_ _ _ h=>by cases h),(λ_ _ h=>by cases h),rfl,λi y z hy hz=>?_,⟨x,[],0,rfl,rfl,rfl⟩,(λh=>by cases h),?_⟩
 ·rw [hy] at hz;cases hz;exact .cl (lG ha i y hy)
 ·rintro res hp' nx' ⟨rfl,rfl,rfl⟩;refine ⟨rfl,.inl rfl,_,sW.refl _ _ _,?_⟩;rw [s5 hx];exact h
end
section
abbrev iS (n:Int):SV:=.v (.int .i64 n)
abbrev bS (b:Bool):SV:=.v (.bool b)
end
section
end
section
theorem nY {P:Program} {f:FuncId} {args:List SV} {dst:Option Tmp} {ops:Array Oper} {rest:List Oper} {fr:Fr} {hp:Hp} {nx:Nat} {acc:List fU} {K:Fr->Hp->Nat->Prop} {x:SV} (na:cS P f args [] 0 (λr h n=>r=x/\h=[]/\n=0)) (ha:mO args=true) (hx:x.cl=true)
  (h:yx P ops rest (gh dst x fr) hp (nx+1) (acc++[⟨[],[],nx,nx⟩]) K):Jv P f args dst ops rest fr hp nx acc K:=by
 refine ⟨args,[],0,_,λ_=>none,[],na,ET,CN,λk _=>⟨rfl,rfl⟩,(λ_ _ _ h=>by cases h),(λ_ _ h=>by cases h),rfl,λi y z hy hz=>?_,⟨x,[],0,rfl,rfl,rfl⟩,(λ_=>?_),?_⟩
 ·rw [hy] at hz;cases hz;exact .cl (lG ha i y hy)
 ·rintro r1 h1 n1 r2 h2 n2 ⟨rfl,rfl,rfl⟩ ⟨rfl,rfl,rfl⟩;exact ⟨rfl,rfl,rfl⟩
 ·rintro res hp' nx' ⟨rfl,rfl,rfl⟩;refine ⟨rfl,.inl rfl,_,sW.refl _ _ _,?_⟩;rw [s5 hx];exact h
end
section
open Go.RowKit
inductive Ty where
 | int (k:IntKind)
 | bool
 | str
 | sl (e:Ty)
 | unit
 | pair (a b:Ty)
 | arr (n:Nat) (e:Ty)
abbrev Ty.den:Ty->Type
 | .int _=>Int
 | .bool=>Bool
 | .str=>ByteArray
 | .sl e=>List e.den
 | .unit=>Unit
 | .pair a b=>a.den×b.den
 | .arr _ e=>List e.den
def Ty.width:Ty->Nat
 | .unit=>0
 | .pair a b=>a.width+b.width
 | .arr n e=>n*e.width
 | _=>1
def Ty.sv:(T:Ty)->T.den->List SV
 | .int k,x=>[.v (.int k x)]
 | .bool,x=>[.v (.bool x)]
 | .str,x=>[.v (.string x)]
 | .sl e,xs=>[.sl xs.length (xs.flatMap e.sv)]
 | .unit,_=>[]
 | .pair a b,x=>a.sv x.1++b.sv x.2
 | .arr _ e,xs=>xs.flatMap e.sv
def Ty.ok:(T:Ty)->T.den->Prop
 | .int k,x=>(Lit.int k x).wf=true
 | .bool,_=>True
 | .str,x=>x.size<=maxLen
 | .sl e,xs=>xs.length<=maxLen/\∀ x∈xs,e.ok x
 | .unit,_=>True
 | .pair a b,x=>a.ok x.1/\b.ok x.2
 | .arr n e,xs=>xs.length=n/\∀ x∈xs,e.ok x
def Ty.arg:(T:Ty)->T.den->SV
 | .int k,x=>.v (.int k x)
 | .bool,x=>.v (.bool x)
 | .str,x=>.v (.string x)
 | .sl e,xs=>.sl xs.length (xs.flatMap e.sv)
 | .unit,_=>.agg []
 | .pair a b,x=>.agg (a.sv x.1++b.sv x.2)
 | .arr _ e,xs=>.agg (xs.flatMap e.sv)
theorem Ty.sv_length:∀ (T:Ty) (x:T.den),T.ok x->(T.sv x).length=T.width
 | .int _,_,_=>rfl
 | .bool,_,_=>rfl
 | .str,_,_=>rfl
 | .sl _,_,_=>rfl
 | .unit,_,_=>rfl
 | .pair a b,x,h=>by simp only [Ty.sv,dW,Ty.width,Ty.sv_length a x.1 h.1,Ty.sv_length b x.2 h.2]
 | .arr n e,xs,h=>by
  obtain ⟨hn,h⟩:=h
  have:∀ xs:List e.den,(∀ x∈xs,e.ok x)->(xs.flatMap e.sv).length=xs.length*e.width:=by
   intro xs;induction xs with
   | nil=>exact λ_=>by simp
   | cons x xs ih=>exact λhx=>by rw [pM,dW,ih λy hy=>hx y (by simp [hy]),Ty.sv_length e x (hx x (by simp)),gu];rw [gZ];omega
  simp only [Ty.sv,Ty.width];rw [this xs h,hn]
mutual
def po (P:Program):Nat->TypeId->Ty->Bool
 | 0,_,_=>false
 | F+1,t,T=>match P.underlying t,T with
  | some (.int k),.int k'=>k==k'
  | some .bool,.bool=>true
  | some .string,.str=>true
  | some (.slice e),.sl E=>P.cellsOf e==E.width && !(E.width==0)&&po P F e E
  | some (.struct fs),.pair a b=>P.cellsOf t==(Ty.pair a b).width&&qT P F fs.toList 0 (.pair a b)
  | some (.struct fs),.unit=>P.cellsOf t==0&&fs.toList.isEmpty
  | some (.array n e),.arr n' E=>n==n'&&P.cellsOf e==E.width&&P.cellsOf t==n*E.width&&po P F e E
  | _,_=>false
def qT (P:Program):Nat->List Field->Nat->Ty->Bool
 | 0,_,_,_=>false
 | F+1,fs,off,T=>match fs,T with
  | [],.unit=>true
  | f::r,.pair a b=>f.offset==off&&P.cellsOf f.type==a.width&&po P F f.type a&&qT P F r (off+a.width) b
  | _,_=>false
end
theorem uc {α:Type} {f:α->List SV} {z:Nat} (hz:0<z):∀ (xs:List α),(∀ x∈xs,(f x).length=z)->∀ i s,(xs.flatMap f)[i]? = some s->∃ x,xs[i/z]? = some x/\(f x)[i%z]? = some s
 | [],_,i,s,h=>by simp at h
 | a::xs,hl,i,s,h=>by
  rw [pM,pK] at h
  have ha:=hl a (by simp)
  rw [ha] at h
  by_cases hi:i<z
  ·rw [if_pos hi] at h
   rw [Nat.div_eq_of_lt hi,uL hi]
   exact ⟨a,rfl,h⟩
  ·rw [if_neg hi] at h
   obtain ⟨x,h1,h2⟩:=uc hz xs (λx hx=>hl x (by simp [hx])) (i-z) s h
   refine ⟨x,?_,?_⟩
   ·rw [show i/z=(i-z)/z+1 from by rw [Nat.div_eq_sub_div hz (by omega)],List.getElem?_cons_succ];exact h1
   ·rw [Nat.mod_eq_sub_mod (by omega)];exact h2
def w7 (P:Program) (C:Nm->cp) (ids:dE) (I:Nat->Prop) (w:World) (cs:List Value) (off:Nat) (l:List SV):Prop :=
∀i s,l[i]? = some s->dT P C ids I w s (cs.getD (off+i) undef)
theorem Bm {α β:Type} {Q:Nat->α->β->Prop}:∀ (ys:List α) (o:Nat),(∀ i y,ys[i]? = some y->∃ x,Q (o+i) y x)->∃ xs:List β,xs.length=ys.length/\∀ i x,xs[i]? = some x->∃ y,ys[i]? = some y/\Q (o+i) y x
 | [],_,_=>⟨[],rfl,λi x h=>by simp at h⟩
 | a::ys,o,h=>by
  obtain ⟨x,hx⟩:=h 0 a rfl
  obtain ⟨xs,h1,h2⟩:=Bm (Q:=Q) ys (o+1) λi y hy=>by
   have:=h (i+1) y (by simpa using hy)
   rwa [show o+(i+1)=o+1+i from by omega] at this
  refine ⟨x::xs,by simp [h1],λi z hz=>?_⟩
  cases i with
  | zero=>simp at hz;subst hz;exact ⟨a,rfl,hx⟩
  | succ i =>
   obtain ⟨y,g1,g2⟩:=h2 i z (by simpa using hz)
   exact ⟨y,by simpa using g1,by rw [show o+(i+1)=o+1+i from by omega];exact g2⟩
section
variable {H:Type} {enc:TypeId×Value->H} {P:Program} {w:World} {sp:Nat->Bool} {held:Bool} {C:Nm->cp} {ids:dE} {I:Nat->Prop}
def Ty.rep (H:Type):(T:Ty)->T.den->DataW H->Prop
 | .int k,x,d=>d = .lit (.int k x)
 | .bool,x,d=>d = .lit (.bool x)
 | .str,x,d=>d = .lit (.string x.data.toList)
 | .sl e,xs,d=>(xs=[]/\d = .nil)\/∃ el spn,d = .slice el spn/\el.length=xs.length/\∀ (i:Nat) (x:e.den),(xs:List e.den)[i]? = some x->∃ y,el[i]? = some y/\e.rep H x y
 | .unit,_,_=>True
 | .pair a b,x,d=>∃ p r,d = .agg (p::r)/\a.rep H x.1 p/\b.rep H x.2 (.agg r)
 | .arr _ e,xs,d=>∃ el,d = .agg el/\el.length=xs.length/\∀ (i:Nat) (x:e.den),(xs:List e.den)[i]? = some x->∃ y,el[i]? = some y/\e.rep H x y
def HA (H:Type) (enc:TypeId×Value->H) (P:Program) (w:World) (sp:Nat->Bool) (held:Bool) (C:Nm->cp) (ids:dE) (I:Nat->Prop) (T:Ty):Prop :=
∀(F fuel:Nat) (t:TypeId) (cs:List Value) (d:DataW H) (ps:List MemPlace),po P F t T=true->DataW.trod enc P w 0 sp held fuel t cs=some (d,ps) ->
 ∃x:T.den,T.ok x/\cs.length=T.width/\w7 P C ids I w cs 0 (T.sv x)/\T.rep H x d
def CO (H:Type) (enc:TypeId×Value->H) (P:Program) (w:World) (sp:Nat->Bool) (held:Bool) (C:Nm->cp) (ids:dE) (I:Nat->Prop) (T:Ty):Prop :=
∀(F fuel:Nat) (fs:List Field) (off:Nat) (cs:List Value) (xs:List (DataW H×List MemPlace)),qT P F fs off T=true->xs.length=fs.length->(∀ (i:Nat) (f:Field),fs[i]? = some f->DataW.trod enc P w 0 sp held fuel f.type ((cs.drop f.offset).take (P.cellsOf f.type))=xs[i]?) ->
 ∃x:T.den,T.ok x/\w7 P C ids I w cs off (T.sv x)/\T.rep H x (.agg (xs.map (·.1)))
theorem IK {cs:List Value} {off:Nat} {l r:List SV} {n:Nat} (h:w7 P C ids I w cs off l) (hn:l.length=n) (g:w7 P C ids I w cs (off+n) r):w7 P C ids I w cs off (l++r):=λi s hi=>by
 rw [pK] at hi
 by_cases hl:i<l.length
 ·rw [if_pos hl] at hi;exact h i s hi
 ·rw [if_neg hl] at hi
  have:=g _ s hi
  rwa [show off+n+(i-l.length)=off+i from by omega] at this
theorem s6 {v:Value} {s:SV} (h:dT P C ids I w s v):w7 P C ids I w [v] 0 [s]:=λi x hi=>by
 cases i with
 | zero=>simp at hi;subst hi;exact h
 | succ i=>simp at hi
theorem Gc {fuel:Nat} {t e:TypeId} {n:Nat} {cs:List Value} {x:DataW H×List MemPlace} (ht:P.underlying t=some (.array n e)) (h:DataW.trod enc P w 0 sp held fuel t cs=some x) :
 ∃(xs:List (DataW H×List MemPlace)) (m:Nat),x.1 = .agg (xs.map (·.1))/\cs.length=P.cellsOf t/\xs.length=n/\∀ i,i<n->DataW.trod enc P w 0 sp held m e ((cs.drop (i*P.cellsOf e)).take (P.cellsOf e))=xs[i]?:=by
 cases fuel with
 | zero=>simp [DataW.trod] at h
 | succ m =>
  unfold DataW.trod at h;rw [ht] at h;split at h<;>simp_all;obtain ⟨hl,xs,hp,hd⟩:=h;refine ⟨xs,by rw [←hd],?_,m,λi hi=>mapM_some_get hp i i (by simp [hi])⟩;simpa using mapM_some_length hp
theorem zK {e:Ty} (ih:HA H enc P w sp held C ids I e) {F m:Nat} {te:TypeId} (hB:po P F te e=true) {n:Nat} {row:Nat->List Value} {els:List (DataW H×List MemPlace)} (hl:els.length=n)
  (h:∀ i,i<n->DataW.trod enc P w 0 sp held m te (row i)=els[i]?):∃ xs:List e.den,xs.length=n/\(∀ x∈xs,e.ok x)/\(∀ (i:Nat) (x:e.den),xs[i]? = some x->(row i).length=e.width/\w7 P C ids I w (row i) 0 (e.sv x))/\∀ (i:Nat) (x:e.den),xs[i]? = some x->∃ y,(els.map (·.1))[i]? = some y/\e.rep H x y:=by
 obtain ⟨xs,h1,h2⟩:=Bm (β:=e.den) (Q:=λi (y:DataW H×List MemPlace) x=>e.ok x/\(row i).length=e.width/\w7 P C ids I w (row i) 0 (e.sv x)/\e.rep H x y.1) els 0 λi y hy=>by
  have hi:i<n:=by rw [←hl];exact (dy.1 hy).1
  rw [dm];exact ih F m te (row i) y.1 y.2 hB (by rw [h i hi,hy])
 refine ⟨xs,h1.trans hl,λx hx=>?_,λi x hx=>?_,λi x hx=>?_⟩
 ·obtain ⟨i,hi,rfl⟩:=uI hx;obtain ⟨y,_,g,_⟩:=h2 i _ (dz hi);exact g
 ·obtain ⟨y,_,_,g⟩:=h2 i x hx;rw [dm] at g;exact ⟨g.1,g.2.1⟩
 ·obtain ⟨y,g1,_,_,_,g⟩:=h2 i x hx;exact ⟨y.1,by rw [fZ,g1];rfl,g⟩
theorem IL {a:Addr} {n:Nat} {v:Value} (h:w.cell? (a.add n)=some v):a.spot=none\/0<n:=by
 unfold Addr.add at h;by_cases hn:n=0
 ·rw [if_pos hn] at h;unfold World.cell? at h;split at h
  ·split at h
   ·cases h
   ·rename_i hs;left;cases hsp:a.spot with
    | none=>rfl
    | some _=>rw [hsp] at hs;simp at hs
  ·cases h
 ·exact .inr (by omega)
theorem reads (hI:∀ b,b<w.heap.size->I b):∀ (T:Ty),HA H enc P w sp held C ids I T/\CO H enc P w sp held C ids I T:=by
 intro T
 have noF:∀ {T:Ty},(∀ a b,T≠.pair a b)->T≠.unit->CO H enc P w sp held C ids I T:=λ{T} h1 h2 F fuel fs off cs xs hB _ _=>by
  cases F with
  | zero=>simp [qT] at hB
  | succ F =>
   unfold qT at hB
   cases fs<;>cases T<;>simp at hB<;>first|exact absurd rfl h2|exact absurd rfl (h1 _ _)
 have inv:∀ {F:Nat} {t:TypeId} {T:Ty},po P F t T=true->∃ F' d0,F=F'+1/\P.underlying t=some d0:=λ{F t T} hB=>by
  cases F with
  | zero=>simp [po] at hB
  | succ F =>
   unfold po at hB
   cases hu:P.underlying t with
   | none=>rw [hu] at hB;simp at hB
   | some d0=>exact ⟨F,d0,rfl,rfl⟩
 induction T with
 | int k =>
  refine ⟨λF fuel t cs d ps hB hr=>?_,noF (by simp) (by simp)⟩
  obtain ⟨F,d0,rfl,hu⟩:=inv hB
  unfold po at hB
  rw [hu] at hB
  cases d0<;>simp at hB
  subst hB
  obtain ⟨n,rfl,h1,h2⟩:=DataW.trod_int hu hr
  cases h1
  exact ⟨n,h2,rfl,s6 .v,rfl⟩
 | bool =>
  refine ⟨λF fuel t cs d ps hB hr=>?_,noF (by simp) (by simp)⟩
  obtain ⟨F,d0,rfl,hu⟩:=inv hB
  unfold po at hB
  rw [hu] at hB
  cases d0<;>simp at hB
  obtain ⟨n,rfl,h1⟩:=DataW.trod_bool hu hr
  cases h1
  exact ⟨n,trivial,rfl,s6 .v,rfl⟩
 | str =>
  refine ⟨λF fuel t cs d ps hB hr=>?_,noF (by simp) (by simp)⟩
  obtain ⟨F,d0,rfl,hu⟩:=inv hB
  unfold po at hB
  rw [hu] at hB
  cases d0<;>simp at hB
  obtain ⟨n,rfl,h1,h2⟩:=DataW.trod_string hu hr
  cases h1
  exact ⟨n,h2,rfl,s6 .v,rfl⟩
 | sl e ih =>
  refine ⟨λF fuel t cs d ps hB hr=>?_,noF (by simp) (by simp)⟩
  obtain ⟨F,d0,rfl,hu⟩:=inv hB
  unfold po at hB
  rw [hu] at hB
  cases d0<;>simp at hB
  rename_i te
  obtain ⟨⟨hw,h0⟩,hB⟩:=hB
  rcases DataW.trod_slice hu hr with ⟨rfl,h1⟩|⟨a,len,cap,els,rest,m,_,rfl,h1,_,h2,h3,h4,h5,_⟩
  ·cases h1
   exact ⟨[],⟨hU _,λx hx=>by cases hx⟩,rfl,s6 (.sl0 (hU _)),.inl ⟨rfl,rfl⟩⟩
  ·cases h1
   rw [hw] at h5
   -- the rows
   let row:Nat->List Value:=λi=>(w.cells? 0 (a.add (i*e.width)) e.width).getD []
   have hrow:∀ i,i<len->w.cells? 0 (a.add (i*e.width)) e.width=some (row i):=λi hi=>by
    have:=h5 i hi
    rw [dz (by omega)] at this
    cases hc:w.cells? 0 (a.add (i*e.width)) e.width with
    | none=>rw [hc] at this;cases this
    | some cs=>simp [row,hc]
   obtain ⟨xs,g1,g2,g3,g4⟩:=zK ih.1 hB (row:=row) h4 λi hi=>by rw [←h5 i hi,hrow i hi];rfl
   refine ⟨xs,⟨by rw [g1];omega,g2⟩,rfl,?_,.inr ⟨_,_,rfl,by rw [ep,h4,g1],g4⟩⟩
   refine s6 ?_
   rw [g1]
   by_cases hlen:len=0
   ·subst hlen
    have:xs=[]:=iV g1
    subst this
    exact .sl0 h3
   ·-- the first row's first cell
    obtain ⟨_,c1,c2⟩:=World.cells?_some (hrow 0 (by omega))
    have hc0:=c2 0 (by omega)
    rw [dz (by omega)] at hc0
    have hspot:a.spot=none:=by
     rw [lK] at hc0
     have e0:∀ a:Addr,a.add 0=a:=λa=>by simp [Addr.add]
     rw [e0] at hc0
     rcases IL hc0 with h|h
     ·exact h
     ·omega
    have hblk:a.block<w.heap.size:=by
     have:=World.cells?_block (hrow 0 (by omega)) (by omega)
     simpa [Addr.add] using this
    obtain ⟨ab,ao,asp⟩:=a
    simp only at hspot hblk
    subst hspot
    have hcell:∀ i s,(xs.flatMap e.sv)[i]? = some s->∃ c,w.cell? ⟨ab,ao+i,none⟩=some c/\dT P C ids I w s c:=λi s hi=>by
     obtain ⟨x,q1,q2⟩:=uc (sM h0) xs (λx hx=>Ty.sv_length e x (g2 x hx)) i s hi
     have hq:i/e.width<len:=by rw [←g1];exact (dy.1 q1).1
     obtain ⟨r1,r2⟩:=g3 _ x q1
     have r3:=r2 _ s q2
     rw [dm] at r3
     obtain ⟨_,_,c4⟩:=World.cells?_some (hrow _ hq)
     have hm:i%e.width<e.width:=Nat.mod_lt _ (sM h0)
     have c5:=c4 _ hm
     rw [dz (by omega)] at c5
     refine ⟨_,?_,r3⟩
     rw [dA,dz (by omega),gY,←c5]
     congr 1
     have hdm:=Nat.div_add_mod i e.width
     rw [Nat.mul_comm] at hdm
     unfold Addr.add
     by_cases hz1:i/e.width*e.width=0
     ·rw [if_pos hz1]
      by_cases hz2:i%e.width=0
      ·rw [if_pos hz2];simp;try omega
      ·rw [if_neg hz2];simp;try omega
     ·rw [if_neg hz1]
      by_cases hz2:i%e.width=0
      ·rw [if_pos hz2];simp;try omega
      ·rw [if_neg hz2];simp;try omega
    refine .sl ab ao cap (λi=>(w.cell? ⟨ab,ao+i,none⟩).getD undef) (hI _ hblk) h2 h3 (λi s hi=>?_) λi s hi=>?_
    ·obtain ⟨c,q1,_⟩:=hcell i s hi;rw [q1];rfl
    ·obtain ⟨c,q1,q2⟩:=hcell i s hi;rw [q1];exact q2
 | unit =>
  refine ⟨λF fuel t cs d ps hB hr=>?_,λF fuel fs off cs xs hB hl hx=>⟨(),trivial,λi s hi=>by simp [Ty.sv] at hi,trivial⟩⟩
  obtain ⟨F,d0,rfl,hu⟩:=inv hB
  unfold po at hB
  rw [hu] at hB
  cases d0<;>simp at hB
  obtain ⟨xs,n,_,h1,h2,_⟩:=DataW.trod_struct hu hr
  exact ⟨(),trivial,by rw [h2,hB.1];rfl,λi s hi=>by simp [Ty.sv] at hi,trivial⟩
 | pair a b iha ihb =>
  have hF:CO H enc P w sp held C ids I (.pair a b):=λF fuel fs off cs xs hB hl hx=>by
   cases F with
   | zero=>simp [qT] at hB
   | succ F =>
    unfold qT at hB
    cases fs with
    | nil=>simp at hB
    | cons f r =>
     simp only [cT,jC] at hB
     obtain ⟨⟨⟨h1,h2⟩,h3⟩,h4⟩:=hB
     cases xs with
     | nil=>simp at hl
     | cons y ys =>
      have hy:=hx 0 f rfl
      simp only [pJ] at hy
      obtain ⟨x1,p1,p2,p3,p4⟩:=iha.1 F fuel f.type _ y.1 y.2 h3 hy
      obtain ⟨x2,q1,q3,q4⟩:=ihb.2 F fuel r (off+a.width) cs ys h4 (by simpa using hl) λi f' hf'=>by
       have:=hx (i+1) f' (by simpa using hf')
       simpa using this
      refine ⟨(x1,x2),⟨p1,q1⟩,IK (n:=a.width) (λi s hi=>?_) (Ty.sv_length a x1 p1) q3,⟨y.1,ys.map (·.1),rfl,p4,q4⟩⟩
      have:=p3 i s hi
      have hi2:i<a.width:=by rw [←Ty.sv_length a x1 p1];exact (dy.1 hi).1
      rw [dm,dA,mJ,if_pos (by omega),nh,h1] at this
      rw [dA]
      exact this
  refine ⟨λF fuel t cs d ps hB hr=>?_,hF⟩
  obtain ⟨F,d0,rfl,hu⟩:=inv hB
  unfold po at hB
  rw [hu] at hB
  cases d0<;>simp at hB
  rename_i fs
  obtain ⟨hw,hB⟩:=hB
  obtain ⟨xs,n,_,h1,h2,h3,h4⟩:=DataW.trod_struct hu hr
  cases h1
  obtain ⟨x,g1,g2,g3⟩:=hF F n fs.toList 0 cs xs (by simpa using hB) (by simpa using h3) λi f hf=>h4 i f (by simpa using hf)
  exact ⟨x,g1,by rw [h2,hw],g2,g3⟩
 | arr n e ih =>
  refine ⟨λF fuel t cs d ps hB hr=>?_,noF (by simp) (by simp)⟩
  obtain ⟨F,d0,rfl,hu⟩:=inv hB
  unfold po at hB
  rw [hu] at hB
  cases d0<;>simp at hB
  rename_i n' te
  obtain ⟨⟨⟨rfl,h1⟩,h2⟩,hB⟩:=hB
  obtain ⟨els,m,h3,h4,h5,h6⟩:=Gc hu hr
  simp only at h3
  subst h3
  rw [h1] at h6
  obtain ⟨xs,g1,g2,g3,g4⟩:=zK ih.1 hB (row:=λi=>(cs.drop (i*e.width)).take e.width) h5 h6
  refine ⟨xs,⟨g1,g2⟩,by rw [h4,h2];rfl,λi s hi=>?_,⟨_,rfl,by rw [ep,h5,g1],g4⟩⟩
  by_cases h0:e.width=0
  ·have:xs.flatMap e.sv=[]:=iV (by
    have:=Ty.sv_length (.arr n' e) xs ⟨g1,g2⟩
    simp only [Ty.sv,Ty.width,h0,Nat.mul_zero] at this
    exact this)
   simp only [Ty.sv,this] at hi
   simp at hi
  ·obtain ⟨x,q1,q2⟩:=uc (sM h0) xs (λx hx=>Ty.sv_length e x (g2 x hx)) i s hi
   obtain ⟨r1,r2⟩:=g3 _ x q1
   have r3:=r2 _ s q2
   have hm:i%e.width<e.width:=Nat.mod_lt _ (sM h0)
   have hdm:=Nat.div_add_mod i e.width
   rw [Nat.mul_comm] at hdm
   rw [dm,dA,mJ,if_pos hm,nh,hdm] at r3
   rw [dm,dA]
   exact r3
end
end
section
open Go.RowKit Go.ChangeShapes Go.WideShapes
abbrev Tys.den:List Ty->Type
 | []=>Unit
 | T::r=>T.den×Tys.den r
def Tys.args:(l:List Ty)->Tys.den l->List SV
 | [],_=>[]
 | T::r,x=>T.arg x.1::Tys.args r x.2
def Tys.ok:(l:List Ty)->Tys.den l->Prop
 | [],_=>True
 | T::r,x=>T.ok x.1/\Tys.ok r x.2
def Tys.rep (H:Type):(l:List Ty)->Tys.den l->List (DataW H)->Prop
 | [],_,ds=>ds=[]
 | T::r,x,ds=>∃ d s,ds=d::s/\T.rep H x.1 d/\Tys.rep H r x.2 s
def vf (P:Program) (F:Nat):List TypeId->List Ty->Bool
 | [],[]=>true
 | t::r,T::s=>po P F t T&&P.readableRec t&&Nat.blt t P.types.size&&vf P F r s
 | _,_=>false
section
variable {H:Type} {enc:TypeId×Value->H} {P:Program} {w:World} {C:Nm->cp} {ids:dE} {I:Nat->Prop}
theorem xt {r:Reach} {b0:Nat} {t:TypeId} {v:Value} {d:TypeDesc} (hu:P.underlying t=some d) (hd:(∃ k,d = .int k)\/d = .bool\/d = .string\/∃ e,d = .slice e) (h:Value.okWide P w r b0 t v):v.cells.toList=[v]:=by
 rcases hd with ⟨k,rfl⟩|rfl|rfl|⟨e,rfl⟩
 ·obtain ⟨n,rfl⟩:=okWide_int hu h;rfl
 ·obtain ⟨n,rfl⟩:=okWide_bool hu h;rfl
 ·obtain ⟨n,rfl⟩:=okWide_string hu h;rfl
 ·obtain ⟨a,l,c,rfl⟩:=okWide_slice hu h;rfl
theorem CP {r:Reach} {b0:Nat} {t:TypeId} {v:Value} {d:TypeDesc} (hu:P.underlying t=some d) (hd:(∃ fs,d = .struct fs)\/∃ n e,d = .array n e) (h:Value.okWide P w r b0 t v):∃ cs,v = .agg cs:=by
 unfold Value.okWide at h;rcases hd with ⟨fs,rfl⟩|⟨n,e,rfl⟩
 ·rw [hu] at h;obtain ⟨cs,rfl,_⟩:=h;exact ⟨cs,rfl⟩
 ·rw [hu] at h;obtain ⟨cs,rfl,_⟩:=h;exact ⟨cs,rfl⟩
theorem IM {F:Nat} {t:TypeId} {T:Ty} (h:po P F t T=true):∃ d,P.underlying t=some d/\match T with
  | .int k=>d = .int k
  | .bool=>d = .bool
  | .str=>d = .string
  | .sl _=>∃ e,d = .slice e
  | .unit=>∃ fs,d = .struct fs
  | .pair _ _=>∃ fs,d = .struct fs
  | .arr _ _=>∃ n e,d = .array n e:=by
 cases F with
 | zero=>simp [po] at h
 | succ F =>
  unfold po at h;cases hu:P.underlying t with
  | none=>rw [hu] at h;simp at h
  | some d =>
   rw [hu] at h;refine ⟨d,rfl,?_⟩;cases d<;>cases T<;>simp at h<;>simp_all
theorem Ki {r:Reach} {b0:Nat} (hI:∀ b,b<w.heap.size->I b) {F:Nat} {t:TypeId} {T:Ty} (hB:po P F t T=true) {v:Value} (hok:Value.okWide P w r b0 t v) {d:DataW H} {ps:List MemPlace} (hr:DataW.Trod enc P w 0 (λ_=>true) true t v d ps) :
 ∃x:T.den,T.ok x/\dT P C ids I w (T.arg x) v/\T.rep H x d:=by
 obtain ⟨fuel,hr⟩:=hr;obtain ⟨x,h1,h2,h3,h4⟩:=(reads (enc:=enc) (C:=C) (ids:=ids) hI T).1 F fuel t _ d ps hB hr;refine ⟨x,h1,?_,h4⟩;obtain ⟨dd,hu,hdd⟩:=IM hB;have one:∀ s,T.sv x=[s]->(v.cells.toList=[v])->dT P C ids I w s v:=λs hs hv=>by
  have:=h3 0 s (by rw [hs];rfl);rw [hv] at this;exact this
 have agg:∀ cs,v = .agg cs->dT P C ids I w (.agg (T.sv x)) v:=λcs hv=>by
  subst hv;have hl:(T.sv x).length=cs.size:=by rw [Ty.sv_length T x h1,←h2];simp [Value.cells]
  refine .agg cs hl λi s hi=>?_
  have:=h3 i s hi;rw [dm] at this;simpa [Value.cells,cQ,dA] using this
 cases T with
 | int k=>exact one _ rfl (xt hu (.inl ⟨k,hdd⟩) hok)
 | bool=>exact one _ rfl (xt hu (.inr (.inl hdd)) hok)
 | str=>exact one _ rfl (xt hu (.inr (.inr (.inl hdd))) hok)
 | sl e=>obtain ⟨te,hdd⟩:=hdd;exact one _ rfl (xt hu (.inr (.inr (.inr ⟨te,hdd⟩))) hok)
 | unit=>obtain ⟨cs,hv⟩:=CP hu (.inl hdd) hok;exact agg cs hv
 | pair a b=>obtain ⟨cs,hv⟩:=CP hu (.inl hdd) hok;exact agg cs hv
 | arr n e=>obtain ⟨cs,hv⟩:=CP hu (.inr hdd) hok;exact agg cs hv
theorem CQ {r:Reach} {b0:Nat} (hI:∀ b,b<w.heap.size->I b) {F:Nat}:∀ (ts:List TypeId) (Ts:List Ty) (vs:List Value) (ds:List (DataW H)) (ps:List MemPlace),vf P F ts Ts=true->(∀ (j:Nat) t v,ts[j]? = some t->vs[j]? = some v->Value.okWide P w r b0 t v) ->
  DataW.TrodAll enc P w 0 (λ_=>true) true ts vs ds ps->∃ x:Tys.den Ts,Tys.ok Ts x/\vs.length=(Tys.args Ts x).length/\(∀ i s,(Tys.args Ts x)[i]? = some s->dT P C ids I w s (vs.getD i undef))/\Tys.rep H Ts x ds/\ds.length=Ts.length
 | [],[],[],[],ps,_,_,h=>⟨(),trivial,rfl,λi s hi=>by simp [Tys.args] at hi,rfl,rfl⟩
 | t::ts,T::Ts,v::vs,d::ds,ps,hB,hok,h=>by
  obtain ⟨p,q,h1,h2,_⟩:=h
  simp only [vf,cT] at hB
  obtain ⟨x,g1,g2,g3⟩:=Ki (C:=C) (ids:=ids) hI hB.1.1.1 (hok 0 t v rfl rfl) h1
  obtain ⟨y,k1,k2,k3,k4,k5⟩:=CQ hI ts Ts vs ds q hB.2 (λj t v hj hv=>hok (j+1) t v (by simpa using hj) (by simpa using hv)) h2
  refine ⟨(x,y),⟨g1,k1⟩,by simp [Tys.args,k2],λi s hi=>?_,⟨d,ds,rfl,g3,k4⟩,by simp [k5]⟩
  cases i with
  | zero=>simp [Tys.args] at hi;subst hi;exact g2
  | succ i=>exact k3 i s (by simpa [Tys.args] using hi)
 | [],[],_::_,_,_,_,_,h=>by cases h
 | [],[],[],_::_,_,_,_,h=>by cases h
 | [],_::_,_,_,_,hB,_,_=>by simp [vf] at hB
 | _::_,[],_,_,_,hB,_,_=>by simp [vf] at hB
 | _::_,_::_,[],_,_,_,_,h=>by cases h
 | _::_,_::_,_::_,[],_,_,_,h=>by cases h
theorem w8 (hlo:laidOutB P=true) {W W':World} (hb:Below W.heap.size W W') {sp:Nat->Bool} {F:Nat}:∀ (ts:List TypeId) (Ts:List Ty) (vs:List Value) (ds:List (DataW H)) (ps:List MemPlace),vf P F ts Ts=true->(∀ p∈ps,p.block<W.heap.size)->(∀ p∈ps,sp p.block=true) ->
  DataW.TrodAll enc P W 0 (λ_=>true) true ts vs ds ps->DataW.TrodAll enc P W' 0 sp true ts vs ds ps
 | [],_,[],[],ps,_,_,_,h=>h
 | t::ts,T::Ts,v::vs,d::ds,ps,hB,hlt,hsp,h=>by
  obtain ⟨p,q,h1,h2,rfl⟩:=h
  simp only [vf,cT,kH] at hB
  exact ⟨p,q,WideElems.Trod_stays hlo hB.1.1.2 hB.1.2 h1 (λx hx=>hb.same (hlt x (by simp [hx]))) (λx hx=>hsp x (by simp [hx])),
   w8 hlo hb ts Ts vs ds q hB.2 (λx hx=>hlt x (by simp [hx])) (λx hx=>hsp x (by simp [hx])) h2,rfl⟩
 | [],_,_::_,_,_,_,_,_,h=>by cases h
 | [],_,[],_::_,_,_,_,_,h=>by cases h
 | _::_,[],_,_,_,hB,_,_,_=>by simp [vf] at hB
 | _::_,_::_,[],_,_,_,_,_,h=>by cases h
 | _::_,_::_,_::_,[],_,_,_,_,h=>by cases h
theorem Gd {f:Func} {s:ChangeSpec} {apart fresh handsOn again:Bool} {W W':World} {args:Array Value} {v:Value} {ds gs:List (DataW H)} {before pa pv:List MemPlace}
  (hW:DataW.Whole enc P f.params.toList s.vars apart W args.toList ds gs before)
  (hres:∀ (b:Nat) (sp:Nat->Bool) (hd:Bool),DataW.TrodAll enc P W' b sp hd f.resultTypes.toList (v.resultList f.resultTypes.size) (s.fn H (ds++gs)).results [])
  (hargs:∀ sp:Nat->Bool,(∀ p∈before,sp p.block=true)->DataW.TrodAll enc P W' 0 sp true f.params.toList args.toList (s.fn H (ds++gs)).args pa)
  (hvars:∀ sp:Nat->Bool,(∀ p∈before,sp p.block=true)->DataW.TrodVars enc P W' sp s.vars (s.fn H (ds++gs)).vars pv)
  (hps:before=pa++pv) (hb:Below W.heap.size W W')
  (hok:∀ (j:Nat) (t:TypeId) (r:Value),f.resultTypes[j]? = some t->(v.resultList f.resultTypes.size)[j]? = some r->Value.okWide P W' .any 0 t r) :
  s.post enc P f apart fresh handsOn again W args v W':=by
 have hlt:∀ p∈before,p.block<W.heap.size:=λp hp=>hW.lt p hp;have hold:∀ p∈before,(λb=>decide (b<W.heap.size)) p.block=true:=λp hp=>by simpa using hlt p hp
 refine ⟨ds,gs,before,[],pa,pv,hW,hres _ _ _,hargs _ hold,hvars _ hold,World.keptBut_mono (λp hp=>⟨hp,?_⟩) (hb.frame (· ∈ before)),λ_=>?_⟩
 ·rw [hps,gy] at hp;exact Or.inr hp
 ·obtain ⟨_,_,_,_,_,hz,hn⟩:=hW;refine ⟨hok,_,_,([]++pa)++pv,⟨[]++pa,pv,trodAll_append (hargs _ (λ_ _=>rfl)) (hres _ _ _),hvars _ (λ_ _=>rfl),rfl,?_,?_⟩,?_⟩
  ·intro b off hp;have hin:MemPlace.cell b off∈before:=by rw [hps];simpa using hp
   rw [hb.frozen (hlt _ hin)];exact hz b off hin
  ·intro ha;have:=hn ha;rw [hps] at this;simpa using this
  ·intro p hp _;rw [hps];simpa using hp
theorem cS.mono {P:Program} {f:FuncId} {args:List SV} {hin:Hp} {m:Nat} {Post Post':SV->Hp->Nat->Prop} (h:cS P f args hin m Post) (hp:∀ r hp n,Post r hp n->Post' r hp n):cS P f args hin m Post' :=
 ⟨h.1,λX vals h1 h2 h3 h4 h5=>(h.2 X vals h1 h2 h3 h4 h5).mono λe w' ⟨r,res,hp',nx',ids',g1,g2,g3⟩=>⟨r,res,hp',nx',ids',g1,hp _ _ _ g2,g3⟩⟩
theorem yy {f:FuncId} {fn:Func} {s:ChangeSpec} {apart fresh handsOn again:Bool} (Ts:List Ty) (F:Nat) (hB:vf P F fn.params.toList Ts=true) (hv:s.vars=[]) (hs:∀ ds:List (DataW H),ds.length=Ts.length->s.fn H ds = { results:=[.lit (.bool true)],args:=ds })
  (hlo:laidOutB P=true) {tb:TypeId} (hrt:fn.resultTypes = #[tb]) (hub:P.underlying tb=some .bool)
  (W:World) (base:Nat) (args:Array Value) (ds gs:List (DataW H)) (before:List MemPlace) (hval:∀ (j:Nat) t v,fn.params[j]? = some t->args[j]? = some v->Value.okWide P W .any base t v)
  (hspec:∀ x:Tys.den Ts,Tys.ok Ts x->Tys.rep H Ts x (ds++gs)->cS P f (Tys.args Ts x) [] 0 (λr _ _=>r = .v (.bool true)))
  (hW:DataW.Whole enc P fn.params.toList s.vars apart W args.toList ds gs before) (htab:sb P (λb=>b<W.heap.size) W) :
  Calls P f args W λe W'=>∃ v,e = .returned v/\s.post enc P fn apart fresh handsOn again W args v W':=by
 have hW':=hW;obtain ⟨p,q,hA,hV,rfl,hfz,hnd⟩:=hW;rw [hv] at hV;have hgq:gs=[]/\q=[]:=by
  cases gs with
  | nil=>exact ⟨rfl,hV⟩
  | cons _ _=>cases hV
 obtain ⟨rfl,rfl⟩:=hgq;let C:Nm->cp:=bX [];let I:Nat->Prop:=λb=>b<W.heap.size;let X:Cx:={ gl:=htab,P:=P,w0:=W,I0:=λb=>b<W.heap.size,W0:=λ_=>False,m:=0,ids0:=λ_=>none,C0:=λ_=>.unborn };have hIm:∀ b,b<W.heap.size->Im W (λb=>b<W.heap.size) (λ_=>False) (bX []) (λ_=>none) W b:=λb hb=>⟨.inl hb,hb,λk hk=>by cases hk⟩;obtain ⟨x,h1,h2,h3,h4,h5⟩:=CQ (C:=bX []) (ids:=λ_=>none) hIm fn.params.toList Ts args.toList ds p hB (λj t v hj hv=>hval j t v (by simpa using hj) (by simpa using hv)) hA;have hsp:=hspec x h1 (by simpa using h4);have hH:nm X [] 0 X.ids0 X.w0:=⟨⟨⟨λk=>trivial,(λk k' b o o' hl=>by cases hl),(λk b o hl=>by cases hl),λb hb=>⟨hb,λh=>h⟩,λb _ _=>rfl,rfl,⟨rfl,cF _⟩,rfl,cF _⟩,λk hk=>absurd hk (om _),λk hk=>absurd hk (om _)⟩,λk _=>rfl,cF _⟩;refine (hsp.2 X args rfl rfl hH (by rw [←h2];simp) λi s hi=>?_).mono λe W' he=>?_
 ·have:=h3 i s hi;simpa [cQ,dA] using this
 obtain ⟨r,res,hp',nx',ids',rfl,hres,hF,hd⟩:=he;subst hres;have hrv:=d9 hd;subst hrv;refine ⟨_,rfl,?_⟩;have hb:Below W.heap.size W W':=⟨hF.st.os,hF.st.tape.1,hF.st.output,hF.st.size,λk hk=>hF.st.evol k hk (λh=>h)⟩;have hfn:=hs ds h5;refine Gd (pa:=p) (pv:=[]) hW' (λb sp hd=>?_) (λsp hsp=>?_) (λsp _=>?_) rfl hb (ok_one hrt rfl (okWide_bool_mk hub true))
 ·rw [jY,hfn,hrt];exact trodAll_cons_mk (shut_bool hub true) trodAll_mk0
 ·rw [jY,hfn];exact w8 hlo hb fn.params.toList Ts args.toList ds p hB (λx hx=>hW'.lt x (by simp [hx])) (λx hx=>hsp x (by simp [hx])) hA
 ·rw [jY,hfn,hv];rfl
end
end
section
open Go.RowKit
def ur {α β:Type} (f:α->Option β):List α->Option (List β)
 | []=>some []
 | a::r=>match f a,ur f r with
  | some b,some l=>some (b::l)
  | _,_=>none
theorem vg {α β:Type} {f:α->Option β}:∀ {l:List α} {xs:List β},l.length=xs.length->(∀ (i:Nat) (x:β),xs[i]? = some x->∃ y,l[i]? = some y/\f y=some x)->ur f l=some xs
 | [],[],_,_=>rfl
 | [],_::_,h,_=>by cases h
 | _::_,[],h,_=>by cases h
 | a::l,x::xs,hl,h=>by
  obtain ⟨y,hy,hf⟩:=h 0 x rfl
  cases hy
  unfold ur
  rw [hf,vg (l:=l) (xs:=xs) (by simpa using hl) λi z hz=>by simpa using h (i+1) z (by simpa using hz)]
def Ty.unrep:(T:Ty)->DataW Unit->Option T.den
 | .int k,d=>match d with
  | .lit (.int k' x)=>if k=k' then some x else none
  | _=>none
 | .bool,d=>match d with
  | .lit (.bool b)=>some b
  | _=>none
 | .str,d=>match d with
  | .lit (.string l)=>some ⟨l.toArray⟩
  | _=>none
 | .sl e,d=>match d with
  | .nil=>some []
  | .slice el _=>ur e.unrep el
  | _=>none
 | .unit,_=>some ()
 | .pair a b,d=>match d with
  | .agg (p::r)=>match a.unrep p,b.unrep (.agg r) with
   | some x,some y=>some (x,y)
   | _,_=>none
  | _=>none
 | .arr _ e,d=>match d with
  | .agg el=>ur e.unrep el
  | _=>none
theorem s7:∀ (T:Ty) (x:T.den) (d:DataW Unit),T.rep Unit x d->T.unrep d=some x
 | .int k,x,d,h=>by
  simp only [Ty.rep] at h;subst h;simp [Ty.unrep]
 | .bool,x,d,h=>by simp only [Ty.rep] at h;subst h;rfl
 | .str,x,d,h=>by simp only [Ty.rep] at h;subst h;simp [Ty.unrep]
 | .sl e,xs,d,h=>by
  simp only [Ty.rep] at h
  rcases h with ⟨rfl,rfl⟩|⟨el,spn,rfl,hl,h⟩
  ·rfl
  ·simp only [Ty.unrep]
   exact vg hl λi x hx=>by
    obtain ⟨y,hy,hr⟩:=h i x hx
    exact ⟨y,hy,s7 e x y hr⟩
 | .unit,_,_,_=>rfl
 | .pair a b,x,d,h=>by
  simp only [Ty.rep] at h
  obtain ⟨p,r,rfl,h1,h2⟩:=h
  simp only [Ty.unrep]
  rw [s7 a x.1 p h1,s7 b x.2 (.agg r) h2]
 | .arr n e,xs,d,h=>by
  simp only [Ty.rep] at h
  obtain ⟨el,rfl,hl,h⟩:=h
  simp only [Ty.unrep]
  exact vg hl λi x hx=>by
   obtain ⟨y,hy,hr⟩:=h i x hx
   exact ⟨y,hy,s7 e x y hr⟩
def Og:SV->Bool
 | .v _=>true
 | _=>false
def Jx:SV->Bool
 | .v _=>true
 | .sl n l=>Nat.blt 0 n&&l.all Og
 | _=>false
theorem CR {P:Program} {W:World} {n:String} {d:DataW Unit} {g:Nat} {t:TypeId} {cs:List SV} (T:Ty) (F:Nat) (hv:Go.Lib.VarReads P W n d) (hg:P.globalNamed n=some g) (ht:(P.globals[g]?).map (·.type)=some t)
  (hB:po P F t T=true) (hcs:(T.unrep d).map T.sv=some cs) (hc:cs.all Jx=true) (h0:0<cs.length) :
  g<W.heap.size/\∀ i x,cs[i]? = some x->∃ y,W.cell? ⟨g,i,none⟩=some y/\qa (λb=>b<W.heap.size) W x y:=by
 obtain ⟨g',t',ca,fuel,p,h1,h2,h3,h4⟩:=hv;rw [hg] at h1;cases h1;rw [ht] at h2;cases h2;obtain ⟨x,hok,hlen,hd,hr⟩:=(reads (H:=Unit) (enc:=λ_=>()) (P:=P) (w:=W) (sp:=λ_=>true) (held:=false) (C:=λ_=>.unborn) (ids:=λ_=>none) (I:=λb=>b<W.heap.size) (λb h=>h) T).1 F fuel t ca.toList d p hB h4;rw [s7 T x d hr] at hcs;simp only [fp,fP] at hcs;unfold World.var? at h3;rw [hg] at h3;simp only [cx] at h3;have hcell:∀ i,i<ca.size->W.cell? ⟨g,i,none⟩=some (ca.getD i undef):=λi hi=>by
  split at h3
  ·rename_i arr e fr hw;cases h3;simp [World.cell?,hw,cQ,hi]
  ·cases h3
 have hlt:g<W.heap.size:=by
  split at h3
  ·rename_i arr e fr hw;exact (qJ.1 hw).1
  ·cases h3
 have hsz:cs.length<=ca.size:=by
  have:=Ty.sv_length T x hok;rw [hcs,←hlen] at this;simp at this;omega
 refine ⟨hlt,λi s hi=>?_⟩;have hil:=(dy.1 hi).1;refine ⟨_,hcell i (by omega),?_⟩;have hden:=hd i s (by rw [hcs];exact hi);rw [dm] at hden;have e1:(ca.toList.getD i undef)=ca.getD i undef:=by simp [dA,cQ]
 rw [e1] at hden;have hb:=dQ.1 hc s (pO hi);unfold Jx at hb;split at hb
 ·exact d9 hden
 ·rename_i m l;simp only [cT,kH] at hb;obtain ⟨a,cap,he,k1,k2,k3⟩:=sP hden;rcases k3 with ⟨k3,_⟩|⟨b,o,c,rfl,k4,k5,k6⟩
  ·omega
  ·refine ⟨b,o,cap,he,k4,k1,k2,λj z hz=>?_⟩;have hz2:=k6 j z hz;have hv:=dQ.1 hb.2 z (pO hz);unfold Og at hv;split at hv
   ·exact ⟨_,rfl,by rw [k5 j _ hz];exact dJ some (d9 hz2)⟩
   ·cases hv
 ·cases hb
theorem Kj {P:Program} {W:World} (l:List Nat) (hl:((List.range P.globals.size).all λg=>l.contains g||(yT P g).isNone)=true)
  (h:∀ g∈l,∀ cs,yT P g=some cs->g<W.heap.size/\∀ i x,cs[i]? = some x->∃ y,W.cell? ⟨g,i,none⟩=some y/\qa (λb=>b<W.heap.size) W x y):sb P (λb=>b<W.heap.size) W:=by
 intro g cs hg;by_cases hlt:g<P.globals.size
 ·have:=dQ.1 hl g (jD.2 hlt);rw [kZ] at this;rcases this with h1|h1
  ·exact h g (by simpa using h1) cs hg
  ·rw [hg] at h1;cases h1
 ·unfold yT at hg;rw [Array.getElem?_eq_none_iff.2 (by omega)] at hg;cases hg
end
section
open Go.RowKit
section
variable {S ρ:Type}
def l0 (step:S->Option (S ⊕ ρ)):Nat->S->Option ρ
 | 0,_=>none
 | n+1,s=>match step s with
  | none=>none
  | some (.inl s')=>l0 step n s'
  | some (.inr r)=>some r
theorem yz {step:S->Option (S ⊕ ρ)}:∀ {n m:Nat} {s:S} {r:ρ},n<=m->l0 step n s=some r->l0 step m s=some r
 | 0,_,_,_,_,h=>by simp [l0] at h
 | n+1,0,_,_,hl,_=>by omega
 | n+1,m+1,s,r,hl,h=>by
  simp only [l0] at h ⊢
  cases hs:step s with
  | none=>rw [hs] at h;exact h
  | some o =>
   rw [hs] at h
   cases o with
   | inl s'=>exact yz (by omega) h
   | inr r'=>exact h
open Classical in
noncomputable def dB (step:S->Option (S ⊕ ρ)) (s:S):Option ρ :=
 if h:∃ n,(l0 step n s).isSome then l0 step h.choose s else none
theorem yA {step:S->Option (S ⊕ ρ)} {n:Nat} {s:S} {r:ρ} (h:l0 step n s=some r):dB step s=some r:=by
 have he:∃ n,(l0 step n s).isSome:=⟨n,by rw [h];rfl⟩;unfold dB;rw [dif_pos he];obtain ⟨r',hr⟩:=qL.1 he.choose_spec;rw [hr];rcases Nat.le_total n he.choose with hl|hl
 ·have:=yz hl h;rw [hr] at this;exact this
 ·have:=yz hl hr;rw [h] at this;exact this.symm
theorem vh {step:S->Option (S ⊕ ρ)} {s:S} {r:ρ} (h:dB step s=some r):∃ n,l0 step n s=some r:=by
 unfold dB at h;split at h
 ·exact ⟨_,h⟩
 ·cases h
theorem yB (step:S->Option (S ⊕ ρ)) (s:S):dB step s=(step s).bind λo=>match o with
  | .inl s'=>dB step s'
  | .inr r=>some r:=by
 cases hs:step s with
 | none =>
  cases hl:dB step s with
  | none=>rfl
  | some r=>obtain ⟨n,hn⟩:=vh hl;cases n<;>simp [l0,hs] at hn
 | some o =>
  cases o with
  | inr r=>exact yA (n:=1) (by simp [l0,hs])
  | inl s' =>
   show dB step s=dB step s';cases hl:dB step s' with
   | some r=>obtain ⟨n,hn⟩:=vh hl;exact yA (n:=n+1) (by simp [l0,hs,hn])
   | none =>
    cases hl2:dB step s with
    | none=>rfl
    | some r =>
     obtain ⟨n,hn⟩:=vh hl2;cases n with
     | zero=>simp [l0] at hn
     | succ n=>simp only [l0,hs] at hn;rw [yA hn] at hl;cases hl
theorem kL {step:S->Option (S ⊕ ρ)} {s s':S} (h:step s=some (.inl s')):dB step s=dB step s':=by rw [yB,h];rfl
theorem f5 {step:S->Option (S ⊕ ρ)} {s:S} {r:ρ} (h:step s=some (.inr r)):dB step s=some r:=by rw [yB,h];rfl
theorem HB {step:S->Option (S ⊕ ρ)} {s:S} {x:Option ρ} (h:step s=x.map .inr):dB step s=x:=by rw [yB,h];cases x<;>rfl
end
variable {P:Program} {m N:Nat} {Q:g8} {fr:Fr} {hp:Hp} {nx:Nat}
theorem eI {S ρ:Type} {step:S->Option (S ⊕ ρ)} {s0:S} {r:ρ} {c:Code} (E:S->Fr×Hp×Nat) (h:dB step s0=some r) (h0:pd P m fr hp (E s0).1 (E s0).2.1 (E s0).2.2)
  (hb:∀ (s:S) (o:S ⊕ ρ) (R:g8),step s=some o->(∀ r',o = .inr r'->r'=r)->(∀ s' fr' hp' nx',o = .inl s'->pd P m fr' hp' (E s').1 (E s').2.1 (E s').2.2->R .normal fr' hp' nx')->(∀ id,R (.exit id)=Q (.exit id))->R .ret=Q .ret ->
   lQ P m N c R (E s).1 (E s).2.1 (E s).2.2):lQ P m N (.loop c) Q fr hp nx:=by
 obtain ⟨n0,hn0⟩:=vh h;refine Kh (S:={ p:S×Nat // l0 step p.2 p.1=some r }) (λp=>(E p.1.1).1) (λp=>(E p.1.1).2.1) (λp=>(E p.1.1).2.2) (λ_=>True) (λp=>p.1.2) ⟨(s0,n0),hn0⟩ trivial h0 ?_;rintro ⟨⟨s,n⟩,hn⟩ R _ h1 h2 h3;cases n with
 | zero=>simp [l0] at hn
 | succ n =>
  simp only [l0] at hn;cases hs:step s with
  | none=>rw [hs] at hn;cases hn
  | some o =>
   rw [hs] at hn;refine hb s o R hs (λr' ho=>?_) (λs' fr' hp' nx' ho hl=>?_) h2 h3
   ·subst ho;simp only [fP] at hn;exact hn
   ·subst ho;exact h1 fr' hp' nx' ⟨(s',n),hn⟩ trivial (tv n) hl
theorem dh {A:Type} {x y:Code} (E:A->Fr×Hp×Nat) (G:A->Prop)
  (h1:∀ K:Fr->Hp->Nat->Prop,(∀ a fr' hp' nx',G a->pd P m fr' hp' (E a).1 (E a).2.1 (E a).2.2->Wk P m K fr' hp' nx')->lQ P m N x (tJ (Wk P m K) Q) fr hp nx)
  (h2:∀ a,G a->lQ P m N y Q (E a).1 (E a).2.1 (E a).2.2):lQ P m N (.seq x y) Q fr hp nx :=
 h1 (lQ P m N y Q) (λa fr' hp' nx' hg hl=>nw _ _ _ hl (h2 a hg))
theorem j6 {A:Type} {x:Code} {id:Nat} (E:A->Fr×Hp×Nat) (G:A->Prop)
  (h1:∀ K:Fr->Hp->Nat->Prop,(∀ a fr' hp' nx',G a->pd P m fr' hp' (E a).1 (E a).2.1 (E a).2.2->Wk P m K fr' hp' nx')->lQ P m N x (zC id (tJ (Wk P m K) Q)) fr hp nx)
  (h2:∀ a,G a->Q .normal (E a).1 (E a).2.1 (E a).2.2):lQ P m N (.block id x) Q fr hp nx:=by
 have:=h1 (Q .normal) (λa fr' hp' nx' hg hl=>nw _ _ _ hl (h2 a hg));have e:tJ (Wk P m (Q .normal)) Q=wU P m Q:=by funext e;cases e<;>rfl
 rw [e] at this;exact this
theorem cc {x y:Code} (h:lQ P m N x (tJ (Wk P m (lQ P m N y Q)) Q) fr hp nx):lQ P m N (.seq x y) Q fr hp nx:=h
theorem cU {x:Code} {id:Nat} (h:lQ P m N x (zC id (wU P m Q)) fr hp nx):lQ P m N (.block id x) Q fr hp nx:=h
theorem cm {ρ:Type} {c:Operand} {b:Bool} {X Y:Option ρ} {o:ρ} {x y:Code} (h:(bif b then X else Y)=some o) (e:dC true fr c = .v (.bool b)) (k1:b=true->X=some o->lQ P m N x Q fr hp nx) (k2:b=false->Y=some o->lQ P m N y Q fr hp nx):lQ P m N (.cond c x y) Q fr hp nx:=by
 simp only [lQ,pR,e];exact ⟨λhb=>k1 hb (by rw [hb] at h;exact h),λhb=>k2 hb (by rw [hb] at h;exact h)⟩
theorem CS {c:Operand} {x y:Code} (e:dC true fr c = .v (.bool true)) (k:lQ P m N x Q fr hp nx):lQ P m N (.cond c x y) Q fr hp nx:=by
 simp only [lQ,pR,e];exact ⟨λ_=>k,λhb=>by cases hb⟩
theorem CT {c:Operand} {x y:Code} (e:dC true fr c = .v (.bool false)) (k:lQ P m N y Q fr hp nx):lQ P m N (.cond c x y) Q fr hp nx:=by
 simp only [lQ,pR,e];exact ⟨(λhb=>by cases hb),λ_=>k⟩
theorem ck {α β:Type} {x:Option α} {f:α->Option β} {o:β} (h:x.bind f=some o):∃ a,x=some a/\f a=some o:=by
 cases x with
 | none=>cases h
 | some a=>exact ⟨a,rfl,h⟩
theorem L9 {α β:Type} {x:Option α} {f:α->β} {o:β} (h:x.map f=some o):∃ a,x=some a/\f a=o:=by
 cases x with
 | none=>cases h
 | some a=>cases h;exact ⟨a,rfl,rfl⟩
theorem HC {m:Nat} {fr fr':Fr} {hp hp':Hp} {nx':Nat} (σ:List (Nm×Nm)) (frz:List Nm) (h1:CL hp hp' σ frz fr fr') (h2:pm hp hp' σ frz hp') (h3:o8 m σ frz=true) (h4:p8 m nx' σ hp'=true) (h5:Nat.ble m nx'=true):pd P m fr hp fr' hp' nx':=EW σ frz h1 h2 h3 h4 (cX h5)
theorem Jy {m:Nat} {x X:SV} {hp H:Hp} {nn:Nat} (σ:List (Nm×Nm)) (frz:List Nm) (h1:fv hp H σ frz x X) (h2:pm hp H σ frz H) (h3:o8 m σ frz=true) (h4:p8 m nn σ H=true) (h5:Nat.ble m nn=true):wW P m (λr h n=>r=X/\h=H/\n=nn) x hp:=L8 X H nn σ frz ⟨rfl,rfl,rfl⟩ h1 h2 h3 h4 (cX h5)
end
section
open Go.RowKit
variable {P:Program} {m N:Nat} {Q:g8} {fr:Fr} {hp:Hp} {nx:Nat} {ops:Array Oper}
def ud:List Prop->Prop
 | []=>True
 | p::r=>p/\ud r
def gH (r:eY) (e:dx):Prop:=match r with
 | .ok s e'=>s/\e'.val=e.val/\e'.upd=e.upd/\e'.nx=e.nx/\e'.rds=e.rds
 | .bad=>False
structure zL where
 fr:Fr
 hp:Hp
 nx:Nat
 acc:List fU
 obs:List Prop
def pC (ops:Array Oper) (fr:Fr) (o:Oper):Option Bool:=match o.guard with
 | none=>some true
 | some jw=>mB ops fr jw.1 jw.2
def Ge (P:Program) (o:Op):SV:=bif lN P o then .gd false .any else .v undef
def zM (P:Program) (o:Oper) (x:SV):SV:=match o.guard with
 | none=>x
 | some _=>bif lN P o.op then .gd true x else x
def vi (P:Program) (o:Oper) (nx:Nat) (e:dx):Bool:=o.guard.isSome&&(lN P o.op&&(!e.upd.isEmpty || !(e.nx==nx)))
def gk (P:Program) (d:Bool) (ops:Array Oper):Nat->List Oper->List (Option dx)->zL->Option zL
 | 0,_,_,s=>some s
 | _+1,[],_,s=>some s
 | n+1,o::rest,sc,s=>match pC ops s.fr o with
  | none=>none
  | some false=>gk P d ops n rest sc.tail ⟨gh o.dst (Ge P o.op) s.fr,s.hp,bif d then s.nx+1 else s.nx,s.acc++[⟨[],[],s.nx,s.nx⟩],s.obs⟩
  | some true=>match jb true s.fr o.op with
   | some _=>none
   | none=>match sc with
    | some e::sc'=>bif vi P o s.nx e then none else
     gk P d ops n rest sc' ⟨gh o.dst (zM P o e.val) s.fr,e.upd++s.hp,bif d then e.nx+1 else e.nx,s.acc++[⟨e.upd.map (·.1.key),e.rds,s.nx,e.nx⟩],gH (kK P true s.fr s.hp s.nx o.type o.op) e::s.obs⟩
    | _=>match kK P true s.fr s.hp s.nx o.type o.op with
     | .bad=>none
     | .ok _ ⟨val,upd,nx',rds⟩=>bif CK P true s.fr s.hp o.op && !vi P o s.nx ⟨val,upd,nx',rds⟩ then
       gk P d ops n rest sc.tail ⟨gh o.dst (zM P o val) s.fr,upd++s.hp,bif d then nx'+1 else nx',s.acc++[⟨upd.map (·.1.key),rds,s.nx,nx'⟩],s.obs⟩
      else none
theorem sr {dt:Bool} {o:Oper} {K:SV->Hp->Nat->List Nm->Prop} {s:Prop} {e:dx} (hd:pC ops fr o=some true) (hc:jb true fr o.op=none) (hop:kK P true fr hp nx o.type o.op = .ok s e) (hs:s) (hu:vi P o nx e=false)
  (hk:K (zM P o e.val) e.upd e.nx e.rds):iw dt P ops o fr hp nx K:=by
 unfold iw;unfold pC at hd;cases hg:o.guard with
 | none =>
  simp only;unfold kA;rw [hc,hop];unfold zM at hk;rw [hg] at hk;exact .inr ⟨hs,hk⟩
 | some jw =>
  unfold vi at hu;rw [hg] at hd hu;simp only at hd ⊢;rw [hd];simp only;unfold zM at hk;rw [hg] at hk;simp only at hk;cases hq:lN P o.op with
  | true =>
   rw [hq] at hk hu;simp only [cd] at hk ⊢;refine .inr ?_;rw [hop];obtain ⟨val,upd,nx',rds⟩:=e;simp at hu;obtain ⟨hu,rfl⟩:=hu;subst hu;exact ⟨λ_=>hs,hk⟩
  | false =>
   rw [hq] at hk;simp only [cj] at hk ⊢;refine ⟨λ_=>?_,λhe=>by cases he⟩;unfold kA;rw [hc,hop];exact .inr ⟨hs,hk⟩
theorem zN {dt:Bool} {o:Oper} {K:SV->Hp->Nat->List Nm->Prop} (hd:pC ops fr o=some false) (hk:K (Ge P o.op) [] nx []):iw dt P ops o fr hp nx K:=by
 unfold iw;unfold pC at hd;cases hg:o.guard with
 | none=>rw [hg] at hd;cases hd
 | some jw =>
  rw [hg] at hd;simp only at hd ⊢;rw [hd];simp only;unfold Ge at hk;cases hq:lN P o.op with
  | true=>rw [hq] at hk;exact .inl ⟨rfl,hk⟩
  | false=>rw [hq] at hk;exact ⟨(λhe=>by cases he),λ_=>hk⟩
theorem CU {l:List Prop} (h:ud l) {l2:List Prop} (hs:∃ k,l=k++l2):ud l2:=by
 obtain ⟨k,rfl⟩:=hs;induction k with
 | nil=>exact h
 | cons p k ih=>exact ih h.2
theorem yC {r:eY} {e:dx} (h:gH r e):∃ s,r = .ok s e/\s:=by
 cases r with
 | bad=>exact h.elim
 | ok s e' =>
  obtain ⟨hs,h1,h2,h3,h4⟩:=h;obtain ⟨v,u,n,rd⟩:=e';simp only at h1 h2 h3 h4;subst h1;subst h2;subst h3;subst h4;exact ⟨s,rfl,hs⟩
theorem rK {d:Bool}:∀ (n:Nat) (l:List Oper) (sc:List (Option dx)) (s s':zL),gk P d ops n l sc s=some s'->∃ k,s'.obs=k++s.obs
 | 0,l,sc,s,s',h=>by cases h;exact ⟨[],rfl⟩
 | n+1,[],sc,s,s',h=>by cases h;exact ⟨[],rfl⟩
 | n+1,o::rest,sc,s,s',h=>by
  unfold gk at h
  split at h
  ·cases h
  ·obtain ⟨k,hk⟩:=rK n rest _ _ _ h;exact ⟨k,hk⟩
  ·split at h
   ·cases h
   ·split at h
    ·rw [ff] at h
     rename_i e _
     split at h
     ·cases h
     ·obtain ⟨k,hk⟩:=rK n rest _ _ _ h;exact ⟨k++[gH (kK P true s.fr s.hp s.nx o.type o.op) e],by rw [hk];simp⟩
    ·split at h
     ·cases h
     ·rw [ff] at h
      split at h
      ·obtain ⟨k,hk⟩:=rK n rest _ _ _ h;exact ⟨k,hk⟩
      ·cases h
theorem xu {K:Fr->Hp->Nat->Prop}:∀ (n:Nat) (l:List Oper) (sc:List (Option dx)) (s s':zL),gk P false ops n l sc s=some s'->ud s'.obs->lO P ops (l.drop n) s'.fr s'.hp s'.nx K->lO P ops l s.fr s.hp s.nx K
 | 0,l,sc,s,s',h,ho,hr=>by cases h;exact hr
 | n+1,[],sc,s,s',h,ho,hr=>by cases h;simpa using hr
 | n+1,o::rest,sc,s,s',h,ho,hr=>by
  unfold gk at h
  split at h
  ·cases h
  ·rename_i hd
   exact zN hd (xu n rest _ _ _ h ho hr)
  ·rename_i hd
   split at h
   ·cases h
   ·rename_i hc
    split at h
    ·rename_i e sc'
     rw [ff] at h
     split at h
     ·cases h
     ·rename_i hq
      obtain ⟨k,hk⟩:=rK n rest _ _ _ h
      have hob:=(CU ho ⟨k,hk⟩).1
      obtain ⟨sd,hop,hs⟩:=yC hob
      exact sr hd hc hop hs (by simpa using hq) (xu n rest _ _ _ h ho hr)
    ·split at h
     ·cases h
     ·rename_i sd val upd nx' rds hop
      rw [ff] at h
      split at h
      ·rename_i hq
       simp only [cT,km] at hq
       exact sr hd hc hop (Bh hop hq.1) hq.2 (xu n rest _ _ _ h ho hr)
      ·cases h
theorem vj {K:List fU->Fr->Hp->Nat->Prop}:∀ (n:Nat) (l:List Oper) (sc:List (Option dx)) (s s':zL),gk P true ops n l sc s=some s'->ud s'.obs->u7 P ops (l.drop n) s'.fr s'.hp s'.nx s'.acc K->u7 P ops l s.fr s.hp s.nx s.acc K
 | 0,l,sc,s,s',h,ho,hr=>by cases h;exact hr
 | n+1,[],sc,s,s',h,ho,hr=>by cases h;simpa using hr
 | n+1,o::rest,sc,s,s',h,ho,hr=>by
  unfold gk at h
  split at h
  ·cases h
  ·rename_i hd
   exact zN hd (vj n rest _ _ _ h ho hr)
  ·rename_i hd
   split at h
   ·cases h
   ·rename_i hc
    split at h
    ·rename_i e sc'
     rw [ff] at h
     split at h
     ·cases h
     ·rename_i hq
      obtain ⟨k,hk⟩:=rK n rest _ _ _ h
      have hob:=(CU ho ⟨k,hk⟩).1
      obtain ⟨sd,hop,hs⟩:=yC hob
      exact sr hd hc hop hs (by simpa using hq) (vj n rest _ _ _ h ho hr)
    ·split at h
     ·cases h
     ·rename_i sd val upd nx' rds hop
      rw [ff] at h
      split at h
      ·rename_i hq
       simp only [cT,km] at hq
       exact sr hd hc hop (Bh hop hq.1) hq.2 (vj n rest _ _ _ h ho hr)
      ·cases h
def d4 (P:Program) (d:Bool) (ops:Array Oper) (l:List Oper) (fr:Fr) (hp:Hp) (nx:Nat) (acc:List fU) (K:Fr->Hp->Nat->Prop):Prop:=match d with
 | false=>lO P ops l fr hp nx (qE K)
 | true=>yx P ops l fr hp nx acc (qE K)
theorem cw {id:Nat} (h:d4 P false ops ops.toList fr hp nx [] (Q .normal)):lQ P m N (.region id ops false) Q fr hp nx:=h
theorem ec {id:Nat} (h:d4 P true ops ops.toList fr hp nx [] (Q .normal)):lQ P m N (.region id ops true) Q fr hp nx:=h
def Jz (s:Option zL):Bool:=s.isSome
def iO (s:Option zL):zL:=s.getD ⟨[],[],0,[],[]⟩
theorem Eo {s:Option zL} (h:Jz s=true):s=some (iO s):=by
 cases s with
 | none=>cases h
 | some s=>rfl
theorem Kk {d:Bool} {l:List Oper} {acc:List fU} {K:Fr->Hp->Nat->Prop} (n:Nat) (sc:List (Option dx)) (obs:List Prop) (h1:Jz (gk P d ops n l sc ⟨fr,hp,nx,acc,[]⟩)=true) (h2:(iO (gk P d ops n l sc ⟨fr,hp,nx,acc,[]⟩)).obs=obs) (ho:ud obs)
  (k:d4 P d ops (l.drop n) (iO (gk P d ops n l sc ⟨fr,hp,nx,acc,[]⟩)).fr (iO (gk P d ops n l sc ⟨fr,hp,nx,acc,[]⟩)).hp (iO (gk P d ops n l sc ⟨fr,hp,nx,acc,[]⟩)).nx (iO (gk P d ops n l sc ⟨fr,hp,nx,acc,[]⟩)).acc K):d4 P d ops l fr hp nx acc K:=by
 have h:=Eo h1;rw [←h2] at ho;cases d with
 | false=>exact xu n l sc _ _ h ho k
 | true=>exact vj n l sc _ _ h ho k
def oT (fr ks:Fr):Fr:=ks.map λp=>(p.1,cL fr p.1)
def iq:Hp->Nm->cp
 | [],_=>.unborn
 | p::r,k=>bif p.1.eqk k then p.2 else iq r k
def l_ (hp ks:Hp):Hp:=ks.map λp=>(p.1,iq hp p.1)
def lj (hp ks:Hp):Bool:=(hp.all λp=>ks.any λq=>q.1.eqk p.1)&&ks.all λq=>match q.1 with
 | .t _=>true
 | .s _ _=>hp.any λp=>p.1.eqk q.1
theorem yD {a b:Nm} (h:a.key=b.key):∀ hp:Hp,iq hp a=iq hp b
 | []=>rfl
 | p::r=>by
  simp only [iq]
  have e:p.1.eqk a=p.1.eqk b:=by
   by_cases hk:p.1.key=a.key
   ·rw [Nm.eqk_iff.2 hk,Nm.eqk_iff.2 (hk.trans h)]
   ·rw [Nm.eqk_no hk,Nm.eqk_no (λe=>hk (e.trans h.symm))]
  rw [e,yD h r]
theorem yE (k:Nm):∀ {hp:Hp},(∃ p∈hp,p.1.key=k.key)->bX hp k=(iq hp k).mem k
 | [],h=>by obtain ⟨p,hp,_⟩:=h;cases hp
 | p::r,h=>by
  simp only [bX,iq]
  by_cases hk:p.1.key=k.key
  ·rw [Nm.eqk_iff.2 hk,cd,cd]
  ·rw [Nm.eqk_no hk,cj,cj]
   refine yE k ?_
   obtain ⟨q,hq,hqk⟩:=h
   rcases fg.1 hq with rfl|hq
   ·exact absurd hqk hk
   ·exact ⟨q,hq,hqk⟩
theorem Bn (a:Nat):∀ {hp:Hp},iq hp (.t a)=bX hp (.t a)
 | []=>rfl
 | p::r=>by simp only [iq,bX,cp.mem];rw [Bn a]
theorem w9 (fr:Fr) (d:Nat):∀ ks:Fr,cL (oT fr ks) d=cL fr d\/cL (oT fr ks) d = .any
 | []=>.inr rfl
 | p::r=>by
  simp only [oT,gv,cL]
  by_cases h:p.1=d
  ·subst h;left;simp
  ·rw [show (p.1==d)=false from by simpa using h,cj];exact w9 fr d r
theorem EY (hp:Hp) (k:Nm):∀ ks:Hp,(∃ q∈ks,q.1.key=k.key)->bX (l_ hp ks) k=(iq hp k).mem k
 | [],h=>by simp at h
 | p::r,h=>by
  simp only [l_,gv,bX]
  by_cases hk:p.1.key=k.key
  ·rw [Nm.eqk_iff.2 hk,cd,yD hk]
  ·rw [Nm.eqk_no hk,cj]
   refine EY hp k r ?_
   obtain ⟨q,hq,hqk⟩:=h
   rcases fg.1 hq with rfl|hq
   ·exact absurd hqk hk
   ·exact ⟨q,hq,hqk⟩
theorem xw {fr':Fr} {hp':Hp} (h1:oT fr fr'=fr') (h2:l_ hp hp'=hp') (h3:lj hp hp'=true):F0 fr fr' hp hp':=by
 refine ⟨λd=>h1▸w9 fr d fr',λk=>?_⟩;simp only [lj,cT,dQ,nl] at h3;rw [←h2];by_cases h:∃ q∈hp',q.1.key=k.key
 ·rw [EY hp k hp' h];cases k with
  | t a=>exact Bn a
  | s F i =>
   obtain ⟨q,hq,hqk⟩:=h;have:=h3.2 q hq;cases hq1:q.1 with
   | t a=>rw [hq1] at hqk;simp [Nm.key] at hqk
   | s G z =>
    rw [hq1] at this hqk;simp only [nl] at this;obtain ⟨p,hp1,hp2⟩:=this;exact (yE _ ⟨p,hp1,(Nm.eqk_iff.1 hp2).trans hqk⟩).symm
 ·have n1:¬∃q∈l_ hp hp',q.1.key=k.key:=λ⟨q,hq,hqk⟩=>by
   obtain ⟨p,hp1,rfl⟩:=fK.1 hq;exact h ⟨p,hp1,hqk⟩
  rw [pB n1];refine (pB λ⟨p,hp1,e⟩=>h ?_).symm;obtain ⟨q,hq,hqp⟩:=h3.1 p hp1;exact ⟨q,hq,(Nm.eqk_iff.1 hqp).trans e⟩
theorem Nz {l:List Oper} {acc:List fU} {K:Fr->Hp->Nat->Prop} (fr':Fr) (hp':Hp) (nx':Nat) (hl:l=[]) (h1:oT fr fr'=fr') (h2:l_ hp hp'=hp') (h3:lj hp hp'=true) (h4:nx=nx') (k:K fr' hp' nx'):d4 P false ops l fr hp nx acc K:=by
 subst hl;subst h4;exact ⟨fr',hp',xw h1 h2 h3,k⟩
theorem NA {l:List Oper} {acc:List fU} {K:Fr->Hp->Nat->Prop} (fr':Fr) (hp':Hp) (nx':Nat) (hl:l=[]) (h1:oT fr fr'=fr') (h2:l_ hp hp'=hp') (h3:lj hp hp'=true) (h4:nx=nx') (h5:P.follows .mixedOrders=true) (h6:m3 ops acc (w3 ops.toList)=true) (k:K fr' hp' nx'):d4 P true ops l fr hp nx acc K:=by
 subst hl;subst h4;exact ⟨⟨h5,h6⟩,fr',hp',xw h1 h2 h3,k⟩
theorem Ep {K:Fr->Hp->Nat->Prop} (ns:List fU):zF (ES P ops ns (qE K)):=λfr fr' hp nx h ⟨h1,h2⟩=>⟨h1,CJ K _ _ _ _ h h2⟩
theorem cK {d:Bool} {l:List Oper} {acc:List fU} {K:Fr->Hp->Nat->Prop} (t:Nat) (b:Bool) (h:cL fr t = .v (.bool b)\/cL fr t = .gd true (.v (.bool b)))
  (k1:b=true->d4 P d ops l ((t,bif (match cL fr t with | .gd _ _=>true|_=>false) then .gd true (.v (.bool true)) else .v (.bool true))::fr) hp nx acc K)
  (k2:b=false->d4 P d ops l ((t,bif (match cL fr t with | .gd _ _=>true|_=>false) then .gd true (.v (.bool false)) else .v (.bool false))::fr) hp nx acc K):d4 P d ops l fr hp nx acc K:=by
 have gen:∀ c:Bool,b=c->d4 P d ops l ((t,bif (match cL fr t with | .gd _ _=>true|_=>false) then .gd true (.v (.bool c)) else .v (.bool c))::fr) hp nx acc K->d4 P d ops l fr hp nx acc K:=by
  intro c hc hk;subst hc;have e:cL ((t,bif (match cL fr t with | .gd _ _=>true|_=>false) then .gd true (.v (.bool b)) else .v (.bool b))::fr)=cL fr:=by
   funext q;simp only [cL];by_cases hq:t=q
   ·subst hq;rcases h with h|h<;>simp [h]
   ·rw [show (t==q)=false from by simpa using hq,cj]
  cases d with
  | false=>exact w5 (CJ K) l _ _ _ _ e hk
  | true=>exact zG (Ep ·) l _ _ _ _ _ e hk
 cases b with
 | true=>exact gen true rfl (k1 rfl)
 | false=>exact gen false rfl (k2 rfl)
def qU (ops:Array Oper) (fr:Fr):List Oper->Option (FuncId×List SV×Option Tmp)
 | o::_=>match pC ops fr o with
  | some true=>(jb true fr o.op).map λc=>(c.1,c.2,o.dst)
  | _=>none
 | []=>none
theorem Er {g:Bool} {o:Op} {c:FuncId×List SV} (h:jb g fr o=some c):Hm o=false:=by
 cases o<;>simp only [jb] at h<;>try (cases h;done)
 rename_i cl;obtain ⟨callee,args,argTypes⟩:=cl;cases callee<;>simp only at h<;>first|rfl|cases h
theorem cD {d:Bool} {l:List Oper} {acc:List fU} {K:Fr->Hp->Nat->Prop} (f:FuncId) (args:List SV) (dst:Option Tmp) (h:qU ops fr l=some (f,args,dst))
  (k:match d with|false=>Hx P f args dst ops (l.drop 1) fr hp nx (qE K)|true=>Jv P f args dst ops (l.drop 1) fr hp nx acc (qE K)):d4 P d ops l fr hp nx acc K:=by
 cases l with
 | nil=>cases h
 | cons o rest =>
  simp only [qU] at h;cases hd:pC ops fr o with
  | none=>rw [hd] at h;cases h
  | some b =>
   cases b with
   | false=>rw [hd] at h;cases h
   | true =>
    rw [hd] at h;simp only at h;cases hc:jb true fr o.op with
    | none=>rw [hc] at h;cases h
    | some c =>
     rw [hc] at h;simp only [fp,fP,iJ] at h;obtain ⟨rfl,rfl,rfl⟩:=h;have hq:lN P o.op=false:=by unfold lN;rw [Er hc];rfl
     have step:∀ {dt:Bool} {K2:SV->Hp->Nat->List Nm->Prop},BS dt P c.1 c.2 hp nx K2->iw dt P ops o fr hp nx K2:=by
      intro dt K2 hk;unfold iw;unfold pC at hd;cases hg:o.guard with
      | none=>simp only;unfold kA;rw [hc];exact hk
      | some jw =>
       rw [hg] at hd;simp only at hd ⊢;rw [hd];simp only [hq,cj];refine ⟨λ_=>?_,(λhe=>by cases he)⟩;unfold kA;rw [hc];exact hk
     cases d with
     | false=>exact step k
     | true=>exact step k
end
section
open Go.RowKit
class b_ (α:Type) extends Inhabited α where
 sz:Nat
 cells:α->List SV
 len:∀ a,(cells a).length=sz
 one:∀ a,(cells a).all i_=true
 stc:∀ a,iu (cells a)=true
variable {α β:Type}
instance : b_ Int:=⟨1,λx=>[.v (.int .i64 x)],λ_=>rfl,λ_=>rfl,λ_=>rfl⟩
instance : b_ Bool:=⟨1,λx=>[.v (.bool x)],λ_=>rfl,λ_=>rfl,λ_=>rfl⟩
instance : b_ ByteArray:=⟨1,λx=>[.v (.string x)],λ_=>rfl,λ_=>rfl,λ_=>rfl⟩
def fl [b_ α] (xs:List α):List SV:=xs.flatMap b_.cells
theorem L_ [b_ α]:fl ([]:List α)=[]:=rfl
theorem kQ [b_ α] (x:α) (xs:List α):fl (x::xs)=b_.cells x++fl xs:=rfl
theorem fG [b_ α] (xs ys:List α):fl (xs++ys)=fl xs++fl ys:=by simp [fl]
theorem ic [b_ α] (xs:List α):(fl xs).length=xs.length*b_.sz α:=by
 induction xs with
 | nil=>simp [fl]
 | cons x xs ih=>rw [kQ,dW,ih,b_.len,gu,gZ,Nat.one_mul,Nat.add_comm]
theorem Kl {xs ys:List SV} (h:iu xs=true) (g:iu ys=true):iu (xs++ys)=true:=by
 induction xs with
 | nil=>exact g
 | cons x xs ih=>simp only [iu,cT,iz] at h ⊢;exact ⟨h.1,ih h.2⟩
theorem kR [b_ α] (xs:List α):iu (fl xs)=true:=by
 induction xs with
 | nil=>rfl
 | cons x xs ih=>rw [kQ];exact Kl (b_.stc x) ih
theorem BU [b_ α] (xs:List α):mO (fl xs)=true:=jp (kR xs)
theorem CV [b_ α] (xs:List α):(fl xs).all i_=true:=by
 induction xs with
 | nil=>rfl
 | cons x xs ih=>rw [kQ,List.all_append,b_.one,ih];rfl
instance [b_ α]:b_ (List α):=⟨1,λx=>[.sl x.length (fl x)],λ_=>rfl,λ_=>rfl,λx=>by simp only [iu,SV.st,kR,rz]⟩
theorem EZ [b_ α] (xs:List α) (i:Nat):(fl xs).drop (i*b_.sz α)=fl (xs.drop i):=by
 induction xs generalizing i with
 | nil=>simp [fl]
 | cons x xs ih =>
  cases i with
  | zero=>simp
  | succ i =>
   rw [kQ,List.drop_succ_cons,←ih i,List.drop_append,List.drop_of_length_le (by rw [b_.len];exact Nat.le_mul_of_pos_left _ (Nat.succ_pos i)),pL,b_.len];congr 1;rw [gZ,Nat.one_mul,Nat.add_sub_cancel]
theorem E0 [b_ α] (xs:List α) (i:Nat):(fl xs).take (i*b_.sz α)=fl (xs.take i):=by
 induction xs generalizing i with
 | nil=>simp [fl]
 | cons x xs ih =>
  cases i with
  | zero=>simp [fl]
  | succ i =>
   rw [kQ,List.take_succ_cons,kQ,←ih i,List.take_append,b_.len,kI (by rw [b_.len];exact Nat.le_mul_of_pos_left _ (Nat.succ_pos i))];congr 2;rw [gZ,Nat.one_mul,Nat.add_sub_cancel]
theorem Ma [b_ α] (xs:List α) (i n:Nat):da (fl xs) (i*b_.sz α) (n*b_.sz α)=fl ((xs.drop i).take n):=by
 simp only [da,EZ,E0]
theorem JA [b_ α] (xs:List α) (i:Nat) (h:i<xs.length):((fl xs).drop (i*b_.sz α)).take (b_.sz α)=b_.cells (xs.getD i default):=by
 rw [EZ];have:xs.drop i=xs.getD i default::xs.drop (i+1):=by rw [List.drop_eq_getElem_cons h];simp [dA,h]
 rw [this,kQ,List.take_append,b_.len,Nat.sub_self,List.take_zero,jY,kI (by rw [b_.len];exact cF _)]
theorem E7 [b_ α] (xs:List α) (i j:Nat) (h:i<xs.length) (hj:j<b_.sz α) (d:SV):(fl xs).getD (i*b_.sz α+j) d=(b_.cells (xs.getD i default)).getD j d:=by
 rw [←JA xs i h];simp only [dA,mJ,if_pos hj,nh]
theorem Gf (vs:List SV):∀ (us bs:List SV) (o:Nat),fT (us++bs) (us.length+o) vs=us++fT bs o vs:=by
 induction vs with
 | nil=>intro us bs o;rfl
 | cons v vs ih =>
  intro us bs o;simp only [fT];rw [List.set_append_right _ _ (by omega),show us.length+o-us.length=o from by omega,iT,ih]
theorem Es (vs:List SV):∀ (us bs:List SV) (o:Nat),o+vs.length<=us.length->fT (us++bs) o vs=fT us o vs++bs:=by
 induction vs with
 | nil=>intro us bs o _;rfl
 | cons v vs ih =>
  intro us bs o h;simp only [gu] at h;simp only [fT];rw [List.set_append_left _ _ (by omega),ih _ _ _ (by simp;omega)]
theorem Bo [b_ α] (y:α) (vs:List SV) (j:Nat):∀ (xs:List α) (i:Nat),i<xs.length->j+vs.length<=b_.sz α->fT (b_.cells (xs.getD i default)) j vs=b_.cells y->fT (fl xs) (i*b_.sz α+j) vs=fl (xs.set i y)
 | [],i,h,_,_=>by simp at h
 | x::xs,0,h,hj,hy=>by
  rw [lK,dm,kQ,Es _ _ _ _ (by rw [b_.len];exact hj)]
  simp only [List.getD_cons_zero] at hy
  rw [hy,List.set_cons_zero,kQ]
 | x::xs,i+1,h,hj,hy=>by
  rw [kQ,show (i+1)*b_.sz α+j=(b_.cells x).length+(i*b_.sz α+j) from by rw [b_.len,gZ,Nat.one_mul];omega,Gf,
   Bo y vs j xs i (by simpa using h) hj (by simpa using hy),List.set_cons_succ,kQ]
def ix [b_ α] (xs:List α) (i:Int):α:=xs.getD i.toNat default
def cut (xs:List α) (l h:Int):List α:=(xs.drop l.toNat).take (h.toNat-l.toNat)
theorem fq [b_ α] (xs:List α) (i:Int) (j:Nat) (hj:j<b_.sz α) (d:SV) (hd:(b_.cells (default:α)).getD j d=d):(fl xs).getD (i.toNat*b_.sz α+j) d=(b_.cells (ix xs i)).getD j d:=by
 by_cases h:i.toNat<xs.length
 ·exact E7 xs _ j h hj d
 ·have e:ix xs i=default:=by simp [ix,dA,nk (Nat.le_of_not_lt h)]
  rw [e,hd,dA,nk,Option.getD_none];rw [ic];have:xs.length*b_.sz α<=i.toNat*b_.sz α:=k8 _ (Nat.le_of_not_lt h);omega
theorem IN [b_ α] (xs:List α) (i:Int) (h:0<=i/\i<(xs.length:Int)):((fl xs).drop (i.toNat*b_.sz α)).take (b_.sz α)=b_.cells (ix xs i):=JA xs i.toNat (by omega)
theorem Km [b_ α] (xs:List α) (i:Int) (j:Nat) (h:0<=i/\i<(xs.length:Int)) (d:SV) (hj:j<b_.sz α):(fl xs).getD (i.toNat*b_.sz α+j) d=(b_.cells (ix xs i)).getD j d:=E7 xs i.toNat j (by omega) hj d
theorem Mb [b_ α] (xs:List α) (i:Int) (h:0<=i/\i<(xs.length:Int)) (y:α) (j:Nat) (vs:List SV) (hj:j+vs.length<=b_.sz α) (hy:fT (b_.cells (ix xs i)) j vs=b_.cells y):fT (fl xs) (i.toNat*b_.sz α+j) vs=fl (xs.set i.toNat y) :=
 Bo y vs j xs i.toNat (by omega) hj hy
theorem ro [b_ α] (xs:List α) (n:Nat) (h:n=xs.length*b_.sz α):(fl xs).take n=fl xs:=by
 rw [h,kI (by rw [ic];exact cF _)]
theorem IP [b_ α] (xs ys:List α):fl xs++fl ys=fl (xs++ys):=(fG xs ys).symm
theorem CW [b_ α] (xs:List (List α)) (y:List α):fl xs++[SV.sl y.length (fl y)]=fl (xs++[y]):=by rw [fG];rfl
theorem Et (xs:List Int) (y:Int):fl xs++[SV.v (.int .i64 y)]=fl (xs++[y]):=by rw [fG];rfl
theorem CX (xs:List Bool) (y:Bool):fl xs++[SV.v (.bool y)]=fl (xs++[y]):=by rw [fG];rfl
theorem Eu (xs:List Int) (y:Int):SV.v (.int .i64 y)::fl xs=fl (y::xs):=rfl
theorem CY [b_ α] (n:Nat) (cs:List SV) (h:cs=b_.cells (default:α)):((List.range n).flatMap λ_=>cs)=fl (List.replicate n (default:α)):=by
 subst h;induction n with
 | zero=>rfl
 | succ n ih=>rw [List.range_succ,uK,ih,List.replicate_succ',fG];simp [fl]
theorem Kn [b_ α] (τ:Nm->Nm) (xs:List α):jx τ (fl xs)=fl xs:=nX (BU xs)
theorem Mc:b_.sz Int=1:=rfl
theorem Ko:b_.sz Bool=1:=rfl
theorem Kp [b_ α]:b_.sz (List α)=1:=rfl
theorem HD (x:Int):b_.cells x=[SV.v (.int .i64 x)]:=rfl
theorem Gg (x:Bool):b_.cells x=[SV.v (.bool x)]:=rfl
theorem HE [b_ α] (x:List α):b_.cells x=[SV.sl x.length (fl x)]:=rfl
theorem Kq:List.range 0=[]:=rfl
theorem Kr:List.range 1=[0]:=rfl
theorem Ks:List.range 2=[0,1]:=rfl
theorem Kt:List.range 3=[0,1,2]:=rfl
theorem Ku:List.range 4=[0,1,2,3]:=rfl
theorem Kv:List.range 5=[0,1,2,3,4]:=rfl
theorem Kw:List.range 6=[0,1,2,3,4,5]:=rfl
def ql:List Nm->Nm->Bool
 | [],_=>false
 | a::r,k=>a.eqk k||ql r k
theorem oE:∀ {l:List Nm} {k:Nm},ql l k=true->mz l k
 | a::r,k,h=>by
  simp only [ql,kZ] at h
  rcases h with h|h
  ·exact ⟨a,by simp,Nm.eqk_iff.1 h⟩
  ·obtain ⟨j,hj,he⟩:=oE h
   exact ⟨j,by simp [hj],he⟩
theorem Md (l:List Nm) (k:Nm):mz l k=(ql l k=true):=by
 refine propext ⟨λ⟨j,hj,he⟩=>?_,oE⟩;induction l with
 | nil=>cases hj
 | cons a r ih =>
  simp only [ql,kZ];rcases fg.1 hj with rfl|hj
  ·exact .inl (Nm.eqk_iff.2 he)
  ·exact .inr (ih ⟨j,hj,he⟩ hj)
def sw (c:cp) (cs:List SV):Prop:=match c with
 | .row _ cs'=>cs'=cs
 | _=>False
theorem jq [b_ α] {hp hp':Hp} {σ:List (Nm×Nm)} {frz:List Nm} {k:Nm} {n n':Nat} (ys:List α) (h1:n=ys.length) (h23:ql frz k=true/\sw (bX hp k) (fl ys)) (h4:n'=ys.length):fv hp hp' σ frz (.own k 0 n) (.sl n' (fl ys))=True:=by
 obtain ⟨h2,h3⟩:=h23;refine eq_true ?_;simp only [fv];subst h1;refine ⟨h4.symm,oE h2,?_⟩;cases hk:bX hp k with
 | row e cs =>
  rw [hk] at h3;simp only [sw] at h3;subst h3;refine ⟨e,fl ys,ys.length*b_.sz α,rfl,λh0=>by rw [h0,lK],.inl ⟨BU ys,?_⟩⟩;rw [da,rA,ro ys _ rfl]
 | _=>rw [hk] at h3;exact h3.elim
theorem Gh [b_ α] (ys:List α) (b:Int):(fl (cut ys 0 b) <+: fl ys)=True:=by
 refine eq_true ?_;have:cut ys 0 b=ys.take b.toNat:=by simp [cut]
 rw [this,←E0];exact List.take_prefix _ _
def mi (m:List (Int×Int)):List (Value×SV):=m.map λp=>(.int .i64 p.1,.v (.int .i64 p.2))
def fX (m:List (Int×Int)) (k:Int):Int:=((m.find? λp=>k==p.1).map (·.2)).getD 0
def iy (m:List (Int×Int)) (k v:Int):List (Int×Int):=match m with
 | []=>[(k,v)]
 | p::r=>bif k==p.1 then (k,v)::r else p::iy r k v
theorem Me (m:List (Int×Int)):sY (mi m)=true:=by
 induction m with
 | nil=>rfl
 | cons p r ih=>simp only [mi,gv,sY,SV.st,rz];exact ih
theorem Mf:mi []=[]:=rfl
theorem CZ (m:List (Int×Int)) (k:Int):(mi m).all (λp=>gM (.int .i64 k) p.1)=true:=by simp [mi,gM]
theorem HF (k a:Int):gQ (.int .i64 k) (.int .i64 a)=(k==a):=by simp [gQ,kc]
theorem Av (k:Int):∀ (m:List (Int×Int)) (i:Nat),fc (.int .i64 k) (mi m) i=(m.findIdx? λp=>k==p.1).map λj=>(i+j,.v (.int .i64 (m.getD j (0,0)).2))
 | [],i=>rfl
 | p::r,i=>by
  show (bif gQ (.int .i64 k) (.int .i64 p.1) then _ else fc _ (mi r) (i+1))=_
  rw [HF,List.findIdx?_cons]
  cases h:k==p.1 with
  | true=>simp
  | false =>
   simp only [cj,Av k r (i+1)]
   cases (r.findIdx? λp=>k==p.1) with
   | none=>simp
   | some j=>simp;omega
theorem IQ (m:List (Int×Int)) (k:Int):gA (.int .i64 0) (.int .i64 k) (mi m) = .v (.int .i64 (fX m k)):=by
 unfold gA fX;induction m with
 | nil=>rfl
 | cons p r ih =>
  rw [Av] at ih ⊢;rw [List.findIdx?_cons,List.find?_cons];cases h:k==p.1 with
  | true=>simp
  | false =>
   simp only [fy,lJ];cases hr:(r.findIdx? λp=>k==p.1) with
   | none=>rw [hr] at ih;simpa using ih
   | some j=>rw [hr] at ih;simpa using ih
theorem Kx (m:List (Int×Int)) (k v:Int):lr (.int .i64 k) (.v (.int .i64 v)) (mi m)=mi (iy m k v):=by
 unfold lr;rw [Av];induction m with
 | nil=>rfl
 | cons p r ih =>
  rw [List.findIdx?_cons];unfold iy;cases h:k==p.1 with
  | true=>simp [mi]
  | false =>
   simp only [fy,lJ,cj];cases hr:(r.findIdx? λp=>k==p.1) with
   | none=>rw [hr] at ih;simp [mi] at ih ⊢;exact ih
   | some j=>rw [hr] at ih;simp [mi] at ih ⊢;exact ih
end
section
open Go.RowKit
variable {P:Program} {m N:Nat} {Q:g8} {fr:Fr} {hp:Hp} {nx:Nat} {ops:Array Oper}
theorem c7 {l:List Oper} {K:Fr->Hp->Nat->Prop} (h:d4 P false ops l fr hp nx [] K):lO P ops l fr hp nx (qE K):=h
theorem pp {l:List Oper} {acc:List fU} {K:Fr->Hp->Nat->Prop} (h:d4 P true ops l fr hp nx acc K):yx P ops l fr hp nx acc (qE K):=h
theorem cC {ρ:Type} {b:Bool} {X:Option ρ} {o:ρ} {G:Prop} (h:(bif b then X else none)=some o) (k:b=true->X=some o->G):G:=by
 cases b with
 | false=>cases h
 | true=>exact k rfl h
theorem ut {p b:Bool} (h:(!p||b)=true) (hp:p=true):b=true:=by subst hp;exact h
theorem lS {d:Bool} {l:List Oper} {acc:List fU} {K:Fr->Hp->Nat->Prop} {ρ:Type} {b:Bool} {X Y:Option ρ} {o:ρ} (h:(bif b then X else Y)=some o) (t:Nat) (ht:cL fr t = .v (.bool b)\/cL fr t = .gd true (.v (.bool b)))
  (k1:b=true->X=some o->d4 P d ops l ((t,bif (match cL fr t with | .gd _ _=>true|_=>false) then .gd true (.v (.bool true)) else .v (.bool true))::fr) hp nx acc K)
  (k2:b=false->Y=some o->d4 P d ops l ((t,bif (match cL fr t with | .gd _ _=>true|_=>false) then .gd true (.v (.bool false)) else .v (.bool false))::fr) hp nx acc K):d4 P d ops l fr hp nx acc K :=
 cK t b ht (λhb=>k1 hb (by rw [hb] at h;exact h)) (λhb=>k2 hb (by rw [hb] at h;exact h))
theorem ez {R:g8} {id:Nat} (hx:∀ id,R (.exit id)=Q (.exit id)) (h:Q (.exit id) fr hp nx):R (.exit id) fr hp nx:=by rw [hx];exact h
theorem fw {R:g8} (hx:R .ret=Q .ret) (h:Q .ret fr hp nx):R .ret fr hp nx:=by rw [hx];exact h
def vk (P:Program) (fr:Fr) (hp:Hp) (nx:Nat):List ResultVar->Option (List SV)
 | []=>some []
 | .tmp t::r=>(vk P fr hp nx r).map λxs=>cL fr t::xs
 | .cell a t::r=>match cL fr a with
  | .ptr k off=>match bX hp k with
   | .row _ cs=>bif vb P t cs off then (match kx P t cs off [k.key] nx with
    | .ok _ e=>(vk P fr hp nx r).map λxs=>e.val::xs
    | .bad=>none) else none
   | _=>none
  | _=>none
theorem xx:∀ (rs:List ResultVar) (xs:List SV) (K:List SV->Prop),vk P fr hp nx rs=some xs->K xs->wV P fr hp nx rs K
 | [],xs,K,h,k=>by cases h;exact k
 | .tmp t::r,xs,K,h,k=>by
  simp only [vk,mw] at h
  obtain ⟨ys,h1,rfl⟩:=h
  exact xx r ys (λxs=>K (cL fr t::xs)) h1 k
 | .cell a t::r,xs,K,h,k=>by
  simp only [vk] at h
  unfold wV oa
  split at h
  ·rename_i kk off ha
   rw [ha]
   simp only
   split at h
   ·rename_i e cs hk
    rw [hk]
    simp only [o_]
    rw [ff] at h
    split at h
    ·rename_i hb
     split at h
     ·rename_i s e ht
      rw [ht]
      simp only [mw] at h
      obtain ⟨ys,h1,rfl⟩:=h
      exact ⟨sX ht hb,xx r ys (λxs=>K (e.val::xs)) h1 k⟩
     ·cases h
    ·cases h
   ·cases h
  ·cases h
theorem C7 {rs:List ResultVar} {Post:SV->Hp->Nat->Prop} (x:SV) (h:(vk P fr hp nx rs).map u5=some x) (k:wW P m Post x hp):CC P rs m Post .ret fr hp nx:=by
 obtain ⟨ys,h1,rfl⟩:=mw.1 h;exact xx rs ys _ h1 k
theorem qm {rs:List ResultVar} {Post:SV->Hp->Nat->Prop} (x:SV) (h:(vk P fr hp nx rs).map u5=some x) (k:wW P m Post x hp):CC P rs m Post .normal fr hp nx:=by
 obtain ⟨ys,h1,rfl⟩:=mw.1 h;exact xx rs ys _ h1 k
theorem cn:ud []:=trivial
theorem bW {p:Prop} {l:List Prop} (h:p) (t:ud l):ud (p::l):=⟨h,t⟩
theorem i0 {s:Prop} {v v':SV} {u u':Hp} {n:Nat} {r:List Nm} (hs:s) (hv:v=v') (hu:u=u'):gH (.ok s ⟨v,u,n,r⟩) ⟨v',u',n,r⟩:=⟨hs,hv,hu,rfl,rfl⟩
variable {α:Type}
theorem eJ [b_ α] (xs:List α) (z nx:Nat) (i:Int) (k:0<=i/\i<(xs.length:Int)):gH (.ok (0<=i/\i<(xs.length:Int)) ⟨.iptr (fl xs) (i.toNat*z),[],nx,[]⟩) ⟨.iptr (fl xs) (i.toNat*z),[],nx,[]⟩:=i0 k rfl rfl
theorem eC (kk:Nm) (n off z nx:Nat) (i:Int) (k:0<=i/\i<(n:Int)):gH (.ok (0<=i/\i<(n:Int)) ⟨.ptr kk (off+i.toNat*z),[],nx,[kk.key]⟩) ⟨.ptr kk (off+i.toNat*z),[],nx,[kk.key]⟩:=i0 k rfl rfl
theorem gm [b_ α] (xs:List α) (i:Int) (z j off:Nat) (k:0<=i/\i<(xs.length:Int)) (hz:b_.sz α=z) (hj:j<z) (ho:off=i.toNat*z+j) (d v:SV) (hv:(b_.cells (ix xs i)).getD j d=v) (nx:Nat) (rds:List Nm):gH (.ok (off<(fl xs).length) ⟨(fl xs).getD off d,[],nx,rds⟩) ⟨v,[],nx,rds⟩:=by
 subst hz;have hlt:i.toNat<xs.length:=by omega
 have hle:(i.toNat+1)*b_.sz α<=xs.length*b_.sz α:=k8 _ hlt;rw [gZ] at hle;refine i0 ?_ ?_ rfl
 ·rw [ic];omega
 ·rw [ho,←hv];exact Km xs i j k d hj
theorem hM [b_ α] (xs:List α) (i:Int) (z off:Nat) (k:0<=i/\i<(xs.length:Int)) (hz:b_.sz α=z) (ho:off=i.toNat*z) (v:List SV) (hv:b_.cells (ix xs i)=v) (nx:Nat) (rds:List Nm):gH (.ok (off+z<=(fl xs).length) ⟨.agg (((fl xs).drop off).take z),[],nx,rds⟩) ⟨.agg v,[],nx,rds⟩:=by
 subst hz;have hlt:i.toNat<xs.length:=by omega
 have hle:(i.toNat+1)*b_.sz α<=xs.length*b_.sz α:=k8 _ hlt;rw [gZ] at hle;refine i0 ?_ ?_ rfl
 ·rw [ic];omega
 ·rw [ho,←hv];exact dJ SV.agg (IN xs i k)
theorem tL [b_ α] (xs:List α) (i:Int) (z j off:Nat) (k:0<=i/\i<(xs.length:Int)) (hz:b_.sz α=z) (vs:List SV) (y:α) (hj:j+vs.length<=z) (ho:off=i.toNat*z+j) (hy:fT (b_.cells (ix xs i)) j vs=b_.cells y) (kk:Nat) (nx e t:Nat) (hs:jI P t=some vs.length) (h1:vs.all i_=true) :
  gH (.ok (jI P t=some vs.length/\vs.all i_=true/\off+vs.length<=(fl xs).length) ⟨.any,[(Nm.t kk,.row e (fT (fl xs) off vs))],nx,[Nm.t kk]⟩) ⟨.any,[(Nm.t kk,.row e (fl (xs.set i.toNat y)))],nx,[Nm.t kk]⟩:=by
 subst hz;have hlt:i.toNat<xs.length:=by omega
 have hle:(i.toNat+1)*b_.sz α<=xs.length*b_.sz α:=k8 _ hlt;rw [gZ] at hle;refine i0 ⟨hs,h1,?_⟩ rfl ?_
 ·rw [ic];omega
 ·rw [ho,Mb xs i k y j vs hj hy]
theorem gU [b_ α] (xs ys:List α) (z B:Nat) (hz:b_.sz α=z) (news:List SV) (m:Nat) (hn:news=fl ys) (hm:m=ys.length) (s0:Prop) (h0:s0) (e:TypeId) (hB:P.bytesOf e=B) (hpos:0<B) (hle:(xs++ys).length*B<=140737488355328) (kk nx:Nat) (rds:List Nm) :
  gH (.ok (s0/\e=e/\news.length=m*z/\news.all i_=true/\0+xs.length*z<=(fl xs).length/\0<P.bytesOf e/\(xs.length+m)*P.bytesOf e<=140737488355328) ⟨.own nx 0 (xs.length+m),[(Nm.t nx,.row e (da (fl xs) 0 (xs.length*z)++news)),(Nm.t kk,.dead)],nx+1,Nm.t kk::rds⟩) ⟨.own nx 0 (xs++ys).length,[(Nm.t nx,.row e (fl (xs++ys))),(Nm.t kk,.dead)],nx+1,Nm.t kk::rds⟩:=by
 subst hz;subst hn;subst hm;subst hB;rw [dW] at hle ⊢;refine i0 ⟨h0,rfl,ic ys,CV ys,by rw [ic,dm];exact cF _,hpos,hle⟩ rfl ?_;rw [da,rA,ro xs _ rfl,fG]
theorem Ky [b_ α] (ys:List α) (z B:Nat) (hz:b_.sz α=z) (news:List SV) (m:Nat) (hn:news=fl ys) (hm:m=ys.length) (s0:Prop) (h0:s0) (e:TypeId) (hB:P.bytesOf e=B) (hpos:0<B) (hle:ys.length*B<=140737488355328) (nx:Nat) (rds:List Nm) :
  gH (.ok (s0/\news.length=m*z/\news.all i_=true/\0<P.bytesOf e/\m*P.bytesOf e<=140737488355328) ⟨.own nx 0 m,[(Nm.t nx,.row e news)],nx+1,rds⟩) ⟨.own nx 0 ys.length,[(Nm.t nx,.row e (fl ys))],nx+1,rds⟩:=by
 subst hz;subst hn;subst hm;subst hB;exact i0 ⟨h0,ic ys,CV ys,hpos,hle⟩ rfl rfl
theorem iL [b_ α] (ys:List α) (z:Nat) (hz:b_.sz α=z):da (fl ys) 0 (ys.length*z)=fl ys:=by
 subst hz;rw [da,rA,ro ys _ rfl]
theorem fL [b_ α] (ys:List α) (z:Nat) (hz:b_.sz α=z):0+ys.length*z<=(fl ys).length:=by
 subst hz;rw [ic,dm];exact cF _
theorem uu [b_ α] (ys:List α) (z:Nat) (hz:b_.sz α=z):(fl ys).length=ys.length*z:=by
 subst hz;exact ic ys
theorem NB [b_ α] (n:Int) (e:TypeId) (B:Nat) (hB:P.bytesOf e=B) (zs:List SV) (hzs:zs=b_.cells (default:α)) (z:Nat) (hz:zs.length=z) (hpos:0<z) (k:0<=n/\n<=4611686018427387904/\(B:Int)*n<=140737488355328) (nx:Nat) :
  gH (.ok (0<=n/\n<=n/\n<=4611686018427387904/\(P.bytesOf e:Int)*n<=140737488355328/\zs.length=z/\0<z) ⟨.own nx 0 n.toNat,[(Nm.t nx,.row e ((List.range n.toNat).flatMap λ_=>zs))],nx+1,[]⟩) ⟨.own nx 0 (List.replicate n.toNat (default:α)).length,[(Nm.t nx,.row e (fl (List.replicate n.toNat (default:α))))],nx+1,[]⟩:=by
 subst hB;refine i0 ⟨k.1,iW _,k.2.1,k.2.2,hz,hpos⟩ (by rw [rB]) (by rw [CY n.toNat zs hzs])
theorem uv (d:TypeDesc) (hd:lZ d (.int .i64 0)=true) (k:Int) (mm:List (Int×Int)) (kk:Nm) (nx:Nat):gH (.ok (lZ d (.int .i64 k)=true/\(mi mm).all (λp=>gM (.int .i64 k) p.1)=true) ⟨gA (.int .i64 0) (.int .i64 k) (mi mm),[],nx,[kk.key]⟩) ⟨.v (.int .i64 (fX mm k)),[],nx,[kk.key]⟩ :=
 i0 ⟨hd,CZ mm k⟩ (IQ mm k) rfl
theorem qV (d:TypeDesc) (hd:lZ d (.int .i64 0)=true) (k v:Int) (mm:List (Int×Int)) (kk nx:Nat):gH (.ok (lZ d (.int .i64 k)=true/\(mi mm).all (λp=>gM (.int .i64 k) p.1)=true) ⟨.any,[(Nm.t kk,.map (lr (.int .i64 k) (.v (.int .i64 v)) (mi mm)))],nx,[Nm.t kk]⟩) ⟨.any,[(Nm.t kk,.map (mi (iy mm k v)))],nx,[Nm.t kk]⟩ :=
 i0 ⟨hd,CZ mm k⟩ rfl (by rw [Kx])
theorem Aw {s:Prop} {v:SV} {nx:Nat} {r:List Nm} (hs:s):gH (.ok s ⟨v,[],nx,r⟩) ⟨v,[],nx,r⟩:=i0 hs rfl rfl
theorem rs {d:Bool} {l:List Oper} {acc:List fU} {K:Fr->Hp->Nat->Prop} (n:Nat) (sc:List (Option dx)) (obs:List Prop) (h:((gk P d ops n l sc ⟨fr,hp,nx,acc,[]⟩).map (·.obs))=some obs) (ho:ud obs)
  (k:d4 P d ops (l.drop n) (iO (gk P d ops n l sc ⟨fr,hp,nx,acc,[]⟩)).fr (iO (gk P d ops n l sc ⟨fr,hp,nx,acc,[]⟩)).hp (iO (gk P d ops n l sc ⟨fr,hp,nx,acc,[]⟩)).nx (iO (gk P d ops n l sc ⟨fr,hp,nx,acc,[]⟩)).acc K):d4 P d ops l fr hp nx acc K:=by
 obtain ⟨s,h1,h2⟩:=mw.1 h;exact Kk n sc obs (by rw [h1];rfl) (by rw [h1];exact h2) ho k
theorem rf {l:List Oper} {acc:List fU} {K:Fr->Hp->Nat->Prop} (fr':Fr) (hp':Hp) (nx':Nat) (h:(l,oT fr fr',l_ hp hp',lj hp hp',nx)=([],fr',hp',true,nx')) (k:K fr' hp' nx'):d4 P false ops l fr hp nx acc K:=by
 simp only [iJ] at h;exact Nz fr' hp' nx' h.1 h.2.1 h.2.2.1 h.2.2.2.1 h.2.2.2.2 k
theorem rt {l:List Oper} {acc:List fU} {K:Fr->Hp->Nat->Prop} (fr':Fr) (hp':Hp) (nx':Nat) (h5:P.follows .mixedOrders=true) (h:(l,oT fr fr',l_ hp hp',lj hp hp',nx,m3 ops acc (w3 ops.toList))=([],fr',hp',true,nx',true)) (k:K fr' hp' nx'):d4 P true ops l fr hp nx acc K:=by
 simp only [iJ] at h;exact NA fr' hp' nx' h.1 h.2.1 h.2.2.1 h.2.2.2.1 h.2.2.2.2.1 h5 h.2.2.2.2.2 k
end
section
open Go.RowKit
theorem Gi (e:TypeId) (cs:List SV):sw (.row e cs) cs=True:=eq_true rfl
theorem Kz (a b:Nat):Nat.ble a b=decide (a<=b):=by rw [sN];simp
attribute [push_cast] Kz cond_true cond_false Bool.and_true Bool.true_and Bool.or_true Bool.true_or Bool.or_false Bool.false_or Bool.and_false Bool.false_and Bool.and_self Bool.not_true Bool.not_false decide_true decide_false
attribute [push_cast] List.map_cons List.map_nil List.length_cons List.length_nil List.cons_append List.nil_append List.length_append List.append_nil List.length_set List.length_replicate
attribute [push_cast high] ro jq
attribute [push_cast] true_or or_true false_or or_false List.all_cons List.all_nil wL iX
attribute [push_cast] Gh ic L_ IP CW Et CX Eu Kn Mc Ko Kp HD Gg HE ql Gi Mf Me
theorem Mg (n:Nat):(OfNat.ofNat n:Nm) = .t n:=rfl
theorem Mh (a b:Nat):Nm.eqk (.t a) (.t b)=(a==b):=rfl
theorem Mi (a F:Nat) (i:Int):Nm.eqk (.t a) (.s F i)=false:=rfl
theorem Mj (a F:Nat) (i:Int):Nm.eqk (.s F i) (.t a)=false:=rfl
theorem Mk (F G:Nat) (i j:Int):Nm.eqk (.s F i) (.s G j)=(F==G):=rfl
theorem NC (c:cp) (k:Nat):c.mem (.t k)=c:=rfl
theorem ND (c:cp) (F:Nat) (i:Int):c.mem (.s F i)=c.at i:=rfl
theorem OB (j:Nm) (k:Nat):j.to (.t k)=j:=rfl
theorem OC (G F:Nat) (i j:Int):Nm.to (.s G j) (.s F i) = .s G i:=rfl
theorem NE (hp hp':Hp) (σ:List (Nm×Nm)) (frz:List Nm) (k:Nat) (c:cp):zH hp hp' σ frz (.t k) c=n8 hp hp' σ frz (.t k) c:=rfl
theorem NF (hp hp':Hp) (σ:List (Nm×Nm)) (frz:List Nm) (F:Nat) (z:Int) (c:cp):zH hp hp' σ frz (.s F z) c =∀i:Int,n8 hp hp' σ frz (.s F i) (c.at i):=rfl
theorem Ml (a b:Nat):((Nm.t a)==(Nm.t b))=(a==b):=rfl
theorem Mm (a F:Nat) (i:Int):((Nm.t a)==(Nm.s F i))=false:=rfl
theorem Mn (a F:Nat) (i:Int):((Nm.s F i)==(Nm.t a))=false:=rfl
attribute [push_cast] Mg Mh Mi Mj Mk NC ND OB OC NE NF Ml Mm Mn Nm.t.injEq Nm.s.injEq n8
attribute [push_cast] Md
section
variable {hp hp':Hp} {σ:List (Nm×Nm)} {frz:List Nm}
theorem KA (s:SV):fv hp hp' σ frz s .any=True:=by simp only [fv]
theorem KB (k k':Nm) (o n o' n':Nat):fv hp hp' σ frz (.own k o n) (.own k' o' n')=(di σ k'=some k/\o=o'/\n=n'/\(bX hp' k').live=true):=by simp only [fv]
theorem IR (x:Value) (k':Nm) (o' n':Nat):fv hp hp' σ frz (.v x) (.own k' o' n')=(x = .slice none 0 0/\o'=0/\n'=0/\(bX hp' k').live=true/\di σ k'=none):=by simp only [fv]
theorem KC (k k':Nm) (o o':Nat):fv hp hp' σ frz (.ptr k o) (.ptr k' o')=(di σ k'=some k/\o=o'/\(bX hp' k').live=true):=by simp only [fv]
theorem Mo (k k':Nm):fv hp hp' σ frz (.mp k) (.mp k')=(di σ k'=some k/\(bX hp' k').live=true):=by simp only [fv]
theorem Mp (k k':Nm):fv hp hp' σ frz (.it k) (.it k')=(di σ k'=some k/\(bX hp' k').live=true):=by simp only [fv]
theorem KD (xs ys:List SV):fv hp hp' σ frz (.agg xs) (.agg ys)=((iu ys=true/\xs=ys)\/lR hp hp' σ frz xs ys):=by simp only [fv]
theorem KE (xs ys:List SV):fv hp hp' σ frz (.tup xs) (.tup ys)=lR hp hp' σ frz xs ys:=by simp only [fv]
theorem KF (f f':FuncId) (xs ys:List SV):fv hp hp' σ frz (.clo f xs) (.clo f' ys)=(f=f'/\lR hp hp' σ frz xs ys):=by simp only [fv]
theorem KG (t t':String) (x y:SV):fv hp hp' σ frz (.mth t x) (.mth t' y)=(t=t'/\fv hp hp' σ frz x y):=by simp only [fv]
theorem KH (t t':TypeId) (x y:SV):fv hp hp' σ frz (.ifc t x) (.ifc t' y)=(t=t'/\fv hp hp' σ frz x y):=by simp only [fv]
theorem KI (x:Value) (n':Nat) (cs':List SV):fv hp hp' σ frz (.v x) (.sl n' cs')=(x = .slice none 0 0/\n'=0/\cs'=[]):=by simp only [fv]
theorem IS (n n':Nat) (cs cs':List SV):fv hp hp' σ frz (.sl n cs) (.sl n' cs')=(n=n'/\cs=cs'/\mO cs=true):=by simp only [fv]
def HG (hp hp':Hp) (σ:List (Nm×Nm)) (frz:List Nm) (c:cp) (cs':List SV):Prop:=match c with
 | .row _ cs=>lR hp hp' σ frz cs cs'
 | _=>False
theorem Gj (e:TypeId) (cs cs':List SV):HG hp hp' σ frz (.row e cs) cs'=lR hp hp' σ frz cs cs':=propext Iff.rfl
theorem KJ {k:Nm} {o o':Nat} {cs':List SV} (h:o=o'/\ql frz k=true/\HG hp hp' σ frz (bX hp k) cs'):fv hp hp' σ frz (.ptr k o) (.iptr cs' o')=True:=by
 obtain ⟨rfl,h2,h3⟩:=h;refine eq_true ?_;simp only [fv];refine ⟨trivial,oE h2,?_⟩;cases hk:bX hp k with
 | row e cs =>
  rw [hk] at h3;obtain ⟨l1,l2⟩:=sJ h3;exact ⟨e,cs,rfl,Nat.le_of_eq l1.symm,λP i x y hx hy=>mC (l2 i x y hx hy)⟩
 | _=>rw [hk] at h3;exact h3.elim
theorem IT (o o':Nat) (cs cs':List SV):fv hp hp' σ frz (.iptr cs o) (.iptr cs' o')=(cs=cs'/\o=o'/\mO cs=true):=by simp only [fv]
theorem NG (s:SV) (y:Value):fv hp hp' σ frz s (.v y)=(s = .v y):=by simp only [fv]
end
attribute [push_cast] KA KB IR KC Mo Mp KD KE KF KH KG KI IS KJ IT NG Gj
attribute [push_cast] lR CL pm Bj Hy IJ GT Iw rF Ix iu SV.st sY mO SV.cl kR BU CV cp.live eq_self Option.some.injEq and_self and_true true_and SV.nim iX t_ wL iA jx ip
end
section
open Go.RowKit
variable {P:Program} {m N:Nat} {Q:g8} {fr:Fr} {hp:Hp} {nx:Nat} {ops:Array Oper}
theorem w_ {dt:Bool} {o:Oper} {K:SV->Hp->Nat->List Nm->Prop} (hd:pC ops fr o=some true) (hg:o.guard.isNone || !lN P o.op=true) (hc:jb true fr o.op=none) (hso:u4 o.op=true) (hs:wQ dt P o fr hp nx K):iw dt P ops o fr hp nx K:=by
 have core:kA dt P true o fr hp nx K:=by
  unfold kA;rw [hc];exact .inl ⟨rfl,hso,hs⟩
 unfold iw;unfold pC at hd;cases hq:o.guard with
 | none=>exact core
 | some jw =>
  rw [hq] at hd hg;simp only at hd ⊢;rw [hd];have:lN P o.op=false:=by simpa using hg
  simp only [this,cj];exact ⟨λ_=>core,(λhe=>by cases he)⟩
def JB (P:Program) (fr:Fr):List Oper->Option (Nat×Option Tmp)
 | o::_=>match o.guard,o.op with
  | none,.binOp .eql t x (.const (.slice none 0 0)) _=>match P.underlying t,dC true fr x with
   | some (.slice _),.sl n _=>some (n,o.dst)
   | _,_=>none
  | _,_=>none
 | []=>none
theorem HH {P:Program} {t e:TypeId} (hu:P.underlying t=some (.slice e)) (a:Option Addr) (n cap:Nat) (w:World) :
  (binOp .eql t (.slice a n cap) (.slice none 0 0)).run P w = .ok (.bool a.isNone) w:=by
 have h0:∀ D,(Op.equalIn (D+1) t (.slice a n cap) (.slice none 0 0)).run P w = .ok a.isNone w:=λD=>by
  cases a<;>simp [Op.equalIn,dF hu]
 have h:(Op.equal t (.slice a n cap) (.slice none 0 0)).run P w = .ok a.isNone w:=h0 9999;simp only [binOp,c_,h];rfl
theorem Ax {l:List Oper} {acc:List fU} {K:Fr->Hp->Nat->Prop} (n:Nat) (dst:Option Tmp) (h:JB P fr l=some (n,dst))
  (k1:n=0->d4 P false ops (l.drop 1) (gh dst (.v (.bool true)) fr) hp nx acc K) (k2:d4 P false ops (l.drop 1) (gh dst (.v (.bool false)) fr) hp nx acc K):d4 P false ops l fr hp nx acc K:=by
 cases l with
 | nil=>cases h
 | cons o rest =>
  simp only [JB] at h;split at h
  ·rename_i t x ty hg ho;split at h
   ·rename_i et n' cs hu hx;simp only [fP,iJ] at h;obtain ⟨rfl,rfl⟩:=h;show iw false P ops o fr hp nx _;refine w_ (by unfold pC;rw [hg]) (by rw [hg];rfl) (by rw [ho];rfl) (by rw [ho];rfl) ?_;intro X ids w fr' hp' a hP h1 h2 h3 h4 h5 h6 KK Q hK;subst hP;have hx':dC true fr' x = .sl n' cs:=by
     rw [←hx];exact rI λt' ht=>h4 t' (p6 (o:=o.op) (by rw [ho];simp [Op.operands]) ht)
    have hev:=rH h3 (g:=true) rfl x;rw [hx'] at hev;obtain ⟨ad,cap,hv,hnil⟩:∃ (ad:Option Addr) (cap:Nat),a.eval x = .slice ad n' cap/\(ad=none->n'=0):=by
     rcases sP hev with ⟨ad,cap,hv,_,_,hd⟩;generalize hgen:a.eval x=y at hev hv;cases hev with
     | sl0 hc=>exact ⟨_,_,rfl,λ_=>rfl⟩
     | sl b o cap c hb hn hcap hc hx=>exact ⟨_,_,rfl,λhe=>by cases he⟩
    have hrun:(execOp a.eval o).run X.P w = .ok (.value (.bool ad.isNone)) w:=by
     unfold execOp;rw [ho];simp only [c_];rw [hv,show a.eval (.const (.slice none 0 0)) = .slice none 0 0 from rfl,ld (by simp) (by simp)];simp only [dv,HH hu,eK]
    refine mZ (.inl hrun) ?_;cases ad with
    | none=>exact hK (.v (.bool true)) [] nx [] _ w ids (k1 (hnil rfl)) ⟨cF _,λp hp=>by cases hp⟩ h1 (ku.refl _ _ _ _) .v
    | some q=>exact hK (.v (.bool false)) [] nx [] _ w ids k2 ⟨cF _,λp hp=>by cases hp⟩ h1 (ku.refl _ _ _ _) .v
   ·cases h
  ·cases h
def s8 (P:Program) (ops:Array Oper) (fr:Fr):List Oper->Option Oper
 | o::_=>match pC ops fr o,jb true fr o.op with
  | some true,none=>bif o.guard.isNone || !lN P o.op then some o else none
  | _,_=>none
 | []=>none
theorem xy {d:Bool} {l:List Oper} {acc:List fU} {K:Fr->Hp->Nat->Prop} (o:Oper) (e:dx) (h:s8 P ops fr l=some o) (hle:nx<=e.nx) (hso:u4 o.op=true) (hs:n7 P o fr hp nx (tI e))
  (k:d4 P d ops (l.drop 1) (gh o.dst e.val fr) (e.upd++hp) (bif d then e.nx+1 else e.nx) (acc++[⟨e.upd.map (·.1.key),e.rds,nx,e.nx⟩]) K):d4 P d ops l fr hp nx acc K:=by
 cases l with
 | nil=>cases h
 | cons o' rest =>
  simp only [s8] at h;split at h
  ·rename_i h1 h2;rw [ff] at h;split at h
   ·rename_i h3;cases h;cases d with
    | false=>exact w_ h1 (by simpa using h3) h2 hso (K:=λval upd nx' _=>lO P ops rest (gh o.dst val fr) (upd++hp) nx' (qE K)) (hs.mono rfl λv u n r he=>by obtain ⟨rfl,rfl,rfl,rfl⟩:=he;exact k)
    | true=>exact w_ (dt:=true) (hp:=hp) (nx:=nx) (P:=P) h1 (by simpa using h3) h2 hso (K:=λval upd nx' rds=>yx P ops rest (gh o.dst val fr) (upd++hp) (nx'+1) (acc++[fU.mk (upd.map (·.1.key)) rds nx nx']) (qE K)) ⟨e,hle,k,hs⟩
   ·cases h
  ·cases h
theorem E8 {o:Oper} {e:dx} (hk:uZ hp nx e.upd e.nx e.rds)
  (h:∀ (X:Cx) (ids:dE) (w:World) (fr':Fr) (hp':Hp) (a:Act),X.P=P->dS X hp' nx ids w->(∀ d,cV X hp' ids w (cL fr' d) (a.tmps.getD d undef))->(∀ x,x∈o.op.operands.toList->dC true fr' x=dC true fr x)->(∀ k:Nm,k.key∈e.rds->bX hp' k=bX hp k) ->
   zl X hp' ids w ((execOp a.eval o).run X.P w) e):n7 P o fr hp nx (tI e):=by
 intro X ids w fr' hp' a hP h1 h2 h3 h4 h5 h6 KK Q hK;obtain ⟨h7,h8⟩:=h6 e.val e.upd e.nx e.rds ⟨rfl,rfl,rfl,rfl⟩;obtain ⟨x,w',ids',g1,g2,g3,g4⟩:=h X ids w fr' hp' a hP ⟨h1,h5,h2⟩ h3 (λx hx=>rI λt ht=>h4 t (p6 hx ht)) h8;subst hP;exact mZ g1 (hK _ _ _ _ _ _ _ ⟨rfl,rfl,rfl,rfl⟩ hk g2 g3 g4)
theorem IU {o:Oper} {t e:TypeId} {x:Operand} {lo hi:Option Operand} {k:Nm} {z n:Nat} {cs:List SV} {l h:Int} (ho:o.op = .slice t x lo hi none) (hst:ja P t=some (e,z)) (hx:dC true fr x = .own k 0 n) (hrow:bX hp k = .row e cs) (hz:P.cellsOf e=z)
  (b1:li (lo.map (dC true fr)) 0=some l) (b2:li (hi.map (dC true fr)) n=some h) (h0:0<=l) (h1:l<=h) (h2:h<=n) (hn:n*z<=cs.length) :
  n7 P o fr hp nx (tI ⟨.own nx 0 (h.toNat-l.toNat),[(Nm.t nx,.row e (da cs (l.toNat*z) ((h.toNat-l.toNat)*z))),ea k .dead hp],nx+1,[k.key]⟩):=by
 have hlk:(bX hp k).live=true:=by rw [hrow];rfl
 refine E8 ⟨ol _,λp hp1=>?_⟩ ?_
 ·rcases fg.1 hp1 with rfl|hp1
  ·exact .inl ⟨cF _,tv _⟩
  ·rcases fg.1 hp1 with rfl|hp1
   ·exact .inr ⟨by simp [g7],k,by simp [g7],iY hlk⟩
   ·cases hp1
 intro X ids w fr' hp' a hP hH hf hev hrd;subst hP;rw [←lu (c:=.dead) hrd (List.mem_cons_self ..)];have hx':dC true fr' x = .own k 0 n:=by rw [hev x (by rw [ho];simp [Op.operands]),hx]
 have hrow':bX hp' k = .row e cs:=by rw [hrd k (List.mem_cons_self ..),hrow]
 have hlk':(bX hp' k).live=true:=by rw [hrow'];rfl
 have hd:=rH hf (g:=true) rfl x;rw [hx'] at hd;have hl':lo.map (dC true fr')=lo.map (dC true fr):=by
  cases lo with
  | none=>rfl
  | some q=>simp only [fp];rw [hev q (by rw [ho];simp [Op.operands])]
 have hh':hi.map (dC true fr')=hi.map (dC true fr):=by
  cases hi with
  | none=>rfl
  | some q=>simp only [fp];rw [hev q (by rw [ho];simp [Op.operands])]
 rw [←hl'] at b1;rw [←hh'] at b2;have hb1:oA (lo.map a.eval) 0 l:=j5 b1 (λhn=>by cases lo with|none=>rfl|some q=>cases hn) (λs hs=>by
  cases lo with
  | none=>cases hs
  | some q=>cases hs;exact ⟨_,rfl,rH hf (g:=true) rfl q⟩)
 have hb2:oA (hi.map a.eval) n h:=j5 b2 (λhn=>by cases hi with|none=>rfl|some q=>cases hn) (λs hs=>by
  cases hi with
  | none=>cases hs
  | some q=>cases hs;exact ⟨_,rfl,rH hf (g:=true) rfl q⟩)
 obtain ⟨i,hu,hi',rfl⟩:=gP hst;obtain ⟨ad,cap,hv,c1,c2,c4,c3⟩:=md hd hlk';have hkn:k≠nx:=λe'=>by subst e';rw [hH.fresh] at hlk';cases hlk'
 have hle:l.toNat*i.size+(h.toNat-l.toNat)*i.size<=cs.length:=by
  rw [←gZ];exact mb (k8 _ (by omega)) hn
 have hal:(da cs (l.toNat*i.size) ((h.toNat-l.toNat)*i.size)).length=(h.toNat-l.toNat)*i.size:=by
  simp only [da,gL,jz];omega
 obtain ⟨g1,g2⟩:=xR hH hrow' (cs':=da cs (l.toNat*i.size) ((h.toNat-l.toNat)*i.size)) (off:=l.toNat*i.size) (by rw [hal];exact hle) (λj y hj=>(jJ hj).2);refine ⟨.slice (if cap=l.toNat then ad else ad.map (·.add (l.toNat*i.size))) (h.toNat-l.toNat) (cap-l.toNat),w,_,.inl ?_,g1,g2,?_⟩
 ·unfold execOp;rw [ho];simp only [hv,c_];have:=mQ hu hi' ad n cap hb1 hb2 h0 h1 h2 c1 w;simp only [Option.map_none] at this ⊢;rw [this];rfl
 ·refine .own _ _ (by
   show (bX ((Nm.t nx,cp.row e _)::ea k .dead hp'::hp') nx).live=true;rw [dw,cH];rfl) ⟨by omega,by omega,λe2 cs2 hc2=>?_,?_⟩
  ·replace hc2:bX ((Nm.t nx,cp.row e _)::ea k .dead hp'::hp') nx=_:=hc2;rw [dw,cH] at hc2;cases hc2;rw [hal,hz,dm];exact k8 _ (by omega)
  by_cases hc:cap=l.toNat
  ·exact .inl ⟨by omega,by omega⟩
  ·rw [if_neg hc];rcases c3 with ⟨_,rfl⟩|⟨b,o',e2,cs2,arr,hC,hid,rfl,hw,hsz⟩
   ·exact .inl ⟨by omega,by omega⟩
   ·rw [hrow'] at hC;cases hC;refine .inr ⟨b,o'+l.toNat*i.size,e,_,arr,by
     show bX ((Nm.t nx,cp.row e _)::ea k .dead hp'::hp') nx=_;rw [dw,cH],by rw [cH,hid];rfl,by simp only [fp,qb,eG],hw,?_⟩
    rw [hz] at hsz ⊢;have:l.toNat*i.size+(cap-l.toNat)*i.size=cap*i.size:=by rw [←gZ];congr 1;omega
    omega
variable {α:Type}
theorem cut_len (ys:List α) (l h:Int) (k:0<=l/\l<=h/\h<=(ys.length:Int)):(cut ys l h).length=h.toNat-l.toNat:=by
 simp only [cut,gL,jz];omega
theorem xb [b_ α] (ys:List α) (l h:Int):da (fl ys) (l.toNat*b_.sz α) ((cut ys l h).length*b_.sz α)=fl (cut ys l h):=by
 rw [Ma];congr 1;simp only [cut,gL,jz];rw [List.take_eq_take_iff];simp
def JC (P:Program) (ops:Array Oper) (fr:Fr) (hp:Hp) (l:List Oper):Option (Option Tmp×Nm×Nat×TypeId×List SV×Nat×Int×Int):=match s8 P ops fr l with
 | some o=>match o.op with
  | .slice t x lo hi none=>match ja P t,dC true fr x with
   | some (e,z),.own k 0 n=>match bX hp k,li (lo.map (dC true fr)) 0,li (hi.map (dC true fr)) n with
    | .row e' cs,some a,some b=>bif e'==e&&P.cellsOf e==z then some (o.dst,k,n,e,cs,z,a,b) else none
    | _,_,_=>none
   | _,_=>none
  | _=>none
 | none=>none
theorem vl [b_ α] {d:Bool} {l:List Oper} {acc:List fU} {K:Fr->Hp->Nat->Prop} (ys:List α) (dst:Option Tmp) (k:Nm) (z:Nat) (e:TypeId) (a b:Int) (hc:JC P ops fr hp l=some (dst,k,ys.length,e,fl ys,z,a,b)) (hz:b_.sz α=z) (hb:0<=a/\a<=b/\b<=(ys.length:Int))
  (h:d4 P d ops (l.drop 1) (gh dst (.own nx 0 (cut ys a b).length) fr) ([(Nm.t nx,.row e (fl (cut ys a b))),ea k .dead hp]++hp) (bif d then nx+2 else nx+1) (acc++[⟨[Nm.t nx,(ea k .dead hp).1.key],[k.key],nx,nx+1⟩]) K):d4 P d ops l fr hp nx acc K:=by
 unfold JC at hc;split at hc
 ·rename_i o ho;split at hc
  ·rename_i t x lo hi hop;split at hc
   ·rename_i e1 z1 k1 n1 hst hx;split at hc
    ·rename_i e2 cs a1 b1 hrow h1 h2;rw [ff] at hc;split at hc
     ·rename_i hq;simp only [cT,jC] at hq;simp only [fP,iJ] at hc;obtain ⟨rfl,rfl,rfl,rfl,rfl,rfl,rfl,rfl⟩:=hc;obtain ⟨rfl,hcz⟩:=hq;subst hz;have:=IU (P:=P) (fr:=fr) (hp:=hp) (nx:=nx) hop hst hx hrow hcz h1 h2 hb.1 hb.2.1 hb.2.2 (by rw [ic];exact cF _);rw [←cut_len ys _ _ hb,xb] at this;exact xy o _ ho (ol _) (by rw [hop];rfl) this h
     ·cases hc
    ·cases hc
   ·cases hc
  ·cases hc
 ·cases hc
theorem qW [b_ α] (ys:List α) (a b:Int) (z nx:Nat) (k:Nm) (e:TypeId) (hz:P.cellsOf e=z) (hb:0<=a/\a<=b/\b<=(ys.length:Int)):gH (.ok (P.cellsOf e=z/\0<=a/\a<=b/\b<=(ys.length:Int)) ⟨.own k (0+a.toNat*z) (b.toNat-a.toNat),[],nx,[k.key]⟩) ⟨.own k (a.toNat*z) (cut ys a b).length,[],nx,[k.key]⟩ :=
 i0 ⟨hz,hb⟩ (by rw [cut_len ys a b hb,dm]) rfl
theorem E9 [b_ α] (ys:List α) (a b:Int) (z:Nat) (hz:b_.sz α=z):da (fl ys) (a.toNat*z) ((cut ys a b).length*z)=fl (cut ys a b):=by
 subst hz;exact xb ys a b
theorem zO [b_ α] (ys:List α) (a b:Int) (z:Nat) (hz:b_.sz α=z) (hb:0<=a/\a<=b/\b<=(ys.length:Int)):a.toNat*z+(cut ys a b).length*z<=(fl ys).length:=by
 subst hz;rw [ic,cut_len ys a b hb,←gZ];exact k8 _ (by omega)
theorem kS [b_ α] {hp hp':Hp} {σ:List (Nm×Nm)} {frz:List Nm} {k:Nm} {n n' off:Nat} (ys:List α) (a b:Int) (h0:off=a.toNat*b_.sz α) (h1:n=(cut ys a b).length) (h23:ql frz k=true/\sw (bX hp k) (fl ys)) (h4:n'=(cut ys a b).length):fv hp hp' σ frz (.own k off n) (.sl n' (fl (cut ys a b)))=True:=by
 obtain ⟨h2,h3⟩:=h23;refine eq_true ?_;simp only [fv];subst h0;subst h1;refine ⟨h4.symm,oE h2,?_⟩;cases hk:bX hp k with
 | row e cs =>
  rw [hk] at h3;simp only [sw] at h3;subst h3;exact ⟨e,fl ys,(cut ys a b).length*b_.sz α,rfl,λh0=>by rw [h0,lK],.inl ⟨BU ys,(xb ys a b).symm⟩⟩
 | _=>rw [hk] at h3;exact h3.elim
attribute [push_cast high] kS
def JD (P:Program) (ops:Array Oper) (fr:Fr) (l:List Oper):Option (Option Tmp×TypeId):=match s8 P ops fr l with
 | some o=>match o.op with
  | .buildSlice t 0 ps=>match ja P t with
   | some (e,_)=>bif ps.size==0 then some (o.dst,e) else none
   | none=>none
  | _=>none
 | none=>none
theorem KL {o:Oper} {t e:TypeId} {z:Nat} (ho:o.op = .buildSlice t 0 #[]) (hst:ja P t=some (e,z)):n7 P o fr hp nx (tI ⟨.own nx 0 0,[(Nm.t nx,.row e [])],nx+1,[]⟩):=by
 refine E8 ⟨ol _,λp hp1=>?_⟩ ?_
 ·rcases fg.1 hp1 with rfl|hp1
  ·exact .inl ⟨cF _,tv _⟩
  ·cases hp1
 intro X ids w fr' hp' a hP hH hf hev hrd;subst hP;obtain ⟨i,hu,hi',rfl⟩:=gP hst;obtain ⟨g1,g2⟩:=heap_alloc hH (e:=e) (cs:=[]) (arr:=#[]) (cF _) (λj x hj=>by simp at hj);refine ⟨.slice (some ⟨w.heap.size,0,none⟩) 0 0,_,_,.inl ?_,g1,g2,?_⟩
 ·unfold execOp;rw [ho];simp [Instr.buildSlice,dF hu,sizeOf,typeInfo,hi',Instr.fill,newRow,show Array.range 0 = #[] from by decide]
 ·refine .own _ _ (by
   show (bX ((nx,cp.row e _)::hp') nx).live=true;rw [dw,cH];rfl) ⟨cF _,by unfold maxLen;omega,λe2 cs2 hc2=>by
    replace hc2:bX ((nx,cp.row e _)::hp') nx=_:=hc2;rw [dw,cH] at hc2;cases hc2;exact hU _,.inl ⟨rfl,rfl⟩⟩
theorem Ay {d:Bool} {l:List Oper} {acc:List fU} {K:Fr->Hp->Nat->Prop} (α:Type) [b_ α] (dst:Option Tmp) (e:TypeId) (hc:JD P ops fr l=some (dst,e))
  (h:d4 P d ops (l.drop 1) (gh dst (.own nx 0 ([]:List α).length) fr) ([(Nm.t nx,.row e (fl ([]:List α)))]++hp) (bif d then nx+2 else nx+1) (acc++[⟨[nx],[],nx,nx+1⟩]) K):d4 P d ops l fr hp nx acc K:=by
 unfold JD at hc;split at hc
 ·rename_i o ho;split at hc
  ·rename_i t ps hop;split at hc
   ·rename_i e1 z1 hst;rw [ff] at hc;split at hc
    ·rename_i hq;have hps:ps = #[]:=by simpa using hq
     subst hps;simp only [fP,iJ] at hc;obtain ⟨rfl,rfl⟩:=hc;exact xy o _ ho (ol _) (by rw [hop];rfl) (KL hop hst) h
    ·cases hc
   ·cases hc
  ·cases hc
 ·cases hc
theorem IV {xs ys:List SV} (h:iX xs=true) (g:iX ys=true):iX (xs++ys)=true:=by
 induction xs with
 | nil=>exact g
 | cons x xs ih=>simp only [iX,cT,iz] at h ⊢;exact ⟨h.1,ih h.2⟩
theorem m4 [b_ α] (h:∀ x:α,iX (b_.cells x)=true) (xs:List α):iX (fl xs)=true:=by
 induction xs with
 | nil=>rfl
 | cons x xs ih=>rw [kQ];exact IV (h x) ih
@[push_cast] theorem OP (xs:List Int):iX (fl xs)=true:=m4 (λ_=>rfl) xs
@[push_cast] theorem OD (xs:List Bool):iX (fl xs)=true:=m4 (λ_=>rfl) xs
theorem Bp {hp hpL:Hp} (h:(l_ hp hpL,lj hp hpL)=(hpL,true)):bX hp=bX hpL:=by
 simp only [iJ] at h;exact funext λk=>((xw (fr:=[]) (fr':=[]) rfl h.1 h.2).2 k).symm
theorem ke {d:Bool} {f:FuncId} {args args':List SV} {dst:Option Tmp} {ops:Array Oper} {l:List Oper} {acc:List fU} {K:Fr->Hp->Nat->Prop} {hin H:Hp} {m nn:Nat} {X:SV}
  (na:cS P f args' hin m (λx h n=>x=X/\h=H/\n=nn)) (h:qU ops fr l=some (f,args,dst)) (hpL:Hp) (nxL:Nat) (hh:(l_ hp hpL,lj hp hpL,nx)=(hpL,true,nxL)) (σ:List (Nm×Nm)) (bor:List Nm) (resL:SV) (hpB:Hp)
  (h1:lR hpL hin σ bor args args') (h2:pm hpL hin σ bor hin) (h3:(o8 0 σ bor,p8 0 m σ hin,EX m hin σ,o7 H)=(true,true,true,true))
  (h6:bor=[]\/(X.nim=true/\t_ H=true)) (e1:iA (ga (di σ) nxL) X=resL) (e2:back (di σ) nxL m H hpL=hpB)
  (k:d4 P d ops (l.drop 1) (gh dst resL fr) (hpB++hp) (bif d then nxL+nn+1 else nxL+nn) (acc++[⟨hpB.map (·.1.key),bor.map Nm.key++mT (di σ) m,nxL,nxL+nn⟩]) K) (hfam:qk hpL hin σ:=by simp only [qk,and_self]):d4 P d ops l fr hp nx acc K:=by
 simp only [iJ] at hh h3;obtain ⟨g1,g2,rfl⟩:=hh;obtain ⟨h3,h4,h5,h7⟩:=h3;have eh:=Bp (show (l_ hp hpL,lj hp hpL)=(hpL,true) by rw [g1,g2]);obtain ⟨l1,l2⟩:=sJ h1;have hok:=Bl h5 hfam;have inj:∀ k1 k2 j,di σ k1=some j->di σ k2=some j->k1=k2:=by
  simp only [o8,cT] at h3;exact vc h3.1.1 h3.1.2
 have fresh:∀ k:Nm,m<=k.base->di σ k=none/\bX hin k = .unborn:=λk hk=>⟨by
  cases hn:di σ k with
  | none=>rfl
  | some j=>have:=(hok k j hn).1;omega,rJ h4 k hk⟩
 have eb:back (di σ) nx m H hp=hpB:=by
  rw [←e2];exact sk (λk hk=>(fresh k hk).1) (jm σ) (λk _=>by rw [eh]) H
 subst e1;subst eb;refine cD f args dst h ?_;cases d with
 | false =>
  refine ⟨args',hin,m,_,di σ,bor,na,by rw [eh];exact uq h2 h3,jm σ,fresh,inj,λk j hk=>by rw [eh];exact (hok k j hk).2,l1,λi x y hx hy=>by rw [eh];exact mC (l2 i x y hx hy),⟨_,_,_,rfl,rfl,rfl⟩,(λh=>by cases h),?_⟩;rintro _ _ _ ⟨rfl,rfl,rfl⟩;exact ⟨h7,h6,_,sW.refl _ _ _,k⟩
 | true =>
  refine ⟨args',hin,m,_,di σ,bor,na,by rw [eh];exact uq h2 h3,jm σ,fresh,inj,λk j hk=>by rw [eh];exact (hok k j hk).2,l1,λi x y hx hy=>by rw [eh];exact mC (l2 i x y hx hy),⟨_,_,_,rfl,rfl,rfl⟩,?_,?_⟩
  ·rintro _ _ _ _ _ _ _ ⟨rfl,rfl,rfl⟩ ⟨rfl,rfl,rfl⟩;exact ⟨rfl,rfl,rfl⟩
  ·rintro _ _ _ ⟨rfl,rfl,rfl⟩;exact ⟨h7,h6,_,sW.refl _ _ _,k⟩
def x_ (ks:List Nm) (p:Nm×cp):Bool:=!ks.any λk=>k.eqk p.1
theorem Ew {hp:Hp} (ks rds:List Nm) (hr:ks.all (λk=>rds.contains k.key)=true):∀ b:Hp,(∀ kk∈ks,∀ k:Nm,kk.key=k.key->bX (b++hp) k=bX hp k)->sW hp b (b.filter (x_ ks)) rds:=by
 intro b hb;have yes:∀ (b:Hp) (k:Nm),(∃ kk∈ks,kk.key=k.key)->bX (b.filter (x_ ks)++hp) k=bX hp k:=by
  intro b k hk;induction b with
  | nil=>rfl
  | cons p r ih =>
   by_cases hp1:x_ ks p=true
   ·rw [kG hp1,iz,rF];have:p.1.eqk k=false:=by
     refine Nm.eqk_no λe=>?_
     obtain ⟨kk,h1,h2⟩:=hk;unfold x_ at hp1;rw [km] at hp1;have h3:(ks.any λk=>k.eqk p.1)=true:=nl.2 ⟨kk,h1,Nm.eqk_iff.2 (h2.trans e.symm)⟩;rw [h3] at hp1;cases hp1
    rw [this,cj];exact ih
   ·rw [nb hp1];exact ih
 have no:∀ (b:Hp) (k:Nm),¬ (∃ kk∈ks,kk.key=k.key)->bX (b.filter (x_ ks)++hp) k=bX (b++hp) k:=by
  intro b k hk;induction b with
  | nil=>rfl
  | cons p r ih =>
   by_cases hp1:x_ ks p=true
   ·rw [kG hp1,iz,iz,rF,rF,ih]
   ·rw [nb hp1,iz,rF,ih];have:p.1.eqk k=false:=by
     refine Nm.eqk_no λe=>hk ?_
     unfold x_ at hp1;rw [km,Bool.not_eq_false] at hp1;obtain ⟨kk,h1,h2⟩:=nl.1 hp1;exact ⟨kk,h1,(Nm.eqk_iff.1 h2).trans e⟩
    rw [this,cj]
 refine ⟨λp hp1=>⟨p,(List.mem_filter.1 hp1).1,rfl⟩,λp hp1=>?_,λk=>?_⟩
 ·by_cases h:x_ ks p=true
  ·exact .inl ⟨p,List.mem_filter.2 ⟨hp1,h⟩,rfl⟩
  ·right;unfold x_ at h;rw [km,Bool.not_eq_false] at h;obtain ⟨kk,h1,h2⟩:=nl.1 h;have:=dQ.1 hr kk h1;rw [←Nm.eqk_iff.1 h2];simpa using this
 ·by_cases hk:∃ kk∈ks,kk.key=k.key
  ·rw [yes b k hk];obtain ⟨kk,h1,h2⟩:=hk;exact (hb kk h1 k h2).symm
  ·exact no b k hk
def yF (hp b:Hp):List Nm->Prop
 | []=>True
 | kk::r=>(∀ k:Nm,kk.key=k.key->bX (b++hp) k=bX hp k)/\yF hp b r
theorem cJ {hp b:Hp} {a:Nat} (h:bX (b++hp) (.t a)=bX hp (.t a)):∀ k:Nm,(Nm.t a).key=k.key->bX (b++hp) k=bX hp k:=λk hk=>by
 have:=Nm.key_eq_t.1 hk.symm
 subst this;exact h
theorem gX {hp b:Hp} {F:Nat} (h:∀ i,bX (b++hp) (.s F i)=bX hp (.s F i)):∀ k:Nm,(Nm.s F 0).key=k.key->bX (b++hp) k=bX hp k:=λk hk=>by
 cases k with
 | t a=>simp [Nm.key] at hk
 | s G i =>
  simp only [Nm.key_s,Nm.s.injEq,k_] at hk
  subst hk;exact h i
theorem Bq {hp b:Hp}:∀ {ks:List Nm},yF hp b ks->∀ kk∈ks,∀ k:Nm,kk.key=k.key->bX (b++hp) k=bX hp k
 | [],_,kk,h=>by cases h
 | q::r,hs,kk,h=>by
  rcases fg.1 h with rfl|h
  ·exact hs.1
  ·exact Bq hs.2 kk h
theorem me {d:Bool} {f:FuncId} {args args':List SV} {dst:Option Tmp} {ops:Array Oper} {l:List Oper} {acc:List fU} {K:Fr->Hp->Nat->Prop} {hin H:Hp} {m nn:Nat} {X:SV}
  (na:cS P f args' hin m (λx h n=>x=X/\h=H/\n=nn)) (h:qU ops fr l=some (f,args,dst)) (hpL:Hp) (nxL:Nat) (hh:(l_ hp hpL,lj hp hpL,nx)=(hpL,true,nxL)) (σ:List (Nm×Nm)) (bor:List Nm) (resL:SV) (hpB:Hp) (ks:List Nm) (hpT:Hp)
  (h1:lR hpL hin σ bor args args') (h2:pm hpL hin σ bor hin) (h3:(o8 0 σ bor,p8 0 m σ hin,EX m hin σ,o7 H)=(true,true,true,true))
  (h6:bor=[]\/(X.nim=true/\t_ H=true)) (e1:iA (ga (di σ) nxL) X=resL) (e2:back (di σ) nxL m H hpL=hpB) (ht:(hpB.filter (x_ ks),ks.all λk=>(bor.map Nm.key++mT (di σ) m).contains k.key)=(hpT,true)) (hs:yF hpL hpB ks)
  (k:d4 P d ops (l.drop 1) (gh dst resL fr) (hpT++hp) (bif d then nxL+nn+1 else nxL+nn) (acc++[⟨hpT.map (·.1.key),bor.map Nm.key++mT (di σ) m,nxL,nxL+nn⟩]) K) (hfam:qk hpL hin σ:=by simp only [qk,and_self]):d4 P d ops l fr hp nx acc K:=by
 simp only [iJ] at hh h3 ht;obtain ⟨g1,g2,rfl⟩:=hh;obtain ⟨h3,h4,h5,h7⟩:=h3;obtain ⟨ht,htk⟩:=ht;have eh:=Bp (show (l_ hp hpL,lj hp hpL)=(hpL,true) by rw [g1,g2]);obtain ⟨l1,l2⟩:=sJ h1;have hok:=Bl h5 hfam;have inj:∀ k1 k2 j,di σ k1=some j->di σ k2=some j->k1=k2:=by
  simp only [o8,cT] at h3;exact vc h3.1.1 h3.1.2
 have fresh:∀ k:Nm,m<=k.base->di σ k=none/\bX hin k = .unborn:=λk hk=>⟨by
  cases hn:di σ k with
  | none=>rfl
  | some j=>have:=(hok k j hn).1;omega,rJ h4 k hk⟩
 have eb:back (di σ) nx m H hp=hpB:=by
  rw [←e2];exact sk (λk hk=>(fresh k hk).1) (jm σ) (λk _=>by rw [eh]) H
 have trim:sW hp hpB hpT (bor.map Nm.key++mT (di σ) m):=by
  rw [←ht];refine Ew ks _ htk hpB λkk hk k e=>?_
  have:=Bq hs kk hk k e;have e3:bX (hpB++hp) k=bX (hpB++hpL) k:=by rw [fE,fE,eh]
  rw [e3,this,eh]
 subst e1;subst eb;refine cD f args dst h ?_;cases d with
 | false =>
  refine ⟨args',hin,m,_,di σ,bor,na,by rw [eh];exact uq h2 h3,jm σ,fresh,inj,λk j hk=>by rw [eh];exact (hok k j hk).2,l1,λi x y hx hy=>by rw [eh];exact mC (l2 i x y hx hy),⟨_,_,_,rfl,rfl,rfl⟩,(λh=>by cases h),?_⟩;rintro _ _ _ ⟨rfl,rfl,rfl⟩;exact ⟨h7,h6,_,trim,k⟩
 | true =>
  refine ⟨args',hin,m,_,di σ,bor,na,by rw [eh];exact uq h2 h3,jm σ,fresh,inj,λk j hk=>by rw [eh];exact (hok k j hk).2,l1,λi x y hx hy=>by rw [eh];exact mC (l2 i x y hx hy),⟨_,_,_,rfl,rfl,rfl⟩,?_,?_⟩
  ·rintro _ _ _ _ _ _ _ ⟨rfl,rfl,rfl⟩ ⟨rfl,rfl,rfl⟩;exact ⟨rfl,rfl,rfl⟩
  ·rintro _ _ _ ⟨rfl,rfl,rfl⟩;exact ⟨h7,h6,_,trim,k⟩
theorem HI (σ:Nm->Option Nm) (nx:Nat) (hp:Hp):iZ σ nx [] hp=[]:=rfl
theorem KM (σ:Nm->Option Nm) (nx k:Nat) (c:cp) (r hp:Hp):iZ σ nx ((.t k,c)::r) hp=ea (ga σ nx (.t k)) (ip (ga σ nx) c) (iZ σ nx r hp++hp)::iZ σ nx r hp:=rfl
theorem KN (σ:Nm->Option Nm) (nx F:Nat) (z:Int) (c:cp) (r hp:Hp):iZ σ nx ((.s F z,c)::r) hp=(.s (ga σ nx (.s F 0)).base 0,ip (ga σ nx) c)::iZ σ nx r hp:=rfl
theorem Mq (k:Nat) (c:cp) (hp:Hp):ea (.t k) c hp=(.t k,c):=rfl
theorem OE (nx k:Nat):Nm.sh nx (.t k) = .t (nx+k):=rfl
theorem OF (nx F:Nat) (i:Int):Nm.sh nx (.s F i) = .s (nx+F) i:=rfl
attribute [push_cast] HI KM KN Mq OE OF pA List.flatMap_cons List.flatMap_nil Option.isSome_some Option.isSome_none Nm.base_t Nm.base_s
attribute [push_cast] ga back List.filterMap_cons List.filterMap_nil Option.map_some Option.map_none Kq Kr Ks Kt Ku Kv Kw
end
section
open Go.RowKit
variable {P:Program} {m N:Nat} {Q:g8} {fr:Fr} {hp:Hp} {nx:Nat} {ops:Array Oper}
theorem n7.local {o:Oper} {fr2:Fr} {hp2:Hp} {K K':SV->Hp->Nat->List Nm->Prop} (h:n7 P o fr hp nx K) (hf:∀ t∈lH o.op,cL fr2 t=cL fr t) (hh:bX hp2=bX hp) (hK:∀ v u n r,K v u n r->K' v u n r):n7 P o fr2 hp2 nx K' :=
 λX ids w fr' hp' a hP h1 h2 h3 h4 h5 h6 KK Q h7=>h X ids w fr' hp' a hP h1 h2 h3 (λt ht=>by rw [h4 t ht,hf t ht]) h5 (λv u n r hk=>by
  have:=h6 v u n r (hK v u n r hk);rw [hh] at this;exact this) KK Q (λv u n r x w' ids' hk hu=>h7 v u n r x w' ids' (hK v u n r hk) ⟨hu.le,by rw [hh];exact hu.keys⟩)
theorem wQ.local {dt:Bool} {o:Oper} {fr2:Fr} {hp2:Hp} {K K':SV->Hp->Nat->List Nm->Prop} (h:wQ dt P o fr hp nx K) (hf:∀ t∈lH o.op,cL fr2 t=cL fr t) (hh:bX hp2=bX hp) (hK:∀ v u n r,K v u n r->K' v u n r):wQ dt P o fr2 hp2 nx K':=by
 cases dt with
 | false=>exact n7.local (K:=K) h hf hh hK
 | true =>
  obtain ⟨e,h1,h2,h3⟩:=h;exact ⟨e,h1,hK _ _ _ _ h2,h3.local hf hh λ_ _ _ _ h=>h⟩
theorem zP {fr':Fr} {hp':Hp} {dt:Bool} {o:Oper} (hn:∀ t∈jM ops o,cL fr' t=cL fr t) (hh:bX hp'=bX hp) {K K':SV->Hp->Nat->List Nm->Prop} (hK:∀ v u n r,K v u n r->K' v u n r) (hs:iw dt P ops o fr hp nx K):iw dt P ops o fr' hp' nx K':=by
 have hnm:∀ t∈lH o.op,cL fr' t=cL fr t:=λt ht=>hn t (by unfold jM;exact jE _ ht);have core:∀ {g:Bool},kA dt P g o fr hp nx K->kA dt P g o fr' hp' nx K':=by
  intro g hc;unfold kA at hc ⊢;rw [wR hnm];cases hcl:jb g fr o.op with
  | some c =>
   rw [hcl] at hc;obtain ⟨args',hin,m,Post,σ,bor,h1,h2,hsg,h3,h4,h5,h6,h7,h8,h9,h10⟩:=hc;refine ⟨args',hin,m,Post,σ,bor,h1,by rw [hh];exact h2,hsg,h3,h4,by rw [hh];exact h5,h6,by rw [hh];exact h7,h8,h9,λres hpx nx' hpp=>⟨(h10 res hpx nx' hpp).1,(h10 res hpx nx' hpp).2.1,?_⟩⟩;rw [sk (h1:=hp) (λk hk=>(h3 k hk).1) hsg (λk _=>by rw [hh]) hpx];obtain ⟨u,hu,hk⟩:=(h10 res hpx nx' hpp).2.2;exact ⟨u,⟨hu.keys,hu.drop,λk=>by rw [fE,fE,hh,←fE,←fE];exact hu.eq k⟩,hK _ _ _ _ hk⟩
  | none =>
   rw [hcl] at hc;simp only at hc ⊢;rcases hc with hc|hc
   ·exact .inl ⟨hc.1,hc.2.1,hc.2.2.local hnm hh hK⟩
   refine .inr ?_;cases hop:kK P g fr hp nx o.type o.op with
   | bad=>rw [hop] at hc;exact hc.elim
   | ok s e =>
    rw [hop] at hc;rw [p7 hop hnm (λk _=>by rw [hh])];exact ⟨hc.1,hK _ _ _ _ hc.2⟩
 unfold iw at hs ⊢;cases hg:o.guard with
 | none=>rw [hg] at hs;exact core hs
 | some jw =>
  rw [hg] at hs;simp only at hs ⊢;rw [wT hg hn];cases hgs:mB ops fr jw.1 jw.2 with
  | none=>rw [hgs] at hs;exact hs
  | some g =>
   rw [hgs] at hs;simp only at hs ⊢;cases hq:lN P o.op with
   | true =>
    rw [hq] at hs;simp only [cd] at hs ⊢;rcases hs with hs|hs
    ·exact .inl ⟨hs.1,hK _ _ _ _ hs.2⟩
    ·refine .inr ?_;cases hop:kK P g fr hp nx o.type o.op with
     | bad=>rw [hop] at hs;exact hs.elim
     | ok s e =>
      rw [hop] at hs;rw [p7 hop hnm (λk _=>by rw [hh])];simp only at hs ⊢;cases hu:e.upd with
      | nil=>rw [hu] at hs;exact ⟨hs.1,hK _ _ _ _ hs.2⟩
      | cons a b=>rw [hu] at hs;exact hs
   | false =>
    rw [hq] at hs;exact ⟨λhg=>core (hs.1 hg),λhg=>hK _ _ _ _ (hs.2 hg)⟩
def s9 (ops:Array Oper) (l:List Oper) (fr' fr:Fr):Prop:=∀ d,cL fr' d=cL fr d\/(cL fr' d = .any/\∀ o∈l,d∉jM ops o)
theorem s9.names {l:List Oper} {o:Oper} {fr':Fr} (h:s9 ops (o::l) fr' fr):∀ t∈jM ops o,cL fr t=cL fr' t:=λt ht=>by
 rcases h t with h|h
 ·exact h.symm
 ·exact absurd ht (h.2 o (List.mem_cons_self ..))
theorem s9.put {l:List Oper} {o:Oper} {fr':Fr} (h:s9 ops (o::l) fr' fr) (d:Option Tmp) (v:SV):s9 ops l (gh d v fr') (gh d v fr):=by
 intro t;cases d with
 | none=>exact (h t).imp id λh=>⟨h.1,λo' ho=>h.2 o' (uN _ ho)⟩
 | some d =>
  simp only [gh,cL];cases hd:(d==t) with
  | true=>exact .inl rfl
  | false=>exact (h t).imp id λh=>⟨h.1,λo' ho=>h.2 o' (uN _ ho)⟩
theorem C8 {K:Fr->Hp->Nat->Prop} {fr':Fr} {hp':Hp} (h:s9 ops [] fr' fr) (hh:bX hp=bX hp') (hk:qE K fr' hp' nx):qE K fr hp nx:=by
 obtain ⟨f,q,⟨h1,h2⟩,hk⟩:=hk;refine ⟨f,q,⟨λd=>?_,λk=>by rw [h2 k,hh]⟩,hk⟩;rcases h1 d with h1|h1
 ·rcases h d with h|h
  ·exact .inl (h1.trans h)
  ·exact .inr (h1.trans h.1)
 ·exact .inr h1
theorem C9 {hp hp':Hp} (h:bX hp=bX hp') (u:Hp):bX (u++hp)=bX (u++hp'):=funext λk=>qS λ_=>by rw [h]
theorem rp {K:Fr->Hp->Nat->Prop}:∀ (l:List Oper) (fr' fr:Fr) (hp' hp:Hp) (nx:Nat),s9 ops l fr' fr->bX hp=bX hp'->lO P ops l fr' hp' nx (qE K)->lO P ops l fr hp nx (qE K)
 | [],fr',fr,hp',hp,nx,h,hh,hr=>C8 h hh hr
 | o::l,fr',fr,hp',hp,nx,h,hh,hr=>zP h.names hh (λv u n r hk=>rp l _ _ _ _ _ (h.put o.dst v) (C9 hh u) hk) hr
theorem tM {K:Fr->Hp->Nat->Prop}:∀ (l:List Oper) (fr' fr:Fr) (hp' hp:Hp) (nx:Nat) (acc:List fU),s9 ops l fr' fr->bX hp=bX hp'->yx P ops l fr' hp' nx acc (qE K)->yx P ops l fr hp nx acc (qE K)
 | [],fr',fr,hp',hp,nx,acc,h,hh,hr=>⟨hr.1,C8 h hh hr.2⟩
 | o::l,fr',fr,hp',hp,nx,acc,h,hh,hr=>zP h.names hh (λv u n r hk=>tM l _ _ _ _ _ _ (h.put o.dst v) (C9 hh u) hk) hr
def NH:SV->Bool
 | .any=>true
 | _=>false
def Mr (ops:Array Oper) (l:List Oper) (fr fr':Fr):Bool:=l.all λo=>(jM ops o).all λt=>fr'.any (λp=>p.1==t)||NH (cL fr t)
theorem C_ (fr:Fr) (d:Nat):∀ ks:Fr,(ks.any λp=>p.1==d)=true->cL (oT fr ks) d=cL fr d
 | [],h=>by simp at h
 | p::r,h=>by
  simp only [oT,gv,cL]
  by_cases hp:p.1=d
  ·subst hp;simp
  ·have hb:(p.1==d)=false:=by simpa using hp
   rw [hb,cj]
   refine C_ fr d r ?_
   simp only [List.any_cons,hb,Bool.false_or] at h
   exact h
theorem rn {d:Bool} {l:List Oper} {acc:List fU} {K:Fr->Hp->Nat->Prop} (i:Nat) (fr':Fr) (hp':Hp) (nx':Nat) (h:(l,oT fr fr',Mr ops l fr fr',l_ hp hp',lj hp hp',nx)=(ops.toList.drop i,fr',true,hp',true,nx'))
  (k:d4 P d ops (ops.toList.drop i) fr' hp' nx' acc K):d4 P d ops l fr hp nx acc K:=by
 simp only [iJ] at h;obtain ⟨h1,h2,h3,h4,h5,h6⟩:=h;rw [←h1] at k;subst h6;have hh:bX hp=bX hp':=funext λk=>((xw (fr:=[]) (fr':=[]) rfl h4 h5).2 k).symm
 have hl:s9 ops l fr' fr:=λt=>by
  by_cases hm:(fr'.any λp=>p.1==t)=true
  ·left;have:=C_ fr t fr' hm;rw [h2] at this;exact this
  ·rcases w9 fr t fr' with hk|hk
   ·left;rw [h2] at hk;exact hk
   ·rw [h2] at hk;by_cases hl:∃ o∈l,t∈jM ops o
    ·obtain ⟨o,ho,ht⟩:=hl;left;have:=dQ.1 (dQ.1 h3 o ho) t ht;have hm':(fr'.any λp=>p.1==t)=false:=Bool.eq_false_iff.2 hm;rw [hm',Bool.false_or] at this;rw [hk];cases hg:cL fr t<;>rw [hg] at this<;>first|rfl|cases this
    ·exact .inr ⟨hk,λo ho ht=>hl ⟨o,ho,ht⟩⟩
 cases d with
 | false=>exact rp l _ _ _ _ _ hl hh k
 | true=>exact tM l _ _ _ _ _ _ hl hh k
@[push_cast] theorem OR (τ:Nm->Nm) (m:List (Int×Int)):(mi m).map (λp=>(p.1,iA τ p.2))=mi m:=by
 induction m with
 | nil=>rfl
 | cons p r ih=>simp only [mi,gv] at ih ⊢;rw [ih];rfl
end
section
open Go.RowKit
variable {P:Program} {m N:Nat} {Q:g8} {fr:Fr} {hp:Hp} {nx:Nat} {ops:Array Oper}
variable {α:Type}
theorem E_ {d:Bool} {l:List Oper} {acc:List fU} {K:Fr->Hp->Nat->Prop} (t:Nat) (x x':SV) (e:x=x') (h:cL fr t=x) (k:d4 P d ops l ((t,x')::fr) hp nx acc K):d4 P d ops l fr hp nx acc K:=by
 subst e;have hl:s9 ops l ((t,x)::fr) fr:=λq=>.inl (by
  simp only [cL];by_cases hq:t=q
  ·subst hq;simp [h]
  ·rw [show (t==q)=false from by simpa using hq,cj])
 cases d with
 | false=>exact rp l _ _ _ _ _ hl rfl k
 | true=>exact tM l _ _ _ _ _ _ hl rfl k
theorem KO {d:Bool} {l:List Oper} {acc:List fU} {K:Fr->Hp->Nat->Prop} (p:Nm×cp) (h:∀ q,p.1.key=q.key->bX hp q=p.2.mem q) (k:d4 P d ops l fr (p::hp) nx acc K):d4 P d ops l fr hp nx acc K:=by
 have hh:bX hp=bX (p::hp):=funext λq=>by
  simp only [bX];by_cases hq:p.1.key=q.key
  ·rw [Nm.eqk_iff.2 hq,cd];exact h q hq
  ·rw [Nm.eqk_no hq,cj]
 have hl:s9 ops l fr fr:=λq=>.inl rfl;cases d with
 | false=>exact rp l _ _ _ _ _ hl hh k
 | true=>exact tM l _ _ _ _ _ _ hl hh k
theorem KP {d:Bool} {l:List Oper} {acc:List fU} {K:Fr->Hp->Nat->Prop} (j:Nat) (c c':cp) (e:c=c') (h:bX hp (.t j)=c) (k:d4 P d ops l fr ((.t j,c')::hp) nx acc K):d4 P d ops l fr hp nx acc K:=by
 subst e;refine KO (.t j,c) (λq hq=>?_) k;rw [Nm.key_t] at hq;have:=Nm.key_eq_t.1 hq.symm;subst this;exact h
end
section
open Go.RowKit
theorem Ms {α:Type} [b_ α] (tab:List α) (raw:List SV) (hraw:raw=fl tab) (len z nx:Nat) (hl:tab.length=len) (i:Int) (k:0<=i/\i<(tab.length:Int)) :
  gH (.ok (0<=i/\i<(len:Int)) ⟨.iptr raw (0+i.toNat*z),[],nx,[]⟩) ⟨.iptr (fl tab) (i.toNat*z),[],nx,[]⟩:=i0 (hl▸k) (by rw [hraw,dm]) rfl
end
section
open Go.RowKit
theorem cS.frz {P:Program} {f:FuncId} {args:List SV} {hin:Hp} {m n:Nat} {e:TypeId} {cs:List SV} (h:cS P f args hin m (λx h k=>x = .own 0 0 n/\h=[(Nm.t 0,.row e cs)]/\k=1)) :
  cS P f args hin m (λx h k=>x = .sl n cs/\h=[(Nm.t 0,.dead)]/\k=1):=by
 refine ⟨h.1,λX vals h1 h2 h3 h4 h5=>(h.2 X vals h1 h2 h3 h4 h5).mono ?_⟩;rintro ex w' ⟨r,res,hp',nx',ids',rfl,⟨rfl,rfl,rfl⟩,hF,hd⟩;have hrow:bX [(Nm.t 0,cp.row e cs)] (.t 0) = .row e cs:=rfl;have hl:(bX [(Nm.t 0,cp.row e cs)] (.t 0)).live=true:=rfl;have hG:bX ([(Nm.t 0,cp.dead)]++[(Nm.t 0,cp.row e cs)])=bX [(Nm.t 0,cp.dead)]:=by
  rw [fF,dw,dw,dw];funext k;simp only [upd];split<;>rfl
 obtain ⟨k1,k2⟩:=AQ hF.toHeapC (k:=.t 0) (by rw [hrow];simp);have hnl:∀ k,(bX [(Nm.t 0,cp.dead)] k).live=true->False:=λk hk=>by
  rw [dw] at hk;simp only [upd] at hk;split at hk
  ·cases hk
  ·cases hk
 have hK:HeapC X [(Nm.t 0,.dead)] ids' w':=⟨by rw [←hG];exact k1.st,λk hk h0 hl=>(hnl k hl).elim,λk hk hv=>by rw [dw] at hv;simp only [upd] at hv;split at hv<;>cases hv⟩;have hE:fk X [(Nm.t 0,.row e cs)] ids' w' [(Nm.t 0,.dead)] ids' w':=by
  have:=k2;rw [show ea (.t 0) cp.dead [(Nm.t 0,cp.row e cs)]=(.t 0,.dead) from rfl] at this;simp only [fk,hG] at this;exact this
 obtain ⟨a,cap,rfl,c1,c2,c4,c3⟩:=md hd hl;refine ⟨_,.sl n cs,[(Nm.t 0,.dead)],1,ids',rfl,⟨rfl,rfl,rfl⟩,⟨hK,λk hk=>?_,hF.m_le⟩,?_⟩
 ·rw [dw,dP _ _ (λe=>by subst e;simp at hk)];rfl
 ·rcases c3 with ⟨rfl,rfl⟩|⟨b,o,e2,cs2,arr,hC,hid,rfl,hw,hcapsz⟩
  ·have hcs:cs=[]:=by
    have:=c4 _ _ hrow;exact iV (by omega)
   subst hcs;exact .sl0 (by unfold maxLen;omega)
  ·have hc:=hF.st.ch (.t 0);rw [hrow] at hc;have hid':ids' (.t 0)=some (b,o):=hid;simp only [fH,hid'] at hc;obtain ⟨arr',ha',hl',hx'⟩:=hc;obtain ⟨hlt,hor⟩:=hF.st.lt (.t 0) b o hl hid;refine .sl b (o+0) cap (λi=>arr'.getD (o+i) undef) ⟨?_,hlt,λk hk=>(hnl k hk).elim⟩ c1 c2 (λi x hi=>?_) (λi x hi=>(hx' i x hi).mono hE)
   ·rcases hor with h|h
    ·exact .inr (.inl h)
    ·exact .inr (.inr h)
   ·have hi':=(dy.1 hi).1;simp only [World.cell?,ha',eG];simp [cQ,d6 (show o+i<arr'.size by omega)]
end
section
open Go.RowKit
variable {P:Program}
theorem NI {f : FuncId} {fn : Func} (h : P.funcs[f]? = some fn) (hb : fn.body.isSome = true) (hn : (fn.name == "runtime.NumGoroutine") = false) : ∃ fn body, P.funcs[f]? = some fn /\ fn.body = some body /\ fn.name ≠ "runtime.NumGoroutine" := by
 obtain ⟨b,hb⟩:=qL.1 hb
 exact ⟨fn,b,h,hb,by simpa using hn⟩
end
section
open Go.RowKit
variable {P:Program}
def n9:SV->SV
 | .v (.slice none 0 0)=>.sl 0 []
 | x=>x
theorem Da {C:Nm->cp} {ids:dE} {I:Nat->Prop} {w:World} {s:SV} {x:Value} (h:dT P C ids I w s x):dT P C ids I w (n9 s) x:=by
 unfold n9;split
 ·obtain rfl:=d9 h;exact .sl0 (by unfold maxLen;omega)
 ·exact h
theorem Mt {X:Cx} {hp:Hp} {ids:dE} {w:World} (h:HeapC X hp ids w) {k b o:Nat} {e:TypeId} {cs:List SV} (hk:bX hp (.t k) = .row e cs) (hi:ids (.t k)=some (b,o)) :
  HeapC X ((.t k,.row e (cs.map n9))::hp) ids w/\fk X hp ids w ((.t k,.row e (cs.map n9))::hp) ids w:=by
 have hlk:(bX hp (.t k)).live=true:=by rw [hk];rfl
 have hch:=h.st.ch (.t k);rw [hk] at hch;simp only [fH,hi] at hch;obtain ⟨arr,ha,hl,hx⟩:=hch;have hsk:dZ (bX hp (.t k)) (.row e (cs.map n9)):=by rw [hk];exact ⟨rfl,by rw [ep];exact cF _⟩
 have hE:=h.st.turn_ext hlk hi (c:=.row e (cs.map n9)) rfl hsk (w':=w) rfl (λj _=>rfl) (dN.refl _);have hC:bX ((.t k,.row e (cs.map n9))::hp)=upd (bX hp) (.t k) (.row e (cs.map n9)):=dw k _ hp;refine ⟨⟨?_,λj hj h0 hjl=>?_,λj hj hv=>by rw [hC] at hv;exact mc h.nov (λe=>by cases e) j hj hv⟩,?_⟩
 ·rw [hC];refine h.st.turn hlk hi rfl hsk rfl (λj _=>rfl) (dN.refl _) rfl rfl rfl ?_;simp only [fH,hi];refine ⟨arr,ha,by rw [ep];exact hl,λi x hix=>?_⟩;rw [fZ] at hix;cases hq:cs[i]? with
  | none=>rw [hq] at hix;cases hix
  | some y=>rw [hq] at hix;cases hix;exact (Da (hx i y hq)).mono hE
 ·rw [hC] at hjl ⊢;have hlo:(bX hp j).live=true:=by
   by_cases hjk:j=Nm.t k
   ·subst hjk;exact hlk
   ·rwa [dP _ _ hjk] at hjl
  exact (h.kept j hj h0 hlo).step hE hlo hjl
 ·simp only [fk,hC];exact hE
variable {fr:Fr} {hp:Hp} {nx:Nat} {ops:Array Oper}
theorem HJ {P:Program} {fr:Fr} {hp:Hp} {nx:Nat} {o:Oper} {s:Prop} {k:Nm} {off n:Nat} {p:Nm×cp} {nx':Nat} {r:List Nm} (h:kK P true fr hp nx o.type o.op = .ok s ⟨.own k off n,[p],nx',r⟩):u4 o.op=true:=by
 cases hop:o.op<;>first|rfl|skip
 ·rw [hop] at h;have:=(wN h).1;cases this
 ·rw [hop] at h;simp only [kK] at h;unfold jo at h;split at h
  ·split at h
   ·obtain ⟨es,_,hf⟩:=ir h;cases hf
   ·cases h
  ·cases h
theorem IW {d:Bool} {l:List Oper} {acc:List fU} {K:Fr->Hp->Nat->Prop} (dst:Option Tmp) (n:Nat) (e:TypeId) (cs cs':List SV)
  (hc:(s8 P ops fr l).map (λo=>(o.dst,kK P true fr hp nx o.type o.op))=some (dst,.ok True ⟨.own nx 0 n,[(Nm.t nx,.row e cs)],nx+1,[]⟩)) (hn:Nat.blt 0 n=true) (hw:cs.map n9=cs')
  (h:d4 P d ops (l.drop 1) (gh dst (.own nx 0 n) fr) ([(Nm.t nx,.row e cs')]++hp) (bif d then nx+2 else nx+1) (acc++[⟨[Nm.t nx],[],nx,nx+1⟩]) K):d4 P d ops l fr hp nx acc K:=by
 obtain ⟨o,ho,hh⟩:=mw.1 hc;simp only [iJ] at hh;obtain ⟨rfl,hop⟩:=hh;subst hw;refine xy o ⟨.own nx 0 n,[(Nm.t nx,.row e (cs.map n9))],nx+1,[]⟩ ho (ol _) (HJ hop) ?_ h;intro X ids w fr' hp' a hP h1 h2 h3 h4 h5 h6 KK Q hK;subst hP;have hop':=p7 (hp':=hp') hop h4 (λk hk=>by cases hk);obtain ⟨x,w',ids',g1,g2,g3,g4⟩:=uX (nx:=nx) ⟨h1,h5,h2⟩ h3 (g:=true) rfl hop' trivial;have g2':HeapC X ((Nm.t nx,cp.row e cs)::hp') ids' w':=g2;have hrow:bX ((Nm.t nx,cp.row e cs)::hp') (.t nx) = .row e cs:=by rw [dw,cH]
 have g4':cV X ((Nm.t nx,cp.row e cs)::hp') ids' w' (.own nx 0 n) x:=g4;obtain ⟨ad,cap,hxv,c1,c2,c3,c4⟩:=md g4' (by rw [hrow];rfl);have hn':0<n:=by simpa [kH] using hn
 obtain ⟨b,q,e2,cs2,arr,hC2,hid,_⟩:∃ b o e' cs' arr,bX ((Nm.t nx,cp.row e cs)::hp') (.t nx) = .row e' cs'/\ids' (.t nx)=some (b,o)/\ad=some ⟨b,o+0,none⟩/\w'.heap[b]? = some (.cells arr e' (0,0))/\o+0+cap*X.P.cellsOf e'<=arr.size:=by
  rcases c4 with ⟨h,_⟩|h
  ·omega
  ·exact h
 obtain ⟨r1,r2⟩:=Mt g2' hrow hid;have hg:bX ((Nm.t nx,cp.row e (cs.map n9))::(Nm.t nx,cp.row e cs)::hp')=bX ([(Nm.t nx,cp.row e (cs.map n9))]++hp'):=by
  show _=bX ((Nm.t nx,_)::hp');rw [dw,dw,dw];funext j;unfold upd;split<;>rfl
 refine mZ g1 (hK (.own nx 0 n) [(Nm.t nx,.row e (cs.map n9))] (nx+1) [] x w' ids' ⟨rfl,rfl,rfl,rfl⟩ ⟨ol _,λp hp=>?_⟩ (r1.congr hg) ?_ ?_)
 ·simp only [fO] at hp;subst hp;exact .inl ⟨cF _,tv _⟩
 ·have:=lm g3 r2;simp only [fk,hg] at this;exact this
 ·exact cV.congr (g4'.mono r2) hg
end
section
open Go.RowKit
variable {X:Cx} {hp:Hp} {nx:Nat} {ids:dE} {w:World}
structure xz (C C':Nm->cp) (G:Nat) (ρ:Int->Option Nm) (e:TypeId):Prop where
 fresh:∀ k:Nm,k.base=G->C k = .unborn
 some_:∀ i k,ρ i=some k->C' (.s G i)=C k
 none_:∀ i,ρ i=none->C' (.s G i) = .row e []\/(C' (.s G i)).live=false
 top:(C' (.t G)).live=false
 dies:∀ i k,ρ i=some k->C' k = .dead
 oth:∀ k:Nm,k.base≠G->C' k=C k\/C' k = .dead
 inj:∀ i j k,ρ i=some k->ρ j=some k->i=j
def kM (G:Nat) (ρ:Int->Option Nm) (ids:dE):dE:=λk=>match k with
 | .t a=>ids (.t a)
 | .s F i=>if F=G then (ρ i).bind ids else ids (.s F i)
theorem rL (G:Nat) (ρ:Int->Option Nm) (ids:dE) (i:Int):kM G ρ ids (.s G i)=(ρ i).bind ids:=if_pos rfl
theorem rM (G:Nat) (ρ:Int->Option Nm) (ids:dE) {k:Nm} (h:k.base≠G):kM G ρ ids k=ids k:=by
 cases k with
 | t a=>rfl
 | s F i=>exact if_neg h
section sem
variable {P:Program} {w0:World} {I0 W0:Nat->Prop} {C C':Nm->cp} {G:Nat} {ρ:Int->Option Nm} {e:TypeId}
theorem xz.old (hh:xz C C' G ρ e) {k:Nm} {b o:Nat} (hl:(C' k).live=true) (hi:kM G ρ ids k=some (b,o)) :
 ∃k0,(C k0).live=true/\ids k0=some (b,o)/\C' k=C k0/\((k.base≠G/\k0=k)\/∃ i,k = .s G i/\ρ i=some k0):=by
 by_cases hb:k.base=G
 ·cases k with
  | t a=>simp only [Nm.base_t] at hb;subst hb;rw [hh.top] at hl;cases hl
  | s F i =>
   simp only [Nm.base_s] at hb;subst hb;rw [rL] at hi;cases hr:ρ i with
   | none=>rw [hr] at hi;cases hi
   | some k0 =>
    rw [hr] at hi;have h1:=hh.some_ i k0 hr;exact ⟨k0,by rw [←h1];exact hl,hi,h1,.inr ⟨i,rfl,hr⟩⟩
 ·rw [rM _ _ _ hb] at hi;rcases hh.oth k hb with h1|h1
  ·exact ⟨k,by rw [←h1];exact hl,hi,h1,.inl ⟨hb,rfl⟩⟩
  ·rw [h1] at hl;cases hl
theorem xz.ext (h:lD P w0 I0 W0 C ids w) (hh:xz C C' G ρ e):ku C ids (Im w0 I0 W0 C ids w) w C' (kM G ρ ids) (Im w0 I0 W0 C' (kM G ρ ids) w) w:=by
 refine ⟨λb hb=>⟨⟨hb.1,hb.2.1,λk hk o hi=>?_⟩,rfl⟩,λk hk=>?_,λk hk=>?_⟩
 ·obtain ⟨k0,h1,h2,_⟩:=hh.old hk hi;exact hb.2.2 k0 h1 o h2
 ·have hb:k.base≠G:=λe=>by rw [hh.fresh k e] at hk;cases hk
  rcases hh.oth k hb with h1|h1
  ·rw [h1];exact hk
  ·exact h1
 ·have hb:k.base≠G:=λe=>by rw [hh.fresh k e] at hk;cases hk
  rcases hh.oth k hb with h1|h1
  ·exact .inr ⟨by rw [h1];exact hk,rM _ _ _ hb,by rw [h1];exact dZ.refl hk,λ_ _ _=>dN.refl _⟩
  ·exact .inl h1
theorem fH.rename {C':Nm->cp} {ids':dE} {I I':Nat->Prop} {k k':Nm} {c:cp} (hE:ku C ids I w C' ids' I' w) (h:fH P C ids I w k c) (hi:ids' k'=ids k):fH P C' ids' I' w k' c:=by
 cases c with
 | unborn=>trivial
 | dead=>trivial
 | void=>trivial
 | fam g=>trivial
 | row e cs =>
  simp only [fH,hi] at h ⊢;cases hid:ids k with
  | none=>rw [hid] at h;exact h
  | some p =>
   obtain ⟨b,o⟩:=p;rw [hid] at h;obtain ⟨arr,ha,hs,hx⟩:=h;exact ⟨arr,ha,hs,λi x hix=>(hx i x hix).mono hE⟩
 | map es =>
  obtain ⟨b,arr,clock,hid,ha,hs,hx,hbo⟩:=h;exact ⟨b,arr,clock,hi.trans hid,ha,hs,λi x hix=>⟨(hx i x hix).1,(hx i x hix).2.mono hE⟩,hbo⟩
 | obj s pos =>
  obtain ⟨b,hid,ha⟩:=h;exact ⟨b,hi.trans hid,ha⟩
theorem xz.st (h:lD P w0 I0 W0 C ids w) (hh:xz C C' G ρ e):lD P w0 I0 W0 C' (kM G ρ ids) w:=by
 have hE:=hh.ext h;refine ⟨λk=>?_,λk k' b o o' hk hk' hi hi'=>?_,λk b o hk hi=>?_,h.im0,h.evol,h.os,h.tape,h.output,h.size⟩
 ·by_cases hb:k.base=G
  ·cases k with
   | t a =>
    simp only [Nm.base_t] at hb;subst hb;have:=hh.top;cases hc:C' (.t a)<;>rw [hc] at this<;>first|trivial|cases this
   | s F i =>
    simp only [Nm.base_s] at hb;subst hb;cases hr:ρ i with
    | none =>
     rcases hh.none_ i hr with h1|h1
     ·have hn:kM F ρ ids (.s F i)=none:=by rw [rL,hr];rfl
      rw [h1];simp only [fH,hn]
     ·cases hc:C' (.s F i)<;>rw [hc] at h1<;>first|trivial|cases h1
    | some k0 =>
     rw [hh.some_ i k0 hr];exact fH.rename hE (h.ch k0) (by rw [rL,hr];rfl)
  ·rcases hh.oth k hb with h1|h1
   ·rw [h1];exact fH.rename hE (h.ch k) (rM _ _ _ hb)
   ·rw [h1];trivial
 ·obtain ⟨k0,a1,a2,_,a3⟩:=hh.old hk hi;obtain ⟨k0',b1,b2,_,b3⟩:=hh.old hk' hi';have:=h.inj k0 k0' b o o' a1 b1 a2 b2;subst this;rcases a3 with ⟨a3,rfl⟩|⟨i,rfl,a3⟩<;>rcases b3 with ⟨b3,b4⟩|⟨j,b4,b3⟩
  ·exact b4
  ·have:=hh.dies j _ b3;rw [this] at hk;cases hk
  ·have:=hh.dies i _ a3;subst b4;rw [this] at hk';cases hk'
  ·rw [b4,hh.inj i j _ a3 b3]
 ·obtain ⟨k0,a1,a2,_,_⟩:=hh.old hk hi;exact h.lt k0 b o a1 a2
end sem
variable {G:Nat} {ρ:Int->Option Nm} {e:TypeId} {hp':Hp}
theorem Ex (h:HeapC X hp ids w) {k:Nm} {e:TypeId} {cs cs':List SV} (hk:bX hp k = .row e cs) (hlen:cs'.length=cs.length)
  (hx:∀ (i:Nat) (x y:SV) (v:Value),cs[i]? = some x->cs'[i]? = some y->cV X hp ids w x v->cV X hp ids w y v) :
  HeapC X (ea k (.row e cs') hp::hp) ids w/\fk X hp ids w (ea k (.row e cs') hp::hp) ids w:=by
 have hlk:(bX hp k).live=true:=by rw [hk];rfl
 have hC:bX (ea k (.row e cs') hp::hp)=upd (bX hp) k (.row e cs'):=jH (iY hlk) (by simp);have hsk:dZ (bX hp k) (.row e cs'):=by rw [hk];exact ⟨rfl,Nat.le_of_eq hlen⟩
 have hE:ku (bX hp) ids (Im X.w0 X.I0 X.W0 (bX hp) ids w) w (upd (bX hp) k (.row e cs')) ids (Im X.w0 X.I0 X.W0 (upd (bX hp) k (.row e cs')) ids w) w:=by
  have lv:∀ j,(upd (bX hp) k (.row e cs') j).live=true↔(bX hp j).live=true:=λj=>by
   by_cases hj:j=k
   ·subst hj;rw [cH,hk];exact Iff.rfl
   ·rw [dP _ _ hj]
  refine ⟨λb hb=>⟨⟨hb.1,hb.2.1,λj hj o hi=>hb.2.2 j ((lv j).1 hj) o hi⟩,rfl⟩,λj hj=>?_,λj hj=>?_⟩
  ·have hjk:j≠k:=λe=>by subst e;rw [hj] at hlk;cases hlk
   rw [dP _ _ hjk];exact hj
  ·refine .inr ⟨(lv j).2 hj,rfl,?_,λ_ _ _=>dN.refl _⟩;by_cases hjk:j=k
   ·subst hjk;rw [cH];exact hsk
   ·rw [dP _ _ hjk];exact dZ.refl hj
 have lv:∀ j,(upd (bX hp) k (.row e cs') j).live=true->(bX hp j).live=true:=λj hj=>by
  by_cases hjk:j=k
  ·subst hjk;exact hlk
  ·rwa [dP _ _ hjk] at hj
 refine ⟨⟨?_,λj hj h0 hjl=>?_,λj hj hv=>by rw [hC] at hv;exact mc h.nov (λe=>by cases e) j hj hv⟩,by simp only [fk,hC];exact hE⟩
 ·rw [hC];refine ⟨λj=>?_,λj j' b o o' hj hj'=>h.st.inj j j' b o o' (lv j hj) (lv j' hj'),λj b o hj=>h.st.lt j b o (lv j hj),h.st.im0,h.st.evol,h.st.os,h.st.tape,h.st.output,h.st.size⟩;by_cases hjk:j=k
  ·subst hjk;rw [cH];have hc:=h.st.ch j;rw [hk] at hc;simp only [fH] at hc ⊢;cases hid:ids j with
   | none =>
    rw [hid] at hc;simp only at hc;subst hc;exact iV hlen
   | some p =>
    obtain ⟨b,o⟩:=p;rw [hid] at hc;obtain ⟨arr,ha,hl,hxx⟩:=hc;refine ⟨arr,ha,by omega,λi y hi=>?_⟩;have hlt:=(dy.1 hi).1;have hi2:=dz (show i<cs.length by omega);exact (hx i _ y _ hi2 hi (hxx i _ hi2)).mono hE
  ·rw [dP _ _ hjk];exact fH.rename hE (h.st.ch j) rfl
 ·rw [hC] at hjl ⊢;exact (h.kept j hj h0 (lv j hjl)).step hE (lv j hjl) hjl
end
section
open Go.RowKit
inductive Hr (C C':Nm->cp) (G:Nat) (ρ:Int->Option Nm):SV->SV->Prop
 | same {x}:Hr C C' G ρ x x
 | own {i k off n} (hr:ρ i=some k) (hl:(C k).live=true):Hr C C' G ρ (.own k off n) (.own (.s G i) off n)
 | ptr {i k off} (hr:ρ i=some k) (hl:(C k).live=true):Hr C C' G ρ (.ptr k off) (.ptr (.s G i) off)
 | nil {i e} (hr:C' (.s G i) = .row e []):Hr C C' G ρ (.v (.slice none 0 0)) (.own (.s G i) 0 0)
structure s_ (C C':Nm->cp) (G:Nat) (ρ:Int->Option Nm) (R:Nm):Prop where
 fresh:∀ k:Nm,k.base=G->C k = .unborn
 some_:∀ i k,ρ i=some k->C' (.s G i)=C k
 none_:∀ i,ρ i=none->(∃ e,C' (.s G i) = .row e [])\/(C' (.s G i)).live=false
 top:(C' (.t G)).live=false
 dies:∀ i k,ρ i=some k->C' k = .dead
 oth:∀ k:Nm,k.base≠G->k≠R->C' k=C k\/C' k = .dead
 rb:R.base≠G
 row:∃ e cs cs',C R = .row e cs/\C' R = .row e cs'/\cs'.length=cs.length/\∀ (i:Nat) (x y:SV),cs[i]? = some x->cs'[i]? = some y->Hr C C' G ρ x y
 inj:∀ i j k,ρ i=some k->ρ j=some k->i=j
section sem
variable {P:Program} {w0:World} {I0 W0:Nat->Prop} {C C':Nm->cp} {G:Nat} {ρ:Int->Option Nm} {R:Nm} {ids:dE} {w:World}
theorem s_.liveR (hh:s_ C C' G ρ R):(C R).live=true/\(C' R).live=true:=by
 obtain ⟨e,cs,cs',h1,h2,_⟩:=hh.row;rw [h1,h2];exact ⟨rfl,rfl⟩
theorem s_.old (hh:s_ C C' G ρ R) {k:Nm} {b o:Nat} (hl:(C' k).live=true) (hi:kM G ρ ids k=some (b,o)) :
 ∃k0,(C k0).live=true/\ids k0=some (b,o)/\((k.base≠G/\k0=k)\/∃ i,k = .s G i/\ρ i=some k0):=by
 by_cases hb:k.base=G
 ·cases k with
  | t a=>simp only [Nm.base_t] at hb;subst hb;rw [hh.top] at hl;cases hl
  | s F i =>
   simp only [Nm.base_s] at hb;subst hb;rw [rL] at hi;cases hr:ρ i with
   | none=>rw [hr] at hi;cases hi
   | some k0 =>
    rw [hr] at hi;have h1:=hh.some_ i k0 hr;exact ⟨k0,by rw [←h1];exact hl,hi,.inr ⟨i,rfl,hr⟩⟩
 ·rw [rM _ _ _ hb] at hi;by_cases hR:k=R
  ·subst hR;exact ⟨k,hh.liveR.1,hi,.inl ⟨hb,rfl⟩⟩
  rcases hh.oth k hb hR with h1|h1
  ·exact ⟨k,by rw [←h1];exact hl,hi,.inl ⟨hb,rfl⟩⟩
  ·rw [h1] at hl;cases hl
theorem s_.ext (h:lD P w0 I0 W0 C ids w) (hh:s_ C C' G ρ R):ku C ids (Im w0 I0 W0 C ids w) w C' (kM G ρ ids) (Im w0 I0 W0 C' (kM G ρ ids) w) w:=by
 refine ⟨λb hb=>⟨⟨hb.1,hb.2.1,λk hk o hi=>?_⟩,rfl⟩,λk hk=>?_,λk hk=>?_⟩
 ·obtain ⟨k0,h1,h2,_⟩:=hh.old hk hi;exact hb.2.2 k0 h1 o h2
 ·have hb:k.base≠G:=λe=>by rw [hh.fresh k e] at hk;cases hk
  have hR:k≠R:=λe=>by subst e;have:=hh.liveR.1;rw [hk] at this;cases this
  rcases hh.oth k hb hR with h1|h1
  ·rw [h1];exact hk
  ·exact h1
 ·have hb:k.base≠G:=λe=>by rw [hh.fresh k e] at hk;cases hk
  by_cases hR:k=R
  ·subst hR;obtain ⟨e,cs,cs',h1,h2,h3,_⟩:=hh.row;exact .inr ⟨hh.liveR.2,rM _ _ _ hb,by rw [h1,h2];exact ⟨rfl,Nat.le_of_eq h3⟩,λ_ _ _=>dN.refl _⟩
  rcases hh.oth k hb hR with h1|h1
  ·exact .inr ⟨by rw [h1];exact hk,rM _ _ _ hb,by rw [h1];exact dZ.refl hk,λ_ _ _=>dN.refl _⟩
  ·exact .inl h1
theorem Mu (h:lD P w0 I0 W0 C ids w) (hh:s_ C C' G ρ R) {x y:SV} {v:Value} (hr:Hr C C' G ρ x y) (hd:dT P C ids (Im w0 I0 W0 C ids w) w x v):dT P C' (kM G ρ ids) (Im w0 I0 W0 C' (kM G ρ ids) w) w y v:=by
 cases hr with
 | same=>exact hd.mono (hh.ext h)
 | own hr hl =>
  rename_i i k off n;obtain ⟨a,cap,rfl,c1,c2,c4,c3⟩:=md hd hl;have hs:=hh.some_ i k hr;refine .own a cap (by rw [hs];exact hl) ⟨c1,c2,λe' cs hc=>c4 e' cs (by rw [←hs];exact hc),?_⟩;rcases c3 with c3|⟨b,o,e',cs,arr,g1,g2,g3,g4,g5⟩
  ·exact .inl c3
  ·exact .inr ⟨b,o,e',cs,arr,by rw [hs];exact g1,by rw [rL,hr];exact g2,g3,g4,g5⟩
 | ptr hr hl =>
  rename_i i k off;obtain ⟨b,o,g1,rfl⟩:=pY hd hl;exact .ptr b o (by rw [hh.some_ i k hr];exact hl) (by rw [rL,hr];exact g1)
 | nil hr =>
  obtain rfl:=d9 hd;exact .own none 0 (by rw [hr];rfl) ⟨cF _,by unfold maxLen;omega,λe' cs hc=>by rw [hr] at hc;cases hc;exact hU _,.inl ⟨rfl,rfl⟩⟩
theorem s_.st (h:lD P w0 I0 W0 C ids w) (hh:s_ C C' G ρ R):lD P w0 I0 W0 C' (kM G ρ ids) w:=by
 have hE:=hh.ext h;refine ⟨λk=>?_,λk k' b o o' hk hk' hi hi'=>?_,λk b o hk hi=>?_,h.im0,h.evol,h.os,h.tape,h.output,h.size⟩
 ·by_cases hb:k.base=G
  ·cases k with
   | t a =>
    simp only [Nm.base_t] at hb;subst hb;have:=hh.top;cases hc:C' (.t a)<;>rw [hc] at this<;>first|trivial|cases this
   | s F i =>
    simp only [Nm.base_s] at hb;subst hb;cases hr:ρ i with
    | none =>
     rcases hh.none_ i hr with ⟨e,h1⟩|h1
     ·have hn:kM F ρ ids (.s F i)=none:=by rw [rL,hr];rfl
      rw [h1];simp only [fH,hn]
     ·cases hc:C' (.s F i)<;>rw [hc] at h1<;>first|trivial|cases h1
    | some k0 =>
     rw [hh.some_ i k0 hr];exact fH.rename hE (h.ch k0) (by rw [rL,hr];rfl)
  ·by_cases hR:k=R
   ·subst hR;obtain ⟨e,cs,cs',h1,h2,h3,h4⟩:=hh.row;have hc:=h.ch k;rw [h1] at hc;rw [h2];simp only [fH,rM _ _ _ hb] at hc ⊢;cases hid:ids k with
    | none =>
     rw [hid] at hc;simp only at hc;subst hc;exact iV h3
    | some p =>
     obtain ⟨b,o⟩:=p;rw [hid] at hc;obtain ⟨arr,ha,hl,hxx⟩:=hc;refine ⟨arr,ha,by omega,λi y hi=>?_⟩;have hlt:=(dy.1 hi).1;have hi2:=dz (show i<cs.length by omega);exact Mu h hh (h4 i _ y hi2 hi) (hxx i _ hi2)
   rcases hh.oth k hb hR with h1|h1
   ·rw [h1];exact fH.rename hE (h.ch k) (rM _ _ _ hb)
   ·rw [h1];trivial
 ·obtain ⟨k0,a1,a2,a3⟩:=hh.old hk hi;obtain ⟨k0',b1,b2,b3⟩:=hh.old hk' hi';have:=h.inj k0 k0' b o o' a1 b1 a2 b2;subst this;rcases a3 with ⟨a3,rfl⟩|⟨i,rfl,a3⟩<;>rcases b3 with ⟨b3,b4⟩|⟨j,b4,b3⟩
  ·exact b4
  ·have:=hh.dies j _ b3;rw [this] at hk;cases hk
  ·have:=hh.dies i _ a3;subst b4;rw [this] at hk';cases hk'
  ·rw [b4,hh.inj i j _ a3 b3]
 ·obtain ⟨k0,a1,a2,_⟩:=hh.old hk hi;exact h.lt k0 b o a1 a2
end sem
theorem HK {X:Cx} {hp hp':Hp} {ids:dE} {w:World} {G:Nat} {ρ:Int->Option Nm} {R:Nm} (h:HeapC X hp ids w) (hm:X.m<=G) (hh:s_ (bX hp) (bX hp') G ρ R):HeapC X hp' (kM G ρ ids) w/\fk X hp ids w hp' (kM G ρ ids) w:=by
 have hE:=hh.ext h.st;refine ⟨⟨hh.st h.st,λk hk h0 hl=>?_,λk hk hv=>?_⟩,hE⟩
 ·have hb:k.base≠G:=by omega
  by_cases hR:k=R
  ·subst hR;exact (h.kept k hk h0 hh.liveR.1).step hE hh.liveR.1 hl
  rcases hh.oth k hb hR with h1|h1
  ·exact (h.kept k hk h0 (by rw [←h1];exact hl)).step hE (by rw [←h1];exact hl) hl
  ·rw [h1] at hl;cases hl
 ·have hb:k.base≠G:=by omega
  by_cases hR:k=R
  ·subst hR;have:=hh.liveR.2;rw [hv] at this;cases this
  rcases hh.oth k hb hR with h1|h1
  ·exact h.nov k hk (by rw [←h1];exact hv)
  ·rw [h1] at hv;cases hv
def ma (P:Program) (nx q:Nat) (rds:List Nm) (hp u:Hp):Prop :=
∀(X:Cx) (ids:dE) (w:World) (hp':Hp),X.P=P->X.m<=nx->HeapC X hp' ids w->(∀ k:Nm,k.key∈rds->bX hp' k=bX hp k)->(∀ k:Nm,nx<=k.base->k.base<nx+q->bX hp' k = .unborn) ->
 ∃ids',HeapC X (u++hp') ids' w/\fk X hp' ids w (u++hp') ids' w
def Gk (nx q:Nat) (rds:List Nm) (u:Hp):Bool:=u.all λp=>(Nat.ble nx p.1.base&&Nat.blt p.1.base (nx+q))||rds.any λk=>k==p.1.key
theorem ma.nil (P:Program) (nx:Nat) (hp:Hp):ma P nx 0 [] hp []:=λX ids w hp' _ _ h _ _=>⟨ids,h,ku.refl _ _ _ _⟩
theorem ma.trans {P:Program} {nx q1 q2:Nat} {r1 r2:List Nm} {hp u1 u2:Hp} (g1:ma P nx q1 r1 hp u1) (hk:(u1.all λp=>Nat.blt p.1.base (nx+q1))=true) (g2:ma P (nx+q1) q2 r2 (u1++hp) u2):ma P nx (q1+q2) (r1++r2) hp (u2++u1):=by
 intro X ids w hp' hP hm h hr hf;obtain ⟨GQ,a1,a2⟩:=g1 X ids w hp' hP hm h (λk hk=>hr k (lL _ hk)) (λk hk1 hk2=>hf k hk1 (by omega));obtain ⟨ids2,b1,b2⟩:=g2 X GQ w (u1++hp') hP (by omega) a1 (λk hk=>qS λ_=>hr k (jE _ hk)) (λk hk1 hk2=>by
  have:k.key∉u1.map (·.1.key):=λhmem=>by
   obtain ⟨p,hp1,he⟩:=fK.1 hmem;have h3:=dQ.1 hk p hp1;rw [kH] at h3;have:=dJ Nm.base he;simp only [Nm.key_base] at this;omega
  rw [jc this];exact hf k (by omega) (by omega))
 rw [←fJ] at b1 b2;exact ⟨ids2,b1,lm a2 b2⟩
theorem ma.cat {P:Program} {nx q1 q2 q:Nat} {r1 r2 r:List Nm} {hp u1 u2 u:Hp} (g1:ma P nx q1 r1 hp u1) (g2:ma P (nx+q1) q2 r2 (u1++hp) u2) (hk:(u1.all λp=>Nat.blt p.1.base (nx+q1))=true) (hq:q=q1+q2) (hr:r=r1++r2) (hu:u=u2++u1):ma P nx q r hp u:=by
 subst hq;subst hr;subst hu;exact g1.trans hk g2
theorem zB.of {P:Program} {m nx q:Nat} {rds:List Nm} {hp u:Hp} {fr:Fr} (g:ma P nx q rds hp u) (hk:(u.all λp=>Nat.blt p.1.base (nx+q))=true):zB P m fr hp nx fr (u++hp) (nx+q):=by
 intro X N a w hP hm ⟨ids,hH,hF,hN,hD⟩;obtain ⟨ids',h1,h2⟩:=g X ids w hp hP hH.m_le hH.toHeapC (λ_ _=>rfl) (λk hk _=>hH.fresh k hk);refine ⟨ids',⟨h1,λk hk'=>?_,mb hH.m_le (uO _ _)⟩,λd=>(hF d).mono h2,hN,hD⟩;rw [jc]
 ·exact hH.fresh k (by omega)
 ·intro hm;obtain ⟨p,hp1,hpk⟩:=fK.1 hm;have:=dQ.1 hk p hp1;rw [kH] at this;have hb:p.1.base=k.base:=by rw [←Nm.key_base,hpk,Nm.key_base]
  omega
section run
variable {P:Program} {m N:Nat} {Q:g8} {fr:Fr} {hp:Hp} {nx:Nat} {ops:Array Oper}
theorem Gl {o:Oper} {e:dx} {u:Hp} {q:Nat} {r2:List Nm} (h:n7 P o fr hp nx (tI e)) (hle:nx<=e.nx) (g:ma P e.nx q r2 (e.upd++hp) u) (hk:Gk e.nx q r2 u=true) (hb:∀ k∈r2,(k∈e.upd.map (·.1.key))\/bX hp k≠.unborn) (hkk:∀ k∈r2,k.key=k)
  (hlt:∀ p∈e.upd,p.1.base<e.nx) (r2e:List Nm) (hsub:∀ k∈r2,k∈e.upd.map (·.1.key)\/k∈r2e) :
  n7 P o fr hp nx (tI ⟨e.val,u++e.upd,e.nx+q,e.rds++r2e⟩):=by
 intro X ids w fr' hp' a hP h1 h2 h3 h4 h5 h6 KK Q hK;obtain ⟨h7,h8⟩:=h6 _ _ _ _ ⟨rfl,rfl,rfl,rfl⟩;simp only at h7 h8;refine h X ids w fr' hp' a hP h1 h2 h3 h4 h5 (λv u' n r he=>?_) KK Q (λv u' n r x w' ids' he hu k1 k2 k3=>?_)
 ·obtain ⟨rfl,rfl,rfl,rfl⟩:=he;exact ⟨λk a b=>h7 k a (by omega),λk hk=>h8 k (lL _ hk)⟩
 ·obtain ⟨rfl,rfl,rfl,rfl⟩:=he;have hag:∀ k:Nm,k.key∈r2->bX (e.upd++hp') k=bX (e.upd++hp) k:=λk hk=>qS λhn=>by
   rcases hsub _ hk with h9|h9
   ·exact absurd h9 hn
   ·exact h8 k (jE _ h9)
  obtain ⟨ids2,d1,d2⟩:=g X ids' w' (e.upd++hp') hP (by omega) k1 hag (λk a b=>by
   have:k.key∉e.upd.map (·.1.key):=λhmem=>by
    obtain ⟨p,hp1,he⟩:=fK.1 hmem;have h3:=hlt p hp1;have:=dJ Nm.base he;simp only [Nm.key_base] at this;omega
   rw [jc this];exact h7 k (by omega) (by omega))
  rw [←fJ] at d1 d2;refine hK e.val (u++e.upd) (e.nx+q) (e.rds++r2e) x w' ids2 ⟨rfl,rfl,rfl,rfl⟩ ⟨by omega,λp hp1=>?_⟩ d1 (lm k2 d2) (k3.mono d2);rcases gy.1 hp1 with hp1|hp1
  ·have:=dQ.1 hk p hp1;simp only [kZ,cT,nl,jC] at this;rcases this with ⟨c1,c2⟩|⟨k,c1,c2⟩
   ·have:=cX c1;rw [kH] at c2;exact .inl ⟨by omega,c2⟩
   ·subst c2;rcases hsub _ c1 with h9|h9
    ·obtain ⟨p2,hp2,he2⟩:=fK.1 h9;rcases hu.keys p2 hp2 with ⟨f1,f2⟩|⟨f1,f2⟩
     ·have:=dJ Nm.base he2;simp only [Nm.key_base] at this;exact .inl ⟨by omega,by omega⟩
     ·rw [he2] at f1 f2;exact .inr ⟨lL _ f1,f2⟩
    ·rcases hb _ c1 with h10|h10
     ·obtain ⟨p2,hp2,he2⟩:=fK.1 h10;rcases hu.keys p2 hp2 with ⟨f1,f2⟩|⟨f1,f2⟩
      ·have:=dJ Nm.base he2;simp only [Nm.key_base] at this;exact .inl ⟨by omega,by omega⟩
      ·rw [he2] at f1 f2;exact .inr ⟨lL _ f1,f2⟩
     ·exact .inr ⟨jE _ h9,_,by rw [hkk _ c1],h10⟩
  ·rcases hu.keys p hp1 with ⟨f1,f2⟩|⟨f1,f2⟩
   ·exact .inl ⟨f1,by omega⟩
   ·exact .inr ⟨lL _ f1,f2⟩
theorem KQ {o:Oper} {s:Prop} {e:dx} (hop:kK P true fr hp nx o.type o.op = .ok s e) (hs:s):n7 P o fr hp nx (tI e):=by
 obtain ⟨k1,k2⟩:=yv hop;refine λX ids w fr' hp' a hP h1 h2 h3 h4 h5 h6 KK Q hK=>?_
 subst hP;obtain ⟨_,hag⟩:=h6 _ _ _ _ ⟨rfl,rfl,rfl,rfl⟩;have hop':=p7 hop h4 hag;obtain ⟨x,w',ids',g1,g2,g3,g4⟩:=uX (X:=X) ⟨h1,h5,h2⟩ h3 (g:=true) rfl hop' hs;exact mZ g1 (hK _ _ _ _ _ _ _ ⟨rfl,rfl,rfl,rfl⟩ ⟨k1,λp hp1=>(k2 p hp1).imp (λhh=>by rw [hh.1];simp;omega) id⟩ g2 g3 g4)
def BV:cp->Bool
 | .unborn=>false
 | _=>true
theorem xA {d:Bool} {l:List Oper} {acc:List fU} {K:Fr->Hp->Nat->Prop} (dst:Option Tmp) (r:eY) (e:dx) (u:Hp) (q:Nat) (r2 r2e:List Nm) (hc:(s8 P ops fr l).map (λo=>(o.dst,kK P true fr hp nx o.type o.op,u4 o.op))=some (dst,r,true)) (hob:gH r e) (g:ma P e.nx q r2 (e.upd++hp) u)
  (hk:(Gk e.nx q r2 u,Nat.ble nx e.nx,r2.all (λk=>k.key==k),e.upd.all (λp=>Nat.blt p.1.base e.nx),r2.all (λk=>(e.upd.any λp=>p.1.key==k)||r2e.any λj=>j==k),r2e.all (λk=>BV (bX hp k)))=(true,true,true,true,true,true))
  (h:d4 P d ops (l.drop 1) (gh dst e.val fr) (u++e.upd++hp) (bif d then e.nx+q+1 else e.nx+q) (acc++[⟨(u++e.upd).map (·.1.key),e.rds++r2e,nx,e.nx+q⟩]) K):d4 P d ops l fr hp nx acc K:=by
 obtain ⟨o,ho,hh⟩:=mw.1 hc;simp only [iJ] at hh hk;obtain ⟨rfl,hop,hso⟩:=hh;obtain ⟨s,rfl,hs⟩:=yC hob;obtain ⟨k1,k2,k3,k4,k5,k6⟩:=hk;have hb:∀ k∈r2e,bX hp k≠.unborn:=λk hk e=>by have:=dQ.1 k6 k hk;rw [e] at this;cases this
 simp only [dQ,kZ,nl,jC,kH] at k3 k4 k5;have hle:=cX k2;have hsub:∀ k∈r2,k∈e.upd.map (·.1.key)\/k∈r2e:=λk hk=>(k5 k hk).imp (λ⟨p,hp,he⟩=>fK.2 ⟨p,hp,he⟩) (λ⟨j,hj,he⟩=>he▸hj);exact xy o ⟨e.val,u++e.upd,e.nx+q,e.rds++r2e⟩ ho (by simp only;omega) hso (Gl (KQ hop hs) hle g k1 (λk hk=>(hsub k hk).imp id (hb k)) k3 k4 r2e hsub) h
end run
end
section
open Go.RowKit
variable {α β:Type}
inductive DL where
 | p (s:SV)
 | o (e:TypeId) (n:Nat) (cs:List SV)
def DL.flat:DL->SV
 | .p s=>s
 | .o _ n cs=>.sl n cs
def DL.ok:DL->Bool
 | .p (.v x)=>x.oneCell'
 | .p (.sl _ cs)=>iu cs
 | .p _=>false
 | .o _ _ cs=>iu cs
def pe:List DL->List (TypeId×Nat×List SV)
 | []=>[]
 | .p _::r=>pe r
 | .o e n cs::r=>(e,n,cs)::pe r
def Db:List (TypeId×Nat×List SV)->Prop
 | []=>True
 | t::r=>(t.2.1=0->t.2.2=[])/\Db r
theorem Db.mem:∀ {l:List (TypeId×Nat×List SV)},Db l->∀ t∈l,t.2.1=0->t.2.2=[]
 | [],_,t,h=>by cases h
 | a::r,h,t,ht=>by
  rcases fg.1 ht with rfl|ht
  ·exact h.1
  ·exact Db.mem h.2 t ht
structure DE (α:Type) [b_ α] where
 dl:α->List DL
 no:Nat
 flat:∀ a,(dl a).map DL.flat=b_.cells a
 num:∀ a,(pe (dl a)).length=no
 dfl:(pe (dl default)).map (·.2)=List.replicate no (0,[])
 ok:∀ a,(dl a).all DL.ok=true
 wi:∀ a,Db (pe (dl a))
def Fa:Option Nm->Nat->SV
 | some k,n=>.own k 0 n
 | none,_=>.v (.slice none 0 0)
def uw (N:Nat->Option Nm):Nat->List DL->List SV
 | _,[]=>[]
 | j,.p s::r=>s::uw N j r
 | j,.o _ n _::r=>Fa (N j) n::uw N (j+1) r
theorem xc {N N':Nat->Option Nm}:∀ (l:List DL) (j:Nat),(∀ q,j<=q->q<j+(pe l).length->N q=N' q)->uw N j l=uw N' j l
 | [],_,_=>rfl
 | .p s::r,j,h=>by simp only [uw];rw [xc r j h]
 | .o e n cs::r,j,h=>by
  simp only [uw]
  simp only [pe,gu] at h
  rw [h j (cF _) (by omega),xc r (j+1) λq a b=>h q (by omega) (by omega)]
variable [b_ α]
theorem DE.len (D:DE α) (a:α):(D.dl a).length=b_.sz α:=by
 rw [←b_.len a,←D.flat a,ep]
def ux (D:DE α) (N:Nat->Int->Option Nm):Nat->List α->List SV
 | _,[]=>[]
 | b,x::xs=>uw (λj=>N j (b:Nat)) 0 (D.dl x)++ux D N (b+1) xs
def nF (Fs:List Nat) (j:Nat) (i:Int):Option Nm:=some (.s (Fs.getD j 0) i)
def Fb (D:DE α) (Fs:List Nat) (xs:List α):List SV:=ux D (nF Fs) 0 xs
def Dc (D:DE α) (j:Nat) (a:α):cp:=match (pe (D.dl a))[j]? with
 | some t=>.row t.1 t.2.2
 | none=>.dead
def HL (xs:List α) (i:Int):α:=bif decide (0<=i) then ix xs i else default
def n_ (D:DE α) (j:Nat) (xs:List α):Int->cp:=λi=>Dc D j (HL xs i)
theorem HM (D:DE α) (j:Nat) (a:α) (g:Int->cp) (i:Int) (h:g i=Dc D j a):(cp.fam g).at i=Dc D j a:=by
 simp only [cp.at,h];unfold Dc;split
 ·rename_i h2;split at h2<;>cases h2
 ·rename_i h2;split at h2<;>cases h2
 ·rfl
theorem Fc (D:DE α) (j:Nat) (xs:List α) (i:Int):(cp.fam (n_ D j xs)).at i=n_ D j xs i:=HM D j (HL xs i) _ i rfl
theorem KR (D:DE α) {j:Nat} (hj:j<D.no) (a:α):∃ e n cs,(pe (D.dl a))[j]? = some (e,n,cs)/\Dc D j a = .row e cs:=by
 have h:j<(pe (D.dl a)).length:=by rw [D.num];exact hj
 refine ⟨_,_,_,dz h,?_⟩;unfold Dc;rw [dz h];rfl
theorem Bs (D:DE α) {N N':Nat->Int->Option Nm}:∀ (xs:List α) (b:Nat),(∀ j (i:Nat),j<D.no->b<=i->i<b+xs.length->N j i=N' j i)->ux D N b xs=ux D N' b xs
 | [],_,_=>rfl
 | x::xs,b,h=>by
  simp only [gu] at h
  rw [ux,ux,Bs D xs (b+1) λj i hj h1 h2=>h j i hj (by omega) (by omega),xc (N:=λj=>N j (b:Nat)) (N':=λj=>N' j (b:Nat)) (D.dl x) 0 λq _ hq=>h q b (by rw [D.num] at hq;omega) (cF _) (by omega)]
def Pw (Q:SV->SV->Prop):List SV->List SV->Prop
 | [],[]=>True
 | x::xs,y::ys=>Q x y/\Pw Q xs ys
 | _,_=>False
theorem Pw.app {Q:SV->SV->Prop}:∀ {xs ys zs ws:List SV},Pw Q xs ys->Pw Q zs ws->Pw Q (xs++zs) (ys++ws)
 | [],[],_,_,_,h=>h
 | a::xs,b::ys,_,_,h,g=>⟨h.1,Pw.app h.2 g⟩
 | [],_::_,_,_,h,_=>h.elim
 | _::_,[],_,_,h,_=>h.elim
theorem Pw.get {Q:SV->SV->Prop}:∀ {xs ys:List SV},Pw Q xs ys->ys.length=xs.length/\∀ (i:Nat) (x y:SV),xs[i]? = some x->ys[i]? = some y->Q x y
 | [],[],_=>⟨rfl,λi x y h=>by simp at h⟩
 | a::xs,b::ys,h=>by
  obtain ⟨h1,h2⟩:=Pw.get h.2
  refine ⟨by simp [h1],λi x y hx hy=>?_⟩
  cases i with
  | zero=>simp at hx hy;subst hx;subst hy;exact h.1
  | succ i=>exact h2 i x y (by simpa using hx) (by simpa using hy)
 | [],_::_,h=>h.elim
 | _::_,[],h=>h.elim
theorem Dd {Q:SV->SV->Prop} {N N':Nat->Option Nm}:∀ (l:List DL) (j:Nat),(∀ s,DL.p s∈l->Q s s)->(∀ q t,(pe l)[q]? = some t->Q (Fa (N (j+q)) t.2.1) (Fa (N' (j+q)) t.2.1))->Pw Q (uw N j l) (uw N' j l)
 | [],_,_,_=>trivial
 | .p s::r,j,hp,h=>⟨hp s (by simp),Dd r j (λs hs=>hp s (by simp [hs])) h⟩
 | .o e n cs::r,j,hp,h=>⟨h 0 (e,n,cs) rfl,Dd r (j+1) (λs hs=>hp s (by simp [hs])) λq t hq=>by
  have:=h (q+1) t (by simpa [pe] using hq)
  rwa [show j+(q+1)=j+1+q from by omega] at this⟩
theorem HN (D:DE α) {Q:SV->SV->Prop} {N N':Nat->Int->Option Nm}:∀ (xs:List α) (b:Nat),(∀ x∈xs,∀ s,DL.p s∈D.dl x->Q s s)->(∀ (i q:Nat) t,i<xs.length->(pe (D.dl (xs.getD i default)))[q]? = some t->Q (Fa (N q ((b+i:Nat):Int)) t.2.1) (Fa (N' q ((b+i:Nat):Int)) t.2.1))->Pw Q (ux D N b xs) (ux D N' b xs)
 | [],_,_,_=>trivial
 | x::xs,b,hp,h=>by
  refine Pw.app (Dd _ _ (hp x (by simp)) λq t hq=>?_) (HN D xs (b+1) (λy hy=>hp y (by simp [hy])) λi q t hi hq=>?_)
  ·rw [dm];exact h 0 q t (by simp) hq
  ·have:=h (i+1) q t (by simpa using hi) (by simpa using hq)
   rwa [show b+(i+1)=b+1+i from by omega] at this
variable {P:Program} {hp:Hp} {nx:Nat}
end
section
open Go.RowKit
variable {α β:Type} [b_ α] {P:Program} {hp:Hp} {nx:Nat}
end
section
open Go.RowKit
variable {α β:Type} [b_ α] {P:Program} {hp hp':Hp} {nx:Nat} {σ:List (Nm×Nm)} {frz:List Nm}
theorem De:∀ {xs ys:List SV},Pw (fv hp hp' σ frz) xs ys->lR hp hp' σ frz xs ys
 | [],[],_=>by simp only [lR]
 | x::xs,y::ys,h=>by simp only [lR];exact ⟨h.1,De h.2⟩
 | [],_::_,h=>h.elim
 | _::_,[],h=>h.elim
theorem HO {s:SV} (h:DL.ok (.p s)=true):fv hp hp' σ frz s s:=by
 cases s<;>simp only [DL.ok] at h<;>first|cases h|skip
 ·simp only [fv]
 ·simp only [fv];exact ⟨trivial,trivial,jp h⟩
def Az (hp':Hp) (σ:List (Nm×Nm)) (D:DE α) (xs:List α):Nat->List Nat->List Nat->Prop
 | j,F::Fs,F'::Fs'=>(di σ (.s F' 0)=some (.s F 0)/\iq hp' (.s F' 0) = .fam (n_ D j xs))/\Az hp' σ D xs (j+1) Fs Fs'
 | j,[],[]=>j=D.no
 | _,_,_=>False
theorem HP {D:DE α} {xs:List α} {j F F':Nat} {Fs Fs':List Nat}:Az hp' σ D xs j (F::Fs) (F'::Fs')=((di σ (.s F' 0)=some (.s F 0)/\iq hp' (.s F' 0) = .fam (n_ D j xs))/\Az hp' σ D xs (j+1) Fs Fs'):=propext Iff.rfl
theorem IX {D:DE α} {xs:List α} {j:Nat} :Az hp' σ D xs j [] []=(j=D.no):=propext Iff.rfl
theorem Df {D:DE α} {xs:List α} :∀ {Fs Fs':List Nat} {j0:Nat},Az hp' σ D xs j0 Fs Fs'->j0+Fs.length=D.no/\∀ j,j<Fs.length->di σ (.s (Fs'.getD j 0) 0)=some (.s (Fs.getD j 0) 0)/\iq hp' (.s (Fs'.getD j 0) 0) = .fam (n_ D (j0+j) xs)
 | [],[],j0,h=>⟨h,λj hj=>by simp at hj⟩
 | F::Fs,F'::Fs',j0,h=>by
  obtain ⟨h1,h2⟩:=Df h.2
  refine ⟨by rw [gu];omega,λj hj=>?_⟩
  cases j with
  | zero=>exact h.1
  | succ j =>
   have:=h2 j (by simpa using hj)
   rwa [show j0+1+j=j0+(j+1) from by omega] at this
 | [],_::_,_,h=>h.elim
 | _::_,[],_,h=>h.elim
theorem ya {k:Nm}:∀ {hp:Hp},iq hp k≠.unborn->∃ p∈hp,p.1.key=k.key
 | [],h=>absurd rfl h
 | p::r,h=>by
  by_cases hk:p.1.key=k.key
  ·exact ⟨p,by simp,hk⟩
  ·simp only [iq] at h
   rw [Nm.eqk_no hk,cj] at h
   obtain ⟨q,hq,he⟩:=ya h
   exact ⟨q,by simp [hq],he⟩
theorem ny {F:Nat} {g:Int->cp} (h:iq hp (.s F 0) = .fam g) (i:Int):bX hp (.s F i)=(cp.fam g).at i:=by
 have hx:=ya (hp:=hp) (k:=.s F 0) (by rw [h];simp);rw [yE (.s F i) hx,yD (show (Nm.s F i).key=(Nm.s F 0).key from rfl),h];rfl
theorem Dg {F F':Nat} (h:di σ (.s F' 0)=some (.s F 0)) (i:Int):di σ (.s F' i)=some (.s F i):=by
 rw [jm σ F' i,h];rfl
theorem HQ {D:DE α} {j:Nat} (hj:j<D.no) (xs:List α) (i:Int):((cp.fam (n_ D j xs)).at i).live=true:=by
 rw [Fc];obtain ⟨e,n,cs,_,h⟩:=KR D hj (HL xs i);unfold n_;rw [h];rfl
theorem xB {D:DE α} {Fs Fs':List Nat} {xs:List α} (h:Az hp' σ D xs 0 Fs Fs'):lR hp hp' σ frz (Fb D Fs xs) (Fb D Fs' xs)=True:=by
 refine eq_true (De (HN D xs 0 (λx _ s hs=>HO (dQ.1 (D.ok x) _ hs)) λi q t hi hq=>?_));obtain ⟨h1,h2⟩:=Df h;have hq':q<D.no:=by rw [←D.num (xs.getD i default)];exact (dy.1 hq).1
 obtain ⟨h3,h4⟩:=h2 q (by omega);rw [dm] at h4;simp only [nF,Fa,fv];exact ⟨Dg h3 _,trivial,trivial,by rw [ny h4];exact HQ hq' xs _⟩
def BW (hp:Hp) (σ:List (Nm×Nm)) (F':Nat) (g:Int->cp):Prop:=match di σ (.s F' 0) with
 | some k=>iq hp (.s k.base 0) = .fam g
 | none=>False
theorem NJ (D:DE α) (a:α):∀ t∈pe (D.dl a),iu t.2.2=true:=by
 have gen:∀ l:List DL,l.all DL.ok=true->∀ t∈pe l,iu t.2.2=true:=by
  intro l;induction l with
  | nil=>intro _ t ht;cases ht
  | cons a l ih =>
   intro hl t ht;simp only [mK,cT] at hl;cases a with
   | p s=>exact ih hl.2 t ht
   | o e n cs =>
    rcases fg.1 ht with rfl|ht
    ·exact hl.1
    ·exact ih hl.2 t ht
 exact gen _ (D.ok a)
theorem IY (τ:Nm->Nm) (D:DE α) (j:Nat) (xs:List α) (i:Int):ip τ (n_ D j xs i)=n_ D j xs i:=by
 unfold n_ Dc;cases ho:(pe (D.dl (HL xs i)))[j]? with
 | none=>rfl
 | some t =>
  simp only [ip];rw [nX (jp (NJ D _ t (pO ho)))]
theorem AA (τ:Nm->Nm) (N N':Nat->Option Nm) (h:∀ j,(N j).map τ=N' j):∀ (l:List DL) (j:Nat),l.all DL.ok=true->jx τ (uw N j l)=uw N' j l
 | [],_,_=>rfl
 | .p s::r,j,hl=>by
  simp only [mK,cT] at hl
  simp only [uw,jx,AA τ N N' h r j hl.2]
  congr 1
  refine s5 ?_
  have:=hl.1
  cases s<;>simp only [DL.ok] at this<;>first|cases this|skip
  ·rfl
  ·exact jp this
 | .o e n cs::r,j,hl=>by
  simp only [mK,cT] at hl
  simp only [uw,jx,AA τ N N' h r (j+1) hl.2,←h j]
  congr 1
  cases N j<;>rfl
theorem IZ (τ:Nm->Nm) (xs ys:List SV):jx τ (xs++ys)=jx τ xs++jx τ ys:=by rw [lf,lf,lf,kJ]
theorem Fe (D:DE α) (τ:Nm->Nm) (N N':Nat->Int->Option Nm) (h:∀ j i,(N j i).map τ=N' j i):∀ (xs:List α) (b:Nat),jx τ (ux D N b xs)=ux D N' b xs
 | [],_=>rfl
 | x::xs,b=>by rw [ux,ux,IZ,Fe D τ N N' h xs,AA τ _ _ (λj=>h j b) _ _ (D.ok x)]
def Dh (σ:List (Nm×Nm)) (nx:Nat) (Fs:List Nat):List Nat:=Fs.map λF=>(ga (di σ) nx (.s F 0)).base
def Mv (Fs:List Nat) (D:DE α):Prop:=Fs.length=D.no
theorem KS (Fs:List Nat) (D:DE α):Mv Fs D=(Fs.length=D.no):=propext Iff.rfl
theorem vm (D:DE α) (Fs:List Nat) (xs:List α) (hF:Mv Fs D):jx (ga (di σ) nx) (Fb D Fs xs)=Fb D (Dh σ nx Fs) xs:=by
 have h1:jx (ga (di σ) nx) (Fb D Fs xs)=ux D (λj i=>(nF Fs j i).map (ga (di σ) nx)) 0 xs:=Fe D _ _ _ (λj i=>rfl) xs 0;rw [h1];refine Bs D xs 0 λj i hj _ _=>?_
 have hl:j<Fs.length:=by have:Fs.length=D.no:=hF;omega
 simp only [nF,fp,Dh,dA,fZ,dz hl,gY];rw [uY (jm σ)]
def Gm (hp:Hp) (frz:List Nm) (D:DE α) (xs:List α):Nat->List Nat->Prop
 | j,F::Fs=>(ql frz (.s F 0)=true/\iq hp (.s F 0) = .fam (n_ D j xs))/\Gm hp frz D xs (j+1) Fs
 | j,[]=>j=D.no
theorem HR {D:DE α} {xs:List α} {j F:Nat} {Fs:List Nat}:Gm hp frz D xs j (F::Fs)=((ql frz (.s F 0)=true/\iq hp (.s F 0) = .fam (n_ D j xs))/\Gm hp frz D xs (j+1) Fs):=propext Iff.rfl
theorem I7 {D:DE α} {xs:List α} {j:Nat} :Gm hp frz D xs j []=(j=D.no):=propext Iff.rfl
theorem HS (d:Nm) (x:cp) (r:Hp) (t:Nm):iq ((d,x)::r) t=bif d.eqk t then x else iq r t:=rfl
theorem I8 (t:Nm):iq [] t = .unborn:=rfl
theorem HT (σ:List (Nm×Nm)) (nx F:Nat) (Fs:List Nat):Dh σ nx (F::Fs)=(ga (di σ) nx (.s F 0)).base::Dh σ nx Fs:=rfl
theorem I9 (σ:List (Nm×Nm)) (nx:Nat):Dh σ nx []=[]:=rfl
theorem KT (i:Int):cp.dead.at i = .dead:=rfl
attribute [push_cast] HP IX xB IY HR I7 HS I8 HT I9 KT vm KS
end
section
open Go.RowKit
variable {α:Type} [b_ α] {P:Program} {hp:Hp} {nx:Nat} {fr:Fr} {ops:Array Oper}
def rY (hp:Hp) (F:Nat):Int->cp:=λj=>bX hp (.s F j)
theorem Mw (F:Nat) (i:Int) (c:cp) (hp:Hp):ea (.s F i) c hp=(.s F 0,.fam (sO (rY hp F) i c)):=rfl
theorem Mx (k:Nat) (c:cp) (r:Hp) (F:Nat):rY ((.t k,c)::r) F=rY r F:=rfl
theorem My (D:DE α) (j:Nat) (xs:List α) (G:Nat) (z:Int) (r:Hp) (F:Nat):rY ((.s G z,.fam (n_ D j xs))::r) F=bif G==F then n_ D j xs else rY r F:=by
 funext q;simp only [rY,bX,Nm.eqk];cases G==F with
 | true=>simp only [cd,cp.mem];exact Fc D j xs q
 | false=>rfl
theorem Mz (D:DE α) (j:Nat) (xs:List α) (i:Int) (G:Nat) (z:Int) (r:Hp) (F:Nat):rY ((.s G z,.fam (sO (n_ D j xs) i .dead))::r) F=bif G==F then sO (n_ D j xs) i .dead else rY r F:=by
 funext q;simp only [rY,bX,Nm.eqk];cases G==F with
 | true =>
  simp only [cd,cp.mem];by_cases hq:q=i
  ·subst hq;simp [cp.at,sO]
  ·have h:sO (n_ D j xs) i .dead q=n_ D j xs q:=by unfold sO;rw [show (q==i)=false from by simpa using hq];rfl
   rw [h];exact HM D j (HL xs q) _ q h
 | false=>rfl
theorem KU (g:Int->cp) (i:Int) (c c':cp):sO (sO g i c) i c'=sO g i c':=by
 funext q;unfold sO;cases q==i<;>rfl
theorem KV (D:DE α) (Fs:List Nat):Fb D Fs []=[]:=rfl
def Di (xs:List α):List SV:=fl xs
theorem Gn:Di ([]:List α)=[]:=rfl
theorem Ey (x:α) (xs:List α):Di (x::xs)=b_.cells x++Di xs:=rfl
theorem I_ {hp hp':Hp} {σ:List (Nm×Nm)} {frz:List Nm} {k:Nm} (h:ql frz k=true/\sw (bX hp k) []):fv hp hp' σ frz (.own k 0 0) (.sl 0 [])=True:=by
 obtain ⟨h2,h3⟩:=h;refine eq_true ?_;simp only [fv];refine ⟨trivial,oE h2,?_⟩;cases hk:bX hp k with
 | row e cs =>
  rw [hk] at h3;simp only [sw] at h3;subst h3;exact ⟨e,[],0,rfl,λ_=>rfl,.inl ⟨rfl,rfl⟩⟩
 | _=>rw [hk] at h3;exact h3.elim
theorem HU (τ:Nm->Nm) (b:Bool) (x y:SV):iA τ (bif b then x else y)=bif b then iA τ x else iA τ y:=by cases b<;>rfl
theorem Ja {hp hp':Hp} {σ:List (Nm×Nm)} {frz:List Nm} {b:Bool} {x y x' y':SV} (h:fv hp hp' σ frz x x'/\fv hp hp' σ frz y y'):fv hp hp' σ frz (bif b then x else y) (bif b then x' else y')=True:=by
 refine eq_true ?_;cases b with
 | true=>exact h.1
 | false=>exact h.2
theorem Ez (i:Nat) (x:SV) (xs:List SV):qj i (x::xs)=(i,x)::qj (i+1) xs:=rfl
theorem Gp (i:Nat):qj i []=[]:=rfl
attribute [push_cast] I_ HU Ja Ez Gp
attribute [push_cast] Gn Ey
attribute [push_cast] Mw Mx My Mz KU implies_true KV
def BX (hp:Hp):List Nm->Prop
 | []=>True
 | k::ks=>BV (bX hp k)=true/\BX hp ks
theorem BX.all {hp:Hp}:∀ {ks:List Nm},BX hp ks->ks.all (λk=>BV (bX hp k))=true
 | [],_=>rfl
 | k::ks,h=>by rw [mK,h.1,h.2.all];rfl
theorem Dj {hp:Hp} {F:Nat} (g:Int->cp) (h:iq hp (.s F 0) = .fam g):BV (bX hp (.s F 0))=true:=by
 rw [ny h];cases hc:(cp.fam g).at 0 with
 | unborn=>exact absurd hc (xn _ _)
 | _=>rfl
theorem Dk {P:Program} {fr:Fr} {hp:Hp} {nx:Nat} {ops:Array Oper} {d:Bool} {l:List Oper} {acc:List fU} {K:Fr->Hp->Nat->Prop} (dst:Option Tmp) (r:eY) (e:dx) (u:Hp) (q:Nat) (r2 r2e:List Nm) (hc:(s8 P ops fr l).map (λo=>(o.dst,kK P true fr hp nx o.type o.op,u4 o.op))=some (dst,r,true)) (hob:gH r e) (g:ma P e.nx q r2 (e.upd++hp) u)
  (hk:(Gk e.nx q r2 u,Nat.ble nx e.nx,r2.all (λk=>k.key==k),e.upd.all (λp=>Nat.blt p.1.base e.nx),r2.all (λk=>(e.upd.any λp=>p.1.key==k)||r2e.any λj=>j==k))=(true,true,true,true,true)) (hb:BX hp r2e)
  (h:d4 P d ops (l.drop 1) (gh dst e.val fr) (u++e.upd++hp) (bif d then e.nx+q+1 else e.nx+q) (acc++[⟨(u++e.upd).map (·.1.key),e.rds++r2e,nx,e.nx+q⟩]) K):d4 P d ops l fr hp nx acc K:=by
 refine xA dst r e u q r2 r2e hc hob g ?_ h;simp only [iJ] at hk ⊢;obtain ⟨k1,k2,k3,k4,k5⟩:=hk;exact ⟨k1,k2,k3,k4,k5,hb.all⟩
end
section
open Go.RowKit
variable {P:Program}
theorem xd {hp:Hp} {nx r:Nat} {e:TypeId} {cs cs':List SV} (hR:bX hp (.t r) = .row e cs) (hw:cs.map n9=cs'):ma P nx 0 [Nm.t r] hp [(Nm.t r,.row e cs')]:=by
 intro X ids w hp' hP hm hC hag hf;have hk:bX hp' (.t r) = .row e cs:=(hag (.t r) (by simp [Nm.key])).trans hR;subst hw;have:=Ex hC hk (cs':=cs.map n9) (by simp) (λi x y v h1 h2 h3=>by
  rw [fZ,h1] at h2;cases h2;exact Da h3)
 exact ⟨ids,this⟩
theorem Ff {α:Type} [b_ α] (n:Nat) (zs:List SV) (hzs:zs.map n9=b_.cells (default:α)):((List.range n).flatMap λ_=>zs).map n9=fl (List.replicate n (default:α)):=by
 rw [←CY n (zs.map n9) hzs,List.map_flatMap]
theorem HV {α:Type} (n:Int) (e:TypeId) (B:Nat) (hB:P.bytesOf e=B) (zs:List SV) (z:Nat) (hz:zs.length=z) (hpos:0<z) (d:α) (k:0<=n/\n<=4611686018427387904/\(B:Int)*n<=140737488355328) (nx:Nat) :
  gH (.ok (0<=n/\n<=n/\n<=4611686018427387904/\(P.bytesOf e:Int)*n<=140737488355328/\zs.length=z/\0<z) ⟨.own nx 0 n.toNat,[(Nm.t nx,.row e ((List.range n.toNat).flatMap λ_=>zs))],nx+1,[]⟩) ⟨.own nx 0 (List.replicate n.toNat d).length,[(Nm.t nx,.row e ((List.range n.toNat).flatMap λ_=>zs))],nx+1,[]⟩:=by
 subst hB;exact i0 ⟨k.1,iW _,k.2.1,k.2.2,hz,hpos⟩ (by rw [rB]) rfl
end
section
open Go.RowKit
variable {P:Program} {fr:Fr} {hp:Hp} {nx:Nat}
end
section
open Go.RowKit
variable {P:Program} {hp hin:Hp} {nx:Nat}
def isT:Nm->Bool
 | .t _=>true
 | _=>false
def Gq:Nat->Fr->Fr
 | 0,fr=>fr
 | _+1,[]=>[]
 | n+1,p::r=>p::(Gq n r).filter λq=>!(q.1==p.1)
def Gr:Nat->Hp->Hp
 | 0,hp=>hp
 | _+1,[]=>[]
 | n+1,p::r=>p::(Gr n r).filter λq=>!(q.1.eqk p.1)
theorem ue (a d:Nat) (h:a≠d):∀ fr:Fr,cL (fr.filter λq=>!(q.1==a)) d=cL fr d
 | []=>rfl
 | p::r=>by
  simp only [List.filter]
  cases he:p.1==a with
  | true =>
   simp only [jF,cL]
   rw [ue a d h r]
   have:p.1=a:=by simpa using he
   rw [show (p.1==d)=false from by simpa using λe=>h (this▸e)];rfl
  | false=>simp only [oo,cL];rw [ue a d h r]
theorem Dl:∀ (n:Nat) (fr:Fr) (d:Nat),cL (Gq n fr) d=cL fr d
 | 0,fr,d=>rfl
 | n+1,[],d=>rfl
 | n+1,p::r,d=>by
  simp only [Gq,cL]
  cases he:p.1==d with
  | true=>rfl
  | false=>simp only [cj];rw [ue p.1 d (by simpa using he),Dl n r d]
theorem uf (a d:Nm) (h:a.key≠d.key):∀ hp:Hp,bX (hp.filter λq=>!(q.1.eqk a)) d=bX hp d
 | []=>rfl
 | p::r=>by
  simp only [List.filter]
  cases he:p.1.eqk a with
  | true =>
   simp only [jF,bX]
   rw [uf a d h r]
   have:p.1.key=a.key:=Nm.eqk_iff.1 he
   rw [Nm.eqk_no (λe=>h (this▸e))];rfl
  | false=>simp only [oo,bX];rw [uf a d h r]
theorem Dm:∀ (n:Nat) (hp:Hp) (d:Nm),bX (Gr n hp) d=bX hp d
 | 0,hp,d=>rfl
 | n+1,[],d=>rfl
 | n+1,p::r,d=>by
  simp only [Gr,bX]
  cases he:p.1.eqk d with
  | true=>rfl
  | false =>
   simp only [cj]
   rw [uf p.1 d (λe=>by rw [Nm.eqk_iff.2 e] at he;cases he),Dm n r d]
theorem HW (a b:Nat) (fr:Fr) (hp:Hp):F0 fr (Gq a fr) hp (Gr b hp):=⟨λd=>.inl (Dl a fr d),λk=>Dm b hp k⟩
end
section
open Go.RowKit
variable {P:Program} {hp:Hp} {nx:Nat}
def Bt (k:IntKind) (m:List (Int×Int)):List (Value×SV):=m.map λp=>(.int k p.1,.v (.int .i64 p.2))
theorem KW (j:IntKind) (k a:Int):gQ (.int j k) (.int j a)=(k==a):=by simp [gQ,kc]
theorem Dn (j:IntKind) (k:Int):∀ (m:List (Int×Int)) (i:Nat),(fc (.int j k) (Bt j m) i).map (·.2)=(m.find? λp=>k==p.1).map λp=>.v (.int .i64 p.2)
 | [],i=>rfl
 | p::r,i=>by
  show (bif gQ (.int j k) (.int j p.1) then _ else fc _ (Bt j r) (i+1)).map (·.2)=_
  rw [KW,List.find?_cons]
  cases h:k==p.1 with
  | true=>simp
  | false=>simpa using Dn j k r (i+1)
theorem HX (j:IntKind) (m:List (Int×Int)) (k:Int):gA (.int .i64 0) (.int j k) (Bt j m) = .v (.int .i64 (fX m k)):=by
 have:=Dn j k m 0;unfold gA fX;cases h:fc (.int j k) (Bt j m) 0 with
 | none=>rw [h] at this;cases hf:m.find? (λp=>k==p.1) with
  | none=>rfl
  | some p=>rw [hf] at this;simp at this
 | some q=>rw [h] at this;cases hf:m.find? (λp=>k==p.1) with
  | none=>rw [hf] at this;simp at this
  | some p=>rw [hf] at this;simp at this;simp [this]
theorem HY (j:IntKind) (m:List (Int×Int)) (k:Int):(Bt j m).all (λp=>gM (.int j k) p.1)=true:=by simp [Bt,gM]
theorem Jb (j:IntKind) (k:Int) (mm:List (Int×Int)) (kk:Nm) (nx:Nat):gH (.ok (lZ (.int j) (.int j k)=true/\(Bt j mm).all (λp=>gM (.int j k) p.1)=true) ⟨gA (.int .i64 0) (.int j k) (Bt j mm),[],nx,[kk.key]⟩) ⟨.v (.int .i64 (fX mm k)),[],nx,[kk.key]⟩ :=
 i0 ⟨rfl,HY j mm k⟩ (HX j mm k) rfl
def Do (m:List (Bool×Int)):List (Value×SV):=m.map λp=>(.bool p.1,.v (.int .i64 p.2))
def mU (m:List (Bool×Int)) (b:Bool):Int:=((m.find? λp=>b==p.1).map (·.2)).getD 0
theorem Dp (k:Bool):∀ (m:List (Bool×Int)) (i:Nat),(fc (.bool k) (Do m) i).map (·.2)=(m.find? λp=>k==p.1).map λp=>.v (.int .i64 p.2)
 | [],i=>rfl
 | p::r,i=>by
  show (bif gQ (.bool k) (.bool p.1) then _ else fc _ (Do r) (i+1)).map (·.2)=_
  rw [List.find?_cons]
  simp only [gQ,kc]
  cases h:k==p.1 with
  | true=>simp
  | false=>simpa using Dp k r (i+1)
theorem HZ (m:List (Bool×Int)) (k:Bool):gA (.int .i64 0) (.bool k) (Do m) = .v (.int .i64 (mU m k)):=by
 have:=Dp k m 0;unfold gA mU;cases h:fc (.bool k) (Do m) 0 with
 | none=>rw [h] at this;cases hf:m.find? (λp=>k==p.1) with
  | none=>rfl
  | some p=>rw [hf] at this;simp at this
 | some q=>rw [h] at this;cases hf:m.find? (λp=>k==p.1) with
  | none=>rw [hf] at this;simp at this
  | some p=>rw [hf] at this;simp at this;simp [this]
theorem Dq (b:Bool) (mm:List (Bool×Int)) (kk:Nm) (nx:Nat):gH (.ok (lZ .bool (.bool b)=true/\(Do mm).all (λp=>gM (.bool b) p.1)=true) ⟨gA (.int .i64 0) (.bool b) (Do mm),[],nx,[kk.key]⟩) ⟨.v (.int .i64 (mU mm b)),[],nx,[kk.key]⟩ :=
 i0 ⟨rfl,by simp [Do,gM]⟩ (HZ mm b) rfl
theorem nZ (d:TypeDesc) (kv:Value) (v:SV) (es es':List (Value×SV)) (kk nx:Nat) (h1:lZ d kv=true) (h2:es.all (λp=>gM kv p.1)=true) (h3:lr kv v es=es'):gH (.ok (lZ d kv=true/\es.all (λp=>gM kv p.1)=true) ⟨.any,[(Nm.t kk,.map (lr kv v es))],nx,[Nm.t kk]⟩) ⟨.any,[(Nm.t kk,.map es')],nx,[Nm.t kk]⟩ :=
 i0 ⟨h1,h2⟩ rfl (by rw [h3])
structure dn (n:Nat) where
 l:List Int
 h:l.length=n
variable {n:Nat}
theorem dn.ext:∀ {a b:dn n},a.l=b.l->a=b
 | ⟨_,_⟩,⟨_,_⟩,h=>by simp only at h;subst h;rfl
instance : DecidableEq (dn n):=λa b=>if h:a.l=b.l then .isTrue (dn.ext h) else .isFalse λe=>h (e▸rfl)
instance : Inhabited (dn n):=⟨⟨List.replicate n 0,by simp⟩⟩
def dn.get (a:dn n) (i:Int):Int:=a.l.getD i.toNat 0
def dn.set (a:dn n) (i v:Int):dn n:=⟨a.l.set i.toNat v,by rw [cr];exact a.h⟩
def dn.cells (a:dn n):List SV:=(List.range n).map λk=>.v (.int .i64 (a.l.getD k 0))
theorem dn.cells_fl (a:dn n):a.cells=a.l.map λx=>.v (.int .i64 x):=by
 refine List.ext_getElem (by simp [dn.cells,a.h]) λi h1 h2=>?_
 simp only [dn.cells,oq,List.getElem_range,ep] at h2 ⊢;rw [dA,dz h2];rfl
theorem dn.st (a:dn n):iu a.cells=true:=by
 rw [dn.cells_fl];induction a.l with
 | nil=>rfl
 | cons x l ih=>simpa [iu,SV.st] using ih
instance : b_ (dn n):=⟨n,dn.cells,λa=>by simp [dn.cells],λa=>by simp [dn.cells,i_,Value.oneCell'],dn.st⟩
theorem dn.len (a:dn n):(b_.cells a).length=n:=b_.len a
theorem dn.at (a:dn n) (e:Int) (k:0<=e/\e<(n:Int)) (d:SV):(b_.cells a).getD e.toNat d = .v (.int .i64 (a.get e)):=by
 show a.cells.getD e.toNat d=_;have hl:e.toNat<a.cells.length:=by have:=dn.len a;show _<(b_.cells a).length;omega
 rw [dA,dz hl];simp only [dn.cells,oq,List.getElem_range];rfl
theorem dn.put (a:dn n) (e v:Int) (k:0<=e/\e<(n:Int)):(b_.cells a).set e.toNat (.v (.int .i64 v))=b_.cells (a.set e v):=by
 show a.cells.set _ _=(a.set e v).cells;rw [dn.cells_fl,dn.cells_fl];simp only [dn.set,List.map_set]
theorem gV (kk:Nm) (off len z:Nat) (e:Int) (nx:Nat) (k:0<=e/\e<(len:Int)):gH (.ok (0<=e/\e<(len:Int)) ⟨.ptr kk (off+e.toNat*z),[],nx,[]⟩) ⟨.ptr kk (off+e.toNat*z),[],nx,[]⟩:=i0 k rfl rfl
theorem jN (pre post:List SV) (a:dn n) (e:Int) (o:Nat) (k:0<=e/\e<(n:Int)) (ho:o=pre.length+e.toNat*1) (d:SV) (nx:Nat) (rds:List Nm) :
  gH (.ok (o<(pre++(b_.cells a++post)).length) ⟨(pre++(b_.cells a++post)).getD o d,[],nx,rds⟩) ⟨.v (.int .i64 (a.get e)),[],nx,rds⟩:=by
 have hl:=dn.len a;rw [pV] at ho;refine i0 (by simp only [dW,hl];omega) ?_ rfl;rw [ho,dA,jB (by omega),yd,iR (by omega),←dA];exact dn.at a e k d
theorem Gs (cs:List SV) (o:Nat) (x:SV):fT cs o [x]=cs.set o x:=rfl
theorem lz (pre post:List SV) (a:dn n) (e v:Int) (o:Nat) (k:0<=e/\e<(n:Int)) (ho:o=pre.length+e.toNat*1):fT (pre++(b_.cells a++post)) o [.v (.int .i64 v)]=pre++(b_.cells (a.set e v)++post):=by
 have hl:=dn.len a;rw [pV] at ho;rw [Gs,ho,List.set_append_right _ _ (by omega),yd,List.set_append_left _ _ (by omega),dn.put a e v k]
theorem MA (pre post:List SV) (a:dn n) (e v:Int) (o:Nat) (k:0<=e/\e<(n:Int)) (ho:o=pre.length+e.toNat*1) (kk:Nat) (nx et t:Nat) (hs:jI P t=some 1) :
  gH (.ok (jI P t=some 1/\true=true/\o+1<=(pre++(b_.cells a++post)).length) ⟨.any,[(Nm.t kk,.row et (fT (pre++(b_.cells a++post)) o [.v (.int .i64 v)]))],nx,[Nm.t kk]⟩) ⟨.any,[(Nm.t kk,.row et (pre++(b_.cells (a.set e v)++post)))],nx,[Nm.t kk]⟩:=by
 have hl:=dn.len a;refine i0 ⟨hs,rfl,?_⟩ rfl ?_
 ·simp only [dW,hl];omega
 ·rw [lz pre post a e v o k ho]
theorem Fg {hp hp':Hp} {σ:List (Nm×Nm)} {frz:List Nm} (a:dn n) (xs ys:List SV):lR hp hp' σ frz (b_.cells a++xs) (b_.cells a++ys)=lR hp hp' σ frz xs ys:=by
 refine propext ?_;show lR hp hp' σ frz (a.cells++xs) (a.cells++ys)↔_;rw [dn.cells_fl];induction a.l with
 | nil=>exact Iff.rfl
 | cons x l ih =>
  simp only [gv,iz,lR];rw [ih];simp only [fv,true_and]
theorem Jc (τ:Nm->Nm) (a:dn n) (xs:List SV):jx τ (b_.cells a++xs)=b_.cells a++jx τ xs:=by
 show jx τ (a.cells++xs)=a.cells++_;rw [dn.cells_fl];induction a.l with
 | nil=>rfl
 | cons x l ih=>simp only [gv,iz,jx,iA,ih]
theorem Fh (a:dn n) (xs:List SV):iu (b_.cells a++xs)=iu xs:=by
 show iu (a.cells++xs)=_;rw [dn.cells_fl];induction a.l with
 | nil=>rfl
 | cons x l ih=>simpa [iu,SV.st] using ih
theorem KX (a:dn n) (xs:List SV):mO (b_.cells a++xs)=mO xs:=by
 show mO (a.cells++xs)=_;rw [dn.cells_fl];induction a.l with
 | nil=>rfl
 | cons x l ih=>simpa [mO,SV.cl] using ih
theorem yG (a:dn n) (xs:List SV):iX (b_.cells a++xs)=iX xs:=by
 show iX (a.cells++xs)=_;rw [dn.cells_fl];induction a.l with
 | nil=>rfl
 | cons x l ih=>simpa [iX,SV.nim] using ih
theorem Jd (xs:List (dn n)):iX (fl xs)=true:=m4 (λa=>by have:=yG a [];simpa [iX] using this) xs
theorem KY:b_.sz (dn n)=n:=rfl
theorem Je (a:dn n):iu (b_.cells a)=true:=b_.stc a
theorem Dr (a:dn n):mO (b_.cells a)=true:=jp (b_.stc a)
theorem H7 (τ:Nm->Nm) (a:dn n):jx τ (b_.cells a)=b_.cells a:=nX (Dr a)
theorem H8 (a:dn n):iX (b_.cells a)=true:=by have:=yG a [];simpa [iX] using this
theorem Jf {hp hp':Hp} {σ:List (Nm×Nm)} {frz:List Nm} (a:dn n):lR hp hp' σ frz (b_.cells a) (b_.cells a)=True:=by
 have:=Fg (hp:=hp) (hp':=hp') (σ:=σ) (frz:=frz) a [] [];simp only [jY,lR] at this;exact this
attribute [push_cast] Fg Jc Fh KX yG Jd KY Je Dr H7 H8 Jf
def dn.c0 (a:dn n):Int:=a.l.getD 0 0
def dn.c1 (a:dn n):Int:=a.l.getD 1 0
def dn.c2 (a:dn n):Int:=a.l.getD 2 0
def dn.c3 (a:dn n):Int:=a.l.getD 3 0
def dn.c4 (a:dn n):Int:=a.l.getD 4 0
def dn.c5 (a:dn n):Int:=a.l.getD 5 0
def dn.c6 (a:dn n):Int:=a.l.getD 6 0
def dn.c8 (a:dn n):Int:=a.l.getD 8 0
def dn.c9 (a:dn n):Int:=a.l.getD 9 0
def dn.c10 (a:dn n):Int:=a.l.getD 10 0
def dn.c11 (a:dn n):Int:=a.l.getD 11 0
end
section
open Go.RowKit
variable {α β:Type} [b_ α] {P:Program} {hp hp':Hp} {nx:Nat} {σ:List (Nm×Nm)} {frz:List Nm}
def cB (F n:Nat):List SV:=(List.range n).map λ(i:Nat)=>SV.ptr (.s F ((i:Nat):Int)) 0
def cu (t:TypeId) (xs:List α):Int->cp:=λi=>bif decide (0<=i/\i<(xs.length:Int)) then .row t (b_.cells (ix xs i)) else .void
theorem jO (F n:Nat):(cB F n).length=n:=by simp [cB]
theorem dO {t:TypeId} {xs:List α} {i:Int} (k:0<=i/\i<(xs.length:Int)):cu t xs i = .row t (b_.cells (ix xs i)):=by
 unfold cu;rw [cG k];rfl
theorem lg {t:TypeId} {xs:List α} {i:Int} (k:¬ (0<=i/\i<(xs.length:Int))):cu t xs i = .void:=by
 unfold cu;rw [cP k];rfl
theorem lI (t:TypeId) (xs:List α) (i:Int):(cp.fam (cu t xs)).at i=cu t xs i:=by
 simp only [cp.at];by_cases k:0<=i/\i<(xs.length:Int)
 ·rw [dO k]
 ·rw [lg k]
theorem yH {t:TypeId} {xs:List α} {i:Int} (k:0<=i/\i<(xs.length:Int)):(cp.fam (cu t xs)).at i = .row t (b_.cells (ix xs i)):=(lI t xs i).trans (dO k)
theorem Jg {t:TypeId} {xs:List α} {i:Int} (k:0<=i/\i<(xs.length:Int)) (y:α):sO (λq=>(cp.fam (cu t xs)).at q) i (.row t (b_.cells y))=cu t (xs.set i.toNat y):=by
 funext q;unfold sO;by_cases hq:q=i
 ·subst hq;have k':0<=q/\q<(((xs.set q.toNat y).length:Nat):Int):=by rw [cr];exact k
  rw [dO k'];have:ix (xs.set q.toNat y) q=y:=by unfold ix;rw [dA,List.getElem?_set_self (by omega)];rfl
  simp only [this,oO,cd]
 ·rw [show (q==i)=false from by simpa using hq,cj];show (cp.fam (cu t xs)).at q=_;rw [lI];by_cases kq:0<=q/\q<(xs.length:Int)
  ·rw [dO kq,dO (xs:=xs.set i.toNat y) (by rw [cr];exact kq)];have:ix (xs.set i.toNat y) q=ix xs q:=by unfold ix;rw [dA,dA,List.getElem?_set_ne (by omega)]
   rw [this]
  ·rw [lg kq,lg (xs:=xs.set i.toNat y) (by rw [cr];exact kq)]
theorem d8 (t:TypeId) (xs:List α) (i:Int) (k:0<=i/\i<(xs.length:Int)) (ty:TypeId) (off nx:Nat) (rds:List Nm) {e:dx} (h:gH (kx P ty (b_.cells (ix xs i)) off rds nx) e) :
  gH (o_ ((cp.fam (cu t xs)).at i) λ_ cs=>kx P ty cs off rds nx) e:=by
 rw [yH k];exact h
theorem kf {x:α} {ty:TypeId} {off nx:Nat} {rds:List Nm} (ht:tZ P ty=some false) (hj:off<b_.sz α) {v:SV} (hv:(b_.cells x).getD off (eM P ty)=v):gH (kx P ty (b_.cells x) off rds nx) ⟨v,[],nx,rds⟩:=by
 unfold kx;rw [ht];exact i0 (by rw [b_.len];exact hj) hv rfl
theorem xe {x:α} {ty:TypeId} {off nx n:Nat} {rds:List Nm} (ht:tZ P ty=some true) (hn:jI P ty=some n) (hj:off+n<=b_.sz α) {v:List SV} (hv:((b_.cells x).drop off).take n=v):gH (kx P ty (b_.cells x) off rds nx) ⟨.agg v,[],nx,rds⟩:=by
 unfold kx;rw [ht,hn];exact i0 (by rw [b_.len];exact hj) (by rw [hv]) rfl
theorem gE (ty:TypeId) (xs:List α) (i:Int) (k:0<=i/\i<(xs.length:Int)) (off:Nat) (vs:List SV) (y:α) (hj:off+vs.length<=b_.sz α) (hy:fT (b_.cells (ix xs i)) off vs=b_.cells y) (F nx t:Nat) (hs:jI P t=some vs.length) (h1:vs.all i_=true) :
  gH (o_ ((cp.fam (cu ty xs)).at i) λe cs=>.ok (jI P t=some vs.length/\vs.all i_=true/\off+vs.length<=cs.length) ⟨.any,[(Nm.s F 0,.fam (sO (λq=>(cp.fam (cu ty xs)).at q) i (.row e (fT cs off vs))))],nx,[Nm.s F 0]⟩) ⟨.any,[(Nm.s F 0,.fam (cu ty (xs.set i.toNat y)))],nx,[Nm.s F 0]⟩:=by
 rw [yH k];refine i0 ⟨hs,h1,by rw [b_.len];exact hj⟩ rfl ?_;rw [hy,Jg k]
structure pD (C C':Nm->cp) (Q K R:Nm):Prop where
 vd:C Q = .void
 kl:(C K).live=true
 q:C' Q=C K
 k:C' K = .dead
 oth:∀ j,j≠Q->j≠K->j≠R->C' j=C j
 kr:K≠R
 row:(∃ e cs cs',C R = .row e cs/\C' R = .row e cs'/\cs'.length=cs.length/\∀ (i:Nat) (x y:SV),cs[i]? = some x->cs'[i]? = some y->x=y\/(x = .ptr K 0/\y = .ptr Q 0)) \/
 ∃es es',C R = .map es/\C' R = .map es'/\es'.length=es.length/\∀ (i:Nat) (x y:Value×SV),es[i]? = some x->es'[i]? = some y->x.1=y.1/\(x.2=y.2\/(x.2 = .ptr K 0/\y.2 = .ptr Q 0))
section sem
variable {w0:World} {I0 W0:Nat->Prop} {C C':Nm->cp} {Q K R:Nm} {ids:dE} {w:World}
theorem pD.liveR (hh:pD C C' Q K R):(C R).live=true/\(C' R).live=true:=by
 rcases hh.row with ⟨e,cs,cs',h1,h2,_⟩|⟨es,es',h1,h2,_⟩<;>(rw [h1,h2];exact ⟨rfl,rfl⟩)
theorem pD.old (hh:pD C C' Q K R) {j:Nm} {b o:Nat} (hl:(C' j).live=true) (hi:upd ids Q (ids K) j=some (b,o)) :
 ∃k0,(C k0).live=true/\ids k0=some (b,o)/\((j≠Q/\k0=j/\j≠K)\/(j=Q/\k0=K)):=by
 by_cases hQ:j=Q
 ·subst hQ;rw [cH] at hi;exact ⟨K,hh.kl,hi,.inr ⟨rfl,rfl⟩⟩
 ·rw [dP _ _ hQ] at hi;by_cases hK:j=K
  ·subst hK;rw [hh.k] at hl;cases hl
  by_cases hR:j=R
  ·subst hR;exact ⟨j,hh.liveR.1,hi,.inl ⟨hQ,rfl,hK⟩⟩
  ·rw [hh.oth j hQ hK hR] at hl;exact ⟨j,hl,hi,.inl ⟨hQ,rfl,hK⟩⟩
theorem pD.ext (h:lD P w0 I0 W0 C ids w) (hh:pD C C' Q K R):ku C ids (Im w0 I0 W0 C ids w) w C' (upd ids Q (ids K)) (Im w0 I0 W0 C' (upd ids Q (ids K)) w) w:=by
 refine ⟨λb hb=>⟨⟨hb.1,hb.2.1,λk hk o hi=>?_⟩,rfl⟩,λj hj=>?_,λj hj=>?_⟩
 ·obtain ⟨k0,h1,h2,_⟩:=hh.old hk hi;exact hb.2.2 k0 h1 o h2
 ·have hQ:j≠Q:=λe=>by rw [e,hh.vd] at hj;cases hj
  have hK:j≠K:=λe=>by have:=hh.kl;rw [←e,hj] at this;cases this
  have hR:j≠R:=λe=>by have:=hh.liveR.1;rw [←e,hj] at this;cases this
  rw [hh.oth j hQ hK hR];exact hj
 ·have hQ:j≠Q:=λe=>by rw [e,hh.vd] at hj;cases hj
  by_cases hK:j=K
  ·subst hK;exact .inl hh.k
  by_cases hR:j=R
  ·subst hR;rcases hh.row with ⟨e,cs,cs',h1,h2,h3,_⟩|⟨es,es',h1,h2,_⟩
   ·exact .inr ⟨hh.liveR.2,dP _ _ hQ,by rw [h1,h2];exact ⟨rfl,Nat.le_of_eq h3⟩,λ_ _ _=>dN.refl _⟩
   ·exact .inr ⟨hh.liveR.2,dP _ _ hQ,by rw [h1,h2];exact trivial,λ_ _ _=>dN.refl _⟩
  ·have h1:=hh.oth j hQ hK hR;exact .inr ⟨by rw [h1];exact hj,dP _ _ hQ,by rw [h1];exact dZ.refl hj,λ_ _ _=>dN.refl _⟩
theorem pD.den {off:Nat} (h:lD P w0 I0 W0 C ids w) (hh:pD C C' Q K R) {x y:SV} {v:Value} (hr:x=y\/(x = .ptr K off/\y = .ptr Q off)) (hd:dT P C ids (Im w0 I0 W0 C ids w) w x v):dT P C' (upd ids Q (ids K)) (Im w0 I0 W0 C' (upd ids Q (ids K)) w) w y v:=by
 rcases hr with rfl|⟨rfl,rfl⟩
 ·exact hd.mono (hh.ext h)
 ·obtain ⟨b,o,g1,rfl⟩:=pY hd hh.kl;exact .ptr b o (by rw [hh.q];exact hh.kl) (by rw [cH];exact g1)
theorem pD.st (h:lD P w0 I0 W0 C ids w) (hh:pD C C' Q K R):lD P w0 I0 W0 C' (upd ids Q (ids K)) w:=by
 have hE:=hh.ext h;refine ⟨λj=>?_,λk k' b o o' hk hk' hi hi'=>?_,λk b o hk hi=>?_,h.im0,h.evol,h.os,h.tape,h.output,h.size⟩
 ·by_cases hQ:j=Q
  ·subst hQ;rw [hh.q];exact fH.rename hE (h.ch K) (cH _ _ _)
  by_cases hK:j=K
  ·subst hK;rw [hh.k];trivial
  by_cases hR:j=R
  ·subst hR;have hc:=h.ch j;rcases hh.row with ⟨e,cs,cs',h1,h2,h3,h4⟩|⟨es,es',h1,h2,h3,h4⟩
   ·rw [h1] at hc;rw [h2];simp only [fH,dP _ _ hQ] at hc ⊢;cases hid:ids j with
    | none =>
     rw [hid] at hc;simp only at hc;subst hc;exact iV h3
    | some p =>
     obtain ⟨b,o⟩:=p;rw [hid] at hc;obtain ⟨arr,ha,hl,hxx⟩:=hc;refine ⟨arr,ha,by omega,λi y hi=>?_⟩;have hlt:=(dy.1 hi).1;have hi2:=dz (show i<cs.length by omega);exact hh.den h (h4 i _ y hi2 hi) (hxx i _ hi2)
   ·rw [h1] at hc;rw [h2];simp only [fH,dP _ _ hQ] at hc ⊢;obtain ⟨b,arr,clock,g1,g2,g3,g4,hbo⟩:=hc;refine ⟨b,arr,clock,g1,g2,by omega,λi y hi=>?_,hbo⟩;have hlt:=(dy.1 hi).1;have hi2:=dz (show i<es.length by omega);obtain ⟨a1,a2⟩:=h4 i _ y hi2 hi;obtain ⟨b1,b2⟩:=g4 i _ hi2;exact ⟨b1.trans a1,hh.den h a2 b2⟩
  ·rw [hh.oth j hQ hK hR];exact fH.rename hE (h.ch j) (dP _ _ hQ)
 ·obtain ⟨k0,a1,a2,a3⟩:=hh.old hk hi;obtain ⟨k0',b1,b2,b3⟩:=hh.old hk' hi';have:=h.inj k0 k0' b o o' a1 b1 a2 b2;subst this;rcases a3 with ⟨_,a3,a4⟩|⟨a3,a4⟩<;>rcases b3 with ⟨_,b3,b4⟩|⟨b3,b4⟩
  ·rw [←a3,←b3]
  ·rw [←a3] at a4;exact absurd b4 a4
  ·rw [←b3] at b4;exact absurd a4 b4
  ·rw [a3,b3]
 ·obtain ⟨k0,a1,a2,_⟩:=hh.old hk hi;exact h.lt k0 b o a1 a2
end sem
theorem Gt {X:Cx} {hp hp':Hp} {ids:dE} {w:World} {Q K R:Nm} (h:HeapC X hp ids w) (hh:pD (bX hp) (bX hp') Q K R):HeapC X hp' (upd ids Q (ids K)) w/\fk X hp ids w hp' (upd ids Q (ids K)) w:=by
 have hE:=hh.ext h.st;refine ⟨⟨hh.st h.st,λj hj h0 hl=>?_,λj hj hv=>?_⟩,hE⟩
 ·by_cases hQ:j=Q
  ·subst hQ;exact absurd (h.nov j hj hh.vd) h0
  by_cases hK:j=K
  ·subst hK;rw [hh.k] at hl;cases hl
  have hlo:(bX hp j).live=true:=by
   by_cases hR:j=R
   ·subst hR;exact hh.liveR.1
   ·rw [←hh.oth j hQ hK hR];exact hl
  exact (h.kept j hj h0 hlo).step hE hlo hl
 ·by_cases hQ:j=Q
  ·subst hQ;have:=hh.kl;rw [←hh.q,hv] at this;cases this
  by_cases hK:j=K
  ·subst hK;rw [hh.k] at hv;cases hv
  by_cases hR:j=R
  ·subst hR;have:=hh.liveR.2;rw [hv] at this;cases this
  ·exact h.nov j hj (by rw [←hh.oth j hQ hK hR];exact hv)
theorem Fi {t:TypeId} {xs:List α} {y:α} {r k F e:Nat} (hR:bX hp (.t r) = .row e (cB F xs.length++[.ptr (.t k) 0])) (hF:iq hp (.s F 0) = .fam (cu t xs)) (hk:bX hp (.t k) = .row t (b_.cells y)) (hb:(!(k==r))=true) :
  ma P nx 0 [.t r,.s F 0,.t k] hp [(.s F 0,.fam (cu t (xs++[y]))),(.t r,.row e (cB F (xs++[y]).length)),(.t k,.dead)]:=by
 simp only [km,beq_eq_false_iff_ne] at hb;intro X ids w hp' hP hm h hrd hf;have hRr:bX hp' (.t r) = .row e (cB F xs.length++[.ptr (.t k) 0]):=(hrd (.t r) (by simp)).trans hR;have hkk:bX hp' (.t k) = .row t (b_.cells y):=(hrd (.t k) (by simp)).trans hk;have hFi:∀ i,bX hp' (.s F i)=cu t xs i:=λi=>by
  rw [hrd (.s F i) (by simp [Nm.key]),ny hF i,lI]
 have hlen:(xs++[y]).length=xs.length+1:=by simp
 have lookG:∀ i,bX ([(.s F 0,.fam (cu t (xs++[y]))),(.t r,.row e (cB F (xs++[y]).length)),(.t k,.dead)]++hp') (.s F i)=cu t (xs++[y]) i:=λi=>by
  simp only [iz,bX,Nm.eqk,oO,cd,cp.mem];exact lI t (xs++[y]) i
 have lookR:bX ([(.s F 0,.fam (cu t (xs++[y]))),(.t r,.row e (cB F (xs++[y]).length)),(.t k,.dead)]++hp') (.t r) = .row e (cB F (xs++[y]).length):=by
  simp [bX,Nm.eqk,cp.mem]
 have lookK:bX ([(.s F 0,.fam (cu t (xs++[y]))),(.t r,.row e (cB F (xs++[y]).length)),(.t k,.dead)]++hp') (.t k) = .dead:=by
  have:(r==k)=false:=by simpa using λe=>hb e.symm
  simp [bX,Nm.eqk,cp.mem,this]
 have hh:pD (bX hp') (bX ([(.s F 0,.fam (cu t (xs++[y]))),(.t r,.row e (cB F (xs++[y]).length)),(.t k,.dead)]++hp')) (.s F (xs.length:Int)) (.t k) (.t r):=by
  refine ⟨?_,by rw [hkk];rfl,?_,lookK,λj hQ hK hR2=>?_,by simpa using hb,?_⟩
  ·rw [hFi,lg (by omega)]
  ·rw [lookG,hkk,dO (by rw [hlen];omega)];have:ix (xs++[y]) (xs.length:Int)=y:=by unfold ix;simp
   rw [this]
  ·by_cases hF2:∃ i,j = .s F i
   ·obtain ⟨i,rfl⟩:=hF2;rw [lookG,hFi];have hi:i≠(xs.length:Int):=λe=>hQ (by rw [e]);by_cases kk:0<=i/\i<(xs.length:Int)
    ·rw [dO kk,dO (xs:=xs++[y]) (by rw [hlen];omega)];have:ix (xs++[y]) i=ix xs i:=by unfold ix;rw [dA,dA,iR (by omega)]
     rw [this]
    ·rw [lg kk,lg (xs:=xs++[y]) (by rw [hlen];omega)]
   ·refine jc λhm=>?_
    simp only [gv,k9,fg,List.not_mem_nil,or_false] at hm;rcases hm with hm|hm|hm
    ·cases j with
     | t a=>simp [Nm.key] at hm
     | s G z=>simp only [Nm.key_s,Nm.s.injEq,k_] at hm;exact hF2 ⟨z,by rw [hm]⟩
    ·exact hR2 (by rw [Nm.key_t] at hm;exact Nm.key_eq_t.1 hm)
    ·exact hK (by rw [Nm.key_t] at hm;exact Nm.key_eq_t.1 hm)
  ·refine .inl ⟨e,_,_,hRr,lookR,by rw [jO,hlen,dW,jO];rfl,λi x z hx hz=>?_⟩;have hi:i<xs.length+1:=by have:=(dy.1 hz).1;rwa [jO,hlen] at this
   have hz2:z = .ptr (.s F (i:Int)) 0:=by
    unfold cB at hz;rw [fZ,List.getElem?_range (by rw [hlen];exact hi)] at hz;simpa using hz.symm
   subst hz2;by_cases hil:i<xs.length
   ·have hx2:x = .ptr (.s F (i:Int)) 0:=by
     rw [iR (by rw [jO];exact hil)] at hx;unfold cB at hx;rw [fZ,List.getElem?_range hil] at hx;simpa using hx.symm
    exact .inl hx2
   ·have he:i=xs.length:=by omega
    subst he;have hx2:x = .ptr (.t k) 0:=by
     rw [jB (by rw [jO];exact cF _),jO,Nat.sub_self] at hx;simpa using hx.symm
    exact .inr ⟨hx2,rfl⟩
 exact ⟨_,Gt h hh⟩
theorem fM {hin:Hp} {t:TypeId} {xs:List α} {F F':Nat} (h1:iq hin (.s F' 0) = .fam (cu t xs)) (h2:iq hp (.s F 0) = .fam (cu t xs)) (i:Int):(bX hin (.s F' i)).live=true\/(bX hin (.s F' i) = .dead/\bX hp (.s F i) = .dead)\/(bX hin (.s F' i) = .void/\bX hp (.s F i) = .void):=by
 rw [ny h1 i,ny h2 i,lI];by_cases kk:0<=i/\i<(xs.length:Int)
 ·rw [dO kk];exact .inl rfl
 ·rw [lg kk];exact .inr (.inr ⟨rfl,rfl⟩)
theorem Jh {t:TypeId} {y:α} {r k e:Nat} (hR:bX hp (.t r) = .row e [.ptr (.t k) 0]) (hk:bX hp (.t k) = .row t (b_.cells y))
  (hb:(Nat.blt r nx,Nat.blt k nx,!(k==r))=(true,true,true)) :
  ma P nx 1 [.t r,.t k] hp [(.s nx 0,.fam (cu t [y])),(.t r,.row e (cB nx [y].length)),(.t k,.dead)]:=by
 simp only [iJ,kH,km,beq_eq_false_iff_ne] at hb;obtain ⟨b1,b2,b4⟩:=hb;intro X ids w hp' hP hm h hrd hf;have hRr:bX hp' (.t r) = .row e [.ptr (.t k) 0]:=(hrd (.t r) (by simp)).trans hR;have hkk:bX hp' (.t k) = .row t (b_.cells y):=(hrd (.t k) (by simp)).trans hk;have look:∀ q:Nm,q.base≠nx->q≠.t r->bX ([(.s nx 0,.fam (cu t [y])),(.t r,.row e (cB nx [y].length)),(.t k,.dead)]++hp') q=bX ([(.t k,.dead)]++hp') q:=λq hb hq=>by
  simp only [iz,pL,bX];have h1:(Nm.s nx 0).eqk q=false:=Nm.eqk_no λe=>hb (by have:=dJ Nm.base e;simpa using this.symm)
  have h2:(Nm.t r).eqk q=false:=Nm.eqk_no λe=>hq (by rw [Nm.key_t] at e;exact Nm.key_eq_t.1 e.symm)
  rw [h1,h2];rfl
 have lookR:bX ([(.s nx 0,.fam (cu t [y])),(.t r,.row e (cB nx [y].length)),(.t k,.dead)]++hp') (.t r) = .row e (cB nx [y].length):=by
  simp [bX,Nm.eqk,cp.mem]
 have lookG:∀ i,bX ([(.s nx 0,.fam (cu t [y])),(.t r,.row e (cB nx [y].length)),(.t k,.dead)]++hp') (.s nx i)=cu t [y] i:=λi=>by
  simp only [iz,bX,Nm.eqk,oO,cd,cp.mem];exact lI t [y] i
 have deadK:bX ([(.t k,.dead)]++hp') (.t k) = .dead:=by simp [bX,Nm.eqk,cp.mem]
 have hh:s_ (bX hp') (bX ([(.s nx 0,.fam (cu t [y])),(.t r,.row e (cB nx [y].length)),(.t k,.dead)]++hp')) nx (λi=>if i=0 then some (.t k) else none) (.t r):=by
  refine ⟨λq hq=>hf q (by omega) (by omega),λi q hi=>?_,λi hi=>?_,?_,λi q hi=>?_,λq hb hqR=>?_,by simp;omega,?_,λi i' q h1 h2=>?_⟩
  ·split at hi
   ·rename_i h0;cases hi;subst h0;rw [lookG,hkk,dO (xs:=[y]) (by simp)];rfl
   ·cases hi
  ·split at hi
   ·cases hi
   ·rename_i h0;rw [lookG];right;rw [lg (xs:=[y]) (by simp;omega)];rfl
  ·have h1:bX ([(.s nx 0,.fam (cu t [y])),(.t r,.row e (cB nx [y].length)),(.t k,.dead)]++hp') (.t nx)=bX hp' (.t nx):=by
    refine jc λhm=>?_
    simp [Nm.key] at hm;omega
   rw [h1,hf (.t nx) (cF _) (by simp)];rfl
  ·split at hi
   ·cases hi;rw [look _ (by simp;omega) (by simpa using b4)];exact deadK
   ·cases hi
  ·rw [look q hb hqR];by_cases h2:q = .t k
   ·right;subst h2;exact deadK
   ·left;refine jc λhm=>?_
    simp only [gv,k9,fg,List.not_mem_nil,or_false] at hm;exact h2 (by rw [Nm.key_t] at hm;exact Nm.key_eq_t.1 hm)
  ·refine ⟨e,_,_,hRr,lookR,by rw [jO];rfl,λi x z hx hz=>?_⟩;have hi:i<1:=(dy.1 hx).1;have he:i=0:=by omega
   subst he;have hx2:x = .ptr (.t k) 0:=by simpa using hx.symm
   have hz2:z = .ptr (.s nx 0) 0:=by simpa [cB] using hz.symm
   subst hx2;subst hz2;exact .ptr (i:=0) (by simp) (by rw [hkk];rfl)
  ·split at h1
   ·split at h2
    ·omega
    ·cases h2
   ·cases h1
 exact ⟨_,HK h hm hh⟩
omit [b_ α] in
theorem Fj (F:Nat) (xs:List α) (y:α) (k B:Nat) (s0:Prop) (h0:s0) (e:TypeId) (hB:P.bytesOf e=B) (hpos:0<B) (hle:(xs++[y]).length*B<=140737488355328) (kk nx:Nat) (rds:List Nm) :
  gH (.ok (s0/\e=e/\([SV.ptr (.t k) 0]:List SV).length=1*1/\([SV.ptr (.t k) 0]:List SV).all i_=true/\0+xs.length*1<=(cB F xs.length).length/\0<P.bytesOf e/\(xs.length+1)*P.bytesOf e<=140737488355328) ⟨.own nx 0 (xs.length+1),[(Nm.t nx,.row e (da (cB F xs.length) 0 (xs.length*1)++[.ptr (.t k) 0])),(Nm.t kk,.dead)],nx+1,Nm.t kk::rds⟩) ⟨.own nx 0 (xs++[y]).length,[(Nm.t nx,.row e (cB F xs.length++[.ptr (.t k) 0])),(Nm.t kk,.dead)],nx+1,Nm.t kk::rds⟩:=by
 subst hB;rw [dW,List.length_singleton] at hle ⊢;refine i0 ⟨h0,rfl,rfl,rfl,by rw [jO,dm,pV];exact cF _,hpos,hle⟩ rfl ?_;rw [da,rA,pV,kI (by rw [jO];exact cF _)]
theorem tc (F n:Nat) (i:Int) (off:Nat) (k:0<=i/\i<(n:Int)) (ho:off=i.toNat*1) (d:SV) (nx:Nat) (rds:List Nm) :
  gH (.ok (off<(cB F n).length) ⟨(cB F n).getD off d,[],nx,rds⟩) ⟨.ptr (.s F i) 0,[],nx,rds⟩:=by
 rw [pV] at ho;subst ho;refine i0 (by rw [jO];omega) ?_ rfl;unfold cB;rw [dA,fZ,List.getElem?_range (by omega)];simp only [fp,gY];rw [show (i.toNat:Int)=i from by omega]
theorem H9 {t:TypeId} {xs:List α} {i:Int} (k:0<=i/\i<(xs.length:Int)):((cp.fam (cu t xs)).at i).live=true:=by rw [yH k];rfl
def td (c:cp) (m:Nat):Prop:=∀ i:Nat,i<m->(c.at ((i:Nat):Int)).live=true
theorem d5 (t:TypeId) (xs:List α) (m:Nat):td (.fam (cu t xs)) m=(m<=xs.length):=by
 refine propext ⟨λh=>?_,λh i hi=>H9 (by omega)⟩;by_cases hm:m<=xs.length
 ·exact hm
 ·have:=h xs.length (by omega);rw [lI,lg (by omega)] at this;cases this
theorem ee (t:TypeId) (xs:List α):td (.fam (cu t xs)) xs.length=True:=eq_true (by rw [d5];exact cF _)
theorem eN (t:TypeId) (x:α):td (.fam (cu t [x])) 1=True:=eq_true (by rw [d5];exact cF _)
theorem eO (t:TypeId) (xs:List α) (x:α):td (.fam (cu t (xs++[x]))) (xs.length+1)=True:=eq_true (by rw [d5];simp)
theorem eQ (t:TypeId) (xs:List α) (i:Nat) (x:α):td (.fam (cu t (xs.set i x))) xs.length=True:=eq_true (by rw [d5];simp)
theorem fx {F F':Nat} {n m:Nat} (h:n=m/\di σ (.s F' 0)=some (.s F 0)/\td (iq hp' (.s F' 0)) m):lR hp hp' σ frz (cB F n) (cB F' m)=True:=by
 obtain ⟨rfl,h1,h2⟩:=h;refine eq_true (De ?_);have gen:∀ l:List Nat,(∀ i∈l,i<n)->Pw (fv hp hp' σ frz) (l.map λ(i:Nat)=>SV.ptr (.s F ((i:Nat):Int)) 0) (l.map λ(i:Nat)=>SV.ptr (.s F' ((i:Nat):Int)) 0):=by
  intro l;induction l with
  | nil=>intro _;trivial
  | cons a l ih =>
   intro hl;refine ⟨?_,ih λi hi=>hl i (by simp [hi])⟩;have ha:=hl a (by simp);simp only [fv];refine ⟨Dg h1 _,trivial,?_⟩;have h3:=h2 a ha;cases hg:iq hp' (.s F' 0) with
   | fam g=>rw [ny hg];rw [hg] at h3;exact h3
   | _=>rw [hg] at h3;cases h3
 exact gen _ λi hi=>by simpa using hi
theorem H_ {t:TypeId} {xs:List α} {F':Nat} {i:Int} (h:BW hp σ F' (cu t xs)):n8 hp hp' σ frz (.s F' i) (cu t xs i)=True:=by
 refine eq_true ?_;unfold BW at h;cases hn:di σ (.s F' 0) with
 | none=>rw [hn] at h;exact h.elim
 | some k =>
  rw [hn] at h;simp only at h;have hs:di σ (.s F' i)=some (.s k.base i):=by rw [jm σ F' i,hn];rfl
  have hg:=ny h i;rw [lI] at hg;by_cases kk:0<=i/\i<(xs.length:Int)
  ·rw [dO kk] at hg ⊢;simp only [n8,hs,hg];exact ⟨trivial,.inl ⟨b_.stc _,trivial⟩⟩
  ·rw [lg kk] at hg ⊢;simp only [n8,hs,hg]
theorem eR (τ:Nm->Nm) (t:TypeId) (xs:List α) (i:Int):ip τ (cu t xs i)=cu t xs i:=by
 by_cases kk:0<=i/\i<(xs.length:Int)
 ·rw [dO kk];simp only [ip];rw [nX (jp (b_.stc _))]
 ·rw [lg kk];rfl
theorem eS (F n:Nat):jx (ga (di σ) nx) (cB F n)=cB (ga (di σ) nx (.s F 0)).base n:=by
 unfold cB;rw [lf,ot];refine pP λi _=>?_
 simp only [Function.comp,iA];rw [uY (jm σ)]
theorem MB (t:TypeId) (xs:List α) (G:Nat) (z:Int) (r:Hp) (F:Nat):rY ((.s G z,.fam (cu t xs))::r) F=bif G==F then cu t xs else rY r F:=by
 funext q;simp only [rY,bX,Nm.eqk];cases G==F with
 | true=>simp only [cd,cp.mem];exact lI t xs q
 | false=>rfl
theorem cS.frzA {f:FuncId} {args:List SV} {hin H:Hp} {m nn:Nat} {X:SV} (na:cS P f args hin m (λx h n=>x=X/\h=H/\n=nn)) (G:List Nm) (sig:List (Nm×Nm)) (X2:SV) (H2:Hp) (n2:Nat)
  (h1:fv H H2 sig G X X2) (h2:pm H H2 sig G H2) (h3:(o8 m sig G,p8 m n2 sig H2,Nat.ble m n2)=(true,true,true)) :
  cS P f args hin m (λx h n=>x=X2/\h=H2/\n=n2):=by
 simp only [iJ] at h3;obtain ⟨k1,k2,k3⟩:=h3;refine ⟨na.1,λY vals hP hm hF hsz hd=>(na.2 Y vals hP hm hF hsz hd).mono ?_⟩;rintro ex w' ⟨r,res,hp',nx',ids',rfl,⟨rfl,rfl,rfl⟩,hF',hden⟩;subst hP;have hsub:vX Y.P (bX hp') (bX H2) (di sig) (mz G):=uq h2 k1;obtain ⟨ids2,hF2,hd2⟩:=weaken (nx':=n2) hF'.toHeapC hsub (rJ k2) (λk hk hl=>by
  rw [hm] at hk;refine ve (λp hp=>?_) k2 k hk (.inl hl);simp only [o8,cT,dQ] at k1;have:=(k1.2 p hp).2;simpa using this) (λk hk hl=>by
  rw [hm] at hk;refine ve (λp hp=>?_) k2 k hk (.inr hl);simp only [o8,cT,dQ] at k1;have:=(k1.2 p hp).2;simpa using this) (by rw [hm];exact cX k3)
 exact ⟨r,X2,H2,n2,ids2,rfl,⟨rfl,rfl,rfl⟩,hF2,hd2 _ _ _ (mC h1) hden⟩
theorem eT {t:TypeId} {xs:List α} {F':Nat} {z:Int} (h:BW hp σ F' (cu t xs)):zH hp hp' σ frz (.s F' z) (.fam (cu t xs))=True:=by
 refine eq_true λi=>?_
 rw [lI];exact of_eq_true (H_ h)
theorem KZ (F':Nat) (t:TypeId) (xs:List α):BW hp σ F' (cu t xs)=match di σ (.s F' 0) with
 | some k=>iq hp (.s k.base 0) = .fam (cu t xs)
 | none=>False:=propext Iff.rfl
theorem Ji (k:Nm) (c:cp) (r:Hp):pm hp hp' σ frz ((k,c)::r)=(zH hp hp' σ frz k c/\pm hp hp' σ frz r):=propext Iff.rfl
def Oh (σ:List (Nm×Nm)) (F:Nat):Prop:=di σ (.s F 0)=none
theorem fV (σ:List (Nm×Nm)) (F:Nat):Oh σ F=(di σ (.s F 0)=none):=propext Iff.rfl
theorem ei {t:TypeId} {F':Nat} {z:Int} (h:Oh σ F'):zH hp hp' σ frz (.s F' z) (.fam (cu t ([]:List α)))=True:=by
 refine eq_true λi=>?_
 have h:di σ (.s F' 0)=none:=h;rw [lI,lg (by simp<;>omega)];have:di σ (.s F' i)=none:=by rw [jm σ F' i,h];rfl
 simp only [n8,this]
theorem g9 (F:Nat):cB F 0=[]:=rfl
attribute [push_cast high] eT ei Ji
attribute [push_cast] fV ee eN eO eQ g9 eR eS MB lI KZ
end
end Go.Sx
end
