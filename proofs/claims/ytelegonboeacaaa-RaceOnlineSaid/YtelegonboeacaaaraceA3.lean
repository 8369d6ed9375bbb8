/-
 Lemmas, put together: TxW, TxX, TxY, TxZ, TyA, TyB, HA, HX, HB, HY, HC, HD, HE, HF, HH, HI, HJ, HK, HG, HL, HM.
 No conditions.
-/
import Derived.Test.YtelegonboeacaaaraceA2
import Derived.StillTail
import Derived.DataReads
import Derived.ChangeArms
import GoSem.ClaimChange
import Derived.Below
import Derived.ChangeSame
import Derived.WideKeyArgs
import Derived.WideShapes
import Derived.RowKit
import Derived.OpenShut
import Derived.Deep.AppendSrc
import Derived.Lib.Overlaps
import Derived.Lib.AppendZerosOnto
import Derived.Laws.IdiomCopy
import Derived.Shelf.Spec.SlicesInsert
set_option linter.unusedSimpArgs false
set_option linter.unusedVariables false
set_option linter.unusedSectionVars false
section
namespace Go.Sx
set_option linter.unusedVariables false
open Go.RowKit
variable {X:Cx} {hp:Hp} {nx:Nat} {ids:Ids} {w:World}
structure It where
 val:SV
 upd:Hp
 rds:List Nm
 nx:Nat
 nx':Nat
structure Nms where
 keys:List Nm
 rds:List Nm
 nx:Nat
 nx':Nat
def It.nms (t:It):Nms:=⟨t.upd.map (·.1.key),t.rds,t.nx,t.nx'⟩
def runD (P:Program) (ops:Array Oper):List Oper→Fr→Hp→Nat→List Nms→(List Nms→Fr→Hp→Nat→Prop)→Prop
 | [],fr,hp,nx,acc,K=>K acc fr hp nx
 | o::rest,fr,hp,nx,acc,K=>stepW true P ops o fr hp nx fun val upd nx' rds=>runD P ops rest (putF o.dst val fr) (upd++hp) (nx'+1) (acc++[⟨upd.map (·.1.key),rds,nx,nx'⟩]) K
def apartN (ops:Array Oper) (o1:Oper) (n1:Nms) (o2:Oper) (n2:Nms):Bool :=
 (match o1.dst with
  | some d=>!(looks ops o2).contains d && o2.dst != some d
  | none=>true) &&
 (match o2.dst with
  | some d=>!(looks ops o1).contains d
  | none=>true) &&
 n1.keys.all (fun k=>!n2.keys.contains k && !n2.rds.contains k) &&
 n2.keys.all (fun k=>!n1.rds.contains k && !(Nat.ble n1.nx k.base && Nat.ble k.base n1.nx')) &&
 true
def isEntry:Op→Bool
 | .mapEntry _ _ _=>true
 | _=>false
def Nm.isT:Nm→Bool
 | .t _=>true
 | .s _ _=>false
def sameKey (o1 o2:Oper):Bool:=match o1.op,o2.op,o1.guard,o2.guard with
 | .lookup t (.tmp a) (.tmp b) false,.mapEntry t' (.tmp a') (.tmp b'),none,none=>t == t' && (a == a' && b == b')
 | _,_,_,_=>false
def lateN (ops:Array Oper) (o1:Oper) (n1:Nms) (o2:Oper) (n2:Nms):Bool :=
 sameKey o1 o2 && ((ops.toList.filter fun o=>isEntry o.op).length == 1 && (n1.keys.isEmpty &&
 ((match o1.dst with
  | some d=>!(looks ops o2).contains d && o2.dst != some d
  | none=>true) &&
 ((match o2.dst with
  | some d=>!(looks ops o1).contains d
  | none=>true) &&
 (n2.keys.all (fun k=>!(Nat.ble n1.nx k.base && Nat.ble k.base n1.nx')) && n1.rds.all Nm.isT)))))
def farN (ops:Array Oper) (o1:Oper) (n1:Nms) (o2:Oper) (n2:Nms):Bool:=apartN ops o1 n1 o2 n2 || lateN ops o1 n1 o2 n2
def ownN (n1 n2:Nms):Bool:=n1.keys.all fun k=>!(Nat.ble n2.nx k.base && Nat.ble k.base n2.nx')
def aheadOf (o:Oper) (A:List Nat):Nat:=o.after.toList.foldl (fun n e=>if Region.binds .any e then n ||| (1 <<< e.on) ||| A.getD e.on 0 else n) 0
def aheads (l:List Oper):List Nat:=l.foldl (fun A o=>A++[aheadOf o A]) []
def aheadOk (ops:Array Oper) (A:List Nat):Bool:=(List.range ops.size).all fun j=>match ops[j]? with
 | some o=>o.after.toList.all (fun e=>!Region.binds .any e || Nat.blt e.on j) && (List.range ops.size).all fun i=>!(A.getD j 0).testBit i || o.after.toList.any fun e=>Region.binds .any e && (e.on == i || (A.getD e.on 0).testBit i)
 | none=>true
def pairOk (ops:Array Oper) (ns:List Nms) (A:List Nat) (i j:Nat):Bool :=
 match ops[i]?,ns[i]?,ops[j]?,ns[j]? with
 | some o1,some n1,some o2,some n2=>((A.getD j 0).testBit i || farN ops o1 n1 o2 n2) && ownN n1 n2
 | _,_,_,_=>false
def orderOk (ops:Array Oper) (ns:List Nms) (A:List Nat):Bool:=aheadOk ops A && (List.range ops.size).all fun j=>(List.range j).all fun i=>pairOk ops ns A i j
def DrawW (P:Program) (id:Nat) (ops:Array Oper) (K:Fr→Hp→Nat→Prop) (fr:Fr) (hp:Hp) (nx:Nat):Prop :=
 runD P ops ops.toList fr hp nx [] fun ns fr' hp' nx'=>Need (P.follows .mixedOrders = true∧orderOk ops ns (aheads ops.toList) = true) (K fr' hp' nx')
abbrev Zs:=List (Oper×It)
def frSel (sel:Nat→Bool):Nat→Zs→Fr→Fr
 | _,[],fr=>fr
 | i,z::r,fr=>frSel sel (i+1) r (bif sel i then putF z.1.dst z.2.val fr else fr)
def hpSel (sel:Nat→Bool):Nat→Zs→Hp→Hp
 | _,[],hp=>hp
 | i,z::r,hp=>hpSel sel (i+1) r (bif sel i then z.2.upd++hp else hp)
theorem getF_put {dst:Option Tmp} {x:SV} {fr fr':Fr} {d:Nat} (h:dst≠some d→getF fr d = getF fr' d):getF (putF dst x fr) d = getF (putF dst x fr') d:=by
 cases dst with
 | none=>exact h (by simp)
 | some t =>
  simp only [putF,getF]
  by_cases ht:t = d
  ·subst ht; simp
  ·rw [show (t == d) = false from by simpa using ht,cond_false,cond_false]; exact h (by simpa using ht)
theorem getF_put_ne {dst:Option Tmp} {x:SV} {fr:Fr} {d:Nat} (h:dst≠some d):getF (putF dst x fr) d = getF fr d:=by
 cases dst with
 | none=>rfl
 | some t =>
  simp only [putF,getF]
  rw [show (t == d) = false from by simpa using h,cond_false]
theorem getH_app_ne {u hp:Hp} {k:Nm} (h:k.key ∉ u.map (·.1.key)):getH (u++hp) k = getH hp k:=by
 rw [getH_append,if_neg]
 rintro ⟨p,hp,hk⟩
 exact h (List.mem_map.2 ⟨p,hp,hk⟩)
theorem getH_app {u hp hp':Hp} {k:Nm} (h:k.key ∉ u.map (·.1.key)→getH hp k = getH hp' k):getH (u++hp) k = getH (u++hp') k:=by
 rw [getH_append,getH_append]
 split
 ·rfl
 ·rename_i hn
  exact h fun hm=>hn (by obtain ⟨p,hp,hk⟩:=List.mem_map.1 hm; exact ⟨p,hp,hk⟩)
theorem frSel_agree {s1 s2:Nat→Bool} {d:Nat}:∀ (z:Zs) (k:Nat) (fr1 fr2:Fr),(∀ i q,z[i]? = some q→q.1.dst = some d→s1 (k+i) = s2 (k+i))→getF fr1 d = getF fr2 d→getF (frSel s1 k z fr1) d = getF (frSel s2 k z fr2) d
 | [],k,fr1,fr2,_,h=>h
 | q::r,k,fr1,fr2,hs,h=>by
  refine frSel_agree r (k+1) _ _ (fun i p hi hp=>by have:=hs (i+1) p (by simpa using hi) hp; rwa [show k+(i+1) = k+1+i from by omega] at this) ?_
  by_cases hd:q.1.dst = some d
  ·have:=hs 0 q rfl hd
   rw [Nat.add_zero] at this
   rw [this]
   cases s2 k with
   | true=>exact getF_put fun _=>h
   | false=>exact h
  ·have e:∀ (b:Bool) (fr:Fr),getF (bif b then putF q.1.dst q.2.val fr else fr) d = getF fr d:=fun b fr=>by
    cases b with
    | true=>exact getF_put_ne hd
    | false=>rfl
   rw [e,e]; exact h
theorem hpSel_agree {s1 s2:Nat→Bool} {d:Nm}:∀ (z:Zs) (k:Nat) (h1 h2:Hp),(∀ i q,z[i]? = some q→d.key ∈ q.2.upd.map (·.1.key)→s1 (k+i) = s2 (k+i))→getH h1 d = getH h2 d→getH (hpSel s1 k z h1) d = getH (hpSel s2 k z h2) d
 | [],k,h1,h2,_,h=>h
 | q::r,k,h1,h2,hs,h=>by
  refine hpSel_agree r (k+1) _ _ (fun i p hi hp=>by have:=hs (i+1) p (by simpa using hi) hp; rwa [show k+(i+1) = k+1+i from by omega] at this) ?_
  by_cases hd:d.key ∈ q.2.upd.map (·.1.key)
  ·have:=hs 0 q rfl hd
   rw [Nat.add_zero] at this
   rw [this]
   cases s2 k with
   | true=>exact getH_app fun _=>h
   | false=>exact h
  ·have e:∀ (b:Bool) (hp:Hp),getH (bif b then q.2.upd++hp else hp) d = getH hp d:=fun b hp=>by
    cases b with
    | true=>exact getH_app_ne hd
    | false=>rfl
   rw [e,e]; exact h
theorem frSel_put {s1 s2:Nat→Bool} {d:Nat}:∀ (z:Zs) (k:Nat) (fr1 fr2:Fr) (i:Nat) (q:Oper×It),z[i]? = some q→s1 (k+i) = false→s2 (k+i) = true→(∀ j,j≠k+i→s1 j = s2 j) →
  (q.1.dst = some d→∀ j p,i < j→z[j]? = some p→s1 (k+j) = true→p.1.dst≠some d)→getF fr1 d = getF fr2 d→getF (putF q.1.dst q.2.val (frSel s1 k z fr1)) d = getF (frSel s2 k z fr2) d
 | [],k,fr1,fr2,i,q,hi,_,_,_,_,_=>by simp at hi
 | p::r,k,fr1,fr2,i,q,hi,h1,h2,hs,hd,h=>by
  cases i with
  | zero =>
   simp only [List.getElem?_cons_zero,Option.some.injEq] at hi
   subst hi
   simp only [frSel,Nat.add_zero] at h1 h2 ⊢
   rw [h1,h2,cond_false,cond_true]
   by_cases hpd:p.1.dst = some d
   ·have e:getF (putF p.1.dst p.2.val (frSel s1 (k+1) r fr1)) d = getF (putF p.1.dst p.2.val fr2) d:=by rw [hpd]; simp [putF,getF]
    rw [e]
    symm
    have hno:∀ (r:Zs) (m:Nat) (fr:Fr),(∀ j q,r[j]? = some q→s2 (m+j) = true→q.1.dst≠some d)→getF (frSel s2 m r fr) d = getF fr d:=by
     intro r
     induction r with
     | nil=>exact fun _ _ _=>rfl
     | cons q r ih =>
      intro m fr hj
      simp only [frSel]
      rw [ih (m+1) _ fun j q' hq' hs'=>hj (j+1) q' (by simpa using hq') (by rw [show m+(j+1) = m+1+j from by omega]; exact hs')]
      cases hsm:s2 m with
      | true=>exact getF_put_ne (hj 0 q rfl (by rw [Nat.add_zero]; exact hsm))
      | false=>rfl
    exact hno r (k+1) _ fun j q hj hsj=>hd hpd (j+1) q (by omega) (by simpa using hj) (by rw [hs _ (by omega)]; rw [show k+(j+1) = k+1+j from by omega]; exact hsj)
   ·rw [getF_put_ne hpd]
    exact frSel_agree r (k+1) _ _ (fun j q hj _=>hs _ (by omega)) (h.trans (getF_put_ne hpd).symm)
  | succ i =>
   simp only [frSel]
   rw [show s1 k = s2 k from hs k (by omega)]
   refine frSel_put r (k+1) _ _ i q (by simpa using hi) (by rw [show k+1+i = k+(i+1) from by omega]; exact h1) (by rw [show k+1+i = k+(i+1) from by omega]; exact h2) (fun j hj=>hs j (by omega)) (fun hq j p' hij hj hsj=>hd hq (j+1) p' (by omega) (by simpa using hj) (by rw [show k+(j+1) = k+1+j from by omega]; exact hsj)) ?_
   cases s2 k with
   | true=>exact getF_put fun _=>h
   | false=>exact h
theorem hpSel_put {s1 s2:Nat→Bool} {d:Nm}:∀ (z:Zs) (k:Nat) (h1 h2:Hp) (i:Nat) (q:Oper×It),z[i]? = some q→s1 (k+i) = false→s2 (k+i) = true→(∀ j,j≠k+i→s1 j = s2 j) →
  (d.key ∈ q.2.upd.map (·.1.key)→∀ j p,i < j→z[j]? = some p→s1 (k+j) = true→d.key ∉ p.2.upd.map (·.1.key))→getH h1 d = getH h2 d→getH (q.2.upd++hpSel s1 k z h1) d = getH (hpSel s2 k z h2) d
 | [],k,fr1,fr2,i,q,hi,_,_,_,_,_=>by simp at hi
 | p::r,k,fr1,fr2,i,q,hi,h1,h2,hs,hd,h=>by
  cases i with
  | zero =>
   simp only [List.getElem?_cons_zero,Option.some.injEq] at hi
   subst hi
   simp only [hpSel,Nat.add_zero] at h1 h2 ⊢
   rw [h1,h2,cond_false,cond_true]
   by_cases hpd:d.key ∈ p.2.upd.map (·.1.key)
   ·have e:getH (p.2.upd++hpSel s1 (k+1) r fr1) d = getH (p.2.upd++fr2) d:=getH_app fun hn=>absurd hpd hn
    rw [e]
    symm
    have hno:∀ (r:Zs) (m:Nat) (fr:Hp),(∀ j q,r[j]? = some q→s2 (m+j) = true→d.key ∉ q.2.upd.map (·.1.key))→getH (hpSel s2 m r fr) d = getH fr d:=by
     intro r
     induction r with
     | nil=>exact fun _ _ _=>rfl
     | cons q r ih =>
      intro m fr hj
      simp only [hpSel]
      rw [ih (m+1) _ fun j q' hq' hs'=>hj (j+1) q' (by simpa using hq') (by rw [show m+(j+1) = m+1+j from by omega]; exact hs')]
      cases hsm:s2 m with
      | true=>exact getH_app_ne (hj 0 q rfl (by rw [Nat.add_zero]; exact hsm))
      | false=>rfl
    exact hno r (k+1) _ fun j q hj hsj=>hd hpd (j+1) q (by omega) (by simpa using hj) (by rw [hs _ (by omega)]; rw [show k+(j+1) = k+1+j from by omega]; exact hsj)
   ·rw [getH_app_ne hpd]
    exact hpSel_agree r (k+1) _ _ (fun j q hj _=>hs _ (by omega)) (h.trans (getH_app_ne hpd).symm)
  | succ i =>
   simp only [hpSel]
   rw [show s1 k = s2 k from hs k (by omega)]
   refine hpSel_put r (k+1) _ _ i q (by simpa using hi) (by rw [show k+1+i = k+(i+1) from by omega]; exact h1) (by rw [show k+1+i = k+(i+1) from by omega]; exact h2) (fun j hj=>hs j (by omega)) (fun hq j p' hij hj hsj=>hd hq (j+1) p' (by omega) (by simpa using hj) (by rw [show k+(j+1) = k+1+j from by omega]; exact hsj)) ?_
   cases s2 k with
   | true=>exact getH_app fun _=>h
   | false=>exact h
def EqIt (t:It) (v:SV) (u:Hp) (n:Nat) (r:List Nm):Prop:=v = t.val∧u = t.upd∧n = t.nx'∧r = t.rds
def Chain (P:Program) (ops:Array Oper):Zs→Fr→Hp→Nat→Prop
 | [],_,_,_=>True
 | q::r,fr,hp,nx=>q.2.nx = nx∧nx≤q.2.nx'∧stepW true P ops q.1 fr hp nx (EqIt q.2)∧Chain P ops r (putF q.1.dst q.2.val fr) (q.2.upd++hp) (q.2.nx'+1)
theorem core_det {P:Program} {g:Bool} {o:Oper} {fr:Fr} {K:SV→Hp→Nat→List Nm→Prop} (h:coreW true P g o fr hp nx K):∃ t:It,t.nx = nx∧nx≤t.nx'∧K t.val t.upd t.nx' t.rds∧coreW true P g o fr hp nx (EqIt t):=by
 unfold coreW at h ⊢
 split at h
 ·rename_i c hc
  obtain ⟨args',hin,m,Post,σ,bor,h1,h2,hsg,h3,h4,h5,h6,h7,⟨r0,p0,n0,h8⟩,hdet,h9⟩:=h
  obtain ⟨g1,g2,u,gt,g3⟩:=h9 _ _ _ h8
  refine ⟨⟨_,_,_,nx,_⟩,rfl,Nat.le_add_right _ _,g3,?_⟩
  refine ⟨args',hin,m,Post,σ,bor,h1,h2,hsg,h3,h4,h5,h6,h7,⟨r0,p0,n0,h8⟩,hdet,fun res hp' nx' hp1=>?_⟩
  obtain ⟨rfl,rfl,rfl⟩:=hdet rfl _ _ _ _ _ _ h8 hp1
  exact ⟨g1,g2,u,gt,rfl,rfl,rfl,rfl⟩
 ·rcases h with h | h
  ·obtain ⟨hg,hso,e,h1,h2,h3⟩:=h
   exact ⟨⟨e.val,e.upd,e.rds,nx,e.nx⟩,rfl,h1,h2,.inl ⟨hg,hso,e,h1,⟨rfl,rfl,rfl,rfl⟩,h3⟩⟩
  cases hop:opS P g fr hp nx o.type o.op with
  | bad=>rw [hop] at h; exact h.elim
  | ok side e =>
   rw [hop] at h
   obtain ⟨hs,hk⟩:=h
   exact ⟨⟨e.val,e.upd,e.rds,nx,e.nx⟩,rfl,(opS_keys hop).1,hk,.inr ⟨hs,rfl,rfl,rfl,rfl⟩⟩
theorem step_det {P:Program} {ops:Array Oper} {o:Oper} {fr:Fr} {K:SV→Hp→Nat→List Nm→Prop} (h:stepW true P ops o fr hp nx K):∃ t:It,t.nx = nx∧nx≤t.nx'∧K t.val t.upd t.nx' t.rds∧stepW true P ops o fr hp nx (EqIt t):=by
 unfold stepW at h ⊢
 cases hgd:o.guard with
 | none=>rw [hgd] at h; exact core_det h
 | some jw =>
  rw [hgd] at h
  simp only at h ⊢
  cases hgs:guardS ops fr jw.1 jw.2 with
  | none=>rw [hgs] at h; exact h.elim
  | some g =>
   rw [hgs] at h
   simp only at h ⊢
   cases hq:quietP P o.op with
   | true =>
    rw [hq,cond_true] at h
    simp only [cond_true]
    rcases h with h | h
    ·exact ⟨⟨_,_,_,nx,_⟩,rfl,Nat.le_refl _,h.2,.inl ⟨h.1,rfl,rfl,rfl,rfl⟩⟩
    cases hop:opS P g fr hp nx o.type o.op with
    | bad=>rw [hop] at h; exact h.elim
    | ok side e =>
     rw [hop] at h
     unfold quietW
     simp only at h ⊢
     cases hu:e.upd with
     | nil=>rw [hu] at h; exact ⟨⟨_,_,_,nx,_⟩,rfl,Nat.le_refl _,h.2,.inr ⟨h.1,rfl,rfl,rfl,rfl⟩⟩
     | cons a b=>rw [hu] at h; exact h.elim
   | false =>
    rw [hq,cond_false] at h
    simp only [cond_false]
    cases g with
    | true =>
     obtain ⟨t,h1,h2,h3,h4⟩:=core_det (h.1 rfl)
     exact ⟨t,h1,h2,h3,(fun _=>h4),(fun he=>by cases he)⟩
    | false=>exact ⟨⟨_,_,_,nx,_⟩,rfl,Nat.le_refl _,h.2 rfl,(fun he=>by cases he),fun _=>⟨rfl,rfl,rfl,rfl⟩⟩
def lastNx:Zs→Nat→Nat
 | [],nx=>nx
 | q::r,nx=>lastNx r (q.2.nx'+1)
theorem runD_chain {P:Program} {ops:Array Oper} {K:List Nms→Fr→Hp→Nat→Prop}:∀ (l:List Oper) (fr:Fr) (hp:Hp) (nx:Nat) (acc:List Nms) (k:Nat),runD P ops l fr hp nx acc K →
 ∃z:Zs,z.map (·.1) = l∧Chain P ops z fr hp nx∧K (acc++z.map (·.2.nms)) (frSel (fun _=>true) k z fr) (hpSel (fun _=>true) k z hp) (lastNx z nx)
 | [],fr,hp,nx,acc,k,h=>⟨[],rfl,trivial,by simpa [runD,frSel,hpSel,lastNx] using h⟩
 | o::r,fr,hp,nx,acc,k,h=>by
  obtain ⟨t,h1,h2,h3,h4⟩:=step_det h
  obtain ⟨z,g1,g2,g3⟩:=runD_chain r _ _ _ _ (k+1) h3
  refine ⟨(o,t)::z,by simp [g1],⟨h1,h2,h4,g2⟩,?_⟩
  have e:acc++List.map (fun x=>x.2.nms) ((o,t)::z) = acc++[(⟨t.upd.map (·.1.key),t.rds,nx,t.nx'⟩:Nms)]++z.map (·.2.nms):=by simp [It.nms,h1]
  rw [e]
  exact g3
theorem frSel_none {s:Nat→Bool}:∀ (z:Zs) (k:Nat) (fr:Fr),(∀ j,k≤j→s j = false)→frSel s k z fr = fr
 | [],k,fr,_=>rfl
 | q::r,k,fr,h=>by simp only [frSel,h k (Nat.le_refl _),cond_false]; exact frSel_none r (k+1) fr fun j hj=>h j (by omega)
theorem hpSel_none {s:Nat→Bool}:∀ (z:Zs) (k:Nat) (hp:Hp),(∀ j,k≤j→s j = false)→hpSel s k z hp = hp
 | [],k,hp,_=>rfl
 | q::r,k,hp,h=>by simp only [hpSel,h k (Nat.le_refl _),cond_false]; exact hpSel_none r (k+1) hp fun j hj=>h j (by omega)
theorem chain_le {P:Program} {ops:Array Oper}:∀ (z:Zs) (fr:Fr) (hp:Hp) (nx:Nat),Chain P ops z fr hp nx→nx≤lastNx z nx
 | [],_,_,_,_=>Nat.le_refl _
 | q::r,fr,hp,nx,h=>by
  have:=chain_le r _ _ _ h.2.2.2
  have:=h.2.1
  simp only [lastNx]; omega
theorem chain_at {P:Program} {ops:Array Oper}:∀ (z:Zs) (fr:Fr) (hp:Hp) (nx k i:Nat) (q:Oper×It),Chain P ops z fr hp nx→z[i]? = some q →
  nx≤q.2.nx∧q.2.nx≤q.2.nx'∧q.2.nx' < lastNx z nx∧stepW true P ops q.1 (frSel (fun j=>decide (j < k+i)) k z fr) (hpSel (fun j=>decide (j < k+i)) k z hp) q.2.nx (EqIt q.2)
 | [],_,_,_,_,i,q,_,hi=>by simp at hi
 | p::r,fr,hp,nx,k,i,q,h,hi=>by
  obtain ⟨h1,h2,h3,h4⟩:=h
  cases i with
  | zero =>
   simp only [List.getElem?_cons_zero,Option.some.injEq] at hi
   subst hi
   refine ⟨by omega,by omega,?_,?_⟩
   ·have:=chain_le r _ _ _ h4
    simp only [lastNx]; omega
   ·rw [frSel_none _ _ _ fun j hj=>by simp; omega,hpSel_none _ _ _ fun j hj=>by simp; omega,h1]; exact h3
  | succ i =>
   obtain ⟨g1,g2,g3,g4⟩:=chain_at r _ _ _ (k+1) i q h4 (by simpa using hi)
   refine ⟨by omega,g2,g3,?_⟩
   have hk:decide (k < k+(i+1)) = true:=by simp
   simp only [frSel,hpSel,hk,cond_true]
   rw [show k+(i+1) = k+1+i from by omega]
   exact g4
theorem pair_of {ops:Array Oper} {ns:List Nms} {A:List Nat} (h:orderOk ops ns A = true) {i j:Nat} {o1 o2:Oper} {n1 n2:Nms} (hij:i < j) (h1:ops[i]? = some o1) (h2:ops[j]? = some o2) (h3:ns[i]? = some n1) (h4:ns[j]? = some n2) :
  ((A.getD j 0).testBit i = true∨farN ops o1 n1 o2 n2 = true)∧ownN n1 n2 = true:=by
 simp only [orderOk,Bool.and_eq_true,List.all_eq_true,List.mem_range] at h
 have hlt:j < ops.size:=(Array.getElem?_eq_some_iff.1 h2).1
 have:=h.2 j hlt i hij
 unfold pairOk at this
 simp only [h1,h2,h3,h4,Bool.and_eq_true,Bool.or_eq_true] at this
 exact this
theorem apart_all {ops:Array Oper} {o1 o2:Oper} {n1 n2:Nms} (h:apartN ops o1 n1 o2 n2 = true) :
  (∀ d,o1.dst = some d→d ∉ looks ops o2∧o2.dst≠some d)∧(∀ d,o2.dst = some d→d ∉ looks ops o1)∧(∀ k ∈ n1.keys,k ∉ n2.keys∧k ∉ n2.rds)∧∀ k ∈ n2.keys,k ∉ n1.rds∧¬ (n1.nx≤k.base∧k.base≤n1.nx'):=by
 simp only [apartN,Bool.and_eq_true,List.all_eq_true] at h
 obtain ⟨⟨⟨⟨h1,h2⟩,h3⟩,h4⟩,_⟩:=h
 refine ⟨fun d hd=>?_,fun d hd=>?_,fun k hk=>?_,fun k hk=>?_⟩
 ·rw [hd] at h1; simpa using h1
 ·rw [hd] at h2; simpa using h2
 ·have:=h3 k hk; simpa using this
 ·have:=h4 k hk
  simp only [Bool.and_eq_true,Bool.not_eq_true',Bool.and_eq_false_iff,List.contains_eq_mem,decide_eq_false_iff_not] at this
  refine ⟨this.1,fun hh=>?_⟩
  rcases this.2 with h | h
  ·have:=Nat.ble_eq_true_of_le hh.1; rw [h] at this; cases this
  ·have:=Nat.ble_eq_true_of_le hh.2; rw [h] at this; cases this
theorem late_all {ops:Array Oper} {o1 o2:Oper} {n1 n2:Nms} (h:lateN ops o1 n1 o2 n2 = true) :
  sameKey o1 o2 = true∧(ops.toList.filter fun o=>isEntry o.op).length = 1∧n1.keys = []∧(∀ d,o1.dst = some d→d ∉ looks ops o2∧o2.dst≠some d)∧(∀ d,o2.dst = some d→d ∉ looks ops o1)∧(∀ k ∈ n2.keys,¬ (n1.nx≤k.base∧k.base≤n1.nx'))∧∀ k ∈ n1.rds,Nm.isT k = true:=by
 simp only [lateN,Bool.and_eq_true,List.all_eq_true,beq_iff_eq,List.isEmpty_iff] at h
 obtain ⟨h1,h2,h3,h4,h5,h6,h7⟩:=h
 refine ⟨h1,h2,h3,fun d hd=>?_,fun d hd=>?_,fun k hk hh=>?_,h7⟩
 ·rw [hd] at h4; simpa using h4
 ·rw [hd] at h5; simpa using h5
 ·have:=h6 k hk
  simp only [Bool.not_eq_true',Bool.and_eq_false_iff] at this
  rcases this with h | h
  ·have:=Nat.ble_eq_true_of_le hh.1; rw [h] at this; cases this
  ·have:=Nat.ble_eq_true_of_le hh.2; rw [h] at this; cases this
theorem far_all {ops:Array Oper} {o1 o2:Oper} {n1 n2:Nms} (h:farN ops o1 n1 o2 n2 = true) :
  (∀ d,o1.dst = some d→d ∉ looks ops o2∧o2.dst≠some d)∧(∀ d,o2.dst = some d→d ∉ looks ops o1)∧(∀ k ∈ n1.keys,k ∉ n2.keys∧k ∉ n2.rds)∧∀ k ∈ n2.keys,¬ (n1.nx≤k.base∧k.base≤n1.nx'):=by
 simp only [farN,Bool.or_eq_true] at h
 rcases h with h | h
 ·obtain ⟨a1,a2,a3,a4⟩:=apart_all h
  exact ⟨a1,a2,a3,fun k hk=>(a4 k hk).2⟩
 ·obtain ⟨_,_,a3,a4,a5,a6,_⟩:=late_all h
  exact ⟨a4,a5,fun k hk=>(by rw [a3] at hk; cases hk),a6⟩
theorem far_rds {ops:Array Oper} {o1 o2:Oper} {n1 n2:Nms} (h:farN ops o1 n1 o2 n2 = true) (hl:¬ lateN ops o1 n1 o2 n2 = true):∀ k ∈ n2.keys,k ∉ n1.rds:=by
 simp only [farN,Bool.or_eq_true] at h
 rcases h with h | h
 ·exact fun k hk=>((apart_all h).2.2.2 k hk).1
 ·exact absurd h hl
theorem leafEq_self {a b:Value} (h:leafEq a b = true):leafEq a a = true:=by
 cases a <;> cases b <;> simp only [leafEq,Bool.false_eq_true] at h <;> simp [leafEq]
 exact ba_self _
theorem eqLs_self:∀ {x y:List Value},eqLs x y = true→eqLs x x = true
 | [],_,_=>rfl
 | a::x,[],h=>by cases h
 | a::x,b::y,h=>by
  simp only [eqLs,Bool.and_eq_true] at h ⊢
  exact ⟨leafEq_self h.1,eqLs_self h.2⟩
theorem keyEq_self {a b:Value} (h:keyEq a b = true):keyEq a a = true:=by
 unfold keyEq at h
 split at h
 ·exact eqLs_self h
 ·rename_i hn
  have:=leafEq_self h
  unfold keyEq
  split
  ·simp [leafEq] at this
  ·exact this
theorem findS_app (key kv:Value) (v:SV):∀ (es:List (Value×SV)) (i:Nat),findS key (es++[(kv,v)]) i = match findS key es i with
  | some p=>some p
  | none=>bif keyEq key kv then some (i+es.length,v) else none
 | [],i=>by simp [findS]
 | e::es,i=>by
  simp only [List.cons_append,findS]
  cases keyEq key e.1 with
  | true=>rfl
  | false =>
   simp only [cond_false]
   rw [findS_app key kv v es (i+1)]
   cases findS key es (i+1) with
   | some p=>rfl
   | none=>simp only [List.length_cons]; rw [show i+1+es.length = i+(es.length+1) by omega]
theorem findS_mod (key:Value) (v:SV) (hk:keyEq key key = true):∀ (es:List (Value×SV)) (i:Nat) (p:Nat×SV),findS key es i = some p→findS key (es.modify (p.1 - i) fun _=>(key,v)) i = some (p.1,v)
 | [],i,p,h=>by cases h
 | e::es,i,p,h=>by
  simp only [findS] at h
  cases hc:keyEq key e.1 with
  | true =>
   rw [hc] at h; cases h
   simp [findS,hk]
  | false =>
   rw [hc] at h
   simp only [cond_false] at h
   obtain ⟨h1,_⟩:=findS_some es (i+1) p h
   obtain ⟨d,hd⟩:∃ d,p.1 - i = d+1:=⟨p.1 - i - 1,by omega⟩
   rw [hd,List.modify_succ_cons]
   simp only [findS,hc,cond_false]
   have:=findS_mod key v hk es (i+1) p h
   rwa [show p.1 - (i+1) = d by omega] at this
theorem lookV_upd (z key:Value) (es:List (Value×SV)):lookV z key (updL key (lookV z key es) es) = lookV z key es:=by
 cases hf:findS key es 0 with
 | none =>
  have h1:lookV z key es = .v z:=by unfold lookV; rw [hf]
  rw [h1]
  unfold updL lookV
  rw [hf]
  simp only
  rw [findS_app,hf]
  cases keyEq key key <;> rfl
 | some p =>
  have h1:lookV z key es = p.2:=by unfold lookV; rw [hf]
  rw [h1]
  unfold updL lookV
  rw [hf]
  simp only
  obtain ⟨_,q,_,_,hq⟩:=findS_some es 0 p hf
  have:=findS_mod key p.2 (keyEq_self hq) es 0 p hf
  rw [Nat.sub_zero] at this
  rw [this]
theorem all_upd (f:Value→Bool) (key:Value) (v:SV) (es:List (Value×SV)) (h1:es.all (fun p=>f p.1) = true) (h2:f key = true):(updL key v es).all (fun p=>f p.1) = true:=by
 unfold updL
 split
 ·rename_i p _
  rw [List.all_eq_true] at h1 ⊢
  intro x hx
  obtain ⟨i,hi,rfl⟩:=List.getElem_of_mem hx
  rw [List.getElem_modify]
  split
  ·exact h2
  ·exact h1 _ (List.getElem_mem (by simpa using hi))
 ·rw [List.all_append,h1]; simp [h2]
theorem keyS_upd {P:Program} {t e':TypeId} {key:SV} {kv:Value} {S:List (Value×SV)→Prop} (hk:keyS P t key = some (kv,S,e')) {es:List (Value×SV)} (hs:S es) (v:SV):S (updL kv v es):=by
 unfold keyS at hk
 split at hk
 ·cases hk
  refine ⟨hs.1,all_upd (fun x=>keyAlike kv x) kv v es hs.2 ?_⟩
  have:=hs.1
  cases kv <;> simp [keyOk] at this <;> simp [keyAlike]
 ·split at hk
  ·rename_i vs _ l _ _ _
   cases hk
   exact ⟨hs.1,all_upd (fun x=>aggFits l x) _ v es hs.2 (by simpa [aggFits] using hs.1)⟩
  ·cases hk
 ·cases hk
theorem lookupS_key {P:Program} {t:TypeId} {k:Nm} {key:SV} {s:Prop} {e:Eff} (h:lookupS P t (.mp k) key false hp nx = .ok s e):∃ kv S e' z,keyS P t key = some (kv,S,e')∧zeroVal P e' = some z∧(∀ hp2 nx2,lookupS P t (.mp k) key false hp2 nx2 = mapC (getH hp2 k) fun es=>.ok (S es) ⟨lookV z kv es,[],nx2,[k.key]⟩):=by
 unfold lookupS at h
 split at h
 ·rename_i k' kv d e' hx hmt
  cases hx
  split at h
  ·rename_i z hz
   refine ⟨kv,(fun es=>keyOk d kv = true∧es.all (fun p=>keyAlike kv p.1) = true),e',z,by unfold keyS; rw [hmt],hz,fun hp2 nx2=>?_⟩
   unfold lookupS
   rw [hmt]
   simp only [hz,cond_false]
  ·cases h
 ·rename_i k' cs d' hx hmt
  cases hx
  split at h
  ·rename_i vs kt l e' hvs hma
   split at h
   ·rename_i z hz
    refine ⟨.agg vs.toArray,(fun es=>leavesV l vs = true∧es.all (fun p=>aggFits l p.1) = true),e',z,by unfold keyS; rw [hmt]; simp only [hvs,hma],hz,fun hp2 nx2=>?_⟩
    unfold lookupS
    rw [hmt]
    simp only [hvs,hma,hz,cond_false]
   ·cases h
  ·cases h
 ·cases h
theorem look_late {P:Program} {t:TypeId} {x key:SV} {hp2:Hp} {nx2:Nat} {s s2:Prop} {e e2:Eff} (h1:lookupS P t x key false hp nx = .ok s e) (hs:s) (h2:mapEntryS P t x key hp2 nx2 = .ok s2 e2) (hk:∀ k,x = .mp k→Nm.isT k = true∧getH hp2 k = getH hp k) :
  (∃ s',lookupS P t x key false (e2.upd++hp) nx = .ok s' e∧s')∧∃ k,x = .mp k∧e.rds = [k.key]∧e.upd = []∧e2.rds = [k.key]:=by
 unfold mapEntryS at h2
 split at h2
 ·rename_i k kv S e' hke
  obtain ⟨hT,hkk⟩:=hk k rfl
  obtain ⟨kv',S',e'',z,g1,g2,g3⟩:=lookupS_key h1
  rw [hke] at g1; cases g1
  rw [g2] at h2
  simp only at h2
  obtain ⟨es,hes,hf⟩:=mapC_ok h2
  rw [g3,← hkk,hes] at h1
  simp only [mapC] at h1
  cases h1
  cases hf
  cases k with
  | s F i=>cases hT
  | t a =>
   refine ⟨⟨S (updL kv (lookV z kv es) es),?_,keyS_upd hke hs _⟩,.t a,rfl,rfl,rfl,rfl⟩
   rw [g3]
   simp only [updE,List.cons_append,List.nil_append]
   rw [getH_upd,upd_same]
   simp only [mapC,lookV_upd]
 ·cases h2
theorem own_all {n1 n2:Nms} (h:ownN n1 n2 = true):∀ k ∈ n1.keys,¬ (n2.nx≤k.base∧k.base≤n2.nx'):=fun k hk hh=>by
 simp only [ownN,List.all_eq_true] at h
 have:=h k hk
 simp only [Bool.not_eq_true',Bool.and_eq_false_iff] at this
 rcases this with h | h
 ·have:=Nat.ble_eq_true_of_le hh.1; rw [h] at this; cases this
 ·have:=Nat.ble_eq_true_of_le hh.2; rw [h] at this; cases this
structure InvD (X:Cx) (N:Nat) (A:List Nat) (z:Zs) (fr0:Fr) (hp0:Hp) (top:Nat) (sel:Nat→Bool) (a:Act) (w:World):Prop where
 ex:∃ ids,HeapC X (hpSel sel 0 z hp0) ids w∧∀ d,DenX X (hpSel sel 0 z hp0) ids w (getF (frSel sel 0 z fr0) d) (a.tmps.getD d undef)
 fresh:∀ k:Nm,top≤k.base→getH (hpSel sel 0 z hp0) k = .unborn
 size:a.tmps.size = N
 defers:DfOk X a
 closed:∀ j,sel j = true→∀ i,i < z.length→(A.getD j 0).testBit i = true→sel i = true
theorem hp_unborn {sel:Nat→Bool} {k:Nm} (h0:getH hp k = .unborn) (z:Zs) (m:Nat) (h:∀ j q,z[j]? = some q→sel (m+j) = true→k.key ∉ q.2.upd.map (·.1.key)):getH (hpSel sel m z hp) k = .unborn:=by
 have:getH (hpSel sel m z hp) k = getH (hpSel (fun _=>false) m z hp) k:=hpSel_agree z m _ _ (fun i q hi hk=>by
  cases hs:sel (m+i) with
  | false=>rfl
  | true=>exact absurd hk (h i q hi hs)) rfl
 rw [this,hpSel_none _ _ _ fun _ _=>rfl]; exact h0
theorem inv_step {ops:Array Oper} {N:Nat} {A:List Nat} {z:Zs} {fr0:Fr} {hp0:Hp} {nx0:Nat} {sel sel':Nat→Bool} {a:Act} {Q:Exit→Act→World→Prop} {KK:Act→World→Prop} (hz:z.map (·.1) = ops.toList) (hch:Chain X.P ops z fr0 hp0 nx0) (hok:orderOk ops (z.map (·.2.nms)) A = true)
  (hm:X.m≤nx0) (h0:∀ k:Nm,nx0≤k.base→getH hp0 k = .unborn) (hdst:DstX X N ops) {i:Nat} {q:Oper×It} (hi:z[i]? = some q) (hsi:sel i = false) (hsi':sel' i = true) (hss:∀ j,j≠i→sel j = sel' j)
  (hready:∀ e ∈ q.1.after,Region.binds .any e = true→sel e.on = true) (hI:InvD X N A z fr0 hp0 (lastNx z nx0) sel a w) (hK:∀ a' w',InvD X N A z fr0 hp0 (lastNx z nx0) sel' a' w'→KK a' w'):wpOp X.P ops Q i KK a w:=by
 have hlen:z.length = ops.size:=by have:=congrArg List.length hz; simpa using this
 have hops:∀ (j:Nat) (p:Oper×It),z[j]? = some p→ops[j]? = some p.1:=fun j p hj=>by
  have:(z.map (·.1))[j]? = some p.1:=by simp [hj]
  rw [hz] at this; simpa using this
 have hns:∀ (j:Nat) (p:Oper×It),z[j]? = some p→(z.map (·.2.nms))[j]? = some p.2.nms:=fun j p hj=>by simp [hj]
 have hlt:∀ (j:Nat) (p:Oper×It),z[j]? = some p→j < z.length:=fun j p hj=>(List.getElem?_eq_some_iff.1 hj).1
 have hanc:∀ j,j < z.length→(A.getD i 0).testBit j = true→sel j = true:=fun j hj hb=>by
  have hok2:=hok
  simp only [orderOk,Bool.and_eq_true] at hok2
  have h1:=hok2.1
  simp only [aheadOk,List.all_eq_true,List.mem_range] at h1
  have h2:=h1 i (by have:=hlt i q hi; omega)
  rw [hops i q hi] at h2
  simp only [Bool.and_eq_true,List.all_eq_true,List.mem_range] at h2
  have h3:=h2.2 j (by omega)
  rw [hb] at h3
  simp only [Bool.not_true,Bool.false_or,List.any_eq_true,Bool.and_eq_true,Bool.or_eq_true,beq_iff_eq] at h3
  obtain ⟨e,he,hbi,h4⟩:=h3
  have hse:=hready e (by simpa using he) hbi
  rcases h4 with h4 | h4
  ·rw [← h4]; exact hse
  ·exact hI.closed e.on hse j hj h4
 -- who has come, and touches what this one touches, stands ahead of it in the text
 have hsame:∀ (bad:Oper×It→Prop),(∀ (j:Nat) (p:Oper×It),z[j]? = some p→j < i→farN ops p.1 p.2.nms q.1 q.2.nms = true→¬ bad p)→(∀ (j:Nat) (p:Oper×It),z[j]? = some p→i < j→farN ops q.1 q.2.nms p.1 p.2.nms = true→¬ bad p) →
  ∀(j:Nat) (p:Oper×It),z[j]? = some p→bad p→sel j = decide (j < i):=fun bad hb1 hb2 j p hj hb=>by
  rcases Nat.lt_trichotomy j i with hji | hji | hji
  ·rw [decide_eq_true hji]
   rcases (pair_of hok hji (hops j p hj) (hops i q hi) (hns j p hj) (hns i q hi)).1 with h | h
   ·exact hanc j (hlt j p hj) h
   ·exact absurd hb (hb1 j p hj hji h)
  ·subst hji; rw [hsi]; simp
  ·rw [decide_eq_false (by omega)]
   rcases (pair_of hok hji (hops i q hi) (hops j p hj) (hns i q hi) (hns j p hj)).1 with h | h
   ·cases hs:sel j with
    | false=>rfl
    | true=>have:=hI.closed j hs i (hlt i q hi) h; rw [hsi] at this; cases this
   ·exact absurd hb (hb2 j p hj hji h)
 obtain ⟨c1,c2,c3,hst⟩:=chain_at z fr0 hp0 nx0 0 i q hch hi
 rw [Nat.zero_add] at hst
 obtain ⟨ids,hH,hF⟩:=hI.ex
 have hun:∀ k:Nm,q.2.nx≤k.base→k.base≤q.2.nx'→getH (hpSel sel 0 z hp0) k = .unborn:=fun k hk1 hk2=>by
  refine hp_unborn (h0 k (by omega)) z 0 fun j p hj hs hk=>?_
  rw [Nat.zero_add] at hs
  rcases Nat.lt_trichotomy j i with hji | hji | hji
  ·exact own_all (pair_of hok hji (hops j p hj) (hops i q hi) (hns j p hj) (hns i q hi)).2 k.key hk ⟨(Nm.key_base k).symm ▸ hk1,(Nm.key_base k).symm ▸ hk2⟩
  ·subst hji; rw [hsi] at hs; cases hs
  ·rcases (pair_of hok hji (hops i q hi) (hops j p hj) (hns i q hi) (hns j p hj)).1 with h | h
   ·have:=hI.closed j hs i (hlt i q hi) h; rw [hsi] at this; cases this
   ·exact (far_all h).2.2.2 k.key hk ⟨(Nm.key_base k).symm ▸ hk1,(Nm.key_base k).symm ▸ hk2⟩
 have hsel:∀ (j:Nat) (p:Oper×It),z[j]? = some p→i < j→sel j = true→(A.getD j 0).testBit i = true→False:=fun j p hj hij hs hb=>by
  have:=hI.closed j hs i (hlt i q hi) hb; rw [hsi] at this; cases this
 have hrd:∃ hpB,stepW true X.P ops q.1 (frSel (fun j=>decide (j < i)) 0 z fr0) hpB q.2.nx (EqIt q.2)∧∀ k:Nm,k.key ∈ q.2.rds→getH (hpSel sel 0 z hp0) k = getH hpB k:=by
  by_cases hlate:∃ (j:Nat) (p:Oper×It),z[j]? = some p∧i < j∧sel j = true∧lateN ops q.1 q.2.nms p.1 p.2.nms = true
  ·obtain ⟨j,p,hj,hij,hsj,hl⟩:=hlate
   obtain ⟨l1,l2,l3,l4,l5,l6,l7⟩:=late_all hl
   -- there is but one entry
   have hone:∀ (j':Nat) (p':Oper×It),z[j']? = some p'→isEntry p'.1.op = true→isEntry p.1.op = true→j' = j:=fun j' p' hj' h1 h2=>by
    refine Decidable.byContradiction fun hne=>?_
    have h3:ops.toList[j']? = some p'.1:=by simpa using hops j' p' hj'
    have h4:ops.toList[j]? = some p.1:=by simpa using hops j p hj
    have:∀ (l:List Oper) (a b:Nat) (x y:Oper),a < b→l[a]? = some x→l[b]? = some y→isEntry x.op = true→isEntry y.op = true→2≤(l.filter fun o=>isEntry o.op).length:=by
     intro l
     induction l with
     | nil=>intro a b x y _ hx; simp at hx
     | cons o l ih =>
      intro a b x y hab hx hy ex ey
      cases a with
      | zero =>
       simp at hx; subst hx
       rw [List.filter_cons_of_pos (p:=fun o:Oper=>isEntry o.op) ex,List.length_cons]
       have:y ∈ l.filter fun o=>isEntry o.op:=by
        obtain ⟨b',rfl⟩:∃ b',b = b'+1:=⟨b - 1,by omega⟩
        exact List.mem_filter.2 ⟨List.mem_of_getElem? (by simpa using hy),ey⟩
       have:=List.length_pos_of_mem this
       omega
      | succ a =>
       obtain ⟨b',rfl⟩:∃ b',b = b'+1:=⟨b - 1,by omega⟩
       have:=ih a b' x y (by omega) (by simpa using hx) (by simpa using hy) ex ey
       by_cases eo:isEntry o.op = true
       ·rw [List.filter_cons_of_pos (p:=fun o:Oper=>isEntry o.op) eo,List.length_cons]; omega
       ·rw [List.filter_cons_of_neg (p:=fun o:Oper=>isEntry o.op) eo]; exact this
    rcases Nat.lt_or_gt_of_ne hne with h | h
    ·have:=this _ j' j _ _ h h3 h4 h1 h2; omega
    ·have:=this _ j j' _ _ h h4 h3 h2 h1; omega
   -- the two operations
   unfold sameKey at l1
   split at l1
   ·rename_i t a b t' a' b' hq1 hp1 hqg hpg
    simp only [Bool.and_eq_true,beq_iff_eq] at l1
    obtain ⟨rfl,rfl,rfl⟩:=l1
    have hpe:isEntry p.1.op = true:=by rw [hp1]; rfl
    obtain ⟨_,_,_,hstj⟩:=chain_at z fr0 hp0 nx0 0 j p hch hj
    rw [Nat.zero_add] at hstj
    have hlq:∀ d,d = a∨d = b→d ∈ looks ops q.1:=fun d hd=>by
     unfold looks; rw [hqg,hq1]; rcases hd with rfl | rfl <;> simp [namesOf,Op.operands]
    have hlp:∀ d,d = a∨d = b→d ∈ looks ops p.1:=fun d hd=>by
     unfold looks; rw [hpg,hp1]; rcases hd with rfl | rfl <;> simp [namesOf,Op.operands]
    -- nobody between them is ahead of the second, but behind the first
    have hbet:∀ (m:Nat) (r:Oper×It),z[m]? = some r→i < m→m < j→¬ ((A.getD m 0).testBit i = true∧(A.getD j 0).testBit m = true):=fun m r hm him hmj ⟨h1,h2⟩=>by
     have hsm:=hI.closed j hsj m (hlt m r hm) h2
     exact hsel m r hm him hsm h1
    have hfr:∀ d,d = a∨d = b→getF (frSel (fun n=>decide (n < j)) 0 z fr0) d = getF (frSel (fun n=>decide (n < i)) 0 z fr0) d:=fun d hd=>frSel_agree z 0 _ _ (fun m r hm hmd=>by
     rw [Nat.zero_add]
     rcases Nat.lt_trichotomy m i with h | h | h
     ·rw [decide_eq_true h,decide_eq_true (by omega)]
     ·subst h
      rw [hm] at hi; cases hi
      exact absurd (hlp d hd) (l4 d hmd).1
     ·by_cases hmj:m < j
      ·exfalso
       rcases (pair_of hok h (hops i q hi) (hops m r hm) (hns i q hi) (hns m r hm)).1 with h1 | h1
       ·rcases (pair_of hok hmj (hops m r hm) (hops j p hj) (hns m r hm) (hns j p hj)).1 with h2 | h2
        ·exact hbet m r hm h hmj ⟨h1,h2⟩
        ·exact ((far_all h2).1 d hmd).1 (hlp d hd)
       ·exact (far_all h1).2.1 d hmd (hlq d hd)
      ·rw [decide_eq_false (by omega),decide_eq_false (by omega)]) rfl
    have hev:∀ d,d = a∨d = b→evS true (frSel (fun n=>decide (n < j)) 0 z fr0) (.tmp d) = evS true (frSel (fun n=>decide (n < i)) 0 z fr0) (.tmp d):=fun d hd=>by simp only [evS,hfr d hd]
    unfold stepW at hst hstj
    rw [hqg] at hst
    rw [hpg] at hstj
    simp only at hst hstj
    unfold coreW at hst hstj
    rw [hq1] at hst
    rw [hp1] at hstj
    simp only [callOf,semOk,Bool.false_eq_true,false_and,and_false,false_or,opS] at hst hstj
    rw [hev a (.inl rfl),hev b (.inr rfl)] at hstj
    cases hop:lookupS X.P t (evS true (frSel (fun j=>decide (j < i)) 0 z fr0) (.tmp a)) (evS true (frSel (fun j=>decide (j < i)) 0 z fr0) (.tmp b)) false (hpSel (fun j=>decide (j < i)) 0 z hp0) q.2.nx with
    | bad=>rw [hop] at hst; exact hst.elim
    | ok s e =>
     rw [hop] at hst
     obtain ⟨hs,hv1,hv2,hv3,hv4⟩:=hst
     cases hop2:mapEntryS X.P t (evS true (frSel (fun j=>decide (j < i)) 0 z fr0) (.tmp a)) (evS true (frSel (fun j=>decide (j < i)) 0 z fr0) (.tmp b)) (hpSel (fun n=>decide (n < j)) 0 z hp0) p.2.nx with
     | bad=>rw [hop2] at hstj; exact hstj.elim
     | ok s2 e2 =>
      rw [hop2] at hstj
      obtain ⟨hs2,hw1,hw2,hw3,hw4⟩:=hstj
      have hmap:∀ k:Nm,k.key ∈ q.2.rds→k.key ∈ p.2.rds→getH (hpSel (fun n=>decide (n < j)) 0 z hp0) k = getH (hpSel (fun n=>decide (n < i)) 0 z hp0) k:=fun k hkq hkp=>hpSel_agree z 0 _ _ (fun m r hm hkm=>by
       rw [Nat.zero_add]
       rcases Nat.lt_trichotomy m i with h | h | h
       ·rw [decide_eq_true h,decide_eq_true (by omega)]
       ·subst h
        rw [hm] at hi; cases hi
        have:k.key ∈ q.2.nms.keys:=hkm
        rw [l3] at this; cases this
       ·by_cases hmj:m < j
        ·exfalso
         rcases (pair_of hok h (hops i q hi) (hops m r hm) (hns i q hi) (hns m r hm)).1 with h1 | h1
         ·rcases (pair_of hok hmj (hops m r hm) (hops j p hj) (hns m r hm) (hns j p hj)).1 with h2 | h2
          ·exact hbet m r hm h hmj ⟨h1,h2⟩
          ·exact ((far_all h2).2.2.1 k.key hkm).2 hkp
         ·by_cases hl2:lateN ops q.1 q.2.nms r.1 r.2.nms = true
          ·have hre:isEntry r.1.op = true:=by
            have:=(late_all hl2).1
            unfold sameKey at this
            split at this
            ·rename_i h9 _ _; rw [h9]; rfl
            ·cases this
           have:=hone m r hm hre hpe
           omega
          ·exact far_rds h1 hl2 k.key hkm hkq
        ·rw [decide_eq_false (by omega),decide_eq_false (by omega)]) rfl
      have hx:∃ k,evS true (frSel (fun j=>decide (j < i)) 0 z fr0) (.tmp a) = .mp k∧e.rds = [k.key]∧e2.rds = [k.key]:=by
       have h2:=hop2
       unfold mapEntryS at h2
       split at h2
       ·rename_i k kv S e' hxk hke
        split at h2
        ·obtain ⟨es,hes,hf⟩:=mapC_ok h2
         have h1:=hop
         rw [hxk] at h1
         obtain ⟨_,_,_,_,_,_,g3⟩:=lookupS_key h1
         rw [g3] at h1
         obtain ⟨_,_,hf1⟩:=mapC_ok h1
         exact ⟨k,hxk,by cases hf1; rfl,by cases hf; rfl⟩
        ·cases h2
       ·cases h2
      obtain ⟨k,hxk,hr1,hr2⟩:=hx
      have hkq:k.key ∈ q.2.rds:=by rw [← hv4,hr1]; simp
      have hkp:k.key ∈ p.2.rds:=by rw [← hw4,hr2]; simp
      have hkT:Nm.isT k = true:=by
       have:=l7 k.key hkq
       cases k with
       | t a=>rfl
       | s F i=>cases this
      obtain ⟨⟨s',hl1,hl2⟩,_⟩:=look_late hop hs hop2 (fun k' hk'=>by
       rw [hxk] at hk'; cases hk'
       exact ⟨hkT,hmap k hkq hkp⟩)
      refine ⟨e2.upd++hpSel (fun j=>decide (j < i)) 0 z hp0,?_,fun k' hk'=>?_⟩
      ·unfold stepW
       rw [hqg]
       simp only
       unfold coreW
       rw [hq1]
       simp only [callOf,opS]
       rw [hl1]
       exact .inr ⟨hl2,hv1,hv2,hv3,hv4⟩
      ·rw [hw2]
       have e1:getH (p.2.upd++hpSel (fun j=>decide (j < i)) 0 z hp0) k' = getH (hpSel (fun n=>decide (n < i) || decide (n = j)) 0 z hp0) k' :=
        hpSel_put z 0 _ _ j p hj (by rw [Nat.zero_add]; exact decide_eq_false (by omega)) (by rw [Nat.zero_add]; simp) (fun m hm=>by rw [Nat.zero_add] at hm; simp [hm]) (fun _ m r hm _ hs=>by rw [Nat.zero_add] at hs; simp at hs; omega) rfl
       rw [e1]
       refine hpSel_agree z 0 _ _ (fun m r hm hkm=>?_) rfl
       rw [Nat.zero_add]
       rcases Nat.lt_trichotomy m i with h | h | h
       ·rw [show (decide (m < i) || decide (m = j)) = true by simp [h]]
        rcases (pair_of hok h (hops m r hm) (hops i q hi) (hns m r hm) (hns i q hi)).1 with h1 | h1
        ·exact hanc m (hlt m r hm) h1
        ·exact absurd hk' ((far_all h1).2.2.1 k'.key hkm).2
       ·subst h
        rw [hm] at hi; cases hi
        have:k'.key ∈ q.2.nms.keys:=hkm
        rw [l3] at this; cases this
       ·by_cases hmj:m = j
        ·subst hmj; rw [hsj]; simp
        ·rw [show (decide (m < i) || decide (m = j)) = false by simp [hmj]; omega]
         cases hsm:sel m with
         | false=>rfl
         | true =>
          exfalso
          rcases (pair_of hok h (hops i q hi) (hops m r hm) (hns i q hi) (hns m r hm)).1 with h1 | h1
          ·exact hsel m r hm h hsm h1
          ·by_cases hl2:lateN ops q.1 q.2.nms r.1 r.2.nms = true
           ·have hre:isEntry r.1.op = true:=by
             have:=(late_all hl2).1
             unfold sameKey at this
             split at this
             ·rename_i h9 _ _; rw [h9]; rfl
             ·cases this
            exact hmj (hone m r hm hre hpe)
           ·exact far_rds h1 hl2 k'.key hkm hk'
   ·cases l1
  ·refine ⟨_,hst,fun k hk=>hpSel_agree z 0 _ _ (fun j p hj hkj=>?_) rfl⟩
   rw [Nat.zero_add]
   rcases Nat.lt_trichotomy j i with h | h | h
   ·rw [decide_eq_true h]
    rcases (pair_of hok h (hops j p hj) (hops i q hi) (hns j p hj) (hns i q hi)).1 with h1 | h1
    ·exact hanc j (hlt j p hj) h1
    ·exact absurd hk ((far_all h1).2.2.1 k.key hkj).2
   ·subst h; rw [hsi]; simp
   ·rw [decide_eq_false (by omega)]
    cases hs:sel j with
    | false=>rfl
    | true =>
     exfalso
     rcases (pair_of hok h (hops i q hi) (hops j p hj) (hns i q hi) (hns j p hj)).1 with h1 | h1
     ·exact hsel j p hj h hs h1
     ·by_cases hl2:lateN ops q.1 q.2.nms p.1 p.2.nms = true
      ·exact hlate ⟨j,p,hj,h,hs,hl2⟩
      ·exact far_rds h1 hl2 k.key hkj hk
 obtain ⟨hpB,hst,hrd⟩:=hrd
 refine step_local (hops i q hi) (fr:=frSel (fun j=>decide (j < i)) 0 z fr0) (fr':=frSel sel 0 z fr0) (hp:=hpB) (hp':=hpSel sel 0 z hp0) (nx:=q.2.nx) hH (by omega) hF (fun d hd=>?_) hst (hun _ (Nat.le_refl _) c2) (fun val upd nx' rds hk=>?_) fun val upd nx' rds x w' ids' hk hu h1 h2 h3=>hK _ _ ?_
 ·refine frSel_agree z 0 _ _ (fun j p hj hdj=>?_) rfl
  rw [Nat.zero_add]
  exact hsame (fun p=>p.1.dst = some d) (fun j p _ _ h hb=>((far_all h).1 d hb).1 hd) (fun j p _ _ h hb=>(far_all h).2.1 d hb hd) j p hj hdj
 ·obtain ⟨rfl,rfl,rfl,rfl⟩:=hk
  exact ⟨fun k hk1 hk2=>hun k hk1 (by omega),hrd⟩
 ·obtain ⟨rfl,rfl,rfl,rfl⟩:=hk
  have he:getH (q.2.upd++hpSel sel 0 z hp0) = getH (hpSel sel' 0 z hp0):=funext fun k=>hpSel_put z 0 _ _ i q hi (by rw [Nat.zero_add]; exact hsi) (by rw [Nat.zero_add]; exact hsi') (fun j hj=>hss j (by omega)) (fun hk j p hij hj hs hkj=>by
   rw [Nat.zero_add] at hs
   rcases (pair_of hok hij (hops i q hi) (hops j p hj) (hns i q hi) (hns j p hj)).1 with h | h
   ·have:=hI.closed j hs i (hlt i q hi) h; rw [hsi] at this; cases this
   ·exact ((far_all h).2.2.1 k.key hk).1 hkj) rfl
  refine ⟨⟨ids',h1.congr he,fun d=>?_⟩,fun k hk=>?_,by rw [put_size]; exact hI.size,hI.defers.put fun d hd=>(hdst.spec q.1 (Array.mem_toList_iff.2 (Array.mem_of_getElem? (hops i q hi))) d hd).2,fun j hs k hk hb=>?_⟩
  ·have:=frame_put (frame_ext h2 hF) hI.size (dst:=q.1.dst) (fun d hd=>(hdst.spec q.1 (by
    have:=hops i q hi
    exact Array.mem_toList_iff.2 (Array.mem_of_getElem? this)) d hd).1) h3 d
   rw [frSel_put (s2:=sel') z 0 fr0 fr0 i q hi (by rw [Nat.zero_add]; exact hsi) (by rw [Nat.zero_add]; exact hsi') (fun j hj=>hss j (by omega)) (fun hd j p hij hj hs hdj=>by
    rw [Nat.zero_add] at hs
    rcases (pair_of hok hij (hops i q hi) (hops j p hj) (hns i q hi) (hns j p hj)).1 with h | h
    ·have:=hI.closed j hs i (hlt i q hi) h; rw [hsi] at this; cases this
    ·exact ((far_all h).1 d hd).2 hdj) rfl] at this
   exact DenX.congr this he
  ·rw [← he,getH_app_ne]
   ·exact hI.fresh k hk
   ·intro hm
    obtain ⟨p,hp1,hpk⟩:=List.mem_map.1 hm
    have hb:p.1.base = k.base:=by rw [← Nm.key_base,hpk,Nm.key_base]
    rcases hu.keys p hp1 with ⟨_,h⟩ | ⟨h4,k2,h5,h6⟩
    ·omega
    ·have hb2:k2.base = p.1.base:=by rw [← Nm.key_base,h5,Nm.key_base]
     rw [← hrd k2 (by rw [h5]; exact h4),hI.fresh k2 (by omega)] at h6; exact h6 rfl
  ·by_cases hj:j = i
   ·subst hj
    by_cases hkj:k = j
    ·subst hkj; exact hsi'
    ·rw [← hss k hkj]; exact hanc k hk hb
   ·rw [← hss j hj] at hs
    have:=hI.closed j hs k hk hb
    by_cases hkj:k = i
    ·subst hkj; exact hsi'
    ·rw [← hss k hkj]; exact this
theorem left_lt {n:Nat} {p q:Nat→Bool} (h:∀ j,j < n→q j = true→p j = true) {i:Nat} (hi:i < n) (hp:p i = true) (hq:q i = false):((List.range n).filter q).length < ((List.range n).filter p).length:=by
 have gen:∀ (l:List Nat),(∀ j ∈ l,q j = true→p j = true)→(l.filter q).length≤(l.filter p).length∧(i ∈ l→(l.filter q).length < (l.filter p).length):=by
  intro l
  induction l with
  | nil=>exact fun _=>⟨Nat.le_refl _,fun hm=>by cases hm⟩
  | cons a l ih =>
   intro hl
   obtain ⟨h1,h2⟩:=ih fun j hj=>hl j (by simp [hj])
   have ha:=hl a (by simp)
   refine ⟨?_,fun hm=>?_⟩
   ·cases hqa:q a with
    | true=>rw [List.filter_cons_of_pos hqa,List.filter_cons_of_pos (ha hqa)]; simpa using h1
    | false =>
     rw [List.filter_cons_of_neg (by simp [hqa])]
     cases hpa:p a with
     | true=>rw [List.filter_cons_of_pos hpa]; simp; omega
     | false=>rw [List.filter_cons_of_neg (by simp [hpa])]; exact h1
   ·rcases List.mem_cons.1 hm with rfl | hm
    ·rw [List.filter_cons_of_neg (by simp [hq]),List.filter_cons_of_pos hp]; simp; omega
    ·have:=h2 hm
     cases hqa:q a with
     | true=>rw [List.filter_cons_of_pos hqa,List.filter_cons_of_pos (ha hqa)]; simpa using this
     | false =>
      rw [List.filter_cons_of_neg (by simp [hqa])]
      cases hpa:p a with
      | true=>rw [List.filter_cons_of_pos hpa]; simp; omega
      | false=>rw [List.filter_cons_of_neg (by simp [hpa])]; exact this
 exact (gen (List.range n) fun j hj=>h j (List.mem_range.1 hj)).2 (List.mem_range.2 hi)
theorem draw_sound {ops:Array Oper} {N:Nat} {A:List Nat} {z:Zs} {fr0:Fr} {hp0:Hp} {nx0:Nat} {Q:Exit→Act→World→Prop} (hz:z.map (·.1) = ops.toList) (hch:Chain X.P ops z fr0 hp0 nx0) (hok:orderOk ops (z.map (·.2.nms)) A = true)
  (hm:X.m≤nx0) (h0:∀ k:Nm,nx0≤k.base→getH hp0 k = .unborn) (hdst:DstX X N ops) (hQ:∀ a w,StX X N (frSel (fun _=>true) 0 z fr0) (hpSel (fun _=>true) 0 z hp0) (lastNx z nx0) a w→Q .normal a w):∀ (fuel:Nat) (listed:Array Bool) (a:Act) (w:World),listed.size = ops.size →
  ((List.range ops.size).filter fun j=>!listed.getD j false).length≤fuel→InvD X N A z fr0 hp0 (lastNx z nx0) (fun j=>listed.getD j false) a w→wpAny X.P .any ops Q fuel listed a w:=by
 have hlen:z.length = ops.size:=by have:=congrArg List.length hz; simpa using this
 have hops:∀ (j:Nat) (p:Oper×It),z[j]? = some p→ops[j]? = some p.1:=fun j p hj=>by
  have:(z.map (·.1))[j]? = some p.1:=by simp [hj]
  rw [hz] at this; simpa using this
 have hnil:∀ (listed:Array Bool) (a:Act) (w:World),listed.size = ops.size→InvD X N A z fr0 hp0 (lastNx z nx0) (fun j=>listed.getD j false) a w→Region.ready .any ops listed = []→(∀ j,j < ops.size→listed.getD j false = true)∧Q .normal a w:=by
  intro listed a w hsz hI hr
  have hall:∀ j,j < ops.size→listed.getD j false = true:=by
   intro j
   induction j using Nat.strongRecOn with
   | _ j ih =>
    intro hj
    cases hl:listed.getD j false with
    | true=>rfl
    | false =>
     have hmem:j ∈ Region.ready .any ops listed:=by
      refine mem_ready.2 ⟨getD_in (by omega) hl,ops[j],Array.getElem?_eq_getElem hj,fun e he hb=>?_⟩
      have hok2:=hok
      simp only [orderOk,Bool.and_eq_true] at hok2
      have h1:=hok2.1
      simp only [aheadOk,List.all_eq_true,List.mem_range] at h1
      have h2:=h1 j hj
      rw [Array.getElem?_eq_getElem hj] at h2
      simp only [Bool.and_eq_true,List.all_eq_true] at h2
      have h3:=h2.1 e (by simpa using he)
      rw [hb] at h3
      have hlt:e.on < j:=by simpa [Nat.blt_eq] using h3
      exact ih e.on hlt (by omega)
     rw [hr] at hmem; cases hmem
  refine ⟨hall,hQ a w ?_⟩
  obtain ⟨ids,hH,hF⟩:=hI.ex
  have e1:getH (hpSel (fun j=>listed.getD j false) 0 z hp0) = getH (hpSel (fun _=>true) 0 z hp0):=funext fun k=>hpSel_agree z 0 _ _ (fun i q hi _=>by
   have:=(List.getElem?_eq_some_iff.1 hi).1
   rw [Nat.zero_add]; exact hall i (by omega)) rfl
  have e2:∀ d,getF (frSel (fun j=>listed.getD j false) 0 z fr0) d = getF (frSel (fun _=>true) 0 z fr0) d:=fun d=>frSel_agree z 0 _ _ (fun i q hi _=>by
   have:=(List.getElem?_eq_some_iff.1 hi).1
   rw [Nat.zero_add]; exact hall i (by omega)) rfl
  exact ⟨ids,⟨hH.congr e1,fun k hk=>by rw [← e1]; exact hI.fresh k hk,Nat.le_trans hm (chain_le z fr0 hp0 nx0 hch)⟩,fun d=>by rw [← e2]; exact DenX.congr (hF d) e1,hI.size,hI.defers⟩
 intro fuel
 induction fuel with
 | zero =>
  intro listed a w hsz hc hI
  have hr:Region.ready .any ops listed = []:=by
   rw [List.eq_nil_iff_forall_not_mem]
   intro j hj
   obtain ⟨h1,o,h2,_⟩:=mem_ready.1 hj
   have hlt:=(Array.getElem?_eq_some_iff.1 h2).1
   have:((List.range ops.size).filter fun j=>!listed.getD j false) = []:=List.eq_nil_of_length_eq_zero (by omega)
   have hm2:j ∈ (List.range ops.size).filter fun j=>!listed.getD j false:=List.mem_filter.2 ⟨List.mem_range.2 hlt,by
    have:listed.getD j false = false:=by
     rw [Array.getD_eq_getD_getElem?] at h1 ⊢
     rw [Array.getElem?_eq_getElem (by omega)] at h1 ⊢
     exact h1
    rw [this]; rfl⟩
   rw [this] at hm2; cases hm2
  exact ⟨hr,(hnil listed a w hsz hI hr).2⟩
 | succ fuel ih =>
  intro listed a w hsz hc hI
  refine ⟨fun hr=>(hnil listed a w hsz hI hr).2,fun i hi=>?_⟩
  obtain ⟨h1,o,h2,h3⟩:=mem_ready.1 hi
  have hlt:i < ops.size:=(Array.getElem?_eq_some_iff.1 h2).1
  have hzi:z[i]? = some z[i]:=List.getElem?_eq_getElem (by omega)
  have ho:o = z[i].1:=by have:=hops i _ hzi; rw [h2] at this; exact Option.some.inj this
  have hsi:listed.getD i false = false:=by
   rw [Array.getD_eq_getD_getElem?] at h1 ⊢
   rw [Array.getElem?_eq_getElem (by omega)] at h1 ⊢
   exact h1
  have hset:(listed.setIfInBounds i true).getD i false = true:=by
   rw [Array.getD_eq_getD_getElem?,Array.getElem?_setIfInBounds_self_of_lt (by omega)]; rfl
  have hne:∀ j,j≠i→listed.getD j false = (listed.setIfInBounds i true).getD j false:=fun j hj=>(getD_set_ne false (fun e=>hj e.symm)).symm
  refine inv_step (sel:=fun j=>listed.getD j false) (sel':=fun j=>(listed.setIfInBounds i true).getD j false) hz hch hok hm h0 hdst hzi hsi hset hne (fun e he hb=>h3 e (ho ▸ he) hb) hI fun a' w' hI'=>?_
  refine ih _ a' w' (by simp [hsz]) ?_ hI'
  have:=left_lt (n:=ops.size) (p:=fun j=>!listed.getD j false) (q:=fun j=>!(listed.setIfInBounds i true).getD j false) (fun j _ hq=>by
   by_cases hj:j = i
   ·subst hj; simp only [hset] at hq; cases hq
   ·simp only [hne j hj]; exact hq) hlt (by simp [hsi]) (by simp only [hset]; rfl)
  omega
theorem draw_ok (P:Program):DrawOk (DrawW P) P:=by
 intro X N id ops K Q fr hp nx a w hP hd hQ hst h
 subst hP
 obtain ⟨z,h1,h2,h3⟩:=runD_chain ops.toList fr hp nx [] 0 h
 obtain ⟨⟨h4,h5⟩,h6⟩:=h3
 rw [List.nil_append] at h5
 obtain ⟨ids,hH,hF,hN,hD⟩:=hst
 refine wp_region_any h4 ?_
 obtain ⟨g1,g2⟩:=hH.toHeapC.drew
 have e0:∀ j,(Array.replicate ops.size false).getD j false = false:=fun j=>getD_replicate_false _ _
 refine draw_sound (X:=X) (N:=N) h1 h2 h5 hH.m_le hH.fresh hd (fun a w hs=>hQ _ _ _ a w h6 hs) ops.size _ a _ (by simp) (by
  refine Nat.le_trans (List.length_filter_le _ _) (by simp)) ?_
 have e1:hpSel (fun j=>(Array.replicate ops.size false).getD j false) 0 z hp = hp:=hpSel_none z 0 hp fun j _=>e0 j
 have e2:frSel (fun j=>(Array.replicate ops.size false).getD j false) 0 z fr = fr:=frSel_none z 0 fr fun j _=>e0 j
 refine ⟨⟨ids,?_,fun d=>?_⟩,fun k hk=>?_,hN,hD,fun j hj=>by rw [e0] at hj; cases hj⟩
 ·rw [e1]; exact g1
 ·rw [e1,e2]; exact (hF d).mono g2
 ·rw [e1]; exact hH.fresh k (Nat.le_trans (chain_le z fr hp nx h2) hk)
abbrev Swp (P:Program) (m N:Nat):Code→SPost→Fr→Hp→Nat→Prop:=SwpD (DrawW P) P m N
end Go.Sx
end

section
namespace Go.Sx
open Go.RowKit
set_option linter.unusedVariables false
variable {P:Program} {fr:Fr} {hp:Hp} {nx:Nat}
theorem evS_congr {fr':Fr} (h:getF fr = getF fr') (g:Bool):evS g fr = evS g fr':=by
 funext x
 cases x <;> simp only [evS,h]
theorem rawS_congr {fr':Fr} (h:getF fr = getF fr'):rawS fr = rawS fr':=by
 funext x
 cases x <;> simp only [rawS,h]
theorem putF_congr {fr':Fr} (h:getF fr = getF fr') (d:Option Tmp) (x:SV):getF (putF d x fr) = getF (putF d x fr'):=by
 cases d with
 | none=>exact h
 | some d=>funext t; simp only [putF,getF,h]
theorem opS_congr {fr':Fr} (h:getF fr = getF fr') (g:Bool) (ty:TypeId) (o:Op):opS P g fr hp nx ty o = opS P g fr' hp nx ty o:=by
 unfold opS
 rw [evS_congr h,rawS_congr h]
theorem callOf_congr {fr':Fr} (h:getF fr = getF fr') (g:Bool) (o:Op):callOf g fr o = callOf g fr' o:=by
 unfold callOf
 rw [evS_congr h]
theorem guardS_congr {fr':Fr} (h:getF fr = getF fr') (ops:Array Oper) (j:Nat) (w:Bool):guardS ops fr j w = guardS ops fr' j w:=by
 unfold guardS
 rw [h]
theorem stepW_congr {fr':Fr} (h:getF fr = getF fr') {dt:Bool} {ops:Array Oper} {o:Oper} {K K':SV→Hp→Nat→List Nm→Prop} (hK:∀ v u n r,K v u n r→K' v u n r) (hs:stepW dt P ops o fr hp nx K):stepW dt P ops o fr' hp nx K':=by
 have core:∀ {g:Bool},coreW dt P g o fr hp nx K→coreW dt P g o fr' hp nx K':=by
  intro g hc
  unfold coreW at hc ⊢
  rw [← callOf_congr h]
  cases hcl:callOf g fr o.op with
  | some c =>
   rw [hcl] at hc
   obtain ⟨args',hin,m,Post,σ,bor,h1,h2,hsg,h3,h4,h5,h6,h7,h8,h9,h10⟩:=hc
   exact ⟨args',hin,m,Post,σ,bor,h1,h2,hsg,h3,h4,h5,h6,h7,h8,h9,fun res hp' nx' hp=>⟨(h10 res hp' nx' hp).1,(h10 res hp' nx' hp).2.1,(h10 res hp' nx' hp).2.2.imp fun _ hu=>⟨hu.1,hK _ _ _ _ hu.2⟩⟩⟩
  | none =>
   rw [hcl] at hc
   simp only at hc ⊢
   rw [← opS_congr h]
   rcases hc with hc | hc
   ·exact .inl ⟨hc.1,hc.2.1,hc.2.2.mono h hK⟩
   refine .inr ?_
   cases hop:opS P g fr hp nx o.type o.op with
   | bad=>rw [hop] at hc; exact hc
   | ok s e=>rw [hop] at hc; exact ⟨hc.1,hK _ _ _ _ hc.2⟩
 unfold stepW at hs ⊢
 cases hg:o.guard with
 | none=>rw [hg] at hs; exact core hs
 | some jw =>
  rw [hg] at hs
  simp only at hs ⊢
  rw [← guardS_congr h]
  cases hgs:guardS ops fr jw.1 jw.2 with
  | none=>rw [hgs] at hs; exact hs
  | some g =>
   rw [hgs] at hs
   simp only at hs ⊢
   cases hq:quietP P o.op with
   | true =>
    rw [hq] at hs
    simp only [cond_true] at hs ⊢
    rcases hs with hs | hs
    ·exact .inl ⟨hs.1,hK _ _ _ _ hs.2⟩
    ·refine .inr ?_
     rw [← opS_congr h]
     cases hop:opS P g fr hp nx o.type o.op with
     | bad=>rw [hop] at hs; exact hs
     | ok s e =>
      rw [hop] at hs
      simp only at hs ⊢
      cases hu:e.upd with
      | nil=>rw [hu] at hs; exact ⟨hs.1,hK _ _ _ _ hs.2⟩
      | cons a b=>rw [hu] at hs; exact hs
   | false =>
    rw [hq] at hs
    exact ⟨fun hg=>core (hs.1 hg),fun hg=>hK _ _ _ _ (hs.2 hg)⟩
def FrOnly (K:Fr→Hp→Nat→Prop):Prop:=∀ fr fr' hp nx,getF fr = getF fr'→K fr hp nx→K fr' hp nx
theorem eqW_only (K:Fr→Hp→Nat→Prop):FrOnly (EqW K):=fun fr fr' hp nx h ⟨f1,h1,he,hk⟩=>⟨f1,h1,⟨fun d=>by rw [← h]; exact he.1 d,he.2⟩,hk⟩
theorem runOps_congr {ops:Array Oper} {K:Fr→Hp→Nat→Prop} (hK:FrOnly K):∀ (l:List Oper) (fr fr':Fr) (hp:Hp) (nx:Nat),getF fr = getF fr'→runOps P ops l fr hp nx K→runOps P ops l fr' hp nx K
 | [],fr,fr',hp,nx,h,hr=>hK _ _ _ _ h hr
 | o::l,fr,fr',hp,nx,h,hr=>stepW_congr h (fun v u n r hk=>runOps_congr hK l _ _ _ _ (putF_congr h _ _) hk) hr
theorem runD_congr {ops:Array Oper} {K:List Nms→Fr→Hp→Nat→Prop} (hK:∀ ns,FrOnly (K ns)):∀ (l:List Oper) (fr fr':Fr) (hp:Hp) (nx:Nat) (acc:List Nms),getF fr = getF fr'→runD P ops l fr hp nx acc K→runD P ops l fr' hp nx acc K
 | [],fr,fr',hp,nx,acc,h,hr=>hK _ _ _ _ _ h hr
 | o::l,fr,fr',hp,nx,acc,h,hr=>stepW_congr h (fun v u n r hk=>runD_congr hK l _ _ _ _ _ (putF_congr h _ _) hk) hr
def takeB (P:Program) (t:TypeId) (cs:List SV) (off:Nat):Bool:=match aggT P t,szT P t with
 | some true,some n=>Nat.ble (off+n) cs.length
 | some false,_=>Nat.blt off cs.length
 | _,_=>false
def sideOk (P:Program) (g:Bool) (fr:Fr) (hp:Hp) (o:Op):Bool:=match o with
 | .move _=>true
 | .assign _=>true
 | .pick _ _ _=>true
 | .alloc _=>true
 | .build _ _=>true
 | .buildSlice _ _ _=>true
 | .fieldAddr _ _ _=>true
 | .extract _ _=>true
 | .makeInterface _ _=>true
 | .typeAssert _ _ _ _=>true
 | .slice _ x lo hi mx=>(match lo,hi,mx,evS g fr x with
  | none,none,none,.ptr _ _=>true
  | _,_,_,_=>false)
 | .unOp _ _ _=>true
 | .convert _ d x=>match evS g fr x with
  | .v (.int _ _)=>true
  | .v (.string _)=>(match P.underlying d with | some .string=>true | _=>false)
  | _=>false
 | .makeFunc _ _ _=>true
 | .makeMap _ _=>true
 | .nilCheck _=>true
 | .box _ x=>(cellsS (evS g fr x)).all oneS
 | .load t a=>match tabS P (evS g fr a) with
  | .ptr k off=>match getH hp k with
   | .row _ cs=>takeB P t cs off
   | _=>false
  | .iptr cs off=>takeB P t cs off
  | _=>false
 | .store t a x=>match evS g fr a with
  | .ptr k off=>match getH hp k with
   | .row _ cs=>(match szT P t with | some n=>n == (cellsS (evS g fr x)).length | none=>false) && ((cellsS (evS g fr x)).all oneS && Nat.ble (off+(cellsS (evS g fr x)).length) cs.length)
   | _=>false
  | _=>false
 | .field t x f=>match fieldT P t f,evS g fr x with
  | some (o,ft,_),.agg cs=>takeB P ft cs o
  | _,_=>false
 | .index t x i=>match evS g fr x,evS g fr i,arrT P t with
  | .agg cs,.v (.int _ n),some (len,e,z)=>decide (0≤n) && decide (n < len) && takeB P e cs (n.toNat * z)
  | _,_,_=>false
 | .binOp op _ x y _=>match evS g fr x,evS g fr y with
  | .v (.string _),_=>false
  | .v (.int _ _),.v (.int _ b)=>match op with
   | .quo=>!(b == 0)
   | .rem=>!(b == 0)
   | .shl=>decide (0≤b)
   | .shr=>decide (0≤b)
   | _=>true
  | _,_=>true
 | .indexAddr t x i=>match evS g fr i,sliceT P t,arrT P t,tabS P (evS g fr x) with
  | .v (.int _ n),none,some (len,_,_),_=>decide (0≤n) && decide (n < len)
  | .v (.int _ n),some _,_,.own _ _ len=>decide (0≤n) && decide (n < len)
  | .v (.int _ n),some _,_,.sl len _=>decide (0≤n) && decide (n < len)
  | _,_,_,_=>false
 | .call c=>match c.callee with
  | .builtin b=>match b with
   | .len=>true
   | .min=>true
   | .max=>true
   | _=>false
  | _=>false
 | _=>false
theorem takeB_ok {t:TypeId} {cs:List SV} {off:Nat} {rds:List Nm} {s:Prop} {e:Eff} (h:takeS P t cs off rds nx = .ok s e) (hb:takeB P t cs off = true):s:=by
 unfold takeS at h
 unfold takeB at hb
 split at h
 ·rename_i n h1 h2; cases h; rw [h1,h2] at hb; exact Nat.le_of_ble_eq_true hb
 ·rename_i h1; cases h; rw [h1] at hb; exact Nat.le_of_ble_eq_true hb
 ·cases h
theorem pureR_s {x:SV} {s:Prop} {e:Eff} (h:pureR x nx = .ok s e):s:=by cases h; trivial
theorem nilEq_s {op:BinOp} {t:TypeId} {r:Bool} {rds:List Nm} {s:Prop} {e:Eff} (h:nilEqS P op t r rds nx = .ok s e):s:=by
 unfold nilEqS at h
 split at h
 ·cases hq:isEq op <;> rw [hq] at h
  ·cases h
  ·cases h; trivial
 ·cases h
set_option maxHeartbeats 4000000 in
theorem sideOk_ok {g:Bool} {ty:TypeId} {o:Op} {s:Prop} {e:Eff} (h:opS P g fr hp nx ty o = .ok s e) (hb:sideOk P g fr hp o = true):s:=by
 cases o <;> simp only [opS] at h <;> simp only [sideOk] at hb <;> try contradiction
 case move x=>exact pureR_s h
 case assign x=>exact pureR_s h
 case pick c x y =>
  split at h
  ·unfold pickS at h
   split at h
   ·exact pureR_s h
   ·rename_i k p k' q _ _
    cases hk:(k == k') <;> rw [hk] at h <;> exact pureR_s h
   ·exact pureR_s h
  ·cases h
 case alloc t =>
  unfold allocS at h
  split at h
  ·cases h; trivial
  ·cases h
 case box t x=>cases h; exact hb
 case build t ps =>
  unfold buildS at h
  repeat' split at h
  all_goals first | (cases h; trivial) | cases h
 case buildSlice t n ps =>
  unfold buildSliceS at h
  split at h
  ·split at h
   ·rw [Bool.cond_eq_ite] at h
    split at h
    ·split at h
     ·cases h; trivial
     ·cases h
    ·cases h
   ·cases h
  ·cases h
 case load t a =>
  unfold loadS at h
  split at h
  ·rename_i k off ha
   rw [ha] at hb
   obtain ⟨t',cs,hk,hh⟩:=rowS_ok h
   simp only [hk] at hb
   exact takeB_ok hh hb
  ·rename_i cs off ha
   rw [ha] at hb
   exact takeB_ok h hb
  ·cases h
 case store t a x =>
  unfold storeS at h
  split at h
  ·rename_i k off ha
   rw [ha] at hb
   obtain ⟨t',cs,hk,hh⟩:=rowS_ok h
   simp only [hk,Bool.and_eq_true] at hb
   cases hh
   refine ⟨?_,hb.2.1,Nat.le_of_ble_eq_true hb.2.2⟩
   cases hs:szT P t with
   | none=>rw [hs] at hb; simp at hb
   | some n=>rw [hs] at hb; simp at hb; rw [hb.1]
  ·cases h
 case nilCheck x =>
  split at h
  ·exact pureR_s h
  ·exact pureR_s h
  ·exact pureR_s h
  ·rw [Bool.cond_eq_ite] at h
   split at h
   ·exact pureR_s h
   ·cases h
  ·cases h
 case binOp op t x y ty =>
  cases he:erNilS P op t (evS g fr x) y nx with
  | some r =>
   rw [he,Option.getD_some] at h
   subst h
   rcases erNilS_pure he with h | ⟨v,h⟩
   ·cases h
   ·exact pureR_s h.symm
  | none =>
  rw [he,Option.getD_none] at h
  unfold binOpS at h
  split at h
  ·rename_i k a k' b ha hb'
   rw [ha,hb'] at hb
   simp only at hb
   cases hsh:isShift op with
   | true =>
    rw [hsh] at h
    simp only [cond_true] at h
    cases op <;> simp only [isShift,Bool.false_eq_true] at hsh <;> simp only [shiftS] at h <;> cases h <;> simpa using hb
   | false =>
    rw [hsh] at h
    simp only [cond_false] at h
    cases hk:(k == k') with
    | false=>rw [hk] at h; cases h
    | true =>
     rw [hk] at h
     simp only [cond_true] at h
     cases op <;> simp only [intS] at h <;> first | exact pureR_s h | (cases h; simpa using hb) | cases h
  ·rename_i a b ha hb'
   rw [ha] at hb
   simp at hb
  ·split at h
   ·cases hq:isEq op <;> rw [hq] at h
    ·cases h
    ·exact pureR_s h
   ·cases h
  ·split at h
   ·cases hq:(isEq op && !P.eqGuardType P.depth t) <;> rw [hq] at h
    ·cases h
    ·simp only [cond_true] at h
     unfold aggEqS at h
     split at h
     ·rename_i l n r _ _ _
      cases hc:((n == l.length && _) && _) with
      | true=>rw [hc] at h; exact pureR_s h
      | false=>rw [hc] at h; cases h
     ·cases h
   ·cases h
  ·exact nilEq_s h
  ·exact nilEq_s h
  ·exact nilEq_s h
  ·cases h
 case unOp op t x =>
  unfold unS at h
  split at h <;> first | exact pureR_s h | cases h
 case convert a b x =>
  unfold convS at h
  split at h
  ·split at h
   ·exact pureR_s h
   ·exact pureR_s h
   ·cases h
  ·rename_i hx
   rw [hx] at hb
   simp only at hb
   split at h
   ·exact pureR_s h
   ·rename_i h2
    rw [h2] at hb; cases hb
   ·cases h
  ·rename_i h1 h2
   split at hb
   ·rename_i hx; exact absurd hx (h1 _ _)
   ·rename_i hx; exact absurd hx (h2 _)
   ·cases hb
 case makeFunc fn first caps =>
  split at h
  ·cases hc:(first.size == 0) <;> rw [hc] at h
   ·cases h
   ·exact pureR_s h
  ·split at h
   ·rw [Bool.cond_eq_ite] at h
    split at h
    ·exact pureR_s h
    ·cases h
   ·cases h
  ·cases h
 case makeMap t r =>
  split at h
  ·cases h; trivial
  ·cases h
 case fieldAddr t x f =>
  unfold fieldAddrS' at h
  split at h
  ·split at h
   ·cases h; trivial
   ·cases h; trivial
   ·cases h
  ·cases h
 case field t x f =>
  unfold fieldS at h
  split at h
  ·rename_i o ft n cs h1 h2
   rw [h1,h2] at hb
   exact takeB_ok h hb
  ·cases h
 case index t x i =>
  unfold indexS at h
  split at h
  ·rename_i cs kd n h1 h2
   rw [h1,h2] at hb
   split at h
   ·rename_i len e' z hz
    rw [hz] at hb
    simp only [Bool.and_eq_true,decide_eq_true_eq] at hb
    split at h
    ·rename_i s' r hp'
     cases h
     exact ⟨hb.1,takeB_ok hp' hb.2⟩
    ·cases h
   ·cases h
  ·rename_i s kd n h1 h2
   rw [h1,h2] at hb
   cases hb
  ·cases h
 case indexAddr t x i =>
  unfold indexAddrS at h
  split at h
  ·rename_i k n hi
   rw [hi] at hb
   split at h
   ·rename_i e z hs
    rw [hs] at hb
    split at h
    ·rename_i k' off len hx
     rw [hx] at hb
     obtain ⟨_,hh⟩:=liveS_ok h
     cases hh
     simpa using hb
    ·rename_i len cs hx
     rw [hx] at hb
     cases h
     simpa using hb
    ·cases h
   ·rename_i hs
    rw [hs] at hb
    split at h
    ·rename_i len e z ha
     rw [ha] at hb
     simp only [Bool.and_eq_true,decide_eq_true_eq] at hb
     split at h
     ·cases h; exact hb
     ·cases h; exact hb
     ·cases h
    ·cases h
  ·cases h
 case makeInterface t x =>
  unfold makeIfcS at h
  split at h
  ·cases h
  ·exact pureR_s h
  ·cases h
 case typeAssert x t a ok =>
  unfold assertS at h
  split at h
  ·cases h
  ·split at h
   ·rw [Bool.cond_eq_ite] at h
    split at h
    ·exact pureR_s h
    ·rw [Bool.cond_eq_ite] at h
     split at h
     ·split at h
      ·exact pureR_s h
      ·cases h
     ·cases h
   ·rw [Bool.cond_eq_ite] at h
    split at h
    ·split at h
     ·exact pureR_s h
     ·cases h
    ·cases h
   ·cases h
  ·cases h
 case slice t x lo hi mx =>
  split at hb
  ·rename_i hx
   simp only [Option.map_none] at h
   rw [hx] at h
   simp only [tabS] at h
   unfold sliceS at h
   simp only at h
   split at h
   ·rw [Bool.cond_eq_ite] at h
    split at h
    ·have:=(liveS_ok h).2; cases this; trivial
    ·cases h
   ·cases h
  ·cases hb
 case extract x i =>
  unfold extractS at h
  split at h
  ·split at h
   ·exact pureR_s h
   ·cases h
  ·cases h
 case call c =>
  split at h
  ·rename_i b hc
   rw [hc] at hb
   split at h
   ·unfold lenS at h
    repeat' split at h
    all_goals first | exact pureR_s h | (cases h; done) | (cases h; trivial) | (obtain ⟨_,_,_,hh⟩:=rowS_ok h; cases hh; trivial)
   ·simp at hb
   ·simp at hb
   ·unfold minmaxR at h
    repeat' split at h
    all_goals first | exact pureR_s h | cases h
   ·unfold minmaxR at h
    repeat' split at h
    all_goals first | exact pureR_s h | cases h
   ·cases h
  ·cases h
end Go.Sx
end

section
namespace Go.Sx
open Go.RowKit
def CallAt (P:Program) (f:FuncId) (args:List SV) (dst:Option Tmp) (ops:Array Oper) (rest:List Oper) (fr:Fr) (hp:Hp) (nx:Nat) (K:Fr→Hp→Nat→Prop):Prop :=
 CallW false P f args hp nx fun val upd nx' _=>runOps P ops rest (putF dst val fr) (upd++hp) nx' K
theorem wk_id {P m K fr hp nx} (h:K fr hp nx):Wk P m K fr hp nx:=.inl (.inl h)
theorem wk_mk {P m K fr hp nx} (fr':Fr) (hp':Hp) (nx':Nat) (hle:LeSt P m fr hp fr' hp' nx') (h:K fr' hp' nx'):Wk P m K fr hp nx:=.inl (.inr ⟨fr',hp',nx',hle,h⟩)
def DrawEnd (P:Program) (ops:Array Oper) (acc:List Nms) (K:Fr→Hp→Nat→Prop) (fr:Fr) (hp:Hp) (nx:Nat):Prop:=Need (P.follows .mixedOrders = true∧orderOk ops acc (aheads ops.toList) = true) (K fr hp nx)
def runE (P:Program) (ops:Array Oper) (l:List Oper) (fr:Fr) (hp:Hp) (nx:Nat) (acc:List Nms) (K:Fr→Hp→Nat→Prop):Prop:=runD P ops l fr hp nx acc fun ns fr' hp' nx'=>DrawEnd P ops ns K fr' hp' nx'
def CallE (P:Program) (f:FuncId) (args:List SV) (dst:Option Tmp) (ops:Array Oper) (rest:List Oper) (fr:Fr) (hp:Hp) (nx:Nat) (acc:List Nms) (K:Fr→Hp→Nat→Prop):Prop :=
 CallW true P f args hp nx fun val upd nx' rds=>runE P ops rest (putF dst val fr) (upd++hp) (nx'+1) (acc++[⟨upd.map (·.1.key),rds,nx,nx'⟩]) K
end Go.Sx
namespace Go.Sx
theorem sub_nil {P:Program} {C:Nm→Chunk} {σ:Nm→Option Nm} {frz:Nm→Prop}:Sub P C (getH []) σ frz :=
 ⟨fun _=>trivial,(fun k1 k2 k h=>by cases h),(fun k _ k2 h=>by cases h)⟩
end Go.Sx
end

section
namespace Go.Sx
open Go.RowKit
variable {P:Program}
def Nm.to (j k:Nm):Nm:=match k with
 | .t _=>j
 | .s _ i=>.s j.base i
def getN:List (Nm×Nm)→Nm→Option Nm
 | [],_=>none
 | p::r,k=>bif p.1.eqk k then some (p.2.to k) else getN r k
theorem getN_cons (a b:Nm) (r:List (Nm×Nm)) (k:Nm):getN ((a,b)::r) k = bif a.eqk k then some (b.to k) else getN r k:=rfl
theorem getN_nil (k:Nm):getN [] k = none:=rfl
theorem getN_sig (σ:List (Nm×Nm)):SigOk (getN σ):=fun F i=>by
 induction σ with
 | nil=>rfl
 | cons p r ih =>
  simp only [getN]
  have e:p.1.eqk (.s F i) = p.1.eqk (.s F 0):=by cases p.1 <;> rfl
  rw [e]
  cases p.1.eqk (.s F 0) with
  | true=>rfl
  | false=>exact ih
mutual
def SV.st:SV→Bool
 | .v _=>true
 | .agg xs=>stL xs
 | .tup xs=>stL xs
 | .sl _ xs=>stL xs
 | .iptr xs _=>stL xs
 | .clo _ xs=>stL xs
 | .ifc _ x=>x.st
 | .er _ _ _ _=>true
 | .mth _ x=>x.st
 | .asl _ _ _=>false
 | .bp _ _ _=>false
 | .any=>false
 | .gd _ _=>false
 | .own _ _ _=>false
 | .ptr _ _=>false
 | .mp _=>false
 | .it _=>false
def stL:List SV→Bool
 | []=>true
 | x::xs=>x.st && stL xs
end
mutual
theorem st_cl:∀ {s:SV},s.st = true→s.cl = true
 | .v _,_=>rfl
 | .agg xs,h=>stL_clL (xs:=xs) h
 | .tup xs,h=>stL_clL (xs:=xs) h
 | .sl _ xs,h=>stL_clL (xs:=xs) h
 | .iptr xs _,h=>stL_clL (xs:=xs) h
 | .clo _ xs,h=>stL_clL (xs:=xs) h
 | .ifc _ x,h=>st_cl (s:=x) h
 | .er _ _ _ _,_=>rfl
 | .mth _ x,h=>st_cl (s:=x) h
theorem stL_clL:∀ {xs:List SV},stL xs = true→clL xs = true
 | [],_=>rfl
 | x::xs,h=>by
  simp only [stL,Bool.and_eq_true] at h
  simp only [clL,Bool.and_eq_true]
  exact ⟨st_cl h.1,stL_clL h.2⟩
end
mutual
def leS (hp hp':Hp) (σ:List (Nm×Nm)) (frz:List Nm):SV→SV→Prop
 | s,s'=>match s' with
  | .any=>True
  | .own k' o' n'=>match s with
   | .own k o n=>getN σ k' = some k∧o = o'∧n = n'∧(getH hp' k').live = true
   | .v x=>x = .slice none 0 0∧o' = 0∧n' = 0∧(getH hp' k').live = true∧getN σ k' = none
   | _=>False
  | .ptr k' o'=>match s with
   | .ptr k o=>getN σ k' = some k∧o = o'∧(getH hp' k').live = true
   | _=>False
  | .mp k'=>match s with
   | .mp k=>getN σ k' = some k∧(getH hp' k').live = true
   | _=>False
  | .it k'=>match s with
   | .it k=>getN σ k' = some k∧(getH hp' k').live = true
   | _=>False
  | .agg ys=>match s with
   | .agg xs=>(stL ys = true∧xs = ys)∨leL hp hp' σ frz xs ys
   | _=>False
  | .tup ys=>match s with
   | .tup xs=>leL hp hp' σ frz xs ys
   | _=>False
  | .clo f' ys=>match s with
   | .clo f xs=>f = f'∧leL hp hp' σ frz xs ys
   | _=>False
  | .asl _ _ _=>False
  | .bp k' e' n'=>match s with
   | .bp k e n=>getN σ k' = some k∧e = e'∧n = n'∧(getH hp' k').live = true
   | _=>False
  | .mth t' y=>match s with
   | .mth t x=>t = t'∧leS hp hp' σ frz x y
   | _=>False
  | .ifc t' y=>match s with
   | .ifc t x=>t = t'∧leS hp hp' σ frz x y
   | _=>False
  | .er tp te g e=>match s with
   | .er tp' te' g' e'=>tp' = tp∧te' = te∧g' = g∧e' = e
   | .v x=>x = .nilIface∧e = .nil
   | .ifc t y=>t = tp∧∃ k v d,y = .ptr k 0∧e = .pan v∧InK frz k∧getH hp k = .row d [.v (.int .i64 v)]
   | _=>False
  | .sl n' cs'=>match s with
   | .own k o n=>n = n'∧InK frz k∧∃ e cs q,getH hp k = .row e cs∧(n = 0→q = 0)∧((clL cs = true∧cs' = appCells cs o q)∨∃ cs2:List SV,cs2.length≤cs.length∧(∀ (P:Program) (i:Nat) (x y:SV),cs[i]? = some x→cs2[i]? = some y→LeS P (getH hp) (getH hp') (getN σ) (InK frz) x y)∧cs' = appCells cs2 o q)
   | .v x=>x = .slice none 0 0∧n' = 0∧cs' = []
   | .sl n cs=>n = n'∧cs = cs'∧clL cs = true
   | _=>False
  | .iptr cs' o'=>match s with
   | .ptr k o=>o = o'∧InK frz k∧∃ e cs,getH hp k = .row e cs∧cs'.length≤cs.length∧∀ (P:Program) (i:Nat) (x y:SV),cs[i]? = some x→cs'[i]? = some y→LeS P (getH hp) (getH hp') (getN σ) (InK frz) x y
   | .iptr cs o=>cs = cs'∧o = o'∧clL cs = true
   | _=>False
  | .v y=>s = .v y
  | .gd g y=>s = .gd g y∧y.cl = true
def leL (hp hp':Hp) (σ:List (Nm×Nm)) (frz:List Nm):List SV→List SV→Prop
 | xs,ys=>match ys with
  | []=>xs = []
  | y::ys=>match xs with
   | x::xs=>leS hp hp' σ frz x y∧leL hp hp' σ frz xs ys
   | []=>False
end
theorem leL_get {hp hp':Hp} {σ:List (Nm×Nm)} {frz:List Nm}:∀ {ys xs:List SV},leL hp hp' σ frz xs ys→xs.length = ys.length∧∀ (i:Nat) (x y:SV),xs[i]? = some x→ys[i]? = some y→leS hp hp' σ frz x y
 | [],xs,h=>by simp only [leL] at h; subst h; exact ⟨rfl,fun i x y hx=>by simp at hx⟩
 | y::ys,[],h=>by simp [leL] at h
 | y::ys,x::xs,h=>by
  simp only [leL] at h
  obtain ⟨h1,h2⟩:=leL_get h.2
  refine ⟨by simp [h1],fun i a b ha hb=>?_⟩
  cases i with
  | zero=>simp at ha hb; subst ha; subst hb; exact h.1
  | succ i=>exact h2 i a b (by simpa using ha) (by simpa using hb)
theorem leS_sound {hp hp':Hp} {σ:List (Nm×Nm)} {frz:List Nm}:∀ {s' s:SV},leS hp hp' σ frz s s'→LeS P (getH hp) (getH hp') (getN σ) (InK frz) s s':=by
 have lst:∀ (n:Nat) {s' s:SV},SizeOf.sizeOf s' < n→leS hp hp' σ frz s s'→LeS P (getH hp) (getH hp') (getN σ) (InK frz) s s':=by
  intro n
  induction n with
  | zero=>intro s' s h; omega
  | succ n ih =>
   intro s' s hsz h
   have sub:∀ {ys xs:List SV},SizeOf.sizeOf ys < n→leL hp hp' σ frz xs ys→xs.length = ys.length∧∀ (i:Nat) (x y:SV),xs[i]? = some x→ys[i]? = some y→LeS P (getH hp) (getH hp') (getN σ) (InK frz) x y:=by
    intro ys xs hys hl
    obtain ⟨h1,h2⟩:=leL_get hl
    refine ⟨h1,fun i x y hx hy=>ih ?_ (h2 i x y hx hy)⟩
    have:=List.sizeOf_lt_of_mem (List.mem_of_getElem? hy)
    omega
   unfold leS at h
   cases s' with
   | any=>exact .any
   | v y=>simp only at h; subst h; exact .cl rfl
   | gd g y=>simp only at h; obtain ⟨rfl,h2⟩:=h; exact .cl h2
   | own k' o' n' =>
    cases s <;> simp only at h <;> try exact h.elim
    ·obtain ⟨rfl,rfl,rfl,h,hs⟩:=h; exact .absent h hs
    ·obtain ⟨h1,rfl,rfl,h2⟩:=h; exact .own h1 h2
   | ptr k' o' =>
    cases s <;> simp only at h <;> try exact h.elim
    obtain ⟨h1,rfl,h2⟩:=h; exact .ptr h1 h2
   | mp k' =>
    cases s <;> simp only at h <;> try exact h.elim
    exact .mp h.1 h.2
   | it k' =>
    cases s <;> simp only at h <;> try exact h.elim
    exact .it h.1 h.2
   | agg ys =>
    cases s <;> simp only at h <;> try exact h.elim
    rename_i xs
    rcases h with ⟨hst,h⟩ | h
    ·subst h; exact .cl (stL_clL (xs:=xs) hst)
    ·obtain ⟨h1,h2⟩:=sub (by simp at hsz; omega) h
     exact .agg h1 h2
   | tup ys =>
    cases s <;> simp only at h <;> try exact h.elim
    obtain ⟨h1,h2⟩:=sub (by simp at hsz; omega) h
    exact .tup h1 h2
   | clo f ys =>
    cases s <;> simp only at h <;> try exact h.elim
    obtain ⟨rfl,h⟩:=h
    obtain ⟨h1,h2⟩:=sub (by simp at hsz; omega) h
    exact .clo h1 h2
   | asl k o n=>simp only at h
   | bp k' e' n' =>
    cases s <;> simp only at h <;> try exact h.elim
    obtain ⟨h1,rfl,rfl,h2⟩:=h; exact .bp h1 h2
   | mth t y =>
    cases s <;> simp only at h <;> try exact h.elim
    obtain ⟨rfl,h⟩:=h
    exact .mth (ih (by simp at hsz; omega) h)
   | ifc t y =>
    cases s <;> simp only at h <;> try exact h.elim
    obtain ⟨rfl,h⟩:=h
    exact .ifc (ih (by simp at hsz; omega) h)
   | er tp te g e =>
    cases s <;> simp only at h <;> try exact h.elim
    ·obtain ⟨rfl,rfl⟩:=h; exact .erN
    ·obtain ⟨rfl,k,v,d,rfl,rfl,h1,h2⟩:=h; exact .erP h2 h1
    ·obtain ⟨rfl,rfl,rfl,rfl⟩:=h; exact .cl rfl
   | sl n' cs' =>
    cases s <;> simp only at h <;> try exact h.elim
    ·obtain ⟨rfl,rfl,rfl⟩:=h; exact .nilsl
    ·obtain ⟨rfl,rfl,h⟩:=h; exact .cl h
    ·obtain ⟨rfl,h1,e,cs,q,h2,h4,h3⟩:=h
     rcases h3 with ⟨h3,rfl⟩ | ⟨cs2,h5,h3,rfl⟩
     ·exact .frz h2 h1 (Nat.le_refl _) (fun i x y hx hy=>by rw [hx] at hy; cases hy; exact .cl (clL_get h3 i x hx)) q h4
     ·exact .frz h2 h1 h5 (h3 P) q h4
   | iptr cs' o' =>
    cases s <;> simp only at h <;> try exact h.elim
    ·obtain ⟨rfl,h1,e,cs,h2,h3,h4⟩:=h; exact .fptr h2 h1 h3 (h4 P)
    ·obtain ⟨rfl,rfl,h⟩:=h; exact .cl h
 exact fun {s' s} h=>lst (SizeOf.sizeOf s'+1) (by omega) h
def leF (hp hp':Hp) (σ:List (Nm×Nm)) (frz:List Nm) (fr:Fr):Fr→Prop
 | []=>True
 | p::r=>leS hp hp' σ frz (getF fr p.1) p.2∧leF hp hp' σ frz fr r
theorem leF_sound {hp hp':Hp} {σ:List (Nm×Nm)} {frz:List Nm} {fr:Fr}:∀ {fr':Fr},leF hp hp' σ frz fr fr'→∀ d,LeS P (getH hp) (getH hp') (getN σ) (InK frz) (getF fr d) (getF fr' d)
 | [],_,d=>.any
 | p::r,h,d=>by
  simp only [getF]
  by_cases hd:p.1 = d
  ·subst hd; simp only [beq_self_eq_true,cond_true]; exact leS_sound h.1
  ·rw [show (p.1 == d) = false from by simpa using hd,cond_false]; exact leF_sound h.2 d
def leM (hp hp':Hp) (σ:List (Nm×Nm)) (frz:List Nm):List (Value×SV)→List (Value×SV)→Prop
 | [],[]=>True
 | a::r,b::s=>a.1 = b.1∧leS hp hp' σ frz a.2 b.2∧leM hp hp' σ frz r s
 | _,_=>False
theorem leM_get {hp hp':Hp} {σ:List (Nm×Nm)} {frz:List Nm}:∀ {ys xs:List (Value×SV)},leM hp hp' σ frz xs ys→xs.length = ys.length∧∀ (i:Nat) (x y:Value×SV),xs[i]? = some x→ys[i]? = some y→x.1 = y.1∧leS hp hp' σ frz x.2 y.2
 | [],[],h=>⟨rfl,fun i x y hx=>by simp at hx⟩
 | [],_::_,h=>h.elim
 | y::ys,[],h=>h.elim
 | y::ys,x::xs,h=>by
  obtain ⟨h1,h2⟩:=leM_get h.2.2
  refine ⟨by simp [h1],fun i a b ha hb=>?_⟩
  cases i with
  | zero=>simp at ha hb; subst ha; subst hb; exact ⟨h.1,h.2.1⟩
  | succ i=>exact h2 i a b (by simpa using ha) (by simpa using hb)
def stM:List (Value×SV)→Bool
 | []=>true
 | p::r=>p.2.st && stM r
theorem stM_get:∀ {es:List (Value×SV)},stM es = true→∀ (i:Nat) (x:Value×SV),es[i]? = some x→x.2.st = true
 | [],_,i,x,h=>by simp at h
 | y::ys,hc,i,x,h=>by
  simp only [stM,Bool.and_eq_true] at hc
  cases i with
  | zero=>simp at h; subst h; exact hc.1
  | succ i=>exact stM_get hc.2 i x (by simpa using h)
def leC1 (hp hp':Hp) (σ:List (Nm×Nm)) (frz:List Nm) (k':Nm):Chunk→Prop
 | .unborn=>True
 | .dead=>True
 | .void=>match getN σ k' with
  | none=>True
  | some k=>getH hp k = .void
 | .row e cs'=>match getN σ k' with
  | none=>cs' = []
  | some k=>match getH hp k with
   | .row e2 cs=>e2 = e∧((stL cs' = true∧cs = cs')∨leL hp hp' σ frz cs cs'∨(stL cs' = true∧cs' <+: cs))
   | _=>False
 | .map es'=>match getN σ k' with
  | none=>False
  | some k=>match getH hp k with
   | .map es=>bif stM es' then es = es' else leM hp hp' σ frz es es'
   | _=>False
 | .obj s pos=>match getN σ k' with
  | none=>False
  | some k=>getH hp k = .obj s pos
 | .fam _=>True
def leC (hp hp':Hp) (σ:List (Nm×Nm)) (frz:List Nm) (k':Nm) (c:Chunk):Prop:=match k' with
 | .t k=>leC1 hp hp' σ frz (.t k) c
 | .s F _=>∀ i:Int,leC1 hp hp' σ frz (.s F i) (c.at i)
def leH (hp hp':Hp) (σ:List (Nm×Nm)) (frz:List Nm):Hp→Prop
 | []=>True
 | p::r=>leC hp hp' σ frz p.1 p.2∧leH hp hp' σ frz r
theorem leC1_sound {hp hp':Hp} {σ:List (Nm×Nm)} {frz:List Nm} {k':Nm} {c:Chunk} (h:leC1 hp hp' σ frz k' c):ChLe P (getH hp) (getH hp') (getN σ) (InK frz) k' c:=by
 cases c with
 | unborn=>trivial
 | dead=>trivial
 | void =>
  simp only [leC1] at h
  intro k hk
  rw [hk] at h
  exact h
 | row e cs' =>
  simp only [leC1] at h
  simp only [ChLe]
  cases hn:getN σ k' with
  | none=>rw [hn] at h; exact .inl ⟨rfl,h⟩
  | some k =>
   rw [hn] at h
   simp only at h
   cases hk:getH hp k with
   | row e2 cs =>
    rw [hk] at h
    simp only at h
    obtain ⟨rfl,h⟩:=h
    rcases h with ⟨hst,h⟩ | h | ⟨hst,t,h⟩
    ·subst h
     exact .inr ⟨k,cs,rfl,hk,Nat.le_refl _,fun i x y hx hy=>by rw [hx] at hy; cases hy; exact .cl (clL_get (stL_clL hst) i x hx)⟩
    ·obtain ⟨h1,h2⟩:=leL_get h
     exact .inr ⟨k,cs,rfl,hk,Nat.le_of_eq h1.symm,fun i x y hx hy=>leS_sound (h2 i x y hx hy)⟩
    ·subst h
     refine .inr ⟨k,cs'++t,rfl,hk,by simp,fun i x y hx hy=>?_⟩
     rw [List.getElem?_append_left (List.getElem?_eq_some_iff.1 hy).1,hy] at hx
     cases hx
     exact .cl (clL_get (stL_clL hst) i x hy)
   | _=>rw [hk] at h; exact h.elim
 | map es' =>
  simp only [leC1] at h
  simp only [ChLe]
  cases hn:getN σ k' with
  | none=>rw [hn] at h; exact h.elim
  | some k =>
   rw [hn] at h
   simp only at h
   cases hk:getH hp k with
   | map es =>
    rw [hk] at h
    simp only at h
    cases hst:stM es' with
    | true =>
     rw [hst] at h; simp only [cond_true] at h; subst h
     exact ⟨k,es,rfl,hk,rfl,fun i x y hx hy=>by rw [hx] at hy; cases hy; exact ⟨rfl,.cl (st_cl (stM_get hst i x hx))⟩⟩
    | false =>
     rw [hst] at h; simp only [cond_false] at h
     obtain ⟨h1,h2⟩:=leM_get h
     exact ⟨k,es,rfl,hk,h1,fun i x y hx hy=>⟨(h2 i x y hx hy).1,leS_sound (h2 i x y hx hy).2⟩⟩
   | _=>rw [hk] at h; exact h.elim
 | obj s pos =>
  simp only [leC1] at h
  simp only [ChLe]
  cases hn:getN σ k' with
  | none=>rw [hn] at h; exact h.elim
  | some k=>rw [hn] at h; exact ⟨k,rfl,h⟩
 | fam g=>trivial
theorem leC_sound {hp hp':Hp} {σ:List (Nm×Nm)} {frz:List Nm} {d k':Nm} {c:Chunk} (h:leC hp hp' σ frz d c) (hd:d.key = k'.key):ChLe P (getH hp) (getH hp') (getN σ) (InK frz) k' (c.mem k'):=by
 cases k' with
 | t a =>
  rw [Nm.key_t,Nm.key_eq_t] at hd
  subst hd
  exact leC1_sound h
 | s F i =>
  cases d with
  | t a=>simp [Nm.key] at hd
  | s G z =>
   simp only [Nm.key_s,Nm.s.injEq,and_true] at hd
   subst hd
   exact leC1_sound (h i)
def nodupN:List (Nm×Nm)→Bool
 | []=>true
 | p::r=>r.all (fun q=>!(q.2.eqk p.2)) && nodupN r
theorem getN_mem {σ:List (Nm×Nm)} {k j:Nm} (h:getN σ k = some j):∃ p ∈ σ,p.1.key = k.key∧j = p.2.to k:=by
 induction σ with
 | nil=>cases h
 | cons p r ih =>
  simp only [getN] at h
  by_cases hp:p.1.key = k.key
  ·rw [Nm.eqk_iff.2 hp] at h; cases h; exact ⟨p,by simp,hp,rfl⟩
  ·rw [Nm.eqk_no hp] at h
   obtain ⟨q,hq,h1⟩:=ih h
   exact ⟨q,by simp [hq],h1⟩
def okS (p:Nm×Nm):Bool:=match p.1,p.2 with
 | .s _ _,.t _=>false
 | _,_=>true
theorem to_key {p:Nm×Nm} (h:okS p = true) {k:Nm} (hk:p.1.key = k.key):(p.2.to k).key = p.2.key:=by
 obtain ⟨a,b⟩:=p
 cases k with
 | t c=>rfl
 | s F i =>
  cases a with
  | t c=>simp [Nm.key] at hk
  | s G z=>cases b with
   | t c=>cases h
   | s H y=>rfl
theorem nodupN_key:∀ {σ:List (Nm×Nm)},nodupN σ = true→∀ p ∈ σ,∀ q ∈ σ,p.2.key = q.2.key→p = q
 | [],_,p,hp,_,_,_=>by cases hp
 | a::r,hn,p,hp,q,hq,h=>by
  simp only [nodupN,Bool.and_eq_true,List.all_eq_true] at hn
  rcases List.mem_cons.1 hp with e1 | hp2 <;> rcases List.mem_cons.1 hq with e2 | hq2
  ·rw [e1,e2]
  ·rw [e1] at h; have:=hn.1 q hq2; rw [Nm.eqk_iff.2 h.symm] at this; cases this
  ·rw [e2] at h; have:=hn.1 p hp2; rw [Nm.eqk_iff.2 h] at this; cases this
  ·exact nodupN_key hn.2 p hp2 q hq2 h
theorem nodupN_inj {σ:List (Nm×Nm)} (hn:nodupN σ = true) (hs:σ.all okS = true):∀ k1 k2 j,getN σ k1 = some j→getN σ k2 = some j→k1 = k2:=fun k1 k2 j h1 h2=>by
 obtain ⟨p,hp,hpk,rfl⟩:=getN_mem h1
 obtain ⟨q,hq,hqk,hj⟩:=getN_mem h2
 have sp:=List.all_eq_true.1 hs p hp
 have sq:=List.all_eq_true.1 hs q hq
 have hkey:p.2.key = q.2.key:=by rw [← to_key sp hpk,hj,to_key sq hqk]
 have:=nodupN_key hn p hp q hq hkey
 subst this
 have hk:k1.key = k2.key:=hpk.symm.trans hqk
 cases k1 with
 | t a=>cases k2 with
  | t b=>simpa [Nm.key] using hk
  | s F i=>simp [Nm.key] at hk
 | s F i=>cases k2 with
  | t b=>simp [Nm.key] at hk
  | s G z =>
   simp only [Nm.key_s,Nm.s.injEq,and_true] at hk
   subst hk
   simp only [Nm.to,Nm.s.injEq,true_and] at hj
   rw [hj]
def liveK (hp':Hp) (k:Nm):Bool:=match k with
 | .t k=>(getH hp' (.t k)).live
 | .s _ _=>true
def okN (m:Nat) (σ:List (Nm×Nm)) (frz:List Nm):Bool:=(nodupN σ && σ.all okS) && σ.all (fun p=>!frz.any (fun k=>k.eqk p.2) && (Nat.ble m p.1.base || p.1 == p.2))
def liveE:Chunk→Bool
 | .fam _=>true
 | .void=>true
 | c=>c.live
def okH (m nx':Nat) (σ:List (Nm×Nm)):Hp→Bool
 | []=>true
 | p::r=>Nat.blt p.1.base nx' && (Nat.ble m p.1.base || !liveE p.2 || (getN σ p.1).isSome) && okH m nx' σ r
theorem sub_mk {hp hp':Hp} {σ:List (Nm×Nm)} {frz:List Nm} {m:Nat} (h2:leH hp hp' σ frz hp') (h3:okN m σ frz = true):Sub P (getH hp) (getH hp') (getN σ) (InK frz):=by
 simp only [okN,Bool.and_eq_true] at h3
 refine ⟨fun k'=>?_,fun k1 k2 k _ _=>nodupN_inj h3.1.1 h3.1.2 k1 k2 k,fun k hk k' _ hs=>?_⟩
 ·have gen:∀ (l:Hp),leH hp hp' σ frz l→ChLe P (getH hp) (getH hp') (getN σ) (InK frz) k' (getH l k'):=by
   intro l
   induction l with
   | nil=>exact fun _=>trivial
   | cons p r ih =>
    intro hl
    simp only [getH]
    by_cases hp:p.1.key = k'.key
    ·rw [Nm.eqk_iff.2 hp,cond_true]; exact leC_sound hl.1 hp
    ·rw [Nm.eqk_no hp,cond_false]; exact ih hl.2
  exact gen hp' h2
 ·obtain ⟨p,hp,hpk,rfl⟩:=getN_mem hs
  have h4:=List.all_eq_true.1 h3.2 p hp
  simp only [Bool.and_eq_true,Bool.not_eq_true',List.any_eq_false] at h4
  obtain ⟨j,hj,hjk⟩:=hk
  have h5:=h4.1 j hj
  rw [Nm.eqk_iff.2 (hjk.trans (to_key (List.all_eq_true.1 h3.1.2 p hp) hpk))] at h5
  exact h5 rfl
theorem okH_fresh {m nx':Nat} {σ:List (Nm×Nm)}:∀ {l:Hp},okH m nx' σ l = true→∀ k:Nm,nx'≤k.base→getH l k = .unborn
 | [],_,k,_=>rfl
 | p::r,h,k,hk=>by
  simp only [okH,Bool.and_eq_true] at h
  have hlt:p.1.base < nx':=by simpa [Nat.blt_eq] using h.1.1
  simp only [getH]
  rw [Nm.eqk_no (fun e=>by have:=congrArg Nm.base e; simp at this; omega),cond_false]
  exact okH_fresh h.2 k hk
theorem okH_kept {m nx':Nat} {σ:List (Nm×Nm)} (hσ:∀ p ∈ σ,Nat.ble m p.1.base = true∨p.1 = p.2):∀ {l:Hp},okH m nx' σ l = true→∀ k:Nm,k.base < m→((getH l k).live = true∨getH l k = .void)→getN σ k = some k
 | [],_,k,_,hl=>by rcases hl with hl | hl <;> cases hl
 | p::r,h,k,hk,hl=>by
  simp only [okH,Bool.and_eq_true] at h
  simp only [getH] at hl
  by_cases hp:p.1.key = k.key
  ·rw [Nm.eqk_iff.2 hp,cond_true] at hl
   have h2:=h.1.2
   have hlE:liveE p.2 = true:=by
    cases k with
    | t a =>
     simp only [Chunk.mem] at hl
     rcases hl with hl | hl <;> cases hp2:p.2 <;> rw [hp2] at hl <;> first | rfl | cases hl
    | s F i =>
     simp only [Chunk.mem,Chunk.at] at hl
     rcases hl with hl | hl <;> cases hp2:p.2 <;> rw [hp2] at hl <;> first | rfl | cases hl
   have hb:p.1.base = k.base:=by rw [← Nm.key_base,hp,Nm.key_base]
   rw [hlE] at h2
   have hble:Nat.ble m p.1.base = false:=by cases hb2:Nat.ble m p.1.base with
    | false=>rfl
    | true=>have:=Nat.le_of_ble_eq_true hb2; omega
   rw [hble] at h2
   simp only [Bool.not_true,Bool.or_false,Bool.false_or,Option.isSome_iff_exists] at h2
   obtain ⟨j,hj⟩:=h2
   have hjk:∃ j2,getN σ k = some j2:=by
    cases k with
    | t a=>rw [Nm.key_t,Nm.key_eq_t] at hp; rw [hp] at hj; exact ⟨j,hj⟩
    | s F i =>
     cases hp1:p.1 with
     | t a=>rw [hp1] at hp; simp [Nm.key] at hp
     | s G z =>
      rw [hp1] at hp hj
      simp only [Nm.key_s,Nm.s.injEq,and_true] at hp
      subst hp
      rw [getN_sig σ G z] at hj
      rw [getN_sig σ G i]
      cases hs:getN σ (.s G 0) with
      | none=>rw [hs] at hj; cases hj
      | some y=>exact ⟨_,rfl⟩
   obtain ⟨j2,hj2⟩:=hjk
   obtain ⟨q,hq,hqk,he⟩:=getN_mem hj2
   have hqb:q.1.base = k.base:=by rw [← Nm.key_base,hqk,Nm.key_base]
   rcases hσ q hq with h3 | h3
   ·have:=Nat.le_of_ble_eq_true h3; omega
   ·rw [hj2,he,← h3]
    cases k with
    | t a=>rw [Nm.key_t,Nm.key_eq_t] at hqk; simp only [Nm.to,hqk]
    | s F i=>simp only [Nm.to,hqb,Nm.base_s]
  ·rw [Nm.eqk_no hp,cond_false] at hl
   exact okH_kept hσ h.2 k hk hl
theorem leSt_mk {m:Nat} {fr fr':Fr} {hp hp':Hp} {nx':Nat} (σ:List (Nm×Nm)) (frz:List Nm) (h1:leF hp hp' σ frz fr fr') (h2:leH hp hp' σ frz hp') (h3:okN m σ frz = true) (h4:okH m nx' σ hp' = true) (h5:m≤nx'):LeSt P m fr hp fr' hp' nx' :=
 ⟨⟨getN σ,frz,sub_mk h2 h3,fun k hk hl=>okH_kept (fun p hp=>by
  simp only [okN,Bool.and_eq_true,List.all_eq_true] at h3
  have:=(h3.2 p hp).2
  simpa using this) h4 k hk hl,leF_sound h1⟩,okH_fresh h4,h5⟩
theorem ret_mk {m:Nat} {x:SV} {hp:Hp} {Post:SV→Hp→Nat→Prop} (x':SV) (hp':Hp) (nx':Nat) (σ:List (Nm×Nm)) (frz:List Nm) (hpost:Post x' hp' nx') (h1:leS hp hp' σ frz x x') (h2:leH hp hp' σ frz hp') (h3:okN m σ frz = true) (h4:okH m nx' σ hp' = true) (h5:m≤nx'):RetW P m Post x hp :=
 ⟨x',hp',nx',hpost,leSt_mk σ frz ⟨h1,trivial⟩ h2 h3 h4 h5⟩
theorem loop_mk {m N:Nat} {c:Code} {Q:SPost} {fr:Fr} {hp:Hp} {nx:Nat} {S:Type} (fr0:S→Fr) (hp0:S→Hp) (nx0:S→Nat) (I:S→Prop) (μ:S→Nat) (s0:S) (hI:I s0) (h0:LeSt P m fr hp (fr0 s0) (hp0 s0) (nx0 s0))
  (h:∀ (s:S) (R:SPost),I s→(∀ fr' hp' nx' s',I s'→μ s' < μ s→LeSt P m fr' hp' (fr0 s') (hp0 s') (nx0 s')→R .normal fr' hp' nx')→(∀ id,R (.exit id) = Q (.exit id))→R .ret = Q .ret→Swp P m N c R (fr0 s) (hp0 s) (nx0 s)):Swp P m N (.loop c) Q fr hp nx:=by
 refine ⟨0,S,fr0,hp0,nx0,I,μ,⟨s0,hI,h0⟩,fun s hs=>?_⟩
 exact h s _ hs (fun fr' hp' nx' s' h1 h2 h3=>⟨s',h1,h2,h3⟩) (fun _=>rfl) rfl
mutual
theorem ren_cl {τ:Nm→Nm}:∀ {s:SV},s.cl = true→renS τ s = s
 | .any,_=>rfl
 | .v _,_=>rfl
 | .agg xs,h=>by rw [renS,renL_cl (xs:=xs) h]
 | .tup xs,h=>by rw [renS,renL_cl (xs:=xs) h]
 | .sl _ xs,h=>by rw [renS,renL_cl (xs:=xs) h]
 | .iptr xs _,h=>by rw [renS,renL_cl (xs:=xs) h]
 | .clo _ xs,h=>by rw [renS,renL_cl (xs:=xs) h]
 | .ifc _ x,h=>by rw [renS,ren_cl (s:=x) h]
 | .er _ _ _ _,_=>rfl
 | .mth _ x,h=>by rw [renS,ren_cl (s:=x) h]
 | .gd _ x,h=>by rw [renS,ren_cl (s:=x) h]
theorem renL_cl {τ:Nm→Nm}:∀ {xs:List SV},clL xs = true→renL τ xs = xs
 | [],_=>rfl
 | x::xs,h=>by
  simp only [clL,Bool.and_eq_true] at h
  rw [renL,ren_cl h.1,renL_cl h.2]
end
def okC (m:Nat) (hin:Hp) (σ:List (Nm×Nm)):Bool:=σ.all fun p=>Nat.blt p.1.base m && liveK hin p.1
def famOk (hp hin:Hp):List (Nm×Nm)→Prop
 | []=>True
 | p::r=>(match p.1 with
  | .t _=>True
  | .s F _=>∀ i:Int,(getH hin (.s F i)).live = true∨(getH hin (.s F i) = .dead∧getH hp (.s p.2.base i) = .dead)∨(getH hin (.s F i) = .void∧getH hp (.s p.2.base i) = .void))∧famOk hp hin r
theorem famOk_mem {hp hin:Hp}:∀ {σ:List (Nm×Nm)},famOk hp hin σ→∀ p ∈ σ,∀ F z,p.1 = .s F z→∀ i:Int,(getH hin (.s F i)).live = true∨(getH hin (.s F i) = .dead∧getH hp (.s p.2.base i) = .dead)∨(getH hin (.s F i) = .void∧getH hp (.s p.2.base i) = .void)
 | [],_,p,hp,_,_,_=>by cases hp
 | q::r,h,p,hp,F,z,e=>by
  rcases List.mem_cons.1 hp with rfl | hp
  ·have:=h.1; rw [e] at this; exact this
  ·exact famOk_mem h.2 p hp F z e
theorem handed_ok {m:Nat} {hp hin:Hp} {σ:List (Nm×Nm)} (h5:okC m hin σ = true) (h6:famOk hp hin σ):∀ k j,getN σ k = some j→k.base < m∧((getH hin k).live = true∨(getH hin k = .dead∧getH hp j = .dead)∨(getH hin k = .void∧getH hp j = .void)):=fun k j hk=>by
 obtain ⟨p,hp,hpk,rfl⟩:=getN_mem hk
 simp only [okC,List.all_eq_true,Bool.and_eq_true] at h5
 obtain ⟨h7,h8⟩:=h5 p hp
 have hb:p.1.base = k.base:=by rw [← Nm.key_base,hpk,Nm.key_base]
 refine ⟨by rw [← hb]; simpa [Nat.blt_eq] using h7,?_⟩
 cases k with
 | t a=>rw [Nm.key_t,Nm.key_eq_t] at hpk; rw [hpk] at h8; exact .inl h8
 | s F i =>
  cases hp1:p.1 with
  | t a=>rw [hp1] at hpk; simp [Nm.key] at hpk
  | s G z =>
   rw [hp1] at hpk
   simp only [Nm.key_s,Nm.s.injEq,and_true] at hpk
   subst hpk
   exact famOk_mem h6 p hp G z hp1 i
theorem sig_none:SigOk fun _=>none:=fun _ _=>rfl
theorem call_0 {f:FuncId} {args:List SV} {dst:Option Tmp} {ops:Array Oper} {rest:List Oper} {fr:Fr} {hp:Hp} {nx:Nat} {K:Fr→Hp→Nat→Prop} {x:SV} (spec:SpecW P f args [] 0 (fun r h n=>r = x∧h = []∧n = 0)) (ha:clL args = true) (hx:x.cl = true)
  (h:runOps P ops rest (putF dst x fr) hp nx K):CallAt P f args dst ops rest fr hp nx K:=by
 refine ⟨args,[],0,_,fun _=>none,[],spec,sub_nil,sig_none,fun k _=>⟨rfl,rfl⟩,(fun _ _ _ h=>by cases h),(fun _ _ h=>by cases h),rfl,fun i y z hy hz=>?_,⟨x,[],0,rfl,rfl,rfl⟩,(fun h=>by cases h),?_⟩
 ·rw [hy] at hz; cases hz; exact .cl (clL_get ha i y hy)
 ·rintro res hp' nx' ⟨rfl,rfl,rfl⟩
  refine ⟨rfl,.inl rfl,_,Trim.refl _ _ _,?_⟩
  rw [ren_cl hx]
  exact h
end Go.Sx
namespace Go.Sx
abbrev iS (n:Int):SV:=.v (.int .i64 n)
abbrev bS (b:Bool):SV:=.v (.bool b)
end Go.Sx
namespace Go.Sx
end Go.Sx
namespace Go.Sx
theorem callE_0 {P:Program} {f:FuncId} {args:List SV} {dst:Option Tmp} {ops:Array Oper} {rest:List Oper} {fr:Fr} {hp:Hp} {nx:Nat} {acc:List Nms} {K:Fr→Hp→Nat→Prop} {x:SV} (spec:SpecW P f args [] 0 (fun r h n=>r = x∧h = []∧n = 0)) (ha:clL args = true) (hx:x.cl = true)
  (h:runE P ops rest (putF dst x fr) hp (nx+1) (acc++[⟨[],[],nx,nx⟩]) K):CallE P f args dst ops rest fr hp nx acc K:=by
 refine ⟨args,[],0,_,fun _=>none,[],spec,sub_nil,sig_none,fun k _=>⟨rfl,rfl⟩,(fun _ _ _ h=>by cases h),(fun _ _ h=>by cases h),rfl,fun i y z hy hz=>?_,⟨x,[],0,rfl,rfl,rfl⟩,(fun _=>?_),?_⟩
 ·rw [hy] at hz; cases hz; exact .cl (clL_get ha i y hy)
 ·rintro r1 h1 n1 r2 h2 n2 ⟨rfl,rfl,rfl⟩ ⟨rfl,rfl,rfl⟩; exact ⟨rfl,rfl,rfl⟩
 ·rintro res hp' nx' ⟨rfl,rfl,rfl⟩
  refine ⟨rfl,.inl rfl,_,Trim.refl _ _ _,?_⟩
  rw [ren_cl hx]
  exact h
end Go.Sx
end

section
namespace Go.Sx
open Go.RowKit
inductive Ty where
 | int (k:IntKind)
 | bool
 | str
 | sl (e:Ty)
 | unit
 | pair (a b:Ty)
 | arr (n:Nat) (e:Ty)
abbrev Ty.den:Ty→Type
 | .int _=>Int
 | .bool=>Bool
 | .str=>ByteArray
 | .sl e=>List e.den
 | .unit=>Unit
 | .pair a b=>a.den×b.den
 | .arr _ e=>List e.den
def Ty.width:Ty→Nat
 | .unit=>0
 | .pair a b=>a.width+b.width
 | .arr n e=>n * e.width
 | _=>1
def Ty.sv:(T:Ty)→T.den→List SV
 | .int k,x=>[.v (.int k x)]
 | .bool,x=>[.v (.bool x)]
 | .str,x=>[.v (.string x)]
 | .sl e,xs=>[.sl xs.length (xs.flatMap e.sv)]
 | .unit,_=>[]
 | .pair a b,x=>a.sv x.1++b.sv x.2
 | .arr _ e,xs=>xs.flatMap e.sv
def Ty.ok:(T:Ty)→T.den→Prop
 | .int k,x=>(Lit.int k x).wf = true
 | .bool,_=>True
 | .str,x=>x.size≤maxLen
 | .sl e,xs=>xs.length≤maxLen∧∀ x ∈ xs,e.ok x
 | .unit,_=>True
 | .pair a b,x=>a.ok x.1∧b.ok x.2
 | .arr n e,xs=>xs.length = n∧∀ x ∈ xs,e.ok x
def Ty.arg:(T:Ty)→T.den→SV
 | .int k,x=>.v (.int k x)
 | .bool,x=>.v (.bool x)
 | .str,x=>.v (.string x)
 | .sl e,xs=>.sl xs.length (xs.flatMap e.sv)
 | .unit,_=>.agg []
 | .pair a b,x=>.agg (a.sv x.1++b.sv x.2)
 | .arr _ e,xs=>.agg (xs.flatMap e.sv)
theorem Ty.sv_length:∀ (T:Ty) (x:T.den),T.ok x→(T.sv x).length = T.width
 | .int _,_,_=>rfl
 | .bool,_,_=>rfl
 | .str,_,_=>rfl
 | .sl _,_,_=>rfl
 | .unit,_,_=>rfl
 | .pair a b,x,h=>by simp only [Ty.sv,List.length_append,Ty.width,Ty.sv_length a x.1 h.1,Ty.sv_length b x.2 h.2]
 | .arr n e,xs,h=>by
  obtain ⟨hn,h⟩:=h
  have:∀ xs:List e.den,(∀ x ∈ xs,e.ok x)→(xs.flatMap e.sv).length = xs.length * e.width:=by
   intro xs
   induction xs with
   | nil=>exact fun _=>by simp
   | cons x xs ih=>exact fun hx=>by rw [List.flatMap_cons,List.length_append,ih fun y hy=>hx y (by simp [hy]),Ty.sv_length e x (hx x (by simp)),List.length_cons]; rw [Nat.add_mul]; omega
  simp only [Ty.sv,Ty.width]; rw [this xs h,hn]
mutual
def tyB (P:Program):Nat→TypeId→Ty→Bool
 | 0,_,_=>false
 | F+1,t,T=>match P.underlying t,T with
  | some (.int k),.int k'=>k == k'
  | some .bool,.bool=>true
  | some .string,.str=>true
  | some (.slice e),.sl E=>P.cellsOf e == E.width && !(E.width == 0) && tyB P F e E
  | some (.struct fs),.pair a b=>P.cellsOf t == (Ty.pair a b).width && fieldsB P F fs.toList 0 (.pair a b)
  | some (.struct fs),.unit=>P.cellsOf t == 0 && fs.toList.isEmpty
  | some (.array n e),.arr n' E=>n == n' && P.cellsOf e == E.width && P.cellsOf t == n * E.width && tyB P F e E
  | _,_=>false
def fieldsB (P:Program):Nat→List Field→Nat→Ty→Bool
 | 0,_,_,_=>false
 | F+1,fs,off,T=>match fs,T with
  | [],.unit=>true
  | f::r,.pair a b=>f.offset == off && P.cellsOf f.type == a.width && tyB P F f.type a && fieldsB P F r (off+a.width) b
  | _,_=>false
end
theorem flatMap_get {α:Type} {f:α→List SV} {z:Nat} (hz:0 < z):∀ (xs:List α),(∀ x ∈ xs,(f x).length = z)→∀ i s,(xs.flatMap f)[i]? = some s→∃ x,xs[i / z]? = some x∧(f x)[i % z]? = some s
 | [],_,i,s,h=>by simp at h
 | a::xs,hl,i,s,h=>by
  rw [List.flatMap_cons,List.getElem?_append] at h
  have ha:=hl a (by simp)
  rw [ha] at h
  by_cases hi:i < z
  ·rw [if_pos hi] at h
   rw [Nat.div_eq_of_lt hi,Nat.mod_eq_of_lt hi]
   exact ⟨a,rfl,h⟩
  ·rw [if_neg hi] at h
   obtain ⟨x,h1,h2⟩:=flatMap_get hz xs (fun x hx=>hl x (by simp [hx])) (i - z) s h
   refine ⟨x,?_,?_⟩
   ·rw [show i / z = (i - z) / z+1 from by rw [Nat.div_eq_sub_div hz (by omega)],List.getElem?_cons_succ]; exact h1
   ·rw [Nat.mod_eq_sub_mod (by omega)]; exact h2
def Dens (P:Program) (C:Nm→Chunk) (ids:Ids) (I:Nat→Prop) (w:World) (cs:List Value) (off:Nat) (l:List SV):Prop :=
∀i s,l[i]? = some s→Den P C ids I w s (cs.getD (off+i) undef)
theorem list_pick {α β:Type} {Q:Nat→α→β→Prop}:∀ (ys:List α) (o:Nat),(∀ i y,ys[i]? = some y→∃ x,Q (o+i) y x)→∃ xs:List β,xs.length = ys.length∧∀ i x,xs[i]? = some x→∃ y,ys[i]? = some y∧Q (o+i) y x
 | [],_,_=>⟨[],rfl,fun i x h=>by simp at h⟩
 | a::ys,o,h=>by
  obtain ⟨x,hx⟩:=h 0 a rfl
  obtain ⟨xs,h1,h2⟩:=list_pick (Q:=Q) ys (o+1) fun i y hy=>by
   have:=h (i+1) y (by simpa using hy)
   rwa [show o+(i+1) = o+1+i from by omega] at this
  refine ⟨x::xs,by simp [h1],fun i z hz=>?_⟩
  cases i with
  | zero=>simp at hz; subst hz; exact ⟨a,rfl,hx⟩
  | succ i =>
   obtain ⟨y,g1,g2⟩:=h2 i z (by simpa using hz)
   exact ⟨y,by simpa using g1,by rw [show o+(i+1) = o+1+i from by omega]; exact g2⟩
section
variable {H:Type} {enc:TypeId×Value→H} {P:Program} {w:World} {sp:Nat→Bool} {held:Bool} {C:Nm→Chunk} {ids:Ids} {I:Nat→Prop}
def Ty.rep (H:Type):(T:Ty)→T.den→DataW H→Prop
 | .int k,x,d=>d = .lit (.int k x)
 | .bool,x,d=>d = .lit (.bool x)
 | .str,x,d=>d = .lit (.string x.data.toList)
 | .sl e,xs,d=>(xs = []∧d = .nil)∨∃ el spn,d = .slice el spn∧el.length = xs.length∧∀ (i:Nat) (x:e.den),(xs:List e.den)[i]? = some x→∃ y,el[i]? = some y∧e.rep H x y
 | .unit,_,_=>True
 | .pair a b,x,d=>∃ p r,d = .agg (p::r)∧a.rep H x.1 p∧b.rep H x.2 (.agg r)
 | .arr _ e,xs,d=>∃ el,d = .agg el∧el.length = xs.length∧∀ (i:Nat) (x:e.den),(xs:List e.den)[i]? = some x→∃ y,el[i]? = some y∧e.rep H x y
def ReadsT (H:Type) (enc:TypeId×Value→H) (P:Program) (w:World) (sp:Nat→Bool) (held:Bool) (C:Nm→Chunk) (ids:Ids) (I:Nat→Prop) (T:Ty):Prop :=
∀(F fuel:Nat) (t:TypeId) (cs:List Value) (d:DataW H) (ps:List MemPlace),tyB P F t T = true→DataW.trod enc P w 0 sp held fuel t cs = some (d,ps) →
 ∃x:T.den,T.ok x∧cs.length = T.width∧Dens P C ids I w cs 0 (T.sv x)∧T.rep H x d
def ReadsF (H:Type) (enc:TypeId×Value→H) (P:Program) (w:World) (sp:Nat→Bool) (held:Bool) (C:Nm→Chunk) (ids:Ids) (I:Nat→Prop) (T:Ty):Prop :=
∀(F fuel:Nat) (fs:List Field) (off:Nat) (cs:List Value) (xs:List (DataW H×List MemPlace)),fieldsB P F fs off T = true→xs.length = fs.length→(∀ (i:Nat) (f:Field),fs[i]? = some f→DataW.trod enc P w 0 sp held fuel f.type ((cs.drop f.offset).take (P.cellsOf f.type)) = xs[i]?) →
 ∃x:T.den,T.ok x∧Dens P C ids I w cs off (T.sv x)∧T.rep H x (.agg (xs.map (·.1)))
theorem dens_cat {cs:List Value} {off:Nat} {l r:List SV} {n:Nat} (h:Dens P C ids I w cs off l) (hn:l.length = n) (g:Dens P C ids I w cs (off+n) r):Dens P C ids I w cs off (l++r):=fun i s hi=>by
 rw [List.getElem?_append] at hi
 by_cases hl:i < l.length
 ·rw [if_pos hl] at hi; exact h i s hi
 ·rw [if_neg hl] at hi
  have:=g _ s hi
  rwa [show off+n+(i - l.length) = off+i from by omega] at this
theorem dens_one {v:Value} {s:SV} (h:Den P C ids I w s v):Dens P C ids I w [v] 0 [s]:=fun i x hi=>by
 cases i with
 | zero=>simp at hi; subst hi; exact h
 | succ i=>simp at hi
theorem trod_array {fuel:Nat} {t e:TypeId} {n:Nat} {cs:List Value} {x:DataW H×List MemPlace} (ht:P.underlying t = some (.array n e)) (h:DataW.trod enc P w 0 sp held fuel t cs = some x) :
 ∃(xs:List (DataW H×List MemPlace)) (m:Nat),x.1 = .agg (xs.map (·.1))∧cs.length = P.cellsOf t∧xs.length = n∧∀ i,i < n→DataW.trod enc P w 0 sp held m e ((cs.drop (i * P.cellsOf e)).take (P.cellsOf e)) = xs[i]?:=by
 cases fuel with
 | zero=>simp [DataW.trod] at h
 | succ m =>
  unfold DataW.trod at h
  rw [ht] at h
  split at h <;> simp_all
  obtain ⟨hl,xs,hp,hd⟩:=h
  refine ⟨xs,by rw [← hd],?_,m,fun i hi=>mapM_some_get hp i i (by simp [hi])⟩
  simpa using mapM_some_length hp
theorem reads_list {e:Ty} (ih:ReadsT H enc P w sp held C ids I e) {F m:Nat} {te:TypeId} (hB:tyB P F te e = true) {n:Nat} {row:Nat→List Value} {els:List (DataW H×List MemPlace)} (hl:els.length = n)
  (h:∀ i,i < n→DataW.trod enc P w 0 sp held m te (row i) = els[i]?):∃ xs:List e.den,xs.length = n∧(∀ x ∈ xs,e.ok x)∧(∀ (i:Nat) (x:e.den),xs[i]? = some x→(row i).length = e.width∧Dens P C ids I w (row i) 0 (e.sv x))∧∀ (i:Nat) (x:e.den),xs[i]? = some x→∃ y,(els.map (·.1))[i]? = some y∧e.rep H x y:=by
 obtain ⟨xs,h1,h2⟩:=list_pick (β:=e.den) (Q:=fun i (y:DataW H×List MemPlace) x=>e.ok x∧(row i).length = e.width∧Dens P C ids I w (row i) 0 (e.sv x)∧e.rep H x y.1) els 0 fun i y hy=>by
  have hi:i < n:=by rw [← hl]; exact (List.getElem?_eq_some_iff.1 hy).1
  rw [Nat.zero_add]
  exact ih F m te (row i) y.1 y.2 hB (by rw [h i hi,hy])
 refine ⟨xs,h1.trans hl,fun x hx=>?_,fun i x hx=>?_,fun i x hx=>?_⟩
 ·obtain ⟨i,hi,rfl⟩:=List.getElem_of_mem hx
  obtain ⟨y,_,g,_⟩:=h2 i _ (List.getElem?_eq_getElem hi)
  exact g
 ·obtain ⟨y,_,_,g⟩:=h2 i x hx
  rw [Nat.zero_add] at g
  exact ⟨g.1,g.2.1⟩
 ·obtain ⟨y,g1,_,_,_,g⟩:=h2 i x hx
  exact ⟨y.1,by rw [List.getElem?_map,g1]; rfl,g⟩
theorem addr_add {a:Addr} {n:Nat} {v:Value} (h:w.cell? (a.add n) = some v):a.spot = none∨0 < n:=by
 unfold Addr.add at h
 by_cases hn:n = 0
 ·rw [if_pos hn] at h
  unfold World.cell? at h
  split at h
  ·split at h
   ·cases h
   ·rename_i hs; left; cases hsp:a.spot with
    | none=>rfl
    | some _=>rw [hsp] at hs; simp at hs
  ·cases h
 ·exact .inr (by omega)
theorem reads (hI:∀ b,b < w.heap.size→I b):∀ (T:Ty),ReadsT H enc P w sp held C ids I T∧ReadsF H enc P w sp held C ids I T:=by
 intro T
 have noF:∀ {T:Ty},(∀ a b,T≠.pair a b)→T≠.unit→ReadsF H enc P w sp held C ids I T:=fun {T} h1 h2 F fuel fs off cs xs hB _ _=>by
  cases F with
  | zero=>simp [fieldsB] at hB
  | succ F =>
   unfold fieldsB at hB
   cases fs <;> cases T <;> simp at hB <;> first | exact absurd rfl h2 | exact absurd rfl (h1 _ _)
 have inv:∀ {F:Nat} {t:TypeId} {T:Ty},tyB P F t T = true→∃ F' d0,F = F'+1∧P.underlying t = some d0:=fun {F t T} hB=>by
  cases F with
  | zero=>simp [tyB] at hB
  | succ F =>
   unfold tyB at hB
   cases hu:P.underlying t with
   | none=>rw [hu] at hB; simp at hB
   | some d0=>exact ⟨F,d0,rfl,rfl⟩
 induction T with
 | int k =>
  refine ⟨fun F fuel t cs d ps hB hr=>?_,noF (by simp) (by simp)⟩
  obtain ⟨F,d0,rfl,hu⟩:=inv hB
  unfold tyB at hB
  rw [hu] at hB
  cases d0 <;> simp at hB
  subst hB
  obtain ⟨n,rfl,h1,h2⟩:=DataW.trod_int hu hr
  cases h1
  exact ⟨n,h2,rfl,dens_one .v,rfl⟩
 | bool =>
  refine ⟨fun F fuel t cs d ps hB hr=>?_,noF (by simp) (by simp)⟩
  obtain ⟨F,d0,rfl,hu⟩:=inv hB
  unfold tyB at hB
  rw [hu] at hB
  cases d0 <;> simp at hB
  obtain ⟨n,rfl,h1⟩:=DataW.trod_bool hu hr
  cases h1
  exact ⟨n,trivial,rfl,dens_one .v,rfl⟩
 | str =>
  refine ⟨fun F fuel t cs d ps hB hr=>?_,noF (by simp) (by simp)⟩
  obtain ⟨F,d0,rfl,hu⟩:=inv hB
  unfold tyB at hB
  rw [hu] at hB
  cases d0 <;> simp at hB
  obtain ⟨n,rfl,h1,h2⟩:=DataW.trod_string hu hr
  cases h1
  exact ⟨n,h2,rfl,dens_one .v,rfl⟩
 | sl e ih =>
  refine ⟨fun F fuel t cs d ps hB hr=>?_,noF (by simp) (by simp)⟩
  obtain ⟨F,d0,rfl,hu⟩:=inv hB
  unfold tyB at hB
  rw [hu] at hB
  cases d0 <;> simp at hB
  rename_i te
  obtain ⟨⟨hw,h0⟩,hB⟩:=hB
  rcases DataW.trod_slice hu hr with ⟨rfl,h1⟩ | ⟨a,len,cap,els,rest,m,_,rfl,h1,_,h2,h3,h4,h5,_⟩
  ·cases h1
   exact ⟨[],⟨Nat.zero_le _,fun x hx=>by cases hx⟩,rfl,dens_one (.sl0 (Nat.zero_le _)),.inl ⟨rfl,rfl⟩⟩
  ·cases h1
   rw [hw] at h5
   -- the rows
   let row:Nat→List Value:=fun i=>(w.cells? 0 (a.add (i * e.width)) e.width).getD []
   have hrow:∀ i,i < len→w.cells? 0 (a.add (i * e.width)) e.width = some (row i):=fun i hi=>by
    have:=h5 i hi
    rw [List.getElem?_eq_getElem (by omega)] at this
    cases hc:w.cells? 0 (a.add (i * e.width)) e.width with
    | none=>rw [hc] at this; cases this
    | some cs=>simp [row,hc]
   obtain ⟨xs,g1,g2,g3,g4⟩:=reads_list ih.1 hB (row:=row) h4 fun i hi=>by rw [← h5 i hi,hrow i hi]; rfl
   refine ⟨xs,⟨by rw [g1]; omega,g2⟩,rfl,?_,.inr ⟨_,_,rfl,by rw [List.length_map,h4,g1],g4⟩⟩
   refine dens_one ?_
   rw [g1]
   by_cases hlen:len = 0
   ·subst hlen
    have:xs = []:=List.eq_nil_of_length_eq_zero g1
    subst this
    exact .sl0 h3
   ·-- the first row's first cell
    obtain ⟨_,c1,c2⟩:=World.cells?_some (hrow 0 (by omega))
    have hc0:=c2 0 (by omega)
    rw [List.getElem?_eq_getElem (by omega)] at hc0
    have hspot:a.spot = none:=by
     rw [Nat.zero_mul] at hc0
     have e0:∀ a:Addr,a.add 0 = a:=fun a=>by simp [Addr.add]
     rw [e0] at hc0
     rcases addr_add hc0 with h | h
     ·exact h
     ·omega
    have hblk:a.block < w.heap.size:=by
     have:=World.cells?_block (hrow 0 (by omega)) (by omega)
     simpa [Addr.add] using this
    obtain ⟨ab,ao,asp⟩:=a
    simp only at hspot hblk
    subst hspot
    have hcell:∀ i s,(xs.flatMap e.sv)[i]? = some s→∃ c,w.cell? ⟨ab,ao+i,none⟩ = some c∧Den P C ids I w s c:=fun i s hi=>by
     obtain ⟨x,q1,q2⟩:=flatMap_get (Nat.pos_of_ne_zero h0) xs (fun x hx=>Ty.sv_length e x (g2 x hx)) i s hi
     have hq:i / e.width < len:=by rw [← g1]; exact (List.getElem?_eq_some_iff.1 q1).1
     obtain ⟨r1,r2⟩:=g3 _ x q1
     have r3:=r2 _ s q2
     rw [Nat.zero_add] at r3
     obtain ⟨_,_,c4⟩:=World.cells?_some (hrow _ hq)
     have hm:i % e.width < e.width:=Nat.mod_lt _ (Nat.pos_of_ne_zero h0)
     have c5:=c4 _ hm
     rw [List.getElem?_eq_getElem (by omega)] at c5
     refine ⟨_,?_,r3⟩
     rw [List.getD_eq_getElem?_getD,List.getElem?_eq_getElem (by omega),Option.getD_some,← c5]
     congr 1
     have hdm:=Nat.div_add_mod i e.width
     rw [Nat.mul_comm] at hdm
     unfold Addr.add
     by_cases hz1:i / e.width * e.width = 0
     ·rw [if_pos hz1]
      by_cases hz2:i % e.width = 0
      ·rw [if_pos hz2]; simp; try omega
      ·rw [if_neg hz2]; simp; try omega
     ·rw [if_neg hz1]
      by_cases hz2:i % e.width = 0
      ·rw [if_pos hz2]; simp; try omega
      ·rw [if_neg hz2]; simp; try omega
    refine .sl ab ao cap (fun i=>(w.cell? ⟨ab,ao+i,none⟩).getD undef) (hI _ hblk) h2 h3 (fun i s hi=>?_) fun i s hi=>?_
    ·obtain ⟨c,q1,_⟩:=hcell i s hi; rw [q1]; rfl
    ·obtain ⟨c,q1,q2⟩:=hcell i s hi; rw [q1]; exact q2
 | unit =>
  refine ⟨fun F fuel t cs d ps hB hr=>?_,fun F fuel fs off cs xs hB hl hx=>⟨(),trivial,fun i s hi=>by simp [Ty.sv] at hi,trivial⟩⟩
  obtain ⟨F,d0,rfl,hu⟩:=inv hB
  unfold tyB at hB
  rw [hu] at hB
  cases d0 <;> simp at hB
  obtain ⟨xs,n,_,h1,h2,_⟩:=DataW.trod_struct hu hr
  exact ⟨(),trivial,by rw [h2,hB.1]; rfl,fun i s hi=>by simp [Ty.sv] at hi,trivial⟩
 | pair a b iha ihb =>
  have hF:ReadsF H enc P w sp held C ids I (.pair a b):=fun F fuel fs off cs xs hB hl hx=>by
   cases F with
   | zero=>simp [fieldsB] at hB
   | succ F =>
    unfold fieldsB at hB
    cases fs with
    | nil=>simp at hB
    | cons f r =>
     simp only [Bool.and_eq_true,beq_iff_eq] at hB
     obtain ⟨⟨⟨h1,h2⟩,h3⟩,h4⟩:=hB
     cases xs with
     | nil=>simp at hl
     | cons y ys =>
      have hy:=hx 0 f rfl
      simp only [List.getElem?_cons_zero] at hy
      obtain ⟨x1,p1,p2,p3,p4⟩:=iha.1 F fuel f.type _ y.1 y.2 h3 hy
      obtain ⟨x2,q1,q3,q4⟩:=ihb.2 F fuel r (off+a.width) cs ys h4 (by simpa using hl) fun i f' hf'=>by
       have:=hx (i+1) f' (by simpa using hf')
       simpa using this
      refine ⟨(x1,x2),⟨p1,q1⟩,dens_cat (n:=a.width) (fun i s hi=>?_) (Ty.sv_length a x1 p1) q3,⟨y.1,ys.map (·.1),rfl,p4,q4⟩⟩
      have:=p3 i s hi
      have hi2:i < a.width:=by rw [← Ty.sv_length a x1 p1]; exact (List.getElem?_eq_some_iff.1 hi).1
      rw [Nat.zero_add,List.getD_eq_getElem?_getD,List.getElem?_take,if_pos (by omega),List.getElem?_drop,h1] at this
      rw [List.getD_eq_getElem?_getD]
      exact this
  refine ⟨fun F fuel t cs d ps hB hr=>?_,hF⟩
  obtain ⟨F,d0,rfl,hu⟩:=inv hB
  unfold tyB at hB
  rw [hu] at hB
  cases d0 <;> simp at hB
  rename_i fs
  obtain ⟨hw,hB⟩:=hB
  obtain ⟨xs,n,_,h1,h2,h3,h4⟩:=DataW.trod_struct hu hr
  cases h1
  obtain ⟨x,g1,g2,g3⟩:=hF F n fs.toList 0 cs xs (by simpa using hB) (by simpa using h3) fun i f hf=>h4 i f (by simpa using hf)
  exact ⟨x,g1,by rw [h2,hw],g2,g3⟩
 | arr n e ih =>
  refine ⟨fun F fuel t cs d ps hB hr=>?_,noF (by simp) (by simp)⟩
  obtain ⟨F,d0,rfl,hu⟩:=inv hB
  unfold tyB at hB
  rw [hu] at hB
  cases d0 <;> simp at hB
  rename_i n' te
  obtain ⟨⟨⟨rfl,h1⟩,h2⟩,hB⟩:=hB
  obtain ⟨els,m,h3,h4,h5,h6⟩:=trod_array hu hr
  simp only at h3
  subst h3
  rw [h1] at h6
  obtain ⟨xs,g1,g2,g3,g4⟩:=reads_list ih.1 hB (row:=fun i=>(cs.drop (i * e.width)).take e.width) h5 h6
  refine ⟨xs,⟨g1,g2⟩,by rw [h4,h2]; rfl,fun i s hi=>?_,⟨_,rfl,by rw [List.length_map,h5,g1],g4⟩⟩
  by_cases h0:e.width = 0
  ·have:xs.flatMap e.sv = []:=List.eq_nil_of_length_eq_zero (by
    have:=Ty.sv_length (.arr n' e) xs ⟨g1,g2⟩
    simp only [Ty.sv,Ty.width,h0,Nat.mul_zero] at this
    exact this)
   simp only [Ty.sv,this] at hi
   simp at hi
  ·obtain ⟨x,q1,q2⟩:=flatMap_get (Nat.pos_of_ne_zero h0) xs (fun x hx=>Ty.sv_length e x (g2 x hx)) i s hi
   obtain ⟨r1,r2⟩:=g3 _ x q1
   have r3:=r2 _ s q2
   have hm:i % e.width < e.width:=Nat.mod_lt _ (Nat.pos_of_ne_zero h0)
   have hdm:=Nat.div_add_mod i e.width
   rw [Nat.mul_comm] at hdm
   rw [Nat.zero_add,List.getD_eq_getElem?_getD,List.getElem?_take,if_pos hm,List.getElem?_drop,hdm] at r3
   rw [Nat.zero_add,List.getD_eq_getElem?_getD]
   exact r3
end
end Go.Sx
end

section
namespace Go.Sx
open Go.RowKit Go.ChangeShapes Go.WideShapes
abbrev Tys.den:List Ty→Type
 | []=>Unit
 | T::r=>T.den×Tys.den r
def Tys.args:(l:List Ty)→Tys.den l→List SV
 | [],_=>[]
 | T::r,x=>T.arg x.1::Tys.args r x.2
def Tys.ok:(l:List Ty)→Tys.den l→Prop
 | [],_=>True
 | T::r,x=>T.ok x.1∧Tys.ok r x.2
def Tys.rep (H:Type):(l:List Ty)→Tys.den l→List (DataW H)→Prop
 | [],_,ds=>ds = []
 | T::r,x,ds=>∃ d s,ds = d::s∧T.rep H x.1 d∧Tys.rep H r x.2 s
def tysB (P:Program) (F:Nat):List TypeId→List Ty→Bool
 | [],[]=>true
 | t::r,T::s=>tyB P F t T && P.readableRec t && Nat.blt t P.types.size && tysB P F r s
 | _,_=>false
section
variable {H:Type} {enc:TypeId×Value→H} {P:Program} {w:World} {C:Nm→Chunk} {ids:Ids} {I:Nat→Prop}
theorem not_agg {r:Reach} {b0:Nat} {t:TypeId} {v:Value} {d:TypeDesc} (hu:P.underlying t = some d) (hd:(∃ k,d = .int k)∨d = .bool∨d = .string∨∃ e,d = .slice e) (h:Value.okWide P w r b0 t v):v.cells.toList = [v]:=by
 rcases hd with ⟨k,rfl⟩ | rfl | rfl | ⟨e,rfl⟩
 ·obtain ⟨n,rfl⟩:=okWide_int hu h; rfl
 ·obtain ⟨n,rfl⟩:=okWide_bool hu h; rfl
 ·obtain ⟨n,rfl⟩:=okWide_string hu h; rfl
 ·obtain ⟨a,l,c,rfl⟩:=okWide_slice hu h; rfl
theorem is_agg {r:Reach} {b0:Nat} {t:TypeId} {v:Value} {d:TypeDesc} (hu:P.underlying t = some d) (hd:(∃ fs,d = .struct fs)∨∃ n e,d = .array n e) (h:Value.okWide P w r b0 t v):∃ cs,v = .agg cs:=by
 unfold Value.okWide at h
 rcases hd with ⟨fs,rfl⟩ | ⟨n,e,rfl⟩
 ·rw [hu] at h; obtain ⟨cs,rfl,_⟩:=h; exact ⟨cs,rfl⟩
 ·rw [hu] at h; obtain ⟨cs,rfl,_⟩:=h; exact ⟨cs,rfl⟩
theorem tyB_desc {F:Nat} {t:TypeId} {T:Ty} (h:tyB P F t T = true):∃ d,P.underlying t = some d∧match T with
  | .int k=>d = .int k
  | .bool=>d = .bool
  | .str=>d = .string
  | .sl _=>∃ e,d = .slice e
  | .unit=>∃ fs,d = .struct fs
  | .pair _ _=>∃ fs,d = .struct fs
  | .arr _ _=>∃ n e,d = .array n e:=by
 cases F with
 | zero=>simp [tyB] at h
 | succ F =>
  unfold tyB at h
  cases hu:P.underlying t with
  | none=>rw [hu] at h; simp at h
  | some d =>
   rw [hu] at h
   refine ⟨d,rfl,?_⟩
   cases d <;> cases T <;> simp at h <;> simp_all
theorem arg_den {r:Reach} {b0:Nat} (hI:∀ b,b < w.heap.size→I b) {F:Nat} {t:TypeId} {T:Ty} (hB:tyB P F t T = true) {v:Value} (hok:Value.okWide P w r b0 t v) {d:DataW H} {ps:List MemPlace} (hr:DataW.Trod enc P w 0 (fun _=>true) true t v d ps) :
 ∃x:T.den,T.ok x∧Den P C ids I w (T.arg x) v∧T.rep H x d:=by
 obtain ⟨fuel,hr⟩:=hr
 obtain ⟨x,h1,h2,h3,h4⟩:=(reads (enc:=enc) (C:=C) (ids:=ids) hI T).1 F fuel t _ d ps hB hr
 refine ⟨x,h1,?_,h4⟩
 obtain ⟨dd,hu,hdd⟩:=tyB_desc hB
 have one:∀ s,T.sv x = [s]→(v.cells.toList = [v])→Den P C ids I w s v:=fun s hs hv=>by
  have:=h3 0 s (by rw [hs]; rfl)
  rw [hv] at this
  exact this
 have agg:∀ cs,v = .agg cs→Den P C ids I w (.agg (T.sv x)) v:=fun cs hv=>by
  subst hv
  have hl:(T.sv x).length = cs.size:=by rw [Ty.sv_length T x h1,← h2]; simp [Value.cells]
  refine .agg cs hl fun i s hi=>?_
  have:=h3 i s hi
  rw [Nat.zero_add] at this
  simpa [Value.cells,Array.getD_eq_getD_getElem?,List.getD_eq_getElem?_getD] using this
 cases T with
 | int k=>exact one _ rfl (not_agg hu (.inl ⟨k,hdd⟩) hok)
 | bool=>exact one _ rfl (not_agg hu (.inr (.inl hdd)) hok)
 | str=>exact one _ rfl (not_agg hu (.inr (.inr (.inl hdd))) hok)
 | sl e=>obtain ⟨te,hdd⟩:=hdd; exact one _ rfl (not_agg hu (.inr (.inr (.inr ⟨te,hdd⟩))) hok)
 | unit=>obtain ⟨cs,hv⟩:=is_agg hu (.inl hdd) hok; exact agg cs hv
 | pair a b=>obtain ⟨cs,hv⟩:=is_agg hu (.inl hdd) hok; exact agg cs hv
 | arr n e=>obtain ⟨cs,hv⟩:=is_agg hu (.inr hdd) hok; exact agg cs hv
theorem args_den {r:Reach} {b0:Nat} (hI:∀ b,b < w.heap.size→I b) {F:Nat}:∀ (ts:List TypeId) (Ts:List Ty) (vs:List Value) (ds:List (DataW H)) (ps:List MemPlace),tysB P F ts Ts = true→(∀ (j:Nat) t v,ts[j]? = some t→vs[j]? = some v→Value.okWide P w r b0 t v) →
  DataW.TrodAll enc P w 0 (fun _=>true) true ts vs ds ps→∃ x:Tys.den Ts,Tys.ok Ts x∧vs.length = (Tys.args Ts x).length∧(∀ i s,(Tys.args Ts x)[i]? = some s→Den P C ids I w s (vs.getD i undef))∧Tys.rep H Ts x ds∧ds.length = Ts.length
 | [],[],[],[],ps,_,_,h=>⟨(),trivial,rfl,fun i s hi=>by simp [Tys.args] at hi,rfl,rfl⟩
 | t::ts,T::Ts,v::vs,d::ds,ps,hB,hok,h=>by
  obtain ⟨p,q,h1,h2,_⟩:=h
  simp only [tysB,Bool.and_eq_true] at hB
  obtain ⟨x,g1,g2,g3⟩:=arg_den (C:=C) (ids:=ids) hI hB.1.1.1 (hok 0 t v rfl rfl) h1
  obtain ⟨y,k1,k2,k3,k4,k5⟩:=args_den hI ts Ts vs ds q hB.2 (fun j t v hj hv=>hok (j+1) t v (by simpa using hj) (by simpa using hv)) h2
  refine ⟨(x,y),⟨g1,k1⟩,by simp [Tys.args,k2],fun i s hi=>?_,⟨d,ds,rfl,g3,k4⟩,by simp [k5]⟩
  cases i with
  | zero=>simp [Tys.args] at hi; subst hi; exact g2
  | succ i=>exact k3 i s (by simpa [Tys.args] using hi)
 | [],[],_::_,_,_,_,_,h=>by cases h
 | [],[],[],_::_,_,_,_,h=>by cases h
 | [],_::_,_,_,_,hB,_,_=>by simp [tysB] at hB
 | _::_,[],_,_,_,hB,_,_=>by simp [tysB] at hB
 | _::_,_::_,[],_,_,_,_,h=>by cases h
 | _::_,_::_,_::_,[],_,_,_,h=>by cases h
theorem trodAll_kept (hlo:laidOutB P = true) {W W':World} (hb:Below W.heap.size W W') {sp:Nat→Bool} {F:Nat}:∀ (ts:List TypeId) (Ts:List Ty) (vs:List Value) (ds:List (DataW H)) (ps:List MemPlace),tysB P F ts Ts = true→(∀ p ∈ ps,p.block < W.heap.size)→(∀ p ∈ ps,sp p.block = true) →
  DataW.TrodAll enc P W 0 (fun _=>true) true ts vs ds ps→DataW.TrodAll enc P W' 0 sp true ts vs ds ps
 | [],_,[],[],ps,_,_,_,h=>h
 | t::ts,T::Ts,v::vs,d::ds,ps,hB,hlt,hsp,h=>by
  obtain ⟨p,q,h1,h2,rfl⟩:=h
  simp only [tysB,Bool.and_eq_true,Nat.blt_eq] at hB
  exact ⟨p,q,WideElems.Trod_stays hlo hB.1.1.2 hB.1.2 h1 (fun x hx=>hb.same (hlt x (by simp [hx]))) (fun x hx=>hsp x (by simp [hx])),
   trodAll_kept hlo hb ts Ts vs ds q hB.2 (fun x hx=>hlt x (by simp [hx])) (fun x hx=>hsp x (by simp [hx])) h2,rfl⟩
 | [],_,_::_,_,_,_,_,_,h=>by cases h
 | [],_,[],_::_,_,_,_,_,h=>by cases h
 | _::_,[],_,_,_,hB,_,_,_=>by simp [tysB] at hB
 | _::_,_::_,[],_,_,_,_,_,h=>by cases h
 | _::_,_::_,_::_,[],_,_,_,_,h=>by cases h
theorem post_below {f:Func} {s:ChangeSpec} {apart fresh handsOn again:Bool} {W W':World} {args:Array Value} {v:Value} {ds gs:List (DataW H)} {before pa pv:List MemPlace}
  (hW:DataW.Whole enc P f.params.toList s.vars apart W args.toList ds gs before)
  (hres:∀ (b:Nat) (sp:Nat→Bool) (hd:Bool),DataW.TrodAll enc P W' b sp hd f.resultTypes.toList (v.resultList f.resultTypes.size) (s.fn H (ds++gs)).results [])
  (hargs:∀ sp:Nat→Bool,(∀ p ∈ before,sp p.block = true)→DataW.TrodAll enc P W' 0 sp true f.params.toList args.toList (s.fn H (ds++gs)).args pa)
  (hvars:∀ sp:Nat→Bool,(∀ p ∈ before,sp p.block = true)→DataW.TrodVars enc P W' sp s.vars (s.fn H (ds++gs)).vars pv)
  (hps:before = pa++pv) (hb:Below W.heap.size W W')
  (hok:∀ (j:Nat) (t:TypeId) (r:Value),f.resultTypes[j]? = some t→(v.resultList f.resultTypes.size)[j]? = some r→Value.okWide P W' .any 0 t r) :
  s.post enc P f apart fresh handsOn again W args v W':=by
 have hlt:∀ p ∈ before,p.block < W.heap.size:=fun p hp=>hW.lt p hp
 have hold:∀ p ∈ before,(fun b=>decide (b < W.heap.size)) p.block = true:=fun p hp=>by simpa using hlt p hp
 refine ⟨ds,gs,before,[],pa,pv,hW,hres _ _ _,hargs _ hold,hvars _ hold,World.keptBut_mono (fun p hp=>⟨hp,?_⟩) (hb.frame (· ∈ before)),fun _=>?_⟩
 ·rw [hps,List.mem_append] at hp
  exact Or.inr hp
 ·obtain ⟨_,_,_,_,_,hz,hn⟩:=hW
  refine ⟨hok,_,_,([]++pa)++pv,⟨[]++pa,pv,trodAll_append (hargs _ (fun _ _=>rfl)) (hres _ _ _),hvars _ (fun _ _=>rfl),rfl,?_,?_⟩,?_⟩
  ·intro b off hp
   have hin:MemPlace.cell b off ∈ before:=by rw [hps]; simpa using hp
   rw [hb.frozen (hlt _ hin)]
   exact hz b off hin
  ·intro ha
   have:=hn ha
   rw [hps] at this
   simpa using this
  ·intro p hp _
   rw [hps]
   simpa using hp
theorem SpecW.mono {P:Program} {f:FuncId} {args:List SV} {hin:Hp} {m:Nat} {Post Post':SV→Hp→Nat→Prop} (h:SpecW P f args hin m Post) (hp:∀ r hp n,Post r hp n→Post' r hp n):SpecW P f args hin m Post' :=
 ⟨h.1,fun X vals h1 h2 h3 h4 h5 h6=>(h.2 X vals h1 h2 h3 h4 h5 h6).mono fun e w' ⟨r,res,hp',nx',ids',g1,g2,g3⟩=>⟨r,res,hp',nx',ids',g1,hp _ _ _ g2,g3⟩⟩
theorem law_contract_tab {f:FuncId} {fn:Func} {s:ChangeSpec} {apart fresh handsOn again:Bool} (Ts:List Ty) (F:Nat) (hB:tysB P F fn.params.toList Ts = true) (hv:s.vars = []) (hs:∀ ds:List (DataW H),ds.length = Ts.length→s.fn H ds = { results:=[.lit (.bool true)],args:=ds })
  (hlo:laidOutB P = true) {tb:TypeId} (hrt:fn.resultTypes = #[tb]) (hub:P.underlying tb = some .bool)
  (W:World) (base:Nat) (args:Array Value) (ds gs:List (DataW H)) (before:List MemPlace) (hval:∀ (j:Nat) t v,fn.params[j]? = some t→args[j]? = some v→Value.okWide P W .any base t v)
  (hspec:∀ x:Tys.den Ts,Tys.ok Ts x→Tys.rep H Ts x (ds++gs)→SpecW P f (Tys.args Ts x) [] 0 (fun r _ _=>r = .v (.bool true)))
  (hW:DataW.Whole enc P fn.params.toList s.vars apart W args.toList ds gs before) (htab:TabOk P (fun b=>b < W.heap.size) W) :
  Calls P f args W fun e W'=>∃ v,e = .returned v∧s.post enc P fn apart fresh handsOn again W args v W':=by
 have hW':=hW
 obtain ⟨p,q,hA,hV,rfl,hfz,hnd⟩:=hW
 rw [hv] at hV
 have hgq:gs = []∧q = []:=by
  cases gs with
  | nil=>exact ⟨rfl,hV⟩
  | cons _ _=>cases hV
 obtain ⟨rfl,rfl⟩:=hgq
 let C:Nm→Chunk:=getH []
 let I:Nat→Prop:=fun b=>b < W.heap.size
 let X:Cx:={ gl:=htab,P:=P,w0:=W,I0:=fun b=>b < W.heap.size,W0:=fun _=>False,m:=0,ids0:=fun _=>none,C0:=fun _=>.unborn }
 have hIm:∀ b,b < W.heap.size→Im W (fun b=>b < W.heap.size) (fun _=>False) (getH []) (fun _=>none) W b:=fun b hb=>⟨.inl hb,hb,fun k hk=>by cases hk⟩
 obtain ⟨x,h1,h2,h3,h4,h5⟩:=args_den (C:=getH []) (ids:=fun _=>none) hIm fn.params.toList Ts args.toList ds p hB (fun j t v hj hv=>hval j t v (by simpa using hj) (by simpa using hv)) hA
 have hsp:=hspec x h1 (by simpa using h4)
 have hH:HeapF X [] 0 X.ids0 X.w0:=⟨⟨⟨fun k=>trivial,(fun k k' b o o' hl=>by cases hl),(fun k b o hl=>by cases hl),fun b hb=>⟨hb,fun h=>h⟩,fun b _ _=>rfl,rfl,⟨rfl,.of (Nat.le_refl _)⟩,rfl,Nat.le_refl _⟩,fun k hk=>absurd hk (Nat.not_lt_zero _),fun k hk=>absurd hk (Nat.not_lt_zero _)⟩,fun k _=>rfl,Nat.le_refl _⟩
 refine (hsp.2 X args rfl rfl rfl hH (by rw [← h2]; simp) fun i s hi=>?_).mono fun e W' he=>?_
 ·have:=h3 i s hi
  simpa [Array.getD_eq_getD_getElem?,List.getD_eq_getElem?_getD] using this
 obtain ⟨r,res,hp',nx',ids',rfl,hres,hF,hd⟩:=he
 subst hres
 have hrv:=den_v hd
 subst hrv
 refine ⟨_,rfl,?_⟩
 have hb:Below W.heap.size W W':=⟨hF.st.os,hF.st.tape.1,hF.st.output,hF.st.size,fun k hk=>hF.st.evol k hk (fun h=>h)⟩
 have hfn:=hs ds h5
 refine post_below (pa:=p) (pv:=[]) hW' (fun b sp hd=>?_) (fun sp hsp=>?_) (fun sp _=>?_) rfl hb (ok_one hrt rfl (okWide_bool_mk hub true))
 ·rw [List.append_nil,hfn,hrt]
  exact trodAll_cons_mk (shut_bool hub true) trodAll_mk0
 ·rw [List.append_nil,hfn]
  exact trodAll_kept hlo hb fn.params.toList Ts args.toList ds p hB (fun x hx=>hW'.lt x (by simp [hx])) (fun x hx=>hsp x (by simp [hx])) hA
 ·rw [List.append_nil,hfn,hv]; rfl
theorem law_contract {f:FuncId} {fn:Func} {s:ChangeSpec} {apart fresh handsOn again:Bool} (Ts:List Ty) (F:Nat) (hB:tysB P F fn.params.toList Ts = true) (hv:s.vars = []) (hs:∀ ds:List (DataW H),ds.length = Ts.length→s.fn H ds = { results:=[.lit (.bool true)],args:=ds })
  (hlo:laidOutB P = true) {tb:TypeId} (hrt:fn.resultTypes = #[tb]) (hub:P.underlying tb = some .bool)
  (W:World) (base:Nat) (args:Array Value) (ds gs:List (DataW H)) (before:List MemPlace) (hval:∀ (j:Nat) t v,fn.params[j]? = some t→args[j]? = some v→Value.okWide P W .any base t v)
  (hspec:∀ x:Tys.den Ts,Tys.ok Ts x→Tys.rep H Ts x (ds++gs)→SpecW P f (Tys.args Ts x) [] 0 (fun r _ _=>r = .v (.bool true)))
  (hW:DataW.Whole enc P fn.params.toList s.vars apart W args.toList ds gs before) (hnt:noTabs P = true:=by kernel_rfl) :
  Calls P f args W fun e W'=>∃ v,e = .returned v∧s.post enc P fn apart fresh handsOn again W args v W' :=
 law_contract_tab Ts F hB hv hs hlo hrt hub W base args ds gs before hval hspec hW (TabOk.of_none hnt)
end
end Go.Sx
end

section
namespace Go.Sx
open Go.RowKit
set_option linter.unusedVariables false
section
variable {S ρ:Type}
def loopN (step:S→Option (S ⊕ ρ)):Nat→S→Option ρ
 | 0,_=>none
 | n+1,s=>match step s with
  | none=>none
  | some (.inl s')=>loopN step n s'
  | some (.inr r)=>some r
theorem loopN_le {step:S→Option (S ⊕ ρ)}:∀ {n m:Nat} {s:S} {r:ρ},n≤m→loopN step n s = some r→loopN step m s = some r
 | 0,_,_,_,_,h=>by simp [loopN] at h
 | n+1,0,_,_,hl,_=>by omega
 | n+1,m+1,s,r,hl,h=>by
  simp only [loopN] at h ⊢
  cases hs:step s with
  | none=>rw [hs] at h; exact h
  | some o =>
   rw [hs] at h
   cases o with
   | inl s'=>exact loopN_le (by omega) h
   | inr r'=>exact h
open Classical in
noncomputable def loopO (step:S→Option (S ⊕ ρ)) (s:S):Option ρ :=
 if h:∃ n,(loopN step n s).isSome then loopN step h.choose s else none
theorem loopO_of {step:S→Option (S ⊕ ρ)} {n:Nat} {s:S} {r:ρ} (h:loopN step n s = some r):loopO step s = some r:=by
 have he:∃ n,(loopN step n s).isSome:=⟨n,by rw [h]; rfl⟩
 unfold loopO
 rw [dif_pos he]
 obtain ⟨r',hr⟩:=Option.isSome_iff_exists.1 he.choose_spec
 rw [hr]
 rcases Nat.le_total n he.choose with hl | hl
 ·have:=loopN_le hl h; rw [hr] at this; exact this
 ·have:=loopN_le hl hr; rw [h] at this; exact this.symm
theorem loopO_ex {step:S→Option (S ⊕ ρ)} {s:S} {r:ρ} (h:loopO step s = some r):∃ n,loopN step n s = some r:=by
 unfold loopO at h
 split at h
 ·exact ⟨_,h⟩
 ·cases h
theorem loopO_eq (step:S→Option (S ⊕ ρ)) (s:S):loopO step s = (step s).bind fun o=>match o with
  | .inl s'=>loopO step s'
  | .inr r=>some r:=by
 cases hs:step s with
 | none =>
  cases hl:loopO step s with
  | none=>rfl
  | some r=>obtain ⟨n,hn⟩:=loopO_ex hl; cases n <;> simp [loopN,hs] at hn
 | some o =>
  cases o with
  | inr r=>exact loopO_of (n:=1) (by simp [loopN,hs])
  | inl s' =>
   show loopO step s = loopO step s'
   cases hl:loopO step s' with
   | some r=>obtain ⟨n,hn⟩:=loopO_ex hl; exact loopO_of (n:=n+1) (by simp [loopN,hs,hn])
   | none =>
    cases hl2:loopO step s with
    | none=>rfl
    | some r =>
     obtain ⟨n,hn⟩:=loopO_ex hl2
     cases n with
     | zero=>simp [loopN] at hn
     | succ n=>simp only [loopN,hs] at hn; rw [loopO_of hn] at hl; cases hl
theorem loopO_inl {step:S→Option (S ⊕ ρ)} {s s':S} (h:step s = some (.inl s')):loopO step s = loopO step s':=by rw [loopO_eq,h]; rfl
theorem loopO_inr {step:S→Option (S ⊕ ρ)} {s:S} {r:ρ} (h:step s = some (.inr r)):loopO step s = some r:=by rw [loopO_eq,h]; rfl
theorem loopO_out {step:S→Option (S ⊕ ρ)} {s:S} {x:Option ρ} (h:step s = x.map .inr):loopO step s = x:=by rw [loopO_eq,h]; cases x <;> rfl
end
variable {P:Program} {m N:Nat} {Q:SPost} {fr:Fr} {hp:Hp} {nx:Nat}
theorem loop_sx {S ρ:Type} {step:S→Option (S ⊕ ρ)} {s0:S} {r:ρ} {c:Code} (E:S→Fr×Hp×Nat) (h:loopO step s0 = some r) (h0:LeSt P m fr hp (E s0).1 (E s0).2.1 (E s0).2.2)
  (hb:∀ (s:S) (o:S ⊕ ρ) (R:SPost),step s = some o→(∀ r',o = .inr r'→r' = r)→(∀ s' fr' hp' nx',o = .inl s'→LeSt P m fr' hp' (E s').1 (E s').2.1 (E s').2.2→R .normal fr' hp' nx')→(∀ id,R (.exit id) = Q (.exit id))→R .ret = Q .ret →
   Swp P m N c R (E s).1 (E s).2.1 (E s).2.2):Swp P m N (.loop c) Q fr hp nx:=by
 obtain ⟨n0,hn0⟩:=loopO_ex h
 refine loop_mk (S:={ p:S×Nat // loopN step p.2 p.1 = some r }) (fun p=>(E p.1.1).1) (fun p=>(E p.1.1).2.1) (fun p=>(E p.1.1).2.2) (fun _=>True) (fun p=>p.1.2) ⟨(s0,n0),hn0⟩ trivial h0 ?_
 rintro ⟨⟨s,n⟩,hn⟩ R _ h1 h2 h3
 cases n with
 | zero=>simp [loopN] at hn
 | succ n =>
  simp only [loopN] at hn
  cases hs:step s with
  | none=>rw [hs] at hn; cases hn
  | some o =>
   rw [hs] at hn
   refine hb s o R hs (fun r' ho=>?_) (fun s' fr' hp' nx' ho hl=>?_) h2 h3
   ·subst ho; simp only [Option.some.injEq] at hn; exact hn
   ·subst ho
    exact h1 fr' hp' nx' ⟨(s',n),hn⟩ trivial (Nat.lt_succ_self n) hl
theorem seq_cut {A:Type} {x y:Code} (E:A→Fr×Hp×Nat) (G:A→Prop)
  (h1:∀ K:Fr→Hp→Nat→Prop,(∀ a fr' hp' nx',G a→LeSt P m fr' hp' (E a).1 (E a).2.1 (E a).2.2→Wk P m K fr' hp' nx')→Swp P m N x (thenS (Wk P m K) Q) fr hp nx)
  (h2:∀ a,G a→Swp P m N y Q (E a).1 (E a).2.1 (E a).2.2):Swp P m N (.seq x y) Q fr hp nx :=
 h1 (Swp P m N y Q) (fun a fr' hp' nx' hg hl=>wk_mk _ _ _ hl (h2 a hg))
theorem block_cut {A:Type} {x:Code} {id:Nat} (E:A→Fr×Hp×Nat) (G:A→Prop)
  (h1:∀ K:Fr→Hp→Nat→Prop,(∀ a fr' hp' nx',G a→LeSt P m fr' hp' (E a).1 (E a).2.1 (E a).2.2→Wk P m K fr' hp' nx')→Swp P m N x (blockS id (thenS (Wk P m K) Q)) fr hp nx)
  (h2:∀ a,G a→Q .normal (E a).1 (E a).2.1 (E a).2.2):Swp P m N (.block id x) Q fr hp nx:=by
 have:=h1 (Q .normal) (fun a fr' hp' nx' hg hl=>wk_mk _ _ _ hl (h2 a hg))
 have e:thenS (Wk P m (Q .normal)) Q = wkS P m Q:=by funext e; cases e <;> rfl
 rw [e] at this; exact this
theorem seq_np {x y:Code} (h:Swp P m N x (thenS (Wk P m (Swp P m N y Q)) Q) fr hp nx):Swp P m N (.seq x y) Q fr hp nx:=h
theorem block_np {x:Code} {id:Nat} (h:Swp P m N x (blockS id (wkS P m Q)) fr hp nx):Swp P m N (.block id x) Q fr hp nx:=h
theorem cond_sx {ρ:Type} {c:Operand} {b:Bool} {X Y:Option ρ} {o:ρ} {x y:Code} (h:(bif b then X else Y) = some o) (e:evS true fr c = .v (.bool b)) (k1:b = true→X = some o→Swp P m N x Q fr hp nx) (k2:b = false→Y = some o→Swp P m N y Q fr hp nx):Swp P m N (.cond c x y) Q fr hp nx:=by
 simp only [Swp,SwpD,e]
 exact ⟨fun hb=>k1 hb (by rw [hb] at h; exact h),fun hb=>k2 hb (by rw [hb] at h; exact h)⟩
theorem cond_t {c:Operand} {x y:Code} (e:evS true fr c = .v (.bool true)) (k:Swp P m N x Q fr hp nx):Swp P m N (.cond c x y) Q fr hp nx:=by
 simp only [Swp,SwpD,e]
 exact ⟨fun _=>k,fun hb=>by cases hb⟩
theorem cond_f {c:Operand} {x y:Code} (e:evS true fr c = .v (.bool false)) (k:Swp P m N y Q fr hp nx):Swp P m N (.cond c x y) Q fr hp nx:=by
 simp only [Swp,SwpD,e]
 exact ⟨(fun hb=>by cases hb),fun _=>k⟩
theorem bind_sx {α β:Type} {x:Option α} {f:α→Option β} {o:β} (h:x.bind f = some o):∃ a,x = some a∧f a = some o:=by
 cases x with
 | none=>cases h
 | some a=>exact ⟨a,rfl,h⟩
theorem map_sx {α β:Type} {x:Option α} {f:α→β} {o:β} (h:x.map f = some o):∃ a,x = some a∧f a = o:=by
 cases x with
 | none=>cases h
 | some a=>cases h; exact ⟨a,rfl,rfl⟩
theorem leSt_m {m:Nat} {fr fr':Fr} {hp hp':Hp} {nx':Nat} (σ:List (Nm×Nm)) (frz:List Nm) (h1:leF hp hp' σ frz fr fr') (h2:leH hp hp' σ frz hp') (h3:okN m σ frz = true) (h4:okH m nx' σ hp' = true) (h5:Nat.ble m nx' = true):LeSt P m fr hp fr' hp' nx':=leSt_mk σ frz h1 h2 h3 h4 (Nat.le_of_ble_eq_true h5)
theorem ret_e {m:Nat} {x X:SV} {hp H:Hp} {nn:Nat} (σ:List (Nm×Nm)) (frz:List Nm) (h1:leS hp H σ frz x X) (h2:leH hp H σ frz H) (h3:okN m σ frz = true) (h4:okH m nn σ H = true) (h5:Nat.ble m nn = true):RetW P m (fun r h n=>r = X∧h = H∧n = nn) x hp:=ret_mk X H nn σ frz ⟨rfl,rfl,rfl⟩ h1 h2 h3 h4 (Nat.le_of_ble_eq_true h5)
end Go.Sx
end

section
namespace Go.Sx
open Go.RowKit
set_option linter.unusedVariables false
variable {P:Program} {m N:Nat} {Q:SPost} {fr:Fr} {hp:Hp} {nx:Nat} {ops:Array Oper}
def AllP:List Prop→Prop
 | []=>True
 | p::r=>p∧AllP r
def resOb (r:Res) (e:Eff):Prop:=match r with
 | .ok s e'=>s∧e'.val = e.val∧e'.upd = e.upd∧e'.nx = e.nx∧e'.rds = e.rds
 | .bad=>False
structure Seg where
 fr:Fr
 hp:Hp
 nx:Nat
 acc:List Nms
 obs:List Prop
def doneS (ops:Array Oper) (fr:Fr) (o:Oper):Option Bool:=match o.guard with
 | none=>some true
 | some jw=>guardS ops fr jw.1 jw.2
def skipV (P:Program) (o:Op):SV:=bif quietP P o then .gd false .any else .v undef
def wrapV (P:Program) (o:Oper) (x:SV):SV:=match o.guard with
 | none=>x
 | some _=>bif quietP P o.op then .gd true x else x
def quietBad (P:Program) (o:Oper) (nx:Nat) (e:Eff):Bool:=o.guard.isSome && (quietP P o.op && (!e.upd.isEmpty || !(e.nx == nx)))
def evalS (P:Program) (d:Bool) (ops:Array Oper):Nat→List Oper→List (Option Eff)→Seg→Option Seg
 | 0,_,_,s=>some s
 | _+1,[],_,s=>some s
 | n+1,o::rest,sc,s=>match doneS ops s.fr o with
  | none=>none
  | some false=>evalS P d ops n rest sc.tail ⟨putF o.dst (skipV P o.op) s.fr,s.hp,bif d then s.nx+1 else s.nx,s.acc++[⟨[],[],s.nx,s.nx⟩],s.obs⟩
  | some true=>match callOf true s.fr o.op with
   | some _=>none
   | none=>match sc with
    | some e::sc'=>bif quietBad P o s.nx e then none else
     evalS P d ops n rest sc' ⟨putF o.dst (wrapV P o e.val) s.fr,e.upd++s.hp,bif d then e.nx+1 else e.nx,s.acc++[⟨e.upd.map (·.1.key),e.rds,s.nx,e.nx⟩],resOb (opS P true s.fr s.hp s.nx o.type o.op) e::s.obs⟩
    | _=>match opS P true s.fr s.hp s.nx o.type o.op with
     | .bad=>none
     | .ok _ ⟨val,upd,nx',rds⟩=>bif sideOk P true s.fr s.hp o.op && !quietBad P o s.nx ⟨val,upd,nx',rds⟩ then
       evalS P d ops n rest sc.tail ⟨putF o.dst (wrapV P o val) s.fr,upd++s.hp,bif d then nx'+1 else nx',s.acc++[⟨upd.map (·.1.key),rds,s.nx,nx'⟩],s.obs⟩
      else none
theorem stepW_done {dt:Bool} {o:Oper} {K:SV→Hp→Nat→List Nm→Prop} {s:Prop} {e:Eff} (hd:doneS ops fr o = some true) (hc:callOf true fr o.op = none) (hop:opS P true fr hp nx o.type o.op = .ok s e) (hs:s) (hu:quietBad P o nx e = false)
  (hk:K (wrapV P o e.val) e.upd e.nx e.rds):stepW dt P ops o fr hp nx K:=by
 unfold stepW
 unfold doneS at hd
 cases hg:o.guard with
 | none =>
  simp only
  unfold coreW
  rw [hc,hop]
  unfold wrapV at hk
  rw [hg] at hk
  exact .inr ⟨hs,hk⟩
 | some jw =>
  unfold quietBad at hu
  rw [hg] at hd hu
  simp only at hd ⊢
  rw [hd]
  simp only
  unfold wrapV at hk
  rw [hg] at hk
  simp only at hk
  cases hq:quietP P o.op with
  | true =>
   rw [hq] at hk hu
   simp only [cond_true] at hk ⊢
   refine .inr ?_
   rw [hop]
   obtain ⟨val,upd,nx',rds⟩:=e
   simp at hu
   obtain ⟨hu,rfl⟩:=hu
   subst hu
   exact ⟨fun _=>hs,hk⟩
  | false =>
   rw [hq] at hk
   simp only [cond_false] at hk ⊢
   refine ⟨fun _=>?_,fun he=>by cases he⟩
   unfold coreW
   rw [hc,hop]
   exact .inr ⟨hs,hk⟩
theorem stepW_skip {dt:Bool} {o:Oper} {K:SV→Hp→Nat→List Nm→Prop} (hd:doneS ops fr o = some false) (hk:K (skipV P o.op) [] nx []):stepW dt P ops o fr hp nx K:=by
 unfold stepW
 unfold doneS at hd
 cases hg:o.guard with
 | none=>rw [hg] at hd; cases hd
 | some jw =>
  rw [hg] at hd
  simp only at hd ⊢
  rw [hd]
  simp only
  unfold skipV at hk
  cases hq:quietP P o.op with
  | true=>rw [hq] at hk; exact .inl ⟨rfl,hk⟩
  | false=>rw [hq] at hk; exact ⟨(fun he=>by cases he),fun _=>hk⟩
theorem allP_mem {l:List Prop} (h:AllP l) {l2:List Prop} (hs:∃ k,l = k++l2):AllP l2:=by
 obtain ⟨k,rfl⟩:=hs
 induction k with
 | nil=>exact h
 | cons p k ih=>exact ih h.2
theorem resOb_ok {r:Res} {e:Eff} (h:resOb r e):∃ s,r = .ok s e∧s:=by
 cases r with
 | bad=>exact h.elim
 | ok s e' =>
  obtain ⟨hs,h1,h2,h3,h4⟩:=h
  obtain ⟨v,u,n,rd⟩:=e'
  simp only at h1 h2 h3 h4
  subst h1; subst h2; subst h3; subst h4
  exact ⟨s,rfl,hs⟩
theorem evalS_obs {d:Bool}:∀ (n:Nat) (l:List Oper) (sc:List (Option Eff)) (s s':Seg),evalS P d ops n l sc s = some s'→∃ k,s'.obs = k++s.obs
 | 0,l,sc,s,s',h=>by cases h; exact ⟨[],rfl⟩
 | n+1,[],sc,s,s',h=>by cases h; exact ⟨[],rfl⟩
 | n+1,o::rest,sc,s,s',h=>by
  unfold evalS at h
  split at h
  ·cases h
  ·obtain ⟨k,hk⟩:=evalS_obs n rest _ _ _ h; exact ⟨k,hk⟩
  ·split at h
   ·cases h
   ·split at h
    ·rw [Bool.cond_eq_ite] at h
     rename_i e _
     split at h
     ·cases h
     ·obtain ⟨k,hk⟩:=evalS_obs n rest _ _ _ h; exact ⟨k++[resOb (opS P true s.fr s.hp s.nx o.type o.op) e],by rw [hk]; simp⟩
    ·split at h
     ·cases h
     ·rw [Bool.cond_eq_ite] at h
      split at h
      ·obtain ⟨k,hk⟩:=evalS_obs n rest _ _ _ h; exact ⟨k,hk⟩
      ·cases h
theorem seg_run {K:Fr→Hp→Nat→Prop}:∀ (n:Nat) (l:List Oper) (sc:List (Option Eff)) (s s':Seg),evalS P false ops n l sc s = some s'→AllP s'.obs→runOps P ops (l.drop n) s'.fr s'.hp s'.nx K→runOps P ops l s.fr s.hp s.nx K
 | 0,l,sc,s,s',h,ho,hr=>by cases h; exact hr
 | n+1,[],sc,s,s',h,ho,hr=>by cases h; simpa using hr
 | n+1,o::rest,sc,s,s',h,ho,hr=>by
  unfold evalS at h
  split at h
  ·cases h
  ·rename_i hd
   exact stepW_skip hd (seg_run n rest _ _ _ h ho hr)
  ·rename_i hd
   split at h
   ·cases h
   ·rename_i hc
    split at h
    ·rename_i e sc'
     rw [Bool.cond_eq_ite] at h
     split at h
     ·cases h
     ·rename_i hq
      obtain ⟨k,hk⟩:=evalS_obs n rest _ _ _ h
      have hob:=(allP_mem ho ⟨k,hk⟩).1
      obtain ⟨sd,hop,hs⟩:=resOb_ok hob
      exact stepW_done hd hc hop hs (by simpa using hq) (seg_run n rest _ _ _ h ho hr)
    ·split at h
     ·cases h
     ·rename_i sd val upd nx' rds hop
      rw [Bool.cond_eq_ite] at h
      split at h
      ·rename_i hq
       simp only [Bool.and_eq_true,Bool.not_eq_true'] at hq
       exact stepW_done hd hc hop (sideOk_ok hop hq.1) hq.2 (seg_run n rest _ _ _ h ho hr)
      ·cases h
theorem seg_draw {K:List Nms→Fr→Hp→Nat→Prop}:∀ (n:Nat) (l:List Oper) (sc:List (Option Eff)) (s s':Seg),evalS P true ops n l sc s = some s'→AllP s'.obs→runD P ops (l.drop n) s'.fr s'.hp s'.nx s'.acc K→runD P ops l s.fr s.hp s.nx s.acc K
 | 0,l,sc,s,s',h,ho,hr=>by cases h; exact hr
 | n+1,[],sc,s,s',h,ho,hr=>by cases h; simpa using hr
 | n+1,o::rest,sc,s,s',h,ho,hr=>by
  unfold evalS at h
  split at h
  ·cases h
  ·rename_i hd
   exact stepW_skip hd (seg_draw n rest _ _ _ h ho hr)
  ·rename_i hd
   split at h
   ·cases h
   ·rename_i hc
    split at h
    ·rename_i e sc'
     rw [Bool.cond_eq_ite] at h
     split at h
     ·cases h
     ·rename_i hq
      obtain ⟨k,hk⟩:=evalS_obs n rest _ _ _ h
      have hob:=(allP_mem ho ⟨k,hk⟩).1
      obtain ⟨sd,hop,hs⟩:=resOb_ok hob
      exact stepW_done hd hc hop hs (by simpa using hq) (seg_draw n rest _ _ _ h ho hr)
    ·split at h
     ·cases h
     ·rename_i sd val upd nx' rds hop
      rw [Bool.cond_eq_ite] at h
      split at h
      ·rename_i hq
       simp only [Bool.and_eq_true,Bool.not_eq_true'] at hq
       exact stepW_done hd hc hop (sideOk_ok hop hq.1) hq.2 (seg_draw n rest _ _ _ h ho hr)
      ·cases h
def RunAt (P:Program) (d:Bool) (ops:Array Oper) (l:List Oper) (fr:Fr) (hp:Hp) (nx:Nat) (acc:List Nms) (K:Fr→Hp→Nat→Prop):Prop:=match d with
 | false=>runOps P ops l fr hp nx (EqW K)
 | true=>runE P ops l fr hp nx acc (EqW K)
theorem reg_f {id:Nat} (h:RunAt P false ops ops.toList fr hp nx [] (Q .normal)):Swp P m N (.region id ops false) Q fr hp nx:=h
theorem reg_t {id:Nat} (h:RunAt P true ops ops.toList fr hp nx [] (Q .normal)):Swp P m N (.region id ops true) Q fr hp nx:=h
def okSeg (s:Option Seg):Bool:=s.isSome
def getSeg (s:Option Seg):Seg:=s.getD ⟨[],[],0,[],[]⟩
theorem getSeg_some {s:Option Seg} (h:okSeg s = true):s = some (getSeg s):=by
 cases s with
 | none=>cases h
 | some s=>rfl
theorem run_seg {d:Bool} {l:List Oper} {acc:List Nms} {K:Fr→Hp→Nat→Prop} (n:Nat) (sc:List (Option Eff)) (obs:List Prop) (h1:okSeg (evalS P d ops n l sc ⟨fr,hp,nx,acc,[]⟩) = true) (h2:(getSeg (evalS P d ops n l sc ⟨fr,hp,nx,acc,[]⟩)).obs = obs) (ho:AllP obs)
  (k:RunAt P d ops (l.drop n) (getSeg (evalS P d ops n l sc ⟨fr,hp,nx,acc,[]⟩)).fr (getSeg (evalS P d ops n l sc ⟨fr,hp,nx,acc,[]⟩)).hp (getSeg (evalS P d ops n l sc ⟨fr,hp,nx,acc,[]⟩)).nx (getSeg (evalS P d ops n l sc ⟨fr,hp,nx,acc,[]⟩)).acc K):RunAt P d ops l fr hp nx acc K:=by
 have h:=getSeg_some h1
 rw [← h2] at ho
 cases d with
 | false=>exact seg_run n l sc _ _ h ho k
 | true=>exact seg_draw n l sc _ _ h ho k
def keepF (fr:Fr) (ks:Fr):Fr:=ks.map fun p=>(p.1,getF fr p.1)
def getE:Hp→Nm→Chunk
 | [],_=>.unborn
 | p::r,k=>bif p.1.eqk k then p.2 else getE r k
def keepH (hp:Hp) (ks:Hp):Hp:=ks.map fun p=>(p.1,getE hp p.1)
def coverH (hp:Hp) (ks:Hp):Bool:=(hp.all fun p=>ks.any fun q=>q.1.eqk p.1) && ks.all fun q=>match q.1 with
 | .t _=>true
 | .s _ _=>hp.any fun p=>p.1.eqk q.1
theorem getE_key {a b:Nm} (h:a.key = b.key):∀ hp:Hp,getE hp a = getE hp b
 | []=>rfl
 | p::r=>by
  simp only [getE]
  have e:p.1.eqk a = p.1.eqk b:=by
   by_cases hk:p.1.key = a.key
   ·rw [Nm.eqk_iff.2 hk,Nm.eqk_iff.2 (hk.trans h)]
   ·rw [Nm.eqk_no hk,Nm.eqk_no (fun e=>hk (e.trans h.symm))]
  rw [e,getE_key h r]
theorem getE_get (k:Nm):∀ {hp:Hp},(∃ p ∈ hp,p.1.key = k.key)→getH hp k = (getE hp k).mem k
 | [],h=>by obtain ⟨p,hp,_⟩:=h; cases hp
 | p::r,h=>by
  simp only [getH,getE]
  by_cases hk:p.1.key = k.key
  ·rw [Nm.eqk_iff.2 hk,cond_true,cond_true]
  ·rw [Nm.eqk_no hk,cond_false,cond_false]
   refine getE_get k ?_
   obtain ⟨q,hq,hqk⟩:=h
   rcases List.mem_cons.1 hq with rfl | hq
   ·exact absurd hqk hk
   ·exact ⟨q,hq,hqk⟩
theorem getE_none (a:Nat):∀ {hp:Hp},getE hp (.t a) = getH hp (.t a)
 | []=>rfl
 | p::r=>by simp only [getE,getH,Chunk.mem]; rw [getE_none a]
theorem keepF_get (fr:Fr) (d:Nat):∀ ks:Fr,getF (keepF fr ks) d = getF fr d∨getF (keepF fr ks) d = .any
 | []=>.inr rfl
 | p::r=>by
  simp only [keepF,List.map_cons,getF]
  by_cases h:p.1 = d
  ·subst h; left; simp
  ·rw [show (p.1 == d) = false from by simpa using h,cond_false]; exact keepF_get fr d r
theorem keepH_E (hp:Hp) (k:Nm):∀ ks:Hp,(∃ q ∈ ks,q.1.key = k.key)→getH (keepH hp ks) k = (getE hp k).mem k
 | [],h=>by simp at h
 | p::r,h=>by
  simp only [keepH,List.map_cons,getH]
  by_cases hk:p.1.key = k.key
  ·rw [Nm.eqk_iff.2 hk,cond_true,getE_key hk]
  ·rw [Nm.eqk_no hk,cond_false]
   refine keepH_E hp k r ?_
   obtain ⟨q,hq,hqk⟩:=h
   rcases List.mem_cons.1 hq with rfl | hq
   ·exact absurd hqk hk
   ·exact ⟨q,hq,hqk⟩
theorem keep_eq {fr':Fr} {hp':Hp} (h1:keepF fr fr' = fr') (h2:keepH hp hp' = hp') (h3:coverH hp hp' = true):EqSt fr fr' hp hp':=by
 refine ⟨fun d=>h1 ▸ keepF_get fr d fr',fun k=>?_⟩
 simp only [coverH,Bool.and_eq_true,List.all_eq_true,List.any_eq_true] at h3
 rw [← h2]
 by_cases h:∃ q ∈ hp',q.1.key = k.key
 ·rw [keepH_E hp k hp' h]
  cases k with
  | t a=>exact getE_none a
  | s F i =>
   obtain ⟨q,hq,hqk⟩:=h
   have:=h3.2 q hq
   cases hq1:q.1 with
   | t a=>rw [hq1] at hqk; simp [Nm.key] at hqk
   | s G z =>
    rw [hq1] at this hqk
    simp only [List.any_eq_true] at this
    obtain ⟨p,hp1,hp2⟩:=this
    exact (getE_get _ ⟨p,hp1,(Nm.eqk_iff.1 hp2).trans hqk⟩).symm
 ·have n1:¬∃q ∈ keepH hp hp',q.1.key = k.key:=fun ⟨q,hq,hqk⟩=>by
   obtain ⟨p,hp1,rfl⟩:=List.mem_map.1 hq
   exact h ⟨p,hp1,hqk⟩
  rw [getH_unlisted n1]
  refine (getH_unlisted fun ⟨p,hp1,e⟩=>h ?_).symm
  obtain ⟨q,hq,hqp⟩:=h3.1 p hp1
  exact ⟨q,hq,(Nm.eqk_iff.1 hqp).trans e⟩
theorem run_f {l:List Oper} {acc:List Nms} {K:Fr→Hp→Nat→Prop} (fr':Fr) (hp':Hp) (nx':Nat) (hl:l = []) (h1:keepF fr fr' = fr') (h2:keepH hp hp' = hp') (h3:coverH hp hp' = true) (h4:nx = nx') (k:K fr' hp' nx'):RunAt P false ops l fr hp nx acc K:=by
 subst hl; subst h4
 exact ⟨fr',hp',keep_eq h1 h2 h3,k⟩
theorem run_t {l:List Oper} {acc:List Nms} {K:Fr→Hp→Nat→Prop} (fr':Fr) (hp':Hp) (nx':Nat) (hl:l = []) (h1:keepF fr fr' = fr') (h2:keepH hp hp' = hp') (h3:coverH hp hp' = true) (h4:nx = nx') (h5:P.follows .mixedOrders = true) (h6:orderOk ops acc (aheads ops.toList) = true) (k:K fr' hp' nx'):RunAt P true ops l fr hp nx acc K:=by
 subst hl; subst h4
 exact ⟨⟨h5,h6⟩,fr',hp',keep_eq h1 h2 h3,k⟩
theorem frOnly_draw {K:Fr→Hp→Nat→Prop} (ns:List Nms):FrOnly (DrawEnd P ops ns (EqW K)):=fun fr fr' hp nx h ⟨h1,h2⟩=>⟨h1,eqW_only K _ _ _ _ h h2⟩
theorem run_split {d:Bool} {l:List Oper} {acc:List Nms} {K:Fr→Hp→Nat→Prop} (t:Nat) (b:Bool) (h:getF fr t = .v (.bool b)∨getF fr t = .gd true (.v (.bool b)))
  (k1:b = true→RunAt P d ops l ((t,bif (match getF fr t with | .gd _ _=>true | _=>false) then .gd true (.v (.bool true)) else .v (.bool true))::fr) hp nx acc K)
  (k2:b = false→RunAt P d ops l ((t,bif (match getF fr t with | .gd _ _=>true | _=>false) then .gd true (.v (.bool false)) else .v (.bool false))::fr) hp nx acc K):RunAt P d ops l fr hp nx acc K:=by
 have gen:∀ c:Bool,b = c→RunAt P d ops l ((t,bif (match getF fr t with | .gd _ _=>true | _=>false) then .gd true (.v (.bool c)) else .v (.bool c))::fr) hp nx acc K→RunAt P d ops l fr hp nx acc K:=by
  intro c hc hk
  subst hc
  have e:getF ((t,bif (match getF fr t with | .gd _ _=>true | _=>false) then .gd true (.v (.bool b)) else .v (.bool b))::fr) = getF fr:=by
   funext q
   simp only [getF]
   by_cases hq:t = q
   ·subst hq
    rcases h with h | h <;> simp [h]
   ·rw [show (t == q) = false from by simpa using hq,cond_false]
  cases d with
  | false=>exact runOps_congr (eqW_only K) l _ _ _ _ e hk
  | true=>exact runD_congr (frOnly_draw ·) l _ _ _ _ _ e hk
 cases b with
 | true=>exact gen true rfl (k1 rfl)
 | false=>exact gen false rfl (k2 rfl)
def headCall (ops:Array Oper) (fr:Fr):List Oper→Option (FuncId×List SV×Option Tmp)
 | o::_=>match doneS ops fr o with
  | some true=>(callOf true fr o.op).map fun c=>(c.1,c.2,o.dst)
  | _=>none
 | []=>none
theorem quietS_call {g:Bool} {o:Op} {c:FuncId×List SV} (h:callOf g fr o = some c):quietS o = false:=by
 cases o <;> simp only [callOf] at h <;> try (cases h; done)
 rename_i cl
 obtain ⟨callee,args,argTypes⟩:=cl
 cases callee <;> simp only at h <;> first | rfl | cases h
theorem run_call {d:Bool} {l:List Oper} {acc:List Nms} {K:Fr→Hp→Nat→Prop} (f:FuncId) (args:List SV) (dst:Option Tmp) (h:headCall ops fr l = some (f,args,dst))
  (k:match d with | false=>CallAt P f args dst ops (l.drop 1) fr hp nx (EqW K) | true=>CallE P f args dst ops (l.drop 1) fr hp nx acc (EqW K)):RunAt P d ops l fr hp nx acc K:=by
 cases l with
 | nil=>cases h
 | cons o rest =>
  simp only [headCall] at h
  cases hd:doneS ops fr o with
  | none=>rw [hd] at h; cases h
  | some b =>
   cases b with
   | false=>rw [hd] at h; cases h
   | true =>
    rw [hd] at h
    simp only at h
    cases hc:callOf true fr o.op with
    | none=>rw [hc] at h; cases h
    | some c =>
     rw [hc] at h
     simp only [Option.map_some,Option.some.injEq,Prod.mk.injEq] at h
     obtain ⟨rfl,rfl,rfl⟩:=h
     have hq:quietP P o.op = false:=by unfold quietP; rw [quietS_call hc]; rfl
     have step:∀ {dt:Bool} {K2:SV→Hp→Nat→List Nm→Prop},CallW dt P c.1 c.2 hp nx K2→stepW dt P ops o fr hp nx K2:=by
      intro dt K2 hk
      unfold stepW
      unfold doneS at hd
      cases hg:o.guard with
      | none=>simp only; unfold coreW; rw [hc]; exact hk
      | some jw =>
       rw [hg] at hd
       simp only at hd ⊢
       rw [hd]
       simp only [hq,cond_false]
       refine ⟨fun _=>?_,(fun he=>by cases he)⟩
       unfold coreW; rw [hc]; exact hk
     cases d with
     | false=>exact step k
     | true=>exact step k
end Go.Sx
end

section
namespace Go.Sx
open Go.RowKit
set_option linter.unusedVariables false
class Enc (α:Type) extends Inhabited α where
 sz:Nat
 cells:α→List SV
 len:∀ a,(cells a).length = sz
 one:∀ a,(cells a).all oneS = true
 stc:∀ a,stL (cells a) = true
variable {α β:Type}
instance : Enc Int:=⟨1,fun x=>[.v (.int .i64 x)],fun _=>rfl,fun _=>rfl,fun _=>rfl⟩
instance : Enc Bool:=⟨1,fun x=>[.v (.bool x)],fun _=>rfl,fun _=>rfl,fun _=>rfl⟩
instance : Enc ByteArray:=⟨1,fun x=>[.v (.string x)],fun _=>rfl,fun _=>rfl,fun _=>rfl⟩
def fl [Enc α] (xs:List α):List SV:=xs.flatMap Enc.cells
theorem fl_nil [Enc α]:fl ([]:List α) = []:=rfl
theorem fl_cons [Enc α] (x:α) (xs:List α):fl (x::xs) = Enc.cells x++fl xs:=rfl
theorem fl_append [Enc α] (xs ys:List α):fl (xs++ys) = fl xs++fl ys:=by simp [fl]
theorem fl_length [Enc α] (xs:List α):(fl xs).length = xs.length * Enc.sz α:=by
 induction xs with
 | nil=>simp [fl]
 | cons x xs ih=>rw [fl_cons,List.length_append,ih,Enc.len,List.length_cons,Nat.add_mul,Nat.one_mul,Nat.add_comm]
theorem stL_app {xs ys:List SV} (h:stL xs = true) (g:stL ys = true):stL (xs++ys) = true:=by
 induction xs with
 | nil=>exact g
 | cons x xs ih=>simp only [stL,Bool.and_eq_true,List.cons_append] at h ⊢; exact ⟨h.1,ih h.2⟩
theorem fl_st [Enc α] (xs:List α):stL (fl xs) = true:=by
 induction xs with
 | nil=>rfl
 | cons x xs ih=>rw [fl_cons]; exact stL_app (Enc.stc x) ih
theorem fl_cl [Enc α] (xs:List α):clL (fl xs) = true:=stL_clL (fl_st xs)
theorem fl_one [Enc α] (xs:List α):(fl xs).all oneS = true:=by
 induction xs with
 | nil=>rfl
 | cons x xs ih=>rw [fl_cons,List.all_append,Enc.one,ih]; rfl
instance [Enc α]:Enc (List α):=⟨1,fun x=>[.sl x.length (fl x)],fun _=>rfl,fun _=>rfl,fun x=>by simp only [stL,SV.st,fl_st,Bool.true_and]⟩
theorem fl_drop [Enc α] (xs:List α) (i:Nat):(fl xs).drop (i * Enc.sz α) = fl (xs.drop i):=by
 induction xs generalizing i with
 | nil=>simp [fl]
 | cons x xs ih =>
  cases i with
  | zero=>simp
  | succ i =>
   rw [fl_cons,List.drop_succ_cons,← ih i,List.drop_append,List.drop_of_length_le (by rw [Enc.len]; exact Nat.le_mul_of_pos_left _ (Nat.succ_pos i)),List.nil_append,Enc.len]
   congr 1
   rw [Nat.add_mul,Nat.one_mul,Nat.add_sub_cancel]
theorem fl_take [Enc α] (xs:List α) (i:Nat):(fl xs).take (i * Enc.sz α) = fl (xs.take i):=by
 induction xs generalizing i with
 | nil=>simp [fl]
 | cons x xs ih =>
  cases i with
  | zero=>simp [fl]
  | succ i =>
   rw [fl_cons,List.take_succ_cons,fl_cons,← ih i,List.take_append,Enc.len,List.take_of_length_le (by rw [Enc.len]; exact Nat.le_mul_of_pos_left _ (Nat.succ_pos i))]
   congr 2
   rw [Nat.add_mul,Nat.one_mul,Nat.add_sub_cancel]
theorem fl_app [Enc α] (xs:List α) (i n:Nat):appCells (fl xs) (i * Enc.sz α) (n * Enc.sz α) = fl ((xs.drop i).take n):=by
 simp only [appCells,fl_drop,fl_take]
theorem fl_at [Enc α] (xs:List α) (i:Nat) (h:i < xs.length):((fl xs).drop (i * Enc.sz α)).take (Enc.sz α) = Enc.cells (xs.getD i default):=by
 rw [fl_drop]
 have:xs.drop i = xs.getD i default::xs.drop (i+1):=by rw [List.drop_eq_getElem_cons h]; simp [List.getD_eq_getElem?_getD,h]
 rw [this,fl_cons,List.take_append,Enc.len,Nat.sub_self,List.take_zero,List.append_nil,List.take_of_length_le (by rw [Enc.len]; exact Nat.le_refl _)]
theorem fl_getD [Enc α] (xs:List α) (i j:Nat) (h:i < xs.length) (hj:j < Enc.sz α) (d:SV):(fl xs).getD (i * Enc.sz α+j) d = (Enc.cells (xs.getD i default)).getD j d:=by
 rw [← fl_at xs i h]
 simp only [List.getD_eq_getElem?_getD,List.getElem?_take,if_pos hj,List.getElem?_drop]
theorem splice_app (vs:List SV):∀ (us bs:List SV) (o:Nat),splice (us++bs) (us.length+o) vs = us++splice bs o vs:=by
 induction vs with
 | nil=>intro us bs o; rfl
 | cons v vs ih =>
  intro us bs o
  simp only [splice]
  rw [List.set_append_right _ _ (by omega),show us.length+o - us.length = o from by omega,Nat.add_assoc,ih]
theorem splice_left (vs:List SV):∀ (us bs:List SV) (o:Nat),o+vs.length≤us.length→splice (us++bs) o vs = splice us o vs++bs:=by
 induction vs with
 | nil=>intro us bs o _; rfl
 | cons v vs ih =>
  intro us bs o h
  simp only [List.length_cons] at h
  simp only [splice]
  rw [List.set_append_left _ _ (by omega),ih _ _ _ (by simp; omega)]
def ix [Enc α] (xs:List α) (i:Int):α:=xs.getD i.toNat default
def cut (xs:List α) (l h:Int):List α:=(xs.drop l.toNat).take (h.toNat - l.toNat)
theorem fl_ix [Enc α] (xs:List α) (i:Int) (j:Nat) (hj:j < Enc.sz α) (d:SV) (hd:(Enc.cells (default:α)).getD j d = d):(fl xs).getD (i.toNat * Enc.sz α+j) d = (Enc.cells (ix xs i)).getD j d:=by
 by_cases h:i.toNat < xs.length
 ·exact fl_getD xs _ j h hj d
 ·have e:ix xs i = default:=by simp [ix,List.getD_eq_getElem?_getD,List.getElem?_eq_none (Nat.le_of_not_lt h)]
  rw [e,hd,List.getD_eq_getElem?_getD,List.getElem?_eq_none,Option.getD_none]
  rw [fl_length]
  have:xs.length * Enc.sz α≤i.toNat * Enc.sz α:=Nat.mul_le_mul_right _ (Nat.le_of_not_lt h)
  omega
theorem fl_whole [Enc α] (xs:List α) (i:Int) (h:0≤i∧i < (xs.length:Int)):((fl xs).drop (i.toNat * Enc.sz α)).take (Enc.sz α) = Enc.cells (ix xs i):=fl_at xs i.toNat (by omega)
theorem fl_cell [Enc α] (xs:List α) (i:Int) (j:Nat) (h:0≤i∧i < (xs.length:Int)) (d:SV) (hj:j < Enc.sz α):(fl xs).getD (i.toNat * Enc.sz α+j) d = (Enc.cells (ix xs i)).getD j d:=fl_getD xs i.toNat j (by omega) hj d
theorem fl_cut [Enc α] (xs:List α) (l h:Int) (k:0≤l∧l≤h∧h≤(xs.length:Int)):SV.sl (h.toNat - l.toNat) (appCells (fl xs) (l.toNat * Enc.sz α) ((h.toNat - l.toNat) * Enc.sz α)) = SV.sl (cut xs l h).length (fl (cut xs l h)):=by
 rw [fl_app]
 congr 1
 simp only [cut,List.length_take,List.length_drop]
 omega
theorem fl_take_all [Enc α] (xs:List α) (n:Nat) (h:n = xs.length * Enc.sz α):(fl xs).take n = fl xs:=by
 rw [h,List.take_of_length_le (by rw [fl_length]; exact Nat.le_refl _)]
theorem fl_merge [Enc α] (xs ys:List α):fl xs++fl ys = fl (xs++ys):=(fl_append xs ys).symm
theorem fl_snoc_list [Enc α] (xs:List (List α)) (y:List α):fl xs++[SV.sl y.length (fl y)] = fl (xs++[y]):=by rw [fl_append]; rfl
theorem fl_snoc_int (xs:List Int) (y:Int):fl xs++[SV.v (.int .i64 y)] = fl (xs++[y]):=by rw [fl_append]; rfl
theorem fl_snoc_bool (xs:List Bool) (y:Bool):fl xs++[SV.v (.bool y)] = fl (xs++[y]):=by rw [fl_append]; rfl
theorem fl_cons_int (xs:List Int) (y:Int):SV.v (.int .i64 y)::fl xs = fl (y::xs):=rfl
theorem renL_fl [Enc α] (τ:Nm→Nm) (xs:List α):renL τ (fl xs) = fl xs:=renL_cl (fl_cl xs)
theorem sz_int:Enc.sz Int = 1:=rfl
theorem sz_bool:Enc.sz Bool = 1:=rfl
theorem sz_list [Enc α]:Enc.sz (List α) = 1:=rfl
theorem cells_int (x:Int):Enc.cells x = [SV.v (.int .i64 x)]:=rfl
theorem cells_bool (x:Bool):Enc.cells x = [SV.v (.bool x)]:=rfl
theorem cells_lst [Enc α] (x:List α):Enc.cells x = [SV.sl x.length (fl x)]:=rfl
theorem range_0:List.range 0 = []:=rfl
theorem range_1:List.range 1 = [0]:=rfl
theorem range_2:List.range 2 = [0,1]:=rfl
theorem range_3:List.range 3 = [0,1,2]:=rfl
theorem range_4:List.range 4 = [0,1,2,3]:=rfl
theorem range_5:List.range 5 = [0,1,2,3,4]:=rfl
theorem range_6:List.range 6 = [0,1,2,3,4,5]:=rfl
def memN:List Nm→Nm→Bool
 | [],_=>false
 | a::r,k=>a.eqk k || memN r k
theorem memN_mem:∀ {l:List Nm} {k:Nm},memN l k = true→InK l k
 | a::r,k,h=>by
  simp only [memN,Bool.or_eq_true] at h
  rcases h with h | h
  ·exact ⟨a,by simp,Nm.eqk_iff.1 h⟩
  ·obtain ⟨j,hj,he⟩:=memN_mem h
   exact ⟨j,by simp [hj],he⟩
theorem inK_eq (l:List Nm) (k:Nm):InK l k = (memN l k = true):=by
 refine propext ⟨fun ⟨j,hj,he⟩=>?_,memN_mem⟩
 induction l with
 | nil=>cases hj
 | cons a r ih =>
  simp only [memN,Bool.or_eq_true]
  rcases List.mem_cons.1 hj with rfl | hj
  ·exact .inl (Nm.eqk_iff.2 he)
  ·exact .inr (ih ⟨j,hj,he⟩ hj)
def rowIs (c:Chunk) (cs:List SV):Prop:=match c with
 | .row _ cs'=>cs' = cs
 | _=>False
theorem leS_frz [Enc α] {hp hp':Hp} {σ:List (Nm×Nm)} {frz:List Nm} {k:Nm} {n n':Nat} (ys:List α) (h1:n = ys.length) (h23:memN frz k = true∧rowIs (getH hp k) (fl ys)) (h4:n' = ys.length):leS hp hp' σ frz (.own k 0 n) (.sl n' (fl ys)) = True:=by
 obtain ⟨h2,h3⟩:=h23
 refine eq_true ?_
 simp only [leS]
 subst h1
 refine ⟨h4.symm,memN_mem h2,?_⟩
 cases hk:getH hp k with
 | row e cs =>
  rw [hk] at h3
  simp only [rowIs] at h3
  subst h3
  refine ⟨e,fl ys,ys.length * Enc.sz α,rfl,fun h0=>by rw [h0,Nat.zero_mul],.inl ⟨fl_cl ys,?_⟩⟩
  rw [appCells,List.drop_zero,fl_take_all ys _ rfl]
 | _=>rw [hk] at h3; exact h3.elim
theorem fl_cut_pre [Enc α] (ys:List α) (b:Int):(fl (cut ys 0 b) <+: fl ys) = True:=by
 refine eq_true ?_
 have:cut ys 0 b = ys.take b.toNat:=by simp [cut]
 rw [this,← fl_take]
 exact List.take_prefix _ _
def mi (m:List (Int×Int)):List (Value×SV):=m.map fun p=>(.int .i64 p.1,.v (.int .i64 p.2))
theorem stM_mi (m:List (Int×Int)):stM (mi m) = true:=by
 induction m with
 | nil=>rfl
 | cons p r ih=>simp only [mi,List.map_cons,stM,SV.st,Bool.true_and]; exact ih
theorem mi_nil:mi [] = []:=rfl
theorem keyEq_int (k a:Int):keyEq (.int .i64 k) (.int .i64 a) = (k == a):=by simp [keyEq,leafEq]
end Go.Sx
end

section
namespace Go.Sx
open Go.RowKit
set_option linter.unusedVariables false
variable {P:Program} {m N:Nat} {Q:SPost} {fr:Fr} {hp:Hp} {nx:Nat} {ops:Array Oper}
theorem back_f {l:List Oper} {K:Fr→Hp→Nat→Prop} (h:RunAt P false ops l fr hp nx [] K):runOps P ops l fr hp nx (EqW K):=h
theorem back_t {l:List Oper} {acc:List Nms} {K:Fr→Hp→Nat→Prop} (h:RunAt P true ops l fr hp nx acc K):runE P ops l fr hp nx acc (EqW K):=h
theorem chk_sx {ρ:Type} {b:Bool} {X:Option ρ} {o:ρ} {G:Prop} (h:(bif b then X else none) = some o) (k:b = true→X = some o→G):G:=by
 cases b with
 | false=>cases h
 | true=>exact k rfl h
theorem or_use {p b:Bool} (h:(!p || b) = true) (hp:p = true):b = true:=by subst hp; exact h
theorem run_br {d:Bool} {l:List Oper} {acc:List Nms} {K:Fr→Hp→Nat→Prop} {ρ:Type} {b:Bool} {X Y:Option ρ} {o:ρ} (h:(bif b then X else Y) = some o) (t:Nat) (ht:getF fr t = .v (.bool b)∨getF fr t = .gd true (.v (.bool b)))
  (k1:b = true→X = some o→RunAt P d ops l ((t,bif (match getF fr t with | .gd _ _=>true | _=>false) then .gd true (.v (.bool true)) else .v (.bool true))::fr) hp nx acc K)
  (k2:b = false→Y = some o→RunAt P d ops l ((t,bif (match getF fr t with | .gd _ _=>true | _=>false) then .gd true (.v (.bool false)) else .v (.bool false))::fr) hp nx acc K):RunAt P d ops l fr hp nx acc K :=
 run_split t b ht (fun hb=>k1 hb (by rw [hb] at h; exact h)) (fun hb=>k2 hb (by rw [hb] at h; exact h))
theorem ex_cast {R:SPost} {id:Nat} (hx:∀ id,R (.exit id) = Q (.exit id)) (h:Q (.exit id) fr hp nx):R (.exit id) fr hp nx:=by rw [hx]; exact h
theorem rt_cast {R:SPost} (hx:R .ret = Q .ret) (h:Q .ret fr hp nx):R .ret fr hp nx:=by rw [hx]; exact h
def resV (P:Program) (fr:Fr) (hp:Hp) (nx:Nat):List ResultVar→Option (List SV)
 | []=>some []
 | .tmp t::r=>(resV P fr hp nx r).map fun xs=>getF fr t::xs
 | .cell a t::r=>match getF fr a with
  | .ptr k off=>match getH hp k with
   | .row _ cs=>bif takeB P t cs off then (match takeS P t cs off [k.key] nx with
    | .ok _ e=>(resV P fr hp nx r).map fun xs=>e.val::xs
    | .bad=>none) else none
   | _=>none
  | _=>none
theorem resV_ok:∀ (rs:List ResultVar) (xs:List SV) (K:List SV→Prop),resV P fr hp nx rs = some xs→K xs→resW P fr hp nx rs K
 | [],xs,K,h,k=>by cases h; exact k
 | .tmp t::r,xs,K,h,k=>by
  simp only [resV,Option.map_eq_some_iff] at h
  obtain ⟨ys,h1,rfl⟩:=h
  exact resV_ok r ys (fun xs=>K (getF fr t::xs)) h1 k
 | .cell a t::r,xs,K,h,k=>by
  simp only [resV] at h
  unfold resW loadS
  split at h
  ·rename_i kk off ha
   rw [ha]
   simp only
   split at h
   ·rename_i e cs hk
    rw [hk]
    simp only [rowS]
    rw [Bool.cond_eq_ite] at h
    split at h
    ·rename_i hb
     split at h
     ·rename_i s e ht
      rw [ht]
      simp only [Option.map_eq_some_iff] at h
      obtain ⟨ys,h1,rfl⟩:=h
      exact ⟨takeB_ok ht hb,resV_ok r ys (fun xs=>K (e.val::xs)) h1 k⟩
     ·cases h
    ·cases h
   ·cases h
  ·cases h
theorem ret_at {rs:List ResultVar} {Post:SV→Hp→Nat→Prop} (x:SV) (h:(resV P fr hp nx rs).map oneOf = some x) (k:RetW P m Post x hp):endS P rs m Post .ret fr hp nx:=by
 obtain ⟨ys,h1,rfl⟩:=Option.map_eq_some_iff.1 h
 exact resV_ok rs ys _ h1 k
theorem ret_an {rs:List ResultVar} {Post:SV→Hp→Nat→Prop} (x:SV) (h:(resV P fr hp nx rs).map oneOf = some x) (k:RetW P m Post x hp):endS P rs m Post .normal fr hp nx:=by
 obtain ⟨ys,h1,rfl⟩:=Option.map_eq_some_iff.1 h
 exact resV_ok rs ys _ h1 k
theorem allP_nil:AllP []:=trivial
theorem allP_cons {p:Prop} {l:List Prop} (h:p) (t:AllP l):AllP (p::l):=⟨h,t⟩
theorem ob_ok {s:Prop} {v v':SV} {u u':Hp} {n:Nat} {r:List Nm} (hs:s) (hv:v = v') (hu:u = u'):resOb (.ok s ⟨v,u,n,r⟩) ⟨v',u',n,r⟩:=⟨hs,hv,hu,rfl,rfl⟩
variable {α:Type}
theorem ob_ix_l [Enc α] (xs:List α) (z nx:Nat) (i:Int) (k:0≤i∧i < (xs.length:Int)):resOb (.ok (0≤i∧i < (xs.length:Int)) ⟨.iptr (fl xs) (i.toNat * z),[],nx,[]⟩) ⟨.iptr (fl xs) (i.toNat * z),[],nx,[]⟩:=ob_ok k rfl rfl
theorem ob_ix_o (kk:Nm) (n off z nx:Nat) (i:Int) (k:0≤i∧i < (n:Int)):resOb (.ok (0≤i∧i < (n:Int)) ⟨.ptr kk (off+i.toNat * z),[],nx,[kk.key]⟩) ⟨.ptr kk (off+i.toNat * z),[],nx,[kk.key]⟩:=ob_ok k rfl rfl
theorem ob_ld [Enc α] (xs:List α) (i:Int) (z j off:Nat) (k:0≤i∧i < (xs.length:Int)) (hz:Enc.sz α = z) (hj:j < z) (ho:off = i.toNat * z+j) (d v:SV) (hv:(Enc.cells (ix xs i)).getD j d = v) (nx:Nat) (rds:List Nm):resOb (.ok (off < (fl xs).length) ⟨(fl xs).getD off d,[],nx,rds⟩) ⟨v,[],nx,rds⟩:=by
 subst hz
 have hlt:i.toNat < xs.length:=by omega
 have hle:(i.toNat+1) * Enc.sz α≤xs.length * Enc.sz α:=Nat.mul_le_mul_right _ hlt
 rw [Nat.add_mul] at hle
 refine ob_ok ?_ ?_ rfl
 ·rw [fl_length]; omega
 ·rw [ho,← hv]; exact fl_cell xs i j k d hj
theorem ob_ldw [Enc α] (xs:List α) (i:Int) (z off:Nat) (k:0≤i∧i < (xs.length:Int)) (hz:Enc.sz α = z) (ho:off = i.toNat * z) (v:List SV) (hv:Enc.cells (ix xs i) = v) (nx:Nat) (rds:List Nm):resOb (.ok (off+z≤(fl xs).length) ⟨.agg (((fl xs).drop off).take z),[],nx,rds⟩) ⟨.agg v,[],nx,rds⟩:=by
 subst hz
 have hlt:i.toNat < xs.length:=by omega
 have hle:(i.toNat+1) * Enc.sz α≤xs.length * Enc.sz α:=Nat.mul_le_mul_right _ hlt
 rw [Nat.add_mul] at hle
 refine ob_ok ?_ ?_ rfl
 ·rw [fl_length]; omega
 ·rw [ho,← hv]; exact congrArg SV.agg (fl_whole xs i k)
theorem ob_cut [Enc α] (xs:List α) (l h:Int) (z nx:Nat) (hz:Enc.sz α = z) (k:0≤l∧l≤h∧h≤(xs.length:Int)):resOb (.ok (0≤l∧l≤h∧h≤(xs.length:Int)) ⟨.sl (h.toNat - l.toNat) (appCells (fl xs) (l.toNat * z) ((h.toNat - l.toNat) * z)),[],nx,[]⟩) ⟨.sl (cut xs l h).length (fl (cut xs l h)),[],nx,[]⟩:=by
 subst hz
 exact ob_ok k (fl_cut xs l h k) rfl
theorem ob_app [Enc α] (xs ys:List α) (z B:Nat) (hz:Enc.sz α = z) (news:List SV) (m:Nat) (hn:news = fl ys) (hm:m = ys.length) (s0:Prop) (h0:s0) (e:TypeId) (hB:P.bytesOf e = B) (hpos:0 < B) (hle:(xs++ys).length * B≤140737488355328) (kk:Nat) (nx:Nat) (rds:List Nm) :
  resOb (.ok (s0∧e = e∧news.length = m * z∧news.all oneS = true∧0+xs.length * z≤(fl xs).length∧0 < P.bytesOf e∧(xs.length+m) * P.bytesOf e≤140737488355328) ⟨.own nx 0 (xs.length+m),[(Nm.t nx,.row e (appCells (fl xs) 0 (xs.length * z)++news)),(Nm.t kk,.dead)],nx+1,Nm.t kk::rds⟩) ⟨.own nx 0 (xs++ys).length,[(Nm.t nx,.row e (fl (xs++ys))),(Nm.t kk,.dead)],nx+1,Nm.t kk::rds⟩:=by
 subst hz; subst hn; subst hm; subst hB
 rw [List.length_append] at hle ⊢
 refine ob_ok ⟨h0,rfl,fl_length ys,fl_one ys,by rw [fl_length,Nat.zero_add]; exact Nat.le_refl _,hpos,hle⟩ rfl ?_
 rw [appCells,List.drop_zero,fl_take_all xs _ rfl,fl_append]
theorem app_own [Enc α] (ys:List α) (z:Nat) (hz:Enc.sz α = z):appCells (fl ys) 0 (ys.length * z) = fl ys:=by
 subst hz; rw [appCells,List.drop_zero,fl_take_all ys _ rfl]
theorem app_own_le [Enc α] (ys:List α) (z:Nat) (hz:Enc.sz α = z):0+ys.length * z≤(fl ys).length:=by
 subst hz; rw [fl_length,Nat.zero_add]; exact Nat.le_refl _
theorem rs {d:Bool} {l:List Oper} {acc:List Nms} {K:Fr→Hp→Nat→Prop} (n:Nat) (sc:List (Option Eff)) (obs:List Prop) (h:((evalS P d ops n l sc ⟨fr,hp,nx,acc,[]⟩).map (·.obs)) = some obs) (ho:AllP obs)
  (k:RunAt P d ops (l.drop n) (getSeg (evalS P d ops n l sc ⟨fr,hp,nx,acc,[]⟩)).fr (getSeg (evalS P d ops n l sc ⟨fr,hp,nx,acc,[]⟩)).hp (getSeg (evalS P d ops n l sc ⟨fr,hp,nx,acc,[]⟩)).nx (getSeg (evalS P d ops n l sc ⟨fr,hp,nx,acc,[]⟩)).acc K):RunAt P d ops l fr hp nx acc K:=by
 obtain ⟨s,h1,h2⟩:=Option.map_eq_some_iff.1 h
 exact run_seg n sc obs (by rw [h1]; rfl) (by rw [h1]; exact h2) ho k
theorem rf {l:List Oper} {acc:List Nms} {K:Fr→Hp→Nat→Prop} (fr':Fr) (hp':Hp) (nx':Nat) (h:(l,keepF fr fr',keepH hp hp',coverH hp hp',nx) = ([],fr',hp',true,nx')) (k:K fr' hp' nx'):RunAt P false ops l fr hp nx acc K:=by
 simp only [Prod.mk.injEq] at h
 exact run_f fr' hp' nx' h.1 h.2.1 h.2.2.1 h.2.2.2.1 h.2.2.2.2 k
theorem rt {l:List Oper} {acc:List Nms} {K:Fr→Hp→Nat→Prop} (fr':Fr) (hp':Hp) (nx':Nat) (h5:P.follows .mixedOrders = true) (h:(l,keepF fr fr',keepH hp hp',coverH hp hp',nx,orderOk ops acc (aheads ops.toList)) = ([],fr',hp',true,nx',true)) (k:K fr' hp' nx'):RunAt P true ops l fr hp nx acc K:=by
 simp only [Prod.mk.injEq] at h
 exact run_t fr' hp' nx' h.1 h.2.1 h.2.2.1 h.2.2.2.1 h.2.2.2.2.1 h5 h.2.2.2.2.2 k
end Go.Sx
end

section
namespace Go.Sx
open Go.RowKit
theorem rowIs_self (e:TypeId) (cs:List SV):rowIs (.row e cs) cs = True:=eq_true rfl
theorem ble_dec (a b:Nat):Nat.ble a b = decide (a≤b):=by rw [Bool.eq_iff_iff]; simp
attribute [push_cast] ble_dec cond_true cond_false Bool.and_true Bool.true_and Bool.or_true Bool.true_or Bool.or_false Bool.false_or Bool.and_false Bool.false_and Bool.and_self Bool.not_true Bool.not_false decide_true decide_false
attribute [push_cast] List.map_cons List.map_nil List.length_cons List.length_nil List.cons_append List.nil_append List.length_append List.append_nil List.length_set List.length_replicate
attribute [push_cast high] fl_take_all leS_frz
attribute [push_cast] true_or or_true false_or or_false List.all_cons List.all_nil nimC nimL
attribute [push_cast] fl_cut_pre fl_length fl_nil fl_merge fl_snoc_list fl_snoc_int fl_snoc_bool fl_cons_int renL_fl sz_int sz_bool sz_list cells_int cells_bool cells_lst memN rowIs_self mi_nil stM_mi
theorem nm_lit (n:Nat):(OfNat.ofNat n:Nm) = .t n:=rfl
theorem eqk_tt (a b:Nat):Nm.eqk (.t a) (.t b) = (a == b):=rfl
theorem eqk_ts (a F:Nat) (i:Int):Nm.eqk (.t a) (.s F i) = false:=rfl
theorem eqk_st (a F:Nat) (i:Int):Nm.eqk (.s F i) (.t a) = false:=rfl
theorem eqk_ss (F G:Nat) (i j:Int):Nm.eqk (.s F i) (.s G j) = (F == G):=rfl
theorem mem_t (c:Chunk) (k:Nat):c.mem (.t k) = c:=rfl
theorem mem_s (c:Chunk) (F:Nat) (i:Int):c.mem (.s F i) = c.at i:=rfl
theorem to_t (j:Nm) (k:Nat):j.to (.t k) = j:=rfl
theorem to_s (G F:Nat) (i j:Int):Nm.to (.s G j) (.s F i) = .s G i:=rfl
theorem leC_t (hp hp':Hp) (σ:List (Nm×Nm)) (frz:List Nm) (k:Nat) (c:Chunk):leC hp hp' σ frz (.t k) c = leC1 hp hp' σ frz (.t k) c:=rfl
theorem leC_s (hp hp':Hp) (σ:List (Nm×Nm)) (frz:List Nm) (F:Nat) (z:Int) (c:Chunk):leC hp hp' σ frz (.s F z) c =∀i:Int,leC1 hp hp' σ frz (.s F i) (c.at i):=rfl
theorem beq_tt (a b:Nat):((Nm.t a) == (Nm.t b)) = (a == b):=rfl
theorem beq_ts (a F:Nat) (i:Int):((Nm.t a) == (Nm.s F i)) = false:=rfl
theorem beq_st (a F:Nat) (i:Int):((Nm.s F i) == (Nm.t a)) = false:=rfl
attribute [push_cast] nm_lit eqk_tt eqk_ts eqk_st eqk_ss mem_t mem_s to_t to_s leC_t leC_s beq_tt beq_ts beq_st Nm.t.injEq Nm.s.injEq leC1
attribute [push_cast] inK_eq
section
variable {hp hp':Hp} {σ:List (Nm×Nm)} {frz:List Nm}
theorem leS_any (s:SV):leS hp hp' σ frz s .any = True:=by simp only [leS]
theorem leS_own (k k':Nm) (o n o' n':Nat):leS hp hp' σ frz (.own k o n) (.own k' o' n') = (getN σ k' = some k∧o = o'∧n = n'∧(getH hp' k').live = true):=by simp only [leS]
theorem leS_vown (x:Value) (k':Nm) (o' n':Nat):leS hp hp' σ frz (.v x) (.own k' o' n') = (x = .slice none 0 0∧o' = 0∧n' = 0∧(getH hp' k').live = true∧getN σ k' = none):=by simp only [leS]
theorem leS_ptr (k k':Nm) (o o':Nat):leS hp hp' σ frz (.ptr k o) (.ptr k' o') = (getN σ k' = some k∧o = o'∧(getH hp' k').live = true):=by simp only [leS]
theorem leS_mp (k k':Nm):leS hp hp' σ frz (.mp k) (.mp k') = (getN σ k' = some k∧(getH hp' k').live = true):=by simp only [leS]
theorem leS_it (k k':Nm):leS hp hp' σ frz (.it k) (.it k') = (getN σ k' = some k∧(getH hp' k').live = true):=by simp only [leS]
theorem leS_agg (xs ys:List SV):leS hp hp' σ frz (.agg xs) (.agg ys) = ((stL ys = true∧xs = ys)∨leL hp hp' σ frz xs ys):=by simp only [leS]
theorem leS_tup (xs ys:List SV):leS hp hp' σ frz (.tup xs) (.tup ys) = leL hp hp' σ frz xs ys:=by simp only [leS]
theorem leS_clo (f f':FuncId) (xs ys:List SV):leS hp hp' σ frz (.clo f xs) (.clo f' ys) = (f = f'∧leL hp hp' σ frz xs ys):=by simp only [leS]
theorem leS_mth (t t':String) (x y:SV):leS hp hp' σ frz (.mth t x) (.mth t' y) = (t = t'∧leS hp hp' σ frz x y):=by simp only [leS]
theorem leS_ifc (t t':TypeId) (x y:SV):leS hp hp' σ frz (.ifc t x) (.ifc t' y) = (t = t'∧leS hp hp' σ frz x y):=by simp only [leS]
theorem leS_vsl (x:Value) (n':Nat) (cs':List SV):leS hp hp' σ frz (.v x) (.sl n' cs') = (x = .slice none 0 0∧n' = 0∧cs' = []):=by simp only [leS]
theorem leS_slsl (n n':Nat) (cs cs':List SV):leS hp hp' σ frz (.sl n cs) (.sl n' cs') = (n = n'∧cs = cs'∧clL cs = true):=by simp only [leS]
def frzRow (hp hp':Hp) (σ:List (Nm×Nm)) (frz:List Nm) (c:Chunk) (cs':List SV):Prop:=match c with
 | .row _ cs=>leL hp hp' σ frz cs cs'
 | _=>False
theorem frzRow_row (e:TypeId) (cs cs':List SV):frzRow hp hp' σ frz (.row e cs) cs' = leL hp hp' σ frz cs cs':=propext Iff.rfl
theorem leS_pip {k:Nm} {o o':Nat} {cs':List SV} (h:o = o'∧memN frz k = true∧frzRow hp hp' σ frz (getH hp k) cs'):leS hp hp' σ frz (.ptr k o) (.iptr cs' o') = True:=by
 obtain ⟨rfl,h2,h3⟩:=h
 refine eq_true ?_
 simp only [leS]
 refine ⟨trivial,memN_mem h2,?_⟩
 cases hk:getH hp k with
 | row e cs =>
  rw [hk] at h3
  obtain ⟨l1,l2⟩:=leL_get h3
  exact ⟨e,cs,rfl,Nat.le_of_eq l1.symm,fun P i x y hx hy=>leS_sound (l2 i x y hx hy)⟩
 | _=>rw [hk] at h3; exact h3.elim
theorem leS_ipip (o o':Nat) (cs cs':List SV):leS hp hp' σ frz (.iptr cs o) (.iptr cs' o') = (cs = cs'∧o = o'∧clL cs = true):=by simp only [leS]
theorem leS_v (s:SV) (y:Value):leS hp hp' σ frz s (.v y) = (s = .v y):=by simp only [leS]
end
attribute [push_cast] leS_any leS_own leS_vown leS_ptr leS_mp leS_it leS_agg leS_tup leS_clo leS_ifc leS_mth leS_vsl leS_slsl leS_pip leS_ipip leS_v frzRow_row
attribute [push_cast] leL leF leH leM getN_cons getN_nil getF_cons getF_nil getH_cons getH_nil stL SV.st stM clL SV.cl fl_st fl_cl fl_one Chunk.live eq_self Option.some.injEq and_self and_true true_and SV.nim nimL nimH nimC renS renL renC
end Go.Sx
end

section
namespace Go.Sx
open Go.RowKit
set_option linter.unusedVariables false
variable {P:Program} {m N:Nat} {Q:SPost} {fr:Fr} {hp:Hp} {nx:Nat} {ops:Array Oper}
theorem stepW_sem {dt:Bool} {o:Oper} {K:SV→Hp→Nat→List Nm→Prop} (hd:doneS ops fr o = some true) (hg:o.guard.isNone || !quietP P o.op = true) (hc:callOf true fr o.op = none) (hso:semOk o.op = true) (hs:SemX dt P o fr hp nx K):stepW dt P ops o fr hp nx K:=by
 have core:coreW dt P true o fr hp nx K:=by
  unfold coreW
  rw [hc]
  exact .inl ⟨rfl,hso,hs⟩
 unfold stepW
 unfold doneS at hd
 cases hq:o.guard with
 | none=>exact core
 | some jw =>
  rw [hq] at hd hg
  simp only at hd ⊢
  rw [hd]
  have:quietP P o.op = false:=by simpa using hg
  simp only [this,cond_false]
  exact ⟨fun _=>core,(fun he=>by cases he)⟩
def headOp (P:Program) (ops:Array Oper) (fr:Fr):List Oper→Option Oper
 | o::_=>match doneS ops fr o,callOf true fr o.op with
  | some true,none=>bif o.guard.isNone || !quietP P o.op then some o else none
  | _,_=>none
 | []=>none
theorem run_sem {d:Bool} {l:List Oper} {acc:List Nms} {K:Fr→Hp→Nat→Prop} (o:Oper) (e:Eff) (h:headOp P ops fr l = some o) (hle:nx≤e.nx) (hso:semOk o.op = true) (hs:SemW P o fr hp nx (EqEff e))
  (k:RunAt P d ops (l.drop 1) (putF o.dst e.val fr) (e.upd++hp) (bif d then e.nx+1 else e.nx) (acc++[⟨e.upd.map (·.1.key),e.rds,nx,e.nx⟩]) K):RunAt P d ops l fr hp nx acc K:=by
 cases l with
 | nil=>cases h
 | cons o' rest =>
  simp only [headOp] at h
  split at h
  ·rename_i h1 h2
   rw [Bool.cond_eq_ite] at h
   split at h
   ·rename_i h3
    cases h
    cases d with
    | false=>exact stepW_sem h1 (by simpa using h3) h2 hso (K:=fun val upd nx' _=>runOps P ops rest (putF o.dst val fr) (upd++hp) nx' (EqW K)) (hs.mono rfl fun v u n r he=>by obtain ⟨rfl,rfl,rfl,rfl⟩:=he; exact k)
    | true=>exact stepW_sem (dt:=true) (hp:=hp) (nx:=nx) (P:=P) h1 (by simpa using h3) h2 hso (K:=fun val upd nx' rds=>runE P ops rest (putF o.dst val fr) (upd++hp) (nx'+1) (acc++[Nms.mk (upd.map (·.1.key)) rds nx nx']) (EqW K)) ⟨e,hle,k,hs⟩
   ·cases h
  ·cases h
theorem semW_of {o:Oper} {e:Eff} (hk:UpdOk hp nx e.upd e.nx e.rds)
  (h:∀ (X:Cx) (ids:Ids) (w:World) (fr':Fr) (hp':Hp) (a:Act),X.P = P→HeapX X hp' nx ids w→(∀ d,DenX X hp' ids w (getF fr' d) (a.tmps.getD d undef))→(∀ x,x ∈ o.op.operands.toList→evS true fr' x = evS true fr x)→(∀ k:Nm,k.key ∈ e.rds→getH hp' k = getH hp k) →
   SoundN X hp' ids w ((execOp a.eval o).run X.P w) e):SemW P o fr hp nx (EqEff e):=by
 intro X ids w fr' hp' a hP h1 h2 h3 h4 h5 h6 KK Q hK
 obtain ⟨h7,h8⟩:=h6 e.val e.upd e.nx e.rds ⟨rfl,rfl,rfl,rfl⟩
 obtain ⟨x,w',ids',g1,g2,g3,g4⟩:=h X ids w fr' hp' a hP ⟨h1,h5,h2⟩ h3 (fun x hx=>evS_local fun t ht=>h4 t (mem_names hx ht)) h8
 subst hP
 exact wp_of_soundN g1 (hK _ _ _ _ _ _ _ ⟨rfl,rfl,rfl,rfl⟩ hk g2 g3 g4)
variable {α:Type}
theorem cut_cells [Enc α] (ys:List α) (l h:Int):appCells (fl ys) (l.toNat * Enc.sz α) ((cut ys l h).length * Enc.sz α) = fl (cut ys l h):=by
 rw [fl_app]
 congr 1
 simp only [cut,List.length_take,List.length_drop]
 rw [List.take_eq_take_iff]
 simp
theorem leS_cut [Enc α] {hp hp':Hp} {σ:List (Nm×Nm)} {frz:List Nm} {k:Nm} {n n' off:Nat} (ys:List α) (a b:Int) (h0:off = a.toNat * Enc.sz α) (h1:n = (cut ys a b).length) (h23:memN frz k = true∧rowIs (getH hp k) (fl ys)) (h4:n' = (cut ys a b).length):leS hp hp' σ frz (.own k off n) (.sl n' (fl (cut ys a b))) = True:=by
 obtain ⟨h2,h3⟩:=h23
 refine eq_true ?_
 simp only [leS]
 subst h0; subst h1
 refine ⟨h4.symm,memN_mem h2,?_⟩
 cases hk:getH hp k with
 | row e cs =>
  rw [hk] at h3
  simp only [rowIs] at h3
  subst h3
  exact ⟨e,fl ys,(cut ys a b).length * Enc.sz α,rfl,fun h0=>by rw [h0,Nat.zero_mul],.inl ⟨fl_cl ys,(cut_cells ys a b).symm⟩⟩
 | _=>rw [hk] at h3; exact h3.elim
attribute [push_cast high] leS_cut
theorem sem_mk0 {o:Oper} {t e:TypeId} {z:Nat} (ho:o.op = .buildSlice t 0 #[]) (hst:sliceT P t = some (e,z)):SemW P o fr hp nx (EqEff ⟨.own nx 0 0,[(Nm.t nx,.row e [])],nx+1,[]⟩):=by
 refine semW_of ⟨Nat.le_succ _,fun p hp1=>?_⟩ ?_
 ·rcases List.mem_cons.1 hp1 with rfl | hp1
  ·exact .inl ⟨Nat.le_refl _,Nat.lt_succ_self _⟩
  ·cases hp1
 intro X ids w fr' hp' a hP hH hf hev hrd
 subst hP
 obtain ⟨i,hu,hi',rfl⟩:=sliceT_some hst
 obtain ⟨g1,g2⟩:=heap_alloc hH (e:=e) (cs:=[]) (arr:=#[]) (Nat.le_refl _) (fun j x hj=>by simp at hj)
 refine ⟨.slice (some ⟨w.heap.size,0,none⟩) 0 0,_,_,.inl ?_,g1,g2,?_⟩
 ·unfold execOp
  rw [ho]
  simp [Instr.buildSlice,run_underlying hu,sizeOf,typeInfo,hi',Instr.fill,newRow,show Array.range 0 = #[] from by decide]
 ·refine .own _ _ (by
   show (getH ((nx,Chunk.row e _)::hp') nx).live = true
   rw [getH_upd,upd_same]; rfl) ⟨Nat.le_refl _,by unfold maxLen; omega,fun e2 cs2 hc2=>by
    replace hc2:getH ((nx,Chunk.row e _)::hp') nx = _:=hc2
    rw [getH_upd,upd_same] at hc2
    cases hc2; exact Nat.zero_le _,.inl ⟨rfl,rfl⟩⟩
theorem nimL_app {xs ys:List SV} (h:nimL xs = true) (g:nimL ys = true):nimL (xs++ys) = true:=by
 induction xs with
 | nil=>exact g
 | cons x xs ih=>simp only [nimL,Bool.and_eq_true,List.cons_append] at h ⊢; exact ⟨h.1,ih h.2⟩
theorem nimL_fl [Enc α] (h:∀ x:α,nimL (Enc.cells x) = true) (xs:List α):nimL (fl xs) = true:=by
 induction xs with
 | nil=>rfl
 | cons x xs ih=>rw [fl_cons]; exact nimL_app (h x) ih
@[push_cast] theorem nim_int (xs:List Int):nimL (fl xs) = true:=nimL_fl (fun _=>rfl) xs
@[push_cast] theorem nim_bool (xs:List Bool):nimL (fl xs) = true:=nimL_fl (fun _=>rfl) xs
theorem keep_getH {hp hpL:Hp} (h:(keepH hp hpL,coverH hp hpL) = (hpL,true)):getH hp = getH hpL:=by
 simp only [Prod.mk.injEq] at h
 exact funext fun k=>((keep_eq (fr:=[]) (fr':=[]) rfl h.1 h.2).2 k).symm
theorem call_x {d:Bool} {f:FuncId} {args:List SV} {dst:Option Tmp} {ops:Array Oper} {l:List Oper} {acc:List Nms} {K:Fr→Hp→Nat→Prop} {args':List SV} {hin:Hp} {m:Nat} {X:SV} {H:Hp} {nn:Nat}
  (spec:SpecW P f args' hin m (fun x h n=>x = X∧h = H∧n = nn)) (h:headCall ops fr l = some (f,args,dst)) (hpL:Hp) (nxL:Nat) (hh:(keepH hp hpL,coverH hp hpL,nx) = (hpL,true,nxL)) (σ:List (Nm×Nm)) (bor:List Nm) (resL:SV) (hpB:Hp)
  (h1:leL hpL hin σ bor args args') (h2:leH hpL hin σ bor hin) (h3:(okN 0 σ bor,okH 0 m σ hin,okC m hin σ,wfH H) = (true,true,true,true))
  (h6:bor = []∨(X.nim = true∧nimH H = true)) (e1:renS (bck (getN σ) nxL) X = resL) (e2:back (getN σ) nxL m H hpL = hpB)
  (k:RunAt P d ops (l.drop 1) (putF dst resL fr) (hpB++hp) (bif d then nxL+nn+1 else nxL+nn) (acc++[⟨hpB.map (·.1.key),bor.map Nm.key++passK (getN σ) m,nxL,nxL+nn⟩]) K) (hfam:famOk hpL hin σ:=by simp only [famOk,and_self]):RunAt P d ops l fr hp nx acc K:=by
 simp only [Prod.mk.injEq] at hh h3
 obtain ⟨g1,g2,rfl⟩:=hh
 obtain ⟨h3,h4,h5,h7⟩:=h3
 have eh:=keep_getH (show (keepH hp hpL,coverH hp hpL) = (hpL,true) by rw [g1,g2])
 obtain ⟨l1,l2⟩:=leL_get h1
 have hok:=handed_ok h5 hfam
 have inj:∀ k1 k2 j,getN σ k1 = some j→getN σ k2 = some j→k1 = k2:=by
  simp only [okN,Bool.and_eq_true] at h3
  exact nodupN_inj h3.1.1 h3.1.2
 have fresh:∀ k:Nm,m≤k.base→getN σ k = none∧getH hin k = .unborn:=fun k hk=>⟨by
  cases hn:getN σ k with
  | none=>rfl
  | some j=>have:=(hok k j hn).1; omega,okH_fresh h4 k hk⟩
 have eb:back (getN σ) nx m H hp = hpB:=by
  rw [← e2]
  exact back_local (fun k hk=>(fresh k hk).1) (getN_sig σ) (fun k _=>by rw [eh]) H
 subst e1; subst eb
 refine run_call f args dst h ?_
 cases d with
 | false =>
  refine ⟨args',hin,m,_,getN σ,bor,spec,by rw [eh]; exact sub_mk h2 h3,getN_sig σ,fresh,inj,fun k j hk=>by rw [eh]; exact (hok k j hk).2,l1,fun i x y hx hy=>by rw [eh]; exact leS_sound (l2 i x y hx hy),⟨_,_,_,rfl,rfl,rfl⟩,(fun h=>by cases h),?_⟩
  rintro _ _ _ ⟨rfl,rfl,rfl⟩
  exact ⟨h7,h6,_,Trim.refl _ _ _,k⟩
 | true =>
  refine ⟨args',hin,m,_,getN σ,bor,spec,by rw [eh]; exact sub_mk h2 h3,getN_sig σ,fresh,inj,fun k j hk=>by rw [eh]; exact (hok k j hk).2,l1,fun i x y hx hy=>by rw [eh]; exact leS_sound (l2 i x y hx hy),⟨_,_,_,rfl,rfl,rfl⟩,?_,?_⟩
  ·rintro _ _ _ _ _ _ _ ⟨rfl,rfl,rfl⟩ ⟨rfl,rfl,rfl⟩; exact ⟨rfl,rfl,rfl⟩
  ·rintro _ _ _ ⟨rfl,rfl,rfl⟩
   exact ⟨h7,h6,_,Trim.refl _ _ _,k⟩
def noK (ks:List Nm) (p:Nm×Chunk):Bool:=!ks.any fun k=>k.eqk p.1
theorem trim_filter {hp:Hp} (ks:List Nm) (rds:List Nm) (hr:ks.all (fun k=>rds.contains k.key) = true):∀ b:Hp,(∀ kk ∈ ks,∀ k:Nm,kk.key = k.key→getH (b++hp) k = getH hp k)→Trim hp b (b.filter (noK ks)) rds:=by
 intro b hb
 have yes:∀ (b:Hp) (k:Nm),(∃ kk ∈ ks,kk.key = k.key)→getH (b.filter (noK ks)++hp) k = getH hp k:=by
  intro b k hk
  induction b with
  | nil=>rfl
  | cons p r ih =>
   by_cases hp1:noK ks p = true
   ·rw [List.filter_cons_of_pos hp1,List.cons_append,getH_cons]
    have:p.1.eqk k = false:=by
     refine Nm.eqk_no fun e=>?_
     obtain ⟨kk,h1,h2⟩:=hk
     unfold noK at hp1
     rw [Bool.not_eq_true'] at hp1
     have h3:(ks.any fun k=>k.eqk p.1) = true:=List.any_eq_true.2 ⟨kk,h1,Nm.eqk_iff.2 (h2.trans e.symm)⟩
     rw [h3] at hp1; cases hp1
    rw [this,cond_false]; exact ih
   ·rw [List.filter_cons_of_neg hp1]; exact ih
 have no:∀ (b:Hp) (k:Nm),¬ (∃ kk ∈ ks,kk.key = k.key)→getH (b.filter (noK ks)++hp) k = getH (b++hp) k:=by
  intro b k hk
  induction b with
  | nil=>rfl
  | cons p r ih =>
   by_cases hp1:noK ks p = true
   ·rw [List.filter_cons_of_pos hp1,List.cons_append,List.cons_append,getH_cons,getH_cons,ih]
   ·rw [List.filter_cons_of_neg hp1,List.cons_append,getH_cons,ih]
    have:p.1.eqk k = false:=by
     refine Nm.eqk_no fun e=>hk ?_
     unfold noK at hp1
     rw [Bool.not_eq_true',Bool.not_eq_false] at hp1
     obtain ⟨kk,h1,h2⟩:=List.any_eq_true.1 hp1
     exact ⟨kk,h1,(Nm.eqk_iff.1 h2).trans e⟩
    rw [this,cond_false]
 refine ⟨fun p hp1=>⟨p,(List.mem_filter.1 hp1).1,rfl⟩,fun p hp1=>?_,fun k=>?_⟩
 ·by_cases h:noK ks p = true
  ·exact .inl ⟨p,List.mem_filter.2 ⟨hp1,h⟩,rfl⟩
  ·right
   unfold noK at h
   rw [Bool.not_eq_true',Bool.not_eq_false] at h
   obtain ⟨kk,h1,h2⟩:=List.any_eq_true.1 h
   have:=List.all_eq_true.1 hr kk h1
   rw [← Nm.eqk_iff.1 h2]
   simpa using this
 ·by_cases hk:∃ kk ∈ ks,kk.key = k.key
  ·rw [yes b k hk]
   obtain ⟨kk,h1,h2⟩:=hk
   exact (hb kk h1 k h2).symm
  ·exact no b k hk
def stillAll (hp b:Hp):List Nm→Prop
 | []=>True
 | kk::r=>(∀ k:Nm,kk.key = k.key→getH (b++hp) k = getH hp k)∧stillAll hp b r
theorem still_t {hp b:Hp} {a:Nat} (h:getH (b++hp) (.t a) = getH hp (.t a)):∀ k:Nm,(Nm.t a).key = k.key→getH (b++hp) k = getH hp k:=fun k hk=>by
 have:=Nm.key_eq_t.1 hk.symm
 subst this; exact h
theorem still_s {hp b:Hp} {F:Nat} (h:∀ i,getH (b++hp) (.s F i) = getH hp (.s F i)):∀ k:Nm,(Nm.s F 0).key = k.key→getH (b++hp) k = getH hp k:=fun k hk=>by
 cases k with
 | t a=>simp [Nm.key] at hk
 | s G i =>
  simp only [Nm.key_s,Nm.s.injEq,and_true] at hk
  subst hk; exact h i
theorem still_all {hp b:Hp}:∀ {ks:List Nm},stillAll hp b ks→∀ kk ∈ ks,∀ k:Nm,kk.key = k.key→getH (b++hp) k = getH hp k
 | [],_,kk,h=>by cases h
 | q::r,hs,kk,h=>by
  rcases List.mem_cons.1 h with rfl | h
  ·exact hs.1
  ·exact still_all hs.2 kk h
theorem call_xT {d:Bool} {f:FuncId} {args:List SV} {dst:Option Tmp} {ops:Array Oper} {l:List Oper} {acc:List Nms} {K:Fr→Hp→Nat→Prop} {args':List SV} {hin:Hp} {m:Nat} {X:SV} {H:Hp} {nn:Nat}
  (spec:SpecW P f args' hin m (fun x h n=>x = X∧h = H∧n = nn)) (h:headCall ops fr l = some (f,args,dst)) (hpL:Hp) (nxL:Nat) (hh:(keepH hp hpL,coverH hp hpL,nx) = (hpL,true,nxL)) (σ:List (Nm×Nm)) (bor:List Nm) (resL:SV) (hpB:Hp) (ks:List Nm) (hpT:Hp)
  (h1:leL hpL hin σ bor args args') (h2:leH hpL hin σ bor hin) (h3:(okN 0 σ bor,okH 0 m σ hin,okC m hin σ,wfH H) = (true,true,true,true))
  (h6:bor = []∨(X.nim = true∧nimH H = true)) (e1:renS (bck (getN σ) nxL) X = resL) (e2:back (getN σ) nxL m H hpL = hpB) (ht:(hpB.filter (noK ks),ks.all fun k=>(bor.map Nm.key++passK (getN σ) m).contains k.key) = (hpT,true)) (hs:stillAll hpL hpB ks)
  (k:RunAt P d ops (l.drop 1) (putF dst resL fr) (hpT++hp) (bif d then nxL+nn+1 else nxL+nn) (acc++[⟨hpT.map (·.1.key),bor.map Nm.key++passK (getN σ) m,nxL,nxL+nn⟩]) K) (hfam:famOk hpL hin σ:=by simp only [famOk,and_self]):RunAt P d ops l fr hp nx acc K:=by
 simp only [Prod.mk.injEq] at hh h3 ht
 obtain ⟨g1,g2,rfl⟩:=hh
 obtain ⟨h3,h4,h5,h7⟩:=h3
 obtain ⟨ht,htk⟩:=ht
 have eh:=keep_getH (show (keepH hp hpL,coverH hp hpL) = (hpL,true) by rw [g1,g2])
 obtain ⟨l1,l2⟩:=leL_get h1
 have hok:=handed_ok h5 hfam
 have inj:∀ k1 k2 j,getN σ k1 = some j→getN σ k2 = some j→k1 = k2:=by
  simp only [okN,Bool.and_eq_true] at h3
  exact nodupN_inj h3.1.1 h3.1.2
 have fresh:∀ k:Nm,m≤k.base→getN σ k = none∧getH hin k = .unborn:=fun k hk=>⟨by
  cases hn:getN σ k with
  | none=>rfl
  | some j=>have:=(hok k j hn).1; omega,okH_fresh h4 k hk⟩
 have eb:back (getN σ) nx m H hp = hpB:=by
  rw [← e2]
  exact back_local (fun k hk=>(fresh k hk).1) (getN_sig σ) (fun k _=>by rw [eh]) H
 have trim:Trim hp hpB hpT (bor.map Nm.key++passK (getN σ) m):=by
  rw [← ht]
  refine trim_filter ks _ htk hpB fun kk hk k e=>?_
  have:=still_all hs kk hk k e
  have e3:getH (hpB++hp) k = getH (hpB++hpL) k:=by rw [getH_append,getH_append,eh]
  rw [e3,this,eh]
 subst e1; subst eb
 refine run_call f args dst h ?_
 cases d with
 | false =>
  refine ⟨args',hin,m,_,getN σ,bor,spec,by rw [eh]; exact sub_mk h2 h3,getN_sig σ,fresh,inj,fun k j hk=>by rw [eh]; exact (hok k j hk).2,l1,fun i x y hx hy=>by rw [eh]; exact leS_sound (l2 i x y hx hy),⟨_,_,_,rfl,rfl,rfl⟩,(fun h=>by cases h),?_⟩
  rintro _ _ _ ⟨rfl,rfl,rfl⟩
  exact ⟨h7,h6,_,trim,k⟩
 | true =>
  refine ⟨args',hin,m,_,getN σ,bor,spec,by rw [eh]; exact sub_mk h2 h3,getN_sig σ,fresh,inj,fun k j hk=>by rw [eh]; exact (hok k j hk).2,l1,fun i x y hx hy=>by rw [eh]; exact leS_sound (l2 i x y hx hy),⟨_,_,_,rfl,rfl,rfl⟩,?_,?_⟩
  ·rintro _ _ _ _ _ _ _ ⟨rfl,rfl,rfl⟩ ⟨rfl,rfl,rfl⟩; exact ⟨rfl,rfl,rfl⟩
  ·rintro _ _ _ ⟨rfl,rfl,rfl⟩
   exact ⟨h7,h6,_,trim,k⟩
theorem backE_nil (σ:Nm→Option Nm) (nx:Nat) (hp:Hp):backE σ nx [] hp = []:=rfl
theorem backE_t (σ:Nm→Option Nm) (nx k:Nat) (c:Chunk) (r hp:Hp):backE σ nx ((.t k,c)::r) hp = updE (bck σ nx (.t k)) (renC (bck σ nx) c) (backE σ nx r hp++hp)::backE σ nx r hp:=rfl
theorem backE_s (σ:Nm→Option Nm) (nx F:Nat) (z:Int) (c:Chunk) (r hp:Hp):backE σ nx ((.s F z,c)::r) hp = (.s (bck σ nx (.s F 0)).base 0,renC (bck σ nx) c)::backE σ nx r hp:=rfl
theorem updE_t (k:Nat) (c:Chunk) (hp:Hp):updE (.t k) c hp = (.t k,c):=rfl
theorem sh_t (nx k:Nat):Nm.sh nx (.t k) = .t (nx+k):=rfl
theorem sh_s (nx F:Nat) (i:Int):Nm.sh nx (.s F i) = .s (nx+F) i:=rfl
attribute [push_cast] backE_nil backE_t backE_s updE_t sh_t sh_s passE List.flatMap_cons List.flatMap_nil Option.isSome_some Option.isSome_none Nm.base_t Nm.base_s
attribute [push_cast] bck back List.filterMap_cons List.filterMap_nil Option.map_some Option.map_none range_0 range_1 range_2 range_3 range_4 range_5 range_6
end Go.Sx
end

section
namespace Go.Sx
open Go.RowKit
set_option linter.unusedVariables false
variable {P:Program} {m N:Nat} {Q:SPost} {fr:Fr} {hp:Hp} {nx:Nat} {ops:Array Oper}
theorem SemW.local {o:Oper} {fr2:Fr} {hp2:Hp} {K K':SV→Hp→Nat→List Nm→Prop} (h:SemW P o fr hp nx K) (hf:∀ t ∈ namesOf o.op,getF fr2 t = getF fr t) (hh:getH hp2 = getH hp) (hK:∀ v u n r,K v u n r→K' v u n r):SemW P o fr2 hp2 nx K' :=
 fun X ids w fr' hp' a hP h1 h2 h3 h4 h5 h6 KK Q h7=>h X ids w fr' hp' a hP h1 h2 h3 (fun t ht=>by rw [h4 t ht,hf t ht]) h5 (fun v u n r hk=>by
  have:=h6 v u n r (hK v u n r hk); rw [hh] at this; exact this) KK Q (fun v u n r x w' ids' hk hu=>h7 v u n r x w' ids' (hK v u n r hk) ⟨hu.le,by rw [hh]; exact hu.keys⟩)
theorem SemX.local {dt:Bool} {o:Oper} {fr2:Fr} {hp2:Hp} {K K':SV→Hp→Nat→List Nm→Prop} (h:SemX dt P o fr hp nx K) (hf:∀ t ∈ namesOf o.op,getF fr2 t = getF fr t) (hh:getH hp2 = getH hp) (hK:∀ v u n r,K v u n r→K' v u n r):SemX dt P o fr2 hp2 nx K':=by
 cases dt with
 | false=>exact SemW.local (K:=K) h hf hh hK
 | true =>
  obtain ⟨e,h1,h2,h3⟩:=h
  exact ⟨e,h1,hK _ _ _ _ h2,h3.local hf hh fun _ _ _ _ h=>h⟩
theorem stepW_weak {fr':Fr} {hp':Hp} {dt:Bool} {o:Oper} (hn:∀ t ∈ looks ops o,getF fr' t = getF fr t) (hh:getH hp' = getH hp) {K K':SV→Hp→Nat→List Nm→Prop} (hK:∀ v u n r,K v u n r→K' v u n r) (hs:stepW dt P ops o fr hp nx K):stepW dt P ops o fr' hp' nx K':=by
 have hnm:∀ t ∈ namesOf o.op,getF fr' t = getF fr t:=fun t ht=>hn t (by unfold looks; exact List.mem_append_right _ ht)
 have core:∀ {g:Bool},coreW dt P g o fr hp nx K→coreW dt P g o fr' hp' nx K':=by
  intro g hc
  unfold coreW at hc ⊢
  rw [callOf_local hnm]
  cases hcl:callOf g fr o.op with
  | some c =>
   rw [hcl] at hc
   obtain ⟨args',hin,m,Post,σ,bor,h1,h2,hsg,h3,h4,h5,h6,h7,h8,h9,h10⟩:=hc
   refine ⟨args',hin,m,Post,σ,bor,h1,by rw [hh]; exact h2,hsg,h3,h4,by rw [hh]; exact h5,h6,by rw [hh]; exact h7,h8,h9,fun res hpx nx' hpp=>⟨(h10 res hpx nx' hpp).1,(h10 res hpx nx' hpp).2.1,?_⟩⟩
   rw [back_local (h1:=hp) (fun k hk=>(h3 k hk).1) hsg (fun k _=>by rw [hh]) hpx]
   obtain ⟨u,hu,hk⟩:=(h10 res hpx nx' hpp).2.2
   exact ⟨u,⟨hu.keys,hu.drop,fun k=>by rw [getH_append,getH_append,hh,← getH_append,← getH_append]; exact hu.eq k⟩,hK _ _ _ _ hk⟩
  | none =>
   rw [hcl] at hc
   simp only at hc ⊢
   rcases hc with hc | hc
   ·exact .inl ⟨hc.1,hc.2.1,hc.2.2.local hnm hh hK⟩
   refine .inr ?_
   cases hop:opS P g fr hp nx o.type o.op with
   | bad=>rw [hop] at hc; exact hc.elim
   | ok s e =>
    rw [hop] at hc
    rw [opS_local hop hnm (fun k _=>by rw [hh])]
    exact ⟨hc.1,hK _ _ _ _ hc.2⟩
 unfold stepW at hs ⊢
 cases hg:o.guard with
 | none=>rw [hg] at hs; exact core hs
 | some jw =>
  rw [hg] at hs
  simp only at hs ⊢
  rw [guardS_local hg hn]
  cases hgs:guardS ops fr jw.1 jw.2 with
  | none=>rw [hgs] at hs; exact hs
  | some g =>
   rw [hgs] at hs
   simp only at hs ⊢
   cases hq:quietP P o.op with
   | true =>
    rw [hq] at hs
    simp only [cond_true] at hs ⊢
    rcases hs with hs | hs
    ·exact .inl ⟨hs.1,hK _ _ _ _ hs.2⟩
    ·refine .inr ?_
     cases hop:opS P g fr hp nx o.type o.op with
     | bad=>rw [hop] at hs; exact hs.elim
     | ok s e =>
      rw [hop] at hs
      rw [opS_local hop hnm (fun k _=>by rw [hh])]
      simp only at hs ⊢
      cases hu:e.upd with
      | nil=>rw [hu] at hs; exact ⟨hs.1,hK _ _ _ _ hs.2⟩
      | cons a b=>rw [hu] at hs; exact hs
   | false =>
    rw [hq] at hs
    exact ⟨fun hg=>core (hs.1 hg),fun hg=>hK _ _ _ _ (hs.2 hg)⟩
def Less (ops:Array Oper) (l:List Oper) (fr' fr:Fr):Prop:=∀ d,getF fr' d = getF fr d∨(getF fr' d = .any∧∀ o ∈ l,d ∉ looks ops o)
theorem Less.names {l:List Oper} {o:Oper} {fr':Fr} (h:Less ops (o::l) fr' fr):∀ t ∈ looks ops o,getF fr t = getF fr' t:=fun t ht=>by
 rcases h t with h | h
 ·exact h.symm
 ·exact absurd ht (h.2 o (List.mem_cons_self ..))
theorem Less.put {l:List Oper} {o:Oper} {fr':Fr} (h:Less ops (o::l) fr' fr) (d:Option Tmp) (v:SV):Less ops l (putF d v fr') (putF d v fr):=by
 intro t
 cases d with
 | none=>exact (h t).imp id fun h=>⟨h.1,fun o' ho=>h.2 o' (List.mem_cons_of_mem _ ho)⟩
 | some d =>
  simp only [putF,getF]
  cases hd:(d == t) with
  | true=>exact .inl rfl
  | false=>exact (h t).imp id fun h=>⟨h.1,fun o' ho=>h.2 o' (List.mem_cons_of_mem _ ho)⟩
theorem eqW_less {K:Fr→Hp→Nat→Prop} {fr':Fr} {hp':Hp} (h:Less ops [] fr' fr) (hh:getH hp = getH hp') (hk:EqW K fr' hp' nx):EqW K fr hp nx:=by
 obtain ⟨f,q,⟨h1,h2⟩,hk⟩:=hk
 refine ⟨f,q,⟨fun d=>?_,fun k=>by rw [h2 k,hh]⟩,hk⟩
 rcases h1 d with h1 | h1
 ·rcases h d with h | h
  ·exact .inl (h1.trans h)
  ·exact .inr (h1.trans h.1)
 ·exact .inr h1
theorem app_getH {hp hp':Hp} (h:getH hp = getH hp') (u:Hp):getH (u++hp) = getH (u++hp'):=funext fun k=>getH_app fun _=>by rw [h]
theorem runOps_less {K:Fr→Hp→Nat→Prop}:∀ (l:List Oper) (fr' fr:Fr) (hp' hp:Hp) (nx:Nat),Less ops l fr' fr→getH hp = getH hp'→runOps P ops l fr' hp' nx (EqW K)→runOps P ops l fr hp nx (EqW K)
 | [],fr',fr,hp',hp,nx,h,hh,hr=>eqW_less h hh hr
 | o::l,fr',fr,hp',hp,nx,h,hh,hr=>stepW_weak h.names hh (fun v u n r hk=>runOps_less l _ _ _ _ _ (h.put o.dst v) (app_getH hh u) hk) hr
theorem runE_less {K:Fr→Hp→Nat→Prop}:∀ (l:List Oper) (fr' fr:Fr) (hp' hp:Hp) (nx:Nat) (acc:List Nms),Less ops l fr' fr→getH hp = getH hp'→runE P ops l fr' hp' nx acc (EqW K)→runE P ops l fr hp nx acc (EqW K)
 | [],fr',fr,hp',hp,nx,acc,h,hh,hr=>⟨hr.1,eqW_less h hh hr.2⟩
 | o::l,fr',fr,hp',hp,nx,acc,h,hh,hr=>stepW_weak h.names hh (fun v u n r hk=>runE_less l _ _ _ _ _ _ (h.put o.dst v) (app_getH hh u) hk) hr
def isAny:SV→Bool
 | .any=>true
 | _=>false
def coverF (ops:Array Oper) (l:List Oper) (fr fr':Fr):Bool:=l.all fun o=>(looks ops o).all fun t=>fr'.any (fun p=>p.1 == t) || isAny (getF fr t)
theorem keepF_at (fr:Fr) (d:Nat):∀ ks:Fr,(ks.any fun p=>p.1 == d) = true→getF (keepF fr ks) d = getF fr d
 | [],h=>by simp at h
 | p::r,h=>by
  simp only [keepF,List.map_cons,getF]
  by_cases hp:p.1 = d
  ·subst hp; simp
  ·have hb:(p.1 == d) = false:=by simpa using hp
   rw [hb,cond_false]
   refine keepF_at fr d r ?_
   simp only [List.any_cons,hb,Bool.false_or] at h
   exact h
theorem rn {d:Bool} {l:List Oper} {acc:List Nms} {K:Fr→Hp→Nat→Prop} (i:Nat) (fr':Fr) (hp':Hp) (nx':Nat) (h:(l,keepF fr fr',coverF ops l fr fr',keepH hp hp',coverH hp hp',nx) = (ops.toList.drop i,fr',true,hp',true,nx'))
  (k:RunAt P d ops (ops.toList.drop i) fr' hp' nx' acc K):RunAt P d ops l fr hp nx acc K:=by
 simp only [Prod.mk.injEq] at h
 obtain ⟨h1,h2,h3,h4,h5,h6⟩:=h
 rw [← h1] at k
 subst h6
 have hh:getH hp = getH hp':=funext fun k=>((keep_eq (fr:=[]) (fr':=[]) rfl h4 h5).2 k).symm
 have hl:Less ops l fr' fr:=fun t=>by
  by_cases hm:(fr'.any fun p=>p.1 == t) = true
  ·left
   have:=keepF_at fr t fr' hm
   rw [h2] at this; exact this
  ·rcases keepF_get fr t fr' with hk | hk
   ·left; rw [h2] at hk; exact hk
   ·rw [h2] at hk
    by_cases hl:∃ o ∈ l,t ∈ looks ops o
    ·obtain ⟨o,ho,ht⟩:=hl
     left
     have:=List.all_eq_true.1 (List.all_eq_true.1 h3 o ho) t ht
     have hm':(fr'.any fun p=>p.1 == t) = false:=Bool.eq_false_iff.2 hm
     rw [hm',Bool.false_or] at this
     rw [hk]
     cases hg:getF fr t <;> rw [hg] at this <;> first | rfl | cases this
    ·exact .inr ⟨hk,fun o ho ht=>hl ⟨o,ho,ht⟩⟩
 cases d with
 | false=>exact runOps_less l _ _ _ _ _ hl hh k
 | true=>exact runE_less l _ _ _ _ _ _ hl hh k
@[push_cast] theorem ren_mi (τ:Nm→Nm) (m:List (Int×Int)):(mi m).map (fun p=>(p.1,renS τ p.2)) = mi m:=by
 induction m with
 | nil=>rfl
 | cons p r ih=>simp only [mi,List.map_cons] at ih ⊢; rw [ih]; rfl
end Go.Sx
end

section
namespace Go.Sx
open Go.RowKit
set_option linter.unusedVariables false
variable {P:Program} {m N:Nat} {Q:SPost} {fr:Fr} {hp:Hp} {nx:Nat} {ops:Array Oper}
variable {α:Type}
theorem run_eqF {d:Bool} {l:List Oper} {acc:List Nms} {K:Fr→Hp→Nat→Prop} (t:Nat) (x x':SV) (e:x = x') (h:getF fr t = x) (k:RunAt P d ops l ((t,x')::fr) hp nx acc K):RunAt P d ops l fr hp nx acc K:=by
 subst e
 have hl:Less ops l ((t,x)::fr) fr:=fun q=>.inl (by
  simp only [getF]
  by_cases hq:t = q
  ·subst hq; simp [h]
  ·rw [show (t == q) = false from by simpa using hq,cond_false])
 cases d with
 | false=>exact runOps_less l _ _ _ _ _ hl rfl k
 | true=>exact runE_less l _ _ _ _ _ _ hl rfl k
theorem run_eqG {d:Bool} {l:List Oper} {acc:List Nms} {K:Fr→Hp→Nat→Prop} (p:Nm×Chunk) (h:∀ q,p.1.key = q.key→getH hp q = p.2.mem q) (k:RunAt P d ops l fr (p::hp) nx acc K):RunAt P d ops l fr hp nx acc K:=by
 have hh:getH hp = getH (p::hp):=funext fun q=>by
  simp only [getH]
  by_cases hq:p.1.key = q.key
  ·rw [Nm.eqk_iff.2 hq,cond_true]; exact h q hq
  ·rw [Nm.eqk_no hq,cond_false]
 have hl:Less ops l fr fr:=fun q=>.inl rfl
 cases d with
 | false=>exact runOps_less l _ _ _ _ _ hl hh k
 | true=>exact runE_less l _ _ _ _ _ _ hl hh k
theorem run_eqH {d:Bool} {l:List Oper} {acc:List Nms} {K:Fr→Hp→Nat→Prop} (j:Nat) (c c':Chunk) (e:c = c') (h:getH hp (.t j) = c) (k:RunAt P d ops l fr ((.t j,c')::hp) nx acc K):RunAt P d ops l fr hp nx acc K:=by
 subst e
 refine run_eqG (.t j,c) (fun q hq=>?_) k
 rw [Nm.key_t] at hq
 have:=Nm.key_eq_t.1 hq.symm
 subst this
 exact h
end Go.Sx
end

section
namespace Go.Sx
open Go.RowKit
set_option linter.unusedVariables false
theorem bsplit_sx {ρ:Type} {b:Bool} {X Y:Option ρ} {o:ρ} {G:Prop} (h:(bif b then X else Y) = some o) (k1:b = true→X = some o→G) (k2:b = false→Y = some o→G):G:=by
 cases b with
 | true=>exact k1 rfl h
 | false=>exact k2 rfl h
end Go.Sx
end

section
namespace Go.Sx
open Go.RowKit
set_option linter.unusedVariables false
theorem SpecW.frz {P:Program} {f:FuncId} {args:List SV} {hin:Hp} {m n:Nat} {e:TypeId} {cs:List SV} (h:SpecW P f args hin m (fun x h k=>x = .own 0 0 n∧h = [(Nm.t 0,.row e cs)]∧k = 1)) :
  SpecW P f args hin m (fun x h k=>x = .sl n cs∧h = [(Nm.t 0,.dead)]∧k = 1):=by
 refine ⟨h.1,fun X vals h1 h2 h3 h4 h5 h6=>(h.2 X vals h1 h2 h3 h4 h5 h6).mono ?_⟩
 rintro ex w' ⟨r,res,hp',nx',ids',rfl,⟨rfl,rfl,rfl⟩,hF,hd⟩
 have hrow:getH [(Nm.t 0,Chunk.row e cs)] (.t 0) = .row e cs:=rfl
 have hl:(getH [(Nm.t 0,Chunk.row e cs)] (.t 0)).live = true:=rfl
 have hG:getH ([(Nm.t 0,Chunk.dead)]++[(Nm.t 0,Chunk.row e cs)]) = getH [(Nm.t 0,Chunk.dead)]:=by
  rw [List.singleton_append,getH_upd,getH_upd,getH_upd]
  funext k
  simp only [upd]
  split <;> rfl
 obtain ⟨k1,k2⟩:=heap_kill hF.toHeapC (k:=.t 0) (by rw [hrow]; simp)
 have hnl:∀ k,(getH [(Nm.t 0,Chunk.dead)] k).live = true→False:=fun k hk=>by
  rw [getH_upd] at hk
  simp only [upd] at hk
  split at hk
  ·cases hk
  ·cases hk
 have hK:HeapC X [(Nm.t 0,.dead)] ids' w':=⟨by rw [← hG]; exact k1.st,fun k hk h0 hl=>(hnl k hl).elim,fun k hk hv=>by rw [getH_upd] at hv; simp only [upd] at hv; split at hv <;> cases hv⟩
 have hE:ExtX X [(Nm.t 0,.row e cs)] ids' w' [(Nm.t 0,.dead)] ids' w':=by
  have:=k2
  rw [show updE (.t 0) Chunk.dead [(Nm.t 0,Chunk.row e cs)] = (.t 0,.dead) from rfl] at this
  simp only [ExtX,hG] at this
  exact this
 obtain ⟨a,cap,rfl,c1,c2,c4,c3⟩:=den_own hd hl
 refine ⟨_,.sl n cs,[(Nm.t 0,.dead)],1,ids',rfl,⟨rfl,rfl,rfl⟩,⟨hK,fun k hk=>?_,hF.m_le⟩,?_⟩
 ·rw [getH_upd,upd_ne _ _ (fun e=>by subst e; simp at hk)]; rfl
 ·rcases c3 with ⟨rfl,rfl⟩ | ⟨b,o,e2,cs2,arr,hC,hid,rfl,hw,hcapsz⟩
  ·have hcs:cs = []:=by
    have:=c4 _ _ hrow
    exact List.eq_nil_of_length_eq_zero (by omega)
   subst hcs
   exact .sl0 (by unfold maxLen; omega)
  ·have hc:=hF.st.ch (.t 0)
   rw [hrow] at hc
   have hid':ids' (.t 0) = some (b,o):=hid
   simp only [DenC,hid'] at hc
   obtain ⟨arr',ha',hl',hx'⟩:=hc
   obtain ⟨hlt,hor⟩:=hF.st.lt (.t 0) b o hl hid
   refine .sl b (o+0) cap (fun i=>arr'.getD (o+i) undef) ⟨?_,hlt,fun k hk=>(hnl k hk).elim⟩ c1 c2 (fun i x hi=>?_) (fun i x hi=>(hx' i x hi).mono hE)
   ·rcases hor with h | h
    ·exact .inr (.inl h)
    ·exact .inr (.inr h)
   ·have hi':=(List.getElem?_eq_some_iff.1 hi).1
    simp only [World.cell?,ha',Nat.add_zero]
    simp [Array.getD_eq_getD_getElem?,Array.getElem?_eq_getElem (show o+i < arr'.size by omega)]
end Go.Sx
end

section
namespace Go.Sx
open Go.RowKit
set_option linter.unusedVariables false
set_option linter.unusedSimpArgs false
variable {P:Program}
end Go.Sx
end

section
namespace Go.Sx
open Go.RowKit
set_option linter.unusedVariables false
variable {P:Program}
variable {fr:Fr} {hp:Hp} {nx:Nat} {ops:Array Oper}
end Go.Sx
end

section
namespace Go.Sx
open Go.RowKit
set_option linter.unusedVariables false
variable {X:Cx} {hp:Hp} {nx:Nat} {ids:Ids} {w:World}
structure House (C C':Nm→Chunk) (G:Nat) (ρ:Int→Option Nm) (e:TypeId):Prop where
 fresh:∀ k:Nm,k.base = G→C k = .unborn
 some_:∀ i k,ρ i = some k→C' (.s G i) = C k
 none_:∀ i,ρ i = none→C' (.s G i) = .row e []∨(C' (.s G i)).live = false
 top:(C' (.t G)).live = false
 dies:∀ i k,ρ i = some k→C' k = .dead
 oth:∀ k:Nm,k.base≠G→C' k = C k∨C' k = .dead
 inj:∀ i j k,ρ i = some k→ρ j = some k→i = j
def hids (G:Nat) (ρ:Int→Option Nm) (ids:Ids):Ids:=fun k=>match k with
 | .t a=>ids (.t a)
 | .s F i=>if F = G then (ρ i).bind ids else ids (.s F i)
theorem hids_s (G:Nat) (ρ:Int→Option Nm) (ids:Ids) (i:Int):hids G ρ ids (.s G i) = (ρ i).bind ids:=if_pos rfl
theorem hids_o (G:Nat) (ρ:Int→Option Nm) (ids:Ids) {k:Nm} (h:k.base≠G):hids G ρ ids k = ids k:=by
 cases k with
 | t a=>rfl
 | s F i=>exact if_neg h
section sem
variable {P:Program} {w0:World} {I0 W0:Nat→Prop} {C C':Nm→Chunk} {G:Nat} {ρ:Int→Option Nm} {e:TypeId}
theorem House.old (hh:House C C' G ρ e) {k:Nm} {b o:Nat} (hl:(C' k).live = true) (hi:hids G ρ ids k = some (b,o)) :
 ∃k0,(C k0).live = true∧ids k0 = some (b,o)∧C' k = C k0∧((k.base≠G∧k0 = k)∨∃ i,k = .s G i∧ρ i = some k0):=by
 by_cases hb:k.base = G
 ·cases k with
  | t a=>simp only [Nm.base_t] at hb; subst hb; rw [hh.top] at hl; cases hl
  | s F i =>
   simp only [Nm.base_s] at hb; subst hb
   rw [hids_s] at hi
   cases hr:ρ i with
   | none=>rw [hr] at hi; cases hi
   | some k0 =>
    rw [hr] at hi
    have h1:=hh.some_ i k0 hr
    exact ⟨k0,by rw [← h1]; exact hl,hi,h1,.inr ⟨i,rfl,hr⟩⟩
 ·rw [hids_o _ _ _ hb] at hi
  rcases hh.oth k hb with h1 | h1
  ·exact ⟨k,by rw [← h1]; exact hl,hi,h1,.inl ⟨hb,rfl⟩⟩
  ·rw [h1] at hl; cases hl
theorem House.ext (h:HSt P w0 I0 W0 C ids w) (hh:House C C' G ρ e):Ext C ids (Im w0 I0 W0 C ids w) w C' (hids G ρ ids) (Im w0 I0 W0 C' (hids G ρ ids) w) w:=by
 refine ⟨fun b hb=>⟨⟨hb.1,hb.2.1,fun k hk o hi=>?_⟩,rfl⟩,fun k hk=>?_,fun k hk=>?_⟩
 ·obtain ⟨k0,h1,h2,_⟩:=hh.old hk hi
  exact hb.2.2 k0 h1 o h2
 ·have hb:k.base≠G:=fun e=>by rw [hh.fresh k e] at hk; cases hk
  rcases hh.oth k hb with h1 | h1
  ·rw [h1]; exact hk
  ·exact h1
 ·have hb:k.base≠G:=fun e=>by rw [hh.fresh k e] at hk; cases hk
  rcases hh.oth k hb with h1 | h1
  ·exact .inr ⟨by rw [h1]; exact hk,hids_o _ _ _ hb,by rw [h1]; exact SameKind.refl hk,fun _ _ _=>SameShape.refl _⟩
  ·exact .inl h1
theorem DenC.rename {C':Nm→Chunk} {ids':Ids} {I I':Nat→Prop} {k k':Nm} {c:Chunk} (hE:Ext C ids I w C' ids' I' w) (h:DenC P C ids I w k c) (hi:ids' k' = ids k):DenC P C' ids' I' w k' c:=by
 cases c with
 | unborn=>trivial
 | dead=>trivial
 | void=>trivial
 | fam g=>trivial
 | row e cs =>
  simp only [DenC,hi] at h ⊢
  cases hid:ids k with
  | none=>rw [hid] at h; exact h
  | some p =>
   obtain ⟨b,o⟩:=p
   rw [hid] at h
   obtain ⟨arr,ha,hs,hx⟩:=h
   exact ⟨arr,ha,hs,fun i x hix=>(hx i x hix).mono hE⟩
 | map es =>
  obtain ⟨b,arr,clock,hid,ha,hs,hx,hbo⟩:=h
  exact ⟨b,arr,clock,hi.trans hid,ha,hs,fun i x hix=>⟨(hx i x hix).1,(hx i x hix).2.mono hE⟩,hbo⟩
 | obj s pos =>
  obtain ⟨b,hid,ha⟩:=h
  exact ⟨b,hi.trans hid,ha⟩
theorem House.st (h:HSt P w0 I0 W0 C ids w) (hh:House C C' G ρ e):HSt P w0 I0 W0 C' (hids G ρ ids) w:=by
 have hE:=hh.ext h
 refine ⟨fun k=>?_,fun k k' b o o' hk hk' hi hi'=>?_,fun k b o hk hi=>?_,h.im0,h.evol,h.os,h.tape,h.output,h.size⟩
 ·by_cases hb:k.base = G
  ·cases k with
   | t a =>
    simp only [Nm.base_t] at hb; subst hb
    have:=hh.top
    cases hc:C' (.t a) <;> rw [hc] at this <;> first | trivial | cases this
   | s F i =>
    simp only [Nm.base_s] at hb; subst hb
    cases hr:ρ i with
    | none =>
     rcases hh.none_ i hr with h1 | h1
     ·have hn:hids F ρ ids (.s F i) = none:=by rw [hids_s,hr]; rfl
      rw [h1]; simp only [DenC,hn]
     ·cases hc:C' (.s F i) <;> rw [hc] at h1 <;> first | trivial | cases h1
    | some k0 =>
     rw [hh.some_ i k0 hr]
     exact DenC.rename hE (h.ch k0) (by rw [hids_s,hr]; rfl)
  ·rcases hh.oth k hb with h1 | h1
   ·rw [h1]; exact DenC.rename hE (h.ch k) (hids_o _ _ _ hb)
   ·rw [h1]; trivial
 ·obtain ⟨k0,a1,a2,_,a3⟩:=hh.old hk hi
  obtain ⟨k0',b1,b2,_,b3⟩:=hh.old hk' hi'
  have:=h.inj k0 k0' b o o' a1 b1 a2 b2
  subst this
  rcases a3 with ⟨a3,rfl⟩ | ⟨i,rfl,a3⟩ <;> rcases b3 with ⟨b3,b4⟩ | ⟨j,b4,b3⟩
  ·exact b4
  ·have:=hh.dies j _ b3; rw [this] at hk; cases hk
  ·have:=hh.dies i _ a3; subst b4; rw [this] at hk'; cases hk'
  ·rw [b4,hh.inj i j _ a3 b3]
 ·obtain ⟨k0,a1,a2,_,_⟩:=hh.old hk hi
  exact h.lt k0 b o a1 a2
end sem
variable {G:Nat} {ρ:Int→Option Nm} {e:TypeId} {hp':Hp}
end Go.Sx
end

section
namespace Go.Sx
open Go.RowKit
set_option linter.unusedVariables false
inductive Hr (C C':Nm→Chunk) (G:Nat) (ρ:Int→Option Nm):SV→SV→Prop
 | same {x}:Hr C C' G ρ x x
 | own {i k off n} (hr:ρ i = some k) (hl:(C k).live = true):Hr C C' G ρ (.own k off n) (.own (.s G i) off n)
 | ptr {i k off} (hr:ρ i = some k) (hl:(C k).live = true):Hr C C' G ρ (.ptr k off) (.ptr (.s G i) off)
 | nil {i e} (hr:C' (.s G i) = .row e []):Hr C C' G ρ (.v (.slice none 0 0)) (.own (.s G i) 0 0)
structure Hous (C C':Nm→Chunk) (G:Nat) (ρ:Int→Option Nm) (R:Nm):Prop where
 fresh:∀ k:Nm,k.base = G→C k = .unborn
 some_:∀ i k,ρ i = some k→C' (.s G i) = C k
 none_:∀ i,ρ i = none→(∃ e,C' (.s G i) = .row e [])∨(C' (.s G i)).live = false
 top:(C' (.t G)).live = false
 dies:∀ i k,ρ i = some k→C' k = .dead
 oth:∀ k:Nm,k.base≠G→k≠R→C' k = C k∨C' k = .dead
 rb:R.base≠G
 row:∃ e cs cs',C R = .row e cs∧C' R = .row e cs'∧cs'.length = cs.length∧∀ (i:Nat) (x y:SV),cs[i]? = some x→cs'[i]? = some y→Hr C C' G ρ x y
 inj:∀ i j k,ρ i = some k→ρ j = some k→i = j
section sem
variable {P:Program} {w0:World} {I0 W0:Nat→Prop} {C C':Nm→Chunk} {G:Nat} {ρ:Int→Option Nm} {R:Nm} {ids:Ids} {w:World}
theorem Hous.liveR (hh:Hous C C' G ρ R):(C R).live = true∧(C' R).live = true:=by
 obtain ⟨e,cs,cs',h1,h2,_⟩:=hh.row
 rw [h1,h2]; exact ⟨rfl,rfl⟩
theorem Hous.old (hh:Hous C C' G ρ R) {k:Nm} {b o:Nat} (hl:(C' k).live = true) (hi:hids G ρ ids k = some (b,o)) :
 ∃k0,(C k0).live = true∧ids k0 = some (b,o)∧((k.base≠G∧k0 = k)∨∃ i,k = .s G i∧ρ i = some k0):=by
 by_cases hb:k.base = G
 ·cases k with
  | t a=>simp only [Nm.base_t] at hb; subst hb; rw [hh.top] at hl; cases hl
  | s F i =>
   simp only [Nm.base_s] at hb; subst hb
   rw [hids_s] at hi
   cases hr:ρ i with
   | none=>rw [hr] at hi; cases hi
   | some k0 =>
    rw [hr] at hi
    have h1:=hh.some_ i k0 hr
    exact ⟨k0,by rw [← h1]; exact hl,hi,.inr ⟨i,rfl,hr⟩⟩
 ·rw [hids_o _ _ _ hb] at hi
  by_cases hR:k = R
  ·subst hR; exact ⟨k,hh.liveR.1,hi,.inl ⟨hb,rfl⟩⟩
  rcases hh.oth k hb hR with h1 | h1
  ·exact ⟨k,by rw [← h1]; exact hl,hi,.inl ⟨hb,rfl⟩⟩
  ·rw [h1] at hl; cases hl
theorem Hous.ext (h:HSt P w0 I0 W0 C ids w) (hh:Hous C C' G ρ R):Ext C ids (Im w0 I0 W0 C ids w) w C' (hids G ρ ids) (Im w0 I0 W0 C' (hids G ρ ids) w) w:=by
 refine ⟨fun b hb=>⟨⟨hb.1,hb.2.1,fun k hk o hi=>?_⟩,rfl⟩,fun k hk=>?_,fun k hk=>?_⟩
 ·obtain ⟨k0,h1,h2,_⟩:=hh.old hk hi
  exact hb.2.2 k0 h1 o h2
 ·have hb:k.base≠G:=fun e=>by rw [hh.fresh k e] at hk; cases hk
  have hR:k≠R:=fun e=>by subst e; have:=hh.liveR.1; rw [hk] at this; cases this
  rcases hh.oth k hb hR with h1 | h1
  ·rw [h1]; exact hk
  ·exact h1
 ·have hb:k.base≠G:=fun e=>by rw [hh.fresh k e] at hk; cases hk
  by_cases hR:k = R
  ·subst hR
   obtain ⟨e,cs,cs',h1,h2,h3,_⟩:=hh.row
   exact .inr ⟨hh.liveR.2,hids_o _ _ _ hb,by rw [h1,h2]; exact ⟨rfl,Nat.le_of_eq h3⟩,fun _ _ _=>SameShape.refl _⟩
  rcases hh.oth k hb hR with h1 | h1
  ·exact .inr ⟨by rw [h1]; exact hk,hids_o _ _ _ hb,by rw [h1]; exact SameKind.refl hk,fun _ _ _=>SameShape.refl _⟩
  ·exact .inl h1
theorem hr_den (h:HSt P w0 I0 W0 C ids w) (hh:Hous C C' G ρ R) {x y:SV} {v:Value} (hr:Hr C C' G ρ x y) (hd:Den P C ids (Im w0 I0 W0 C ids w) w x v):Den P C' (hids G ρ ids) (Im w0 I0 W0 C' (hids G ρ ids) w) w y v:=by
 cases hr with
 | same=>exact hd.mono (hh.ext h)
 | own hr hl =>
  rename_i i k off n
  obtain ⟨a,cap,rfl,c1,c2,c4,c3⟩:=den_own hd hl
  have hs:=hh.some_ i k hr
  refine .own a cap (by rw [hs]; exact hl) ⟨c1,c2,fun e' cs hc=>c4 e' cs (by rw [← hs]; exact hc),?_⟩
  rcases c3 with c3 | ⟨b,o,e',cs,arr,g1,g2,g3,g4,g5⟩
  ·exact .inl c3
  ·exact .inr ⟨b,o,e',cs,arr,by rw [hs]; exact g1,by rw [hids_s,hr]; exact g2,g3,g4,g5⟩
 | ptr hr hl =>
  rename_i i k off
  obtain ⟨b,o,g1,rfl⟩:=den_ptr hd hl
  exact .ptr b o (by rw [hh.some_ i k hr]; exact hl) (by rw [hids_s,hr]; exact g1)
 | nil hr =>
  obtain rfl:=den_v hd
  exact .own none 0 (by rw [hr]; rfl) ⟨Nat.le_refl _,by unfold maxLen; omega,fun e' cs hc=>by rw [hr] at hc; cases hc; exact Nat.zero_le _,.inl ⟨rfl,rfl⟩⟩
theorem Hous.st (h:HSt P w0 I0 W0 C ids w) (hh:Hous C C' G ρ R):HSt P w0 I0 W0 C' (hids G ρ ids) w:=by
 have hE:=hh.ext h
 refine ⟨fun k=>?_,fun k k' b o o' hk hk' hi hi'=>?_,fun k b o hk hi=>?_,h.im0,h.evol,h.os,h.tape,h.output,h.size⟩
 ·by_cases hb:k.base = G
  ·cases k with
   | t a =>
    simp only [Nm.base_t] at hb; subst hb
    have:=hh.top
    cases hc:C' (.t a) <;> rw [hc] at this <;> first | trivial | cases this
   | s F i =>
    simp only [Nm.base_s] at hb; subst hb
    cases hr:ρ i with
    | none =>
     rcases hh.none_ i hr with ⟨e,h1⟩ | h1
     ·have hn:hids F ρ ids (.s F i) = none:=by rw [hids_s,hr]; rfl
      rw [h1]; simp only [DenC,hn]
     ·cases hc:C' (.s F i) <;> rw [hc] at h1 <;> first | trivial | cases h1
    | some k0 =>
     rw [hh.some_ i k0 hr]
     exact DenC.rename hE (h.ch k0) (by rw [hids_s,hr]; rfl)
  ·by_cases hR:k = R
   ·subst hR
    obtain ⟨e,cs,cs',h1,h2,h3,h4⟩:=hh.row
    have hc:=h.ch k
    rw [h1] at hc
    rw [h2]
    simp only [DenC,hids_o _ _ _ hb] at hc ⊢
    cases hid:ids k with
    | none =>
     rw [hid] at hc
     simp only at hc
     subst hc
     exact List.eq_nil_of_length_eq_zero h3
    | some p =>
     obtain ⟨b,o⟩:=p
     rw [hid] at hc
     obtain ⟨arr,ha,hl,hxx⟩:=hc
     refine ⟨arr,ha,by omega,fun i y hi=>?_⟩
     have hlt:=(List.getElem?_eq_some_iff.1 hi).1
     have hi2:=List.getElem?_eq_getElem (show i < cs.length by omega)
     exact hr_den h hh (h4 i _ y hi2 hi) (hxx i _ hi2)
   rcases hh.oth k hb hR with h1 | h1
   ·rw [h1]; exact DenC.rename hE (h.ch k) (hids_o _ _ _ hb)
   ·rw [h1]; trivial
 ·obtain ⟨k0,a1,a2,a3⟩:=hh.old hk hi
  obtain ⟨k0',b1,b2,b3⟩:=hh.old hk' hi'
  have:=h.inj k0 k0' b o o' a1 b1 a2 b2
  subst this
  rcases a3 with ⟨a3,rfl⟩ | ⟨i,rfl,a3⟩ <;> rcases b3 with ⟨b3,b4⟩ | ⟨j,b4,b3⟩
  ·exact b4
  ·have:=hh.dies j _ b3; rw [this] at hk; cases hk
  ·have:=hh.dies i _ a3; subst b4; rw [this] at hk'; cases hk'
  ·rw [b4,hh.inj i j _ a3 b3]
 ·obtain ⟨k0,a1,a2,_⟩:=hh.old hk hi
  exact h.lt k0 b o a1 a2
end sem
theorem heap_hous {X:Cx} {hp hp':Hp} {ids:Ids} {w:World} {G:Nat} {ρ:Int→Option Nm} {R:Nm} (h:HeapC X hp ids w) (hm:X.m≤G) (hh:Hous (getH hp) (getH hp') G ρ R):HeapC X hp' (hids G ρ ids) w∧ExtX X hp ids w hp' (hids G ρ ids) w:=by
 have hE:=hh.ext h.st
 refine ⟨⟨hh.st h.st,fun k hk h0 hl=>?_,fun k hk hv=>?_⟩,hE⟩
 ·have hb:k.base≠G:=by omega
  by_cases hR:k = R
  ·subst hR; exact (h.kept k hk h0 hh.liveR.1).step hE hh.liveR.1 hl
  rcases hh.oth k hb hR with h1 | h1
  ·exact (h.kept k hk h0 (by rw [← h1]; exact hl)).step hE (by rw [← h1]; exact hl) hl
  ·rw [h1] at hl; cases hl
 ·have hb:k.base≠G:=by omega
  by_cases hR:k = R
  ·subst hR; have:=hh.liveR.2; rw [hv] at this; cases this
  rcases hh.oth k hb hR with h1 | h1
  ·exact h.nov k hk (by rw [← h1]; exact hv)
  ·rw [h1] at hv; cases hv
def Ghost (P:Program) (nx q:Nat) (rds:List Nm) (hp u:Hp):Prop :=
∀(X:Cx) (ids:Ids) (w:World) (hp':Hp),X.P = P→X.m≤nx→HeapC X hp' ids w→(∀ k:Nm,k.key ∈ rds→getH hp' k = getH hp k)→(∀ k:Nm,nx≤k.base→k.base < nx+q→getH hp' k = .unborn) →
 ∃ids',HeapC X (u++hp') ids' w∧ExtX X hp' ids w (u++hp') ids' w
def gkeys (nx q:Nat) (rds:List Nm) (u:Hp):Bool:=u.all fun p=>(Nat.ble nx p.1.base && Nat.blt p.1.base (nx+q)) || rds.any fun k=>k == p.1.key
theorem Ghost.nil (P:Program) (nx:Nat) (hp:Hp):Ghost P nx 0 [] hp []:=fun X ids w hp' _ _ h _ _=>⟨ids,h,Ext.refl _ _ _ _⟩
theorem Ghost.trans {P:Program} {nx q1 q2:Nat} {r1 r2:List Nm} {hp u1 u2:Hp} (g1:Ghost P nx q1 r1 hp u1) (hk:(u1.all fun p=>Nat.blt p.1.base (nx+q1)) = true) (g2:Ghost P (nx+q1) q2 r2 (u1++hp) u2):Ghost P nx (q1+q2) (r1++r2) hp (u2++u1):=by
 intro X ids w hp' hP hm h hr hf
 obtain ⟨ids1,a1,a2⟩:=g1 X ids w hp' hP hm h (fun k hk=>hr k (List.mem_append_left _ hk)) (fun k hk1 hk2=>hf k hk1 (by omega))
 obtain ⟨ids2,b1,b2⟩:=g2 X ids1 w (u1++hp') hP (by omega) a1 (fun k hk=>getH_app fun _=>hr k (List.mem_append_right _ hk)) (fun k hk1 hk2=>by
  have:k.key ∉ u1.map (·.1.key):=fun hmem=>by
   obtain ⟨p,hp1,he⟩:=List.mem_map.1 hmem
   have h3:=List.all_eq_true.1 hk p hp1
   rw [Nat.blt_eq] at h3
   have:=congrArg Nm.base he
   simp only [Nm.key_base] at this
   omega
  rw [getH_app_ne this]
  exact hf k (by omega) (by omega))
 rw [← List.append_assoc] at b1 b2
 exact ⟨ids2,b1,Ext_trans' a2 b2⟩
theorem Ghost.cat {P:Program} {nx q1 q2 q:Nat} {r1 r2 r:List Nm} {hp u1 u2 u:Hp} (g1:Ghost P nx q1 r1 hp u1) (g2:Ghost P (nx+q1) q2 r2 (u1++hp) u2) (hk:(u1.all fun p=>Nat.blt p.1.base (nx+q1)) = true) (hq:q = q1+q2) (hr:r = r1++r2) (hu:u = u2++u1):Ghost P nx q r hp u:=by
 subst hq; subst hr; subst hu; exact g1.trans hk g2
theorem GhW.of {P:Program} {m nx q:Nat} {rds:List Nm} {hp u:Hp} {fr:Fr} (g:Ghost P nx q rds hp u) (hk:(u.all fun p=>Nat.blt p.1.base (nx+q)) = true):GhW P m fr hp nx fr (u++hp) (nx+q):=by
 intro X N a w hP hm ⟨ids,hH,hF,hN,hD⟩
 obtain ⟨ids',h1,h2⟩:=g X ids w hp hP hH.m_le hH.toHeapC (fun _ _=>rfl) (fun k hk _=>hH.fresh k hk)
 refine ⟨ids',⟨h1,fun k hk'=>?_,Nat.le_trans hH.m_le (Nat.le_add_right _ _)⟩,fun d=>(hF d).mono h2,hN,hD⟩
 rw [getH_app_ne]
 ·exact hH.fresh k (by omega)
 ·intro hm
  obtain ⟨p,hp1,hpk⟩:=List.mem_map.1 hm
  have:=List.all_eq_true.1 hk p hp1
  rw [Nat.blt_eq] at this
  have hb:p.1.base = k.base:=by rw [← Nm.key_base,hpk,Nm.key_base]
  omega
section run
variable {P:Program} {m N:Nat} {Q:SPost} {fr:Fr} {hp:Hp} {nx:Nat} {ops:Array Oper}
theorem semW_ghost {o:Oper} {e:Eff} {u:Hp} {q:Nat} {r2:List Nm} (h:SemW P o fr hp nx (EqEff e)) (hle:nx≤e.nx) (g:Ghost P e.nx q r2 (e.upd++hp) u) (hk:gkeys e.nx q r2 u = true) (hb:∀ k ∈ r2,(k ∈ e.upd.map (·.1.key))∨getH hp k≠.unborn) (hkk:∀ k ∈ r2,k.key = k)
  (hlt:∀ p ∈ e.upd,p.1.base < e.nx) (r2e:List Nm) (hsub:∀ k ∈ r2,k ∈ e.upd.map (·.1.key)∨k ∈ r2e) :
  SemW P o fr hp nx (EqEff ⟨e.val,u++e.upd,e.nx+q,e.rds++r2e⟩):=by
 intro X ids w fr' hp' a hP h1 h2 h3 h4 h5 h6 KK Q hK
 obtain ⟨h7,h8⟩:=h6 _ _ _ _ ⟨rfl,rfl,rfl,rfl⟩
 simp only at h7 h8
 refine h X ids w fr' hp' a hP h1 h2 h3 h4 h5 (fun v u' n r he=>?_) KK Q (fun v u' n r x w' ids' he hu k1 k2 k3=>?_)
 ·obtain ⟨rfl,rfl,rfl,rfl⟩:=he
  exact ⟨fun k a b=>h7 k a (by omega),fun k hk=>h8 k (List.mem_append_left _ hk)⟩
 ·obtain ⟨rfl,rfl,rfl,rfl⟩:=he
  have hag:∀ k:Nm,k.key ∈ r2→getH (e.upd++hp') k = getH (e.upd++hp) k:=fun k hk=>getH_app fun hn=>by
   rcases hsub _ hk with h9 | h9
   ·exact absurd h9 hn
   ·exact h8 k (List.mem_append_right _ h9)
  obtain ⟨ids2,d1,d2⟩:=g X ids' w' (e.upd++hp') hP (by omega) k1 hag (fun k a b=>by
   have:k.key ∉ e.upd.map (·.1.key):=fun hmem=>by
    obtain ⟨p,hp1,he⟩:=List.mem_map.1 hmem
    have h3:=hlt p hp1
    have:=congrArg Nm.base he
    simp only [Nm.key_base] at this
    omega
   rw [getH_app_ne this]
   exact h7 k (by omega) (by omega))
  rw [← List.append_assoc] at d1 d2
  refine hK e.val (u++e.upd) (e.nx+q) (e.rds++r2e) x w' ids2 ⟨rfl,rfl,rfl,rfl⟩ ⟨by omega,fun p hp1=>?_⟩ d1 (Ext_trans' k2 d2) (k3.mono d2)
  rcases List.mem_append.1 hp1 with hp1 | hp1
  ·have:=List.all_eq_true.1 hk p hp1
   simp only [Bool.or_eq_true,Bool.and_eq_true,List.any_eq_true,beq_iff_eq] at this
   rcases this with ⟨c1,c2⟩ | ⟨k,c1,c2⟩
   ·have:=Nat.le_of_ble_eq_true c1
    rw [Nat.blt_eq] at c2
    exact .inl ⟨by omega,c2⟩
   ·subst c2
    rcases hsub _ c1 with h9 | h9
    ·obtain ⟨p2,hp2,he2⟩:=List.mem_map.1 h9
     rcases hu.keys p2 hp2 with ⟨f1,f2⟩ | ⟨f1,f2⟩
     ·have:=congrArg Nm.base he2
      simp only [Nm.key_base] at this
      exact .inl ⟨by omega,by omega⟩
     ·rw [he2] at f1 f2
      exact .inr ⟨List.mem_append_left _ f1,f2⟩
    ·rcases hb _ c1 with h10 | h10
     ·obtain ⟨p2,hp2,he2⟩:=List.mem_map.1 h10
      rcases hu.keys p2 hp2 with ⟨f1,f2⟩ | ⟨f1,f2⟩
      ·have:=congrArg Nm.base he2
       simp only [Nm.key_base] at this
       exact .inl ⟨by omega,by omega⟩
      ·rw [he2] at f1 f2
       exact .inr ⟨List.mem_append_left _ f1,f2⟩
     ·exact .inr ⟨List.mem_append_right _ h9,_,by rw [hkk _ c1],h10⟩
  ·rcases hu.keys p hp1 with ⟨f1,f2⟩ | ⟨f1,f2⟩
   ·exact .inl ⟨f1,by omega⟩
   ·exact .inr ⟨List.mem_append_left _ f1,f2⟩
theorem semW_op {o:Oper} {s:Prop} {e:Eff} (hop:opS P true fr hp nx o.type o.op = .ok s e) (hs:s):SemW P o fr hp nx (EqEff e):=by
 obtain ⟨k1,k2⟩:=opS_keys hop
 refine fun X ids w fr' hp' a hP h1 h2 h3 h4 h5 h6 KK Q hK=>?_
 subst hP
 obtain ⟨_,hag⟩:=h6 _ _ _ _ ⟨rfl,rfl,rfl,rfl⟩
 have hop':=opS_local hop h4 hag
 obtain ⟨x,w',ids',g1,g2,g3,g4⟩:=op_sound (X:=X) ⟨h1,h5,h2⟩ h3 (g:=true) rfl hop' hs
 exact wp_of_soundN g1 (hK _ _ _ _ _ _ _ ⟨rfl,rfl,rfl,rfl⟩ ⟨k1,fun p hp1=>(k2 p hp1).imp (fun hh=>by rw [hh.1]; simp; omega) id⟩ g2 g3 g4)
def bornB:Chunk→Bool
 | .unborn=>false
 | _=>true
theorem run_opG {d:Bool} {l:List Oper} {acc:List Nms} {K:Fr→Hp→Nat→Prop} (dst:Option Tmp) (r:Res) (e:Eff) (u:Hp) (q:Nat) (r2 r2e:List Nm) (hc:(headOp P ops fr l).map (fun o=>(o.dst,opS P true fr hp nx o.type o.op,semOk o.op)) = some (dst,r,true)) (hob:resOb r e) (g:Ghost P e.nx q r2 (e.upd++hp) u)
  (hk:(gkeys e.nx q r2 u,Nat.ble nx e.nx,r2.all (fun k=>k.key == k),e.upd.all (fun p=>Nat.blt p.1.base e.nx),r2.all (fun k=>(e.upd.any fun p=>p.1.key == k) || r2e.any fun j=>j == k),r2e.all (fun k=>bornB (getH hp k))) = (true,true,true,true,true,true))
  (h:RunAt P d ops (l.drop 1) (putF dst e.val fr) (u++e.upd++hp) (bif d then e.nx+q+1 else e.nx+q) (acc++[⟨(u++e.upd).map (·.1.key),e.rds++r2e,nx,e.nx+q⟩]) K):RunAt P d ops l fr hp nx acc K:=by
 obtain ⟨o,ho,hh⟩:=Option.map_eq_some_iff.1 hc
 simp only [Prod.mk.injEq] at hh hk
 obtain ⟨rfl,hop,hso⟩:=hh
 obtain ⟨s,rfl,hs⟩:=resOb_ok hob
 obtain ⟨k1,k2,k3,k4,k5,k6⟩:=hk
 have hb:∀ k ∈ r2e,getH hp k≠.unborn:=fun k hk e=>by have:=List.all_eq_true.1 k6 k hk; rw [e] at this; cases this
 simp only [List.all_eq_true,Bool.or_eq_true,List.any_eq_true,beq_iff_eq,Nat.blt_eq] at k3 k4 k5
 have hle:=Nat.le_of_ble_eq_true k2
 have hsub:∀ k ∈ r2,k ∈ e.upd.map (·.1.key)∨k ∈ r2e:=fun k hk=>(k5 k hk).imp (fun ⟨p,hp,he⟩=>List.mem_map.2 ⟨p,hp,he⟩) (fun ⟨j,hj,he⟩=>he ▸ hj)
 exact run_sem o ⟨e.val,u++e.upd,e.nx+q,e.rds++r2e⟩ ho (by simp only; omega) hso (semW_ghost (semW_op hop hs) hle g k1 (fun k hk=>(hsub k hk).imp id (hb k)) k3 k4 r2e hsub) h
end run
end Go.Sx
end

section
namespace Go.Sx
open Go.RowKit
set_option linter.unusedVariables false
variable {α β:Type}
inductive DL where
 | p (s:SV)
 | o (e:TypeId) (n:Nat) (cs:List SV)
def DL.flat:DL→SV
 | .p s=>s
 | .o _ n cs=>.sl n cs
def DL.ok:DL→Bool
 | .p (.v x)=>x.oneCell'
 | .p (.sl _ cs)=>stL cs
 | .p _=>false
 | .o _ _ cs=>stL cs
def osOf:List DL→List (TypeId×Nat×List SV)
 | []=>[]
 | .p _::r=>osOf r
 | .o e n cs::r=>(e,n,cs)::osOf r
def AllW:List (TypeId×Nat×List SV)→Prop
 | []=>True
 | t::r=>(t.2.1 = 0→t.2.2 = [])∧AllW r
theorem AllW.mem:∀ {l:List (TypeId×Nat×List SV)},AllW l→∀ t ∈ l,t.2.1 = 0→t.2.2 = []
 | [],_,t,h=>by cases h
 | a::r,h,t,ht=>by
  rcases List.mem_cons.1 ht with rfl | ht
  ·exact h.1
  ·exact AllW.mem h.2 t ht
structure DE (α:Type) [Enc α] where
 dl:α→List DL
 no:Nat
 flat:∀ a,(dl a).map DL.flat = Enc.cells a
 num:∀ a,(osOf (dl a)).length = no
 dfl:(osOf (dl default)).map (·.2) = List.replicate no (0,[])
 ok:∀ a,(dl a).all DL.ok = true
 wi:∀ a,AllW (osOf (dl a))
def nmS:Option Nm→Nat→SV
 | some k,n=>.own k 0 n
 | none,_=>.v (.slice none 0 0)
def dcs (N:Nat→Option Nm):Nat→List DL→List SV
 | _,[]=>[]
 | j,.p s::r=>s::dcs N j r
 | j,.o _ n _::r=>nmS (N j) n::dcs N (j+1) r
theorem dcs_length (N:Nat→Option Nm):∀ (l:List DL) (j:Nat),(dcs N j l).length = l.length
 | [],_=>rfl
 | .p s::r,j=>by simp only [dcs,List.length_cons,dcs_length N r]
 | .o _ n _::r,j=>by simp only [dcs,List.length_cons,dcs_length N r]
theorem dcs_congr {N N':Nat→Option Nm}:∀ (l:List DL) (j:Nat),(∀ q,j≤q→q < j+(osOf l).length→N q = N' q)→dcs N j l = dcs N' j l
 | [],_,_=>rfl
 | .p s::r,j,h=>by simp only [dcs]; rw [dcs_congr r j h]
 | .o e n cs::r,j,h=>by
  simp only [dcs]
  simp only [osOf,List.length_cons] at h
  rw [h j (Nat.le_refl _) (by omega),dcs_congr r (j+1) fun q a b=>h q (by omega) (by omega)]
variable [Enc α]
theorem DE.dft (D:DE α):∀ t ∈ osOf (D.dl default),t.2 = (0,[]):=fun t ht=>by
 have:=List.mem_map_of_mem (f:=(·.2)) ht
 rw [D.dfl] at this
 exact List.eq_of_mem_replicate this
theorem DE.len (D:DE α) (a:α):(D.dl a).length = Enc.sz α:=by
 rw [← Enc.len a,← D.flat a,List.length_map]
def flN (D:DE α) (N:Nat→Int→Option Nm):Nat→List α→List SV
 | _,[]=>[]
 | b,x::xs=>dcs (fun j=>N j (b:Nat)) 0 (D.dl x)++flN D N (b+1) xs
def nF (Fs:List Nat) (j:Nat) (i:Int):Option Nm:=some (.s (Fs.getD j 0) i)
def flD (D:DE α) (Fs:List Nat) (xs:List α):List SV:=flN D (nF Fs) 0 xs
def chD (D:DE α) (j:Nat) (a:α):Chunk:=match (osOf (D.dl a))[j]? with
 | some t=>.row t.1 t.2.2
 | none=>.dead
def ixD (xs:List α) (i:Int):α:=bif decide (0≤i) then ix xs i else default
def famD (D:DE α) (j:Nat) (xs:List α):Int→Chunk:=fun i=>chD D j (ixD xs i)
theorem ixD_pos {xs:List α} {i:Int} (h:0≤i):ixD xs i = ix xs i:=by simp [ixD,h]
theorem ixD_nat (xs:List α) (i:Nat):ixD xs (i:Int) = xs.getD i default:=by rw [ixD_pos (by omega)]; simp [ix]
theorem chD_at (D:DE α) (j:Nat) (a:α) (g:Int→Chunk) (i:Int) (h:g i = chD D j a):(Chunk.fam g).at i = chD D j a:=by
 simp only [Chunk.at,h]
 unfold chD
 split
 ·rename_i h2; split at h2 <;> cases h2
 ·rename_i h2; split at h2 <;> cases h2
 ·rfl
theorem at_famD (D:DE α) (j:Nat) (xs:List α) (i:Int):(Chunk.fam (famD D j xs)).at i = famD D j xs i:=chD_at D j (ixD xs i) _ i rfl
theorem chD_row (D:DE α) {j:Nat} (hj:j < D.no) (a:α):∃ e n cs,(osOf (D.dl a))[j]? = some (e,n,cs)∧chD D j a = .row e cs:=by
 have h:j < (osOf (D.dl a)).length:=by rw [D.num]; exact hj
 refine ⟨_,_,_,List.getElem?_eq_getElem h,?_⟩
 unfold chD
 rw [List.getElem?_eq_getElem h]
 rfl
theorem flN_length (D:DE α) (N):∀ (xs:List α) (b:Nat),(flN D N b xs).length = xs.length * Enc.sz α
 | [],_=>by simp [flN]
 | x::xs,b=>by rw [flN,List.length_append,flN_length D N xs,dcs_length,D.len,List.length_cons,Nat.add_mul,Nat.one_mul,Nat.add_comm]
theorem flD_length (D:DE α) (Fs) (xs:List α):(flD D Fs xs).length = xs.length * Enc.sz α:=flN_length D _ xs 0
theorem flN_congr (D:DE α) {N N':Nat→Int→Option Nm}:∀ (xs:List α) (b:Nat),(∀ j (i:Nat),j < D.no→b≤i→i < b+xs.length→N j i = N' j i)→flN D N b xs = flN D N' b xs
 | [],_,_=>rfl
 | x::xs,b,h=>by
  simp only [List.length_cons] at h
  rw [flN,flN,flN_congr D xs (b+1) fun j i hj h1 h2=>h j i hj (by omega) (by omega),dcs_congr (N:=fun j=>N j (b:Nat)) (N':=fun j=>N' j (b:Nat)) (D.dl x) 0 fun q _ hq=>h q b (by rw [D.num] at hq; omega) (Nat.le_refl _) (by omega)]
theorem flN_at (D:DE α) (N):∀ (xs:List α) (b i:Nat),i < xs.length→((flN D N b xs).drop (i * Enc.sz α)).take (Enc.sz α) = dcs (fun j=>N j ((b+i:Nat):Int)) 0 (D.dl (xs.getD i default))
 | [],_,i,h=>by simp at h
 | x::xs,b,0,_=>by
  rw [flN,Nat.zero_mul,List.drop_zero,List.take_append,dcs_length,D.len,Nat.sub_self,List.take_zero,List.append_nil,List.take_of_length_le (by rw [dcs_length,D.len]; exact Nat.le_refl _)]
  rfl
 | x::xs,b,i+1,h=>by
  have hd:(dcs (fun j=>N j (b:Nat)) 0 (D.dl x)).length = Enc.sz α:=by rw [dcs_length,D.len]
  rw [flN,List.drop_append,List.drop_of_length_le (by rw [hd]; exact Nat.le_mul_of_pos_left _ (Nat.succ_pos i)),List.nil_append,hd,Nat.add_mul,Nat.one_mul,Nat.add_sub_cancel,flN_at D N xs (b+1) i (by simpa using h)]
  rw [show b+1+i = b+(i+1) from by omega]
  rfl
theorem flN_getD (D:DE α) (N) (xs:List α) (i q:Nat) (h:i < xs.length) (hq:q < Enc.sz α) (d:SV):(flN D N 0 xs).getD (i * Enc.sz α+q) d = (dcs (fun j=>N j (i:Int)) 0 (D.dl (xs.getD i default))).getD q d:=by
 have:=flN_at D N xs 0 i h
 rw [Nat.zero_add] at this
 rw [← this]
 simp only [List.getD_eq_getElem?_getD,List.getElem?_take,if_pos hq,List.getElem?_drop]
theorem flN_splice (D:DE α) {N N':Nat→Int→Option Nm} (y:α) (vs:List SV) (q:Nat):∀ (xs:List α) (b i:Nat),i < xs.length→q+vs.length≤Enc.sz α→(∀ j (i':Nat),i'≠b+i→N j i' = N' j i') →
  splice (dcs (fun j=>N j ((b+i:Nat):Int)) 0 (D.dl (xs.getD i default))) q vs = dcs (fun j=>N' j ((b+i:Nat):Int)) 0 (D.dl y)→splice (flN D N b xs) (i * Enc.sz α+q) vs = flN D N' b (xs.set i y)
 | [],_,i,h,_,_,_=>by simp at h
 | x::xs,b,0,h,hq,hN,hy=>by
  rw [Nat.zero_mul,Nat.zero_add,flN,splice_left _ _ _ _ (by rw [dcs_length,D.len]; exact hq)]
  simp only [Nat.add_zero,List.getD_cons_zero] at hy
  rw [hy,List.set_cons_zero,flN,flN_congr D xs (b+1) fun j i _ h1 _=>hN j i (by omega)]
 | x::xs,b,i+1,h,hq,hN,hy=>by
  have hd:(dcs (fun j=>N j (b:Nat)) 0 (D.dl x)).length = Enc.sz α:=by rw [dcs_length,D.len]
  rw [flN,show (i+1) * Enc.sz α+q = (dcs (fun j=>N j (b:Nat)) 0 (D.dl x)).length+(i * Enc.sz α+q) from by rw [hd,Nat.add_mul,Nat.one_mul]; omega,splice_app,
   flN_splice D y vs q xs (b+1) i (by simpa using h) hq (fun j i' hi=>hN j i' (by omega)) (by rw [show b+1+i = b+(i+1) from by omega]; exact hy),List.set_cons_succ,flN]
  congr 1
  exact dcs_congr _ _ fun j _ _=>hN j b (by omega)
def Pw (Q:SV→SV→Prop):List SV→List SV→Prop
 | [],[]=>True
 | x::xs,y::ys=>Q x y∧Pw Q xs ys
 | _,_=>False
theorem Pw.app {Q:SV→SV→Prop}:∀ {xs ys zs ws:List SV},Pw Q xs ys→Pw Q zs ws→Pw Q (xs++zs) (ys++ws)
 | [],[],_,_,_,h=>h
 | a::xs,b::ys,_,_,h,g=>⟨h.1,Pw.app h.2 g⟩
 | [],_::_,_,_,h,_=>h.elim
 | _::_,[],_,_,h,_=>h.elim
theorem Pw.get {Q:SV→SV→Prop}:∀ {xs ys:List SV},Pw Q xs ys→ys.length = xs.length∧∀ (i:Nat) (x y:SV),xs[i]? = some x→ys[i]? = some y→Q x y
 | [],[],_=>⟨rfl,fun i x y h=>by simp at h⟩
 | a::xs,b::ys,h=>by
  obtain ⟨h1,h2⟩:=Pw.get h.2
  refine ⟨by simp [h1],fun i x y hx hy=>?_⟩
  cases i with
  | zero=>simp at hx hy; subst hx; subst hy; exact h.1
  | succ i=>exact h2 i x y (by simpa using hx) (by simpa using hy)
 | [],_::_,h=>h.elim
 | _::_,[],h=>h.elim
theorem dcs_pw {Q:SV→SV→Prop} {N N':Nat→Option Nm}:∀ (l:List DL) (j:Nat),(∀ s,DL.p s ∈ l→Q s s)→(∀ q t,(osOf l)[q]? = some t→Q (nmS (N (j+q)) t.2.1) (nmS (N' (j+q)) t.2.1))→Pw Q (dcs N j l) (dcs N' j l)
 | [],_,_,_=>trivial
 | .p s::r,j,hp,h=>⟨hp s (by simp),dcs_pw r j (fun s hs=>hp s (by simp [hs])) h⟩
 | .o e n cs::r,j,hp,h=>⟨h 0 (e,n,cs) rfl,dcs_pw r (j+1) (fun s hs=>hp s (by simp [hs])) fun q t hq=>by
  have:=h (q+1) t (by simpa [osOf] using hq)
  rwa [show j+(q+1) = j+1+q from by omega] at this⟩
theorem flN_pw (D:DE α) {Q:SV→SV→Prop} {N N':Nat→Int→Option Nm}:∀ (xs:List α) (b:Nat),(∀ x ∈ xs,∀ s,DL.p s ∈ D.dl x→Q s s)→(∀ (i q:Nat) t,i < xs.length→(osOf (D.dl (xs.getD i default)))[q]? = some t→Q (nmS (N q ((b+i:Nat):Int)) t.2.1) (nmS (N' q ((b+i:Nat):Int)) t.2.1))→Pw Q (flN D N b xs) (flN D N' b xs)
 | [],_,_,_=>trivial
 | x::xs,b,hp,h=>by
  refine Pw.app (dcs_pw _ _ (hp x (by simp)) fun q t hq=>?_) (flN_pw D xs (b+1) (fun y hy=>hp y (by simp [hy])) fun i q t hi hq=>?_)
  ·rw [Nat.zero_add]; exact h 0 q t (by simp) hq
  ·have:=h (i+1) q t (by simpa using hi) (by simpa using hq)
   rwa [show b+(i+1) = b+1+i from by omega] at this
variable {P:Program} {hp:Hp} {nx:Nat}
theorem kills_dead {u hp:Hp} (h:∀ p ∈ u,p.2 = .dead) (k:Nm):getH (u++hp) k = .dead∨(getH (u++hp) k = getH hp k∧¬∃p ∈ u,p.1.key = k.key):=by
 rw [getH_append]
 split
 ·rename_i hm
  left
  induction u with
  | nil=>obtain ⟨p,hp,_⟩:=hm; cases hp
  | cons p r ih =>
   simp only [getH]
   by_cases hk:p.1.key = k.key
   ·rw [Nm.eqk_iff.2 hk,cond_true,h p (by simp)]
    cases k <;> rfl
   ·rw [Nm.eqk_no hk,cond_false]
    refine ih (fun q hq=>h q (by simp [hq])) ?_
    obtain ⟨q,hq,hqk⟩:=hm
    rcases List.mem_cons.1 hq with rfl | hq
    ·exact absurd hqk hk
    ·exact ⟨q,hq,hqk⟩
 ·rename_i hm
  exact .inr ⟨rfl,hm⟩
theorem ghost_col {D:DE α} {xs:List α} {r j:Nat} {e:TypeId} {N N':Nat→Int→Option Nm} {rds:List Nm} {kills:Hp} {cs':List SV} (hR:getH hp (.t r) = .row e (flN D N 0 xs)) (hcs:cs' = flN D N' 0 xs) (hr:Nm.t r ∈ rds) (hrn:r < nx) (hj:j < D.no)
  (hN:∀ j' i,j'≠j→N' j' i = N j' i) (hNj:∀ i,N' j i = some (.s nx i))
  (hk:∀ i:Nat,i < xs.length→(∀ k,N j i = some k→k.key ∈ rds∧getH hp k = chD D j (xs.getD i default)∧k≠.t r∧k.base < nx∧∃ p ∈ kills,p.1.key = k.key)∧(N j i = none→∃ e,(osOf (D.dl (xs.getD i default)))[j]? = some (e,0,[])))
  (hinj:∀ i i':Nat,i < xs.length→i' < xs.length→∀ k,N j i = some k→N j i' = some k→i = i') (hkl:∀ p ∈ kills,p.2 = .dead∧p.1.base < nx∧p.1.key≠.t r) :
  Ghost P nx 1 rds hp ((.s nx 0,.fam (famD D j xs))::(.t r,.row e cs')::kills):=by
 intro X ids w hp' hP hm h hrd hf
 subst hcs
 let ρ:Int→Option Nm:=fun i=>if 0≤i∧i < (xs.length:Nat) then N j i else none
 have hρ:∀ i k,ρ i = some k→∃ q:Nat,i = q∧q < xs.length∧N j q = some k:=fun i k hi=>by
  simp only [ρ] at hi
  split at hi
  ·rename_i hc
   refine ⟨i.toNat,by omega,by omega,?_⟩
   rw [show (i.toNat:Int) = i from by omega]; exact hi
  ·cases hi
 have look:∀ k:Nm,k.base≠nx→k≠.t r→getH ((Nm.s nx 0,Chunk.fam (famD D j xs))::(.t r,.row e (flN D N' 0 xs))::kills++hp') k = getH (kills++hp') k:=fun k hb hk=>by
  simp only [List.cons_append,getH]
  have h1:(Nm.s nx 0).eqk k = false:=Nm.eqk_no fun e=>hb (by have:=congrArg Nm.base e; simpa using this.symm)
  have h2:(Nm.t r).eqk k = false:=Nm.eqk_no fun e=>hk (by rw [Nm.key_t] at e; exact Nm.key_eq_t.1 e.symm)
  rw [h1,h2]; rfl
 have lookR:getH ((Nm.s nx 0,Chunk.fam (famD D j xs))::(.t r,.row e (flN D N' 0 xs))::kills++hp') (.t r) = .row e (flN D N' 0 xs):=by
  simp [getH,Nm.eqk,Chunk.mem]
 have lookG:∀ i,getH ((Nm.s nx 0,Chunk.fam (famD D j xs))::(.t r,.row e (flN D N' 0 xs))::kills++hp') (.s nx i) = famD D j xs i:=fun i=>by
  simp only [List.cons_append,getH,Nm.eqk,beq_self_eq_true,cond_true,Chunk.mem]; exact at_famD D j xs i
 have hRr:getH hp' (.t r) = .row e (flN D N 0 xs):=(hrd (.t r) hr).trans hR
 have hh:Hous (getH hp') (getH ((Nm.s nx 0,Chunk.fam (famD D j xs))::(.t r,.row e (flN D N' 0 xs))::kills++hp')) nx ρ (.t r):=by
  refine ⟨fun k hk=>hf k (by omega) (by omega),fun i k hi=>?_,fun i hi=>?_,?_,fun i k hi=>?_,fun k hb hkR=>?_,by simp; omega,?_,fun i i' k h1 h2=>?_⟩
  ·obtain ⟨q,rfl,hq,hn⟩:=hρ i k hi
   obtain ⟨a1,a2,_⟩:=(hk q hq).1 k hn
   rw [lookG,hrd k a1,a2,famD,ixD_nat]
  ·rw [lookG]
   left
   simp only [ρ] at hi
   split at hi
   ·rename_i hc
    have hq:i.toNat < xs.length:=by omega
    have hi':i = (i.toNat:Int):=by omega
    rw [hi'] at hi ⊢
    obtain ⟨e',he⟩:=(hk i.toNat hq).2 hi
    exact ⟨e',by rw [famD,ixD_nat]; unfold chD; rw [he]⟩
   ·rename_i hc
    have hd:ixD xs i = default:=by
     unfold ixD
     by_cases h0:0≤i
     ·have:xs.length≤i.toNat:=by omega
      simp [h0,ix,List.getD_eq_getElem?_getD,List.getElem?_eq_none this]
     ·simp [h0]
    obtain ⟨e',n,cs,h1,h2⟩:=chD_row D hj (default:α)
    have:=D.dft _ (List.mem_of_getElem? h1)
    simp only [Prod.mk.injEq] at this
    exact ⟨e',by rw [famD,hd,h2,this.2]⟩
  ·have h1:getH ((Nm.s nx 0,Chunk.fam (famD D j xs))::(.t r,.row e (flN D N' 0 xs))::kills++hp') (.t nx) = getH hp' (.t nx):=by
    refine getH_app_ne fun hm=>?_
    simp only [List.map_cons,List.mem_cons,List.mem_map] at hm
    rcases hm with h | h | ⟨p,hp1,h⟩
    ·simp [Nm.key] at h
    ·simp [Nm.key] at h; omega
    ·have:=(hkl p hp1).2.1
     have:=congrArg Nm.base h
     simp at this; omega
   rw [h1,hf (.t nx) (Nat.le_refl _) (by simp)]; rfl
  ·obtain ⟨q,rfl,hq,hn⟩:=hρ i k hi
   obtain ⟨_,_,a3,a4,a5⟩:=(hk q hq).1 k hn
   rw [look k (by omega) a3]
   rcases kills_dead (hp:=hp') (fun p hp=>(hkl p hp).1) k with h1 | ⟨_,h1⟩
   ·exact h1
   ·exact absurd a5 h1
  ·rw [look k hb hkR]
   rcases kills_dead (hp:=hp') (fun p hp=>(hkl p hp).1) k with h1 | ⟨h1,_⟩
   ·exact .inr h1
   ·exact .inl h1
  ·obtain ⟨g1,g2⟩:=Pw.get (flN_pw D (Q:=Hr (getH hp') (getH ((Nm.s nx 0,Chunk.fam (famD D j xs))::(.t r,.row e (flN D N' 0 xs))::kills++hp')) nx ρ) (N:=N) (N':=N') xs 0 (fun x _ s _=>.same) fun i q t hi hq=>by
    rw [Nat.zero_add]
    by_cases hqj:q = j
    ·subst hqj
     rw [hNj]
     have hρi:ρ (i:Int) = N q i:=by simp only [ρ]; rw [if_pos (by omega)]
     cases hn:N q i with
     | some k =>
      obtain ⟨a1,a2,_⟩:=(hk i hi).1 k hn
      obtain ⟨e',n',cs',_,b2⟩:=chD_row D hj (xs.getD i default)
      exact .own (hρi.trans hn) (by rw [hrd k a1,a2,b2]; rfl)
     | none =>
      obtain ⟨e',he⟩:=(hk i hi).2 hn
      rw [he] at hq; cases hq
      refine .nil (e:=e') ?_
      rw [lookG,famD,ixD_nat]; unfold chD; rw [he]
    ·rw [hN q _ hqj]; exact .same)
   exact ⟨e,_,_,hRr,lookR,g1,g2⟩
  ·obtain ⟨q,rfl,hq,hn⟩:=hρ i k h1
   obtain ⟨q',rfl,hq',hn'⟩:=hρ i' k h2
   rw [hinj q q' hq hq' k hn hn']
 exact ⟨_,heap_hous h hm hh⟩
end Go.Sx
end
