/-
 Lemmas, put together: HV, HW, HU, IG, IA, HR, HT, IB, IC, ID, IE, IF, IJ, IK, codeE, codeF, codeM, codeN.
 No conditions.
-/
import Derived.Test.YtdckaaiidagodaaDoorcodeA3
import Derived.Lib.Builder
import Derived.Lib.UnsafeStr
import Derived.Shelf.Sort.Plain
import Derived.Shelf.Slices.In.SortNone
import Derived.Shelf.SlSortCmp.NoneTotal
import Derived.Shelf.SlicesG.Cmp
import Derived.Shelf.SlSortCmp.Whole1
import Derived.Defers
import Derived.Shelf.Strings.Cut
import Derived.Shelf.Strings.Split
import Derived.Shelf.Strconv.Itoa3
import Derived.Shelf.Strconv.AtoiAll
import Derived.Test.YtdckaaiidagodaaDoorProg
import Derived.WalkKit
import Derived.Deep.RegionHeld3
import Derived.Deep.CutBlock
import Derived.Handy
import Derived.Shelf.Strings.Builder1
set_option linter.unusedSimpArgs false
set_option linter.unusedVariables false
set_option linter.unusedSectionVars false
section
namespace Go.Sx
open Go.RowKit
set_option linter.unusedVariables false
set_option linter.unusedSimpArgs false
variable {P:Program} {hp hin:Hp} {nx:Nat}
mutual
def wkV (τ:Nm→Option Nm):SV→SV
 | .any=>.any
 | .v x=>.v x
 | .agg xs=>.agg (wkL τ xs)
 | .tup xs=>.tup (wkL τ xs)
 | .sl n xs=>bif clL xs then .sl n xs else .any
 | .own k o n=>match τ k with
  | some j=>.own j o n
  | none=>.any
 | .ptr k o=>match τ k with
  | some j=>.ptr j o
  | none=>.any
 | .iptr xs o=>bif clL xs then .iptr xs o else .any
 | .mp k=>match τ k with
  | some j=>.mp j
  | none=>.any
 | .it k=>match τ k with
  | some j=>.it j
  | none=>.any
 | .clo f xs=>.clo f (wkL τ xs)
 | .ifc t x=>.ifc t (wkV τ x)
 | .er a b c d=>.er a b c d
 | .mth t x=>.mth t (wkV τ x)
 | .asl _ _ _=>.any
 | .bp k e n=>match τ k with
  | some j=>.bp j e n
  | none=>.any
 | .gd g x=>bif x.cl then .gd g x else .any
def wkL (τ:Nm→Option Nm):List SV→List SV
 | []=>[]
 | x::xs=>wkV τ x::wkL τ xs
end
def wkM (τ:Nm→Option Nm):List (Value×SV)→List (Value×SV)
 | []=>[]
 | p::r=>(p.1,wkV τ p.2)::wkM τ r
def wkC (τ:Nm→Option Nm):Chunk→Chunk
 | .row e cs=>.row e (wkL τ cs)
 | .map es=>.map (wkM τ es)
 | .obj s p=>.obj s p
 | _=>.dead
theorem wkC_live {τ:Nm→Option Nm} {c:Chunk} (h:c.live = true):(wkC τ c).live = true:=by cases c <;> first | rfl | cases h
def TauOk (τ:Nm→Option Nm) (σ:List (Nm×Nm)) (hin:Hp):Prop:=∀ k j,τ k = some j→getN σ j = some k∧(getH hin j).live = true
mutual
theorem wk_le {τ:Nm→Option Nm} {σ:List (Nm×Nm)} (H:TauOk τ σ hin):∀ s:SV,leS hp hin σ [] s (wkV τ s)
 | .any=>by simp only [wkV,leS]
 | .v x=>by simp only [wkV,leS]
 | .agg xs=>by simp only [wkV,leS]; exact .inr (wkL_le H xs)
 | .tup xs=>by simp only [wkV,leS]; exact wkL_le H xs
 | .sl n xs=>by
  simp only [wkV]
  cases h:clL xs with
  | true=>simp only [cond_true,leS]; exact ⟨trivial,trivial,h⟩
  | false=>simp only [cond_false,leS]
 | .own k o n=>by
  simp only [wkV]
  cases h:τ k with
  | none=>simp only [leS]
  | some j=>simp only [leS]; exact ⟨(H k j h).1,trivial,trivial,(H k j h).2⟩
 | .ptr k o=>by
  simp only [wkV]
  cases h:τ k with
  | none=>simp only [leS]
  | some j=>simp only [leS]; exact ⟨(H k j h).1,trivial,(H k j h).2⟩
 | .iptr xs o=>by
  simp only [wkV]
  cases h:clL xs with
  | true=>simp only [cond_true,leS]; exact ⟨trivial,trivial,h⟩
  | false=>simp only [cond_false,leS]
 | .mp k=>by
  simp only [wkV]
  cases h:τ k with
  | none=>simp only [leS]
  | some j=>simp only [leS]; exact H k j h
 | .it k=>by
  simp only [wkV]
  cases h:τ k with
  | none=>simp only [leS]
  | some j=>simp only [leS]; exact H k j h
 | .clo f xs=>by simp only [wkV,leS]; exact ⟨trivial,wkL_le H xs⟩
 | .ifc t x=>by simp only [wkV,leS]; exact ⟨trivial,wk_le H x⟩
 | .er _ _ _ _=>by simp only [wkV,leS]; exact ⟨trivial,trivial,trivial,trivial⟩
 | .mth t x=>by simp only [wkV,leS]; exact ⟨trivial,wk_le H x⟩
 | .asl _ _ _=>by simp only [wkV,leS]
 | .bp k e n=>by
  simp only [wkV]
  cases h:τ k with
  | none=>simp only [leS]
  | some j=>simp only [leS]; exact ⟨(H k j h).1,trivial,trivial,(H k j h).2⟩
 | .gd g x=>by
  simp only [wkV]
  cases h:x.cl with
  | true=>simp only [cond_true,leS]; exact ⟨trivial,h⟩
  | false=>simp only [cond_false,leS]
theorem wkL_le {τ:Nm→Option Nm} {σ:List (Nm×Nm)} (H:TauOk τ σ hin):∀ xs:List SV,leL hp hin σ [] xs (wkL τ xs)
 | []=>by simp only [wkL,leL]
 | x::xs=>by simp only [wkL,leL]; exact ⟨wk_le H x,wkL_le H xs⟩
end
mutual
theorem wk_st {τ:Nm→Option Nm}:∀ s:SV,(wkV τ s).st = true→wkV τ s = s
 | .any,h=>rfl
 | .v x,h=>rfl
 | .agg xs,h=>by simp only [wkV]; rw [wkL_st xs (by simpa only [wkV,SV.st] using h)]
 | .tup xs,h=>by simp only [wkV]; rw [wkL_st xs (by simpa only [wkV,SV.st] using h)]
 | .sl n xs,h=>by
  simp only [wkV] at h ⊢
  cases hc:clL xs with
  | true=>rfl
  | false=>rw [hc] at h; cases h
 | .own k o n,h=>by
  simp only [wkV] at h ⊢
  cases hc:τ k with
  | none=>rw [hc] at h; cases h
  | some j=>rw [hc] at h; cases h
 | .ptr k o,h=>by
  simp only [wkV] at h ⊢
  cases hc:τ k with
  | none=>rw [hc] at h; cases h
  | some j=>rw [hc] at h; cases h
 | .iptr xs o,h=>by
  simp only [wkV] at h ⊢
  cases hc:clL xs with
  | true=>rfl
  | false=>rw [hc] at h; cases h
 | .mp k,h=>by
  simp only [wkV] at h ⊢
  cases hc:τ k with
  | none=>rw [hc] at h; cases h
  | some j=>rw [hc] at h; cases h
 | .it k,h=>by
  simp only [wkV] at h ⊢
  cases hc:τ k with
  | none=>rw [hc] at h; cases h
  | some j=>rw [hc] at h; cases h
 | .clo f xs,h=>by simp only [wkV]; rw [wkL_st xs (by simpa only [wkV,SV.st] using h)]
 | .asl _ _ _,h=>by simp only [wkV,SV.st] at h; cases h
 | .bp k o n,h=>by
  simp only [wkV] at h ⊢
  cases hc:τ k with
  | none=>rw [hc] at h; cases h
  | some j=>rw [hc] at h; cases h
 | .mth t x,h=>by simp only [wkV]; rw [wk_st x (by simpa only [wkV,SV.st] using h)]
 | .ifc t x,h=>by simp only [wkV]; rw [wk_st x (by simpa only [wkV,SV.st] using h)]
 | .er _ _ _ _,h=>rfl
 | .gd g x,h=>by
  simp only [wkV] at h ⊢
  cases hc:x.cl with
  | true=>rfl
  | false=>rw [hc] at h; cases h
theorem wkL_st {τ:Nm→Option Nm}:∀ xs:List SV,stL (wkL τ xs) = true→wkL τ xs = xs
 | [],_=>rfl
 | x::xs,h=>by
  simp only [wkL,stL,Bool.and_eq_true] at h
  simp only [wkL]; rw [wk_st x h.1,wkL_st xs h.2]
end
theorem wkM_st {τ:Nm→Option Nm}:∀ es:List (Value×SV),stM (wkM τ es) = true→wkM τ es = es
 | [],_=>rfl
 | p::r,h=>by
  simp only [wkM,stM,Bool.and_eq_true] at h
  simp only [wkM]; rw [wk_st p.2 h.1,wkM_st r h.2]
theorem wkM_le {τ:Nm→Option Nm} {σ:List (Nm×Nm)} (H:TauOk τ σ hin):∀ es:List (Value×SV),leM hp hin σ [] es (wkM τ es)
 | []=>by simp only [wkM,leM]
 | p::r=>by simp only [wkM,leM]; exact ⟨trivial,wk_le H p.2,wkM_le H r⟩
theorem wkC_le {τ:Nm→Option Nm} {σ:List (Nm×Nm)} (H:TauOk τ σ hin) {j k:Nm} (hj:getN σ j = some k):leC1 hp hin σ [] j (wkC τ (getH hp k)):=by
 cases hc:getH hp k with
 | row e cs =>
  simp only [wkC,leC1]; rw [hj]; simp only; rw [hc]
  exact ⟨rfl,.inr (.inl (wkL_le H cs))⟩
 | map es =>
  simp only [wkC,leC1]; rw [hj]; simp only; rw [hc]
  simp only
  cases hs:stM (wkM τ es) with
  | true=>simp only [cond_true]; exact (wkM_st es hs).symm
  | false=>simp only [cond_false]; exact wkM_le H es
 | obj s p=>simp only [wkC,leC1]; rw [hj]; exact hc
 | _=>simp only [wkC,leC1]
mutual
def namesV:SV→List Nm
 | .agg xs=>namesVL xs
 | .tup xs=>namesVL xs
 | .own k _ _=>[k]
 | .ptr k _=>[k]
 | .mp k=>[k]
 | .it k=>[k]
 | .clo _ xs=>namesVL xs
 | .ifc _ x=>namesV x
 | .er _ _ _ _=>[]
 | .mth _ x=>namesV x
 | .asl k _ _=>[k]
 | .bp k _ _=>[k]
 | _=>[]
def namesVL:List SV→List Nm
 | []=>[]
 | x::xs=>namesV x++namesVL xs
end
def namesM:List (Value×SV)→List Nm
 | []=>[]
 | p::r=>namesV p.2++namesM r
def namesCh:Chunk→List Nm
 | .row _ cs=>namesVL cs
 | .map es=>namesM es
 | _=>[]
def closeN (hp:Hp):Nat→List Nm→List Nm→List Nm
 | 0,_,R=>R
 | _+1,[],R=>R
 | n+1,k::todo,R=>bif (R.any fun j=>j == k) || !(getH hp k).live then closeN hp n todo R else closeN hp n (namesCh (getH hp k)++todo) (R++[k])
def numN:Nat→List Nm→List (Nm×Nm)
 | _,[]=>[]
 | b,k::r=>(.t b,k)::numN (b+1) r
def selfN:List Nm→List (Nm×Nm)
 | []=>[]
 | k::r=>(k,k)::selfN r
def oldN:List (Nm×Nm)→Nm→Option Nm
 | [],_=>none
 | p::r,k=>bif p.2 == k then some p.1 else oldN r k
def isT:Nm→Bool
 | .t _=>true
 | _=>false
def tauN (pr:List (Nm×Nm)) (hp:Hp) (k:Nm):Option Nm:=match oldN pr k with
 | some j=>bif (getH hp k).live && (isT j && getN pr j == some k) then some j else none
 | none=>none
def hinN (τ:Nm→Option Nm) (hp:Hp):List (Nm×Nm)→Hp
 | []=>[]
 | p::r=>(p.1,wkC τ (getH hp p.2))::hinN τ hp r
def prOk (pr:List (Nm×Nm)):Bool:=pr.all fun p=>isT p.1 && getN pr p.1 == some p.2
theorem hin_get (τ:Nm→Option Nm) (hp:Hp) {j k:Nm} (hj:isT j = true):∀ {pr:List (Nm×Nm)},getN pr j = some k→getH (hinN τ hp pr) j = wkC τ (getH hp k)
 | [],h=>by cases h
 | p::r,h=>by
  obtain ⟨a,b⟩:=p
  simp only [hinN,getH]
  rw [getN_cons] at h
  cases j with
  | s F i=>cases hj
  | t x =>
   cases he:a.eqk (.t x) with
   | true=>rw [he] at h; simp only [cond_true,Option.some.injEq,Nm.to] at h; subst h; simp only [cond_true,Chunk.mem]
   | false=>rw [he] at h; simp only [cond_false] at h ⊢; exact hin_get τ hp hj h
theorem tau_ok (pr:List (Nm×Nm)) (hp:Hp):TauOk (tauN pr hp) pr (hinN (tauN pr hp) hp pr):=fun k j h=>by
 unfold tauN at h
 split at h
 ·rename_i j' hj'
  rw [Bool.cond_eq_ite] at h
  split at h
  ·rename_i hb
   simp only [Bool.and_eq_true,beq_iff_eq] at hb
   obtain ⟨hl,ht,hn⟩:=hb
   cases h
   refine ⟨hn,?_⟩
   rw [hin_get _ hp ht hn]; exact wkC_live hl
  ·cases h
 ·cases h
theorem hin_le {τ:Nm→Option Nm} {σ:List (Nm×Nm)} (H:TauOk τ σ hin):∀ pr:List (Nm×Nm),(∀ p ∈ pr,isT p.1 = true∧getN σ p.1 = some p.2)→leH hp hin σ [] (hinN τ hp pr)
 | [],_=>trivial
 | p::r,h=>by
  refine ⟨?_,hin_le H r fun q hq=>h q (by simp [hq])⟩
  obtain ⟨h1,h2⟩:=h p (by simp)
  have:=wkC_le (hp:=hp) H h2
  cases hp1:p.1 with
  | s F i=>rw [hp1] at h1; cases h1
  | t a=>rw [hp1] at this; exact this
theorem hin_le' {pr:List (Nm×Nm)} {hp:Hp} (h:prOk pr = true):leH hp (hinN (tauN pr hp) hp pr) pr [] (hinN (tauN pr hp) hp pr):=hin_le (tau_ok pr hp) pr fun p hp=>by
 have:=List.all_eq_true.1 h p hp
 simpa only [Bool.and_eq_true,beq_iff_eq] using this
def srcC (P:Program) (tx:TypeId) (z:Nat) (y:SV) (hp:Hp):Option (Nat×List SV×Bool):=match y with
 | .own k off m=>match getH hp k with
  | .row _ cs=>some (m,appCells cs off (m * z),Nat.ble (off+m * z) cs.length)
  | _=>none
 | .sl m cs=>some (m,cs,cs.length == m * z)
 | .v (.slice none 0 0)=>some (0,[],true)
 | .v (.string s)=>some (s.size,byteS s,z == 1)
 | _=>none
def appC (P:Program) (t tx:TypeId) (x y:SV) (hp:Hp):Bool:=match sliceT P t with
 | some (e,z)=>match srcC P tx z y hp with
  | some (m,news,b)=>match x with
   | .own k off n=>match getH hp k with
    | .row e' cs=>b && (e' == e && (news.length == m * z && (news.all oneS && (Nat.ble (off+n * z) cs.length && (Nat.blt 0 (P.bytesOf e) && Nat.ble ((n+m) * P.bytesOf e) 140737488355328)))))
    | _=>false
   | .v (.slice none 0 0)=>b && (news.length == m * z && (news.all oneS && (Nat.blt 0 (P.bytesOf e) && Nat.ble (m * P.bytesOf e) 140737488355328)))
   | _=>false
  | none=>false
 | none=>false
theorem src_side {tx:TypeId} {z:Nat} {y:SV} {f:Nat→List SV→List Nm→Prop→Res} {s:Prop} {e:Eff} (h:srcS P tx z y hp f = .ok s e) {m:Nat} {news:List SV} {b:Bool} (hb:srcC P tx z y hp = some (m,news,b)) :
 ∃rds s0,f m news rds s0 = .ok s e∧(b = true→s0):=by
 unfold srcS at h
 unfold srcC at hb
 split at h
 ·split at h
  ·obtain ⟨t,cs,hk,hf⟩:=rowS_ok h
   simp only [hk,Option.some.injEq,Prod.mk.injEq] at hb
   obtain ⟨rfl,rfl,rfl⟩:=hb
   exact ⟨_,_,hf,fun hb=>Nat.le_of_ble_eq_true hb⟩
  ·cases h
 ·split at h
  ·simp only [Option.some.injEq,Prod.mk.injEq] at hb
   obtain ⟨rfl,rfl,rfl⟩:=hb
   exact ⟨_,_,h,fun hb=>by simpa using hb⟩
  ·cases h
 ·split at h
  ·simp only [Option.some.injEq,Prod.mk.injEq] at hb
   obtain ⟨rfl,rfl,rfl⟩:=hb
   exact ⟨_,_,h,fun _=>trivial⟩
  ·cases h
 ·split at h
  ·simp only [Option.some.injEq,Prod.mk.injEq] at hb
   obtain ⟨rfl,rfl,rfl⟩:=hb
   exact ⟨_,_,h,fun hb=>by simpa using hb⟩
  ·cases h
 ·cases h
theorem app_side {t tx:TypeId} {x y:SV} {s:Prop} {e:Eff} (h:appendS P t tx x y hp nx = .ok s e) (hb:appC P t tx x y hp = true):s:=by
 unfold appendS at h
 unfold appC at hb
 cases ht:sliceT P t with
 | none=>rw [ht] at h; cases h
 | some ez =>
  obtain ⟨e1,z⟩:=ez
  rw [ht] at h hb
  simp only at h hb
  cases hs:srcC P tx z y hp with
  | none=>rw [hs] at hb; cases hb
  | some q =>
   obtain ⟨m,news,b⟩:=q
   rw [hs] at hb
   simp only at hb
   obtain ⟨rds,s0,hf,h0⟩:=src_side h hs
   split at hf
   ·obtain ⟨t',cs,hk,hf2⟩:=rowS_ok hf
    simp only [hk] at hb
    cases hf2
    simp only [Bool.and_eq_true,beq_iff_eq,Nat.blt_eq] at hb
    obtain ⟨b1,b2,b3,b4,b5,b6,b7⟩:=hb
    exact ⟨h0 b1,b2,b3,b4,Nat.le_of_ble_eq_true b5,b6,Nat.le_of_ble_eq_true b7⟩
   ·cases hf
    simp only [Bool.and_eq_true,beq_iff_eq,Nat.blt_eq] at hb
    obtain ⟨b1,b3,b4,b6,b7⟩:=hb
    exact ⟨h0 b1,b3,b4,b6,Nat.le_of_ble_eq_true b7⟩
   ·cases hf
def sliceC (P:Program) (t:TypeId) (x:SV) (lo hi:Option SV) (hp:Hp):Bool:=match x with
 | .own k off n=>match boundS lo 0,boundS hi n,sliceT P t with
  | some l,some h,some (_,z)=>match getH hp k with
   | .row e _=>P.cellsOf e == z && (decide (0≤l) && (decide (l≤h) && decide (h≤n)))
   | _=>false
  | _,_,_=>false
 | .sl n _=>match boundS lo 0,boundS hi n with
  | some l,some h=>decide (0≤l) && (decide (l≤h) && decide (h≤n))
  | _,_=>false
 | .v (.slice none 0 0)=>match boundS lo 0,boundS hi 0 with
  | some l,some h=>l == 0 && h == 0
  | _,_=>false
 | .v (.string s)=>match boundS lo 0,boundS hi s.size with
  | some l,some h=>decide (0≤l) && (decide (l≤h) && decide (h≤s.size))
  | _,_=>false
 | .ptr _ _=>true
 | _=>false
theorem slice_side {t:TypeId} {x:SV} {lo hi:Option SV} {s:Prop} {e:Eff} (h:sliceS P t x lo hi hp nx = .ok s e) (hb:sliceC P t x lo hi hp = true):s:=by
 unfold sliceS at h
 unfold sliceC at hb
 split at h
 ·split at h
  ·rename_i h1 h2 h3
   simp only [h1,h2,h3] at hb
   obtain ⟨t',cs,hk,hf2⟩:=rowS_ok h
   simp only [hk,Bool.and_eq_true,beq_iff_eq,decide_eq_true_eq] at hb
   cases hf2
   exact hb
  ·cases h
 ·split at h
  ·rename_i h1 h2 h3
   simp only [h1,h2,Bool.and_eq_true,decide_eq_true_eq] at hb
   cases h
   exact hb
  ·cases h
 ·split at h
  ·rename_i h1 h2 h3
   simp only [h1,h2,Bool.and_eq_true,beq_iff_eq] at hb
   cases h
   exact hb
  ·cases h
 ·split at h
  ·rename_i h1 h2 h3
   simp only [h1,h2,Bool.and_eq_true,decide_eq_true_eq] at hb
   cases h
   exact hb
  ·cases h
 ·split at h
  ·rw [Bool.cond_eq_ite] at h
   split at h
   ·have:=(liveS_ok h).2; cases this; trivial
   ·cases h
  ·cases h
 ·first | (cases hb; done) | (simp at hb; done)
 ·cases h
def mapKC (P:Program) (t:TypeId) (x key:SV) (hp:Hp):Bool:=match x,key,mapT P t with
 | .mp k,.v kv,some (d,_)=>match getH hp k with
  | .map es=>keyOk d kv && es.all (fun p=>keyAlike kv p.1)
  | _=>false
 | .mp k,.agg cs,some _=>match plainA cs,mapA P t with
  | some vs,some (_,l,_)=>match getH hp k with
   | .map es=>leavesV l vs && es.all (fun p=>aggFits l p.1)
   | _=>false
  | _,_=>false
 | _,_,_=>false
theorem look_side {t:TypeId} {x key:SV} {ok:Bool} {s:Prop} {e:Eff} (h:lookupS P t x key ok hp nx = .ok s e) (hb:mapKC P t x key hp = true):s:=by
 unfold lookupS at h
 unfold mapKC at hb
 split at h
 ·rename_i h3
  simp only [h3] at hb
  split at h
  ·obtain ⟨es,hk,hf⟩:=mapC_ok h
   simp only [hk,Bool.and_eq_true] at hb
   cases hf
   exact hb
  ·cases h
 ·rename_i h3
  simp only [h3] at hb
  split at h
  ·rename_i h1 h2
   simp only [h1,h2] at hb
   split at h
   ·obtain ⟨es,hk,hf⟩:=mapC_ok h
    simp only [hk,Bool.and_eq_true] at hb
    cases hf
    exact hb
   ·cases h
  ·cases h
 ·cases h
theorem mupd_side {t:TypeId} {x key v:SV} {s:Prop} {e:Eff} (h:mapUpdS P t x key v hp nx = .ok s e) (hb:mapKC P t x key hp = true):s:=by
 unfold mapUpdS at h
 unfold mapKC at hb
 split at h
 ·rename_i h3
  simp only [h3] at hb
  obtain ⟨es,hk,hf⟩:=mapC_ok h
  simp only [hk,Bool.and_eq_true] at hb
  cases hf
  exact hb
 ·rename_i h3
  simp only [h3] at hb
  split at h
  ·rename_i h1 h2
   simp only [h1,h2] at hb
   obtain ⟨es,hk,hf⟩:=mapC_ok h
   simp only [hk,Bool.and_eq_true] at hb
   cases hf
   exact hb
  ·cases h
 ·cases h
def mkC (P:Program) (t:TypeId) (l c:SV):Bool:=match l,c,sliceT P t with
 | .v (.int _ n),.v (.int _ m),some (e,z)=>match zeroT P e with
  | some zs=>decide (0≤n) && (decide (n≤m) && (decide (m≤4611686018427387904) && (decide ((P.bytesOf e:Int) * m≤140737488355328) && (zs.length == z && Nat.blt 0 z))))
  | none=>false
 | _,_,_=>false
theorem mk_side {t:TypeId} {l c:SV} {s:Prop} {e:Eff} (h:makeSliceS P t l c nx = .ok s e) (hb:mkC P t l c = true):s:=by
 unfold makeSliceS at h
 unfold mkC at hb
 split at h
 ·rename_i h3
  simp only [h3] at hb
  split at h
  ·rename_i h4
   simp only [h4,Bool.and_eq_true,decide_eq_true_eq,beq_iff_eq,Nat.blt_eq] at hb
   cases h
   exact hb
  ·cases h
 ·cases h
def convC (P:Program) (s d:TypeId) (x:SV) (hp:Hp):Bool:=match x with
 | .v (.int _ _)=>true
 | .v (.string b)=>(match P.underlying d with
  | some .string=>true
  | _=>Nat.ble (runesOf b).length 70368744177664)
 | x=>match srcC P s 1 x hp with
  | some (m,news,b)=>b && news.length == m * 1
  | none=>false
theorem conv_side {t d:TypeId} {x:SV} {s:Prop} {e:Eff} (h:convS P t d x hp nx = .ok s e) (hb:convC P t d x hp = true):s:=by
 unfold convS at h
 split at h
 ·split at h
  ·exact pureR_s h
  ·exact pureR_s h
  ·cases h
 ·split at h
  ·exact pureR_s h
  ·rename_i hn h1 h2
   split at h
   ·rename_i h3 h4
    cases h
    simp only [convC,h2] at hb
    exact Nat.le_of_ble_eq_true hb
   ·cases h
  ·cases h
 ·rename_i hx1 hx2
  have hc:convC P t d x hp = match srcC P t 1 x hp with
   | some (m,news,b)=>b && news.length == m * 1
   | none=>false:=by
   unfold convC
   split
   ·exact absurd rfl (hx1 _ _)
   ·exact absurd rfl (hx2 _)
   ·rfl
  rw [hc] at hb
  cases hs:srcC P t 1 x hp with
  | none=>rw [hs] at hb; cases hb
  | some q =>
   obtain ⟨m,news,b⟩:=q
   rw [hs] at hb
   simp only [Bool.and_eq_true,beq_iff_eq] at hb
   unfold strS' at h
   split at h
   ·split at h
    ·obtain ⟨rds,s0,hf,h0⟩:=src_side h hs
     simp only [Bool.cond_eq_ite] at hf
     split at hf
     ·cases hf; exact ⟨h0 hb.1,hb.2⟩
     ·cases hf
    ·obtain ⟨rds,s0,hf,h0⟩:=src_side h hs
     simp only [Bool.cond_eq_ite] at hf
     split at hf
     ·cases hf; exact ⟨h0 hb.1,hb.2⟩
     ·cases hf
    ·cases h
   ·cases h
def sideC (P:Program) (fr:Fr) (hp:Hp) (o:Op):Bool:=match o with
 | .convert s d x=>convC P s d (evS true fr x) hp
 | .slice t x lo hi none=>sliceC P t (tabS P (evS true fr x)) (lo.map (evS true fr)) (hi.map (evS true fr)) hp
 | .lookup t x i _=>mapKC P t (evS true fr x) (evS true fr i) hp
 | .mapUpdate t m k _=>mapKC P t (evS true fr m) (evS true fr k) hp
 | .insert t m k _=>mapKC P t (evS true fr m) (evS true fr k) hp
 | .makeSlice t l c=>mkC P t (evS true fr l) (evS true fr c)
 | .range _ _=>true
 | .next _ _=>true
 | .slice t x none (some hh) (some m)=>(match evS true fr hh,evS true fr m with
  | .v (.int _ a),.v (.int _ b)=>a == 0 && b == 0
  | _,_=>false)
 | .binOp op t x y q=>(match evS true fr x,evS true fr y with
  | .v (.string a),.v (.string b)=>Nat.ble (a.size+b.size) 9223372036854775807
  | _,_=>sideOk P true fr hp (.binOp op t x y q))
 | .index t x i=>(match evS true fr x,evS true fr i with
  | .v (.string s),.v (.int _ n)=>decide (0≤n) && decide (n < s.size)
  | _,_=>sideOk P true fr hp (.index t x i))
 | .call c=>(match c.callee with
  | .builtin .append=>(match c.args.toList,c.argTypes.toList with
   | [x,y],[t,tx]=>appC P t tx (evS true fr x) (evS true fr y) hp
   | _,_=>false)
  | _=>sideOk P true fr hp (.call c))
 | o=>sideOk P true fr hp o
theorem sideC_ok {fr:Fr} {ty:TypeId} {o:Op} {s:Prop} {e:Eff} (h:opS P true fr hp nx ty o = .ok s e) (hb:sideC P fr hp o = true):s:=by
 unfold sideC at hb
 split at hb
 ·exact conv_side (by simpa only [opS] using h) hb
 ·exact slice_side (by simpa only [opS] using h) hb
 ·exact look_side (by simpa only [opS] using h) hb
 ·exact mupd_side (by simpa only [opS] using h) hb
 ·exact mupd_side (by simpa only [opS] using h) hb
 ·exact mk_side (by simpa only [opS] using h) hb
 ·simp only [opS] at h
  unfold rangeS at h
  split at h
  ·split at h
   ·cases h; trivial
   ·cases h
  ·cases h
 ·simp only [opS] at h
  unfold nextS at h
  rw [Bool.cond_eq_ite] at h
  split at h
  ·split at h
   ·obtain ⟨t,pos,hk,hf⟩:=itC_ok h
    simp only [Bool.cond_eq_ite] at hf
    split at hf <;> (cases hf; trivial)
   ·cases h
  ·cases h
 ·simp only [opS] at h
  unfold slice0S at h
  split at hb
  ·rename_i h1 h2
   simp only [h1,h2] at h
   simp only [Bool.and_eq_true,beq_iff_eq] at hb
   split at h
   ·rename_i h3 h4 h5
    cases h4; cases h5
    split at h
    ·have:=(liveS_ok h).2; cases this; exact hb
    ·cases h; exact hb
    ·cases h; exact hb
    ·cases h
   ·cases h
  ·cases hb
 ·split at hb
  ·rename_i h1 h2
   simp only [opS,binOpS,erNilS,Option.getD_none,h1,h2] at h
   unfold strS at h
   split at h <;> first | exact pureR_s h | (cases h; exact Nat.le_of_ble_eq_true hb) | cases h
  ·exact sideOk_ok h hb
 ·split at hb
  ·rename_i h1 h2
   simp only [opS,indexS,h1,h2] at h
   simp only [Bool.and_eq_true,decide_eq_true_eq] at hb
   split at h
   ·cases h; exact hb
   ·cases h
  ·exact sideOk_ok h hb
 ·split at hb
  ·rename_i hcal
   simp only [opS,hcal] at h
   split at hb
   ·rename_i h1 h2
    simp only [h1,h2] at h
    split at h
    ·rw [Bool.cond_eq_ite] at h
     split at h
     ·exact app_side h hb
     ·cases h
    ·cases h
   ·cases hb
  ·exact sideOk_ok h hb
 ·exact sideOk_ok h hb
def ceCall (call:FuncId→List SV→Hp→Nat→Option (SV×Hp×Nat)) (f:FuncId) (args:List SV) (hp:Hp) (nx:Nat):Option (SV×Hp×Nat×List Nm) :=
 ceCall1 call f args hp nx (numN 0 (closeN hp 100000 (namesVL args) []))
where ceCall1 (call:FuncId→List SV→Hp→Nat→Option (SV×Hp×Nat)) (f:FuncId) (args:List SV) (hp:Hp) (nx:Nat) (pr:List (Nm×Nm)):Option (SV×Hp×Nat×List Nm) :=
 bif prOk pr && (okN 0 pr [] && (okH 0 pr.length pr (hinN (tauN pr hp) hp pr) && okC pr.length (hinN (tauN pr hp) hp pr) pr)) then
  match call f (wkL (tauN pr hp) args) (hinN (tauN pr hp) hp pr) pr.length with
  | some (x,h,n)=>bif wfH h then some (renS (bck (getN pr) nx) x,back (getN pr) nx pr.length h hp,nx+n,passK (getN pr) pr.length) else none
  | none=>none
 else none
def CallOk (P:Program) (call:FuncId→List SV→Hp→Nat→Option (SV×Hp×Nat)):Prop:=∀ f args hin m x h n,call f args hin m = some (x,h,n)→SpecW P f args hin m (fun r h' n'=>r = x∧h' = h∧n' = n)
theorem fam_numT {hp hin:Hp}:∀ {pr:List (Nm×Nm)},(∀ p ∈ pr,isT p.1 = true)→famOk hp hin pr
 | [],_=>trivial
 | p::r,h=>by
  have h1:=h p (by simp)
  refine ⟨?_,fam_numT fun q hq=>h q (by simp [hq])⟩
  cases hp1:p.1 with
  | t a=>trivial
  | s F i=>rw [hp1] at h1; cases h1
theorem ceCall_ok {call:FuncId→List SV→Hp→Nat→Option (SV×Hp×Nat)} (hc:CallOk P call) {d:Bool} {f:FuncId} {args:List SV} {K:SV→Hp→Nat→List Nm→Prop} {v:SV} {u:Hp} {n':Nat} {ks:List Nm} (h:ceCall call f args hp nx = some (v,u,n',ks)) (hk:K v u n' ks):CallW d P f args hp nx K:=by
 unfold ceCall at h
 generalize numN 0 (closeN hp 100000 (namesVL args) []) = pr at h
 unfold ceCall.ceCall1 at h
 rw [Bool.cond_eq_ite] at h
 split at h
 ·rename_i hb
  simp only [Bool.and_eq_true] at hb
  obtain ⟨b1,b2,b3,b4⟩:=hb
  split at h
  ·rename_i x h' n he
   rw [Bool.cond_eq_ite] at h
   split at h
   ·rename_i hw
    cases h
    have spec:=hc _ _ _ _ _ _ _ he
    have hT:∀ p ∈ pr,isT p.1 = true:=fun p hp=>by
     have:=List.all_eq_true.1 b1 p hp
     simp only [Bool.and_eq_true] at this
     exact this.1
    have hok:=handed_ok b4 (fam_numT (hp:=hp) hT)
    obtain ⟨l1,l2⟩:=leL_get (wkL_le (hp:=hp) (tau_ok pr hp) args)
    refine ⟨_,_,pr.length,_,getN pr,[],spec,sub_mk (hin_le' b1) b2,getN_sig pr,fun k hk=>⟨?_,okH_fresh b3 k hk⟩,?_,fun k j hk=>(hok k j hk).2,l1,fun i y z hy hz=>leS_sound (l2 i y z hy hz),⟨x,h',n,rfl,rfl,rfl⟩,fun _=>?_,?_⟩
    ·cases hn:getN pr k with
     | none=>rfl
     | some j=>have:=(hok k j hn).1; omega
    ·simp only [okN,Bool.and_eq_true] at b2
     exact nodupN_inj b2.1.1 b2.1.2
    ·rintro r1 h1 n1 r2 h2 n2 ⟨rfl,rfl,rfl⟩ ⟨rfl,rfl,rfl⟩; exact ⟨rfl,rfl,rfl⟩
    ·rintro res hp' nx' ⟨rfl,rfl,rfl⟩
     exact ⟨hw,.inl rfl,_,Trim.refl _ _ _,by simpa using hk⟩
   ·cases h
  ·cases h
 ·cases h
theorem HSt.killTurn_ext {P:Program} {w0:World} {I0 W0:Nat→Prop} {C:Nm→Chunk} {ids:Ids} {w:World} (h:HSt P w0 I0 W0 C ids w) {k:Nm} {b o:Nat} (hl:(C k).live = true) (hid:ids k = some (b,o)) {w':World}
  (hz:w'.heap.size = w.heap.size) (ho:∀ j,j≠b→w'.heap[j]? = w.heap[j]?) :
  Ext C ids (Im w0 I0 W0 C ids w) w (upd C k .dead) ids (Im w0 I0 W0 (upd C k .dead) ids w') w':=by
 refine ⟨fun d hd=>?_,fun j hj=>?_,fun j hj=>?_⟩
 ·obtain ⟨h1,h2,h3⟩:=hd
  have hdb:d≠b:=fun e=>by subst e; exact h3 k hl o hid
  refine ⟨⟨h1,by omega,fun j hj o'=>?_⟩,ho d hdb⟩
  by_cases hjk:j = k
  ·subst hjk; rw [upd_same] at hj; cases hj
  ·rw [upd_ne _ _ hjk] at hj; exact h3 j hj o'
 ·have hjk:j≠k:=fun e=>by subst e; rw [hj] at hl; cases hl
  rw [upd_ne _ _ hjk]; exact hj
 ·by_cases hjk:j = k
  ·subst hjk; rw [upd_same]; exact .inl rfl
  ·rw [upd_ne _ _ hjk]
   refine .inr ⟨hj,rfl,SameKind.refl hj,fun b' o' hid'=>SameShape.of_eq (ho b' fun e=>?_)⟩
   subst e; exact hjk (h.inj j k b' o' o hj hl hid' hid)
theorem HSt.killTurn {P:Program} {w0:World} {I0 W0:Nat→Prop} {C:Nm→Chunk} {ids:Ids} {w:World} (h:HSt P w0 I0 W0 C ids w) {k:Nm} {b o:Nat} (hl:(C k).live = true) (hid:ids k = some (b,o)) {w':World}
  (hz:w'.heap.size = w.heap.size) (ho:∀ j,j≠b→w'.heap[j]? = w.heap[j]?) (hos:w'.os = w.os) (htape:w'.tape = w.tape) (hout:w'.output = w.output) (hdr:w.drawn≤w'.drawn):HSt P w0 I0 W0 (upd C k .dead) ids w':=by
 have hE:=h.killTurn_ext hl hid hz ho
 have e:∀ j,(upd C k .dead j).live = true→(C j).live = true:=fun j hj=>by
  by_cases hjk:j = k
  ·subst hjk; rw [upd_same] at hj; cases hj
  ·rw [upd_ne _ _ hjk] at hj; exact hj
 refine ⟨fun j=>?_,fun j j' b o1 o2 hj hj' hi hi'=>h.inj j j' b o1 o2 (e j hj) (e j' hj') hi hi',fun j d o' hj hi=>?_,h.im0,fun d hd hW=>?_,hos.trans h.os,⟨htape.trans h.tape.1,h.tape.2.trans (.of hdr)⟩,hout.trans h.output,by rw [hz]; exact h.size⟩
 ·by_cases hjk:j = k
  ·subst hjk; rw [upd_same]; trivial
  ·rw [upd_ne _ _ hjk]
   by_cases hlj:(C j).live = true
   ·exact (h.ch j).mono hE rfl (fun b' o' hid'=>ho b' fun e=>by subst e; exact hjk (h.inj j k b' o' o hlj hl hid' hid))
   ·cases hcj:C j <;> simp_all [Chunk.live,DenC]
 ·have:=h.lt j d o' (e j hj) hi
  exact ⟨by omega,this.2⟩
 ·have hdb:d≠b:=fun e=>by
   subst e
   rcases (h.lt k d o hl hid).2 with hh | hh
   ·exact hW hh
   ·omega
  rw [ho d hdb]; exact h.evol d hd hW
theorem heap_killTurn {X:Cx} {hp:Hp} {ids:Ids} {w:World} (h:HeapC X hp ids w) {k:Nm} {b o:Nat} (hl:(getH hp k).live = true) (hid:ids k = some (b,o)) {w':World}
  (hz:w'.heap.size = w.heap.size) (ho:∀ j,j≠b→w'.heap[j]? = w.heap[j]?) (hos:w'.os = w.os) (htape:w'.tape = w.tape) (hout:w'.output = w.output) (hdr:w.drawn≤w'.drawn) :
  HeapC X ([updE k .dead hp]++hp) ids w'∧ExtX X hp ids w ([updE k .dead hp]++hp) ids w':=by
 have hC:getH ([updE k .dead hp]++hp) = upd (getH hp) k .dead:=getH_put (live_born hl) (by simp)
 have hE:=h.st.killTurn_ext hl hid hz ho
 refine ⟨⟨by rw [hC]; exact h.st.killTurn hl hid hz ho hos htape hout hdr,fun j hj h0 hjl=>?_,fun j hj hv=>by rw [hC] at hv; exact nov_upd h.nov (fun e=>by cases e) j hj hv⟩,by simp only [ExtX,hC]; exact hE⟩
 have hlo:(getH hp j).live = true:=by
  rw [hC] at hjl
  by_cases hjk:j = k
  ·subst hjk; rw [upd_same] at hjl; cases hjl
  ·rwa [upd_ne _ _ hjk] at hjl
 rw [hC] at hjl ⊢
 exact (h.kept j hj h0 hlo).step hE hlo hjl
theorem freeze_other (w:World) (a:Addr) (n:Nat):(w.freeze a n).heap.size = w.heap.size∧(∀ j,j≠a.block→(w.freeze a n).heap[j]? = w.heap[j]?)∧(w.freeze a n).os = w.os∧(w.freeze a n).tape = w.tape∧(w.freeze a n).output = w.output∧w.drawn≤(w.freeze a n).drawn:=by
 unfold World.freeze
 split
 ·exact ⟨rfl,fun _ _=>rfl,rfl,rfl,rfl,Nat.le_refl _⟩
 ·exact ⟨by simp,fun j hj=>by simp only [Array.getElem?_modify]; rw [if_neg (fun e=>hj e.symm)],rfl,rfl,rfl,Nat.le_refl _⟩
theorem lies_bytes {P:Program} {e:TypeId} (hc:P.cellsOf e = 1) (count off n:Nat) (hn:off+n≤count):liesAt P P.depth e count off e n = true:=by
 have hd:P.depth = (2 * (P.types.size+Made.depth)+1)+1:=rfl
 rw [hd]
 simp only [liesAt,Bool.or_eq_true]
 left
 rw [hd]
 simp [Go.rowAt,hc,hn,sameLayout,Nat.mod_one]
theorem run_ustr {P:Program} (w:World) (pt it ty e:TypeId) (hp:P.underlying pt = some (.pointer e)) (hc:P.cellsOf e = 1) (g off cells:Nat) (hsh:w.shape? g = some (e,cells)) (l:List UInt8) (h0:l≠[]) (hn:off+l.length≤cells) (h63:l.length≤9223372036854775807)
  (hcell:∀ j x,l[j]? = some x→w.cell? ((⟨g,off,none⟩:Addr).add j) = some (.int .u8 x.toNat)) :
  (Builtin.unsafeString_ #[pt,it] ty #[.pointer (some ⟨g,off,none⟩),.int .i64 l.length]).run P w = .ok (.string ⟨l.toArray⟩) (w.freeze ⟨g,off,none⟩ l.length):=by
 have hl:l.length≠0:=by simpa using h0
 have hlb:=Lib.run_loadBytes (P:=P) w l ⟨g,off,none⟩ .empty hcell
 have hlies:=lies_bytes (P:=P) hc (cells / P.cellsOf e) off l.length (by rw [hc]; simpa using hn)
 have h63':¬ (9223372036854775807:Int) < (l.length:Int):=by omega
 have hdef:Builtin.unsafeString_ #[pt,it] ty #[.pointer (some ⟨g,off,none⟩),.int .i64 l.length] = (do
    let n ← asInt (.int .i64 l.length)
    if n < 0 then runtimePanic (.error "unsafe.String: len out of range")
    if n > IntKind.i64.max then unsupported (.unsafePointer "String: a length above the largest int")
    if n = 0 then pure (.string .empty)
    else if ← variablesAt ⟨g,off,none⟩ (← elemOf pt) n.toNat then do
     let s ← loadBytes ⟨g,off,none⟩ .empty n.toNat
     freeze ⟨g,off,none⟩ n.toNat
     pure (.string s)
    else unsupported (.unsafePointer "String: not so many bytes at ptr")) := rfl
 rw [hdef]
 have hmax:IntKind.i64.max = 9223372036854775807:=rfl
 have hneg:¬ (l.length:Int) < 0:=by omega
 simp [asInt,asIntOf,hmax,h63',hneg,hl,variablesAt,hsh,elemOf,run_underlying hp,hlies,hlb]
def byteOf:SV→UInt8
 | .v (.int _ n)=>n.toNat.toUInt8
 | _=>0
def isByte:SV→Bool
 | .v (.int .u8 n)=>decide (0≤n) && decide (n < 256)
 | _=>false
def selfT (P:Program) (t:TypeId):Bool:=match P.underlying t with
 | some (.struct fs)=>match fs.toList with
  | [f,g]=>match P.underlying f.type,P.underlying g.type with
   | some (.pointer u),some (.slice e)=>u == t && (match P.underlying e with | some (.int .u8)=>true | _=>false)
   | _,_=>false
  | _=>false
 | _=>false
def opB (P:Program) (fr:Fr) (hp:Hp) (nx:Nat) (o:Op):Option Eff:=match o with
 | .alloc t=>bif selfT P t then match zeroT P t with
  | some cs=>some ⟨.bp nx t cs.length,[(Nm.t nx,.row t cs)],nx+1,[]⟩
  | none=>none
  else none
 | .load t x=>match evS true fr x with
  | .bp k _ _=>match loadS P t (.ptr k 0) hp nx,getH hp k with
   | .ok _ e,.row _ cs=>bif takeB P t cs 0 then some e else none
   | _,_=>none
  | _=>none
 | .fieldAddr t x f=>match evS true fr x,fieldT P t f with
  | .bp k _ _,some (o,_,_)=>some ⟨.ptr k (0+o),[],nx,[]⟩
  | _,_=>none
 | .nilCheck x=>match evS true fr x with
  | .bp k e n=>some ⟨.bp k e n,[],nx,[]⟩
  | _=>none
 | .convert s d x=>match evS true fr x,P.underlying s,P.underlying d with
  | .v (.int _ n),some (.int _),some .string=>some ⟨.v (.string (Utf8.encode n)),[],nx,[]⟩
  | _,_,_=>none
 | .call c=>match c.callee,c.args.toList,c.argTypes.toList with
  | .builtin .unsafeSliceData,[x],[_]=>match evS true fr x with
   | .own k off n=>match getH hp k with
    | .row _ _=>bif Nat.blt 0 n then some ⟨.ptr k off,[],nx,[k.key]⟩ else none
    | _=>none
   | _=>none
  | .builtin .unsafeString,[x,y],[t,_]=>match evS true fr x,evS true fr y,P.underlying t with
   | .ptr k off,.v (.int .i64 n),some (.pointer e)=>match getH hp k with
    | .row e' cs=>bif e == e' && (szT P e == some 1 && (decide (0 < n) && (Nat.ble (off+n.toNat) cs.length && (Nat.ble n.toNat 140737488355328 && (appCells cs off n.toNat).all isByte)))) then
      some ⟨.v (.string ⟨((appCells cs off n.toNat).map byteOf).toArray⟩),[updE k .dead hp],nx,[k.key]⟩ else none
    | _=>none
   | _,_,_=>none
  | _,_,_=>none
 | _=>none
theorem opB_sem {fr:Fr} {o:Op} {e:Eff} (h:opB P fr hp nx o = some e):semOk o = true:=by
 cases o <;> first | rfl | (unfold opB at h; cases h)
theorem sound_allocB {X:Cx} {ids:Ids} {w:World} (h:HeapX X hp nx ids w) {t:TypeId} {cs:List SV} (hz:zeroT X.P t = some cs) (old:Value):Sound X hp ids w ((Instr.alloc t true old).run X.P w) ⟨.bp nx t cs.length,[(Nm.t nx,.row t cs)],nx+1,[]⟩:=by
 unfold zeroT at hz
 cases hi:X.P.info? t with
 | none=>rw [hi] at hz; cases hz
 | some i =>
  rw [hi] at hz
  cases hzz:i.zero with
  | none=>simp [hzz] at hz
  | some z =>
   simp [hzz] at hz
   obtain ⟨h1,h2⟩:=heap_alloc h (e:=t) (cs:=cs) (arr:=z.cells) (by rw [← hz]; simp) (fun j x hj=>by
    rw [← hz] at hj
    have:=den_lit (ids:=ids) (w:=w) X.P (getH hp) (Im X.w0 X.I0 X.W0 (getH hp) ids w) (l:=z.cells.toList) j x (by simpa using hj)
    simpa using this)
   refine ⟨_,_,_,?_,h1,h2,.bp w.heap.size z.cells ?_ (upd_same _ _ _) (heap_alloc_new' w _) (by rw [← hz]; simp)⟩
   ·simp [Instr.alloc,zeroValue,typeInfo,hi,hzz,newVar,newRow]
   ·rw [List.singleton_append,getH_upd,upd_same]; rfl
theorem isByte_val {X:Cx} {ids:Ids} {w:World} {s:SV} {x:Value} (h:isByte s = true) (hd:DenX X hp ids w s x):x = .int .u8 (byteOf s).toNat:=by
 unfold isByte at h
 split at h
 ·rename_i n
  simp only [Bool.and_eq_true,decide_eq_true_eq] at h
  obtain rfl:=den_v hd
  simp only [byteOf]
  congr 1
  have:(n.toNat.toUInt8).toNat = n.toNat:=by
   show n.toNat % 256 = n.toNat
   omega
  rw [this]; omega
 ·cases h
theorem opB_ok {fr:Fr} {o:Oper} {e:Eff} (h:opB P fr hp nx o.op = some e):nx≤e.nx∧SemW P o fr hp nx (EqEff e):=by
 unfold opB at h
 split at h
 ·rename_i t ho
  rw [Bool.cond_eq_ite] at h
  split at h
  ·split at h
   ·rename_i cs hz
    cases h
    refine ⟨Nat.le_succ _,semW_of ⟨Nat.le_succ _,fun p hp1=>by rw [List.mem_singleton.1 hp1]; exact .inl ⟨Nat.le_refl _,Nat.lt_succ_self _⟩⟩ ?_⟩
    intro X ids w fr' hp' a hP hH hf hev hrd
    subst hP
    unfold execOp
    rw [ho]
    exact soundN_value (sound_allocB hH hz _)
   ·cases h
  ·cases h
 ·rename_i t x ho
  split at h
  ·rename_i k e1 n1 hx
   split at h
   ·rename_i sd e2 t2 cs hl hk
    rw [Bool.cond_eq_ite] at h
    split at h
    ·rename_i hb
     cases h
     have hs:takeS P t cs 0 [k.key] nx = .ok sd e:=by simpa only [loadS,hk,rowS] using hl
     have hsd:=takeB_ok hs hb
     have hu:e.upd = []∧e.nx = nx∧e.rds = [k.key]:=by
      unfold takeS at hs
      split at hs <;> first | (cases hs; exact ⟨rfl,rfl,rfl⟩) | cases hs
     obtain ⟨u1,u2,u3⟩:=hu
     refine ⟨by omega,semW_of ⟨by omega,fun p hp1=>by rw [u1] at hp1; cases hp1⟩ ?_⟩
     intro X ids w fr' hp' a hP hH hf hev hrd
     subst hP
     have hd:=ev_den hf (g:=true) rfl x
     rw [hev x (by rw [ho]; simp [Op.operands]),hx] at hd
     have hk':getH hp' k = .row t2 cs:=by rw [hrd k (by rw [u3]; exact List.mem_cons_self ..),hk]
     unfold execOp
     rw [ho]
     exact soundN_value (sound_load hH (den_bp_ptr hd) (by simp only [loadS,hk',rowS]; exact hs) hsd)
    ·cases h
   ·cases h
  ·cases h
 ·rename_i t x f ho
  split at h
  ·rename_i k e1 n1 q ty n2 hx hf1
   cases h
   refine ⟨Nat.le_refl _,semW_of ⟨Nat.le_refl _,fun p hp1=>by cases hp1⟩ ?_⟩
   intro X ids w fr' hp' a hP hH hf hev hrd
   subst hP
   have hd:=ev_den hf (g:=true) rfl x
   rw [hev x (by rw [ho]; simp [Op.operands]),hx] at hd
   unfold execOp
   rw [ho]
   exact soundN_value (sound_fieldAddr hH (den_bp_ptr hd) (side:=True) (by simp only [fieldAddrS',hf1]) trivial)
  ·cases h
 ·rename_i x ho
  split at h
  ·rename_i k e1 n1 hx
   cases h
   refine ⟨Nat.le_refl _,semW_of ⟨Nat.le_refl _,fun p hp1=>by cases hp1⟩ ?_⟩
   intro X ids w fr' hp' a hP hH hf hev hrd
   subst hP
   have hd:=ev_den hf (g:=true) rfl x
   rw [hev x (by rw [ho]; simp [Op.operands]),hx] at hd
   obtain ⟨b,o',hv⟩:∃ b o,a.eval x = .pointer (some ⟨b,o,none⟩):=by
    rcases den_ptr' (den_bp_ptr hd) with ⟨_,b,o,h⟩ | ⟨_,b,o,_,h⟩ <;> exact ⟨_,_,h⟩
   unfold execOp
   rw [ho]
   exact ⟨_,w,ids,.inl (by simp only [hv]; rfl),hH.toHeapC,Ext.refl _ _ _ _,by rw [hv] at hd; exact hd⟩
  ·cases h
 ·rename_i s d x ho
  split at h
  ·rename_i k n k' hx h1 h2
   cases h
   refine ⟨Nat.le_refl _,semW_of ⟨Nat.le_refl _,fun p hp1=>by cases hp1⟩ ?_⟩
   intro X ids w fr' hp' a hP hH hf hev hrd
   subst hP
   have hd:=ev_den hf (g:=true) rfl x
   rw [hev x (by rw [ho]; simp [Op.operands]),hx] at hd
   have hv:=den_v hd
   unfold execOp
   rw [ho]
   exact soundN_value (sound_pure hH (by simp [hv,convert,run_underlying h1,run_underlying h2,Conv.intToString]) .v)
  ·cases h
 ·rename_i c ho
  obtain ⟨callee,⟨args⟩,⟨tys⟩⟩:=c
  split at h
  ·rename_i x t h1 h2 h3
   simp only at h1 h2 h3
   subst h1; subst h2; subst h3
   split at h
   ·rename_i k off n hx
    split at h
    ·rename_i et cs hk
     rw [Bool.cond_eq_ite] at h
     split at h
     ·rename_i hb
      rw [Nat.blt_eq] at hb
      cases h
      refine ⟨Nat.le_refl _,semW_of ⟨Nat.le_refl _,fun p hp1=>by cases hp1⟩ ?_⟩
      intro X ids w fr' hp' a hP hH hf hev hrd
      subst hP
      have hd:=ev_den hf (g:=true) rfl x
      rw [hev x (by rw [ho]; simp [Op.operands,Call.operands]),hx] at hd
      have hk':getH hp' k = .row et cs:=by rw [hrd k (List.mem_cons_self ..),hk]
      have hlk:(getH hp' k).live = true:=by rw [hk']; rfl
      obtain ⟨ad,cap,hv,c1,c2,c4,c3⟩:=den_own hd hlk
      rcases c3 with ⟨c3,_⟩ | ⟨b,q,e2,cs2,arr,_,hid,had,hw,hsz⟩
      ·omega
      subst had
      unfold execOp
      rw [ho]
      simp only [resolve,Sem.run_bind,Sem.run_pure,Result.andThen_ok,invoke,builtin]
      simp only [List.map_toArray,List.map_cons,List.map_nil]
      rw [hv,Lib.run_unsafeSliceData_row w _ _ _ _ _ (by omega)]
      exact ⟨_,w,ids,.inl rfl,hH.toHeapC,Ext.refl _ _ _ _,.ptr b q hlk hid⟩
     ·cases h
    ·cases h
   ·cases h
  ·rename_i x y t t2 h1 h2 h3
   simp only at h1 h2 h3
   subst h1; subst h2; subst h3
   split at h
   ·rename_i k off n e1 hx hy hu
    split at h
    ·rename_i e2 cs hk
     rw [Bool.cond_eq_ite] at h
     split at h
     ·rename_i hb
      simp only [Bool.and_eq_true,beq_iff_eq,decide_eq_true_eq] at hb
      obtain ⟨rfl,b2,b3,b4,b5,b6⟩:=hb
      have b4:=Nat.le_of_ble_eq_true b4
      have b5:=Nat.le_of_ble_eq_true b5
      have hlk0:(getH hp k).live = true:=by rw [hk]; rfl
      cases h
      refine ⟨Nat.le_refl _,semW_of ⟨Nat.le_refl _,fun p hp1=>by rw [List.mem_singleton.1 hp1]; exact .inr ⟨by simp [updE_key],k,by simp [updE_key],live_born hlk0⟩⟩ ?_⟩
      intro X ids w fr' hp' a hP hH hf hev hrd
      subst hP
      rw [← updE_local (c:=.dead) hrd (List.mem_cons_self ..)]
      have hdx:=ev_den hf (g:=true) rfl x
      rw [hev x (by rw [ho]; simp [Op.operands,Call.operands]),hx] at hdx
      have hdy:=ev_den hf (g:=true) rfl y
      rw [hev y (by rw [ho]; simp [Op.operands,Call.operands]),hy] at hdy
      have hvy:=den_v hdy
      have hk':getH hp' k = .row e1 cs:=by rw [hrd k (List.mem_cons_self ..),hk]
      have hlk:(getH hp' k).live = true:=by rw [hk']; rfl
      obtain ⟨b,q,hid,hvx⟩:=den_ptr hdx hlk
      have hch:=hH.st.ch k
      rw [hk'] at hch
      simp only [DenC,hid] at hch
      obtain ⟨arr,hw,hsz,hcs⟩:=hch
      have hlen:(appCells cs off n.toNat).length = n.toNat:=by
       simp only [appCells,List.length_take,List.length_drop]; omega
      have hn:(n.toNat:Int) = n:=by omega
      have hrun:=run_ustr (P:=X.P) w t t2 o.type e1 hu (szT_cells b2) b (q+off) arr.size (by simp [World.shape?,hw]) ((appCells cs off n.toNat).map byteOf) (fun h0=>by
       have:=congrArg List.length h0
       simp [hlen] at this; omega) (by rw [List.length_map,hlen]; omega) (by rw [List.length_map,hlen]; omega) (fun j z hj=>by
       rw [List.getElem?_map] at hj
       cases hc:(appCells cs off n.toNat)[j]? with
       | none=>rw [hc] at hj; cases hj
       | some sv =>
        rw [hc] at hj; cases hj
        obtain ⟨hg,hm⟩:=appCells_get hc
        have hby:isByte sv = true:=List.all_eq_true.1 b6 sv (List.mem_of_getElem? hc)
        have hden:=hcs (off+j) sv hm
        have hval:=isByte_val (hp:=hp') hby hden
        have hlt:q+(off+j) < arr.size:=by
         have:=(List.getElem?_eq_some_iff.1 hm).1; omega
        rw [add_mk]
        simp only [World.cell?,hw]
        rw [← Nat.add_assoc] at hval hlt
        rw [Array.getD_eq_getD_getElem?,Array.getElem?_eq_getElem hlt] at hval
        simp only [Option.getD_some] at hval
        rw [show q+off+j = q+off+j from rfl]
        simp [hlt,hval])
      rw [List.length_map,hlen,hn] at hrun
      obtain ⟨f1,f2,f3,f4,f5,f6⟩:=freeze_other w ⟨b,q+off,none⟩ n.toNat
      obtain ⟨g1,g2⟩:=heap_killTurn hH.toHeapC hlk hid (w':=w.freeze ⟨b,q+off,none⟩ n.toNat) f1 f2 f3 f4 f5 f6
      unfold execOp
      rw [ho]
      simp only [resolve,Sem.run_bind,Sem.run_pure,Result.andThen_ok,invoke,builtin]
      simp only [List.map_toArray,List.map_cons,List.map_nil]
      rw [hvx,hvy,hrun]
      exact ⟨_,_,_,.inl rfl,g1,g2,.v⟩
     ·cases h
    ·cases h
   ·cases h
  ·cases h
 ·cases h
def ceOps (P:Program) (call:FuncId→List SV→Hp→Nat→Option (SV×Hp×Nat)) (d:Bool) (ops:Array Oper):List Oper→Fr→Hp→Nat→List Nms→Option (Fr×Hp×Nat×List Nms)
 | [],fr,hp,nx,acc=>some (fr,hp,nx,acc)
 | o::rest,fr,hp,nx,acc=>match doneS ops fr o with
  | none=>none
  | some false=>ceOps P call d ops rest (putF o.dst (skipV P o.op) fr) hp (bif d then nx+1 else nx) (acc++[⟨[],[],nx,nx⟩])
  | some true=>match callOf true fr o.op with
   | some c=>match ceCall call c.1 c.2 hp nx with
    | some (v,u,n',ks)=>ceOps P call d ops rest (putF o.dst v fr) (u++hp) (bif d then n'+1 else n') (acc++[⟨u.map (·.1.key),ks,nx,n'⟩])
    | none=>none
   | none=>match o.guard,opB P fr hp nx o.op with
    | none,some ⟨val,upd,nx',rds⟩=>ceOps P call d ops rest (putF o.dst val fr) (upd++hp) (bif d then nx'+1 else nx') (acc++[⟨upd.map (·.1.key),rds,nx,nx'⟩])
    | _,_=>match opS P true fr hp nx o.type o.op with
    | .bad=>match o.guard,opX P fr hp nx o.op with
     | none,some ⟨val,upd,nx',rds⟩=>ceOps P call d ops rest (putF o.dst val fr) (upd++hp) (bif d then nx'+1 else nx') (acc++[⟨upd.map (·.1.key),rds,nx,nx'⟩])
     | _,_=>none
    | .ok _ ⟨val,upd,nx',rds⟩=>bif sideC P fr hp o.op && !quietBad P o nx ⟨val,upd,nx',rds⟩ then
      ceOps P call d ops rest (putF o.dst (wrapV P o val) fr) (upd++hp) (bif d then nx'+1 else nx') (acc++[⟨upd.map (·.1.key),rds,nx,nx'⟩])
     else match o.guard,opX P fr hp nx o.op with
     | none,some ⟨val,upd,nx',rds⟩=>ceOps P call d ops rest (putF o.dst val fr) (upd++hp) (bif d then nx'+1 else nx') (acc++[⟨upd.map (·.1.key),rds,nx,nx'⟩])
     | _,_=>none
theorem stepW_call {dt:Bool} {ops:Array Oper} {o:Oper} {fr:Fr} {c:FuncId×List SV} {K2:SV→Hp→Nat→List Nm→Prop} (hd:doneS ops fr o = some true) (hc:callOf true fr o.op = some c) (hk:CallW dt P c.1 c.2 hp nx K2):stepW dt P ops o fr hp nx K2:=by
 have hq:quietP P o.op = false:=by unfold quietP; rw [quietS_call hc]; rfl
 unfold stepW
 unfold doneS at hd
 cases hg:o.guard with
 | none=>simp only; unfold coreW; rw [hc]; exact hk
 | some jw =>
  rw [hg] at hd
  simp only at hd ⊢
  rw [hd]
  simp only [hq,cond_false]
  refine ⟨fun _=>?_,(fun he=>by cases he)⟩
  unfold coreW; rw [hc]; exact hk
theorem stepW_b {dt:Bool} {ops:Array Oper} {o:Oper} {fr:Fr} {K:SV→Hp→Nat→List Nm→Prop} {v:SV} {u:Hp} {n:Nat} {r:List Nm} (hg:o.guard = none) (hc:callOf true fr o.op = none) (hx:opB P fr hp nx o.op = some ⟨v,u,n,r⟩) (hk:K v u n r):stepW dt P ops o fr hp nx K:=by
 obtain ⟨h1,h2⟩:=opB_ok hx
 unfold stepW
 rw [hg]
 simp only
 unfold coreW
 rw [hc]
 refine .inl ⟨rfl,opB_sem hx,?_⟩
 cases dt with
 | false=>exact h2.mono rfl fun v u n r he=>by obtain ⟨rfl,rfl,rfl,rfl⟩:=he; exact hk
 | true=>exact ⟨_,h1,hk,h2⟩
theorem opX_sem {fr:Fr} {o:Op} {e:Eff} (h:opX P fr hp nx o = some e):semOk o = true:=by
 cases o <;> first | rfl | (unfold opX at h; cases h)
theorem stepW_x {dt:Bool} {ops:Array Oper} {o:Oper} {fr:Fr} {K:SV→Hp→Nat→List Nm→Prop} {v:SV} {u:Hp} {n:Nat} {r:List Nm} (hg:o.guard = none) (hc:callOf true fr o.op = none) (hx:opX P fr hp nx o.op = some ⟨v,u,n,r⟩) (hk:K v u n r):stepW dt P ops o fr hp nx K:=by
 obtain ⟨h1,h2⟩:=opX_ok hx
 unfold stepW
 rw [hg]
 simp only
 unfold coreW
 rw [hc]
 refine .inl ⟨rfl,opX_sem hx,?_⟩
 cases dt with
 | false=>exact h2.mono rfl fun v u n r he=>by obtain ⟨rfl,rfl,rfl,rfl⟩:=he; exact hk
 | true=>exact ⟨_,h1,hk,h2⟩
theorem ceOps_run {call:FuncId→List SV→Hp→Nat→Option (SV×Hp×Nat)} (hcall:CallOk P call) {ops:Array Oper} {K:Fr→Hp→Nat→Prop} {fr':Fr} {hp':Hp} {nx':Nat} {acc':List Nms}:∀ (l:List Oper) (fr:Fr) (hp:Hp) (nx:Nat) (acc:List Nms),ceOps P call false ops l fr hp nx acc = some (fr',hp',nx',acc')→K fr' hp' nx'→runOps P ops l fr hp nx K
 | [],fr,hp,nx,acc,h,hk=>by cases h; exact hk
 | o::rest,fr,hp,nx,acc,h,hk=>by
  unfold ceOps at h
  split at h
  ·cases h
  ·rename_i hd
   exact stepW_skip hd (ceOps_run hcall rest _ _ _ _ h hk)
  ·rename_i hd
   split at h
   ·rename_i c hc
    split at h
    ·rename_i v u n' ks he
     exact stepW_call hd hc (ceCall_ok hcall he (ceOps_run hcall rest _ _ _ _ h hk))
    ·cases h
   ·rename_i hc
    split at h
    ·rename_i hg hx
     exact stepW_b hg hc hx (ceOps_run hcall rest _ _ _ _ h hk)
    ·split at h
     ·split at h
      ·rename_i hg hx
       exact stepW_x hg hc hx (ceOps_run hcall rest _ _ _ _ h hk)
      ·cases h
     ·rename_i sd val upd nx2 rds hop
      rw [Bool.cond_eq_ite] at h
      split at h
      ·rename_i hq
       simp only [Bool.and_eq_true,Bool.not_eq_true'] at hq
       exact stepW_done hd hc hop (sideC_ok hop hq.1) hq.2 (ceOps_run hcall rest _ _ _ _ h hk)
      ·split at h
       ·rename_i hg hx
        exact stepW_x hg hc hx (ceOps_run hcall rest _ _ _ _ h hk)
       ·cases h
theorem ceOps_draw {call:FuncId→List SV→Hp→Nat→Option (SV×Hp×Nat)} (hcall:CallOk P call) {ops:Array Oper} {K:List Nms→Fr→Hp→Nat→Prop} {fr':Fr} {hp':Hp} {nx':Nat} {acc':List Nms}:∀ (l:List Oper) (fr:Fr) (hp:Hp) (nx:Nat) (acc:List Nms),ceOps P call true ops l fr hp nx acc = some (fr',hp',nx',acc')→K acc' fr' hp' nx'→runD P ops l fr hp nx acc K
 | [],fr,hp,nx,acc,h,hk=>by cases h; exact hk
 | o::rest,fr,hp,nx,acc,h,hk=>by
  unfold ceOps at h
  split at h
  ·cases h
  ·rename_i hd
   exact stepW_skip hd (ceOps_draw hcall rest _ _ _ _ h hk)
  ·rename_i hd
   split at h
   ·rename_i c hc
    split at h
    ·rename_i v u n' ks he
     exact stepW_call hd hc (ceCall_ok hcall he (ceOps_draw hcall rest _ _ _ _ h hk))
    ·cases h
   ·rename_i hc
    split at h
    ·rename_i hg hx
     exact stepW_b hg hc hx (ceOps_draw hcall rest _ _ _ _ h hk)
    ·split at h
     ·split at h
      ·rename_i hg hx
       exact stepW_x hg hc hx (ceOps_draw hcall rest _ _ _ _ h hk)
      ·cases h
     ·rename_i sd val upd nx2 rds hop
      rw [Bool.cond_eq_ite] at h
      split at h
      ·rename_i hq
       simp only [Bool.and_eq_true,Bool.not_eq_true'] at hq
       exact stepW_done hd hc hop (sideC_ok hop hq.1) hq.2 (ceOps_draw hcall rest _ _ _ _ h hk)
      ·split at h
       ·rename_i hg hx
        exact stepW_x hg hc hx (ceOps_draw hcall rest _ _ _ _ h hk)
       ·cases h
def cmpF:Nat→Fr→Fr
 | 0,fr=>fr
 | _+1,[]=>[]
 | n+1,p::r=>p::(cmpF n r).filter fun q=>!(q.1 == p.1)
def cmpH:Nat→Hp→Hp
 | 0,hp=>hp
 | _+1,[]=>[]
 | n+1,p::r=>p::(cmpH n r).filter fun q=>!(q.1.eqk p.1)
theorem getF_filter (a d:Nat) (h:a≠d):∀ fr:Fr,getF (fr.filter fun q=>!(q.1 == a)) d = getF fr d
 | []=>rfl
 | p::r=>by
  simp only [List.filter]
  cases he:p.1 == a with
  | true =>
   simp only [Bool.not_true,getF]
   rw [getF_filter a d h r]
   have:p.1 = a:=by simpa using he
   rw [show (p.1 == d) = false from by simpa using fun e=>h (this ▸ e)]; rfl
  | false=>simp only [Bool.not_false,getF]; rw [getF_filter a d h r]
theorem cmpF_get:∀ (n:Nat) (fr:Fr) (d:Nat),getF (cmpF n fr) d = getF fr d
 | 0,fr,d=>rfl
 | n+1,[],d=>rfl
 | n+1,p::r,d=>by
  simp only [cmpF,getF]
  cases he:p.1 == d with
  | true=>rfl
  | false=>simp only [cond_false]; rw [getF_filter p.1 d (by simpa using he),cmpF_get n r d]
theorem getH_filter (a d:Nm) (h:a.key≠d.key):∀ hp:Hp,getH (hp.filter fun q=>!(q.1.eqk a)) d = getH hp d
 | []=>rfl
 | p::r=>by
  simp only [List.filter]
  cases he:p.1.eqk a with
  | true =>
   simp only [Bool.not_true,getH]
   rw [getH_filter a d h r]
   have:p.1.key = a.key:=Nm.eqk_iff.1 he
   rw [Nm.eqk_no (fun e=>h (this ▸ e))]; rfl
  | false=>simp only [Bool.not_false,getH]; rw [getH_filter a d h r]
theorem cmpH_get:∀ (n:Nat) (hp:Hp) (d:Nm),getH (cmpH n hp) d = getH hp d
 | 0,hp,d=>rfl
 | n+1,[],d=>rfl
 | n+1,p::r,d=>by
  simp only [cmpH,getH]
  cases he:p.1.eqk d with
  | true=>rfl
  | false =>
   simp only [cond_false]
   rw [getH_filter p.1 d (fun e=>by rw [Nm.eqk_iff.2 e] at he; cases he),cmpH_get n r d]
theorem cmp_eq (a b:Nat) (fr:Fr) (hp:Hp):EqSt fr (cmpF a fr) hp (cmpH b hp):=⟨fun d=>.inl (cmpF_get a fr d),fun k=>cmpH_get b hp k⟩
def ceLoop (body:Fr→Hp→Nat→Option (SExit×Fr×Hp×Nat)):Nat→Fr→Hp→Nat→Option (SExit×Fr×Hp×Nat)
 | 0,_,_,_=>none
 | n+1,fr,hp,nx=>match body fr hp nx with
  | some (.normal,fr',hp',nx')=>ceLoop body n fr' hp' nx'
  | r=>r
def ceReg (P:Program) (call:FuncId→List SV→Hp→Nat→Option (SV×Hp×Nat)) (ops:Array Oper) (d:Bool) (fr:Fr) (hp:Hp) (nx:Nat):Option (SExit×Fr×Hp×Nat):=match ceOps P call d ops ops.toList fr hp nx [] with
 | some (fr',hp',nx',acc)=>bif !d || orderOk ops acc (aheads ops.toList) then some (.normal,cmpF (fr'.length - fr.length) fr',cmpH (hp'.length - hp.length) hp',nx') else none
 | none=>none
def ceC (P:Program) (call:FuncId→List SV→Hp→Nat→Option (SV×Hp×Nat)) (fuel:Nat):Code→Fr→Hp→Nat→Option (SExit×Fr×Hp×Nat)
 | .skip,fr,hp,nx=>some (.normal,fr,hp,nx)
 | .label _,fr,hp,nx=>some (.normal,fr,hp,nx)
 | .region _ ops d,fr,hp,nx=>ceReg P call ops d fr hp nx
 | .seq x y,fr,hp,nx=>match ceC P call fuel x fr hp nx with
  | some (.normal,fr',hp',nx')=>ceC P call fuel y fr' hp' nx'
  | r=>r
 | .cond c x y,fr,hp,nx=>match evS true fr c with
  | .v (.bool b)=>bif b then ceC P call fuel x fr hp nx else ceC P call fuel y fr hp nx
  | _=>none
 | .block id c,fr,hp,nx=>match ceC P call fuel c fr hp nx with
  | some (.exit j,fr',hp',nx')=>bif j == id then some (.normal,fr',hp',nx') else some (.exit j,fr',hp',nx')
  | r=>r
 | .exit id,fr,hp,nx=>some (.exit id,fr,hp,nx)
 | .loop c,fr,hp,nx=>ceLoop (ceC P call fuel c) fuel fr hp nx
 | .scope c,fr,hp,nx=>ceC P call fuel c fr hp nx
 | .ret,fr,hp,nx=>some (.ret,fr,hp,nx)
 | _,_,_,_=>none
theorem ceC_ok {call:FuncId→List SV→Hp→Nat→Option (SV×Hp×Nat)} (hcall:CallOk P call) (hfol:P.follows .mixedOrders = true) {fuel m N:Nat}:∀ (c:Code) (Q:SPost) (fr:Fr) (hp:Hp) (nx:Nat) (e:SExit) (fr':Fr) (hp':Hp) (nx':Nat),ceC P call fuel c fr hp nx = some (e,fr',hp',nx')→Q e fr' hp' nx'→Swp P m N c Q fr hp nx:=by
 intro c
 induction c with
 | skip=>intro Q fr hp nx e fr' hp' nx' h hq; simp only [ceC] at h; cases h; exact hq
 | label l=>intro Q fr hp nx e fr' hp' nx' h hq; simp only [ceC] at h; cases h; exact hq
 | exit id=>intro Q fr hp nx e fr' hp' nx' h hq; simp only [ceC] at h; cases h; exact hq
 | ret=>intro Q fr hp nx e fr' hp' nx' h hq; simp only [ceC] at h; cases h; exact hq
 | region id ops d =>
  intro Q fr hp nx e fr' hp' nx' h hq
  simp only [ceC] at h
  unfold ceReg at h
  split at h
  ·rename_i f1 h1 n1 acc he
   rw [Bool.cond_eq_ite] at h
   split at h
   ·rename_i ho
    cases h
    cases d with
    | false=>exact ceOps_run hcall (K:=EqW (Q .normal)) _ _ _ _ _ he ⟨_,_,cmp_eq _ _ _ _,hq⟩
    | true=>exact ceOps_draw hcall (K:=fun ns fr' hp' nx'=>Need (P.follows .mixedOrders = true∧orderOk ops ns (aheads ops.toList) = true) (EqW (Q .normal) fr' hp' nx')) _ _ _ _ _ he ⟨⟨hfol,by simpa using ho⟩,_,_,cmp_eq _ _ _ _,hq⟩
   ·cases h
  ·cases h
 | seq x y hx hy =>
  intro Q fr hp nx e fr' hp' nx' h hq
  simp only [ceC] at h
  show Swp P m N x (thenS (Wk P m (Swp P m N y Q)) Q) fr hp nx
  split at h
  ·rename_i f1 h1 n1 he
   exact hx _ _ _ _ _ _ _ _ he (.inl (.inl (hy Q _ _ _ _ _ _ _ h hq)))
  ·rename_i hn
   refine hx _ _ _ _ _ _ _ _ h ?_
   cases e with
   | normal=>exact absurd h (hn _ _ _)
   | exit j=>exact hq
   | ret=>exact hq
 | cond c x y hx hy =>
  intro Q fr hp nx e fr' hp' nx' h hq
  simp only [ceC] at h
  show match evS true fr c with
   | .v (.bool b)=>Br b (Swp P m N x Q fr hp nx) (Swp P m N y Q fr hp nx)
   | _=>False
  split at h
  ·rename_i b hb
   cases b with
   | true=>rw [br_true]; exact hx Q _ _ _ _ _ _ _ h hq
   | false=>rw [br_false]; exact hy Q _ _ _ _ _ _ _ h hq
  ·cases h
 | block id c ih =>
  intro Q fr hp nx e fr' hp' nx' h hq
  simp only [ceC] at h
  show Swp P m N c (blockS id (wkS P m Q)) fr hp nx
  split at h
  ·rename_i j f1 h1 n1 he
   rw [Bool.cond_eq_ite] at h
   split at h
   ·rename_i hj
    cases h
    refine ih _ _ _ _ _ _ _ _ he ?_
    simp only [blockS]
    rw [if_pos (by simpa using hj)]
    exact .inl (.inl hq)
   ·rename_i hj
    cases h
    refine ih _ _ _ _ _ _ _ _ he ?_
    simp only [blockS]
    rw [if_neg (by simpa using hj)]
    exact hq
  ·rename_i hn
   refine ih _ _ _ _ _ _ _ _ h ?_
   cases e with
   | normal=>exact .inl (.inl hq)
   | exit j=>exact absurd h (hn _ _ _ _)
   | ret=>exact hq
 | scope c ih=>intro Q fr hp nx e fr' hp' nx' h hq; simp only [ceC] at h; exact ih Q _ _ _ _ _ _ _ h hq
 | loop c ih =>
  intro Q fr hp nx e fr' hp' nx' h hq
  simp only [ceC] at h
  have key:∀ (k:Nat) (fr:Fr) (hp:Hp) (nx:Nat),ceLoop (ceC P call fuel c) k fr hp nx = some (e,fr',hp',nx')→LoopR P m (Swp P m N c) Q k fr hp nx:=by
   intro k
   induction k with
   | zero=>intro fr hp nx h; cases h
   | succ k ihk =>
    intro fr hp nx h
    unfold ceLoop at h
    split at h
    ·rename_i f1 h1 n1 he
     exact ih _ _ _ _ _ _ _ _ he (ihk _ _ _ h)
    ·rename_i hn
     refine ih _ _ _ _ _ _ _ _ h ?_
     cases e with
     | normal=>exact absurd h (hn _ _ _)
     | exit j=>exact hq
     | ret=>exact hq
  exact ⟨fuel,key fuel _ _ _ h⟩
 | _=>intro Q fr hp nx e fr' hp' nx' h hq; simp only [ceC] at h; cases h
def ceLoad (P:Program) (t:TypeId) (x:SV) (hp:Hp) (nx:Nat):Option SV:=match x with
 | .ptr k off=>match getH hp k with
  | .row _ cs=>match takeS P t cs off [k.key] nx with
   | .ok _ e=>bif takeB P t cs off then some e.val else none
   | .bad=>none
  | _=>none
 | .iptr cs off=>match takeS P t cs off [] nx with
   | .ok _ e=>bif takeB P t cs off then some e.val else none
   | .bad=>none
 | _=>none
theorem ceLoad_ok {t:TypeId} {x v:SV} (h:ceLoad P t x hp nx = some v):∃ s e,loadS P t x hp nx = .ok s e∧s∧e.val = v:=by
 unfold ceLoad at h
 unfold loadS
 split at h
 ·split at h
  ·rename_i hk
   split at h
   ·rename_i s e ht
    rw [Bool.cond_eq_ite] at h
    split at h
    ·rename_i hb
     cases h
     exact ⟨s,e,by simp only [hk,rowS]; exact ht,takeB_ok ht hb,rfl⟩
    ·cases h
   ·cases h
  ·cases h
 ·split at h
  ·rename_i s e ht
   rw [Bool.cond_eq_ite] at h
   split at h
   ·rename_i hb
    cases h
    exact ⟨s,e,ht,takeB_ok ht hb,rfl⟩
   ·cases h
  ·cases h
 ·cases h
def ceRes (P:Program) (fr:Fr) (hp:Hp) (nx:Nat):List ResultVar→Option (List SV)
 | []=>some []
 | .tmp t::r=>match ceRes P fr hp nx r with
  | some xs=>some (getF fr t::xs)
  | none=>none
 | .cell a t::r=>match ceLoad P t (getF fr a) hp nx,ceRes P fr hp nx r with
  | some v,some xs=>some (v::xs)
  | _,_=>none
theorem ceRes_ok {fr:Fr}:∀ (rs:List ResultVar) (K:List SV→Prop) (xs:List SV),ceRes P fr hp nx rs = some xs→K xs→resW P fr hp nx rs K
 | [],K,xs,h,hk=>by cases h; exact hk
 | .tmp t::r,K,xs,h,hk=>by
  unfold ceRes at h
  split at h
  ·rename_i ys he
   cases h
   exact ceRes_ok r _ ys he hk
  ·cases h
 | .cell a t::r,K,xs,h,hk=>by
  unfold ceRes at h
  split at h
  ·rename_i v ys h1 h2
   cases h
   obtain ⟨s,e,g1,g2,rfl⟩:=ceLoad_ok h1
   show (loadS P t (getF fr a) hp nx).wp fun e=>resW P fr hp nx r fun xs=>K (e.val::xs)
   rw [g1]
   exact ⟨g2,ceRes_ok r _ ys h2 hk⟩
  ·cases h
def gaveN (hp:Hp) (m:Nat):List Nm:=(List.range m).map Nm.t
def ceEnd0 (m:Nat) (x:SV) (hp:Hp) (pr:List (Nm×Nm)) (n:Nat):Option (SV×Hp×Nat) :=
 bif prOk pr && (okN m pr [] && (okH m n pr (hinN (tauN pr hp) hp pr) && Nat.ble m n)) then some (wkV (tauN pr hp) x,hinN (tauN pr hp) hp pr,n) else none
def ceEnd1 (m:Nat) (x:SV) (hp:Hp) (nx:Nat) (pr:List (Nm×Nm)):Option (SV×Hp×Nat):=ceEnd0 m x hp pr (bif pr.isEmpty && m == 0 then 0 else nx)
def ceEnd (m:Nat) (x:SV) (hp:Hp) (nx:Nat):Option (SV×Hp×Nat):=ceEnd1 m x hp nx (selfN (closeN hp 100000 (namesV x++gaveN hp m) []))
theorem ceEnd_ok {m:Nat} {x X:SV} {H:Hp} {n:Nat} (h:ceEnd m x hp nx = some (X,H,n)):RetW P m (fun r h' n'=>r = X∧h' = H∧n' = n) x hp:=by
 unfold ceEnd at h
 generalize selfN (closeN hp 100000 (namesV x++gaveN hp m) []) = pr at h
 unfold ceEnd1 at h
 generalize (bif pr.isEmpty && m == 0 then 0 else nx) = n0 at h
 unfold ceEnd0 at h
 rw [Bool.cond_eq_ite] at h
 split at h
 ·rename_i hb
  simp only [Bool.and_eq_true] at hb
  obtain ⟨b1,b2,b3,b4⟩:=hb
  cases h
  exact ret_mk _ _ _ pr [] ⟨rfl,rfl,rfl⟩ (wk_le (tau_ok pr hp) x) (hin_le' b1) b2 b3 (Nat.le_of_ble_eq_true b4)
 ·cases h
abbrev Hook:=FuncId→List SV→Hp→Nat→Option (SV×Hp×Nat)
def orHook (hk call:Hook):Hook:=fun f a h m=>match hk f a h m with
 | some r=>some r
 | none=>call f a h m
theorem orHook_ok {hk call:Hook} (h1:CallOk P hk) (h2:CallOk P call):CallOk P (orHook hk call):=fun f a h m x h' n he=>by
 unfold orHook at he
 split at he
 ·rename_i r hr
  cases he; exact h1 _ _ _ _ _ _ _ hr
 ·exact h2 _ _ _ _ _ _ _ he
def ceF (P:Program) (hk:Hook) (fuel:Nat):Nat→FuncId→List SV→Hp→Nat→Option (SV×Hp×Nat)
 | 0,_,_,_,_=>none
 | n+1,f,args,hin,m=>match P.funcs[f]? with
  | some fn=>match fn.body with
   | some c => bif decide (fn.name ≠ "runtime.NumGoroutine") && (Nat.ble args.length fn.ntmps && codeOk fn.ntmps c) then
     match ceC P (orHook hk (ceF P hk fuel n)) fuel c (frArgs 0 args) hin m with
     | some (.normal,fr,hp,nx)=>match ceRes P fr hp nx fn.results.toList with
      | some xs=>ceEnd m (oneOf xs) hp nx
      | none=>none
     | some (.ret,fr,hp,nx)=>match ceRes P fr hp nx fn.results.toList with
      | some xs=>ceEnd m (oneOf xs) hp nx
      | none=>none
     | _=>none
    else none
   | none=>none
  | none=>none
theorem ceF_ok (hfol:P.follows .mixedOrders = true) {hk:Hook} (hhk:CallOk P hk) (fuel:Nat):∀ n:Nat,CallOk P (ceF P hk fuel n)
 | 0=>fun f args hin m x h n he=>by cases he
 | n+1=>fun f args hin m x h n' he=>by
  unfold ceF at he
  split at he
  ·rename_i fn hf
   split at he
   ·rename_i c hb
    rw [Bool.cond_eq_ite] at he
    split at he
    ·rename_i hc
     simp only [Bool.and_eq_true,decide_eq_true_eq] at hc
     obtain ⟨c1,c2,c3⟩:=hc
     have fin:∀ {e fr hp nx xs},(e = .normal∨e = .ret)→ceC P (orHook hk (ceF P hk fuel n)) fuel c (frArgs 0 args) hin m = some (e,fr,hp,nx)→ceRes P fr hp nx fn.results.toList = some xs→ceEnd m (oneOf xs) hp nx = some (x,h,n')→SpecW P f args hin m (fun r h' n2=>r = x∧h' = h∧n2 = n'):=by
      intro e fr hp nx xs hee hce hres hend
      refine spec_of (draw_ok _) hf hb c1 c2 c3 (ceC_ok (orHook_ok hhk (ceF_ok hfol hhk fuel n)) hfol c _ _ _ _ _ _ _ _ hce ?_)
      have:=ceRes_ok (P:=P) (hp:=hp) (nx:=nx) fn.results.toList (fun xs=>RetW P m (fun r h' n2=>r = x∧h' = h∧n2 = n') (oneOf xs) hp) xs hres (ceEnd_ok hend)
      rcases hee with rfl | rfl <;> exact this
     split at he
     ·rename_i fr hp nx hce
      split at he
      ·rename_i xs hres; exact fin (.inl rfl) hce hres he
      ·cases he
     ·rename_i fr hp nx hce
      split at he
      ·rename_i xs hres; exact fin (.inr rfl) hce hres he
      ·cases he
     ·cases he
    ·cases he
   ·cases he
  ·cases he
theorem closed_callH (hfol:P.follows .mixedOrders = true) {hk:Hook} (hhk:CallOk P hk) (fuel n:Nat) {f:FuncId} {x:SV} (h:ceF P hk fuel n f [] [] 0 = some (x,[],0)):SpecW P f [] [] 0 (fun r h n=>r = x∧h = []∧n = 0):=ceF_ok hfol hhk fuel n _ _ _ _ _ _ _ h
end Go.Sx
end

section
namespace Go.Sx
open Go.RowKit
set_option linter.unusedVariables false
set_option linter.unusedSimpArgs false
variable {P:Program} {hp:Hp} {nx:Nat}
def mik (k:IntKind) (m:List (Int×Int)):List (Value×SV):=m.map fun p=>(.int k p.1,.v (.int .i64 p.2))
theorem keyEq_k (j:IntKind) (k a:Int):keyEq (.int j k) (.int j a) = (k == a):=by simp [keyEq,leafEq]
theorem mik_find (j:IntKind) (k:Int):∀ (m:List (Int×Int)) (i:Nat),(findS (.int j k) (mik j m) i).map (·.2) = (m.find? fun p=>k == p.1).map fun p=>.v (.int .i64 p.2)
 | [],i=>rfl
 | p::r,i=>by
  show (bif keyEq (.int j k) (.int j p.1) then _ else findS _ (mik j r) (i+1)).map (·.2) = _
  rw [keyEq_k,List.find?_cons]
  cases h:k == p.1 with
  | true=>simp
  | false=>simpa using mik_find j k r (i+1)
theorem mik_lookV (j:IntKind) (m:List (Int×Int)) (k:Int):lookV (.int .i64 0) (.int j k) (mik j m) = .v (.int .i64 (miGet m k)):=by
 have:=mik_find j k m 0
 unfold lookV miGet
 cases h:findS (.int j k) (mik j m) 0 with
 | none=>rw [h] at this; cases hf:m.find? (fun p=>k == p.1) with
  | none=>rfl
  | some p=>rw [hf] at this; simp at this
 | some q=>rw [h] at this; cases hf:m.find? (fun p=>k == p.1) with
  | none=>rw [hf] at this; simp at this
  | some p=>rw [hf] at this; simp at this; simp [this]
theorem mik_alike (j:IntKind) (m:List (Int×Int)) (k:Int):(mik j m).all (fun p=>keyAlike (.int j k) p.1) = true:=by simp [mik,keyAlike]
theorem ob_lookK (j:IntKind) (k:Int) (mm:List (Int×Int)) (kk:Nm) (nx:Nat):resOb (.ok (keyOk (.int j) (.int j k) = true∧(mik j mm).all (fun p=>keyAlike (.int j k) p.1) = true) ⟨lookV (.int .i64 0) (.int j k) (mik j mm),[],nx,[kk.key]⟩) ⟨.v (.int .i64 (miGet mm k)),[],nx,[kk.key]⟩ :=
 ob_ok ⟨rfl,mik_alike j mm k⟩ (mik_lookV j mm k) rfl
theorem ob_insL (d:TypeDesc) (kv:Value) (v:SV) (es es':List (Value×SV)) (kk nx:Nat) (h1:keyOk d kv = true) (h2:es.all (fun p=>keyAlike kv p.1) = true) (h3:updL kv v es = es'):resOb (.ok (keyOk d kv = true∧es.all (fun p=>keyAlike kv p.1) = true) ⟨.any,[(Nm.t kk,.map (updL kv v es))],nx,[Nm.t kk]⟩) ⟨.any,[(Nm.t kk,.map es')],nx,[Nm.t kk]⟩ :=
 ob_ok ⟨h1,h2⟩ rfl (by rw [h3])
structure VArr (n:Nat) where
 l:List Int
 h:l.length = n
variable {n:Nat}
theorem VArr.ext:∀ {a b:VArr n},a.l = b.l→a = b
 | ⟨_,_⟩,⟨_,_⟩,h=>by simp only at h; subst h; rfl
instance : DecidableEq (VArr n):=fun a b=>if h:a.l = b.l then .isTrue (VArr.ext h) else .isFalse fun e=>h (e ▸ rfl)
instance : Inhabited (VArr n):=⟨⟨List.replicate n 0,by simp⟩⟩
def VArr.get (a:VArr n) (i:Int):Int:=a.l.getD i.toNat 0
def VArr.set (a:VArr n) (i v:Int):VArr n:=⟨a.l.set i.toNat v,by rw [List.length_set]; exact a.h⟩
def VArr.cells (a:VArr n):List SV:=(List.range n).map fun k=>.v (.int .i64 (a.l.getD k 0))
theorem VArr.cells_fl (a:VArr n):a.cells = a.l.map fun x=>.v (.int .i64 x):=by
 refine List.ext_getElem (by simp [VArr.cells,a.h]) fun i h1 h2=>?_
 simp only [VArr.cells,List.getElem_map,List.getElem_range,List.length_map] at h2 ⊢
 rw [List.getD_eq_getElem?_getD,List.getElem?_eq_getElem h2]; rfl
theorem VArr.st (a:VArr n):stL a.cells = true:=by
 rw [VArr.cells_fl]
 induction a.l with
 | nil=>rfl
 | cons x l ih=>simpa [stL,SV.st] using ih
instance : Enc (VArr n):=⟨n,VArr.cells,fun a=>by simp [VArr.cells],fun a=>by simp [VArr.cells,oneS,Value.oneCell'],VArr.st⟩
theorem VArr.len (a:VArr n):(Enc.cells a).length = n:=Enc.len a
theorem VArr.at (a:VArr n) (e:Int) (k:0≤e∧e < (n:Int)) (d:SV):(Enc.cells a).getD e.toNat d = .v (.int .i64 (a.get e)):=by
 show a.cells.getD e.toNat d = _
 have hl:e.toNat < a.cells.length:=by have:=VArr.len a; show _ < (Enc.cells a).length; omega
 rw [List.getD_eq_getElem?_getD,List.getElem?_eq_getElem hl]
 simp only [VArr.cells,List.getElem_map,List.getElem_range]
 rfl
theorem VArr.put (a:VArr n) (e v:Int) (k:0≤e∧e < (n:Int)):(Enc.cells a).set e.toNat (.v (.int .i64 v)) = Enc.cells (a.set e v):=by
 show a.cells.set _ _ = (a.set e v).cells
 rw [VArr.cells_fl,VArr.cells_fl]
 simp only [VArr.set,List.map_set]
theorem leL_arr {hp hp':Hp} {σ:List (Nm×Nm)} {frz:List Nm} (a:VArr n) (xs ys:List SV):leL hp hp' σ frz (Enc.cells a++xs) (Enc.cells a++ys) = leL hp hp' σ frz xs ys:=by
 refine propext ?_
 show leL hp hp' σ frz (a.cells++xs) (a.cells++ys)↔_
 rw [VArr.cells_fl]
 induction a.l with
 | nil=>exact Iff.rfl
 | cons x l ih =>
  simp only [List.map_cons,List.cons_append,leL]
  rw [ih]
  simp only [leS,true_and]
theorem renL_arr (τ:Nm→Nm) (a:VArr n) (xs:List SV):renL τ (Enc.cells a++xs) = Enc.cells a++renL τ xs:=by
 show renL τ (a.cells++xs) = a.cells++_
 rw [VArr.cells_fl]
 induction a.l with
 | nil=>rfl
 | cons x l ih=>simp only [List.map_cons,List.cons_append,renL,renS,ih]
theorem stL_arr (a:VArr n) (xs:List SV):stL (Enc.cells a++xs) = stL xs:=by
 show stL (a.cells++xs) = _
 rw [VArr.cells_fl]
 induction a.l with
 | nil=>rfl
 | cons x l ih=>simpa [stL,SV.st] using ih
theorem clL_arr (a:VArr n) (xs:List SV):clL (Enc.cells a++xs) = clL xs:=by
 show clL (a.cells++xs) = _
 rw [VArr.cells_fl]
 induction a.l with
 | nil=>rfl
 | cons x l ih=>simpa [clL,SV.cl] using ih
theorem nimL_arr (a:VArr n) (xs:List SV):nimL (Enc.cells a++xs) = nimL xs:=by
 show nimL (a.cells++xs) = _
 rw [VArr.cells_fl]
 induction a.l with
 | nil=>rfl
 | cons x l ih=>simpa [nimL,SV.nim] using ih
theorem nim_VArr (xs:List (VArr n)):nimL (fl xs) = true:=nimL_fl (fun a=>by have:=nimL_arr a []; simpa [nimL] using this) xs
theorem sz_VArr:Enc.sz (VArr n) = n:=rfl
theorem stL_VArr (a:VArr n):stL (Enc.cells a) = true:=Enc.stc a
theorem clL_VArr (a:VArr n):clL (Enc.cells a) = true:=stL_clL (Enc.stc a)
theorem renL_VArr (τ:Nm→Nm) (a:VArr n):renL τ (Enc.cells a) = Enc.cells a:=renL_cl (clL_VArr a)
theorem nimL_VArr (a:VArr n):nimL (Enc.cells a) = true:=by have:=nimL_arr a []; simpa [nimL] using this
theorem leL_VArr {hp hp':Hp} {σ:List (Nm×Nm)} {frz:List Nm} (a:VArr n):leL hp hp' σ frz (Enc.cells a) (Enc.cells a) = True:=by
 have:=leL_arr (hp:=hp) (hp':=hp') (σ:=σ) (frz:=frz) a [] []
 simp only [List.append_nil,leL] at this
 exact this
attribute [push_cast] leL_arr renL_arr stL_arr clL_arr nimL_arr nim_VArr sz_VArr stL_VArr clL_VArr renL_VArr nimL_VArr leL_VArr
def VArr.c0 (a:VArr n):Int:=a.l.getD 0 0
def VArr.c1 (a:VArr n):Int:=a.l.getD 1 0
def VArr.c2 (a:VArr n):Int:=a.l.getD 2 0
def VArr.c3 (a:VArr n):Int:=a.l.getD 3 0
def VArr.c4 (a:VArr n):Int:=a.l.getD 4 0
def VArr.c5 (a:VArr n):Int:=a.l.getD 5 0
def VArr.c9 (a:VArr n):Int:=a.l.getD 9 0
def VArr.c20 (a:VArr n):Int:=a.l.getD 20 0
def VArr.c21 (a:VArr n):Int:=a.l.getD 21 0
def VArr.c37 (a:VArr n):Int:=a.l.getD 37 0
def VArr.c46 (a:VArr n):Int:=a.l.getD 46 0
def VArr.c51 (a:VArr n):Int:=a.l.getD 51 0
def VArr.c53 (a:VArr n):Int:=a.l.getD 53 0
end Go.Sx
end

section
namespace Go.Sx
open Go.RowKit
set_option linter.unusedVariables false
set_option linter.unusedSimpArgs false
variable {α β:Type} [Enc α] {P:Program} {hp hp':Hp} {nx:Nat} {σ:List (Nm×Nm)} {frz:List Nm}
def flP (F n:Nat):List SV:=(List.range n).map fun (i:Nat)=>SV.ptr (.s F ((i:Nat):Int)) 0
def famP (t:TypeId) (xs:List α):Int→Chunk:=fun i=>bif decide (0≤i∧i < (xs.length:Int)) then .row t (Enc.cells (ix xs i)) else .void
theorem famP_in {t:TypeId} {xs:List α} {i:Int} (k:0≤i∧i < (xs.length:Int)):famP t xs i = .row t (Enc.cells (ix xs i)):=by
 unfold famP; rw [decide_eq_true k]; rfl
theorem famP_out {t:TypeId} {xs:List α} {i:Int} (k:¬ (0≤i∧i < (xs.length:Int))):famP t xs i = .void:=by
 unfold famP; rw [decide_eq_false k]; rfl
theorem at_famP (t:TypeId) (xs:List α) (i:Int):(Chunk.fam (famP t xs)).at i = famP t xs i:=by
 simp only [Chunk.at]
 by_cases k:0≤i∧i < (xs.length:Int)
 ·rw [famP_in k]
 ·rw [famP_out k]
theorem famP_mem {t:TypeId} {xs:List α} {i:Int} (k:0≤i∧i < (xs.length:Int)):(Chunk.fam (famP t xs)).at i = .row t (Enc.cells (ix xs i)):=(at_famP t xs i).trans (famP_in k)
structure Birth (C C':Nm→Chunk) (Q K R:Nm):Prop where
 vd:C Q = .void
 kl:(C K).live = true
 q:C' Q = C K
 k:C' K = .dead
 oth:∀ j,j≠Q→j≠K→j≠R→C' j = C j
 kr:K≠R
 row:(∃ e cs cs',C R = .row e cs∧C' R = .row e cs'∧cs'.length = cs.length∧∀ (i:Nat) (x y:SV),cs[i]? = some x→cs'[i]? = some y→x = y∨(x = .ptr K 0∧y = .ptr Q 0)) ∨
 ∃es es',C R = .map es∧C' R = .map es'∧es'.length = es.length∧∀ (i:Nat) (x y:Value×SV),es[i]? = some x→es'[i]? = some y→x.1 = y.1∧(x.2 = y.2∨(x.2 = .ptr K 0∧y.2 = .ptr Q 0))
section sem
variable {w0:World} {I0 W0:Nat→Prop} {C C':Nm→Chunk} {Q K R:Nm} {ids:Ids} {w:World}
theorem Birth.liveR (hh:Birth C C' Q K R):(C R).live = true∧(C' R).live = true:=by
 rcases hh.row with ⟨e,cs,cs',h1,h2,_⟩ | ⟨es,es',h1,h2,_⟩ <;> (rw [h1,h2]; exact ⟨rfl,rfl⟩)
theorem Birth.qk (hh:Birth C C' Q K R):Q≠K:=fun e=>by have:=hh.kl; rw [← e,hh.vd] at this; cases this
theorem Birth.old (hh:Birth C C' Q K R) {j:Nm} {b o:Nat} (hl:(C' j).live = true) (hi:upd ids Q (ids K) j = some (b,o)) :
 ∃k0,(C k0).live = true∧ids k0 = some (b,o)∧((j≠Q∧k0 = j∧j≠K)∨(j = Q∧k0 = K)):=by
 by_cases hQ:j = Q
 ·subst hQ; rw [upd_same] at hi; exact ⟨K,hh.kl,hi,.inr ⟨rfl,rfl⟩⟩
 ·rw [upd_ne _ _ hQ] at hi
  by_cases hK:j = K
  ·subst hK; rw [hh.k] at hl; cases hl
  by_cases hR:j = R
  ·subst hR; exact ⟨j,hh.liveR.1,hi,.inl ⟨hQ,rfl,hK⟩⟩
  ·rw [hh.oth j hQ hK hR] at hl; exact ⟨j,hl,hi,.inl ⟨hQ,rfl,hK⟩⟩
theorem Birth.ext (h:HSt P w0 I0 W0 C ids w) (hh:Birth C C' Q K R):Ext C ids (Im w0 I0 W0 C ids w) w C' (upd ids Q (ids K)) (Im w0 I0 W0 C' (upd ids Q (ids K)) w) w:=by
 refine ⟨fun b hb=>⟨⟨hb.1,hb.2.1,fun k hk o hi=>?_⟩,rfl⟩,fun j hj=>?_,fun j hj=>?_⟩
 ·obtain ⟨k0,h1,h2,_⟩:=hh.old hk hi
  exact hb.2.2 k0 h1 o h2
 ·have hQ:j≠Q:=fun e=>by rw [e,hh.vd] at hj; cases hj
  have hK:j≠K:=fun e=>by have:=hh.kl; rw [← e,hj] at this; cases this
  have hR:j≠R:=fun e=>by have:=hh.liveR.1; rw [← e,hj] at this; cases this
  rw [hh.oth j hQ hK hR]; exact hj
 ·have hQ:j≠Q:=fun e=>by rw [e,hh.vd] at hj; cases hj
  by_cases hK:j = K
  ·subst hK; exact .inl hh.k
  by_cases hR:j = R
  ·subst hR
   rcases hh.row with ⟨e,cs,cs',h1,h2,h3,_⟩ | ⟨es,es',h1,h2,_⟩
   ·exact .inr ⟨hh.liveR.2,upd_ne _ _ hQ,by rw [h1,h2]; exact ⟨rfl,Nat.le_of_eq h3⟩,fun _ _ _=>SameShape.refl _⟩
   ·exact .inr ⟨hh.liveR.2,upd_ne _ _ hQ,by rw [h1,h2]; exact trivial,fun _ _ _=>SameShape.refl _⟩
  ·have h1:=hh.oth j hQ hK hR
   exact .inr ⟨by rw [h1]; exact hj,upd_ne _ _ hQ,by rw [h1]; exact SameKind.refl hj,fun _ _ _=>SameShape.refl _⟩
theorem Birth.den {off:Nat} (h:HSt P w0 I0 W0 C ids w) (hh:Birth C C' Q K R) {x y:SV} {v:Value} (hr:x = y∨(x = .ptr K off∧y = .ptr Q off)) (hd:Den P C ids (Im w0 I0 W0 C ids w) w x v):Den P C' (upd ids Q (ids K)) (Im w0 I0 W0 C' (upd ids Q (ids K)) w) w y v:=by
 rcases hr with rfl | ⟨rfl,rfl⟩
 ·exact hd.mono (hh.ext h)
 ·obtain ⟨b,o,g1,rfl⟩:=den_ptr hd hh.kl
  exact .ptr b o (by rw [hh.q]; exact hh.kl) (by rw [upd_same]; exact g1)
theorem Birth.st (h:HSt P w0 I0 W0 C ids w) (hh:Birth C C' Q K R):HSt P w0 I0 W0 C' (upd ids Q (ids K)) w:=by
 have hE:=hh.ext h
 refine ⟨fun j=>?_,fun k k' b o o' hk hk' hi hi'=>?_,fun k b o hk hi=>?_,h.im0,h.evol,h.os,h.tape,h.output,h.size⟩
 ·by_cases hQ:j = Q
  ·subst hQ; rw [hh.q]; exact DenC.rename hE (h.ch K) (upd_same _ _ _)
  by_cases hK:j = K
  ·subst hK; rw [hh.k]; trivial
  by_cases hR:j = R
  ·subst hR
   have hc:=h.ch j
   rcases hh.row with ⟨e,cs,cs',h1,h2,h3,h4⟩ | ⟨es,es',h1,h2,h3,h4⟩
   ·rw [h1] at hc
    rw [h2]
    simp only [DenC,upd_ne _ _ hQ] at hc ⊢
    cases hid:ids j with
    | none =>
     rw [hid] at hc
     simp only at hc
     subst hc
     exact List.eq_nil_of_length_eq_zero h3
    | some p =>
     obtain ⟨b,o⟩:=p
     rw [hid] at hc
     obtain ⟨arr,ha,hl,hxx⟩:=hc
     refine ⟨arr,ha,by omega,fun i y hi=>?_⟩
     have hlt:=(List.getElem?_eq_some_iff.1 hi).1
     have hi2:=List.getElem?_eq_getElem (show i < cs.length by omega)
     exact hh.den h (h4 i _ y hi2 hi) (hxx i _ hi2)
   ·rw [h1] at hc
    rw [h2]
    simp only [DenC,upd_ne _ _ hQ] at hc ⊢
    obtain ⟨b,arr,clock,g1,g2,g3,g4,hbo⟩:=hc
    refine ⟨b,arr,clock,g1,g2,by omega,fun i y hi=>?_,hbo⟩
    have hlt:=(List.getElem?_eq_some_iff.1 hi).1
    have hi2:=List.getElem?_eq_getElem (show i < es.length by omega)
    obtain ⟨a1,a2⟩:=h4 i _ y hi2 hi
    obtain ⟨b1,b2⟩:=g4 i _ hi2
    exact ⟨b1.trans a1,hh.den h a2 b2⟩
  ·rw [hh.oth j hQ hK hR]; exact DenC.rename hE (h.ch j) (upd_ne _ _ hQ)
 ·obtain ⟨k0,a1,a2,a3⟩:=hh.old hk hi
  obtain ⟨k0',b1,b2,b3⟩:=hh.old hk' hi'
  have:=h.inj k0 k0' b o o' a1 b1 a2 b2
  subst this
  rcases a3 with ⟨_,a3,a4⟩ | ⟨a3,a4⟩ <;> rcases b3 with ⟨_,b3,b4⟩ | ⟨b3,b4⟩
  ·rw [← a3,← b3]
  ·rw [← a3] at a4; exact absurd b4 a4
  ·rw [← b3] at b4; exact absurd a4 b4
  ·rw [a3,b3]
 ·obtain ⟨k0,a1,a2,_⟩:=hh.old hk hi
  exact h.lt k0 b o a1 a2
end sem
theorem famP_live {t:TypeId} {xs:List α} {i:Int} (k:0≤i∧i < (xs.length:Int)):((Chunk.fam (famP t xs)).at i).live = true:=by rw [famP_mem k]; rfl
def lenP (c:Chunk) (m:Nat):Prop:=∀ i:Nat,i < m→(c.at ((i:Nat):Int)).live = true
theorem lenP_famP (t:TypeId) (xs:List α) (m:Nat):lenP (.fam (famP t xs)) m = (m≤xs.length):=by
 refine propext ⟨fun h=>?_,fun h i hi=>famP_live (by omega)⟩
 by_cases hm:m≤xs.length
 ·exact hm
 ·have:=h xs.length (by omega)
  rw [at_famP,famP_out (by omega)] at this
  cases this
theorem lenP_same (t:TypeId) (xs:List α):lenP (.fam (famP t xs)) xs.length = True:=eq_true (by rw [lenP_famP]; exact Nat.le_refl _)
theorem lenP_one (t:TypeId) (x:α):lenP (.fam (famP t [x])) 1 = True:=eq_true (by rw [lenP_famP]; exact Nat.le_refl _)
theorem lenP_app (t:TypeId) (xs:List α) (x:α):lenP (.fam (famP t (xs++[x]))) (xs.length+1) = True:=eq_true (by rw [lenP_famP]; simp)
theorem lenP_set (t:TypeId) (xs:List α) (i:Nat) (x:α):lenP (.fam (famP t (xs.set i x))) xs.length = True:=eq_true (by rw [lenP_famP]; simp)
theorem leL_flP {F F':Nat} {n m:Nat} (h:n = m∧getN σ (.s F' 0) = some (.s F 0)∧lenP (getE hp' (.s F' 0)) m):leL hp hp' σ frz (flP F n) (flP F' m) = True:=by
 obtain ⟨rfl,h1,h2⟩:=h
 refine eq_true (leL_pw ?_)
 have gen:∀ l:List Nat,(∀ i ∈ l,i < n)→Pw (leS hp hp' σ frz) (l.map fun (i:Nat)=>SV.ptr (.s F ((i:Nat):Int)) 0) (l.map fun (i:Nat)=>SV.ptr (.s F' ((i:Nat):Int)) 0):=by
  intro l
  induction l with
  | nil=>intro _; trivial
  | cons a l ih =>
   intro hl
   refine ⟨?_,ih fun i hi=>hl i (by simp [hi])⟩
   have ha:=hl a (by simp)
   simp only [leS]
   refine ⟨getN_s h1 _,trivial,?_⟩
   have h3:=h2 a ha
   cases hg:getE hp' (.s F' 0) with
   | fam g=>rw [getE_fam hg]; rw [hg] at h3; exact h3
   | _=>rw [hg] at h3; cases h3
 exact gen _ fun i hi=>by simpa using hi
theorem leC1_famP {t:TypeId} {xs:List α} {F':Nat} {i:Int} (h:famLe hp σ F' (famP t xs)):leC1 hp hp' σ frz (.s F' i) (famP t xs i) = True:=by
 refine eq_true ?_
 unfold famLe at h
 cases hn:getN σ (.s F' 0) with
 | none=>rw [hn] at h; exact h.elim
 | some k =>
  rw [hn] at h
  simp only at h
  have hs:getN σ (.s F' i) = some (.s k.base i):=by rw [getN_sig σ F' i,hn]; rfl
  have hg:=getE_fam h i
  rw [at_famP] at hg
  by_cases kk:0≤i∧i < (xs.length:Int)
  ·rw [famP_in kk] at hg ⊢
   simp only [leC1,hs,hg]
   exact ⟨trivial,.inl ⟨Enc.stc _,trivial⟩⟩
  ·rw [famP_out kk] at hg ⊢
   simp only [leC1,hs,hg]
theorem ren_famP (τ:Nm→Nm) (t:TypeId) (xs:List α) (i:Int):renC τ (famP t xs i) = famP t xs i:=by
 by_cases kk:0≤i∧i < (xs.length:Int)
 ·rw [famP_in kk]; simp only [renC]; rw [renL_cl (stL_clL (Enc.stc _))]
 ·rw [famP_out kk]; rfl
theorem renL_flP (F n:Nat):renL (bck (getN σ) nx) (flP F n) = flP (bck (getN σ) nx (.s F 0)).base n:=by
 unfold flP
 rw [renL_map,List.map_map]
 refine List.map_congr_left fun i _=>?_
 simp only [Function.comp,renS]
 rw [bck_s (getN_sig σ)]
theorem famG_P (t:TypeId) (xs:List α) (G:Nat) (z:Int) (r:Hp) (F:Nat):famG ((.s G z,.fam (famP t xs))::r) F = bif G == F then famP t xs else famG r F:=by
 funext q
 simp only [famG,getH,Nm.eqk]
 cases G == F with
 | true=>simp only [cond_true,Chunk.mem]; exact at_famP t xs q
 | false=>rfl
theorem leC_famP {t:TypeId} {xs:List α} {F':Nat} {z:Int} (h:famLe hp σ F' (famP t xs)):leC hp hp' σ frz (.s F' z) (.fam (famP t xs)) = True:=by
 refine eq_true fun i=>?_
 rw [at_famP]
 exact of_eq_true (leC1_famP h)
theorem famLe_P (F':Nat) (t:TypeId) (xs:List α):famLe hp σ F' (famP t xs) = match getN σ (.s F' 0) with
 | some k=>getE hp (.s k.base 0) = .fam (famP t xs)
 | none=>False:=propext Iff.rfl
theorem leH_cons (k:Nm) (c:Chunk) (r:Hp):leH hp hp' σ frz ((k,c)::r) = (leC hp hp' σ frz k c∧leH hp hp' σ frz r):=propext Iff.rfl
def noN (σ:List (Nm×Nm)) (F:Nat):Prop:=getN σ (.s F 0) = none
theorem noN_eq (σ:List (Nm×Nm)) (F:Nat):noN σ F = (getN σ (.s F 0) = none):=propext Iff.rfl
theorem leC_famP0 {t:TypeId} {F':Nat} {z:Int} (h:noN σ F'):leC hp hp' σ frz (.s F' z) (.fam (famP t ([]:List α))) = True:=by
 refine eq_true fun i=>?_
 have h:getN σ (.s F' 0) = none:=h
 rw [at_famP,famP_out (by simp <;> omega)]
 have:getN σ (.s F' i) = none:=by rw [getN_sig σ F' i,h]; rfl
 simp only [leC1,this]
theorem flP_0 (F:Nat):flP F 0 = []:=rfl
attribute [push_cast high] leC_famP leC_famP0 leH_cons
attribute [push_cast] noN_eq lenP_same lenP_one lenP_app lenP_set flP_0 ren_famP renL_flP famG_P at_famP famLe_P
end Go.Sx
end

section
namespace Go.Sx
open Go.RowKit
set_option linter.unusedVariables false
set_option linter.unusedSimpArgs false
variable {P:Program}
def ccHook (fcc T:Nat):Hook:=fun f args hin m=>bif f == fcc then match args with
 | [.bp (.t 0) e 2]=>match getH hin (.t 0) with
  | .row e' [c,d]=>bif e == T && (e' == T && Nat.blt 0 m) then match c with
   | .v (.pointer none)=>some (.tup [],updE (.t 0) (.row T [.bp (.t 0) T 2,d]) hin::hin,m)
   | .bp (.t 0) e2 2=>bif e2 == T then some (.tup [],hin,m) else none
   | _=>none
   else none
  | _=>none
 | _=>none
 else none
theorem setCell_row (w:World) (b i:Nat) (cs:Array Value) (t:TypeId) (fr:Nat×Nat) (hb:w.heap[b]? = some (.cells cs t fr)) (v:Value):w.setCell ⟨b,i,none⟩ v = w.setRow b (cs.setIfInBounds i v):=by
 unfold World.setCell World.setRow
 congr 1
 apply Array.ext_getElem?
 intro j
 simp only [Array.getElem?_modify]
 by_cases hj:b = j
 ·subst hj; simp [hb]
 ·simp [hj]
theorem copyCheck_ok {fcc T : Nat} (hent : ∃ fn body, P.funcs[fcc]? = some fn ∧ fn.body = some body ∧ fn.name ≠ "runtime.NumGoroutine")
  (hf:∀ (b:Nat) (w:World),w.cell? ⟨b,0,none⟩ = some (.pointer none)→w.shape? b = some (T,2)→w.frozen? ⟨b,0,none⟩ = false →
   Calls P fcc #[.pointer (some ⟨b,0,none⟩)] w fun e w'=>e = .returned (.tuple #[])∧w' = w.setCell ⟨b,0,none⟩ (.pointer (some ⟨b,0,none⟩)))
  (hu:∀ (b:Nat) (w:World),w.cell? ⟨b,0,none⟩ = some (.pointer (some ⟨b,0,none⟩)) →
   Calls P fcc #[.pointer (some ⟨b,0,none⟩)] w fun e w'=>e = .returned (.tuple #[])∧w' = w):CallOk P (ccHook fcc T):=by
 intro f args hin m x h n he
 unfold ccHook at he
 rw [Bool.cond_eq_ite] at he
 split at he
 ·rename_i hfe
  have hfe:f = fcc:=by simpa using hfe
  subst hfe
  split at he
  ·rename_i e
   split at he
   ·rename_i e' c d hk
    rw [Bool.cond_eq_ite] at he
    split at he
    ·rename_i hb
     simp only [Bool.and_eq_true,beq_iff_eq,Nat.blt_eq] at hb
     obtain ⟨rfl,rfl,hm⟩:=hb
     have hlk:(getH hin (.t 0)).live = true:=by rw [hk]; rfl
     have base:∀ (X:Cx) (vals:Array Value),HeapF X hin m X.ids0 X.w0→vals.size = 1→DenX X hin X.ids0 X.w0 (.bp (.t 0) e' 2) (vals.getD 0 undef) →
      ∃(b:Nat) (arr:Array Value),X.ids0 (.t 0) = some (b,0)∧vals = #[.pointer (some ⟨b,0,none⟩)]∧X.w0.heap[b]? = some (.cells arr e' (0,0))∧arr.size = 2∧DenX X hin X.ids0 X.w0 c (arr.getD 0 undef)∧DenX X hin X.ids0 X.w0 d (arr.getD 1 undef)∧X.w0.cell? ⟨b,0,none⟩ = some (arr.getD 0 undef):=by
      intro X vals hH hs hd
      obtain ⟨b,arr,hid,hv,hw,hn⟩:=den_bp hd hlk
      have hch:=hH.st.ch (.t 0)
      rw [hk] at hch
      simp only [DenC,hid] at hch
      obtain ⟨arr',hw',hsz,hcs⟩:=hch
      rw [hw] at hw'; cases hw'
      have h0:=hcs 0 c rfl
      have h1:=hcs 1 d rfl
      refine ⟨b,arr,hid,?_,hw,hn,by simpa using h0,by simpa using h1,?_⟩
      ·apply Array.ext_getElem?
       intro i
       by_cases hi:i = 0
       ·subst hi
        rw [Array.getD_eq_getD_getElem?] at hv
        rw [Array.getElem?_eq_getElem (by omega)] at hv ⊢
        simp only [Option.getD_some] at hv
        rw [hv]; rfl
       ·rw [Array.getElem?_eq_none (by omega),Array.getElem?_eq_none (by simp; omega)]
      ·simp [World.cell?,hw,hn]
     split at he
     ·cases he
      refine ⟨hent,fun X vals hP hXm hdf hH hs hd=>?_⟩
      subst hP
      obtain ⟨b,arr,hid,rfl,hw,hn,h0,h1,hc⟩:=base X vals hH hs (hd 0 _ rfl)
      rw [den_v h0] at hc
      refine (hf b X.w0 hc (by simp [World.shape?,hw,hn]) (by simp [World.frozen?,hw])).mono fun ex w' hx=>?_
      obtain ⟨rfl,rfl⟩:=hx
      rw [setCell_row _ _ _ _ _ _ hw]
      obtain ⟨g1,g2⟩:=heap_turn (X:=X) hH.toX hk hid (cs':=[.bp (.t 0) e' 2,d]) (arr':=arr.setIfInBounds 0 (.pointer (some ⟨b,0,none⟩))) hw (by simp) (by simp [hn]) (by simp) (fun i z hz=>by
       match i,hz with
       | 0,hz =>
        cases hz
        have:((arr.setIfInBounds 0 (Value.pointer (some ⟨b,0,none⟩))).getD (0+0) undef) = .pointer (some ⟨b,0,none⟩):=by
         rw [Array.getD_eq_getD_getElem?]; simp [hn]
        rw [this]
        exact .bp b arr hlk hid hw hn
       | 1,hz =>
        cases hz
        have:((arr.setIfInBounds 0 (Value.pointer (some ⟨b,0,none⟩))).getD (0+1) undef) = arr.getD 1 undef:=by
         rw [Array.getD_eq_getD_getElem?,Array.getD_eq_getD_getElem?]; simp
        rw [this]; exact h1
       | i+2,hz=>simp at hz)
      refine ⟨_,.tup [],_,m,X.ids0,rfl,⟨rfl,rfl,rfl⟩,⟨g1,fun k hkb=>?_,hH.m_le⟩,.tup #[] rfl fun i z hz=>by simp at hz⟩
      have hne:k≠.t 0:=fun e0=>by subst e0; simp at hkb; omega
      rw [getH_put (by rw [hk]; simp) (by simp),upd_ne _ _ hne]
      exact hH.fresh k hkb
     ·rename_i e2
      rw [Bool.cond_eq_ite] at he
      split at he
      ·rename_i h2
       have h2:e2 = e':=by simpa using h2
       subst h2
       cases he
       refine ⟨hent,fun X vals hP hXm hdf hH hs hd=>?_⟩
       subst hP
       obtain ⟨b,arr,hid,rfl,hw,hn,h0,h1,hc⟩:=base X vals hH hs (hd 0 _ rfl)
       obtain ⟨b',arr',hid',hv',hw',hn'⟩:=den_bp h0 hlk
       rw [hid] at hid'; cases hid'
       rw [hv'] at hc
       refine (hu b X.w0 hc).mono fun ex w' hx=>?_
       obtain ⟨rfl,rfl⟩:=hx
       exact ⟨_,.tup [],_,m,X.ids0,rfl,⟨rfl,rfl,rfl⟩,hH,.tup #[] rfl fun i z hz=>by simp at hz⟩
      ·cases he
     ·cases he
    ·cases he
   ·cases he
  ·cases he
 ·cases he
end Go.Sx
end

section
namespace Go.Sx
open Go.RowKit
set_option linter.unusedVariables false
set_option linter.unusedSimpArgs false
variable {α:Type} [Enc α] {P:Program} {hp hp':Hp} {nx:Nat} {σ:List (Nm×Nm)} {frz:List Nm}
def mpG (F:Nat):Nat→List Int→List (Value×SV)
 | _,[]=>[]
 | n,k::r=>(.int .i64 k,.ptr (.s F (n:Int)) 0)::mpG F (n+1) r
def mpP (F:Nat) (ks:List Int):List (Value×SV):=mpG F 0 ks
section arr
variable {n:Nat}
end arr
theorem stM_mpP (F:Nat) (ks:List Int):stM (mpP F ks) = true→ks = []:=by
 cases ks with
 | nil=>exact fun _=>rfl
 | cons a r=>intro h; simp [mpP,mpG,stM,SV.st] at h
def mapLe (hp hp':Hp) (σ:List (Nm×Nm)) (k' F':Nat) (ks:List Int):Prop:=match getN σ (.t k'),getN σ (.s F' 0) with
 | some k,some j=>(getH hp k = .map (mpP j.base ks)∧j = .s j.base 0)∧lenP (getE hp' (.s F' 0)) ks.length
 | _,_=>False
theorem mapLe_eq (k' F':Nat) (ks:List Int):mapLe hp hp' σ k' F' ks = match getN σ (.t k'),getN σ (.s F' 0) with
 | some k,some j=>(getH hp k = .map (mpP j.base ks)∧j = .s j.base 0)∧lenP (getE hp' (.s F' 0)) ks.length
 | _,_=>False:=propext Iff.rfl
theorem leM_mpG {F F':Nat} (h1:getN σ (.s F' 0) = some (.s F 0)) (N:Nat) (h2:lenP (getE hp' (.s F' 0)) N):∀ (n:Nat) (ks:List Int),n+ks.length≤N→leM hp hp' σ frz (mpG F n ks) (mpG F' n ks)
 | _,[],_=>trivial
 | n,k::r,h=>by
  rw [List.length_cons] at h
  refine ⟨rfl,?_,leM_mpG h1 N h2 (n+1) r (by omega)⟩
  simp only [leS]
  refine ⟨getN_s h1 _,trivial,?_⟩
  have h3:=h2 n (by omega)
  cases hg:getE hp' (.s F' 0) with
  | fam g=>rw [getE_fam hg]; rw [hg] at h3; exact h3
  | _=>rw [hg] at h3; cases h3
theorem leC_mpP {k' F':Nat} {ks:List Int} (h:mapLe hp hp' σ k' F' ks):leC hp hp' σ frz (.t k') (.map (mpP F' ks)) = True:=by
 refine eq_true ?_
 unfold mapLe at h
 show leC1 hp hp' σ frz (.t k') (.map (mpP F' ks))
 simp only [leC1]
 cases hk:getN σ (.t k') with
 | none=>rw [hk] at h; exact h.elim
 | some k =>
  cases hj:getN σ (.s F' 0) with
  | none=>rw [hk,hj] at h; exact h.elim
  | some j =>
   rw [hk,hj] at h
   obtain ⟨⟨h1,h2⟩,h3⟩:=h
   simp only [h1]
   cases hs:stM (mpP F' ks) with
   | true =>
    have:=stM_mpP F' ks hs
    subst this
    rfl
   | false=>exact leM_mpG (by rw [hj,h2]; rfl) ks.length h3 0 ks (by omega)
theorem leM_app {hp hp':Hp}:∀ {xs ys us vs:List (Value×SV)},leM hp hp' σ frz xs ys→leM hp hp' σ frz us vs→leM hp hp' σ frz (xs++us) (ys++vs)
 | [],[],_,_,_,h=>h
 | [],_::_,_,_,h,_=>h.elim
 | _::_,[],_,_,h,_=>h.elim
 | a::r,b::s,_,_,h,g=>⟨h.1,h.2.1,leM_app h.2.2 g⟩
def mapLe1 (hp hp':Hp) (σ:List (Nm×Nm)) (k' F' j':Nat) (ks:List Int) (q:Int):Prop:=match getN σ (.t k'),getN σ (.s F' 0),getN σ (.t j') with
 | some k,some j,some i=>(getH hp k = .map (mpP j.base ks++[(.int .i64 q,.ptr i 0)])∧j = .s j.base 0)∧lenP (getE hp' (.s F' 0)) ks.length∧(getH hp' (.t j')).live = true
 | _,_,_=>False
theorem mapLe1_eq (k' F' j':Nat) (ks:List Int) (q:Int):mapLe1 hp hp' σ k' F' j' ks q = match getN σ (.t k'),getN σ (.s F' 0),getN σ (.t j') with
 | some k,some j,some i=>(getH hp k = .map (mpP j.base ks++[(.int .i64 q,.ptr i 0)])∧j = .s j.base 0)∧lenP (getE hp' (.s F' 0)) ks.length∧(getH hp' (.t j')).live = true
 | _,_,_=>False:=propext Iff.rfl
theorem leC_mpP1 {k' F' j':Nat} {ks:List Int} {q:Int} (h:mapLe1 hp hp' σ k' F' j' ks q):leC hp hp' σ frz (.t k') (.map (mpP F' ks++[(.int .i64 q,.ptr (.t j') 0)])) = True:=by
 refine eq_true ?_
 unfold mapLe1 at h
 show leC1 hp hp' σ frz (.t k') (.map (mpP F' ks++[(.int .i64 q,.ptr (.t j') 0)]))
 simp only [leC1]
 cases hk:getN σ (.t k') with
 | none=>rw [hk] at h; exact h.elim
 | some k =>
  cases hj:getN σ (.s F' 0) with
  | none=>rw [hk,hj] at h; exact h.elim
  | some j =>
   cases hi:getN σ (.t j') with
   | none=>rw [hk,hj,hi] at h; exact h.elim
   | some i =>
    rw [hk,hj,hi] at h
    obtain ⟨⟨h1,h2⟩,h3,h4⟩:=h
    simp only [h1]
    have hs:stM (mpP F' ks++[(Value.int .i64 q,SV.ptr (.t j') 0)]) = false:=by
     induction mpP F' ks with
     | nil=>rfl
     | cons a l ih=>simp only [List.cons_append,stM,ih,Bool.and_false]
    rw [hs,cond_false]
    refine leM_app (leM_mpG (by rw [hj,h2]; rfl) ks.length h3 0 ks (by omega)) ⟨rfl,?_,trivial⟩
    simp only [leS]
    exact ⟨hi,trivial,h4⟩
theorem ren_mpG (τ:Nm→Nm) (F F':Nat) (h:∀ i,τ (.s F i) = .s F' i):∀ (n:Nat) (ks:List Int),(mpG F n ks).map (fun p=>(p.1,renS τ p.2)) = mpG F' n ks
 | _,[]=>rfl
 | n,k::r=>by simp only [mpG,List.map_cons,renS,h,ren_mpG τ F F' h (n+1) r]
theorem ren_mpP (F:Nat) (ks:List Int):renC (bck (getN σ) nx) (.map (mpP F ks)) = .map (mpP (bck (getN σ) nx (.s F 0)).base ks):=by
 simp only [renC]
 congr 1
 exact ren_mpG _ _ _ (fun i=>bck_s (getN_sig σ) nx F i) 0 ks
theorem ren_mpP1 (F:Nat) (ks:List Int) (q:Int) (k:Nm):renC (bck (getN σ) nx) (.map (mpP F ks++[(.int .i64 q,.ptr k 0)])) = .map (mpP (bck (getN σ) nx (.s F 0)).base ks++[(.int .i64 q,.ptr (bck (getN σ) nx k) 0)]):=by
 simp only [renC,List.map_append,List.map_cons,List.map_nil,renS]
 congr 2
 exact ren_mpG _ _ _ (fun i=>bck_s (getN_sig σ) nx F i) 0 ks
attribute [push_cast high] leC_mpP leC_mpP1 ren_mpP ren_mpP1
attribute [push_cast] mapLe_eq mapLe1_eq
end Go.Sx
end

section
namespace Go.Sx
open Go.RowKit
set_option linter.unusedVariables false
set_option linter.unusedSimpArgs false
variable {P:Program} {X:Cx} {hp:Hp} {ids:Ids} {w:World}
theorem heap_on (h:HeapC X hp ids w) {w':World} (hz:w.heap.size≤w'.heap.size) (hb:∀ b,b < w.heap.size→w'.heap[b]? = w.heap[b]?) (h1:w'.os = w.os) (h2:w'.tape = w.tape) (h3:w'.output = w.output) (h4:DrOk w w') :
  HeapC X hp ids w'∧ExtX X hp ids w hp ids w':=by
 have hE:ExtX X hp ids w hp ids w':=by
  refine ⟨fun d hd=>?_,fun _ h=>h,fun k hl=>.inr ⟨hl,rfl,SameKind.refl hl,fun b o hid=>SameShape.of_eq (hb b (h.st.lt k b o hl hid).1)⟩⟩
  obtain ⟨a1,a2,a3⟩:=hd
  exact ⟨⟨a1,by omega,a3⟩,hb d a2⟩
 refine ⟨⟨⟨fun k=>?_,h.st.inj,fun k b o hl hid=>?_,h.st.im0,fun b hb0 hW=>?_,h1.trans h.st.os,⟨h2.trans h.st.tape.1,h.st.tape.2.trans h4⟩,h3.trans h.st.output,by have:=h.st.size; omega⟩,fun k hk h0 hl=>(h.kept k hk h0 hl).step hE hl hl,h.nov⟩,hE⟩
 ·by_cases hl:(getH hp k).live = true
  ·exact (h.st.ch k).mono hE rfl fun b o hid=>hb b (h.st.lt k b o hl hid).1
  ·cases hc:getH hp k with
   | unborn=>trivial
   | void=>trivial
   | dead=>trivial
   | fam g=>trivial
   | row e cs=>rw [hc] at hl; exact absurd rfl hl
   | map es=>rw [hc] at hl; exact absurd rfl hl
   | obj s p=>rw [hc] at hl; exact absurd rfl hl
 ·obtain ⟨a1,a2⟩:=h.st.lt k b o hl hid
  exact ⟨by omega,a2⟩
 ·rw [hb b (by have:=h.st.size; omega)]; exact h.st.evol b hb0 hW
end Go.Sx
end

section
namespace Go.Sx
open Go.RowKit
set_option linter.unusedVariables false
set_option linter.unusedSimpArgs false
variable {P:Program}
end Go.Sx
end

section
namespace Go.Sx
open Go.RowKit
set_option linter.unusedVariables false
set_option linter.unusedSimpArgs false
variable {P:Program}
theorem TabOk.on {I I':Nat→Prop} {w w':World} (h:TabOk P I w) (hI:∀ b,I b→I' b∧w'.heap[b]? = w.heap[b]?):TabOk P I' w':=fun g cs hc=>by
 obtain ⟨h1,⟨arr,te,tf,ha1,ha2⟩,h2⟩:=h g cs hc
 refine ⟨(hI g h1).1,⟨arr,te,tf,(hI g h1).2.trans ha1,ha2⟩,fun i x hi=>?_⟩
 obtain ⟨y,h3,h4⟩:=h2 i x hi
 exact ⟨y,(cell_eq (hI g h1).2).trans h3,h4.mono (fun b hb=>(hI b hb).1) fun b hb i=>cell_eq (hI b hb).2⟩
end Go.Sx
end

section
namespace Go.Sx
open Go.RowKit
set_option linter.unusedVariables false
set_option linter.unusedSimpArgs false
variable {P:Program} {fr:Fr} {hp:Hp} {nx:Nat} {ops:Array Oper}
def VArr.cut {n:Nat} (A:VArr n) (a b:Int):List Int:=(A.l.drop a.toNat).take (b.toNat - a.toNat)
theorem VArr.cut_len {n:Nat} (A:VArr n) {a b:Int} (h:0≤a∧a≤b∧b≤(n:Int)):(A.cut a b).length = b.toNat - a.toNat:=by
 have:=A.h
 simp only [VArr.cut,List.length_take,List.length_drop]; omega
end Go.Sx
end

section
namespace Go.Sx
open Go.RowKit
set_option linter.unusedVariables false
set_option linter.unusedSimpArgs false
def svV:SV→Value
 | .v x=>x
 | _=>undef
class KeyE (K:Type) [Enc K] [DecidableEq K] where
 L:List TypeDesc
 op:∀ k:K,plainA (Enc.cells k) = some ((Enc.cells k).map svV)
 fits:∀ k:K,leavesV L ((Enc.cells k).map svV) = true
 eq:∀ a b:K,eqLs ((Enc.cells a).map svV) ((Enc.cells b).map svV) = (a == b)
variable {K:Type} [Enc K] [DecidableEq K] [KeyE K]
def kV (k:K):Value:=.agg ((Enc.cells k).map svV).toArray
def mE (m:List (K×Int)):List (Value×SV):=m.map fun p=>(kV p.1,.v (.int .i64 p.2))
omit [DecidableEq K] [KeyE K] in
theorem stM_mE (m:List (K×Int)):stM (mE m) = true:=by
 induction m with
 | nil=>rfl
 | cons p r ih=>simp only [mE,List.map_cons,stM,SV.st,Bool.true_and]; exact ih
omit [DecidableEq K] [KeyE K] in
@[push_cast] theorem ren_mE (τ:Nm→Nm) (m:List (K×Int)):(mE m).map (fun p=>(p.1,renS τ p.2)) = mE m:=by
 simp [mE,renS,Function.comp_def]
attribute [push_cast] stM_mE
omit [DecidableEq K] [KeyE K] in
@[push_cast] theorem mE_nil:mE ([]:List (K×Int)) = []:=rfl
end Go.Sx
end

section
namespace Go.Sx
open Go.RowKit
set_option linter.unusedVariables false
set_option linter.unusedSimpArgs false
variable {P:Program} {fr:Fr} {hp:Hp} {nx:Nat} {ops:Array Oper}
variable {n:Nat}
theorem VArr.vals (a:VArr n):(Enc.cells a).map svV = a.l.map fun x=>Value.int .i64 x:=by
 show (VArr.cells a).map svV = _
 rw [VArr.cells_fl,List.map_map]; rfl
end Go.Sx
end

section
namespace Go.Sx
open Go.RowKit
set_option linter.unusedVariables false
set_option linter.unusedSimpArgs false
structure PT (α:Type) where
 x:α
instance {α:Type} [Enc α]:Inhabited (PT α):=⟨⟨default⟩⟩
instance {α:Type} [Enc α]:Enc (PT α):=⟨1,fun p=>[.iptr (Enc.cells p.x) 0],fun _=>rfl,fun _=>rfl,fun p=>by simp only [stL,SV.st,Enc.stc,Bool.and_self]⟩
@[push_cast] theorem sz_PT {α:Type} [Enc α]:Enc.sz (PT α) = 1:=rfl
@[push_cast] theorem cells_PT {α:Type} [Enc α] (p:PT α):Enc.cells p = [.iptr (Enc.cells p.x) 0]:=rfl
variable {α:Type} [Enc α] {hp hp':Hp} {σ:List (Nm×Nm)} {frz:List Nm}
end Go.Sx
end

section
namespace Go.Sx
set_option linter.unusedVariables false
set_option linter.unusedSimpArgs false
open Go.RowKit
variable {hp:Hp} {nx:Nat} {ids:Ids} {w:World}
theorem Kept.df {X:Cx} {hp':Nm→Chunk} {ids':Ids} {w':World} {k:Nm} (h:Kept X hp' ids' w' k) (ds:List Deferred) (kp:List (Nat×Value)):Kept { X with df:=ds,kp:=kp } hp' ids' w' k:=⟨h.id,h.kind,h.shape⟩
theorem HeapF.df {X:Cx} (h:HeapF X hp nx ids w) (ds:List Deferred) (kp:List (Nat×Value)):HeapF { X with df:=ds,kp:=kp } hp nx ids w:=⟨⟨h.st,fun k h1 h2 h3=>(h.kept k h1 h2 h3).df ds kp,h.nov⟩,h.fresh,h.m_le⟩
attribute [push_cast] leS_erer leS_ernil leS_erpan
@[push_cast] theorem ren_er (τ:Nm→Nm) (a b c:Nat) (e:Err):renS τ (.er a b c e) = .er a b c e:=by unfold renS; rfl
theorem ex_row0 (e d:TypeId) (a b:Int) (h:Chunk.row e [iS a] = .row d [.v (.int .i64 b)]):a = b:=by
 have h2:e = d∧a = b:=by simpa [iS] using h
 exact h2.2
@[push_cast] theorem ex_row (e:TypeId) (a b:Int):(∃ d,Chunk.row e [iS a] = .row d [.v (.int .i64 b)]) = (a = b) :=
 propext ⟨fun ⟨d,h⟩=>ex_row0 e d a b h,fun h=>by subst h; exact ⟨e,rfl⟩⟩
def Err.val:Err→Int
 | .pan v=>v
 | _=>0
end Go.Sx
end

section
namespace Go.Sx
set_option linter.unusedVariables false
set_option linter.unusedSimpArgs false
open Go.RowKit
variable {P:Program} {X:Cx} {hp hp':Hp} {nx:Nat} {ids:Ids} {w:World}
def Shorter (c c':Chunk):Prop:=c' = c∨∃ e cs n,c = .row e cs∧c' = .row e (cs.take n)
theorem Shorter.live {c c':Chunk} (h:Shorter c c'):c'.live = c.live:=by
 rcases h with rfl | ⟨e,cs,n,rfl,rfl⟩ <;> rfl
section
variable {α:Type} [Enc α]
end
end Go.Sx
end

section
namespace Go.Sx
open Go Go.Proofs Go.RowKit Go.Shelf
set_option linter.unusedVariables false
variable {P:Program}
theorem tab_blk {I:Nat→Prop} {w:World} {g:Nat} {cs:List SV} (gl:TabOk P I w) (hg:tabOf P g = some cs):∃ arr e fr,w.heap[g]? = some (.cells arr e fr)∧tabIs (nameOf P g) cs.length arr∧∀ i,w.cell? ⟨g,i,none⟩ = arr[i]?:=by
 obtain ⟨-,⟨arr,e,fr,hw,ht⟩,-⟩:=gl g cs hg
 exact ⟨arr,e,fr,hw,ht,fun i=>by simp [World.cell?,hw]⟩
theorem tab_int {I : Nat → Prop} {w : World} {g : Nat} {cs : List SV} (gl : TabOk P I w) (hg : tabOf P g = some cs) (hn : (nameOf P g == "internal/bytealg.MaxLen") = true) : ∃ m, w.cell? ⟨g, 0, none⟩ = some (.int .i64 m) := by
 obtain ⟨arr,e,fr,hw,ht,hc⟩:=tab_blk gl hg
 rw [hc]; exact ht.2.1 hn
theorem tab_ifc {I : Nat → Prop} {w : World} {g : Nat} {cs : List SV} (gl : TabOk P I w) (hg : tabOf P g = some cs) (hn : (nameOf P g == "strconv.ErrSyntax" || nameOf P g == "strconv.ErrRange") = true) : ∃ te pe, w.cell? ⟨g, 0, none⟩ = some (.iface te pe) := by
 obtain ⟨arr,e,fr,hw,ht,hc⟩:=tab_blk gl hg
 rw [hc]; exact ht.2.2 hn
theorem tab_is {I:Nat→Prop} {w:World} {g:Nat} {n:String} {k:IntKind} {zs:List Int} (gl:TabOk P I w) (hnm:P.globalNamed n = some g) (hg:tabOf P g = some (zs.map fun z=>.v (.int k z))):Lib.TabIs P w n k zs:=by
 obtain ⟨arr,e,fr,hw,ht,hc⟩:=tab_blk gl hg
 obtain ⟨-,-,h2⟩:=gl g _ hg
 unfold Lib.TabIs World.var?
 rw [hnm]
 simp only [Option.bind_some,hw,Option.some.injEq]
 have hs:arr.size = zs.length:=by rw [ht.1,List.length_map]
 apply Array.ext_getElem?
 intro i
 rw [← hc i]
 by_cases hi:i < zs.length
 ·obtain ⟨y,hy,hd⟩:=h2 i (.v (.int k zs[i])) (by rw [List.getElem?_map,List.getElem?_eq_getElem hi]; rfl)
  have hd:y = .int k zs[i]:=hd
  rw [hy,hd]
  simp [List.getElem?_eq_getElem hi]
 ·rw [hc,Array.getElem?_eq_none (by omega),Array.getElem?_eq_none (by simpa using hi)]
theorem spec_belowN {f : FuncId} {args : List SV} {p : SV → Prop} {q : Value → Prop} (hfn : ∃ fn body, P.funcs[f]? = some fn ∧ fn.body = some body ∧ fn.name ≠ "runtime.NumGoroutine") (hcl : clL args = true)
  (hq:∀ r,q r→∃ x,p x∧∀ (C:Nm→Chunk) (ids:Ids) (I:Nat→Prop) (w:World),Den P C ids I w x r)
  (hw:∀ (W:World) (I0:Nat→Prop),(∀ b,I0 b→b < W.heap.size)→TabOk P I0 W→∀ vals:Array Value,vals.size = args.length→(∀ i s,args[i]? = some s→Den P (getH []) (fun _=>none) I0 W s (vals.getD i undef))→Calls P f vals W fun e w'=>(∃ r,e = .returned r∧q r)∧Below W.heap.size W w') :
  SpecW P f args [] 0 (fun x h n=>p x∧h = []∧n = 0):=by
 refine ⟨hfn,fun X vals hP hm hdf hF hsz hd=>?_⟩
 subst hP
 have hX0:∀ q,X.I0 q→Im X.w0 X.I0 X.W0 (getH []) X.ids0 X.w0 q:=fun q hq=>⟨.inl hq,(hF.st.im0 q hq).1,fun k hk=>by cases hk⟩
 refine (hw X.w0 (Im X.w0 X.I0 X.W0 (getH []) X.ids0 X.w0) (fun b hb=>hb.2.1) (X.gl.on fun q hq=>⟨hX0 q hq,rfl⟩) vals hsz (fun i s hi=>den_cl (fun q hq=>⟨hq,rfl⟩) (hd i s hi) (clL_get hcl i s hi))).mono fun e w' he=>?_
 obtain ⟨⟨r,rfl,hr⟩,hB⟩:=he
 obtain ⟨x,hx,hden⟩:=hq r hr
 have ho:=heap_on hF.toHeapC hB.size (fun b hb=>hB.block b hb) hB.os hB.tape hB.output trivial
 exact ⟨r,x,[],0,X.ids0,rfl,⟨hx,rfl,rfl⟩,⟨ho.1,fun k hk=>rfl,by omega⟩,hden _ _ _ _⟩
theorem arg1 {C:Nm→Chunk} {ids:Ids} {I:Nat→Prop} {w:World} {vals:Array Value} {x:Value} (h:vals.size = [SV.v x].length) (hd:∀ i s,[SV.v x][i]? = some s→Den P C ids I w s (vals.getD i undef)):vals = #[x]:=by
 obtain ⟨l⟩:=vals
 match l,h with
 | [a],_=>obtain rfl:a = x:=den_v (hd 0 _ rfl); rfl
theorem arg2 {C:Nm→Chunk} {ids:Ids} {I:Nat→Prop} {w:World} {vals:Array Value} {x y:Value} (h:vals.size = [SV.v x,SV.v y].length) (hd:∀ i s,[SV.v x,SV.v y][i]? = some s→Den P C ids I w s (vals.getD i undef)):vals = #[x,y]:=by
 obtain ⟨l⟩:=vals
 match l,h with
 | [a,b],_ =>
  obtain rfl:a = x:=den_v (hd 0 _ rfl)
  obtain rfl:b = y:=den_v (hd 1 _ rfl)
  rfl
theorem den_tupv {C:Nm→Chunk} {ids:Ids} {I:Nat→Prop} {w:World} (xs:List Value):Den P C ids I w (.tup (xs.map SV.v)) (.tuple xs.toArray):=by
 refine .tup _ (by simp) fun i x hi=>?_
 rw [List.getElem?_map] at hi
 cases hx:xs[i]? with
 | none=>rw [hx] at hi; cases hi
 | some v =>
  rw [hx] at hi
  cases hi
  rw [Array.getD_eq_getD_getElem?]
  simp only [List.getElem?_toArray,hx,Option.getD_some]
  exact .v
def cutB (s sep:ByteArray):ByteArray×ByteArray×Bool:=(⟨(Lib.cut s.data.toList sep.data.toList).1.toArray⟩,⟨(Lib.cut s.data.toList sep.data.toList).2.1.toArray⟩,(Lib.cut s.data.toList sep.data.toList).2.2)
def splitS (s sep:ByteArray):List ByteArray:=Lib.splitB sep 0 (Lib.countB s sep) s
def itoaS (n:Int):ByteArray:=⟨(Lib.itoa n).toArray⟩
def atoiK (s:ByteArray):Bool:=match Lib.atoiAll s.data.toList with | .ok _=>true | _=>false
def atoiV (s:ByteArray):Int:=match Lib.atoiAll s.data.toList with | .ok v=>v | .range=>Lib.atoiSat s.data.toList | _=>0
theorem below_growE (w:World) (k:Nat) (os:Array Obj):Below w.heap.size w (Go.Sort.grow (w.drewN k) os) :=
 ⟨rfl,rfl,rfl,by show w.heap.size≤(w.heap++os).size; rw [Array.size_append]; omega,fun j hj=>by
  show (w.heap++os)[j]? = _
  rw [Array.getElem?_append_left hj]⟩
variable {ρ:Ren}
theorem cut_spec0 (L : Lays.n145 P ρ) (hfn : ∃ fn body, P.funcs[ρ.f 145]? = some fn ∧ fn.body = some body ∧ fn.name ≠ "runtime.NumGoroutine") {cs : List SV} (hg : tabOf P (ρ.g 1) = some cs) (hn : (nameOf P (ρ.g 1) == "internal/bytealg.MaxLen") = true) (s sep : ByteArray) (hs : s.size < 4294967281) :
  SpecW P (ρ.f 145) [.v (.string s),.v (.string sep)] [] 0 (fun x h n=>x = .tup [.v (.string (cutB s sep).1),.v (.string (cutB s sep).2.1),.v (.bool (cutB s sep).2.2)]∧h = []∧n = 0) :=
 spec_belowN (q:=fun r=>r = .tuple #[.string (cutB s sep).1,.string (cutB s sep).2.1,.bool (cutB s sep).2.2]) hfn rfl (fun r hr=>⟨_,rfl,fun C ids I w=>by subst hr; exact den_tupv [.string (cutB s sep).1,.string (cutB s sep).2.1,.bool (cutB s sep).2.2]⟩)
  fun W I0 hI gl vals hsz hd=>by
   obtain rfl:=arg2 hsz hd
   obtain ⟨m,hm⟩:=tab_int gl hg hn
   refine (Any.strings_Cut L s sep m W hs hm).mono fun e w' he=>?_
   obtain ⟨rfl,n,rfl⟩:=he
   have hB:=Below.refl W.heap.size W
   exact ⟨⟨_,rfl,rfl⟩,⟨hB.os,hB.tape,hB.output,hB.size,hB.block⟩⟩
theorem itoa_spec0 (L : LaysM.n171 P ρ) (hfn : ∃ fn body, P.funcs[ρ.f 171]? = some fn ∧ fn.body = some body ∧ fn.name ≠ "runtime.NumGoroutine") {g : Nat} (hnm : P.globalNamed "internal/strconv.uint64pow10" = some g) (hg : tabOf P g = some powS) (n : Int) (h0 : -9223372036854775808 ≤ n) (h1 : n ≤ 9223372036854775807) :
  SpecW P (ρ.f 171) [.v (.int .i64 n)] [] 0 (fun x h k=>x = .v (.string (itoaS n))∧h = []∧k = 0) :=
 spec_belowN (q:=fun r=>r = .string (itoaS n)) hfn rfl (fun r hr=>⟨_,rfl,fun C ids I w=>by subst hr; exact .v⟩)
  fun W I0 hI gl vals hsz hd=>by
   obtain rfl:=arg1 hsz hd
   refine (Any.strconv_Itoa L n h0 h1 W (tab_is gl hnm (hg.trans (congrArg some (by simp only [powS,Lib.pow10Tab]; rfl))))).mono fun e w' he=>?_
   obtain ⟨rfl,k,os,rfl⟩:=he
   exact ⟨⟨_,rfl,rfl⟩,below_growE _ k os⟩
theorem atoi_ok_spec0 (L : LaysC.n172 P ρ) (hfn : ∃ fn body, P.funcs[ρ.f 172]? = some fn ∧ fn.body = some body ∧ fn.name ≠ "runtime.NumGoroutine") (s : ByteArray) (hs : s.size < 4294967281) (hk : atoiK s = true) :
  SpecW P (ρ.f 172) [.v (.string s)] [] 0 (fun x h n=>x = .tup [.v (.int .i64 (atoiV s)),.v .nilIface]∧h = []∧n = 0) :=
 spec_belowN (q:=fun r=>r = .tuple #[.int .i64 (atoiV s),.nilIface]) hfn rfl (fun r hr=>⟨_,rfl,fun C ids I w=>by subst hr; exact den_tupv [.int .i64 (atoiV s),.nilIface]⟩)
  fun W I0 hI gl vals hsz hd=>by
   obtain rfl:=arg1 hsz hd
   unfold atoiK at hk
   unfold atoiV
   cases ha:Lib.atoiAll s.data.toList with
   | ok v =>
    refine (Any.strconv_Atoi_ok L s (by omega) v ha W).mono fun e w' he=>?_
    obtain ⟨rfl,hw⟩:=he
    refine ⟨⟨_,rfl,rfl⟩,?_⟩
    rcases hw with rfl | ⟨t,rfl⟩
    ·exact Below.refl _ _
    ·exact Lib.bytesWorld_below _ _ _
   | range=>rw [ha] at hk; cases hk
   | _=>rw [ha] at hk; cases hk
theorem atoi_bad_spec0 (L : LaysC.n172 P ρ) (hfn : ∃ fn body, P.funcs[ρ.f 172]? = some fn ∧ fn.body = some body ∧ fn.name ≠ "runtime.NumGoroutine") {c1 c2 : List SV} (h15 : tabOf P (ρ.g 15) = some c1) (n15 : (nameOf P (ρ.g 15) == "strconv.ErrSyntax" || nameOf P (ρ.g 15) == "strconv.ErrRange") = true)
  (h16 : tabOf P (ρ.g 16) = some c2) (n16 : (nameOf P (ρ.g 16) == "strconv.ErrSyntax" || nameOf P (ρ.g 16) == "strconv.ErrRange") = true) (s : ByteArray) (hs : s.size < 4294967281) (hk : atoiK s = false) :
  SpecW P (ρ.f 172) [.v (.string s)] [] 0 (fun x h n=>x = .tup [.v (.int .i64 (atoiV s)),.ifc (ρ.t 168) .any]∧h = []∧n = 0) :=
 spec_belowN (q:=fun r=>∃ N:Nat,r = .tuple #[.int .i64 (atoiV s),.iface (ρ.t 168) (.pointer (some ⟨N,0,none⟩))]) hfn rfl (fun r hr=>⟨_,rfl,fun C ids I w=>by
   obtain ⟨N,rfl⟩:=hr
   refine .tup _ rfl fun i x hi=>?_
   match i,hi with
   | 0,hi=>cases hi; exact .v
   | 1,hi=>cases hi; exact .ifc .any⟩)
  fun W I0 hI gl vals hsz hd=>by
   obtain rfl:=arg1 hsz hd
   unfold atoiK at hk
   unfold atoiV
   cases ha:Lib.atoiAll s.data.toList with
   | ok v=>rw [ha] at hk; cases hk
   | range =>
    obtain ⟨te,pe,hv⟩:=tab_ifc gl h16 n16
    refine (Any.strconv_Atoi_range L s (by omega) ha _ W hv (.inr ⟨te,pe,rfl⟩)).mono fun e w' he=>?_
    obtain ⟨N,rfl,-,-,hB⟩:=he
    exact ⟨⟨_,rfl,N,rfl⟩,hB⟩
   | _ =>
    obtain ⟨te,pe,hv⟩:=tab_ifc gl h15 n15
    refine (Any.strconv_Atoi_syntax L s (by omega) ha _ W hv (.inr ⟨te,pe,rfl⟩)).mono fun e w' he=>?_
    obtain ⟨N,rfl,-,-,hB⟩:=he
    exact ⟨⟨_,rfl,N,rfl⟩,hB⟩
theorem row_own {X:Cx} (hm:X.m = 0) (hF:HeapF X [] 0 X.ids0 X.w0) {w':World} (hA:Below X.w0.heap.size X.w0 w') {e:TypeId} {z:Nat} (hz:X.P.cellsOf e = z) {v:Value} {n:Nat} {xs:List Value} (hrow:w'.ownsRow X.w0.heap.size e z v n xs) :
 ∃ids',HeapF X [(0,.row e (xs.map SV.v))] 1 ids' w'∧DenX X [(0,.row e (xs.map SV.v))] ids' w' (.own 0 0 n) v:=by
 have hg:∀ k:Nm,k≠.t 0→getH [((0:Nm),Chunk.row e (xs.map SV.v))] k = .unborn:=fun k hk=>by
  match k,hk with
  | .t 0,hk=>exact absurd rfl hk
  | .t (j+1),_=>rfl
  | .s F i,_=>rfl
 have h0:getH [((0:Nm),Chunk.row e (xs.map SV.v))] (.t 0) = .row e (xs.map SV.v):=rfl
 have hl0:∀ k:Nm,(getH [((0:Nm),Chunk.row e (xs.map SV.v))] k).live = true→k = .t 0:=fun k hk=>Classical.byContradiction fun hn=>by rw [hg k hn] at hk; cases hk
 have mk:∀ p:Option (Nat×Nat),(∀ b o,p = some (b,o)→b < w'.heap.size∧X.w0.heap.size≤b) →
   DenC X.P (getH [((0:Nm),Chunk.row e (xs.map SV.v))]) (upd X.ids0 (.t 0) p) (Im X.w0 X.I0 X.W0 (getH [((0:Nm),Chunk.row e (xs.map SV.v))]) (upd X.ids0 (.t 0) p) w') w' (.t 0) (.row e (xs.map SV.v)) →
   HeapF X [(0,.row e (xs.map SV.v))] 1 (upd X.ids0 (.t 0) p) w':=fun p hp hd=>by
  refine ⟨⟨⟨fun k=>?_,fun k k' b o o' hk hk' _ _=>(hl0 k hk).trans (hl0 k' hk').symm,fun k b o hk hi=>?_,hF.st.im0,fun b hb _=>hA.block b hb,hA.os,⟨hA.tape,trivial⟩,hA.output,hA.size⟩,fun k hk=>by omega,fun k hk=>by omega⟩,fun k hk=>hg k (fun e'=>by subst e'; simp at hk),by omega⟩
  ·by_cases hk:k = .t 0
   ·subst hk; rw [h0]; exact hd
   ·rw [hg k hk]; trivial
  ·obtain rfl:=hl0 k hk
   rw [upd_same] at hi
   exact ⟨(hp b o hi).1,.inr (hp b o hi).2⟩
 rcases hrow.2 with ⟨rfl,rfl⟩ | ⟨g,cap,cur,rfl,hbg,hw,hnc,hcm,hcs,htake⟩
 ·have hx:xs = []:=List.eq_nil_of_length_eq_zero (by simpa using hrow.1)
  subst hx
  refine ⟨upd X.ids0 (.t 0) none,mk none (fun b o h=>by cases h) (by simp [DenC]),.own none 0 rfl ⟨Nat.le_refl _,Nat.zero_le _,fun e' cs h=>?_,.inl ⟨rfl,rfl⟩⟩⟩
  have h:Chunk.row e ([].map SV.v) = .row e' cs:=h
  cases h
  exact Nat.zero_le _
 ·have hlen:xs.length = n * z:=hrow.1
  have hle:n * z≤cap * z:=Nat.mul_le_mul_right _ hnc
  have hgl:g < w'.heap.size:=(Array.getElem?_eq_some_iff.1 hw).1
  refine ⟨upd X.ids0 (.t 0) (some (g,0)),mk _ (fun b o h=>by cases h; exact ⟨hgl,hbg⟩) ?_,.own (some ⟨g,0,none⟩) cap rfl ⟨hnc,hcm,fun e' cs h=>?_,.inr ⟨g,0,e,xs.map SV.v,cur,rfl,upd_same _ _ _,rfl,hw,?_⟩⟩⟩
  ·simp only [DenC,upd_same]
   refine ⟨cur,hw,by rw [List.length_map,hcs]; omega,fun i x hi=>?_⟩
   rw [List.getElem?_map,← htake] at hi
   cases hv:(cur.toList.take (n * z))[i]? with
   | none=>rw [hv] at hi; cases hi
   | some u =>
    rw [hv] at hi
    cases hi
    rw [List.getElem?_take] at hv
    split at hv
    ·rw [Nat.zero_add,Array.getD_eq_getD_getElem?,← Array.getElem?_toList,hv]
     exact .v
    ·cases hv
  ·have h:Chunk.row e (xs.map SV.v) = .row e' cs:=h
   cases h
   rw [List.length_map,hz]; omega
  ·rw [hz,hcs]; omega
theorem fl_strs:∀ xs:List ByteArray,fl xs = (xs.map Value.string).map SV.v
 | []=>rfl
 | x::xs=>by rw [fl_cons,fl_strs xs]; rfl
theorem splitS_len (s sep:ByteArray) (h1:1≤sep.size):(splitS s sep).length = Lib.countB s sep+1:=Lib.splitB_all sep h1 0 _ s rfl
theorem split_spec0 (L : Lays.n146 P ρ) (hfn : ∃ fn body, P.funcs[ρ.f 146]? = some fn ∧ fn.body = some body ∧ fn.name ≠ "runtime.NumGoroutine") (hi9 : (P.info? (ρ.t 9)).map (fun i => (i.zero, i.size, i.bytes)) = some (some (.string ByteArray.empty), 1, 16)) (hz : P.cellsOf (ρ.t 9) = 1)
  {cs : List SV} (hg : tabOf P (ρ.g 1) = some cs) (hn : (nameOf P (ρ.g 1) == "internal/bytealg.MaxLen") = true) (s sep : ByteArray) (hs : s.size < 4294967281) (h1 : 1 ≤ sep.size) :
  SpecW P (ρ.f 146) [.v (.string s),.v (.string sep)] [] 0 (fun x h n=>x = .own 0 0 (splitS s sep).length∧h = [(0,.row (ρ.t 9) (fl (splitS s sep)))]∧n = 1):=by
 refine ⟨hfn,fun X vals hP hm hdf hF hsz hd=>?_⟩
 subst hP
 obtain rfl:=arg2 hsz hd
 obtain ⟨m,hm1⟩:=tab_int X.gl hg hn
 have hlen:=splitS_len s sep h1
 have hle:=Lib.countB_le sep h1 s.size s (Nat.le_refl _)
 refine (Any.strings_Split L hi9 s sep m X.w0 hs hm1 h1).mono fun e w' he=>?_
 obtain ⟨rfl,rfl⟩:=he
 have hB:Below X.w0.heap.size X.w0 (X.w0.alloc (.cells ((Lib.splitB sep 0 (Lib.countB s sep) s).map Value.string).toArray (ρ.t 9))):=(Below.refl _ X.w0).alloc (Nat.le_refl _) _
 obtain ⟨ids',hF',hd'⟩:=row_own hm hF hB hz (v:=.slice (some ⟨X.w0.heap.size,0,none⟩) (Lib.countB s sep+1) (Lib.countB s sep+1)) (n:=Lib.countB s sep+1) (xs:=(splitS s sep).map Value.string) ⟨by rw [List.length_map,hlen,Nat.mul_one],.inr ⟨_,_,_,rfl,Nat.le_refl _,heap_alloc_new' X.w0 _,Nat.le_refl _,by unfold maxLen; omega,by
   have:(Lib.splitB sep 0 (Lib.countB s sep) s).length = Lib.countB s sep+1:=hlen
   simp [this],by
   have:(Lib.splitB sep 0 (Lib.countB s sep) s).length = Lib.countB s sep+1:=hlen
   simp only [Nat.mul_one]
   rw [List.take_of_length_le (by simp [this])]
   rfl⟩⟩
 rw [← fl_strs] at hF' hd'
 rw [← hlen] at hd'
 exact ⟨_,_,_,1,ids',by rw [hlen],⟨rfl,rfl,rfl⟩,hF',hd'⟩
theorem ob_tabsl {α:Type} [Enc α] (tab:List α) (raw:List SV) (hraw:raw = fl tab) (len m nx:Nat) (hl:tab.length = len) (hm:Nat.ble raw.length m = true) :
  resOb (.ok True ⟨.sl len (appCells raw 0 m),[],nx,[]⟩) ⟨.sl tab.length (fl tab),[],nx,[]⟩:=by
 refine ob_ok trivial ?_ rfl
 rw [hl,← hraw]
 have:appCells raw 0 m = raw:=by
  unfold appCells
  rw [List.drop_zero,List.take_of_length_le (Nat.le_of_ble_eq_true hm)]
 rw [this]
end Go.Sx
end

section
namespace Go.Proofs.YtdckaaiidagodaaDoor
open Go Go.Sx
set_option linter.unusedVariables false
def laysCut_spec_ren:Go.Shelf.Ren:=⟨fun | 145=>32 | 220=>39 | 219=>48 | 217=>57 | 225=>58 | 224=>59 | 267=>60 | 266=>75 | 314=>76 | n=>n,fun | 9=>9 | 4=>4 | 59=>75 | 3=>3 | 5=>5 | 46=>104 | 146=>117 | 51=>114 | n=>n,fun | 1=>3 | n=>n⟩
theorem laysCut_spec:Go.Proofs.Lays.n145 Tryd.prog laysCut_spec_ren where
 mixed:=by kernel_rfl
 f145:=Tryd.func32.trans (congrArg some (by kernel_rfl))
 f217:=Tryd.func57.trans (congrArg some (by kernel_rfl))
 f219:=Tryd.func48.trans (congrArg some (by kernel_rfl))
 f220:=Tryd.func39.trans (congrArg some (by kernel_rfl))
 f224:=Tryd.func59.trans (congrArg some (by kernel_rfl))
 f225:=Tryd.func58.trans (congrArg some (by kernel_rfl))
 f266:=Tryd.func75.trans (congrArg some (by kernel_rfl))
 f267:=Tryd.func60.trans (congrArg some (by kernel_rfl))
 f314:=Tryd.func76.trans (congrArg some (by kernel_rfl))
 t3:=Tryd.underlying3
 a3:=Tryd.isAgg3
 z3:=Tryd.sizeOf3
 v3:=Tryd.zeroValue3
 t4:=Tryd.underlying4
 a4:=Tryd.isAgg4
 z4:=Tryd.sizeOf4
 v4:=Tryd.zeroValue4
 t5:=Tryd.underlying5
 a5:=Tryd.isAgg5
 z5:=Tryd.sizeOf5
 v5:=Tryd.zeroValue5
 t9:=Tryd.underlying9
 a9:=Tryd.isAgg9
 z9:=Tryd.sizeOf9
 v9:=Tryd.zeroValue9
 t46:=Tryd.underlying104
 a46:=Tryd.isAgg104
 z46:=Tryd.sizeOf104
 v46:=Tryd.zeroValue104
 t51:=Tryd.underlying114
 a51:=Tryd.isAgg114
 z51:=Tryd.sizeOf114
 v51:=Tryd.zeroValue114
 t59:=Tryd.underlying75
 a59:=Tryd.isAgg75
 z59:=Tryd.sizeOf75
 v59:=Tryd.zeroValue75
 t146:=Tryd.underlying117
 a146:=Tryd.isAgg117
 z146:=Tryd.sizeOf117
 v146:=Tryd.zeroValue117
 g1:=by kernel_rfl
def laysSplit_spec_ren:Go.Shelf.Ren:=⟨fun | 146=>40 | 221=>49 | 268=>61 | 138=>62 | 143=>63 | 195=>77 | 197=>78 | 218=>79 | 219=>48 | 260=>85 | 217=>57 | 225=>58 | 224=>59 | 267=>60 | 266=>75 | 314=>76 | n=>n,fun | 9=>9 | 31=>48 | 3=>3 | 4=>4 | 0=>0 | 105=>120 | 21=>21 | 5=>5 | 46=>104 | 119=>136 | 139=>139 | 138=>138 | 146=>117 | 51=>114 | n=>n,fun | 1=>3 | 3=>9 | 4=>10 | n=>n⟩
theorem laysSplit_spec:Go.Proofs.Lays.n146 Tryd.prog laysSplit_spec_ren where
 mixed:=by kernel_rfl
 f138:=Tryd.func62.trans (congrArg some (by kernel_rfl))
 f143:=Tryd.func63.trans (congrArg some (by kernel_rfl))
 f146:=Tryd.func40.trans (congrArg some (by kernel_rfl))
 f195:=Tryd.func77.trans (congrArg some (by kernel_rfl))
 f197:=Tryd.func78.trans (congrArg some (by kernel_rfl))
 f217:=Tryd.func57.trans (congrArg some (by kernel_rfl))
 f218:=Tryd.func79.trans (congrArg some (by kernel_rfl))
 f219:=Tryd.func48.trans (congrArg some (by kernel_rfl))
 f221:=Tryd.func49.trans (congrArg some (by kernel_rfl))
 f224:=Tryd.func59.trans (congrArg some (by kernel_rfl))
 f225:=Tryd.func58.trans (congrArg some (by kernel_rfl))
 f260:=Tryd.func85.trans (congrArg some (by kernel_rfl))
 f266:=Tryd.func75.trans (congrArg some (by kernel_rfl))
 f267:=Tryd.func60.trans (congrArg some (by kernel_rfl))
 f268:=Tryd.func61.trans (congrArg some (by kernel_rfl))
 f314:=Tryd.func76.trans (congrArg some (by kernel_rfl))
 t0:=Tryd.underlying0
 a0:=Tryd.isAgg0
 z0:=Tryd.sizeOf0
 v0:=Tryd.zeroValue0
 t3:=Tryd.underlying3
 a3:=Tryd.isAgg3
 z3:=Tryd.sizeOf3
 v3:=Tryd.zeroValue3
 t4:=Tryd.underlying4
 a4:=Tryd.isAgg4
 z4:=Tryd.sizeOf4
 v4:=Tryd.zeroValue4
 t5:=Tryd.underlying5
 a5:=Tryd.isAgg5
 z5:=Tryd.sizeOf5
 v5:=Tryd.zeroValue5
 t9:=Tryd.underlying9
 a9:=Tryd.isAgg9
 z9:=Tryd.sizeOf9
 v9:=Tryd.zeroValue9
 t21:=Tryd.underlying21
 a21:=Tryd.isAgg21
 z21:=Tryd.sizeOf21
 v21:=Tryd.zeroValue21
 t31:=Tryd.underlying48
 a31:=Tryd.isAgg48
 z31:=Tryd.sizeOf48
 v31:=Tryd.zeroValue48
 t46:=Tryd.underlying104
 a46:=Tryd.isAgg104
 z46:=Tryd.sizeOf104
 v46:=Tryd.zeroValue104
 t51:=Tryd.underlying114
 a51:=Tryd.isAgg114
 z51:=Tryd.sizeOf114
 v51:=Tryd.zeroValue114
 t105:=Tryd.underlying120
 a105:=Tryd.isAgg120
 z105:=Tryd.sizeOf120
 v105:=Tryd.zeroValue120
 t119:=Tryd.underlying136
 a119:=Tryd.isAgg136
 z119:=Tryd.sizeOf136
 t138:=Tryd.underlying138
 a138:=Tryd.isAgg138
 z138:=Tryd.sizeOf138
 v138:=Tryd.zeroValue138
 t139:=Tryd.underlying139
 a139:=Tryd.isAgg139
 z139:=Tryd.sizeOf139
 v139:=Tryd.zeroValue139
 t146:=Tryd.underlying117
 a146:=Tryd.isAgg117
 z146:=Tryd.sizeOf117
 v146:=Tryd.zeroValue117
 g1:=by kernel_rfl
 g3:=by kernel_rfl
 g4:=by kernel_rfl
def laysItoa_spec_ren:Go.Shelf.Ren:=⟨fun | 171=>30 | 243=>38 | 246=>47 | 283=>53 | 284=>54 | 285=>55 | 286=>56 | 129=>71 | 317=>70 | 318=>72 | 319=>73 | 320=>74 | 337=>83 | 338=>84 | n=>n,fun | 3=>3 | 9=>9 | 2=>2 | 4=>4 | 171=>96 | 0=>0 | 53=>97 | 37=>65 | 5=>5 | 173=>100 | 212=>113 | 51=>114 | 20=>20 | 213=>115 | 46=>104 | 232=>134 | 233=>135 | n=>n,fun | 17=>4 | 18=>7 | 19=>8 | n=>n⟩
theorem laysItoa_spec:Go.Proofs.LaysM.n171 Tryd.prog laysItoa_spec_ren where
 mixed:=by kernel_rfl
 f129:=Tryd.func71.trans (congrArg some (by kernel_rfl))
 f171:=Tryd.func30.trans (congrArg some (by kernel_rfl))
 f243:=Tryd.func38.trans (congrArg some (by kernel_rfl))
 f246:=Tryd.func47.trans (congrArg some (by kernel_rfl))
 f283:=Tryd.func53.trans (congrArg some (by kernel_rfl))
 f284:=Tryd.func54.trans (congrArg some (by kernel_rfl))
 f285:=Tryd.func55.trans (congrArg some (by kernel_rfl))
 f286:=Tryd.func56.trans (congrArg some (by kernel_rfl))
 f317:=Tryd.func70.trans (congrArg some (by kernel_rfl))
 f318:=Tryd.func72.trans (congrArg some (by kernel_rfl))
 f319:=Tryd.func73.trans (congrArg some (by kernel_rfl))
 f320:=Tryd.func74.trans (congrArg some (by kernel_rfl))
 f337:=Tryd.func83.trans (congrArg some (by kernel_rfl))
 f338:=Tryd.func84.trans (congrArg some (by kernel_rfl))
 t0:=Tryd.underlying0
 a0:=Tryd.isAgg0
 z0:=Tryd.sizeOf0
 v0:=Tryd.zeroValue0
 t2:=Tryd.underlying2
 a2:=Tryd.isAgg2
 z2:=Tryd.sizeOf2
 v2:=Tryd.zeroValue2
 t3:=Tryd.underlying3
 a3:=Tryd.isAgg3
 z3:=Tryd.sizeOf3
 v3:=Tryd.zeroValue3
 t4:=Tryd.underlying4
 a4:=Tryd.isAgg4
 z4:=Tryd.sizeOf4
 v4:=Tryd.zeroValue4
 t5:=Tryd.underlying5
 a5:=Tryd.isAgg5
 z5:=Tryd.sizeOf5
 v5:=Tryd.zeroValue5
 t9:=Tryd.underlying9
 a9:=Tryd.isAgg9
 z9:=Tryd.sizeOf9
 v9:=Tryd.zeroValue9
 t20:=Tryd.underlying20
 a20:=Tryd.isAgg20
 z20:=Tryd.sizeOf20
 v20:=Tryd.zeroValue20
 t37:=Tryd.underlying65
 a37:=Tryd.isAgg65
 z37:=Tryd.sizeOf65
 v37:=Tryd.zeroValue65
 t46:=Tryd.underlying104
 a46:=Tryd.isAgg104
 z46:=Tryd.sizeOf104
 v46:=Tryd.zeroValue104
 t51:=Tryd.underlying114
 a51:=Tryd.isAgg114
 z51:=Tryd.sizeOf114
 v51:=Tryd.zeroValue114
 t53:=Tryd.underlying97
 a53:=Tryd.isAgg97
 z53:=Tryd.sizeOf97
 v53:=Tryd.zeroValue97
 t171:=Tryd.underlying96
 a171:=Tryd.isAgg96
 z171:=Tryd.sizeOf96
 v171:=Tryd.zeroValue96
 t173:=Tryd.underlying100
 a173:=Tryd.isAgg100
 z173:=Tryd.sizeOf100
 v173:=Tryd.zeroValue100
 t212:=Tryd.underlying113
 a212:=Tryd.isAgg113
 z212:=Tryd.sizeOf113
 v212:=Tryd.zeroValue113
 t213:=Tryd.underlying115
 a213:=Tryd.isAgg115
 z213:=Tryd.sizeOf115
 t232:=Tryd.underlying134
 a232:=Tryd.isAgg134
 z232:=Tryd.sizeOf134
 v232:=Tryd.zeroValue134
 t233:=Tryd.underlying135
 a233:=Tryd.isAgg135
 z233:=Tryd.sizeOf135
 v233:=Tryd.zeroValue135
 g17:=by kernel_rfl
 g18:=by kernel_rfl
 g19:=by kernel_rfl
 i0:=by kernel_rfl
 i2:=by kernel_rfl
 i3:=by kernel_rfl
 i4:=by kernel_rfl
 i5:=by kernel_rfl
 i9:=by kernel_rfl
 i20:=by kernel_rfl
 i37:=by kernel_rfl
 i46:=by kernel_rfl
 i51:=by kernel_rfl
 i53:=by kernel_rfl
 i171:=by kernel_rfl
 i173:=by kernel_rfl
 i212:=by kernel_rfl
 i232:=by kernel_rfl
 i233:=by kernel_rfl
 m17:=by kernel_rfl
 m18:=by kernel_rfl
 m19:=by kernel_rfl
def laysAtoi_spec_ren:Go.Shelf.Ren:=⟨fun | 172=>44 | 244=>51 | 245=>52 | 247=>65 | 279=>66 | 280=>67 | 281=>68 | 282=>69 | 287=>80 | 316=>81 | 171=>30 | 205=>82 | 321=>86 | 322=>87 | 243=>38 | 246=>47 | 283=>53 | 284=>54 | 285=>55 | 286=>56 | 129=>71 | 317=>70 | 318=>72 | 319=>73 | 320=>74 | 337=>83 | 338=>84 | n=>n,fun | 9=>9 | 3=>3 | 75=>69 | 76=>70 | 4=>4 | 5=>5 | 167=>106 | 37=>65 | 0=>0 | 85=>107 | 2=>2 | 168=>109 | 53=>97 | 175=>122 | 46=>104 | 210=>126 | 127=>83 | 145=>133 | 143=>131 | 21=>21 | 171=>96 | 173=>100 | 212=>113 | 51=>114 | 20=>20 | 213=>115 | 232=>134 | 233=>135 | 80=>74 | n=>n,fun | 15=>5 | 16=>6 | 17=>4 | 18=>7 | 19=>8 | n=>n⟩
theorem laysAtoi_spec:Go.Proofs.LaysC.n172 Tryd.prog laysAtoi_spec_ren where
 mixed:=by kernel_rfl
 f129:=Tryd.func71.trans (congrArg some (by kernel_rfl))
 f171:=Tryd.func30.trans (congrArg some (by kernel_rfl))
 f172:=Tryd.func44.trans (congrArg some (by kernel_rfl))
 f205:=Tryd.func82.trans (congrArg some (by kernel_rfl))
 f243:=Tryd.func38.trans (congrArg some (by kernel_rfl))
 f244:=Tryd.func51.trans (congrArg some (by kernel_rfl))
 f245:=Tryd.func52.trans (congrArg some (by kernel_rfl))
 f246:=Tryd.func47.trans (congrArg some (by kernel_rfl))
 f247:=Tryd.func65.trans (congrArg some (by kernel_rfl))
 f279:=Tryd.func66.trans (congrArg some (by kernel_rfl))
 f280:=Tryd.func67.trans (congrArg some (by kernel_rfl))
 f281:=Tryd.func68.trans (congrArg some (by kernel_rfl))
 f282:=Tryd.func69.trans (congrArg some (by kernel_rfl))
 f283:=Tryd.func53.trans (congrArg some (by kernel_rfl))
 f284:=Tryd.func54.trans (congrArg some (by kernel_rfl))
 f285:=Tryd.func55.trans (congrArg some (by kernel_rfl))
 f286:=Tryd.func56.trans (congrArg some (by kernel_rfl))
 f287:=Tryd.func80.trans (congrArg some (by kernel_rfl))
 f316:=Tryd.func81.trans (congrArg some (by kernel_rfl))
 f317:=Tryd.func70.trans (congrArg some (by kernel_rfl))
 f318:=Tryd.func72.trans (congrArg some (by kernel_rfl))
 f319:=Tryd.func73.trans (congrArg some (by kernel_rfl))
 f320:=Tryd.func74.trans (congrArg some (by kernel_rfl))
 f321:=Tryd.func86.trans (congrArg some (by kernel_rfl))
 f322:=Tryd.func87.trans (congrArg some (by kernel_rfl))
 f337:=Tryd.func83.trans (congrArg some (by kernel_rfl))
 f338:=Tryd.func84.trans (congrArg some (by kernel_rfl))
 t0:=Tryd.underlying0
 a0:=Tryd.isAgg0
 z0:=Tryd.sizeOf0
 v0:=Tryd.zeroValue0
 t2:=Tryd.underlying2
 a2:=Tryd.isAgg2
 z2:=Tryd.sizeOf2
 v2:=Tryd.zeroValue2
 t3:=Tryd.underlying3
 a3:=Tryd.isAgg3
 z3:=Tryd.sizeOf3
 v3:=Tryd.zeroValue3
 t4:=Tryd.underlying4
 a4:=Tryd.isAgg4
 z4:=Tryd.sizeOf4
 v4:=Tryd.zeroValue4
 t5:=Tryd.underlying5
 a5:=Tryd.isAgg5
 z5:=Tryd.sizeOf5
 v5:=Tryd.zeroValue5
 t9:=Tryd.underlying9
 a9:=Tryd.isAgg9
 z9:=Tryd.sizeOf9
 v9:=Tryd.zeroValue9
 t20:=Tryd.underlying20
 a20:=Tryd.isAgg20
 z20:=Tryd.sizeOf20
 v20:=Tryd.zeroValue20
 t21:=Tryd.underlying21
 a21:=Tryd.isAgg21
 z21:=Tryd.sizeOf21
 v21:=Tryd.zeroValue21
 t37:=Tryd.underlying65
 a37:=Tryd.isAgg65
 z37:=Tryd.sizeOf65
 v37:=Tryd.zeroValue65
 t46:=Tryd.underlying104
 a46:=Tryd.isAgg104
 z46:=Tryd.sizeOf104
 v46:=Tryd.zeroValue104
 t51:=Tryd.underlying114
 a51:=Tryd.isAgg114
 z51:=Tryd.sizeOf114
 v51:=Tryd.zeroValue114
 t53:=Tryd.underlying97
 a53:=Tryd.isAgg97
 z53:=Tryd.sizeOf97
 v53:=Tryd.zeroValue97
 t75:=Tryd.underlying69
 a75:=Tryd.isAgg69
 z75:=Tryd.sizeOf69
 v75:=Tryd.zeroValue69
 t76:=Tryd.underlying70
 a76:=Tryd.isAgg70
 z76:=Tryd.sizeOf70
 v76:=Tryd.zeroValue70
 t85:=Tryd.underlying107
 a85:=Tryd.isAgg107
 z85:=Tryd.sizeOf107
 v85:=Tryd.zeroValue107
 t127:=Tryd.underlying83
 a127:=Tryd.isAgg83
 z127:=Tryd.sizeOf83
 v127:=Tryd.zeroValue83
 t143:=Tryd.underlying131
 a143:=Tryd.isAgg131
 z143:=Tryd.sizeOf131
 v143:=Tryd.zeroValue131
 t145:=Tryd.underlying133
 a145:=Tryd.isAgg133
 z145:=Tryd.sizeOf133
 v145:=Tryd.zeroValue133
 t167:=Tryd.underlying106
 a167:=Tryd.isAgg106
 z167:=Tryd.sizeOf106
 v167:=Tryd.zeroValue106
 t168:=Tryd.underlying109
 a168:=Tryd.isAgg109
 z168:=Tryd.sizeOf109
 v168:=Tryd.zeroValue109
 t171:=Tryd.underlying96
 a171:=Tryd.isAgg96
 z171:=Tryd.sizeOf96
 v171:=Tryd.zeroValue96
 t173:=Tryd.underlying100
 a173:=Tryd.isAgg100
 z173:=Tryd.sizeOf100
 v173:=Tryd.zeroValue100
 t175:=Tryd.underlying122
 a175:=Tryd.isAgg122
 z175:=Tryd.sizeOf122
 v175:=Tryd.zeroValue122
 t210:=Tryd.underlying126
 a210:=Tryd.isAgg126
 z210:=Tryd.sizeOf126
 v210:=Tryd.zeroValue126
 t212:=Tryd.underlying113
 a212:=Tryd.isAgg113
 z212:=Tryd.sizeOf113
 v212:=Tryd.zeroValue113
 t213:=Tryd.underlying115
 a213:=Tryd.isAgg115
 z213:=Tryd.sizeOf115
 t232:=Tryd.underlying134
 a232:=Tryd.isAgg134
 z232:=Tryd.sizeOf134
 v232:=Tryd.zeroValue134
 t233:=Tryd.underlying135
 a233:=Tryd.isAgg135
 z233:=Tryd.sizeOf135
 v233:=Tryd.zeroValue135
 g15:=by kernel_rfl
 g16:=by kernel_rfl
 g17:=by kernel_rfl
 g18:=by kernel_rfl
 g19:=by kernel_rfl
 t80:=Tryd.underlying74
 a80:=Tryd.isAgg74
 z80:=Tryd.sizeOf74
 v80:=Tryd.zeroValue74
 i0:=by kernel_rfl
 i2:=by kernel_rfl
 i3:=by kernel_rfl
 i4:=by kernel_rfl
 i5:=by kernel_rfl
 i9:=by kernel_rfl
 i20:=by kernel_rfl
 i21:=by kernel_rfl
 i37:=by kernel_rfl
 i46:=by kernel_rfl
 i51:=by kernel_rfl
 i53:=by kernel_rfl
 i75:=by kernel_rfl
 i76:=by kernel_rfl
 i80:=by kernel_rfl
 i85:=by kernel_rfl
 i127:=by kernel_rfl
 i143:=by kernel_rfl
 i145:=by kernel_rfl
 i167:=by kernel_rfl
 i168:=by kernel_rfl
 i171:=by kernel_rfl
 i173:=by kernel_rfl
 i175:=by kernel_rfl
 i210:=by kernel_rfl
 i212:=by kernel_rfl
 i232:=by kernel_rfl
 i233:=by kernel_rfl
 m15:=by kernel_rfl
 m16:=by kernel_rfl
 m17:=by kernel_rfl
 m18:=by kernel_rfl
 m19:=by kernel_rfl
 c0:=by kernel_rfl
 c2:=by kernel_rfl
 c3:=by kernel_rfl
 c4:=by kernel_rfl
 c5:=by kernel_rfl
 c9:=by kernel_rfl
 c20:=by kernel_rfl
 c21:=by kernel_rfl
 c37:=by kernel_rfl
 c46:=by kernel_rfl
 c51:=by kernel_rfl
 c53:=by kernel_rfl
 c75:=by kernel_rfl
 c76:=by kernel_rfl
 c80:=by kernel_rfl
 c85:=by kernel_rfl
 c127:=by kernel_rfl
 c143:=by kernel_rfl
 c145:=by kernel_rfl
 c167:=by kernel_rfl
 c168:=by kernel_rfl
 c171:=by kernel_rfl
 c173:=by kernel_rfl
 c175:=by kernel_rfl
 c210:=by kernel_rfl
 c212:=by kernel_rfl
 c213:=by kernel_rfl
 c232:=by kernel_rfl
 c233:=by kernel_rfl
theorem cd_cut_spec (s sep:ByteArray) (hs:s.size < 4294967281):SpecW Tryd.prog 32 [.v (.string s),.v (.string sep)] [] 0 (fun x h n=>x = .tup [.v (.string (cutB s sep).1),.v (.string (cutB s sep).2.1),bS (cutB s sep).2.2]∧h = []∧n = 0) :=
 cut_spec0 laysCut_spec ⟨_,_,Tryd.func32,rfl,by decide⟩ (cs:=[.any]) (by kernel_rfl) (by kernel_rfl) s sep hs
theorem cd_split_spec (s sep:ByteArray) (hs:s.size < 4294967281) (h1:1≤sep.size):SpecW Tryd.prog 40 [.v (.string s),.v (.string sep)] [] 0 (fun x h n=>x = .own 0 0 (splitS s sep).length∧h = [(0,.row 9 (fl (splitS s sep)))]∧n = 1) :=
 split_spec0 laysSplit_spec ⟨_,_,Tryd.func40,rfl,by decide⟩ (by kernel_rfl) (by kernel_rfl) (cs:=[.any]) (by kernel_rfl) (by kernel_rfl) s sep hs h1
theorem cd_itoa_spec (n:Int) (h0:-9223372036854775808≤n) (h1:n≤9223372036854775807):SpecW Tryd.prog 30 [iS n] [] 0 (fun x h k=>x = .v (.string (itoaS n))∧h = []∧k = 0) :=
 itoa_spec0 laysItoa_spec ⟨_,_,Tryd.func30,rfl,by decide⟩ (g:=4) (by kernel_rfl) (by kernel_rfl) n h0 h1
theorem cd_atoi_ok_spec (s:ByteArray) (hs:s.size < 4294967281) (hk:atoiK s = true):SpecW Tryd.prog 44 [.v (.string s)] [] 0 (fun x h n=>x = .tup [iS (atoiV s),.v .nilIface]∧h = []∧n = 0) :=
 atoi_ok_spec0 laysAtoi_spec ⟨_,_,Tryd.func44,rfl,by decide⟩ s hs hk
theorem cd_atoi_bad_spec (s:ByteArray) (hs:s.size < 4294967281) (hk:atoiK s = false):SpecW Tryd.prog 44 [.v (.string s)] [] 0 (fun x h n=>x = .tup [iS (atoiV s),.ifc 109 .any]∧h = []∧n = 0) :=
 atoi_bad_spec0 laysAtoi_spec ⟨_,_,Tryd.func44,rfl,by decide⟩ (c1:=[.any]) (c2:=[.any]) (by kernel_rfl) (by kernel_rfl) (by kernel_rfl) (by kernel_rfl) s hs hk
end Go.Proofs.YtdckaaiidagodaaDoor
end

section
namespace Go.Proofs.YtdckaaiidagodaaDoor
open Go Go.Proofs Go.RowKit Go.Sx
set_option linter.unusedVariables false
theorem spec_at {f:FuncId} {args:List SV} {x:SV} (spec:SpecW Tryd.prog f args [] 0 (fun r h n=>r = x∧h = []∧n = 0)) (hx:x.cl = true) (W:World) (I0:Nat→Prop) (hI:∀ b,I0 b→b < W.heap.size) (gl:TabOk Tryd.prog I0 W) (vals:Array Value) (hs:vals.size = args.length)
  (hd:∀ i s,args[i]? = some s→Den Tryd.prog (getH []) (fun _=>none) I0 W s (vals.getD i undef)):Calls Tryd.prog f vals W fun e w'=>(∃ v,e = .returned v∧Den Tryd.prog (getH []) (fun _=>none) (fun b=>b < w'.heap.size) w' x v)∧Below W.heap.size W w':=by
 let X:Cx:={ gl:=gl,P:=Tryd.prog,w0:=W,I0:=I0,W0:=fun _=>False,m:=0,ids0:=fun _=>none,C0:=fun _=>.unborn }
 have hIm:∀ b,I0 b→Im W I0 (fun _=>False) (getH []) (fun _=>none) W b:=fun b hb=>⟨.inl hb,hI b hb,fun k hk=>by cases hk⟩
 have hH:HeapF X [] 0 X.ids0 X.w0:=⟨⟨⟨fun k=>trivial,(fun k k' b o o' hl=>by cases hl),(fun k b o hl=>by cases hl),fun b hb=>⟨hI b hb,fun h=>h⟩,fun b _ _=>rfl,rfl,⟨rfl,.of (Nat.le_refl _)⟩,rfl,Nat.le_refl _⟩,fun k hk=>absurd hk (Nat.not_lt_zero _),fun k hk=>absurd hk (Nat.not_lt_zero _)⟩,fun k _=>rfl,Nat.le_refl _⟩
 refine (spec.2 X vals rfl rfl rfl hH hs fun i s hi=>?_).mono fun e W' he=>?_
 ·have:=hd i s hi
  exact this.mono (I:=I0) ⟨fun b hb=>⟨hIm b hb,rfl⟩,(fun k hk=>by cases hk),(fun k hk=>by cases hk)⟩
 obtain ⟨r,res,hp',nx',ids',rfl,⟨rfl,rfl,_⟩,hF,hd⟩:=he
 exact ⟨⟨r,rfl,den_cl (fun q hq=>⟨hq.2.1,rfl⟩) hd hx⟩,⟨hF.st.os,hF.st.tape.1,hF.st.output,hF.st.size,fun b hb=>hF.st.evol b hb (fun h=>h)⟩⟩
theorem den_i2 {C:Nm→Chunk} {ids:Ids} {I:Nat→Prop} {w:World} {a b:Int} {v:Value} (h:Den Tryd.prog C ids I w (.agg [iS a,iS b]) v):v = .agg #[.int .i64 a,.int .i64 b]:=by
 obtain ⟨arr,rfl,hs,hx⟩:=den_agg h
 obtain ⟨l⟩:=arr
 match l,hs with
 | [x,y],_ =>
  have h0:x = _:=den_v (hx 0 _ rfl)
  have h1:y = _:=den_v (hx 1 _ rfl)
  rw [h0,h1]
theorem box2 {w:World} {b:Nat} {a0 a1:Value} {t:TypeId} (h:w.heap[b]? = some (.cells #[a0,a1] t (0,0))):w.cell? ⟨b,0,none⟩ = some a0∧w.cell? ⟨b,1,none⟩ = some a1∧w.frozen? ⟨b,0,none⟩ = false∧w.frozen? ⟨b,1,none⟩ = false:=by
 refine ⟨?_,?_,?_,?_⟩ <;> simp [World.cell?,World.frozen?,h]
theorem box3 {w:World} {b:Nat} {a0 a1 a2:Value} {t:TypeId} (h:w.heap[b]? = some (.cells #[a0,a1,a2] t (0,0))):w.cell? ⟨b,0,none⟩ = some a0∧w.cell? ⟨b,1,none⟩ = some a1∧w.cell? ⟨b,2,none⟩ = some a2:=by
 refine ⟨?_,?_,?_⟩ <;> simp [World.cell?,h]
theorem box5 {w:World} {b:Nat} {a0 a1 a2 a3 a4:Value} {t:TypeId} (h:w.heap[b]? = some (.cells #[a0,a1,a2,a3,a4] t (0,0))):w.cell? ⟨b,0,none⟩ = some a0∧w.cell? ⟨b,1,none⟩ = some a1∧w.cell? ⟨b,2,none⟩ = some a2∧w.cell? ⟨b,3,none⟩ = some a3∧w.cell? ⟨b,4,none⟩ = some a4:=by
 refine ⟨?_,?_,?_,?_,?_⟩ <;> simp [World.cell?,h]
theorem fl_get? {α:Type} [Enc α] (xs:List α) (i j:Nat) (h:i < xs.length) (hj:j < Enc.sz α):(fl xs)[i * Enc.sz α+j]? = (Enc.cells (ix xs (i:Int)))[j]?:=by
 have:=fl_at xs i h
 rw [show ix xs (i:Int) = xs.getD i default from rfl,← this,List.getElem?_take_of_lt hj,List.getElem?_drop]
theorem setCell_two {w:World} {b:Nat} {x y x' y':Value} {t:TypeId} (h:w.heap[b]? = some (.cells #[x,y] t (0,0))):((w.setCell ⟨b,0,none⟩ x').setCell ⟨b,1,none⟩ y').heap[b]? = some (.cells #[x',y'] t (0,0)):=by
 unfold World.setCell
 simp only [Array.getElem?_modify,if_true,h,Option.map_some]
 rfl
theorem ret16 {R:Ending→World→Prop} {a:Act} {w:World} {b:Nat} {x y r:Value} (h2:a.tmps.getD 2 undef = r) (h3:a.tmps.getD 3 undef = .pointer (some ⟨b,0,none⟩)) (hw:w.heap[b]? = some (.cells #[x,y] 31 (0,0))) (hd:a.defers = []) (hR:R (.returned (.tuple #[r,.agg #[x,y]])) w) :
  bodyPost Tryd.prog Tryd.f16 R .ret a w:=by
 refine bodyPost_ret_by (v:=.tuple #[r,.agg #[x,y]]) ?_ hd hR
 have hl:=run_loadVar_row (P:=Tryd.prog) w b 31 31 #[x,y] (0,0) _ hw Tryd.underlying31 rfl (by kernel_rfl)
 have hr:Tryd.f16.results = #[.tmp 2,.cell 3 31]:=rfl
 rw [Array.getD_eq_getD_getElem?] at h2 h3
 simp only [results,hr]
 simp [Sem.run_bind,Result.andThen,h3,h2,asAddr,hl]
structure Hd (p:Prop):Prop where
 o:p
theorem den_prog {α:Type} [Enc α] {I:Nat→Prop} {W:World} {code:List α} {pipes:List Int} {c l g:Int} {v:Value} (h:Den Tryd.prog (getH []) (fun _=>none) I W (.agg [.sl code.length (fl code),iS c,.sl pipes.length (fl pipes),iS l,iS g]) v) :
 ∃ad cap pv,v = .agg #[.slice ad code.length cap,.int .i64 c,pv,.int .i64 l,.int .i64 g]∧Den Tryd.prog (getH []) (fun _=>none) I W (.sl code.length (fl code)) (.slice ad code.length cap):=by
 obtain ⟨arr,rfl,hs,hx⟩:=den_agg h
 obtain ⟨l'⟩:=arr
 match l',hs with
 | [x0,x1,x2,x3,x4],_ =>
  have h0:Den _ _ _ _ _ _ x0:=hx 0 _ rfl
  have h1:x1 = _:=den_v (hx 1 _ rfl)
  have h3:x3 = _:=den_v (hx 3 _ rfl)
  have h4:x4 = _:=den_v (hx 4 _ rfl)
  obtain ⟨ad,cap,rfl,-,-,-⟩:=den_sl h0
  exact ⟨ad,cap,x2,by rw [h1,h3,h4],h0⟩
section
variable {α:Type} [Enc α]
theorem cl_prog (code:List α) (pipes:List Int) (c l g:Int):(SV.agg [.sl code.length (fl code),iS c,.sl pipes.length (fl pipes),iS l,iS g]).cl = true:=by
 have h1:clL (fl code) = true:=stL_clL (fl_st code)
 have h2:clL (fl pipes) = true:=stL_clL (fl_st pipes)
 simp only [SV.cl,clL,h1,h2,Bool.and_self]
set_option maxRecDepth 100000 in
set_option maxHeartbeats 4000000 in
theorem text_w0 (code:List α) (pipes:List Int) (c l g c0 at0:Int) (hne:c0≠0)
  (hck:SpecW Tryd.prog 10 [.agg [.sl code.length (fl code),iS c,.sl pipes.length (fl pipes),iS l,iS g]] [] 0 (fun x h n=>x = .agg [iS c0,iS at0]∧h = []∧n = 0))
  (W:World) (I0:Nat→Prop) (hI:∀ b,I0 b→b < W.heap.size) (gl:TabOk Tryd.prog I0 W) (v0:Value)
  (hd0:Den Tryd.prog (getH []) (fun _=>none) I0 W (.agg [.sl code.length (fl code),iS c,.sl pipes.length (fl pipes),iS l,iS g]) v0) :
  Calls Tryd.prog 16 #[v0] W fun e w'=>e = .returned (.tuple #[.string ByteArray.empty,.agg #[.int .i64 c0,.int .i64 at0]])∧Below W.heap.size W w':=by
 have mixed:Tryd.prog.follows .mixedOrders = true:=by kernel_rfl
 obtain ⟨ad0,cap0,pv,rfl,-⟩:=den_prog hd0
 have AL:∀ (w1:World) (o:Obj),Below w1.heap.size w1 (w1.alloc o):=fun w1 o=>(Below.refl _ w1).alloc (Nat.le_refl _) o
 obtain ⟨wa,hwa⟩:∃ wa,(W.alloc (.cells #[.slice ad0 code.length cap0,.int .i64 c,pv,.int .i64 l,.int .i64 g] 25)).alloc (.cells #[.int .i64 0,.int .i64 0] 31) = wa:=⟨_,rfl⟩
 have Ba:Below W.heap.size W wa:=hwa ▸ ((AL W _).trans ((AL _ _).mono (AL W _).size))
 have hsa:wa.heap.size = W.heap.size+2:=by rw [← hwa]; simp
 have ha1:wa.heap[W.heap.size]? = some (.cells #[.slice ad0 code.length cap0,.int .i64 c,pv,.int .i64 l,.int .i64 g] 25 (0,0)):=by rw [← hwa]; exact (Below.heap_alloc _ _ _ (by simp)).trans (heap_alloc_new' W _)
 have ha3:wa.heap[W.heap.size+1]? = some (.cells #[.int .i64 0,.int .i64 0] 31 (0,0)):=by rw [← hwa]; have:=heap_alloc_new' (W.alloc (.cells #[.slice ad0 code.length cap0,.int .i64 c,pv,.int .i64 l,.int .i64 g] 25)) (.cells #[.int .i64 0,.int .i64 0] 31); rwa [World.size_alloc] at this
 have CK:Calls Tryd.prog 10 #[.agg #[.slice ad0 code.length cap0,.int .i64 c,pv,.int .i64 l,.int .i64 g]] wa fun e w'=>e = .returned (.agg #[.int .i64 c0,.int .i64 at0])∧Below wa.heap.size wa w' :=
  (spec_at hck (by rfl) wa I0 (fun b hb=>Nat.lt_of_lt_of_le (hI b hb) Ba.size) (gl.on fun q hq=>⟨hq,Ba.block q (hI q hq)⟩) _ rfl (fun i s hi=>by
   match i,hi with
   | 0,hi=>cases hi; exact den_cl (fun q hq=>⟨hq,Ba.block q (hI q hq)⟩) hd0 (cl_prog code pipes c l g))).mono fun e w' he=>by
   obtain ⟨⟨v,rfl,hv⟩,hB⟩:=he
   exact ⟨congrArg _ (den_i2 hv),hB⟩
 obtain ⟨k0,k1,k2,k3,k4⟩:=box5 ha1
 have hwa':Hd ((W.alloc (.cells #[.slice ad0 code.length cap0,.int .i64 c,pv,.int .i64 l,.int .i64 g] 25)).alloc (.cells #[.int .i64 0,.int .i64 0] 31) = wa):=⟨hwa⟩
 have CK':Hd (Calls Tryd.prog 10 #[.agg #[.slice ad0 code.length cap0,.int .i64 c,pv,.int .i64 l,.int .i64 g]] wa fun e w'=>e = .returned (.agg #[.int .i64 c0,.int .i64 at0])∧Below wa.heap.size wa w'):=⟨CK⟩
 clear hck hwa gl hI AL hd0 ha1 CK
 go_enter Tryd.func16,Tryd.ntmps16
 go_upto_region 1 with (fail)
 rw [hwa'.o]
 go_upto_region 2 with (first | (go_at_call 10; refine CK'.o.mono ?_; rintro e w1 ⟨rfl,hB1⟩))
 obtain ⟨wb,hwb⟩:∃ wb,w1.alloc (.cells #[.int .i64 c0,.int .i64 at0] 31) = wb:=⟨_,rfl⟩
 have Bb:Below wa.heap.size wa wb:=hwb ▸ hB1.trans (((Below.refl _ w1).alloc (Nat.le_refl _) _).mono hB1.size)
 have hb4:wb.heap[w1.heap.size]? = some (.cells #[.int .i64 c0,.int .i64 at0] 31 (0,0)):=by rw [← hwb]; exact heap_alloc_new' w1 _
 have hb3:=(Bb.block (W.heap.size+1) (by omega)).trans ha3
 obtain ⟨e0,e1,ez0,ez1⟩:=box2 hb4
 obtain ⟨f0,f1,fz0,fz1⟩:=box2 hb3
 have hb3':Hd _:=⟨hb3⟩
 have hb:W.heap.size+1≠w1.heap.size:=by have:=hB1.size; omega
 have hbad:(c0 == 0) = false:=by simpa using hne
 rw [hwb]
 clear hwb hb4 hb3 ha3 k0 k1 k2 k3 k4
 go_upto_region 3 with (fail)
 go_region_held3 (fun w'=>w'.cell? ⟨w1.heap.size,0,none⟩ = some (.int .i64 c0)∧w'.cell? ⟨w1.heap.size,1,none⟩ = some (.int .i64 at0)) (go_keep) (fail)
 go_wp2
 refine ret16 rfl rfl (by exact setCell_two hb3'.o) rfl ⟨rfl,?_⟩
 have h1:Below W.heap.size W ((wb.setCell ⟨W.heap.size+1,0,none⟩ (.int .i64 c0)).setCell ⟨W.heap.size+1,1,none⟩ (.int .i64 at0)):=((Ba.trans (Bb.mono Ba.size)).setCell (by show W.heap.size≤W.heap.size+1; omega) _).setCell (by show W.heap.size≤W.heap.size+1; omega) _
 exact ⟨h1.os,h1.tape,h1.output,h1.size,h1.block⟩
end
set_option maxRecDepth 100000 in
set_option maxHeartbeats 1000000 in
theorem cw_fresh_spec (b:Nat) (w:World) (h0:w.cell? ⟨b,0,none⟩ = some (.pointer none)) (hsh:w.shape? b = some (67,2)) (hfz:w.frozen? ⟨b,0,none⟩ = false) :
  Calls Tryd.prog 37 #[.pointer (some ⟨b,0,none⟩)] w fun e w'=>e = .returned (.tuple #[])∧w' = w.setCell ⟨b,0,none⟩ (.pointer (some ⟨b,0,none⟩)):=by
 have mixed:Tryd.prog.follows .mixedOrders = true:=by kernel_rfl
 obtain ⟨j,hj,hjs⟩:∃ j,Tryd.prog.info? 67 = some j∧j.size = 2:=Option.map_eq_some_iff.1 (show (Tryd.prog.info? 67).map (·.size) = some 2 by kernel_rfl)
 go_enter Tryd.func37,Tryd.ntmps37
 go_wp2
 rw [Lib.run_to_unsafe w ⟨b,0,none⟩ (t:=67) (by kernel_rfl) (by kernel_rfl) hj (by rw [hjs]; decide) hsh (Nat.zero_lt_succ 1)]
 simp only [Result.andThen]
 rw [Oper.upon_value]
 go_wp2
 rw [run_callFunc_extern Tryd.func46 (by kernel_rfl) (by kernel_rfl) (by kernel_rfl) (e:=Extern.AbiNoEscape.same) (by kernel_rfl)]
 rw [Lib.run_noEscape]
 simp only [Result.andThen]
 rw [Oper.upon_value]
 go_wp2
 rw [Lib.run_from_unsafe w ⟨b,0,none⟩ (u:=67) (by kernel_rfl) (by kernel_rfl) hj hsh (by kernel_rfl)]
 simp only [Result.andThen]
 rw [Oper.upon_value]
 go_wp2
 go_end0
 exact ⟨rfl,rfl⟩
set_option maxRecDepth 100000 in
set_option maxHeartbeats 1000000 in
theorem cw_used_spec (b:Nat) (w:World) (h0:w.cell? ⟨b,0,none⟩ = some (.pointer (some ⟨b,0,none⟩))) :
  Calls Tryd.prog 37 #[.pointer (some ⟨b,0,none⟩)] w fun e w'=>e = .returned (.tuple #[])∧w' = w:=by
 have mixed:Tryd.prog.follows .mixedOrders = true:=by kernel_rfl
 obtain ⟨j,hj,hjs⟩:∃ j,Tryd.prog.info? 67 = some j∧j.size = 2:=Option.map_eq_some_iff.1 (show (Tryd.prog.info? 67).map (·.size) = some 2 by kernel_rfl)
 go_enter Tryd.func37,Tryd.ntmps37
 go_wp2
 rw [Lib.run_neq_ptr_same w _ (te:=67) (by kernel_rfl) hj]
 go_wp2
 go_end0
 exact ⟨rfl,rfl⟩
def laysBS_spec_ren:Go.Shelf.Ren:=⟨fun | 169=>31 | n=>n,fun | 70=>64 | 9=>9 | 0=>0 | 72=>67 | 37=>65 | 127=>83 | 3=>3 | 5=>5 | n=>n,fun | n=>n⟩
theorem laysBS_spec:Go.Proofs.Lays.n169 Tryd.prog laysBS_spec_ren where
 mixed:=by kernel_rfl
 f169:=Tryd.func31.trans (congrArg some (by kernel_rfl))
 t0:=Tryd.underlying0
 a0:=Tryd.isAgg0
 z0:=Tryd.sizeOf0
 v0:=Tryd.zeroValue0
 t3:=Tryd.underlying3
 a3:=Tryd.isAgg3
 z3:=Tryd.sizeOf3
 v3:=Tryd.zeroValue3
 t9:=Tryd.underlying9
 a9:=Tryd.isAgg9
 z9:=Tryd.sizeOf9
 v9:=Tryd.zeroValue9
 t37:=Tryd.underlying65
 a37:=Tryd.isAgg65
 z37:=Tryd.sizeOf65
 v37:=Tryd.zeroValue65
 t70:=Tryd.underlying64
 a70:=Tryd.isAgg64
 z70:=Tryd.sizeOf64
 v70:=Tryd.zeroValue64
 t72:=Tryd.underlying67
 a72:=Tryd.isAgg67
 z72:=Tryd.sizeOf67
 v72:=Tryd.zeroValue67
 t127:=Tryd.underlying83
 a127:=Tryd.isAgg83
 z127:=Tryd.sizeOf83
 v127:=Tryd.zeroValue83
theorem extraBS:Builder.Extra Tryd.prog laysBS_spec_ren where
 sizeBuilder:=by kernel_rfl
 liesBuilder:=by kernel_rfl
 t5:=Tryd.underlying5
 a5:=Tryd.isAgg5
 z5:=Tryd.sizeOf5
 v5:=Tryd.zeroValue5
 infoByte:=by kernel_rfl
 cellsByte:=by kernel_rfl
 sizeByte:=by kernel_rfl
 neB5:=by decide
structure Bd (b:Nat) (l:List UInt8) (w:World):Prop where
 o:Lib.IsBuilder 67 5 b b (Lib.byteCells l) w
theorem Bd.lt {b:Nat} {l:List UInt8} {w:World} (h:Bd b l w):b < w.heap.size:=by
 rcases h.o with ⟨h1,v,h2,h3⟩ | ⟨h1,v,h2,h3⟩ <;> exact (Array.getElem?_eq_some_iff.1 h2).1
theorem Bd.below {b:Nat} {l:List UInt8} {w w':World} (h:Bd b l w) (hb:Below w.heap.size w w'):Bd b l w':=by
 have g:w.grownBy w' none:=⟨hb.os,hb.tape,hb.output,hb.size,fun k hk _=>hb.block k hk⟩
 have one:∀ p,Lib.BuilderAt 67 5 b b p (Lib.byteCells l) w→Lib.BuilderAt 67 5 b b p (Lib.byteCells l) w':=fun p h=>by
  obtain ⟨h1,v,h2,h3,h4⟩:=h
  exact ⟨h1,v,(hb.block b (Array.getElem?_eq_some_iff.1 h2).1).trans h2,h3.kept g (by cases hv:v.ownBlock <;> simp),h4⟩
 exact ⟨h.o.elim (fun h=>.inl (one _ h)) fun h=>.inr (one _ h)⟩
theorem byteCells_length (l:List UInt8):(Lib.byteCells l).length = l.length:=by simp [Lib.byteCells]
structure Wr (b:Nat) (w w':World):Prop where
 below:Below b w w'
 kept:∀ (k:Nat) (c:Array Value) (t:TypeId) (f:Nat×Nat),t≠5→k≠b→w.heap[k]? = some (.cells c t f)→w'.heap[k]? = some (.cells c t f)
theorem Wr.trans {b:Nat} {w w1 w2:World} (h:Wr b w w1) (g:Wr b w1 w2):Wr b w w2:=⟨h.below.trans g.below,fun k c t f ht hk hw=>g.kept k c t f ht hk (h.kept k c t f ht hk hw)⟩
theorem bd_check (b:Nat) (bs:List Value) (w:World) (h:Lib.IsBuilder 67 5 b b bs w) :
  Calls Tryd.prog 37 #[.pointer (some ⟨b,0,none⟩)] w fun e w'=>e = .returned (.tuple #[])∧Lib.BuilderAt 67 5 b b (.pointer (some ⟨b,0,none⟩)) bs w'∧Wr b w w':=by
 rcases h with h | h
 ·refine (cw_fresh_spec b w h.cell0 h.shape h.frozen0).mono fun e w' he=>?_
  obtain ⟨rfl,rfl⟩:=he
  refine ⟨rfl,h.used _,(Below.refl _ w).setCell (p:=⟨b,0,none⟩) (Nat.le_refl _) _,fun k c t f ht hk hw=>?_⟩
  rw [← hw]
  exact Below.heap_setCell _ _ _ _ (fun e=>hk e)
 ·refine (cw_used_spec b w h.cell0).mono fun e w' he=>?_
  obtain ⟨rfl,rfl⟩:=he
  exact ⟨rfl,h,Below.refl _ _,fun k c t f ht hk hw=>hw⟩
set_option maxHeartbeats 2000000 in
set_option maxRecDepth 100000 in
theorem bd_write (b:Nat) (l:List UInt8) (s:ByteArray) (w:World) (h:Bd b l w) (hlen:l.length+s.size≤140737488355328) :
  Calls Tryd.prog 28 #[.pointer (some ⟨b,0,none⟩),.string s] w fun e w'=>e = .returned (.tuple #[.int .i64 s.size,.nilIface])∧Bd b (l++s.data.toList) w'∧Wr b w w':=by
 obtain ⟨i0,hi,hz0,hz1,hz2⟩:=info_parts (show (Tryd.prog.info? 5).map (fun i=>(i.zero,i.size,i.bytes)) = some (some (.int .u8 0),1,1) by kernel_rfl)
 have hlt0:=h.lt
 have hbl:(Lib.byteCells l).length = l.length:=byteCells_length l
 have CC:=bd_check b (Lib.byteCells l) w h.o
 go_enter Tryd.func28,Tryd.ntmps28
 go_wp2_with (go_at_call 37; refine CC.mono ?_)
 rintro e w1 ⟨rfl,h1,hb1⟩
 obtain ⟨hB,v,hbk,hown,hne⟩:=h1
 have c0:w1.cell? ⟨b,0,none⟩ = some (.pointer (some ⟨b,0,none⟩)):=by rw [Lib.cell_of_heap hbk]; rfl
 have c1:w1.cell? ⟨b,1,none⟩ = some v:=by rw [Lib.cell_of_heap hbk]; rfl
 go_wp2_with (at_builtin; refine Lib.wpList_append_own_string _ rfl _ _ 65 9 rfl b 5 i0 Tryd.underlying65 Tryd.underlying9 hi hz0 hz1 hz2 _ _ _ rfl hown s rfl ?c3 ?c4 ?c5 ?_)
 case c3=>unfold maxLen; omega
 case c4=>omega
 case c5=>have:=hb1.below.size; omega
 intro v' w2 hown' hgrow _
 have hlt:b < w1.heap.size:=(Array.getElem?_eq_some_iff.1 hbk).1
 have hb2:w2.heap[b]? = some (.cells #[.pointer (some ⟨b,0,none⟩),v] 67 (0,0)):=by
  rw [hgrow.block b hlt (fun e=>hne e.symm)]
  exact hbk
 have d0:w2.cell? ⟨b,0,none⟩ = some (.pointer (some ⟨b,0,none⟩)):=by rw [Lib.cell_of_heap hb2]; rfl
 have d1:w2.cell? ⟨b,1,none⟩ = some v:=by rw [Lib.cell_of_heap hb2]; rfl
 have f1:w2.frozen? ⟨b,1,none⟩ = false:=Lib.frozen_of_heap hb2 1
 obtain ⟨ao,n',cap,rfl⟩:∃ ao n' cap,v' = .slice ao n' cap:=by
  rcases hown'.2 with ⟨hv,_⟩ | ⟨g,cap,cur,hv,_⟩
  ·exact ⟨_,_,_,hv⟩
  ·exact ⟨_,_,_,hv⟩
 go_wp2
 go_ret2
 refine ⟨rfl,⟨.inr ?_⟩,?_,fun k c t f ht hk hw=>?_⟩
 ·have e1:Lib.byteCells l++Lib.strCells s = Lib.byteCells (l++s.data.toList):=by simp [Lib.byteCells,Lib.strCells]
  rw [← e1]
  exact Lib.BuilderAt.put (T:=67) (e:=5) hB hb2 (bs':=Lib.byteCells l++Lib.strCells s) (by simpa [Lib.strCells_length,hbl] using hown') (by decide)
 ·exact (hb1.below.grown hgrow (by have:=hb1.below.size; omega) (fun k hk=>(hown.lt k hk).1)).setCell (p:=⟨b,1,none⟩) hB _
 ·have hw1:=hb1.kept k c t f ht hk hw
  have hne2:some k≠v.ownBlock:=fun e=>by
   rcases hown.2 with ⟨rfl,_⟩ | ⟨g,cap',cur,rfl,_,hg,_⟩
   ·simp [Value.ownBlock] at e
   ·simp [Value.ownBlock] at e
    subst e
    rw [hg] at hw1
    cases hw1; exact ht rfl
  rw [← hw1,← hgrow.block k (Array.getElem?_eq_some_iff.1 hw1).1 hne2]
  exact Below.heap_setCell _ _ _ _ (fun e=>hk e)
theorem bd_string (b:Nat) (l:List UInt8) (w:World) (h:Bd b l w) :
  Calls Tryd.prog 31 #[.pointer (some ⟨b,0,none⟩)] w fun e w'=>e = .returned (.string ⟨l.toArray⟩)∧Below b w w' :=
 Any.Builder_String_any laysBS_spec extraBS b b l w h.o (Nat.le_of_lt h.lt)
end Go.Proofs.YtdckaaiidagodaaDoor
end

section
namespace Go.Proofs.YtdckaaiidagodaaDoor
open Go Go.Proofs Go.RowKit Go.Sx
set_option linter.unusedVariables false
def argL (lt:Int→ByteArray) (c:UInt8) (x:Int):List UInt8:=if c = 45 then [] else 32::((lt (c.toNat:Int)).data.toList++Lib.itoa x)
def lineL {α β:Type} [Enc β] (O A Q:α→Int) (N G:β→ByteArray) (kt:List β) (lt:Int→ByteArray) (x:α):List UInt8 :=
 (N (ix kt (O x))).data.toList++(argL lt ((G (ix kt (O x))).data.getD 0 0) (A x)++(argL lt ((G (ix kt (O x))).data.getD 1 0) (Q x)++[10]))
structure LineOk {α β:Type} [Enc β] (O A Q:α→Int) (G:β→ByteArray) (kt:List β) (x:α):Prop where
 o:∃ o:Nat,O x = o∧o < kt.length∧(G (ix kt o)).size = 2
 a:-9223372036854775808≤A x∧A x≤9223372036854775807
 q:-9223372036854775808≤Q x∧Q x≤9223372036854775807
structure TextOk {α β:Type} [Enc α] [Enc β] (O A Q:α→Int) (N G:β→ByteArray) (kt:List β) (lt:Int→ByteArray) (code:List α):Prop where
 len:code.length≤1000
 ok:∀ k:Nat,k < code.length→LineOk O A Q G kt (ix code (k:Int))
 tot:(code.flatMap (lineL O A Q N G kt lt)).length≤140737488355328
theorem lines_succ {α:Type} [Enc α] (f:α→List UInt8) (code:List α) (k:Nat) (h:k < code.length):(code.take (k+1)).flatMap f = (code.take k).flatMap f++f (ix code (k:Int)):=by
 rw [List.take_add_one,List.getElem?_eq_getElem h,List.flatMap_append]
 simp [ix,List.getD_eq_getElem?_getD,h]
theorem lines_le {α:Type} (f:α→List UInt8) (code:List α) (k:Nat):((code.take k).flatMap f).length≤(code.flatMap f).length:=by
 conv=>rhs; rw [← List.take_append_drop k code,List.flatMap_append,List.length_append]
 omega
section
variable {α:Type} [Enc α] {β:Type} [Enc β]
set_option maxRecDepth 100000 in
set_option maxHeartbeats 40000000 in
theorem text_w (O A Q:α→Int) (hc:∀ x:α,Enc.cells x = [.v (.int .i64 (O x)),.v (.int .i64 (A x)),.v (.int .i64 (Q x))]) (N G:β→ByteArray) (hk:∀ x:β,Enc.cells x = [.v (.string (N x)),.v (.string (G x))]) (kt:List β) (hkt:kindsTab = fl kt) (hkl0:kt.length = 23)
  (lt:Int→ByteArray) (hlt:∀ k,SpecW Tryd.prog 29 [.v (.int .u8 k)] [] 0 (fun x h n=>x = .v (.string (lt k))∧h = []∧n = 0))
  (code:List α) (pipes:List Int) (c l g at0:Int) (hok:TextOk O A Q N G kt lt code)
  (hck:SpecW Tryd.prog 10 [.agg [.sl code.length (fl code),iS c,.sl pipes.length (fl pipes),iS l,iS g]] [] 0 (fun x h n=>x = .agg [iS 0,iS at0]∧h = []∧n = 0))
  (W:World) (I0:Nat→Prop) (hI:∀ b,I0 b→b < W.heap.size) (gl:TabOk Tryd.prog I0 W) (v0:Value)
  (hd0:Den Tryd.prog (getH []) (fun _=>none) I0 W (.agg [.sl code.length (fl code),iS c,.sl pipes.length (fl pipes),iS l,iS g]) v0) :
  Calls Tryd.prog 16 #[v0] W fun e w'=>e = .returned (.tuple #[.string ⟨(code.flatMap (lineL O A Q N G kt lt)).toArray⟩,.agg #[.int .i64 0,.int .i64 0]])∧Below W.heap.size W w':=by
 have mixed:Tryd.prog.follows .mixedOrders = true:=by kernel_rfl
 obtain ⟨ad0,cap0,pv,rfl,hcode⟩:=den_prog hd0
 have AL:∀ (w1:World) (o:Obj),Below w1.heap.size w1 (w1.alloc o):=fun w1 o=>(Below.refl _ w1).alloc (Nat.le_refl _) o
 have G1:Hd (∀ w1,Below W.heap.size W w1→TabOk Tryd.prog I0 w1):=⟨fun w1 h=>gl.on fun q hq=>⟨hq,h.block q (hI q hq)⟩⟩
 have I1:Hd (∀ w1,Below W.heap.size W w1→∀ b,I0 b→b < w1.heap.size):=⟨fun w1 h b hb=>Nat.lt_of_lt_of_le (hI b hb) h.size⟩
 have clc:(SV.sl code.length (fl code)).cl = true:=by simp only [SV.cl]; exact stL_clL (fl_st code)
 have D0:Hd (∀ w1,Below W.heap.size W w1→Den Tryd.prog (getH []) (fun _=>none) I0 w1 (.sl code.length (fl code)) (.slice ad0 code.length cap0)):=⟨fun w1 h=>den_cl (fun q hq=>⟨hq,h.block q (hI q hq)⟩) hcode clc⟩
 have LT:Hd (∀ wr,Below W.heap.size W wr→∀ k:Int,Calls Tryd.prog 29 #[.int .u8 k] wr fun e w'=>e = .returned (.string (lt k))∧Below wr.heap.size wr w'):=⟨fun wr hr k =>
  (spec_at (hlt k) rfl wr I0 (I1.o wr hr) (G1.o wr hr) _ rfl (fun i s hi=>by
   match i,hi with
   | 0,hi=>cases hi; exact .v)).mono fun e w' he=>by
   obtain ⟨⟨v,rfl,hv⟩,hB⟩:=he
   rw [den_v hv]
   exact ⟨rfl,hB⟩⟩
 have IT:Hd (∀ wr,Below W.heap.size W wr→∀ n:Int,-9223372036854775808≤n→n≤9223372036854775807→Calls Tryd.prog 30 #[.int .i64 n] wr fun e w'=>e = .returned (.string (itoaS n))∧Below wr.heap.size wr w'):=⟨fun wr hr n h0 h1 =>
  (spec_at (cd_itoa_spec n h0 h1) rfl wr I0 (I1.o wr hr) (G1.o wr hr) _ rfl (fun i s hi=>by
   match i,hi with
   | 0,hi=>cases hi; exact .v)).mono fun e w' he=>by
   obtain ⟨⟨v,rfl,hv⟩,hB⟩:=he
   rw [den_v hv]
   exact ⟨rfl,hB⟩⟩
 have TR:Hd (∀ wr,Below W.heap.size W wr→∀ k:Nat,k < code.length→∃ b0 o0,ad0 = some ⟨b0,o0,none⟩∧wr.cell? ⟨b0,o0+k * 3,none⟩ = some (.int .i64 (O (ix code k)))∧wr.cell? ⟨b0,o0+k * 3+1,none⟩ = some (.int .i64 (A (ix code k)))∧wr.cell? ⟨b0,o0+k * 3+2,none⟩ = some (.int .i64 (Q (ix code k)))):=⟨fun wr hr k hk=>by
  obtain ⟨a',c',hsl,h1,h2,h3⟩:=den_sl (D0.o wr hr)
  cases hsl
  rcases h3 with ⟨h0,_⟩ | ⟨b,o,d,rfl,hIb,hcb,hdb⟩
  ·omega
  ·have g:∀ m x,m < 3→(Enc.cells (ix code (k:Int)))[m]? = some (.v x)→wr.cell? ⟨b,o+(k * 3+m),none⟩ = some x:=fun m x hm hx=>by
    have hsz:Enc.sz α = 3:=by rw [← Enc.len (ix code (k:Int)),hc]; rfl
    have hg:(fl code)[k * 3+m]? = some (.v x):=by
     rw [← hx,← hsz]
     exact fl_get? code k m hk (by omega)
    rw [hcb _ _ hg,den_v (hdb _ _ hg)]
   have e0:=hc (ix code (k:Int))
   exact ⟨b,o,rfl,g 0 _ (by omega) (by rw [e0]; rfl),g 1 _ (by omega) (by rw [e0]; rfl),g 2 _ (by omega) (by rw [e0]; rfl)⟩⟩
 have KT:Hd (∀ wr,Below W.heap.size W wr→∀ o:Nat,o < kt.length→wr.cell? ⟨0,o * 2,none⟩ = some (.string (N (ix kt (o:Int))))∧wr.cell? ⟨0,o * 2+1,none⟩ = some (.string (G (ix kt (o:Int))))):=⟨fun wr hr o ho=>by
  obtain ⟨-,-,h2⟩:=G1.o wr hr 0 kindsTab (by kernel_rfl)
  have g:∀ m x,m < 2→(Enc.cells (ix kt (o:Int)))[m]? = some (.v x)→wr.cell? ⟨0,o * 2+m,none⟩ = some x:=fun m x hm hx=>by
   have hsz:Enc.sz β = 2:=by rw [← Enc.len (ix kt (o:Int)),hk]; rfl
   have hg:(fl kt)[o * 2+m]? = some (.v x):=by
    rw [← hx,← hsz]
    exact fl_get? kt o m ho (by omega)
   rw [← hkt] at hg
   obtain ⟨y,hy,hd⟩:=h2 _ _ hg
   have hd:y = x:=hd
   rw [hy,hd]
  have e0:=hk (ix kt (o:Int))
  exact ⟨g 0 _ (by omega) (by rw [e0]; rfl),g 1 _ (by omega) (by rw [e0]; rfl)⟩⟩
 obtain ⟨wa,hwa⟩:∃ wa,(W.alloc (.cells #[.slice ad0 code.length cap0,.int .i64 c,pv,.int .i64 l,.int .i64 g] 25)).alloc (.cells #[.int .i64 0,.int .i64 0] 31) = wa:=⟨_,rfl⟩
 have Ba:Below W.heap.size W wa:=hwa ▸ ((AL W _).trans ((AL _ _).mono (AL W _).size))
 have hsa:wa.heap.size = W.heap.size+2:=by rw [← hwa]; simp
 have ha1:wa.heap[W.heap.size]? = some (.cells #[.slice ad0 code.length cap0,.int .i64 c,pv,.int .i64 l,.int .i64 g] 25 (0,0)):=by rw [← hwa]; exact (Below.heap_alloc _ _ _ (by simp)).trans (heap_alloc_new' W _)
 have ha3:wa.heap[W.heap.size+1]? = some (.cells #[.int .i64 0,.int .i64 0] 31 (0,0)):=by rw [← hwa]; have:=heap_alloc_new' (W.alloc (.cells #[.slice ad0 code.length cap0,.int .i64 c,pv,.int .i64 l,.int .i64 g] 25)) (.cells #[.int .i64 0,.int .i64 0] 31); rwa [World.size_alloc] at this
 have CK:Calls Tryd.prog 10 #[.agg #[.slice ad0 code.length cap0,.int .i64 c,pv,.int .i64 l,.int .i64 g]] wa fun e w'=>e = .returned (.agg #[.int .i64 0,.int .i64 at0])∧Below wa.heap.size wa w' :=
  (spec_at hck (by rfl) wa I0 (fun b hb=>Nat.lt_of_lt_of_le (hI b hb) Ba.size) (gl.on fun q hq=>⟨hq,Ba.block q (hI q hq)⟩) _ rfl (fun i s hi=>by
   match i,hi with
   | 0,hi=>cases hi; exact den_cl (fun q hq=>⟨hq,Ba.block q (hI q hq)⟩) hd0 (cl_prog code pipes c l g))).mono fun e w' he=>by
   obtain ⟨⟨v,rfl,hv⟩,hB⟩:=he
   exact ⟨congrArg _ (den_i2 hv),hB⟩
 obtain ⟨k0,k1,k2,k3,k4⟩:=box5 ha1
 have hwa':Hd ((W.alloc (.cells #[.slice ad0 code.length cap0,.int .i64 c,pv,.int .i64 l,.int .i64 g] 25)).alloc (.cells #[.int .i64 0,.int .i64 0] 31) = wa):=⟨hwa⟩
 have CK':Hd (Calls Tryd.prog 10 #[.agg #[.slice ad0 code.length cap0,.int .i64 c,pv,.int .i64 l,.int .i64 g]] wa fun e w'=>e = .returned (.agg #[.int .i64 0,.int .i64 at0])∧Below wa.heap.size wa w'):=⟨CK⟩
 have AL':Hd (∀ (w1:World) (o:Obj),Below w1.heap.size w1 (w1.alloc o)):=⟨AL⟩
 have hok':Hd (TextOk O A Q N G kt lt code):=⟨hok⟩
 have hkl:Hd (kt.length = 23):=⟨hkl0⟩
 have ha1':Hd _:=⟨ha1⟩
 have ha3':Hd _:=⟨ha3⟩
 clear hck hwa gl hI AL hd0 ha1 ha3 CK hcode clc hc hk hkt hkl0 hlt hok G1 I1 D0
 go_enter Tryd.func16,Tryd.ntmps16
 go_upto_region 1 with (fail)
 rw [hwa'.o]
 go_upto_region 2 with (first | (go_at_call 10; refine CK'.o.mono ?_; rintro e w1 ⟨rfl,hB1⟩))
 obtain ⟨wb,hwb⟩:∃ wb,w1.alloc (.cells #[.int .i64 0,.int .i64 at0] 31) = wb:=⟨_,rfl⟩
 have Bb:Below wa.heap.size wa wb:=hwb ▸ hB1.trans (((Below.refl _ w1).alloc (Nat.le_refl _) _).mono hB1.size)
 have hb4:wb.heap[w1.heap.size]? = some (.cells #[.int .i64 0,.int .i64 at0] 31 (0,0)):=by rw [← hwb]; exact heap_alloc_new' w1 _
 have hb1:=(Bb.block W.heap.size (by omega)).trans ha1'.o
 obtain ⟨e0,e1,ez0,ez1⟩:=box2 hb4
 have hb1':Hd _:=⟨hb1⟩
 have hb:W.heap.size+1≠w1.heap.size:=by have:=hB1.size; omega
 have hsb:wa.heap.size≤wb.heap.size:=Bb.size
 rw [hwb]
 clear hwb hb4 k0 k1 k2 k3 k4 hb1
 go_upto_region 4 with (fail)
 clear e0 e1 ez0 ez1
 obtain ⟨wc,hwc⟩:∃ wc,wb.alloc (.cells #[.pointer none,.slice none 0 0] 67) = wc:=⟨_,rfl⟩
 have Bc:Below wb.heap.size wb wc:=hwc ▸ AL'.o _ _
 have hcb:wc.heap[wb.heap.size]? = some (.cells #[.pointer none,.slice none 0 0] 67 (0,0)):=by rw [← hwc]; exact heap_alloc_new' wb _
 obtain ⟨k0,k1,k2,k3,k4⟩:=box5 ((Bc.block W.heap.size (by omega)).trans hb1'.o)
 go_upto_region 5 with (fail)
 have hsc:wc.heap.size = wb.heap.size+1:=by rw [← hwc]; simp
 have BWc:Below W.heap.size W wc:=Ba.trans ((Bb.trans (Bc.mono Bb.size)).mono Ba.size)
 have hb3:Hd (wc.heap[W.heap.size+1]? = some (.cells #[.int .i64 0,.int .i64 0] 31 (0,0))):=⟨(Bc.block _ (by omega)).trans ((Bb.block _ (by omega)).trans ha3'.o)⟩
 have hSt0:Hd (Bd wb.heap.size ((code.take 0).flatMap (lineL O A Q N G kt lt)) wc):=⟨⟨.inl ⟨Nat.le_refl _,_,hcb,World.ownsRow_nil _ _ _ _,by simp [Value.ownBlock]⟩⟩⟩
 have hBc0:Hd (Below wb.heap.size wc wc):=⟨Below.refl _ _⟩
 go_upto_block 0 with (fail)
 clear k0 k1 k2 k3 k4 hcb hwc Bc hB1 CK' hwa' ha1' ha3' hb1'
 go_wp2
 go_loopw [20] (fun i wr=>∃ k:Nat,i = .int .i64 k∧k≤code.length∧Hd (Below wb.heap.size wc wr)∧Hd (Bd wb.heap.size ((code.take k).flatMap (lineL O A Q N G kt lt)) wr)) (fun i _=>code.length - (intOf i).toNat)
 case atStart=>exact ⟨0,rfl,Nat.zero_le _,hBc0,hSt0⟩
 case round =>
  obtain ⟨k,rfl,hk,hB,hSt⟩:=hrel
  have hcl:=hok'.o.len
  clear hSt0 hBc0
  have hBW:Hd (Below W.heap.size W wr):=⟨BWc.trans (hB.o.mono (by omega))⟩
  by_cases hlt:k < code.length
  ·obtain ⟨b0,o0,rfl,c0,c1,c2⟩:=TR.o wr hBW.o k hlt
   go_upto_region 8 with (fail)
   have hlk:=hok'.o.ok k hlt
   have hnx:Hd (((code.take (k+1)).flatMap (lineL O A Q N G kt lt)) = ((code.take k).flatMap (lineL O A Q N G kt lt))++((N (ix kt (O (ix code k)))).data.toList++(argL lt ((G (ix kt (O (ix code k)))).data.getD 0 0) (A (ix code k))++(argL lt ((G (ix kt (O (ix code k)))).data.getD 1 0) (Q (ix code k))++[10])))):=⟨lines_succ _ code k hlt⟩
   have hle:Hd (((code.take (k+1)).flatMap (lineL O A Q N G kt lt)).length≤140737488355328):=⟨Nat.le_trans (lines_le _ code (k+1)) hok'.o.tot⟩
   obtain ⟨⟨o,ho,hot,hg2⟩,⟨a1,a2⟩,⟨q1,q2⟩⟩:=hlk
   clear c0 c1 c2
   rw [ho] at hnx ⊢
   generalize A (ix code (k:Int)) = ak at *
   generalize Q (ix code (k:Int)) = qk at *
   obtain ⟨w3,hw3⟩:∃ w3,wr.alloc (.cells #[.int .i64 o,.int .i64 ak,.int .i64 qk] 38) = w3:=⟨_,rfl⟩
   rw [hw3]
   have B3:Below wr.heap.size wr w3:=hw3 ▸ AL'.o _ _
   have hs3:w3.heap.size = wr.heap.size+1:=by rw [← hw3]; simp
   have hx7:Hd (w3.heap[wr.heap.size]? = some (.cells #[.int .i64 o,.int .i64 ak,.int .i64 qk] 38 (0,0))):=⟨by rw [← hw3]; exact heap_alloc_new' wr _⟩
   obtain ⟨d0,d1,d2⟩:=box3 hx7.o
   have hSt3:Hd (Bd wb.heap.size ((code.take k).flatMap (lineL O A Q N G kt lt)) w3):=⟨hSt.o.below B3⟩
   have B3W:Hd (Below W.heap.size W w3):=⟨hBW.o.trans (B3.mono hBW.o.size)⟩
   obtain ⟨t0,t1⟩:=KT.o w3 B3W.o o hot
   have ho0:(0:Int)≤(o:Int):=by omega
   have ho1:(o:Int) < 23:=by
    have:kt.length = 23:=hkl.o
    omega
   have hsw:wb.heap.size < wr.heap.size:=hSt.o.lt
   clear hw3 hSt
   generalize N (ix kt (o:Int)) = nm at *
   generalize G (ix kt (o:Int)) = ga at *
   go_upto_region 9 with (fail)
   obtain ⟨w4,hw4⟩:∃ w4,w3.alloc (.cells #[.string nm,.string ga] 58) = w4:=⟨_,rfl⟩
   rw [hw4]
   have B4:Below w3.heap.size w3 w4:=hw4 ▸ AL'.o _ _
   have hs4:w4.heap.size = wr.heap.size+2:=by rw [← hw4]; simp; omega
   have hx8:Hd (w4.heap[wr.heap.size+1]? = some (.cells #[.string nm,.string ga] 58 (0,0))):=⟨by rw [← hw4,← hs3]; exact heap_alloc_new' w3 _⟩
   have hx7':Hd (w4.heap[wr.heap.size]? = some (.cells #[.int .i64 o,.int .i64 ak,.int .i64 qk] 38 (0,0))):=⟨(B4.block _ (by omega)).trans hx7.o⟩
   obtain ⟨e0,e1,-,-⟩:=box2 hx8.o
   have B4W:Hd (Below W.heap.size W w4):=⟨B3W.o.trans (B4.mono B3W.o.size)⟩
   have hBB4:Hd (Below wb.heap.size wc w4):=⟨(hB.o.trans (B3.mono (by have:=hB.o.size; omega))).trans (B4.mono (by have:=hB.o.size; have:=B3.size; omega))⟩
   have hb34:Hd (w4.heap[W.heap.size+1]? = some (.cells #[.int .i64 0,.int .i64 0] 31 (0,0))):=⟨(hBB4.o.block _ (by omega)).trans hb3.o⟩
   generalize (code.take k).flatMap (lineL O A Q N G kt lt) = Lk at *
   have hSt4:Hd (Bd wb.heap.size Lk w4):=⟨hSt3.o.below B4⟩
   have hlen:Hd (Lk.length+(nm.size+((argL lt (ga.data.getD 0 0) ak).length+((argL lt (ga.data.getD 1 0) qk).length+1)))≤140737488355328):=⟨by
    have:=hle.o
    rw [hnx.o] at this
    simp only [List.length_append,List.length_singleton] at this
    exact this⟩
   have WS:=bd_write wb.heap.size Lk nm w4 hSt4.o (by have:=hlen.o; omega)
   clear hw4 d0 d1 d2 t0 t1 hx7 hSt3 B3 hs3 B4 hB hBW B3W hs4
   go_upto_region 10 with (first | (go_at_call 28; refine WS.mono ?_; rintro e w5 ⟨rfl,hbd5,hwr5⟩))
   clear WS e0 e1 hSt4
   have hbd5':Hd _:=⟨hbd5⟩
   have hwr5':Hd _:=⟨hwr5⟩
   have hx8':Hd (w5.heap[wr.heap.size+1]? = some (.cells #[.string nm,.string ga] 58 (0,0))):=⟨hwr5.kept _ _ _ _ (by decide) (by omega) hx8.o⟩
   have hx7'':Hd (w5.heap[wr.heap.size]? = some (.cells #[.int .i64 o,.int .i64 ak,.int .i64 qk] 38 (0,0))):=⟨hwr5.kept _ _ _ _ (by decide) (by omega) hx7'.o⟩
   obtain ⟨d0,d1,d2⟩:=box3 hx7''.o
   clear hbd5 hwr5 hx7' hx8
   go_upto_block 2 with (fail)
   obtain ⟨w6,hw6⟩:∃ w6,w5.alloc (.cells #[.int .i64 ak,.int .i64 qk] 3) = w6:=⟨_,rfl⟩
   rw [hw6]
   have B6:Below w5.heap.size w5 w6:=hw6 ▸ AL'.o _ _
   have hs45:w4.heap.size≤w5.heap.size:=hwr5'.o.below.size
   have hB46:Below wb.heap.size wc w6:=(hBB4.o.trans hwr5'.o.below).trans (B6.mono (Nat.le_of_lt hbd5'.o.lt))
   have hx35:w6.heap[w5.heap.size]? = some (.cells #[.int .i64 ak,.int .i64 qk] 3 (0,0)):=by rw [← hw6]; exact heap_alloc_new' w5 _
   have hx86:w6.heap[wr.heap.size+1]? = some (.cells #[.string nm,.string ga] 58 (0,0)):=(B6.block _ (Array.getElem?_eq_some_iff.1 hx8'.o).1).trans hx8'.o
   have h85:wr.heap.size+1 < w5.heap.size:=(Array.getElem?_eq_some_iff.1 hx8'.o).1
   have hbd6:Bd wb.heap.size (Lk++nm.data.toList) w6:=hbd5'.o.below B6
   have hb5:=hbd5'.o.lt
   generalize wr.heap.size = r0 at *
   have P0:Hd (Below wb.heap.size wc w6∧w6.heap[r0+1]? = some (.cells #[.string nm,.string ga] 58 (0,0))∧w6.heap[w5.heap.size]? = some (.cells #[.int .i64 ak,.int .i64 qk] 3 (0,0))∧Bd wb.heap.size (Lk++nm.data.toList) w6):=⟨hB46,hx86,hx35,hbd6⟩
   clear hw6 B6 hB46 hx35 hx86 hbd6 d0 d1 d2 hx7'' hx8' hbd5' hwr5' B4W hBB4 hb34 hs45
   go_wp2
   go_loopw [37] (fun i wi=>∃ j:Nat,i = .int .i64 j∧j≤2∧Hd (Below wb.heap.size wc wi∧wi.heap[r0+1]? = some (.cells #[.string nm,.string ga] 58 (0,0))∧wi.heap[w5.heap.size]? = some (.cells #[.int .i64 ak,.int .i64 qk] 3 (0,0))∧Bd wb.heap.size (Lk++nm.data.toList++(if j = 0 then [] else if j = 1 then argL lt (ga.data.getD 0 0) ak else argL lt (ga.data.getD 0 0) ak++argL lt (ga.data.getD 1 0) qk)) wi)) (fun i _=>2 - (intOf i).toNat)
   case atStart=>exact ⟨0,rfl,by omega,⟨P0.o.1,P0.o.2.1,P0.o.2.2.1,by rw [if_pos rfl,List.append_nil]; exact P0.o.2.2.2⟩⟩
   case round =>
    obtain ⟨j,rfl,hj,hP⟩:=hrel
    clear P0
    by_cases h2:j < 2
    ·obtain ⟨p0,p1,-,-⟩:=box2 hP.o.2.1
     obtain ⟨s0,s1,-,-⟩:=box2 hP.o.2.2.1
     have sj:wr.cell? ⟨w5.heap.size,j,none⟩ = some (.int .i64 (if j = 0 then ak else qk)):=by
      match j,h2 with
      | 0,_=>exact s0
      | 1,_=>exact s1
     generalize haj:(if j = 0 then ak else qk) = aj at sj
     clear s0 s1
     have hj0:(0:Int)≤(j:Int):=by omega
     have hj1:(j:Int) < (ga.size:Int):=by rw [hg2]; omega
     have hj2:(j:Int) < 2:=by omega
     have hjs:j < ga.size:=by rw [hg2]; exact h2
     have hX:Hd ((if j+1 = 0 then [] else if j+1 = 1 then argL lt (ga.data.getD 0 0) ak else argL lt (ga.data.getD 0 0) ak++argL lt (ga.data.getD 1 0) qk) = (if j = 0 then [] else if j = 1 then argL lt (ga.data.getD 0 0) ak else argL lt (ga.data.getD 0 0) ak++argL lt (ga.data.getD 1 0) qk)++argL lt ga[j] aj):=⟨by
      have hgd:ga[j] = ga.data.getD j 0:=by
       rw [Array.getD_eq_getD_getElem?,Array.getElem?_eq_getElem hjs]; rfl
      rw [hgd,← haj]
      match j,h2 with
      | 0,_=>simp
      | 1,_=>simp⟩
     have hBi:Hd (Below W.heap.size W wr):=⟨BWc.trans (hP.o.1.mono (by omega))⟩
     have haji:-9223372036854775808≤aj∧aj≤9223372036854775807:=by
      rw [← haj]; split
      ·exact ⟨a1,a2⟩
      ·exact ⟨q1,q2⟩
     have hLTj:=LT.o wr hBi.o (ga[j].toNat:Int)
     have hlenj:Hd ((Lk++nm.data.toList++(if j = 0 then [] else if j = 1 then argL lt (ga.data.getD 0 0) ak else argL lt (ga.data.getD 0 0) ak++argL lt (ga.data.getD 1 0) qk)).length+(argL lt ga[j] aj).length≤140737488355328):=⟨by
      have h1:=congrArg List.length hX.o
      have h3:=hlen.o
      have h4:nm.data.toList.length = nm.size:=by rw [Array.length_toList]; rfl
      rw [List.length_append] at h1
      rw [List.length_append,List.length_append,Nat.add_assoc,← h1]
      have h5:(if j+1 = 0 then [] else if j+1 = 1 then argL lt (ga.data.getD 0 0) ak else argL lt (ga.data.getD 0 0) ak++argL lt (ga.data.getD 1 0) qk).length≤(argL lt (ga.data.getD 0 0) ak).length+(argL lt (ga.data.getD 1 0) qk).length:=by
       split
       ·simp
       ·split
        ·omega
        ·rw [List.length_append]; omega
      omega⟩
     have hbdj:=hP.o.2.2.2
     generalize (if j = 0 then [] else if j = 1 then argL lt (ga.data.getD 0 0) ak else argL lt (ga.data.getD 0 0) ak++argL lt (ga.data.getD 1 0) qk) = Xj at *
     have hbdj':Hd _:=⟨hbdj⟩
     clear hbdj
     go_upto_region 13 with (fail)
     go_upto_region 14 with (fail)
     case' roundEnd =>
      rename_i hch
      have hc45:ga[j] = 45:=by
       have:¬ (ga[j].toNat:Int)≠45:=by simpa using hch
       have h3:ga[j].toNat = 45:=by omega
       exact UInt8.toNat_inj.1 (by rw [h3]; rfl)
      refine ⟨⟨j+1,by push_cast; first | done | rfl,by omega,⟨hP.o.1,hP.o.2.1,hP.o.2.2.1,?_⟩⟩,?_⟩
      ·rw [hX.o,hc45]
       simp only [argL,if_true,List.append_nil]
       exact hbdj'.o
      ·simp only [intOf]; omega
     rename_i hch
     have hc45:ga[j]≠45:=by
      intro e
      rw [e] at hch
      exact absurd hch (by decide)
     have hargl:Hd (argL lt ga[j] aj = 32::((lt (ga[j].toNat:Int)).data.toList++Lib.itoa aj)):=⟨if_neg hc45⟩
     have hcat:Hd ((((⟨#[32]⟩:ByteArray)++lt (ga[j].toNat:Int))++itoaS aj).data.toList = argL lt ga[j] aj):=⟨by
      rw [hargl.o,ByteArray.data_append,ByteArray.data_append]
      simp [itoaS]⟩
     have hsz1:((⟨#[32]⟩:ByteArray)++lt (ga[j].toNat:Int)).size+(itoaS aj).size≤140737488355328:=by
      have h1:=hlenj.o
      rw [← hcat.o] at h1
      have e3:((((⟨#[32]⟩:ByteArray)++lt (ga[j].toNat:Int))++itoaS aj).data.toList).length = (((⟨#[32]⟩:ByteArray)++lt (ga[j].toNat:Int))++itoaS aj).size:=by rw [Array.length_toList]; rfl
      have e4:(((⟨#[32]⟩:ByteArray)++lt (ga[j].toNat:Int))++itoaS aj).size = ((⟨#[32]⟩:ByteArray)++lt (ga[j].toNat:Int)).size+(itoaS aj).size:=ByteArray.size_append
      omega
     have hsz2:(⟨#[32]⟩:ByteArray).size+(lt (ga[j].toNat:Int)).size≤140737488355328:=by
      have e1:((⟨#[32]⟩:ByteArray)++lt (ga[j].toNat:Int)).size = (⟨#[32]⟩:ByteArray).size+(lt (ga[j].toNat:Int)).size:=ByteArray.size_append
      omega
     go_upto_region 15 with (first | (go_at_call 29; refine hLTj.mono ?_; rintro e w7 ⟨rfl,hB7⟩; have hIT:=IT.o w7 (hBi.o.trans (hB7.mono hBi.o.size)) aj haji.1 haji.2) | (go_at_call 30; refine hIT.mono ?_; rintro e w8 ⟨rfl,hB8⟩; have WS:=bd_write wb.heap.size _ (((⟨#[32]⟩:ByteArray)++lt (ga[j].toNat:Int))++itoaS aj) w8 (hbdj'.o.below (hB7.trans (hB8.mono hB7.size))) (by have h1:=hlenj.o; rw [← hcat.o] at h1; have e3:((((⟨#[32]⟩:ByteArray)++lt (ga[j].toNat:Int))++itoaS aj).data.toList).length = (((⟨#[32]⟩:ByteArray)++lt (ga[j].toNat:Int))++itoaS aj).size:=(by rw [Array.length_toList]; rfl); omega)) | (go_at_call 28; refine WS.mono ?_; rintro e w9 ⟨rfl,hbd9,hwr9⟩))
     have hP9:Hd (Below wb.heap.size wc w9∧w9.heap[r0+1]? = some (.cells #[.string nm,.string ga] 58 (0,0))∧w9.heap[w5.heap.size]? = some (.cells #[.int .i64 ak,.int .i64 qk] 3 (0,0))∧Bd wb.heap.size (Lk++nm.data.toList++Xj++argL lt ga[j] aj) w9):=by
      have B8:Below wr.heap.size wr w8:=hB7.trans (hB8.mono hB7.size)
      have hbw:wb.heap.size≤wr.heap.size:=Nat.le_of_lt hbdj'.o.lt
      refine ⟨(hP.o.1.trans (B8.mono hbw)).trans hwr9.below,hwr9.kept _ _ _ _ (by decide) (by omega) ((B8.block _ (Array.getElem?_eq_some_iff.1 hP.o.2.1).1).trans hP.o.2.1),hwr9.kept _ _ _ _ (by decide) (by omega) ((B8.block _ (Array.getElem?_eq_some_iff.1 hP.o.2.2.1).1).trans hP.o.2.2.1),?_⟩
      have:=hcat.o
      rw [this] at hbd9
      exact hbd9
     clear hbd9 hwr9 hB7 hB8 hIT hLTj WS p0 p1 sj
     go_wp2
     refine ⟨⟨j+1,by push_cast; first | done | rfl,by omega,⟨hP9.o.1,hP9.o.2.1,hP9.o.2.2.1,?_⟩⟩,by simp only [intOf]; omega⟩
     rw [hX.o,← List.append_assoc]
     exact hP9.o.2.2.2
    ·have hj2:j = 2:=by omega
     subst hj2
     have hbd:=hP.o.2.2.2
     rw [if_neg (by decide),if_neg (by decide)] at hbd
     have hBo:Hd (Below wb.heap.size wc wr):=⟨hP.o.1⟩
     have hlen2:=hlen.o
     have h4:nm.data.toList.length = nm.size:=by rw [Array.length_toList]; rfl
     have WS2:=bd_write wb.heap.size _ ⟨#[10]⟩ wr hbd (by
      have e1:(⟨#[10]⟩:ByteArray).size = 1:=rfl
      rw [e1]; simp only [List.length_append]; omega)
     clear hbd hlen2 h4 hP
     go_upto_region 17 with (first | (go_at_call 28; refine WS2.mono ?_; rintro e w10 ⟨rfl,hbd10,hwr10⟩))
     have hend:Hd (Below wb.heap.size wc w10∧Bd wb.heap.size (List.flatMap (lineL O A Q N G kt lt) (List.take (k+1) code)) w10):=⟨hBo.o.trans hwr10.below,by
      rw [hnx.o]
      simpa only [List.append_assoc] using hbd10⟩
     clear hbd10 hwr10 WS2 hBo
     go_wp2
     exact ⟨⟨k+1,by push_cast; first | done | rfl,by omega,⟨hend.o.1⟩,⟨hend.o.2⟩⟩,by simp only [intOf]; omega⟩
  ·have hkn:k = code.length:=by omega
   subst hkn
   have SS:=bd_string wb.heap.size _ wr hSt.o
   have hf3:Hd (wr.heap[W.heap.size+1]? = some (.cells #[.int .i64 0,.int .i64 0] 31 (0,0))):=⟨(hB.o.block _ (by omega)).trans hb3.o⟩
   have hsz3:W.heap.size+1 < wb.heap.size:=by omega
   go_upto_region 18 with (fail)
   go_wp2_with (go_at_call 31; refine SS.mono ?_; rintro e w11 ⟨rfl,hB11⟩; have hf11:=(hB11.block _ hsz3).trans hf3.o; obtain ⟨f0,f1,fz0,fz1⟩:=box2 hf11; have hf11':Hd _:=⟨hf11⟩; clear hf11)
   refine ret16 rfl rfl (by exact setCell_two hf11'.o) rfl ⟨rfl,?_⟩
   have h1:Below W.heap.size W w11:=hBW.o.trans (hB11.mono (by omega))
   have h2:Below W.heap.size W ((w11.setCell ⟨W.heap.size+1,0,none⟩ (.int .i64 0)).setCell ⟨W.heap.size+1,1,none⟩ (.int .i64 0)):=(h1.setCell (by show W.heap.size≤W.heap.size+1; omega) _).setCell (by show W.heap.size≤W.heap.size+1; omega) _
   exact ⟨h2.os,h2.tape,h2.output,h2.size,h2.block⟩
def textB (O A Q:α→Int) (N G:β→ByteArray) (kt:List β) (lt:Int→ByteArray) (code:List α):ByteArray:=⟨(code.flatMap (lineL O A Q N G kt lt)).toArray⟩
theorem den_sf {C:Nm→Chunk} {ids:Ids} {I:Nat→Prop} {w:World} {s:ByteArray} {a b:Int}:Den Tryd.prog C ids I w (.tup [.v (.string s),.agg [iS a,iS b]]) (.tuple #[.string s,.agg #[.int .i64 a,.int .i64 b]]):=by
 refine .tup _ rfl fun i x hi=>?_
 match i,hi with
 | 0,hi=>cases hi; exact .v
 | 1,hi =>
  cases hi
  refine .agg _ rfl fun i x hi=>?_
  match i,hi with
  | 0,hi=>cases hi; exact .v
  | 1,hi=>cases hi; exact .v
theorem text_spec0 (code:List α) (pipes:List Int) (c l g c0 at0:Int) (hne:c0≠0)
  (hck:SpecW Tryd.prog 10 [.agg [.sl code.length (fl code),iS c,.sl pipes.length (fl pipes),iS l,iS g]] [] 0 (fun x h n=>x = .agg [iS c0,iS at0]∧h = []∧n = 0)) :
  SpecW Tryd.prog 16 [.agg [.sl code.length (fl code),iS c,.sl pipes.length (fl pipes),iS l,iS g]] [] 0 (fun x h n=>x = .tup [.v (.string ByteArray.empty),.agg [iS c0,iS at0]]∧h = []∧n = 0) :=
 spec_belowN (q:=fun r=>r = .tuple #[.string ByteArray.empty,.agg #[.int .i64 c0,.int .i64 at0]]) ⟨_,_,Tryd.func16,rfl,by decide⟩ (by simp only [clL,cl_prog,Bool.and_self]) (fun r hr=>⟨_,rfl,fun _ _ _ _=>by subst hr; exact den_sf⟩)
  fun W I0 hI gl vals hsz hd=>by
   obtain ⟨ls⟩:=vals
   match ls,hsz with
   | [v0],_=>exact (text_w0 code pipes c l g c0 at0 hne hck W I0 hI gl v0 (hd 0 _ rfl)).mono fun e w' he=>⟨⟨_,he.1,rfl⟩,he.2⟩
theorem text_spec (O A Q:α→Int) (hc:∀ x:α,Enc.cells x = [.v (.int .i64 (O x)),.v (.int .i64 (A x)),.v (.int .i64 (Q x))]) (N G:β→ByteArray) (hk:∀ x:β,Enc.cells x = [.v (.string (N x)),.v (.string (G x))]) (kt:List β) (hkt:kindsTab = fl kt) (hkl0:kt.length = 23)
  (lt:Int→ByteArray) (hlt:∀ k,SpecW Tryd.prog 29 [.v (.int .u8 k)] [] 0 (fun x h n=>x = .v (.string (lt k))∧h = []∧n = 0))
  (code:List α) (pipes:List Int) (c l g at0:Int) (hok:TextOk O A Q N G kt lt code)
  (hck:SpecW Tryd.prog 10 [.agg [.sl code.length (fl code),iS c,.sl pipes.length (fl pipes),iS l,iS g]] [] 0 (fun x h n=>x = .agg [iS 0,iS at0]∧h = []∧n = 0)) :
  SpecW Tryd.prog 16 [.agg [.sl code.length (fl code),iS c,.sl pipes.length (fl pipes),iS l,iS g]] [] 0 (fun x h n=>x = .tup [.v (.string (textB O A Q N G kt lt code)),.agg [iS 0,iS 0]]∧h = []∧n = 0) :=
 spec_belowN (q:=fun r=>r = .tuple #[.string (textB O A Q N G kt lt code),.agg #[.int .i64 0,.int .i64 0]]) ⟨_,_,Tryd.func16,rfl,by decide⟩ (by simp only [clL,cl_prog,Bool.and_self]) (fun r hr=>⟨_,rfl,fun _ _ _ _=>by subst hr; exact den_sf⟩)
  fun W I0 hI gl vals hsz hd=>by
   obtain ⟨ls⟩:=vals
   match ls,hsz with
   | [v0],_=>exact (text_w O A Q hc N G hk kt hkt hkl0 lt hlt code pipes c l g at0 hok hck W I0 hI gl v0 (hd 0 _ rfl)).mono fun e w' he=>⟨⟨_,he.1,rfl⟩,he.2⟩
end
end Go.Proofs.YtdckaaiidagodaaDoor
end
