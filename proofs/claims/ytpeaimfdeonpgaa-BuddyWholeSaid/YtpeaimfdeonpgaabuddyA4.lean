/-
 Lemmas, put together: HP, HS, HZ, HV, HW, HU, IG, IA, HR, HT, IB, IC, ID, IE, IF, IJ, IK, buddyF.
 No conditions.
-/
import Derived.Test.YtpeaimfdeonpgaabuddyA3
import Derived.Lib.AppendZerosOnto
import Derived.Lib.Builder
import Derived.Lib.UnsafeStr
import Derived.Shelf.Sort.Plain
import Derived.Shelf.Slices.In.SortNone
import Derived.Shelf.SlSortCmp.NoneTotal
import Derived.Shelf.SlicesG.Cmp
import Derived.Shelf.SlSortCmp.Whole1
import Derived.Defers
import Derived.Test.YtpeaimfdeonpgaabuddyA1
set_option linter.unusedSimpArgs false
set_option linter.unusedVariables false
set_option linter.unusedSectionVars false
section
namespace Go.Sx
open Go.RowKit
set_option linter.unusedVariables false
variable {α:Type} [Enc α] {P:Program} {hp:Hp} {nx:Nat} {fr:Fr} {ops:Array Oper}
def famG (hp:Hp) (F:Nat):Int→Chunk:=fun j=>getH hp (.s F j)
theorem updE_s (F:Nat) (i:Int) (c:Chunk) (hp:Hp):updE (.s F i) c hp = (.s F 0,.fam (upI (famG hp F) i c)):=rfl
theorem famG_t (k:Nat) (c:Chunk) (r:Hp) (F:Nat):famG ((.t k,c)::r) F = famG r F:=rfl
theorem famG_D (D:DE α) (j:Nat) (xs:List α) (G:Nat) (z:Int) (r:Hp) (F:Nat):famG ((.s G z,.fam (famD D j xs))::r) F = bif G == F then famD D j xs else famG r F:=by
 funext q
 simp only [famG,getH,Nm.eqk]
 cases G == F with
 | true=>simp only [cond_true,Chunk.mem]; exact at_famD D j xs q
 | false=>rfl
theorem famG_U (D:DE α) (j:Nat) (xs:List α) (i:Int) (G:Nat) (z:Int) (r:Hp) (F:Nat):famG ((.s G z,.fam (upI (famD D j xs) i .dead))::r) F = bif G == F then upI (famD D j xs) i .dead else famG r F:=by
 funext q
 simp only [famG,getH,Nm.eqk]
 cases G == F with
 | true =>
  simp only [cond_true,Chunk.mem]
  by_cases hq:q = i
  ·subst hq; simp [Chunk.at,upI]
  ·have h:upI (famD D j xs) i .dead q = famD D j xs q:=by unfold upI; rw [show (q == i) = false from by simpa using hq]; rfl
   rw [h]; exact chD_at D j (ixD xs q) _ q h
 | false=>rfl
theorem upI_upI (g:Int→Chunk) (i:Int) (c c':Chunk):upI (upI g i c) i c' = upI g i c':=by
 funext q
 unfold upI
 cases q == i <;> rfl
theorem flD_nil (D:DE α) (Fs:List Nat):flD D Fs [] = []:=rfl
def cellsL (xs:List α):List SV:=fl xs
theorem cellsL_nil:cellsL ([]:List α) = []:=rfl
theorem cellsL_cons (x:α) (xs:List α):cellsL (x::xs) = Enc.cells x++cellsL xs:=rfl
theorem leS_frz0 {hp hp':Hp} {σ:List (Nm×Nm)} {frz:List Nm} {k:Nm} (h:memN frz k = true∧rowIs (getH hp k) []):leS hp hp' σ frz (.own k 0 0) (.sl 0 []) = True:=by
 obtain ⟨h2,h3⟩:=h
 refine eq_true ?_
 simp only [leS]
 refine ⟨trivial,memN_mem h2,?_⟩
 cases hk:getH hp k with
 | row e cs =>
  rw [hk] at h3
  simp only [rowIs] at h3
  subst h3
  exact ⟨e,[],0,rfl,fun _=>rfl,.inl ⟨rfl,rfl⟩⟩
 | _=>rw [hk] at h3; exact h3.elim
theorem renS_cond (τ:Nm→Nm) (b:Bool) (x y:SV):renS τ (bif b then x else y) = bif b then renS τ x else renS τ y:=by cases b <;> rfl
theorem leS_cond {hp hp':Hp} {σ:List (Nm×Nm)} {frz:List Nm} {b:Bool} {x y x' y':SV} (h:leS hp hp' σ frz x x'∧leS hp hp' σ frz y y'):leS hp hp' σ frz (bif b then x else y) (bif b then x' else y') = True:=by
 refine eq_true ?_
 cases b with
 | true=>exact h.1
 | false=>exact h.2
theorem frArgs_cons (i:Nat) (x:SV) (xs:List SV):frArgs i (x::xs) = (i,x)::frArgs (i+1) xs:=rfl
theorem frArgs_nil (i:Nat):frArgs i [] = []:=rfl
attribute [push_cast] leS_frz0 renS_cond leS_cond frArgs_cons frArgs_nil
attribute [push_cast] cellsL_nil cellsL_cons
attribute [push_cast] updE_s famG_t famG_D famG_U upI_upI implies_true flD_nil
def BornL (hp:Hp):List Nm→Prop
 | []=>True
 | k::ks=>bornB (getH hp k) = true∧BornL hp ks
theorem BornL.all {hp:Hp}:∀ {ks:List Nm},BornL hp ks→ks.all (fun k=>bornB (getH hp k)) = true
 | [],_=>rfl
 | k::ks,h=>by rw [List.all_cons,h.1,h.2.all]; rfl
end Go.Sx
end

section
namespace Go.Sx
open Go.RowKit
set_option linter.unusedVariables false
set_option linter.unusedSimpArgs false
variable {P:Program}
end Go.Sx
end

section
namespace Go.Sx
open Go.RowKit
set_option linter.unusedVariables false
set_option linter.unusedSimpArgs false
variable {P:Program} {fr:Fr} {hp:Hp} {nx:Nat}
end Go.Sx
end

section
namespace Go.Sx
open Go.RowKit
set_option linter.unusedVariables false
set_option linter.unusedSimpArgs false
variable {P:Program} {hp hin:Hp} {nx:Nat}
def isT:Nm→Bool
 | .t _=>true
 | _=>false
end Go.Sx
end

section
namespace Go.Sx
open Go.RowKit
set_option linter.unusedVariables false
set_option linter.unusedSimpArgs false
variable {P:Program} {hp:Hp} {nx:Nat}
structure VArr (n:Nat) where
 l:List Int
 h:l.length = n
variable {n:Nat}
theorem VArr.ext:∀ {a b:VArr n},a.l = b.l→a = b
 | ⟨_,_⟩,⟨_,_⟩,h=>by simp only at h; subst h; rfl
instance : DecidableEq (VArr n):=fun a b=>if h:a.l = b.l then .isTrue (VArr.ext h) else .isFalse fun e=>h (e ▸ rfl)
instance : Inhabited (VArr n):=⟨⟨List.replicate n 0,by simp⟩⟩
def VArr.get (a:VArr n) (i:Int):Int:=a.l.getD i.toNat 0
def VArr.set (a:VArr n) (i v:Int):VArr n:=⟨a.l.set i.toNat v,by rw [List.length_set]; exact a.h⟩
def VArr.cells (a:VArr n):List SV:=(List.range n).map fun k=>.v (.int .i64 (a.l.getD k 0))
theorem VArr.cells_fl (a:VArr n):a.cells = a.l.map fun x=>.v (.int .i64 x):=by
 refine List.ext_getElem (by simp [VArr.cells,a.h]) fun i h1 h2=>?_
 simp only [VArr.cells,List.getElem_map,List.getElem_range,List.length_map] at h2 ⊢
 rw [List.getD_eq_getElem?_getD,List.getElem?_eq_getElem h2]; rfl
theorem VArr.st (a:VArr n):stL a.cells = true:=by
 rw [VArr.cells_fl]
 induction a.l with
 | nil=>rfl
 | cons x l ih=>simpa [stL,SV.st] using ih
instance : Enc (VArr n):=⟨n,VArr.cells,fun a=>by simp [VArr.cells],fun a=>by simp [VArr.cells,oneS,Value.oneCell'],VArr.st⟩
theorem VArr.len (a:VArr n):(Enc.cells a).length = n:=Enc.len a
theorem VArr.at (a:VArr n) (e:Int) (k:0≤e∧e < (n:Int)) (d:SV):(Enc.cells a).getD e.toNat d = .v (.int .i64 (a.get e)):=by
 show a.cells.getD e.toNat d = _
 have hl:e.toNat < a.cells.length:=by have:=VArr.len a; show _ < (Enc.cells a).length; omega
 rw [List.getD_eq_getElem?_getD,List.getElem?_eq_getElem hl]
 simp only [VArr.cells,List.getElem_map,List.getElem_range]
 rfl
theorem VArr.put (a:VArr n) (e v:Int) (k:0≤e∧e < (n:Int)):(Enc.cells a).set e.toNat (.v (.int .i64 v)) = Enc.cells (a.set e v):=by
 show a.cells.set _ _ = (a.set e v).cells
 rw [VArr.cells_fl,VArr.cells_fl]
 simp only [VArr.set,List.map_set]
theorem leL_arr {hp hp':Hp} {σ:List (Nm×Nm)} {frz:List Nm} (a:VArr n) (xs ys:List SV):leL hp hp' σ frz (Enc.cells a++xs) (Enc.cells a++ys) = leL hp hp' σ frz xs ys:=by
 refine propext ?_
 show leL hp hp' σ frz (a.cells++xs) (a.cells++ys)↔_
 rw [VArr.cells_fl]
 induction a.l with
 | nil=>exact Iff.rfl
 | cons x l ih =>
  simp only [List.map_cons,List.cons_append,leL]
  rw [ih]
  simp only [leS,true_and]
theorem renL_arr (τ:Nm→Nm) (a:VArr n) (xs:List SV):renL τ (Enc.cells a++xs) = Enc.cells a++renL τ xs:=by
 show renL τ (a.cells++xs) = a.cells++_
 rw [VArr.cells_fl]
 induction a.l with
 | nil=>rfl
 | cons x l ih=>simp only [List.map_cons,List.cons_append,renL,renS,ih]
theorem stL_arr (a:VArr n) (xs:List SV):stL (Enc.cells a++xs) = stL xs:=by
 show stL (a.cells++xs) = _
 rw [VArr.cells_fl]
 induction a.l with
 | nil=>rfl
 | cons x l ih=>simpa [stL,SV.st] using ih
theorem clL_arr (a:VArr n) (xs:List SV):clL (Enc.cells a++xs) = clL xs:=by
 show clL (a.cells++xs) = _
 rw [VArr.cells_fl]
 induction a.l with
 | nil=>rfl
 | cons x l ih=>simpa [clL,SV.cl] using ih
theorem nimL_arr (a:VArr n) (xs:List SV):nimL (Enc.cells a++xs) = nimL xs:=by
 show nimL (a.cells++xs) = _
 rw [VArr.cells_fl]
 induction a.l with
 | nil=>rfl
 | cons x l ih=>simpa [nimL,SV.nim] using ih
theorem nim_VArr (xs:List (VArr n)):nimL (fl xs) = true:=nimL_fl (fun a=>by have:=nimL_arr a []; simpa [nimL] using this) xs
theorem sz_VArr:Enc.sz (VArr n) = n:=rfl
theorem stL_VArr (a:VArr n):stL (Enc.cells a) = true:=Enc.stc a
theorem clL_VArr (a:VArr n):clL (Enc.cells a) = true:=stL_clL (Enc.stc a)
theorem renL_VArr (τ:Nm→Nm) (a:VArr n):renL τ (Enc.cells a) = Enc.cells a:=renL_cl (clL_VArr a)
theorem nimL_VArr (a:VArr n):nimL (Enc.cells a) = true:=by have:=nimL_arr a []; simpa [nimL] using this
theorem leL_VArr {hp hp':Hp} {σ:List (Nm×Nm)} {frz:List Nm} (a:VArr n):leL hp hp' σ frz (Enc.cells a) (Enc.cells a) = True:=by
 have:=leL_arr (hp:=hp) (hp':=hp') (σ:=σ) (frz:=frz) a [] []
 simp only [List.append_nil,leL] at this
 exact this
attribute [push_cast] leL_arr renL_arr stL_arr clL_arr nimL_arr nim_VArr sz_VArr stL_VArr clL_VArr renL_VArr nimL_VArr leL_VArr
def VArr.c0 (a:VArr n):Int:=a.l.getD 0 0
def VArr.c1 (a:VArr n):Int:=a.l.getD 1 0
def VArr.c2 (a:VArr n):Int:=a.l.getD 2 0
def VArr.c3 (a:VArr n):Int:=a.l.getD 3 0
def VArr.c4 (a:VArr n):Int:=a.l.getD 4 0
def VArr.c5 (a:VArr n):Int:=a.l.getD 5 0
end Go.Sx
end

section
namespace Go.Sx
open Go.RowKit
set_option linter.unusedVariables false
set_option linter.unusedSimpArgs false
variable {α β:Type} [Enc α] {P:Program} {hp hp':Hp} {nx:Nat} {σ:List (Nm×Nm)} {frz:List Nm}
def flP (F n:Nat):List SV:=(List.range n).map fun (i:Nat)=>SV.ptr (.s F ((i:Nat):Int)) 0
def famP (t:TypeId) (xs:List α):Int→Chunk:=fun i=>bif decide (0≤i∧i < (xs.length:Int)) then .row t (Enc.cells (ix xs i)) else .void
theorem famP_in {t:TypeId} {xs:List α} {i:Int} (k:0≤i∧i < (xs.length:Int)):famP t xs i = .row t (Enc.cells (ix xs i)):=by
 unfold famP; rw [decide_eq_true k]; rfl
theorem famP_out {t:TypeId} {xs:List α} {i:Int} (k:¬ (0≤i∧i < (xs.length:Int))):famP t xs i = .void:=by
 unfold famP; rw [decide_eq_false k]; rfl
theorem at_famP (t:TypeId) (xs:List α) (i:Int):(Chunk.fam (famP t xs)).at i = famP t xs i:=by
 simp only [Chunk.at]
 by_cases k:0≤i∧i < (xs.length:Int)
 ·rw [famP_in k]
 ·rw [famP_out k]
theorem famP_mem {t:TypeId} {xs:List α} {i:Int} (k:0≤i∧i < (xs.length:Int)):(Chunk.fam (famP t xs)).at i = .row t (Enc.cells (ix xs i)):=(at_famP t xs i).trans (famP_in k)
structure Birth (C C':Nm→Chunk) (Q K R:Nm):Prop where
 vd:C Q = .void
 kl:(C K).live = true
 q:C' Q = C K
 k:C' K = .dead
 oth:∀ j,j≠Q→j≠K→j≠R→C' j = C j
 kr:K≠R
 row:(∃ e cs cs',C R = .row e cs∧C' R = .row e cs'∧cs'.length = cs.length∧∀ (i:Nat) (x y:SV),cs[i]? = some x→cs'[i]? = some y→x = y∨(x = .ptr K 0∧y = .ptr Q 0)) ∨
 ∃es es',C R = .map es∧C' R = .map es'∧es'.length = es.length∧∀ (i:Nat) (x y:Value×SV),es[i]? = some x→es'[i]? = some y→x.1 = y.1∧(x.2 = y.2∨(x.2 = .ptr K 0∧y.2 = .ptr Q 0))
section sem
variable {w0:World} {I0 W0:Nat→Prop} {C C':Nm→Chunk} {Q K R:Nm} {ids:Ids} {w:World}
theorem Birth.liveR (hh:Birth C C' Q K R):(C R).live = true∧(C' R).live = true:=by
 rcases hh.row with ⟨e,cs,cs',h1,h2,_⟩ | ⟨es,es',h1,h2,_⟩ <;> (rw [h1,h2]; exact ⟨rfl,rfl⟩)
theorem Birth.old (hh:Birth C C' Q K R) {j:Nm} {b o:Nat} (hl:(C' j).live = true) (hi:upd ids Q (ids K) j = some (b,o)) :
 ∃k0,(C k0).live = true∧ids k0 = some (b,o)∧((j≠Q∧k0 = j∧j≠K)∨(j = Q∧k0 = K)):=by
 by_cases hQ:j = Q
 ·subst hQ; rw [upd_same] at hi; exact ⟨K,hh.kl,hi,.inr ⟨rfl,rfl⟩⟩
 ·rw [upd_ne _ _ hQ] at hi
  by_cases hK:j = K
  ·subst hK; rw [hh.k] at hl; cases hl
  by_cases hR:j = R
  ·subst hR; exact ⟨j,hh.liveR.1,hi,.inl ⟨hQ,rfl,hK⟩⟩
  ·rw [hh.oth j hQ hK hR] at hl; exact ⟨j,hl,hi,.inl ⟨hQ,rfl,hK⟩⟩
theorem Birth.ext (h:HSt P w0 I0 W0 C ids w) (hh:Birth C C' Q K R):Ext C ids (Im w0 I0 W0 C ids w) w C' (upd ids Q (ids K)) (Im w0 I0 W0 C' (upd ids Q (ids K)) w) w:=by
 refine ⟨fun b hb=>⟨⟨hb.1,hb.2.1,fun k hk o hi=>?_⟩,rfl⟩,fun j hj=>?_,fun j hj=>?_⟩
 ·obtain ⟨k0,h1,h2,_⟩:=hh.old hk hi
  exact hb.2.2 k0 h1 o h2
 ·have hQ:j≠Q:=fun e=>by rw [e,hh.vd] at hj; cases hj
  have hK:j≠K:=fun e=>by have:=hh.kl; rw [← e,hj] at this; cases this
  have hR:j≠R:=fun e=>by have:=hh.liveR.1; rw [← e,hj] at this; cases this
  rw [hh.oth j hQ hK hR]; exact hj
 ·have hQ:j≠Q:=fun e=>by rw [e,hh.vd] at hj; cases hj
  by_cases hK:j = K
  ·subst hK; exact .inl hh.k
  by_cases hR:j = R
  ·subst hR
   rcases hh.row with ⟨e,cs,cs',h1,h2,h3,_⟩ | ⟨es,es',h1,h2,_⟩
   ·exact .inr ⟨hh.liveR.2,upd_ne _ _ hQ,by rw [h1,h2]; exact ⟨rfl,Nat.le_of_eq h3⟩,fun _ _ _=>SameShape.refl _⟩
   ·exact .inr ⟨hh.liveR.2,upd_ne _ _ hQ,by rw [h1,h2]; exact trivial,fun _ _ _=>SameShape.refl _⟩
  ·have h1:=hh.oth j hQ hK hR
   exact .inr ⟨by rw [h1]; exact hj,upd_ne _ _ hQ,by rw [h1]; exact SameKind.refl hj,fun _ _ _=>SameShape.refl _⟩
theorem Birth.den {off:Nat} (h:HSt P w0 I0 W0 C ids w) (hh:Birth C C' Q K R) {x y:SV} {v:Value} (hr:x = y∨(x = .ptr K off∧y = .ptr Q off)) (hd:Den P C ids (Im w0 I0 W0 C ids w) w x v):Den P C' (upd ids Q (ids K)) (Im w0 I0 W0 C' (upd ids Q (ids K)) w) w y v:=by
 rcases hr with rfl | ⟨rfl,rfl⟩
 ·exact hd.mono (hh.ext h)
 ·obtain ⟨b,o,g1,rfl⟩:=den_ptr hd hh.kl
  exact .ptr b o (by rw [hh.q]; exact hh.kl) (by rw [upd_same]; exact g1)
theorem Birth.st (h:HSt P w0 I0 W0 C ids w) (hh:Birth C C' Q K R):HSt P w0 I0 W0 C' (upd ids Q (ids K)) w:=by
 have hE:=hh.ext h
 refine ⟨fun j=>?_,fun k k' b o o' hk hk' hi hi'=>?_,fun k b o hk hi=>?_,h.im0,h.evol,h.os,h.tape,h.output,h.size⟩
 ·by_cases hQ:j = Q
  ·subst hQ; rw [hh.q]; exact DenC.rename hE (h.ch K) (upd_same _ _ _)
  by_cases hK:j = K
  ·subst hK; rw [hh.k]; trivial
  by_cases hR:j = R
  ·subst hR
   have hc:=h.ch j
   rcases hh.row with ⟨e,cs,cs',h1,h2,h3,h4⟩ | ⟨es,es',h1,h2,h3,h4⟩
   ·rw [h1] at hc
    rw [h2]
    simp only [DenC,upd_ne _ _ hQ] at hc ⊢
    cases hid:ids j with
    | none =>
     rw [hid] at hc
     simp only at hc
     subst hc
     exact List.eq_nil_of_length_eq_zero h3
    | some p =>
     obtain ⟨b,o⟩:=p
     rw [hid] at hc
     obtain ⟨arr,ha,hl,hxx⟩:=hc
     refine ⟨arr,ha,by omega,fun i y hi=>?_⟩
     have hlt:=(List.getElem?_eq_some_iff.1 hi).1
     have hi2:=List.getElem?_eq_getElem (show i < cs.length by omega)
     exact hh.den h (h4 i _ y hi2 hi) (hxx i _ hi2)
   ·rw [h1] at hc
    rw [h2]
    simp only [DenC,upd_ne _ _ hQ] at hc ⊢
    obtain ⟨b,arr,clock,g1,g2,g3,g4,hbo⟩:=hc
    refine ⟨b,arr,clock,g1,g2,by omega,fun i y hi=>?_,hbo⟩
    have hlt:=(List.getElem?_eq_some_iff.1 hi).1
    have hi2:=List.getElem?_eq_getElem (show i < es.length by omega)
    obtain ⟨a1,a2⟩:=h4 i _ y hi2 hi
    obtain ⟨b1,b2⟩:=g4 i _ hi2
    exact ⟨b1.trans a1,hh.den h a2 b2⟩
  ·rw [hh.oth j hQ hK hR]; exact DenC.rename hE (h.ch j) (upd_ne _ _ hQ)
 ·obtain ⟨k0,a1,a2,a3⟩:=hh.old hk hi
  obtain ⟨k0',b1,b2,b3⟩:=hh.old hk' hi'
  have:=h.inj k0 k0' b o o' a1 b1 a2 b2
  subst this
  rcases a3 with ⟨_,a3,a4⟩ | ⟨a3,a4⟩ <;> rcases b3 with ⟨_,b3,b4⟩ | ⟨b3,b4⟩
  ·rw [← a3,← b3]
  ·rw [← a3] at a4; exact absurd b4 a4
  ·rw [← b3] at b4; exact absurd a4 b4
  ·rw [a3,b3]
 ·obtain ⟨k0,a1,a2,_⟩:=hh.old hk hi
  exact h.lt k0 b o a1 a2
end sem
theorem famP_live {t:TypeId} {xs:List α} {i:Int} (k:0≤i∧i < (xs.length:Int)):((Chunk.fam (famP t xs)).at i).live = true:=by rw [famP_mem k]; rfl
def lenP (c:Chunk) (m:Nat):Prop:=∀ i:Nat,i < m→(c.at ((i:Nat):Int)).live = true
theorem lenP_famP (t:TypeId) (xs:List α) (m:Nat):lenP (.fam (famP t xs)) m = (m≤xs.length):=by
 refine propext ⟨fun h=>?_,fun h i hi=>famP_live (by omega)⟩
 by_cases hm:m≤xs.length
 ·exact hm
 ·have:=h xs.length (by omega)
  rw [at_famP,famP_out (by omega)] at this
  cases this
theorem lenP_same (t:TypeId) (xs:List α):lenP (.fam (famP t xs)) xs.length = True:=eq_true (by rw [lenP_famP]; exact Nat.le_refl _)
theorem lenP_one (t:TypeId) (x:α):lenP (.fam (famP t [x])) 1 = True:=eq_true (by rw [lenP_famP]; exact Nat.le_refl _)
theorem lenP_app (t:TypeId) (xs:List α) (x:α):lenP (.fam (famP t (xs++[x]))) (xs.length+1) = True:=eq_true (by rw [lenP_famP]; simp)
theorem lenP_set (t:TypeId) (xs:List α) (i:Nat) (x:α):lenP (.fam (famP t (xs.set i x))) xs.length = True:=eq_true (by rw [lenP_famP]; simp)
theorem leL_flP {F F':Nat} {n m:Nat} (h:n = m∧getN σ (.s F' 0) = some (.s F 0)∧lenP (getE hp' (.s F' 0)) m):leL hp hp' σ frz (flP F n) (flP F' m) = True:=by
 obtain ⟨rfl,h1,h2⟩:=h
 refine eq_true (leL_pw ?_)
 have gen:∀ l:List Nat,(∀ i ∈ l,i < n)→Pw (leS hp hp' σ frz) (l.map fun (i:Nat)=>SV.ptr (.s F ((i:Nat):Int)) 0) (l.map fun (i:Nat)=>SV.ptr (.s F' ((i:Nat):Int)) 0):=by
  intro l
  induction l with
  | nil=>intro _; trivial
  | cons a l ih =>
   intro hl
   refine ⟨?_,ih fun i hi=>hl i (by simp [hi])⟩
   have ha:=hl a (by simp)
   simp only [leS]
   refine ⟨getN_s h1 _,trivial,?_⟩
   have h3:=h2 a ha
   cases hg:getE hp' (.s F' 0) with
   | fam g=>rw [getE_fam hg]; rw [hg] at h3; exact h3
   | _=>rw [hg] at h3; cases h3
 exact gen _ fun i hi=>by simpa using hi
theorem leC1_famP {t:TypeId} {xs:List α} {F':Nat} {i:Int} (h:famLe hp σ F' (famP t xs)):leC1 hp hp' σ frz (.s F' i) (famP t xs i) = True:=by
 refine eq_true ?_
 unfold famLe at h
 cases hn:getN σ (.s F' 0) with
 | none=>rw [hn] at h; exact h.elim
 | some k =>
  rw [hn] at h
  simp only at h
  have hs:getN σ (.s F' i) = some (.s k.base i):=by rw [getN_sig σ F' i,hn]; rfl
  have hg:=getE_fam h i
  rw [at_famP] at hg
  by_cases kk:0≤i∧i < (xs.length:Int)
  ·rw [famP_in kk] at hg ⊢
   simp only [leC1,hs,hg]
   exact ⟨trivial,.inl ⟨Enc.stc _,trivial⟩⟩
  ·rw [famP_out kk] at hg ⊢
   simp only [leC1,hs,hg]
theorem ren_famP (τ:Nm→Nm) (t:TypeId) (xs:List α) (i:Int):renC τ (famP t xs i) = famP t xs i:=by
 by_cases kk:0≤i∧i < (xs.length:Int)
 ·rw [famP_in kk]; simp only [renC]; rw [renL_cl (stL_clL (Enc.stc _))]
 ·rw [famP_out kk]; rfl
theorem renL_flP (F n:Nat):renL (bck (getN σ) nx) (flP F n) = flP (bck (getN σ) nx (.s F 0)).base n:=by
 unfold flP
 rw [renL_map,List.map_map]
 refine List.map_congr_left fun i _=>?_
 simp only [Function.comp,renS]
 rw [bck_s (getN_sig σ)]
theorem famG_P (t:TypeId) (xs:List α) (G:Nat) (z:Int) (r:Hp) (F:Nat):famG ((.s G z,.fam (famP t xs))::r) F = bif G == F then famP t xs else famG r F:=by
 funext q
 simp only [famG,getH,Nm.eqk]
 cases G == F with
 | true=>simp only [cond_true,Chunk.mem]; exact at_famP t xs q
 | false=>rfl
theorem leC_famP {t:TypeId} {xs:List α} {F':Nat} {z:Int} (h:famLe hp σ F' (famP t xs)):leC hp hp' σ frz (.s F' z) (.fam (famP t xs)) = True:=by
 refine eq_true fun i=>?_
 rw [at_famP]
 exact of_eq_true (leC1_famP h)
theorem famLe_P (F':Nat) (t:TypeId) (xs:List α):famLe hp σ F' (famP t xs) = match getN σ (.s F' 0) with
 | some k=>getE hp (.s k.base 0) = .fam (famP t xs)
 | none=>False:=propext Iff.rfl
theorem leH_cons (k:Nm) (c:Chunk) (r:Hp):leH hp hp' σ frz ((k,c)::r) = (leC hp hp' σ frz k c∧leH hp hp' σ frz r):=propext Iff.rfl
def noN (σ:List (Nm×Nm)) (F:Nat):Prop:=getN σ (.s F 0) = none
theorem noN_eq (σ:List (Nm×Nm)) (F:Nat):noN σ F = (getN σ (.s F 0) = none):=propext Iff.rfl
theorem leC_famP0 {t:TypeId} {F':Nat} {z:Int} (h:noN σ F'):leC hp hp' σ frz (.s F' z) (.fam (famP t ([]:List α))) = True:=by
 refine eq_true fun i=>?_
 have h:getN σ (.s F' 0) = none:=h
 rw [at_famP,famP_out (by simp <;> omega)]
 have:getN σ (.s F' i) = none:=by rw [getN_sig σ F' i,h]; rfl
 simp only [leC1,this]
theorem flP_0 (F:Nat):flP F 0 = []:=rfl
attribute [push_cast high] leC_famP leC_famP0 leH_cons
attribute [push_cast] noN_eq lenP_same lenP_one lenP_app lenP_set flP_0 ren_famP renL_flP famG_P at_famP famLe_P
end Go.Sx
end

section
namespace Go.Sx
open Go.RowKit
set_option linter.unusedVariables false
set_option linter.unusedSimpArgs false
variable {P:Program}
end Go.Sx
end

section
namespace Go.Sx
open Go.RowKit
set_option linter.unusedVariables false
set_option linter.unusedSimpArgs false
variable {α:Type} [Enc α] {P:Program} {hp hp':Hp} {nx:Nat} {σ:List (Nm×Nm)} {frz:List Nm}
def mpG (F:Nat):Nat→List Int→List (Value×SV)
 | _,[]=>[]
 | n,k::r=>(.int .i64 k,.ptr (.s F (n:Int)) 0)::mpG F (n+1) r
def mpP (F:Nat) (ks:List Int):List (Value×SV):=mpG F 0 ks
section arr
variable {n:Nat}
end arr
theorem stM_mpP (F:Nat) (ks:List Int):stM (mpP F ks) = true→ks = []:=by
 cases ks with
 | nil=>exact fun _=>rfl
 | cons a r=>intro h; simp [mpP,mpG,stM,SV.st] at h
def mapLe (hp hp':Hp) (σ:List (Nm×Nm)) (k' F':Nat) (ks:List Int):Prop:=match getN σ (.t k'),getN σ (.s F' 0) with
 | some k,some j=>(getH hp k = .map (mpP j.base ks)∧j = .s j.base 0)∧lenP (getE hp' (.s F' 0)) ks.length
 | _,_=>False
theorem mapLe_eq (k' F':Nat) (ks:List Int):mapLe hp hp' σ k' F' ks = match getN σ (.t k'),getN σ (.s F' 0) with
 | some k,some j=>(getH hp k = .map (mpP j.base ks)∧j = .s j.base 0)∧lenP (getE hp' (.s F' 0)) ks.length
 | _,_=>False:=propext Iff.rfl
theorem leM_mpG {F F':Nat} (h1:getN σ (.s F' 0) = some (.s F 0)) (N:Nat) (h2:lenP (getE hp' (.s F' 0)) N):∀ (n:Nat) (ks:List Int),n+ks.length≤N→leM hp hp' σ frz (mpG F n ks) (mpG F' n ks)
 | _,[],_=>trivial
 | n,k::r,h=>by
  rw [List.length_cons] at h
  refine ⟨rfl,?_,leM_mpG h1 N h2 (n+1) r (by omega)⟩
  simp only [leS]
  refine ⟨getN_s h1 _,trivial,?_⟩
  have h3:=h2 n (by omega)
  cases hg:getE hp' (.s F' 0) with
  | fam g=>rw [getE_fam hg]; rw [hg] at h3; exact h3
  | _=>rw [hg] at h3; cases h3
theorem leC_mpP {k' F':Nat} {ks:List Int} (h:mapLe hp hp' σ k' F' ks):leC hp hp' σ frz (.t k') (.map (mpP F' ks)) = True:=by
 refine eq_true ?_
 unfold mapLe at h
 show leC1 hp hp' σ frz (.t k') (.map (mpP F' ks))
 simp only [leC1]
 cases hk:getN σ (.t k') with
 | none=>rw [hk] at h; exact h.elim
 | some k =>
  cases hj:getN σ (.s F' 0) with
  | none=>rw [hk,hj] at h; exact h.elim
  | some j =>
   rw [hk,hj] at h
   obtain ⟨⟨h1,h2⟩,h3⟩:=h
   simp only [h1]
   cases hs:stM (mpP F' ks) with
   | true =>
    have:=stM_mpP F' ks hs
    subst this
    rfl
   | false=>exact leM_mpG (by rw [hj,h2]; rfl) ks.length h3 0 ks (by omega)
theorem leM_app {hp hp':Hp}:∀ {xs ys us vs:List (Value×SV)},leM hp hp' σ frz xs ys→leM hp hp' σ frz us vs→leM hp hp' σ frz (xs++us) (ys++vs)
 | [],[],_,_,_,h=>h
 | [],_::_,_,_,h,_=>h.elim
 | _::_,[],_,_,h,_=>h.elim
 | a::r,b::s,_,_,h,g=>⟨h.1,h.2.1,leM_app h.2.2 g⟩
def mapLe1 (hp hp':Hp) (σ:List (Nm×Nm)) (k' F' j':Nat) (ks:List Int) (q:Int):Prop:=match getN σ (.t k'),getN σ (.s F' 0),getN σ (.t j') with
 | some k,some j,some i=>(getH hp k = .map (mpP j.base ks++[(.int .i64 q,.ptr i 0)])∧j = .s j.base 0)∧lenP (getE hp' (.s F' 0)) ks.length∧(getH hp' (.t j')).live = true
 | _,_,_=>False
theorem mapLe1_eq (k' F' j':Nat) (ks:List Int) (q:Int):mapLe1 hp hp' σ k' F' j' ks q = match getN σ (.t k'),getN σ (.s F' 0),getN σ (.t j') with
 | some k,some j,some i=>(getH hp k = .map (mpP j.base ks++[(.int .i64 q,.ptr i 0)])∧j = .s j.base 0)∧lenP (getE hp' (.s F' 0)) ks.length∧(getH hp' (.t j')).live = true
 | _,_,_=>False:=propext Iff.rfl
theorem leC_mpP1 {k' F' j':Nat} {ks:List Int} {q:Int} (h:mapLe1 hp hp' σ k' F' j' ks q):leC hp hp' σ frz (.t k') (.map (mpP F' ks++[(.int .i64 q,.ptr (.t j') 0)])) = True:=by
 refine eq_true ?_
 unfold mapLe1 at h
 show leC1 hp hp' σ frz (.t k') (.map (mpP F' ks++[(.int .i64 q,.ptr (.t j') 0)]))
 simp only [leC1]
 cases hk:getN σ (.t k') with
 | none=>rw [hk] at h; exact h.elim
 | some k =>
  cases hj:getN σ (.s F' 0) with
  | none=>rw [hk,hj] at h; exact h.elim
  | some j =>
   cases hi:getN σ (.t j') with
   | none=>rw [hk,hj,hi] at h; exact h.elim
   | some i =>
    rw [hk,hj,hi] at h
    obtain ⟨⟨h1,h2⟩,h3,h4⟩:=h
    simp only [h1]
    have hs:stM (mpP F' ks++[(Value.int .i64 q,SV.ptr (.t j') 0)]) = false:=by
     induction mpP F' ks with
     | nil=>rfl
     | cons a l ih=>simp only [List.cons_append,stM,ih,Bool.and_false]
    rw [hs,cond_false]
    refine leM_app (leM_mpG (by rw [hj,h2]; rfl) ks.length h3 0 ks (by omega)) ⟨rfl,?_,trivial⟩
    simp only [leS]
    exact ⟨hi,trivial,h4⟩
theorem ren_mpG (τ:Nm→Nm) (F F':Nat) (h:∀ i,τ (.s F i) = .s F' i):∀ (n:Nat) (ks:List Int),(mpG F n ks).map (fun p=>(p.1,renS τ p.2)) = mpG F' n ks
 | _,[]=>rfl
 | n,k::r=>by simp only [mpG,List.map_cons,renS,h,ren_mpG τ F F' h (n+1) r]
theorem ren_mpP (F:Nat) (ks:List Int):renC (bck (getN σ) nx) (.map (mpP F ks)) = .map (mpP (bck (getN σ) nx (.s F 0)).base ks):=by
 simp only [renC]
 congr 1
 exact ren_mpG _ _ _ (fun i=>bck_s (getN_sig σ) nx F i) 0 ks
theorem ren_mpP1 (F:Nat) (ks:List Int) (q:Int) (k:Nm):renC (bck (getN σ) nx) (.map (mpP F ks++[(.int .i64 q,.ptr k 0)])) = .map (mpP (bck (getN σ) nx (.s F 0)).base ks++[(.int .i64 q,.ptr (bck (getN σ) nx k) 0)]):=by
 simp only [renC,List.map_append,List.map_cons,List.map_nil,renS]
 congr 2
 exact ren_mpG _ _ _ (fun i=>bck_s (getN_sig σ) nx F i) 0 ks
attribute [push_cast high] leC_mpP leC_mpP1 ren_mpP ren_mpP1
attribute [push_cast] mapLe_eq mapLe1_eq
end Go.Sx
end

section
namespace Go.Sx
open Go.RowKit
set_option linter.unusedVariables false
set_option linter.unusedSimpArgs false
variable {P:Program} {X:Cx} {hp:Hp} {ids:Ids} {w:World}
theorem heap_on (h:HeapC X hp ids w) {w':World} (hz:w.heap.size≤w'.heap.size) (hb:∀ b,b < w.heap.size→w'.heap[b]? = w.heap[b]?) (h1:w'.os = w.os) (h2:w'.tape = w.tape) (h3:w'.output = w.output) (h4:w.drawn≤w'.drawn) :
  HeapC X hp ids w'∧ExtX X hp ids w hp ids w':=by
 have hE:ExtX X hp ids w hp ids w':=by
  refine ⟨fun d hd=>?_,fun _ h=>h,fun k hl=>.inr ⟨hl,rfl,SameKind.refl hl,fun b o hid=>SameShape.of_eq (hb b (h.st.lt k b o hl hid).1)⟩⟩
  obtain ⟨a1,a2,a3⟩:=hd
  exact ⟨⟨a1,by omega,a3⟩,hb d a2⟩
 refine ⟨⟨⟨fun k=>?_,h.st.inj,fun k b o hl hid=>?_,h.st.im0,fun b hb0 hW=>?_,h1.trans h.st.os,⟨h2.trans h.st.tape.1,Nat.le_trans h.st.tape.2 h4⟩,h3.trans h.st.output,by have:=h.st.size; omega⟩,fun k hk h0 hl=>(h.kept k hk h0 hl).step hE hl hl,h.nov⟩,hE⟩
 ·by_cases hl:(getH hp k).live = true
  ·exact (h.st.ch k).mono hE rfl fun b o hid=>hb b (h.st.lt k b o hl hid).1
  ·cases hc:getH hp k with
   | unborn=>trivial
   | void=>trivial
   | dead=>trivial
   | fam g=>trivial
   | row e cs=>rw [hc] at hl; exact absurd rfl hl
   | map es=>rw [hc] at hl; exact absurd rfl hl
   | obj s p=>rw [hc] at hl; exact absurd rfl hl
 ·obtain ⟨a1,a2⟩:=h.st.lt k b o hl hid
  exact ⟨by omega,a2⟩
 ·rw [hb b (by have:=h.st.size; omega)]; exact h.st.evol b hb0 hW
theorem row_sorted {e:TypeId} {cs cs':List SV} {vs:List Value} (h:HeapF X [(0,.row e cs)] 1 X.ids0 X.w0) {b o:Nat} {arr arr':Array Value} (hid:X.ids0 0 = some (b,o)) (hw:X.w0.heap[b]? = some (.cells arr e (0,0))) (hl:o+cs.length≤arr.size)
  (hc':cs' = vs.map SV.v) (hlen:cs'.length = cs.length) {w':World} (hz:X.w0.heap.size≤w'.heap.size) (hb:∀ c,c < X.w0.heap.size→c≠b→w'.heap[c]? = X.w0.heap[c]?) (hw':w'.heap[b]? = some (.cells arr' e (0,0))) (hs:arr'.size = arr.size)
  (hv:∀ j,j < vs.length→arr'.getD (o+j) undef = vs.getD j undef) (h1:w'.os = X.w0.os) (h2:w'.tape = X.w0.tape) (h3:w'.output = X.w0.output) (h4:X.w0.drawn≤w'.drawn):HeapF X [(0,.row e cs')] 1 X.ids0 w':=by
 have ht:=heap_turn h.toX (k:=0) (cs:=cs) (cs':=cs') rfl hid hw hs (by rw [hlen]; exact hl) (by rw [hlen]; exact Nat.le_refl _) (fun i x hi=>by
  subst hc'
  rw [List.getElem?_map] at hi
  cases hvi:vs[i]? with
  | none=>rw [hvi] at hi; cases hi
  | some u =>
   rw [hvi] at hi; cases hi
   rw [hv i (List.getElem?_eq_some_iff.1 hvi).1,List.getD_eq_getElem?_getD,hvi]
   exact .v)
 have hat:=setRow_heap X.w0 b arr arr' e (0,0) hw
 have ho:=heap_on ht.1 (w':=w') (by simpa [World.setRow] using hz) (fun c hc=>by
  have hc':c < X.w0.heap.size:=by simpa [World.setRow] using hc
  by_cases e1:c = b
  ·subst e1; rw [hw',hat]
  ·rw [hb c hc' e1,setRow_other _ _ _ _ e1]) (by rw [h1]; rfl) (by rw [h2]; rfl) (by rw [h3]; rfl) h4
 refine ⟨ho.1.congr ?_,fun k hk=>?_,h.m_le⟩
 ·funext j
  match j with
  | .t 0=>rfl
  | .t (j+1)=>rfl
  | .s F i=>rfl
 ·match k,hk with
  | .t (j+1),_=>rfl
  | .s F i,_=>rfl
theorem heap_modify_get (w:World) (blk c:Nat) (f:Array Value→Array Value) (h:c≠blk):(Go.Sort.mapBlock w blk f).heap[c]? = w.heap[c]?:=by
 unfold Go.Sort.mapBlock
 simp only [Array.getElem?_modify]
 rw [if_neg (fun e=>h e.symm)]
theorem vals1 {vals:Array Value} (h:vals.size = 1):∃ a,vals = #[a]:=by
 obtain ⟨l⟩:=vals
 match l,h with
 | [a],_=>exact ⟨a,rfl⟩
end Go.Sx
end

section
namespace Go.Sx
open Go.RowKit
set_option linter.unusedVariables false
set_option linter.unusedSimpArgs false
variable {P:Program}
def sortF {α:Type} [Inhabited α] (cf:α→α→Int) (xs:List α):List α:=(Go.Sort.pdq (Go.Proofs.ltOf cf) xs.toArray 0 xs.length (Go.Lib.bitLen xs.length) true true).toList
theorem sortF_perm {α:Type} [Inhabited α] {cf:α→α→Int} (hO:Go.Sort.SWO (Go.Proofs.ltOf cf)) (xs:List α):(sortF cf xs).Perm xs∧∀ i j,i < j→j < xs.length→Go.Proofs.ltOf cf (sortF cf xs)[j]! (sortF cf xs)[i]! = false:=by
 obtain ⟨h1,h2⟩:=Go.Sort.pdq_sorts (Go.Proofs.ltOf cf) hO xs.toArray 0 xs.length (Go.Lib.bitLen xs.length) true true (Nat.zero_le _) (by simp) (Or.inl rfl)
 unfold sortF
 generalize Go.Sort.pdq (Go.Proofs.ltOf cf) xs.toArray 0 xs.length (Go.Lib.bitLen xs.length) true true = d at *
 obtain ⟨a1,a2,a3⟩:=h1
 constructor
 ·have e1:d.extract 0 xs.length = d:=by
   rw [show xs.length = d.size by simpa using a1.symm]; simp
  have e2:xs.toArray.extract 0 xs.length = xs.toArray:=by simp
  rw [e1,e2] at a3
  simpa using a3
 ·intro i j hij hj
  have:=h2 i j (Nat.zero_le _) hij hj
  have hs:d.size = xs.length:=by simpa using a1
  simpa [hs,hj,show i < xs.length by omega] using this
theorem sortF_len {α:Type} [Inhabited α] {cf:α→α→Int} (hO:Go.Sort.SWO (Go.Proofs.ltOf cf)) (xs:List α):(sortF cf xs).length = xs.length:=(sortF_perm hO xs).1.length_eq
theorem fl_vals' {α:Type} [Enc α] (enc:α→List Value) (hc:∀ x:α,Enc.cells x = (enc x).map SV.v) (xs:List α):fl xs = (xs.flatMap enc).map SV.v:=by
 induction xs with
 | nil=>rfl
 | cons x xs ih=>rw [fl_cons,ih,hc]; simp
theorem flatK_flat {α:Type} [Inhabited α] (enc:α→List Value) (k:Nat) (hk:∀ x,(enc x).length = k) (hp:0 < k) (xs:List α):Go.Sort.flatK enc k xs.toArray = (xs.flatMap enc).toArray:=by
 have hlen:(xs.flatMap enc).length = xs.length * k:=by
  induction xs with
  | nil=>simp
  | cons x xs ih=>simp only [List.flatMap_cons,List.length_append,ih,hk,List.length_cons,Nat.add_mul,Nat.one_mul]; omega
 have hget:∀ (xs:List α) (t:Nat),t < xs.length * k→(xs.flatMap enc)[t]? = some (enc (xs[t / k]!))[t % k]!:=fun xs=>by
  induction xs with
  | nil=>intro t ht; simp at ht
  | cons x xs ih =>
   intro t ht
   rw [List.flatMap_cons]
   by_cases h:t < k
   ·rw [List.getElem?_append_left (by rw [hk]; exact h),Nat.div_eq_of_lt h,Nat.mod_eq_of_lt h]
    simp only [List.getElem!_cons_zero]
    rw [List.getElem?_eq_getElem (by rw [hk]; exact h),getElem!_pos _ t (by rw [hk]; exact h)]
   ·rw [List.getElem?_append_right (by rw [hk]; omega),hk,ih (t - k) (by simp only [List.length_cons,Nat.add_mul,Nat.one_mul] at ht; omega)]
    have e:t = (t - k)+k:=by omega
    have e1:t / k = (t - k) / k+1:=by
     conv=>lhs; rw [e]
     rw [Nat.add_div_right _ hp]
    have e2:t % k = (t - k) % k:=by
     conv=>lhs; rw [e]
     rw [Nat.add_mod_right]
    rw [e1,e2,List.getElem!_cons_succ]
 apply Array.ext
 ·simp [hlen]
 ·intro i h1 h2
  have hi:i < xs.length * k:=by simpa using h1
  have:=Go.Sort.get_flatK enc k xs.toArray i (by simpa using hi)
  rw [getElem!_pos _ i h1] at this
  rw [this]
  have h3:=hget xs i hi
  have h4:i < (xs.flatMap enc).length:=by simpa using h2
  rw [List.getElem?_eq_getElem h4] at h3
  simp only [List.getElem_toArray]
  rw [Option.some.inj h3]
  simp
theorem sortF_spec {α:Type} [Enc α] {f g:FuncId} {e:TypeId} (enc:α→List Value) (k:Nat) (hk:∀ x,(enc x).length = k) (hp:0 < k) (hc:∀ x:α,Enc.cells x = (enc x).map SV.v) (cf:α→α→Int) (hO:Go.Sort.SWO (Go.Proofs.ltOf cf))
  (hfn : ∃ fn body, P.funcs[f]? = some fn ∧ fn.body = some body ∧ fn.name ≠ "runtime.NumGoroutine")
  (hS:∀ (blk off cap:Nat) (d:Array α) (w:World),Go.Sort.HoldsK enc k w blk off d→blk < w.heap.size→d.size < 4611686018427387904 →
   Calls P f #[.slice (some ⟨blk,off,none⟩) d.size cap,.func (.func g) #[] #[]] w fun e w'=>e = .returned (.tuple #[])∧∃ n os,w' = Go.Proofs.sortWorldK enc k w blk off n (Go.Sort.pdq (Go.Proofs.ltOf cf) d 0 d.size (Go.Lib.bitLen d.size) true true) os)
  (h0:∀ (p:Option Addr) (cap:Nat) (w:World),Calls P f #[.slice p 0 cap,.func (.func g) #[] #[]] w fun e w'=>e = .returned (.tuple #[])∧w' = w)
  (xs:List α) (hb:xs.length < 4611686018427387904) :
  SpecW P f [.own 0 0 xs.length,.v (.func (.func g) #[] #[])] [(0,.row e (fl xs))] 1 (fun x h n=>x = .tup []∧h = [(0,.row e (fl (sortF cf xs)))]∧n = 1):=by
 refine ⟨hfn,fun X vals hP hm hdf hF hsz hd=>?_⟩
 subst hP
 obtain ⟨v0,v1,rfl⟩:∃ a b,vals = #[a,b]:=by
  obtain ⟨l⟩:=vals
  match l,hsz with
  | [a,b],_=>exact ⟨a,b,rfl⟩
 have hd0:DenX X _ X.ids0 X.w0 (.own 0 0 xs.length) v0:=hd 0 _ rfl
 have hd1:DenX X _ X.ids0 X.w0 (.v (.func (.func g) #[] #[])) v1:=hd 1 _ rfl
 have hv1:=den_v hd1
 subst hv1
 have hl0:(getH [(0,Chunk.row e (fl xs))] 0).live = true:=rfl
 obtain ⟨a,c,rfl,hnc,hcm,hcs0,hor⟩:=den_own hd0 hl0
 have fin:∀ w',HeapF X [(0,.row e (fl (sortF cf xs)))] 1 X.ids0 w'→∃ r res hp' nx' ids',Ending.returned (.tuple #[]) = .returned r∧(res = .tup []∧hp' = [(0,.row e (fl (sortF cf xs)))]∧nx' = 1)∧HeapF X hp' nx' ids' w'∧DenX X hp' ids' w' res r :=
  fun w' hF'=>⟨_,_,_,_,X.ids0,rfl,⟨rfl,rfl,rfl⟩,hF',.tup _ rfl fun i x hi=>by simp at hi⟩
 by_cases hn:xs.length = 0
 ·have hx:xs = []:=List.length_eq_zero_iff.1 hn
  subst hx
  refine (h0 a c X.w0).mono ?_
  rintro ex w' ⟨rfl,rfl⟩
  have e0:sortF cf ([]:List α) = []:=List.length_eq_zero_iff.1 (sortF_len hO [])
  exact fin _ (by rw [e0]; exact hF)
 ·rcases hor with ⟨h,_⟩ | ⟨b,o,e',cs,arr,hC,hid,rfl,hw,hsz2⟩
  ·exact absurd h hn
  ·have hC':Chunk.row e (fl xs) = .row e' cs:=hC
   cases hC'
   have hc':=hF.st.ch 0
   have hgc:getH [(0,Chunk.row e (fl xs))] 0 = .row e (fl xs):=rfl
   rw [hgc] at hc'
   simp only [DenC,hid] at hc'
   obtain ⟨arr',ha,hl,hx⟩:=hc'
   rw [hw] at ha; cases ha
   have hfv:=fl_vals' enc hc xs
   have hcell:∀ j,(hj:j < (xs.flatMap enc).length)→arr.getD (o+j) undef = (xs.flatMap enc)[j]:=fun j hj=>by
    have h2:(fl xs)[j]? = some (.v (xs.flatMap enc)[j]):=by rw [hfv]; simp [hj]
    exact den_v (hx j _ h2)
   have hfl:(fl xs).length = (xs.flatMap enc).length:=by rw [hfv]; simp
   have hH:Go.Sort.HoldsK enc k X.w0 b (o+0) xs.toArray:=by
    unfold Go.Sort.HoldsK
    rw [flatK_flat enc k hk hp]
    intro j hj
    have hcell':=hcell
    have hfl':=hfl
    generalize xs.flatMap enc = ys at hcell' hfl' hj ⊢
    have hj':j < ys.length:=by simpa using hj
    have h1:=hcell' j hj'
    constructor
    ·simp only [World.cell?,hw]
     rw [Array.getD_eq_getD_getElem?,Array.getElem?_eq_getElem (by omega)] at h1
     simp only [Nat.add_zero]
     simp only [Option.getD_some] at h1
     simp [Array.getElem?_eq_getElem (show o+j < arr.size by omega),h1,hj']
    ·simp [World.frozen?,hw]
   have hblk:=(hF.st.lt 0 b o hl0 hid).1
   have hcall:=hS b (o+0) c xs.toArray X.w0 hH hblk (by simpa using hb)
   have hsz':xs.toArray.size = xs.length:=by simp
   rw [hsz'] at hcall
   refine hcall.mono ?_
   rintro ex w' ⟨rfl,n,os,rfl⟩
   refine fin _ ?_
   have hsl:(sortF cf xs).length = xs.length:=sortF_len hO xs
   have hd':Go.Sort.pdq (Go.Proofs.ltOf cf) xs.toArray 0 xs.length (Go.Lib.bitLen xs.length) true true = (sortF cf xs).toArray:=by unfold sortF; simp
   rw [hd']
   have hfs:=fl_vals' enc hc (sortF cf xs)
   have hlen2:∀ ys:List α,(ys.flatMap enc).length = ys.length * k:=fun ys=>by
    induction ys with
    | nil=>simp
    | cons x ys ih=>simp only [List.flatMap_cons,List.length_append,ih,hk,List.length_cons,Nat.add_mul,Nat.one_mul]; omega
   have hll:((sortF cf xs).flatMap enc).length = (xs.flatMap enc).length:=by rw [hlen2,hlen2,hsl]
   have hpr:Go.Proofs.sortWorldK enc k X.w0 b (o+0) n (sortF cf xs).toArray os = Go.Sort.grow (Go.Sort.putRow id (Go.Sort.ahead X.w0 n) b (o+0) ((sortF cf xs).flatMap enc).toArray) os:=by
    unfold Go.Proofs.sortWorldK Go.Sort.putRowK
    rw [flatK_flat enc k hk hp]
   rw [hpr]
   have hm:(Go.Sort.putRow id (Go.Sort.ahead X.w0 n) b (o+0) ((sortF cf xs).flatMap enc).toArray).heap[b]? = some (.cells (Go.Sort.putCells id (o+0) ((sortF cf xs).flatMap enc).toArray arr) e (0,0)):=by
    unfold Go.Sort.putRow Go.Sort.mapBlock Go.Sort.ahead
    simp only [Array.getElem?_modify,if_true,hw,Option.map_some]
    rfl
   have hps:(Go.Sort.putRow id (Go.Sort.ahead X.w0 n) b (o+0) ((sortF cf xs).flatMap enc).toArray).heap.size = X.w0.heap.size:=by
    unfold Go.Sort.putRow Go.Sort.mapBlock Go.Sort.ahead
    simp
   refine row_sorted hF (vs:=(sortF cf xs).flatMap enc) hid hw hl hfs (by rw [hfs,hfv,List.length_map,List.length_map,hll]) ?_ (fun q hq hqb=>?_) (arr':=Go.Sort.putCells id (o+0) ((sortF cf xs).flatMap enc).toArray arr) ?_ ?_ (fun j hj=>?_) rfl rfl rfl (Nat.le_add_right _ _)
   ·unfold Go.Sort.grow
    simp only [Array.size_append,hps]; omega
   ·unfold Go.Sort.grow
    simp only
    rw [Array.getElem?_append_left (by rw [hps]; exact hq)]
    exact heap_modify_get _ _ _ _ hqb
   ·unfold Go.Sort.grow
    simp only
    rw [Array.getElem?_append_left (by rw [hps]; exact hblk)]
    exact hm
   ·simp [Go.Sort.putCells]
   ·have hjx:j < (xs.flatMap enc).length:=by omega
    generalize (sortF cf xs).flatMap enc = zs at hj ⊢
    simp only [Go.Sort.putCells,Array.getD_eq_getD_getElem?,Array.getElem?_mapIdx,Nat.add_zero]
    rw [Array.getElem?_eq_getElem (show o+j < arr.size by omega)]
    simp [hj,List.getD_eq_getElem?_getD]
end Go.Sx
end

section
namespace Go.Sx
open Go.RowKit
set_option linter.unusedVariables false
set_option linter.unusedSimpArgs false
variable {P:Program}
theorem TabOk.on {I I':Nat→Prop} {w w':World} (h:TabOk P I w) (hI:∀ b,I b→I' b∧w'.heap[b]? = w.heap[b]?):TabOk P I' w':=fun g cs hc=>by
 obtain ⟨h1,h2⟩:=h g cs hc
 refine ⟨(hI g h1).1,fun i x hi=>?_⟩
 obtain ⟨y,h3,h4⟩:=h2 i x hi
 exact ⟨y,(cell_eq (hI g h1).2).trans h3,h4.mono (fun b hb=>(hI b hb).1) fun b hb i=>cell_eq (hI b hb).2⟩
end Go.Sx
end

section
namespace Go.Sx
open Go.RowKit
set_option linter.unusedVariables false
set_option linter.unusedSimpArgs false
variable {P:Program} {fr:Fr} {hp:Hp} {nx:Nat} {ops:Array Oper}
def VArr.cut {n:Nat} (A:VArr n) (a b:Int):List Int:=(A.l.drop a.toNat).take (b.toNat - a.toNat)
theorem VArr.cut_len {n:Nat} (A:VArr n) {a b:Int} (h:0≤a∧a≤b∧b≤(n:Int)):(A.cut a b).length = b.toNat - a.toNat:=by
 have:=A.h
 simp only [VArr.cut,List.length_take,List.length_drop]; omega
end Go.Sx
end

section
namespace Go.Sx
open Go.RowKit
set_option linter.unusedVariables false
set_option linter.unusedSimpArgs false
def svV:SV→Value
 | .v x=>x
 | _=>undef
class KeyE (K:Type) [Enc K] [DecidableEq K] where
 L:List TypeDesc
 op:∀ k:K,plainA (Enc.cells k) = some ((Enc.cells k).map svV)
 fits:∀ k:K,leavesV L ((Enc.cells k).map svV) = true
 eq:∀ a b:K,eqLs ((Enc.cells a).map svV) ((Enc.cells b).map svV) = (a == b)
variable {K:Type} [Enc K] [DecidableEq K] [KeyE K]
def kV (k:K):Value:=.agg ((Enc.cells k).map svV).toArray
def mE (m:List (K×Int)):List (Value×SV):=m.map fun p=>(kV p.1,.v (.int .i64 p.2))
omit [DecidableEq K] [KeyE K] in
theorem stM_mE (m:List (K×Int)):stM (mE m) = true:=by
 induction m with
 | nil=>rfl
 | cons p r ih=>simp only [mE,List.map_cons,stM,SV.st,Bool.true_and]; exact ih
omit [DecidableEq K] [KeyE K] in
@[push_cast] theorem ren_mE (τ:Nm→Nm) (m:List (K×Int)):(mE m).map (fun p=>(p.1,renS τ p.2)) = mE m:=by
 simp [mE,renS,Function.comp_def]
attribute [push_cast] stM_mE
omit [DecidableEq K] [KeyE K] in
@[push_cast] theorem mE_nil:mE ([]:List (K×Int)) = []:=rfl
end Go.Sx
end

section
namespace Go.Sx
open Go.RowKit
set_option linter.unusedVariables false
set_option linter.unusedSimpArgs false
variable {P:Program} {fr:Fr} {hp:Hp} {nx:Nat} {ops:Array Oper}
variable {n:Nat}
theorem VArr.vals (a:VArr n):(Enc.cells a).map svV = a.l.map fun x=>Value.int .i64 x:=by
 show (VArr.cells a).map svV = _
 rw [VArr.cells_fl,List.map_map]; rfl
end Go.Sx
end

section
namespace Go.Sx
open Go.RowKit
set_option linter.unusedVariables false
set_option linter.unusedSimpArgs false
structure PT (α:Type) where
 x:α
instance {α:Type} [Enc α]:Inhabited (PT α):=⟨⟨default⟩⟩
instance {α:Type} [Enc α]:Enc (PT α):=⟨1,fun p=>[.iptr (Enc.cells p.x) 0],fun _=>rfl,fun _=>rfl,fun p=>by simp only [stL,SV.st,Enc.stc,Bool.and_self]⟩
@[push_cast] theorem sz_PT {α:Type} [Enc α]:Enc.sz (PT α) = 1:=rfl
@[push_cast] theorem cells_PT {α:Type} [Enc α] (p:PT α):Enc.cells p = [.iptr (Enc.cells p.x) 0]:=rfl
variable {α:Type} [Enc α] {hp hp':Hp} {σ:List (Nm×Nm)} {frz:List Nm}
end Go.Sx
end

section
namespace Go.Sx
set_option linter.unusedVariables false
set_option linter.unusedSimpArgs false
open Go.RowKit
variable {hp:Hp} {nx:Nat} {ids:Ids} {w:World}
theorem Kept.df {X:Cx} {hp':Nm→Chunk} {ids':Ids} {w':World} {k:Nm} (h:Kept X hp' ids' w' k) (ds:List Deferred) (kp:List (Nat×Value)):Kept { X with df:=ds,kp:=kp } hp' ids' w' k:=⟨h.id,h.kind,h.shape⟩
theorem HeapF.df {X:Cx} (h:HeapF X hp nx ids w) (ds:List Deferred) (kp:List (Nat×Value)):HeapF { X with df:=ds,kp:=kp } hp nx ids w:=⟨⟨h.st,fun k h1 h2 h3=>(h.kept k h1 h2 h3).df ds kp,h.nov⟩,h.fresh,h.m_le⟩
attribute [push_cast] leS_erer leS_ernil leS_erpan
@[push_cast] theorem ren_er (τ:Nm→Nm) (a b c:Nat) (e:Err):renS τ (.er a b c e) = .er a b c e:=by unfold renS; rfl
theorem ex_row0 (e d:TypeId) (a b:Int) (h:Chunk.row e [iS a] = .row d [.v (.int .i64 b)]):a = b:=by
 have h2:e = d∧a = b:=by simpa [iS] using h
 exact h2.2
@[push_cast] theorem ex_row (e:TypeId) (a b:Int):(∃ d,Chunk.row e [iS a] = .row d [.v (.int .i64 b)]) = (a = b) :=
 propext ⟨fun ⟨d,h⟩=>ex_row0 e d a b h,fun h=>by subst h; exact ⟨e,rfl⟩⟩
def Err.val:Err→Int
 | .pan v=>v
 | _=>0
end Go.Sx
end

section
namespace Go.Sx
set_option linter.unusedVariables false
set_option linter.unusedSimpArgs false
open Go.RowKit
variable {P:Program} {X:Cx} {hp hp':Hp} {nx:Nat} {ids:Ids} {w:World}
def Shorter (c c':Chunk):Prop:=c' = c∨∃ e cs n,c = .row e cs∧c' = .row e (cs.take n)
theorem Shorter.live {c c':Chunk} (h:Shorter c c'):c'.live = c.live:=by
 rcases h with rfl | ⟨e,cs,n,rfl,rfl⟩ <;> rfl
section
variable {α:Type} [Enc α]
end
end Go.Sx
end

section
namespace Go.Proofs.Ytpeaimfdeonpgaa
open Go Go.Sx
set_option linter.unusedVariables false
theorem vals1 {vals:Array Value} (h:vals.size = 1):∃ a,vals = #[a]:=by
 obtain ⟨l⟩:=vals
 match l,h with
 | [a],_=>exact ⟨a,rfl⟩
theorem vals2 {vals:Array Value} (h:vals.size = 2):∃ a b,vals = #[a,b]:=by
 obtain ⟨l⟩:=vals
 match l,h with
 | [a,b],_=>exact ⟨a,b,rfl⟩
theorem row_own {X:Cx} (hm:X.m = 0) (hF:HeapF X [] 0 X.ids0 X.w0) {w':World} (hA:Ah X.w0 w') {e:TypeId} {z:Nat} (hz:X.P.cellsOf e = z) {v:Value} {n:Nat} {xs:List Value} (hrow:w'.ownsRow X.w0.heap.size e z v n xs) :
 ∃ids',HeapF X [(0,.row e (xs.map SV.v))] 1 ids' w'∧DenX X [(0,.row e (xs.map SV.v))] ids' w' (.own 0 0 n) v:=by
 have hg:∀ k:Nm,k≠.t 0→getH [((0:Nm),Chunk.row e (xs.map SV.v))] k = .unborn:=fun k hk=>by
  match k,hk with
  | .t 0,hk=>exact absurd rfl hk
  | .t (j+1),_=>rfl
  | .s F i,_=>rfl
 have h0:getH [((0:Nm),Chunk.row e (xs.map SV.v))] (.t 0) = .row e (xs.map SV.v):=rfl
 have hl0:∀ k:Nm,(getH [((0:Nm),Chunk.row e (xs.map SV.v))] k).live = true→k = .t 0:=fun k hk=>Classical.byContradiction fun hn=>by rw [hg k hn] at hk; cases hk
 have mk:∀ p:Option (Nat×Nat),(∀ b o,p = some (b,o)→b < w'.heap.size∧X.w0.heap.size≤b) →
   DenC X.P (getH [((0:Nm),Chunk.row e (xs.map SV.v))]) (upd X.ids0 (.t 0) p) (Im X.w0 X.I0 X.W0 (getH [((0:Nm),Chunk.row e (xs.map SV.v))]) (upd X.ids0 (.t 0) p) w') w' (.t 0) (.row e (xs.map SV.v)) →
   HeapF X [(0,.row e (xs.map SV.v))] 1 (upd X.ids0 (.t 0) p) w':=fun p hp hd=>by
  refine ⟨⟨⟨fun k=>?_,fun k k' b o o' hk hk' _ _=>(hl0 k hk).trans (hl0 k' hk').symm,fun k b o hk hi=>?_,hF.st.im0,fun b hb _=>hA.b.block b hb,hA.b.os,⟨hA.b.tape,hA.d⟩,hA.b.output,hA.b.size⟩,fun k hk=>by omega,fun k hk=>by omega⟩,fun k hk=>hg k (fun e'=>by subst e'; simp at hk),by omega⟩
  ·by_cases hk:k = .t 0
   ·subst hk; rw [h0]; exact hd
   ·rw [hg k hk]; trivial
  ·obtain rfl:=hl0 k hk
   rw [upd_same] at hi
   exact ⟨(hp b o hi).1,.inr (hp b o hi).2⟩
 rcases hrow.2 with ⟨rfl,rfl⟩ | ⟨g,cap,cur,rfl,hbg,hw,hnc,hcm,hcs,htake⟩
 ·have hx:xs = []:=List.eq_nil_of_length_eq_zero (by simpa using hrow.1)
  subst hx
  refine ⟨upd X.ids0 (.t 0) none,mk none (fun b o h=>by cases h) (by simp [DenC]),.own none 0 rfl ⟨Nat.le_refl _,Nat.zero_le _,fun e' cs h=>?_,.inl ⟨rfl,rfl⟩⟩⟩
  have h:Chunk.row e ([].map SV.v) = .row e' cs:=h
  cases h
  exact Nat.zero_le _
 ·have hlen:xs.length = n * z:=hrow.1
  have hle:n * z≤cap * z:=Nat.mul_le_mul_right _ hnc
  have hgl:g < w'.heap.size:=(Array.getElem?_eq_some_iff.1 hw).1
  refine ⟨upd X.ids0 (.t 0) (some (g,0)),mk _ (fun b o h=>by cases h; exact ⟨hgl,hbg⟩) ?_,.own (some ⟨g,0,none⟩) cap rfl ⟨hnc,hcm,fun e' cs h=>?_,.inr ⟨g,0,e,xs.map SV.v,cur,rfl,upd_same _ _ _,rfl,hw,?_⟩⟩⟩
  ·simp only [DenC,upd_same]
   refine ⟨cur,hw,by rw [List.length_map,hcs]; omega,fun i x hi=>?_⟩
   rw [List.getElem?_map,← htake] at hi
   cases hv:(cur.toList.take (n * z))[i]? with
   | none=>rw [hv] at hi; cases hi
   | some u =>
    rw [hv] at hi
    cases hi
    rw [List.getElem?_take] at hv
    split at hv
    ·rw [Nat.zero_add,Array.getD_eq_getD_getElem?,← Array.getElem?_toList,hv]
     exact .v
    ·cases hv
  ·have h:Chunk.row e (xs.map SV.v) = .row e' cs:=h
   cases h
   rw [List.length_map,hz]; omega
  ·rw [hz,hcs]; omega
theorem ge_grow_spec (n:Int) (h1:0≤n) (h2:n * 16≤140737488355328) {α:Type} [Enc α]:SpecW Try.prog 44 [.v (.slice none 0 0),.v (.int .i64 n)] [] 0 (fun x h n=>x = .own 0 0 ([]:List α).length∧h = [(0,.row 38 (fl ([]:List α)))]∧n = 1):=by
 refine ⟨⟨_,_,Try.func44,rfl,by decide⟩,fun X vals hP hm hdf hF hsz hd=>?_⟩
 obtain ⟨v0,v1,rfl⟩:=vals2 hsz
 obtain rfl:v0 = _:=den_v (hd 0 _ rfl)
 obtain rfl:v1 = _:=den_v (hd 1 _ rfl)
 have hz:X.P.cellsOf 38 = 2:=by rw [hP]; kernel_rfl
 obtain ⟨k,rfl⟩:=Int.eq_ofNat_of_zero_le h1
 rcases Nat.eq_zero_or_pos k with rfl | hk
 ·refine (grow0_w X.w0).mono fun ex w' hx=>?_
  obtain ⟨rfl,rfl⟩:=hx
  obtain ⟨ids',hF',hd'⟩:=row_own hm hF (Ah.refl _) hz (v:=.slice none 0 0) (n:=0) (xs:=[]) (World.ownsRow_nil _ _ _ _)
  exact ⟨_,_,_,1,ids',rfl,⟨rfl,rfl,rfl⟩,hF',hd'⟩
 ·obtain ⟨i0,hi,hz0,hz1,hz2⟩:=info_parts (show (Try.prog.info? 38).map (fun i=>(i.zero,i.size,i.bytes)) = some (some (.agg #[.int .i64 0,.int .i64 0]),2,16) by kernel_rfl)
  have hrun:=fun ty=>Lib.run_append_grow_zeros (P:=Try.prog) X.w0 22 3 ty 38 i0 _ .i64 .i64 Try.underlying22 Try.underlying3 hi hz0 none 0 0 [] (by simp [Builtin.firstCells]) k hk (by omega) (by omega) (by omega) (by rw [hz2]; omega) (by rw [Nat.zero_add]; exact growslice_fits (by omega) (by rw [hz2]; omega))
  simp only [Nat.zero_add] at hrun
  have hcap:k≤grownCap X.w0 k 0 38:=by have:=grownCap_ge X.w0 k 0 38; simpa using this
  have hcm:grownCap X.w0 k 0 38≤maxLen:=by have:=grownCap_le_maxLen X.w0 k 0 38 (by unfold maxLen; omega); simpa using this
  refine (grow1_w k X.w0.heap.size (grownCap X.w0 k 0 38) X.w0 _ hk (by omega) hcap (by unfold maxLen at hcm; omega) hrun).mono fun ex w' hx=>?_
  obtain ⟨rfl,rfl⟩:=hx
  have hA:Ah X.w0 (X.w0.drew.alloc (.cells (([]:List Value).toArray++Builtin.zeroCells (Value.agg #[.int .i64 0,.int .i64 0]).cells k++Builtin.zeroCells (Value.agg #[.int .i64 0,.int .i64 0]).cells (grownCap X.w0 k 0 38 - k)) 38)) :=
   ⟨⟨rfl,rfl,rfl,by simp,fun j hj=>heap_alloc_old X.w0.drew _ j hj⟩,by simp⟩
  obtain ⟨ids',hF',hd'⟩:=row_own hm hF hA hz (v:=.slice (some ⟨X.w0.heap.size,0,none⟩) 0 (grownCap X.w0 k 0 38)) (n:=0) (xs:=[]) ⟨by simp,.inr ⟨X.w0.heap.size,_,_,rfl,Nat.le_refl _,heap_alloc_new X.w0.drew _,Nat.zero_le _,hcm,by
   simp only [Array.size_append,size_zeroCells,List.size_toArray,List.length_nil,Nat.zero_add]
   rw [← Nat.add_mul]
   have:(Value.agg #[.int .i64 0,.int .i64 0]).cells.size = 2:=rfl
   rw [this]
   congr 1
   omega,by simp⟩⟩
  exact ⟨_,_,_,1,ids',rfl,⟨rfl,rfl,rfl⟩,hF',hd'⟩
theorem fl_two {α:Type} [Enc α] {p q:α→Int} (hc:∀ x:α,Enc.cells x = [.v (.int .i64 (p x)),.v (.int .i64 (q x))]):∀ xs:List α,fl xs = ((xs.map fun x=>(p x,q x)).flatMap enc2).map SV.v
 | []=>rfl
 | x::xs=>by rw [fl_cons,fl_two hc xs,hc,List.map_cons,List.flatMap_cons,List.map_append]; rfl
theorem ge_collect_spec {α:Type} [Enc α] {p q:α→Int} (hc:∀ x:α,Enc.cells x = [.v (.int .i64 (p x)),.v (.int .i64 (q x))]) (xs:List α) (h1:xs.length * 16≤140737488351232) :
  SpecW Try.prog 41 [.clo 43 [.iptr [.sl xs.length (fl xs)] 0]] [] 0 (fun x h n=>x = .own 0 0 xs.length∧h = [(0,.row 38 (fl xs))]∧n = 1):=by
 refine ⟨⟨_,_,Try.func41,rfl,by decide⟩,fun X vals hP hm hdf hF hsz hd=>?_⟩
 obtain ⟨v0,rfl⟩:=vals1 hsz
 have hz:X.P.cellsOf 38 = 2:=by rw [hP]; kernel_rfl
 obtain ⟨arr,rfl,hsz1,hd1⟩:=den_clo (hd 0 _ rfl)
 obtain ⟨y,rfl⟩:=vals1 (by simpa using hsz1.symm)
 obtain ⟨bb,ob,c,hI,hy,hcell,hden⟩:=den_iptr (hd1 0 _ rfl)
 have hy:y = _:=hy
 subst hy
 have hc0:=hcell 0 _ rfl
 obtain ⟨a,cap,hsl,hn,hcap,hrow⟩:=den_sl (hden 0 _ rfl)
 rw [hsl,Nat.add_zero] at hc0
 have hfl:=fl_two hc xs
 have hcol:=collect_w bb ob a cap (xs.map fun x=>(p x,q x)) (by rw [List.length_map]; exact h1) X.w0 hI.2.1 (by rw [List.length_map]; exact hc0) (fun hne=>by
  rcases hrow with ⟨h0,_⟩ | ⟨b,o,d,rfl,hIb,hcb,hdb⟩
  ·exact absurd (List.eq_nil_of_length_eq_zero (by rw [List.length_map]; exact h0)) hne
  ·refine ⟨b,o,rfl,hIb.2.1,fun j hj=>?_⟩
   rw [List.length_map] at hj
   have get:∀ m,m < 2→(fl xs)[j * 2+m]? = some (.v ((enc2 (p xs[j],q xs[j])).getD m undef)):=fun m hm2=>by
    rw [hfl,List.getElem?_map,List.flatMap_map]
    have:∀ (l:List α) (j:Nat) (hj:j < l.length),(l.flatMap fun x=>enc2 (p x,q x))[j * 2+m]? = some ((enc2 (p l[j],q l[j])).getD m undef):=by
     intro l
     induction l with
     | nil=>intro j hj; exact absurd hj (Nat.not_lt_zero _)
     | cons x l ih =>
      intro j hj
      rw [List.flatMap_cons]
      cases j with
      | zero =>
       rw [Nat.zero_mul,Nat.zero_add,List.getElem?_append_left (by simpa [enc2] using hm2)]
       match m,hm2 with
       | 0,_=>rfl
       | 1,_=>rfl
      | succ j =>
       rw [List.getElem?_append_right (by simp [enc2]; omega)]
       rw [show (j+1) * 2+m - (enc2 (p x,q x)).length = j * 2+m by simp [enc2]; omega]
       exact ih j (by simpa using hj)
    rw [this xs j hj]
    rfl
   have g0:=get 0 (by omega)
   have g1:=get 1 (by omega)
   have c0:=hcb _ _ g0
   have c1:=hcb _ _ g1
   rw [den_v (hdb _ _ g0)] at c0
   rw [den_v (hdb _ _ g1)] at c1
   rw [List.getElem?_map,List.getElem?_eq_getElem hj]
   exact ⟨c0,c1⟩)
 refine hcol.mono fun ex w' hx=>?_
 obtain ⟨v,rfl,hr,hA⟩:=hx
 obtain ⟨ids',hF',hd'⟩:=row_own hm hF hA hz hr
 rw [← hfl] at hF' hd'
 rw [List.length_map] at hd'
 exact ⟨_,_,_,1,ids',rfl,⟨rfl,rfl,rfl⟩,hF',hd'⟩
end Go.Proofs.Ytpeaimfdeonpgaa
end
