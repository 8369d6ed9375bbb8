/-
 Lemmas, put together: HW, HU, IG, IA, HR, HT, IB, IC, ID, IE, IF, IJ, IK, frameF.
 No conditions.
-/
import Derived.Test.YteelocnklamegaaDoorframeA3
import Derived.Shelf.Sort.Plain
import Derived.Shelf.Slices.In.SortNone
import Derived.Shelf.SlSortCmp.NoneTotal
import Derived.Shelf.SlicesG.Cmp
import Derived.Shelf.SlSortCmp.Whole1
import Derived.Defers
set_option linter.unusedSimpArgs false
set_option linter.unusedVariables false
set_option linter.unusedSectionVars false
section
namespace Go.Sx
open Go.RowKit
set_option linter.unusedVariables false
set_option linter.unusedSimpArgs false
variable {P:Program} {hp:Hp} {nx:Nat}
structure VArr (n:Nat) where
 l:List Int
 h:l.length = n
variable {n:Nat}
theorem VArr.ext:∀ {a b:VArr n},a.l = b.l→a = b
 | ⟨_,_⟩,⟨_,_⟩,h=>by simp only at h; subst h; rfl
instance : DecidableEq (VArr n):=fun a b=>if h:a.l = b.l then .isTrue (VArr.ext h) else .isFalse fun e=>h (e ▸ rfl)
instance : Inhabited (VArr n):=⟨⟨List.replicate n 0,by simp⟩⟩
def VArr.get (a:VArr n) (i:Int):Int:=a.l.getD i.toNat 0
def VArr.set (a:VArr n) (i v:Int):VArr n:=⟨a.l.set i.toNat v,by rw [List.length_set]; exact a.h⟩
def VArr.cells (a:VArr n):List SV:=(List.range n).map fun k=>.v (.int .i64 (a.l.getD k 0))
theorem VArr.cells_fl (a:VArr n):a.cells = a.l.map fun x=>.v (.int .i64 x):=by
 refine List.ext_getElem (by simp [VArr.cells,a.h]) fun i h1 h2=>?_
 simp only [VArr.cells,List.getElem_map,List.getElem_range,List.length_map] at h2 ⊢
 rw [List.getD_eq_getElem?_getD,List.getElem?_eq_getElem h2]; rfl
theorem VArr.st (a:VArr n):stL a.cells = true:=by
 rw [VArr.cells_fl]
 induction a.l with
 | nil=>rfl
 | cons x l ih=>simpa [stL,SV.st] using ih
instance : Enc (VArr n):=⟨n,VArr.cells,fun a=>by simp [VArr.cells],fun a=>by simp [VArr.cells,oneS,Value.oneCell'],VArr.st⟩
theorem VArr.len (a:VArr n):(Enc.cells a).length = n:=Enc.len a
theorem VArr.at (a:VArr n) (e:Int) (k:0≤e∧e < (n:Int)) (d:SV):(Enc.cells a).getD e.toNat d = .v (.int .i64 (a.get e)):=by
 show a.cells.getD e.toNat d = _
 have hl:e.toNat < a.cells.length:=by have:=VArr.len a; show _ < (Enc.cells a).length; omega
 rw [List.getD_eq_getElem?_getD,List.getElem?_eq_getElem hl]
 simp only [VArr.cells,List.getElem_map,List.getElem_range]
 rfl
theorem VArr.put (a:VArr n) (e v:Int) (k:0≤e∧e < (n:Int)):(Enc.cells a).set e.toNat (.v (.int .i64 v)) = Enc.cells (a.set e v):=by
 show a.cells.set _ _ = (a.set e v).cells
 rw [VArr.cells_fl,VArr.cells_fl]
 simp only [VArr.set,List.map_set]
theorem leL_arr {hp hp':Hp} {σ:List (Nm×Nm)} {frz:List Nm} (a:VArr n) (xs ys:List SV):leL hp hp' σ frz (Enc.cells a++xs) (Enc.cells a++ys) = leL hp hp' σ frz xs ys:=by
 refine propext ?_
 show leL hp hp' σ frz (a.cells++xs) (a.cells++ys)↔_
 rw [VArr.cells_fl]
 induction a.l with
 | nil=>exact Iff.rfl
 | cons x l ih =>
  simp only [List.map_cons,List.cons_append,leL]
  rw [ih]
  simp only [leS,true_and]
theorem renL_arr (τ:Nm→Nm) (a:VArr n) (xs:List SV):renL τ (Enc.cells a++xs) = Enc.cells a++renL τ xs:=by
 show renL τ (a.cells++xs) = a.cells++_
 rw [VArr.cells_fl]
 induction a.l with
 | nil=>rfl
 | cons x l ih=>simp only [List.map_cons,List.cons_append,renL,renS,ih]
theorem stL_arr (a:VArr n) (xs:List SV):stL (Enc.cells a++xs) = stL xs:=by
 show stL (a.cells++xs) = _
 rw [VArr.cells_fl]
 induction a.l with
 | nil=>rfl
 | cons x l ih=>simpa [stL,SV.st] using ih
theorem clL_arr (a:VArr n) (xs:List SV):clL (Enc.cells a++xs) = clL xs:=by
 show clL (a.cells++xs) = _
 rw [VArr.cells_fl]
 induction a.l with
 | nil=>rfl
 | cons x l ih=>simpa [clL,SV.cl] using ih
theorem nimL_arr (a:VArr n) (xs:List SV):nimL (Enc.cells a++xs) = nimL xs:=by
 show nimL (a.cells++xs) = _
 rw [VArr.cells_fl]
 induction a.l with
 | nil=>rfl
 | cons x l ih=>simpa [nimL,SV.nim] using ih
theorem nim_VArr (xs:List (VArr n)):nimL (fl xs) = true:=nimL_fl (fun a=>by have:=nimL_arr a []; simpa [nimL] using this) xs
theorem sz_VArr:Enc.sz (VArr n) = n:=rfl
theorem stL_VArr (a:VArr n):stL (Enc.cells a) = true:=Enc.stc a
theorem clL_VArr (a:VArr n):clL (Enc.cells a) = true:=stL_clL (Enc.stc a)
theorem renL_VArr (τ:Nm→Nm) (a:VArr n):renL τ (Enc.cells a) = Enc.cells a:=renL_cl (clL_VArr a)
theorem nimL_VArr (a:VArr n):nimL (Enc.cells a) = true:=by have:=nimL_arr a []; simpa [nimL] using this
theorem leL_VArr {hp hp':Hp} {σ:List (Nm×Nm)} {frz:List Nm} (a:VArr n):leL hp hp' σ frz (Enc.cells a) (Enc.cells a) = True:=by
 have:=leL_arr (hp:=hp) (hp':=hp') (σ:=σ) (frz:=frz) a [] []
 simp only [List.append_nil,leL] at this
 exact this
attribute [push_cast] leL_arr renL_arr stL_arr clL_arr nimL_arr nim_VArr sz_VArr stL_VArr clL_VArr renL_VArr nimL_VArr leL_VArr
def VArr.c0 (a:VArr n):Int:=a.l.getD 0 0
def VArr.c1 (a:VArr n):Int:=a.l.getD 1 0
def VArr.c2 (a:VArr n):Int:=a.l.getD 2 0
def VArr.c3 (a:VArr n):Int:=a.l.getD 3 0
def VArr.c4 (a:VArr n):Int:=a.l.getD 4 0
def VArr.c5 (a:VArr n):Int:=a.l.getD 5 0
end Go.Sx
end

section
namespace Go.Sx
open Go.RowKit
set_option linter.unusedVariables false
set_option linter.unusedSimpArgs false
variable {α β:Type} [Enc α] {P:Program} {hp hp':Hp} {nx:Nat} {σ:List (Nm×Nm)} {frz:List Nm}
def flP (F n:Nat):List SV:=(List.range n).map fun (i:Nat)=>SV.ptr (.s F ((i:Nat):Int)) 0
def famP (t:TypeId) (xs:List α):Int→Chunk:=fun i=>bif decide (0≤i∧i < (xs.length:Int)) then .row t (Enc.cells (ix xs i)) else .void
theorem famP_in {t:TypeId} {xs:List α} {i:Int} (k:0≤i∧i < (xs.length:Int)):famP t xs i = .row t (Enc.cells (ix xs i)):=by
 unfold famP; rw [decide_eq_true k]; rfl
theorem famP_out {t:TypeId} {xs:List α} {i:Int} (k:¬ (0≤i∧i < (xs.length:Int))):famP t xs i = .void:=by
 unfold famP; rw [decide_eq_false k]; rfl
theorem at_famP (t:TypeId) (xs:List α) (i:Int):(Chunk.fam (famP t xs)).at i = famP t xs i:=by
 simp only [Chunk.at]
 by_cases k:0≤i∧i < (xs.length:Int)
 ·rw [famP_in k]
 ·rw [famP_out k]
theorem famP_mem {t:TypeId} {xs:List α} {i:Int} (k:0≤i∧i < (xs.length:Int)):(Chunk.fam (famP t xs)).at i = .row t (Enc.cells (ix xs i)):=(at_famP t xs i).trans (famP_in k)
structure Birth (C C':Nm→Chunk) (Q K R:Nm):Prop where
 vd:C Q = .void
 kl:(C K).live = true
 q:C' Q = C K
 k:C' K = .dead
 oth:∀ j,j≠Q→j≠K→j≠R→C' j = C j
 kr:K≠R
 row:(∃ e cs cs',C R = .row e cs∧C' R = .row e cs'∧cs'.length = cs.length∧∀ (i:Nat) (x y:SV),cs[i]? = some x→cs'[i]? = some y→x = y∨(x = .ptr K 0∧y = .ptr Q 0)) ∨
 ∃es es',C R = .map es∧C' R = .map es'∧es'.length = es.length∧∀ (i:Nat) (x y:Value×SV),es[i]? = some x→es'[i]? = some y→x.1 = y.1∧(x.2 = y.2∨(x.2 = .ptr K 0∧y.2 = .ptr Q 0))
section sem
variable {w0:World} {I0 W0:Nat→Prop} {C C':Nm→Chunk} {Q K R:Nm} {ids:Ids} {w:World}
theorem Birth.liveR (hh:Birth C C' Q K R):(C R).live = true∧(C' R).live = true:=by
 rcases hh.row with ⟨e,cs,cs',h1,h2,_⟩ | ⟨es,es',h1,h2,_⟩ <;> (rw [h1,h2]; exact ⟨rfl,rfl⟩)
theorem Birth.old (hh:Birth C C' Q K R) {j:Nm} {b o:Nat} (hl:(C' j).live = true) (hi:upd ids Q (ids K) j = some (b,o)) :
 ∃k0,(C k0).live = true∧ids k0 = some (b,o)∧((j≠Q∧k0 = j∧j≠K)∨(j = Q∧k0 = K)):=by
 by_cases hQ:j = Q
 ·subst hQ; rw [upd_same] at hi; exact ⟨K,hh.kl,hi,.inr ⟨rfl,rfl⟩⟩
 ·rw [upd_ne _ _ hQ] at hi
  by_cases hK:j = K
  ·subst hK; rw [hh.k] at hl; cases hl
  by_cases hR:j = R
  ·subst hR; exact ⟨j,hh.liveR.1,hi,.inl ⟨hQ,rfl,hK⟩⟩
  ·rw [hh.oth j hQ hK hR] at hl; exact ⟨j,hl,hi,.inl ⟨hQ,rfl,hK⟩⟩
theorem Birth.ext (h:HSt P w0 I0 W0 C ids w) (hh:Birth C C' Q K R):Ext C ids (Im w0 I0 W0 C ids w) w C' (upd ids Q (ids K)) (Im w0 I0 W0 C' (upd ids Q (ids K)) w) w:=by
 refine ⟨fun b hb=>⟨⟨hb.1,hb.2.1,fun k hk o hi=>?_⟩,rfl⟩,fun j hj=>?_,fun j hj=>?_⟩
 ·obtain ⟨k0,h1,h2,_⟩:=hh.old hk hi
  exact hb.2.2 k0 h1 o h2
 ·have hQ:j≠Q:=fun e=>by rw [e,hh.vd] at hj; cases hj
  have hK:j≠K:=fun e=>by have:=hh.kl; rw [← e,hj] at this; cases this
  have hR:j≠R:=fun e=>by have:=hh.liveR.1; rw [← e,hj] at this; cases this
  rw [hh.oth j hQ hK hR]; exact hj
 ·have hQ:j≠Q:=fun e=>by rw [e,hh.vd] at hj; cases hj
  by_cases hK:j = K
  ·subst hK; exact .inl hh.k
  by_cases hR:j = R
  ·subst hR
   rcases hh.row with ⟨e,cs,cs',h1,h2,h3,_⟩ | ⟨es,es',h1,h2,_⟩
   ·exact .inr ⟨hh.liveR.2,upd_ne _ _ hQ,by rw [h1,h2]; exact ⟨rfl,Nat.le_of_eq h3⟩,fun _ _ _=>SameShape.refl _⟩
   ·exact .inr ⟨hh.liveR.2,upd_ne _ _ hQ,by rw [h1,h2]; exact trivial,fun _ _ _=>SameShape.refl _⟩
  ·have h1:=hh.oth j hQ hK hR
   exact .inr ⟨by rw [h1]; exact hj,upd_ne _ _ hQ,by rw [h1]; exact SameKind.refl hj,fun _ _ _=>SameShape.refl _⟩
theorem Birth.den {off:Nat} (h:HSt P w0 I0 W0 C ids w) (hh:Birth C C' Q K R) {x y:SV} {v:Value} (hr:x = y∨(x = .ptr K off∧y = .ptr Q off)) (hd:Den P C ids (Im w0 I0 W0 C ids w) w x v):Den P C' (upd ids Q (ids K)) (Im w0 I0 W0 C' (upd ids Q (ids K)) w) w y v:=by
 rcases hr with rfl | ⟨rfl,rfl⟩
 ·exact hd.mono (hh.ext h)
 ·obtain ⟨b,o,g1,rfl⟩:=den_ptr hd hh.kl
  exact .ptr b o (by rw [hh.q]; exact hh.kl) (by rw [upd_same]; exact g1)
theorem Birth.st (h:HSt P w0 I0 W0 C ids w) (hh:Birth C C' Q K R):HSt P w0 I0 W0 C' (upd ids Q (ids K)) w:=by
 have hE:=hh.ext h
 refine ⟨fun j=>?_,fun k k' b o o' hk hk' hi hi'=>?_,fun k b o hk hi=>?_,h.im0,h.evol,h.os,h.tape,h.output,h.size⟩
 ·by_cases hQ:j = Q
  ·subst hQ; rw [hh.q]; exact DenC.rename hE (h.ch K) (upd_same _ _ _)
  by_cases hK:j = K
  ·subst hK; rw [hh.k]; trivial
  by_cases hR:j = R
  ·subst hR
   have hc:=h.ch j
   rcases hh.row with ⟨e,cs,cs',h1,h2,h3,h4⟩ | ⟨es,es',h1,h2,h3,h4⟩
   ·rw [h1] at hc
    rw [h2]
    simp only [DenC,upd_ne _ _ hQ] at hc ⊢
    cases hid:ids j with
    | none =>
     rw [hid] at hc
     simp only at hc
     subst hc
     exact List.eq_nil_of_length_eq_zero h3
    | some p =>
     obtain ⟨b,o⟩:=p
     rw [hid] at hc
     obtain ⟨arr,ha,hl,hxx⟩:=hc
     refine ⟨arr,ha,by omega,fun i y hi=>?_⟩
     have hlt:=(List.getElem?_eq_some_iff.1 hi).1
     have hi2:=List.getElem?_eq_getElem (show i < cs.length by omega)
     exact hh.den h (h4 i _ y hi2 hi) (hxx i _ hi2)
   ·rw [h1] at hc
    rw [h2]
    simp only [DenC,upd_ne _ _ hQ] at hc ⊢
    obtain ⟨b,arr,clock,g1,g2,g3,g4,hbo⟩:=hc
    refine ⟨b,arr,clock,g1,g2,by omega,fun i y hi=>?_,hbo⟩
    have hlt:=(List.getElem?_eq_some_iff.1 hi).1
    have hi2:=List.getElem?_eq_getElem (show i < es.length by omega)
    obtain ⟨a1,a2⟩:=h4 i _ y hi2 hi
    obtain ⟨b1,b2⟩:=g4 i _ hi2
    exact ⟨b1.trans a1,hh.den h a2 b2⟩
  ·rw [hh.oth j hQ hK hR]; exact DenC.rename hE (h.ch j) (upd_ne _ _ hQ)
 ·obtain ⟨k0,a1,a2,a3⟩:=hh.old hk hi
  obtain ⟨k0',b1,b2,b3⟩:=hh.old hk' hi'
  have:=h.inj k0 k0' b o o' a1 b1 a2 b2
  subst this
  rcases a3 with ⟨_,a3,a4⟩ | ⟨a3,a4⟩ <;> rcases b3 with ⟨_,b3,b4⟩ | ⟨b3,b4⟩
  ·rw [← a3,← b3]
  ·rw [← a3] at a4; exact absurd b4 a4
  ·rw [← b3] at b4; exact absurd a4 b4
  ·rw [a3,b3]
 ·obtain ⟨k0,a1,a2,_⟩:=hh.old hk hi
  exact h.lt k0 b o a1 a2
end sem
theorem famP_live {t:TypeId} {xs:List α} {i:Int} (k:0≤i∧i < (xs.length:Int)):((Chunk.fam (famP t xs)).at i).live = true:=by rw [famP_mem k]; rfl
def lenP (c:Chunk) (m:Nat):Prop:=∀ i:Nat,i < m→(c.at ((i:Nat):Int)).live = true
theorem lenP_famP (t:TypeId) (xs:List α) (m:Nat):lenP (.fam (famP t xs)) m = (m≤xs.length):=by
 refine propext ⟨fun h=>?_,fun h i hi=>famP_live (by omega)⟩
 by_cases hm:m≤xs.length
 ·exact hm
 ·have:=h xs.length (by omega)
  rw [at_famP,famP_out (by omega)] at this
  cases this
theorem lenP_same (t:TypeId) (xs:List α):lenP (.fam (famP t xs)) xs.length = True:=eq_true (by rw [lenP_famP]; exact Nat.le_refl _)
theorem lenP_one (t:TypeId) (x:α):lenP (.fam (famP t [x])) 1 = True:=eq_true (by rw [lenP_famP]; exact Nat.le_refl _)
theorem lenP_app (t:TypeId) (xs:List α) (x:α):lenP (.fam (famP t (xs++[x]))) (xs.length+1) = True:=eq_true (by rw [lenP_famP]; simp)
theorem lenP_set (t:TypeId) (xs:List α) (i:Nat) (x:α):lenP (.fam (famP t (xs.set i x))) xs.length = True:=eq_true (by rw [lenP_famP]; simp)
theorem leL_flP {F F':Nat} {n m:Nat} (h:n = m∧getN σ (.s F' 0) = some (.s F 0)∧lenP (getE hp' (.s F' 0)) m):leL hp hp' σ frz (flP F n) (flP F' m) = True:=by
 obtain ⟨rfl,h1,h2⟩:=h
 refine eq_true (leL_pw ?_)
 have gen:∀ l:List Nat,(∀ i ∈ l,i < n)→Pw (leS hp hp' σ frz) (l.map fun (i:Nat)=>SV.ptr (.s F ((i:Nat):Int)) 0) (l.map fun (i:Nat)=>SV.ptr (.s F' ((i:Nat):Int)) 0):=by
  intro l
  induction l with
  | nil=>intro _; trivial
  | cons a l ih =>
   intro hl
   refine ⟨?_,ih fun i hi=>hl i (by simp [hi])⟩
   have ha:=hl a (by simp)
   simp only [leS]
   refine ⟨getN_s h1 _,trivial,?_⟩
   have h3:=h2 a ha
   cases hg:getE hp' (.s F' 0) with
   | fam g=>rw [getE_fam hg]; rw [hg] at h3; exact h3
   | _=>rw [hg] at h3; cases h3
 exact gen _ fun i hi=>by simpa using hi
theorem leC1_famP {t:TypeId} {xs:List α} {F':Nat} {i:Int} (h:famLe hp σ F' (famP t xs)):leC1 hp hp' σ frz (.s F' i) (famP t xs i) = True:=by
 refine eq_true ?_
 unfold famLe at h
 cases hn:getN σ (.s F' 0) with
 | none=>rw [hn] at h; exact h.elim
 | some k =>
  rw [hn] at h
  simp only at h
  have hs:getN σ (.s F' i) = some (.s k.base i):=by rw [getN_sig σ F' i,hn]; rfl
  have hg:=getE_fam h i
  rw [at_famP] at hg
  by_cases kk:0≤i∧i < (xs.length:Int)
  ·rw [famP_in kk] at hg ⊢
   simp only [leC1,hs,hg]
   exact ⟨trivial,.inl ⟨Enc.stc _,trivial⟩⟩
  ·rw [famP_out kk] at hg ⊢
   simp only [leC1,hs,hg]
theorem ren_famP (τ:Nm→Nm) (t:TypeId) (xs:List α) (i:Int):renC τ (famP t xs i) = famP t xs i:=by
 by_cases kk:0≤i∧i < (xs.length:Int)
 ·rw [famP_in kk]; simp only [renC]; rw [renL_cl (stL_clL (Enc.stc _))]
 ·rw [famP_out kk]; rfl
theorem renL_flP (F n:Nat):renL (bck (getN σ) nx) (flP F n) = flP (bck (getN σ) nx (.s F 0)).base n:=by
 unfold flP
 rw [renL_map,List.map_map]
 refine List.map_congr_left fun i _=>?_
 simp only [Function.comp,renS]
 rw [bck_s (getN_sig σ)]
theorem famG_P (t:TypeId) (xs:List α) (G:Nat) (z:Int) (r:Hp) (F:Nat):famG ((.s G z,.fam (famP t xs))::r) F = bif G == F then famP t xs else famG r F:=by
 funext q
 simp only [famG,getH,Nm.eqk]
 cases G == F with
 | true=>simp only [cond_true,Chunk.mem]; exact at_famP t xs q
 | false=>rfl
theorem leC_famP {t:TypeId} {xs:List α} {F':Nat} {z:Int} (h:famLe hp σ F' (famP t xs)):leC hp hp' σ frz (.s F' z) (.fam (famP t xs)) = True:=by
 refine eq_true fun i=>?_
 rw [at_famP]
 exact of_eq_true (leC1_famP h)
theorem famLe_P (F':Nat) (t:TypeId) (xs:List α):famLe hp σ F' (famP t xs) = match getN σ (.s F' 0) with
 | some k=>getE hp (.s k.base 0) = .fam (famP t xs)
 | none=>False:=propext Iff.rfl
theorem leH_cons (k:Nm) (c:Chunk) (r:Hp):leH hp hp' σ frz ((k,c)::r) = (leC hp hp' σ frz k c∧leH hp hp' σ frz r):=propext Iff.rfl
def noN (σ:List (Nm×Nm)) (F:Nat):Prop:=getN σ (.s F 0) = none
theorem noN_eq (σ:List (Nm×Nm)) (F:Nat):noN σ F = (getN σ (.s F 0) = none):=propext Iff.rfl
theorem leC_famP0 {t:TypeId} {F':Nat} {z:Int} (h:noN σ F'):leC hp hp' σ frz (.s F' z) (.fam (famP t ([]:List α))) = True:=by
 refine eq_true fun i=>?_
 have h:getN σ (.s F' 0) = none:=h
 rw [at_famP,famP_out (by simp <;> omega)]
 have:getN σ (.s F' i) = none:=by rw [getN_sig σ F' i,h]; rfl
 simp only [leC1,this]
theorem flP_0 (F:Nat):flP F 0 = []:=rfl
attribute [push_cast high] leC_famP leC_famP0 leH_cons
attribute [push_cast] noN_eq lenP_same lenP_one lenP_app lenP_set flP_0 ren_famP renL_flP famG_P at_famP famLe_P
end Go.Sx
end

section
namespace Go.Sx
open Go.RowKit
set_option linter.unusedVariables false
set_option linter.unusedSimpArgs false
variable {P:Program}
end Go.Sx
end

section
namespace Go.Sx
open Go.RowKit
set_option linter.unusedVariables false
set_option linter.unusedSimpArgs false
variable {α:Type} [Enc α] {P:Program} {hp hp':Hp} {nx:Nat} {σ:List (Nm×Nm)} {frz:List Nm}
def mpG (F:Nat):Nat→List Int→List (Value×SV)
 | _,[]=>[]
 | n,k::r=>(.int .i64 k,.ptr (.s F (n:Int)) 0)::mpG F (n+1) r
def mpP (F:Nat) (ks:List Int):List (Value×SV):=mpG F 0 ks
section arr
variable {n:Nat}
end arr
theorem stM_mpP (F:Nat) (ks:List Int):stM (mpP F ks) = true→ks = []:=by
 cases ks with
 | nil=>exact fun _=>rfl
 | cons a r=>intro h; simp [mpP,mpG,stM,SV.st] at h
def mapLe (hp hp':Hp) (σ:List (Nm×Nm)) (k' F':Nat) (ks:List Int):Prop:=match getN σ (.t k'),getN σ (.s F' 0) with
 | some k,some j=>(getH hp k = .map (mpP j.base ks)∧j = .s j.base 0)∧lenP (getE hp' (.s F' 0)) ks.length
 | _,_=>False
theorem mapLe_eq (k' F':Nat) (ks:List Int):mapLe hp hp' σ k' F' ks = match getN σ (.t k'),getN σ (.s F' 0) with
 | some k,some j=>(getH hp k = .map (mpP j.base ks)∧j = .s j.base 0)∧lenP (getE hp' (.s F' 0)) ks.length
 | _,_=>False:=propext Iff.rfl
theorem leM_mpG {F F':Nat} (h1:getN σ (.s F' 0) = some (.s F 0)) (N:Nat) (h2:lenP (getE hp' (.s F' 0)) N):∀ (n:Nat) (ks:List Int),n+ks.length≤N→leM hp hp' σ frz (mpG F n ks) (mpG F' n ks)
 | _,[],_=>trivial
 | n,k::r,h=>by
  rw [List.length_cons] at h
  refine ⟨rfl,?_,leM_mpG h1 N h2 (n+1) r (by omega)⟩
  simp only [leS]
  refine ⟨getN_s h1 _,trivial,?_⟩
  have h3:=h2 n (by omega)
  cases hg:getE hp' (.s F' 0) with
  | fam g=>rw [getE_fam hg]; rw [hg] at h3; exact h3
  | _=>rw [hg] at h3; cases h3
theorem leC_mpP {k' F':Nat} {ks:List Int} (h:mapLe hp hp' σ k' F' ks):leC hp hp' σ frz (.t k') (.map (mpP F' ks)) = True:=by
 refine eq_true ?_
 unfold mapLe at h
 show leC1 hp hp' σ frz (.t k') (.map (mpP F' ks))
 simp only [leC1]
 cases hk:getN σ (.t k') with
 | none=>rw [hk] at h; exact h.elim
 | some k =>
  cases hj:getN σ (.s F' 0) with
  | none=>rw [hk,hj] at h; exact h.elim
  | some j =>
   rw [hk,hj] at h
   obtain ⟨⟨h1,h2⟩,h3⟩:=h
   simp only [h1]
   cases hs:stM (mpP F' ks) with
   | true =>
    have:=stM_mpP F' ks hs
    subst this
    rfl
   | false=>exact leM_mpG (by rw [hj,h2]; rfl) ks.length h3 0 ks (by omega)
theorem leM_app {hp hp':Hp}:∀ {xs ys us vs:List (Value×SV)},leM hp hp' σ frz xs ys→leM hp hp' σ frz us vs→leM hp hp' σ frz (xs++us) (ys++vs)
 | [],[],_,_,_,h=>h
 | [],_::_,_,_,h,_=>h.elim
 | _::_,[],_,_,h,_=>h.elim
 | a::r,b::s,_,_,h,g=>⟨h.1,h.2.1,leM_app h.2.2 g⟩
def mapLe1 (hp hp':Hp) (σ:List (Nm×Nm)) (k' F' j':Nat) (ks:List Int) (q:Int):Prop:=match getN σ (.t k'),getN σ (.s F' 0),getN σ (.t j') with
 | some k,some j,some i=>(getH hp k = .map (mpP j.base ks++[(.int .i64 q,.ptr i 0)])∧j = .s j.base 0)∧lenP (getE hp' (.s F' 0)) ks.length∧(getH hp' (.t j')).live = true
 | _,_,_=>False
theorem mapLe1_eq (k' F' j':Nat) (ks:List Int) (q:Int):mapLe1 hp hp' σ k' F' j' ks q = match getN σ (.t k'),getN σ (.s F' 0),getN σ (.t j') with
 | some k,some j,some i=>(getH hp k = .map (mpP j.base ks++[(.int .i64 q,.ptr i 0)])∧j = .s j.base 0)∧lenP (getE hp' (.s F' 0)) ks.length∧(getH hp' (.t j')).live = true
 | _,_,_=>False:=propext Iff.rfl
theorem leC_mpP1 {k' F' j':Nat} {ks:List Int} {q:Int} (h:mapLe1 hp hp' σ k' F' j' ks q):leC hp hp' σ frz (.t k') (.map (mpP F' ks++[(.int .i64 q,.ptr (.t j') 0)])) = True:=by
 refine eq_true ?_
 unfold mapLe1 at h
 show leC1 hp hp' σ frz (.t k') (.map (mpP F' ks++[(.int .i64 q,.ptr (.t j') 0)]))
 simp only [leC1]
 cases hk:getN σ (.t k') with
 | none=>rw [hk] at h; exact h.elim
 | some k =>
  cases hj:getN σ (.s F' 0) with
  | none=>rw [hk,hj] at h; exact h.elim
  | some j =>
   cases hi:getN σ (.t j') with
   | none=>rw [hk,hj,hi] at h; exact h.elim
   | some i =>
    rw [hk,hj,hi] at h
    obtain ⟨⟨h1,h2⟩,h3,h4⟩:=h
    simp only [h1]
    have hs:stM (mpP F' ks++[(Value.int .i64 q,SV.ptr (.t j') 0)]) = false:=by
     induction mpP F' ks with
     | nil=>rfl
     | cons a l ih=>simp only [List.cons_append,stM,ih,Bool.and_false]
    rw [hs,cond_false]
    refine leM_app (leM_mpG (by rw [hj,h2]; rfl) ks.length h3 0 ks (by omega)) ⟨rfl,?_,trivial⟩
    simp only [leS]
    exact ⟨hi,trivial,h4⟩
theorem ren_mpG (τ:Nm→Nm) (F F':Nat) (h:∀ i,τ (.s F i) = .s F' i):∀ (n:Nat) (ks:List Int),(mpG F n ks).map (fun p=>(p.1,renS τ p.2)) = mpG F' n ks
 | _,[]=>rfl
 | n,k::r=>by simp only [mpG,List.map_cons,renS,h,ren_mpG τ F F' h (n+1) r]
theorem ren_mpP (F:Nat) (ks:List Int):renC (bck (getN σ) nx) (.map (mpP F ks)) = .map (mpP (bck (getN σ) nx (.s F 0)).base ks):=by
 simp only [renC]
 congr 1
 exact ren_mpG _ _ _ (fun i=>bck_s (getN_sig σ) nx F i) 0 ks
theorem ren_mpP1 (F:Nat) (ks:List Int) (q:Int) (k:Nm):renC (bck (getN σ) nx) (.map (mpP F ks++[(.int .i64 q,.ptr k 0)])) = .map (mpP (bck (getN σ) nx (.s F 0)).base ks++[(.int .i64 q,.ptr (bck (getN σ) nx k) 0)]):=by
 simp only [renC,List.map_append,List.map_cons,List.map_nil,renS]
 congr 2
 exact ren_mpG _ _ _ (fun i=>bck_s (getN_sig σ) nx F i) 0 ks
attribute [push_cast high] leC_mpP leC_mpP1 ren_mpP ren_mpP1
attribute [push_cast] mapLe_eq mapLe1_eq
end Go.Sx
end

section
namespace Go.Sx
open Go.RowKit
set_option linter.unusedVariables false
set_option linter.unusedSimpArgs false
variable {P:Program} {X:Cx} {hp:Hp} {ids:Ids} {w:World}
theorem heap_on (h:HeapC X hp ids w) {w':World} (hz:w.heap.size≤w'.heap.size) (hb:∀ b,b < w.heap.size→w'.heap[b]? = w.heap[b]?) (h1:w'.os = w.os) (h2:w'.tape = w.tape) (h3:w'.output = w.output) (h4:w.drawn≤w'.drawn) :
  HeapC X hp ids w'∧ExtX X hp ids w hp ids w':=by
 have hE:ExtX X hp ids w hp ids w':=by
  refine ⟨fun d hd=>?_,fun _ h=>h,fun k hl=>.inr ⟨hl,rfl,SameKind.refl hl,fun b o hid=>SameShape.of_eq (hb b (h.st.lt k b o hl hid).1)⟩⟩
  obtain ⟨a1,a2,a3⟩:=hd
  exact ⟨⟨a1,by omega,a3⟩,hb d a2⟩
 refine ⟨⟨⟨fun k=>?_,h.st.inj,fun k b o hl hid=>?_,h.st.im0,fun b hb0 hW=>?_,h1.trans h.st.os,⟨h2.trans h.st.tape.1,Nat.le_trans h.st.tape.2 h4⟩,h3.trans h.st.output,by have:=h.st.size; omega⟩,fun k hk h0 hl=>(h.kept k hk h0 hl).step hE hl hl,h.nov⟩,hE⟩
 ·by_cases hl:(getH hp k).live = true
  ·exact (h.st.ch k).mono hE rfl fun b o hid=>hb b (h.st.lt k b o hl hid).1
  ·cases hc:getH hp k with
   | unborn=>trivial
   | void=>trivial
   | dead=>trivial
   | fam g=>trivial
   | row e cs=>rw [hc] at hl; exact absurd rfl hl
   | map es=>rw [hc] at hl; exact absurd rfl hl
   | obj s p=>rw [hc] at hl; exact absurd rfl hl
 ·obtain ⟨a1,a2⟩:=h.st.lt k b o hl hid
  exact ⟨by omega,a2⟩
 ·rw [hb b (by have:=h.st.size; omega)]; exact h.st.evol b hb0 hW
end Go.Sx
end

section
namespace Go.Sx
open Go.RowKit
set_option linter.unusedVariables false
set_option linter.unusedSimpArgs false
variable {P:Program}
end Go.Sx
end

section
namespace Go.Sx
open Go.RowKit
set_option linter.unusedVariables false
set_option linter.unusedSimpArgs false
variable {P:Program}
theorem TabOk.on {I I':Nat→Prop} {w w':World} (h:TabOk P I w) (hI:∀ b,I b→I' b∧w'.heap[b]? = w.heap[b]?):TabOk P I' w':=fun g cs hc=>by
 obtain ⟨h1,h2⟩:=h g cs hc
 refine ⟨(hI g h1).1,fun i x hi=>?_⟩
 obtain ⟨y,h3,h4⟩:=h2 i x hi
 exact ⟨y,(cell_eq (hI g h1).2).trans h3,h4.mono (fun b hb=>(hI b hb).1) fun b hb i=>cell_eq (hI b hb).2⟩
end Go.Sx
end

section
namespace Go.Sx
open Go.RowKit
set_option linter.unusedVariables false
set_option linter.unusedSimpArgs false
variable {P:Program} {fr:Fr} {hp:Hp} {nx:Nat} {ops:Array Oper}
def VArr.cut {n:Nat} (A:VArr n) (a b:Int):List Int:=(A.l.drop a.toNat).take (b.toNat - a.toNat)
theorem VArr.cut_len {n:Nat} (A:VArr n) {a b:Int} (h:0≤a∧a≤b∧b≤(n:Int)):(A.cut a b).length = b.toNat - a.toNat:=by
 have:=A.h
 simp only [VArr.cut,List.length_take,List.length_drop]; omega
end Go.Sx
end

section
namespace Go.Sx
open Go.RowKit
set_option linter.unusedVariables false
set_option linter.unusedSimpArgs false
def svV:SV→Value
 | .v x=>x
 | _=>undef
class KeyE (K:Type) [Enc K] [DecidableEq K] where
 L:List TypeDesc
 op:∀ k:K,plainA (Enc.cells k) = some ((Enc.cells k).map svV)
 fits:∀ k:K,leavesV L ((Enc.cells k).map svV) = true
 eq:∀ a b:K,eqLs ((Enc.cells a).map svV) ((Enc.cells b).map svV) = (a == b)
variable {K:Type} [Enc K] [DecidableEq K] [KeyE K]
def kV (k:K):Value:=.agg ((Enc.cells k).map svV).toArray
def mE (m:List (K×Int)):List (Value×SV):=m.map fun p=>(kV p.1,.v (.int .i64 p.2))
omit [DecidableEq K] [KeyE K] in
theorem stM_mE (m:List (K×Int)):stM (mE m) = true:=by
 induction m with
 | nil=>rfl
 | cons p r ih=>simp only [mE,List.map_cons,stM,SV.st,Bool.true_and]; exact ih
omit [DecidableEq K] [KeyE K] in
@[push_cast] theorem ren_mE (τ:Nm→Nm) (m:List (K×Int)):(mE m).map (fun p=>(p.1,renS τ p.2)) = mE m:=by
 simp [mE,renS,Function.comp_def]
attribute [push_cast] stM_mE
omit [DecidableEq K] [KeyE K] in
@[push_cast] theorem mE_nil:mE ([]:List (K×Int)) = []:=rfl
end Go.Sx
end

section
namespace Go.Sx
open Go.RowKit
set_option linter.unusedVariables false
set_option linter.unusedSimpArgs false
variable {P:Program} {fr:Fr} {hp:Hp} {nx:Nat} {ops:Array Oper}
variable {n:Nat}
theorem VArr.vals (a:VArr n):(Enc.cells a).map svV = a.l.map fun x=>Value.int .i64 x:=by
 show (VArr.cells a).map svV = _
 rw [VArr.cells_fl,List.map_map]; rfl
end Go.Sx
end

section
namespace Go.Sx
open Go.RowKit
set_option linter.unusedVariables false
set_option linter.unusedSimpArgs false
structure PT (α:Type) where
 x:α
instance {α:Type} [Enc α]:Inhabited (PT α):=⟨⟨default⟩⟩
instance {α:Type} [Enc α]:Enc (PT α):=⟨1,fun p=>[.iptr (Enc.cells p.x) 0],fun _=>rfl,fun _=>rfl,fun p=>by simp only [stL,SV.st,Enc.stc,Bool.and_self]⟩
@[push_cast] theorem sz_PT {α:Type} [Enc α]:Enc.sz (PT α) = 1:=rfl
@[push_cast] theorem cells_PT {α:Type} [Enc α] (p:PT α):Enc.cells p = [.iptr (Enc.cells p.x) 0]:=rfl
variable {α:Type} [Enc α] {hp hp':Hp} {σ:List (Nm×Nm)} {frz:List Nm}
end Go.Sx
end

section
namespace Go.Sx
set_option linter.unusedVariables false
set_option linter.unusedSimpArgs false
open Go.RowKit
variable {hp:Hp} {nx:Nat} {ids:Ids} {w:World}
theorem Kept.df {X:Cx} {hp':Nm→Chunk} {ids':Ids} {w':World} {k:Nm} (h:Kept X hp' ids' w' k) (ds:List Deferred) (kp:List (Nat×Value)):Kept { X with df:=ds,kp:=kp } hp' ids' w' k:=⟨h.id,h.kind,h.shape⟩
theorem Kept.undf {X:Cx} {ds:List Deferred} {kp:List (Nat×Value)} {hp':Nm→Chunk} {ids':Ids} {w':World} {k:Nm} (h:Kept { X with df:=ds,kp:=kp } hp' ids' w' k):Kept X hp' ids' w' k:=⟨h.id,h.kind,h.shape⟩
theorem HeapF.df {X:Cx} (h:HeapF X hp nx ids w) (ds:List Deferred) (kp:List (Nat×Value)):HeapF { X with df:=ds,kp:=kp } hp nx ids w:=⟨⟨h.st,fun k h1 h2 h3=>(h.kept k h1 h2 h3).df ds kp,h.nov⟩,h.fresh,h.m_le⟩
theorem HeapF.undf {X:Cx} {ds:List Deferred} {kp:List (Nat×Value)} (h:HeapF { X with df:=ds,kp:=kp } hp nx ids w):HeapF X hp nx ids w:=⟨⟨h.st,fun k h1 h2 h3=>(h.kept k h1 h2 h3).undf,h.nov⟩,h.fresh,h.m_le⟩
def catC:List Code→Code→Code
 | [],z=>z
 | x::r,z=>.seq x (catC r z)
def RX (X:Cx) (Post:SV→Hp→Nat→Prop) (e:Ending) (w':World):Prop:=∃ r res hp' nx' ids',e = .returned r∧Post res hp' nx'∧HeapF X hp' nx' ids' w'∧DenX X hp' ids' w' res r
theorem fin_sound {X:Cx} {fn:Func} {Post:SV→Hp→Nat→Prop} {fr:Fr} {a:Act} (hr:resW X.P fr hp nx fn.results.toList fun xs=>RetW X.P X.m Post (oneOf xs) hp)
  (hH:HeapF X hp nx ids w) (hF:∀ d,DenX X hp ids w (getF fr d) (a.tmps.getD d undef)):∃ v,(results fn a.tmps).run X.P w = .ok v w∧RX X Post (.returned v) w:=by
 obtain ⟨xs,vs,⟨x',hp',nx',hpost,hle⟩,hrun,hlen,hx⟩:=res_sound hH hF _ _ hr
 obtain ⟨σ,frz,hS,hm,hd⟩:=hle.ex
 obtain ⟨ids',h1,h2⟩:=Sx.weaken hH.toHeapC hS hle.fresh (fun k hk hl=>hm k hk (.inl hl)) (fun k hk hv=>hm k hk (.inr hv)) hle.le
 refine ⟨_,results_run hrun,_,x',hp',nx',ids',rfl,hpost,h1,h2 (oneOf xs) x' _ (hd 0) ?_⟩
 match xs,vs,hlen,hx with
 | [],[],_,hx=>exact .tup _ rfl fun i x hi=>by simp at hi
 | [x],[v],_,hx=>exact hx 0 x rfl
 | x::y::r,v::u::s,hlen,hx =>
  refine .tup _ (by simpa using hlen) fun i z hi=>?_
  have hz:=hx i z hi
  rw [List.getD_eq_getElem?_getD] at hz
  rw [Array.getD_eq_getD_getElem?,List.getElem?_toArray]
  exact hz
def QA (P:Program) (rs:List ResultVar) (m:Nat) (Post:SV→Hp→Nat→Prop) (R:Fr→Hp→Nat→Prop):SPost
 | .normal=>R
 | .ret=>endS P rs m Post .ret
 | .exit _=>fun _ _ _=>False
theorem cat_sound {X:Cx} (hD:DrawOk (DrawW X.P) X.P) {fn:Func} {Post:SV→Hp→Nat→Prop} {R:Fr→Hp→Nat→Prop} {z:Code} (hdf:X.df = [])
  (hR:∀ fr hp nx a w,R fr hp nx→StX X fn.ntmps fr hp nx a w→z.wp X.P (bodyPostD X.P fn (RX X Post)) a w):∀ (As:List Code) (fr:Fr) (hp:Hp) (nx:Nat) (a:Act) (w:World),As.all (codeOk fn.ntmps) = true →
  SwpD (DrawW X.P) X.P X.m fn.ntmps (catC As .skip) (QA X.P fn.results.toList X.m Post R) fr hp nx→StX X fn.ntmps fr hp nx a w→(catC As z).wp X.P (bodyPostD X.P fn (RX X Post)) a w
 | [],fr,hp,nx,a,w,_,h,hs=>hR _ _ _ a w h hs
 | x::r,fr,hp,nx,a,w,hc,h,hs=>by
  simp only [List.all_cons,Bool.and_eq_true] at hc
  refine wp_seq (wp_mono (swp_sound hD x _ fr hp nx a w (.of hc.1 hdf) hs h) fun e a w he=>?_)
  cases e with
  | normal =>
   obtain ⟨fr,hp,nx,hk,hs⟩:=he
   simp only [thenS] at hk
   obtain ⟨fr',hp',nx',hk,hs'⟩:=Wk.go hk hs
   exact cat_sound hD hdf hR r fr' hp' nx' a w hc.2 hk hs'
  | ret =>
   obtain ⟨fr,hp,nx,hk,ids,hH,hF,_,hdd⟩:=he
   have hk:resW X.P fr hp nx fn.results.toList fun xs=>RetW X.P X.m Post (oneOf xs) hp:=hk
   obtain ⟨v,h1,h2⟩:=fin_sound hk hH hF
   show Go.Leaves X.P fn a.tmps (RX X Post) a.defers .returning w
   rw [hdd.1,hdf]
   exact ⟨v,h1,h2⟩
  | exit id =>
   obtain ⟨fr,hp,nx,hk,hs⟩:=he
   exact hk.elim
  | _=>exact he.elim
theorem args_st {X:Cx} {fn:Func} {args:List SV} {vals:Array Value} {hin:Hp} (hdf:X.df = []) (hl:args.length≤fn.ntmps) (hH:HeapF X hin X.m X.ids0 X.w0) (hvs:vals.size = args.length) (hvd:∀ i x,args[i]? = some x→DenX X hin X.ids0 X.w0 x (vals.getD i undef)) :
  StX X fn.ntmps (frArgs 0 args) hin X.m { tmps:=vals++Array.replicate (fn.ntmps - vals.size) undef,defers:=[] } X.w0:=by
 refine ⟨X.ids0,hH,fun d=>?_,by simp; omega,hdf.symm,fun p hp=>by rw [Cx.kept_nil hdf] at hp; cases hp⟩
 rw [getF_args,if_neg (by omega)]
 show DenX X hin X.ids0 X.w0 (args.getD (d - 0) .any) _
 rw [Nat.sub_zero,List.getD_eq_getElem?_getD]
 by_cases hd:d < args.length
 ·have:=hvd d (args[d]) (List.getElem?_eq_getElem hd)
  rw [List.getElem?_eq_getElem hd,Option.getD_some]
  rw [Array.getD_eq_getD_getElem?,Array.getElem?_append_left (by omega),← Array.getD_eq_getD_getElem?]
  exact this
 ·rw [List.getElem?_eq_none (by omega)]; exact .any
theorem specD_of {P:Program} {f:FuncId} {fn:Func} {c:Code} {args:List SV} {hin:Hp} {m:Nat} {Post:SV→Hp→Nat→Prop}
  (hf:P.funcs[f]? = some fn) (hb:fn.body = some c) (hl:Nat.ble args.length fn.ntmps = true) (hc:codeOk fn.ntmps c = true)
  (h:Swp P m fn.ntmps c (endS P fn.results.toList m Post) (frArgs 0 args) hin m):SpecD P f args hin m Post:=by
 intro X vals hP hm hdf0 hH hvs hvd u
 subst hP; subst hm
 refine callsD_of_wp hf hb (wp_mono (swp_sound (draw_ok _) c _ _ _ _ _ _ (.of hc hdf0) (args_st hdf0 (by simpa using hl) hH hvs hvd) h) fun e a w he=>?_)
 have fin:∀ {fr hp nx},(resW X.P fr hp nx fn.results.toList fun xs=>RetW X.P X.m Post (oneOf xs) hp)→StX X fn.ntmps fr hp nx a w→a.defers = []∧∃ v,(results fn a.tmps).run X.P w = .ok v w∧RX X Post (.returned v) w:=by
  rintro fr hp nx hr ⟨ids,hH,hF,hN,hdf⟩
  exact ⟨hdf.1.trans hdf0,fin_sound hr hH hF⟩
 cases e with
 | normal=>obtain ⟨fr,hp,nx,hk,hs⟩:=he; exact fin hk hs
 | ret=>obtain ⟨fr,hp,nx,hk,hs⟩:=he; exact fin hk hs
 | exit id=>obtain ⟨fr,hp,nx,hk,hs⟩:=he; exact hk.elim
 | _=>exact he.elim
def dfOps (ops:Array Oper):Option (Nat×Nat×Nat):=match ops.toList with
 | [o1,o2]=>match o1.dst,o1.op,o1.guard with
  | some t,.makeFunc (.func f) fs cs,none=>match o2.dst,o2.op,o2.guard with
   | none,.defer cl,none=>match fs.toList,cs.toList,cl.callee,cl.args.toList with
    | [],[.tmp c],.value (.tmp t'),[]=>bif Nat.beq t t' && !Nat.beq t c then some (t,c,f) else none
    | _,_,_,_=>none
   | _,_,_=>none
  | _,_,_=>none
 | _=>none
def DfEnd (P:Program) (f1 c:Nat) (rs:List ResultVar) (m:Nat) (Post:SV→Hp→Nat→Prop) (fr:Fr) (hp:Hp) (nx:Nat):Prop :=
∃(args':List SV) (hin:Hp) (mm:Nat) (PostD:SV→Hp→Nat→Prop) (σ:Nm→Option Nm) (bor:List Nm),SpecD P f1 args' hin mm PostD∧Sub P (getH hp) (getH hin) σ (InK bor)∧SigOk σ∧(∀ k:Nm,mm≤k.base→σ k = none∧getH hin k = .unborn)∧(∀ k1 k2 j,σ k1 = some j→σ k2 = some j→k1 = k2)∧(∀ k j,σ k = some j→(getH hin k).live = true∨(getH hin k = .dead∧getH hp j = .dead)∨(getH hin k = .void∧getH hp j = .void))∧args'.length = 1∧(∀ (y:SV),args'[0]? = some y→LeS P (getH hp) (getH hin) σ (InK bor) (getF fr c) y) ∧
 ∀res hp' nx',PostD res hp' nx'→wfH hp' = true∧(bor = []∨(res.nim = true∧nimH hp' = true))∧∃ u,getH (back σ nx mm hp' hp++hp) = getH (u++hp)∧endS P rs m Post .ret fr (u++hp) (nx+nx')
def DfQ (P:Program) (f1 c:Nat) (rs:List ResultVar) (m:Nat) (Post:SV→Hp→Nat→Prop):SPost
 | .exit _=>fun _ _ _=>False
 | _=>DfEnd P f1 c rs m Post
theorem callsD_mono {P:Program} {f:FuncId} {vals:Array Value} {u:FrameMode} {w:World} {R R2:Ending→FrameMode→World→Prop} (h:CallsD P f vals u w R) (g:∀ e u w,R e u w→R2 e u w):CallsD P f vals u w R2:=fun c cs hc=>by
 obtain ⟨e,u',w',fr,h1,h2⟩:=h c cs hc
 exact ⟨e,u',w',fr,g _ _ _ h1,h2⟩
theorem dfEnd_sound {X : Cx} (hX : X.df = []) {fn fn1 : Func} {body1 : Code} {N f1 c : Nat} {Post : SV → Hp → Nat → Prop} {fr : Fr} {a : Act} {v : Value} (hf1 : X.P.funcs[f1]? = some fn1) (hb1 : fn1.body = some body1) (hn1 : fn1.name ≠ "runtime.NumGoroutine")
  (h:DfEnd X.P f1 c fn.results.toList X.m Post fr hp nx) (hH:HeapF X hp nx ids w) (hF:∀ d,DenX X hp ids w (getF fr d) (a.tmps.getD d undef)) (hv:a.tmps.getD c undef = v) :
  Go.Leaves X.P fn a.tmps (RX X Post) [{ target:=.fn (.func f1) #[v],args:=#[] }] .returning w:=by
 obtain ⟨args',hin,mm,PostD,σ,bor,hspec,hS,hsig,hσm,hσi,hσl,hal,hargs,hpost⟩:=h
 have hrun:(invoke (.fn (.func f1) #[v]) #[]).run X.P w = .ok (.enter f1 #[v]) w:=by
  unfold invoke callFunc
  have hnm' : (fn1.name == "runtime.NumGoroutine") = false := by simpa using hn1
  simp [Sem.run_bind,run_program,Result.andThen_ok,hf1,hnm',hb1,Sem.run_pure,hn1]
 refine leaves_cons (by simp) hrun ?_
 have hc:=call_soundG (X:=X) (nx:=nx) (Cal:=fun vals w R=>CallsD X.P f1 vals .returning w fun e u' w'=>u' = .returning∧R e w') (fun h g=>callsD_mono h fun e u w hh=>⟨hh.1,g _ _ hh.2⟩) hH.toHeapC hH.m_le (args:=[getF fr c]) (args':=args') (hin:=hin) (m:=mm) (Post:=PostD) (fun Y vals h1 h2 h3 hH hs hv=>by
   have:=hspec Y vals h1 h2 h3 hH hs hv .returning
   exact this) hS hsig hσm hσi hσl (by rw [hal]; rfl) (fun i x y hx hy=>by
   cases i with
   | zero=>simp at hx; subst hx; exact hargs y hy
   | succ i=>simp at hx) (vals:=#[v]) rfl (fun i x hx=>by
   cases i with
   | zero=>simp at hx; subst hx; have:=hF c; rw [hv] at this; exact this
   | succ i=>simp at hx)
 refine callsD_mono hc fun e u' w' he=>?_
 obtain ⟨rfl,r,res,hp',nx',rfl,hp3,⟨hfr2,hmle⟩,himp⟩:=he
 obtain ⟨hwf,hbor,u,hu,hk⟩:=hpost _ _ _ hp3
 obtain ⟨ids2,g1,g2,g3⟩:=himp ⟨hwf,fun k hk=>hH.fresh _ (by simp),hbor.imp (fun hb k hk=>by rw [hb] at hk; exact inK_nil k hk) id⟩
 have hk2:=back_keys (nx:=nx) hS hsig (fun k hk=>(hσm k hk).1) hσl hwf hmle hfr2 (bor.map Nm.key)
 have hk:resW X.P fr (u++hp) (nx+nx') fn.results.toList fun xs=>RetW X.P X.m Post (oneOf xs) (u++hp):=hk
 have hF2:=frame_ext g2 hF
 exact fin_sound hk ⟨g1.congr hu,fun k hk=>by rw [← hu]; exact fresh_upd hH.fresh hk2 hk,Nat.le_trans hH.m_le hk2.le⟩ fun d=>DenX.congr (hF2 d) hu
theorem codeKp_val (c:Nat) (v v':Value):∀ z:Code,codeKp [(c,v)] z = codeKp [(c,v')] z:=by
 intro z
 induction z <;> simp_all [codeKp,dstKp,kpFree]
theorem df_code {X : Cx} (hX : X.df = []) {fn fn1 : Func} {body1 z : Code} {N id t c f1 : Nat} {ops : Array Oper} {Post : SV → Hp → Nat → Prop} {fr : Fr} {a : Act} (ho : dfOps ops = some (t, c, f1)) (ht : Nat.blt t N = true) (hf1 : X.P.funcs[f1]? = some fn1) (hb1 : fn1.body = some body1) (hn1 : fn1.name ≠ "runtime.NumGoroutine")
  (hz:codeOk N z = true) (hk:codeKp [(c,undef)] z = true) (h:Swp X.P X.m N z (DfQ X.P f1 c fn.results.toList X.m Post) ((t,.any)::fr) hp nx) (hs:StX X N fr hp nx a w) :
  (Code.seq (.region id ops false) z).wp X.P (bodyPostD X.P fn (RX X Post)) a w:=by
 obtain ⟨ids,hH,hF,hN,hdf⟩:=hs
 unfold dfOps at ho
 split at ho <;> try (cases ho; done)
 rename_i o1 o2 hops
 split at ho <;> try (cases ho; done)
 rename_i t1 f fs cs hd1 ho1 hg1
 split at ho <;> try (cases ho; done)
 rename_i cl hd2 ho2 hg2
 split at ho <;> try (cases ho; done)
 rename_i c1 t2 hfs hcs hcl hca
 rw [Bool.cond_eq_ite] at ho
 split at ho <;> try (cases ho; done)
 rename_i hb
 simp only [Option.some.injEq,Prod.mk.injEq] at ho
 obtain ⟨rfl,rfl,rfl⟩:=ho
 simp only [Bool.and_eq_true,Nat.beq_eq,Bool.not_eq_true',Nat.blt_eq] at hb ht
 obtain ⟨rfl,hne⟩:=hb
 have hne:t1≠c1:=fun e=>by subst e; simp at hne
 have hfs:fs = #[]:=Array.toList_inj.1 hfs
 have hcs:cs = #[.tmp c1]:=Array.toList_inj.1 hcs
 have hops:ops = #[o1,o2]:=Array.toList_inj.1 hops
 obtain ⟨callee,cargs,cty⟩:=cl
 simp only at hcl hca
 have hca:cargs = #[]:=Array.toList_inj.1 hca
 subst hfs; subst hcs; subst hops; subst hca; subst hcl
 generalize hv:a.tmps.getD c1 undef = v
 refine wp_seq (wp_region ?_)
 show wpOps X.P #[o1,o2] _ [0,1] a w
 rw [wpOps_cons]
 have r1:(execOp a.eval o1).run X.P w = .ok (.value (.func (.func f) #[] #[v])) w:=by
  unfold execOp
  rw [ho1]
  simp [Instr.makeFunc,Sem.run_pure,Sem.run_bind,Result.andThen_ok,Act.eval,hv]
 refine wpOp_of (o:=o1) rfl (by unfold Region.wanted; rw [hg1]) ?_
 unfold Oper.wp
 rw [r1]
 show wpOps X.P #[o1,o2] _ [1] (a.put o1.dst _) w
 rw [wpOps_cons,hd1]
 have e1:(a.put (some t1) (.func (.func f) #[] #[v])).eval (.tmp t1) = .func (.func f) #[] #[v]:=by
  show ((a.put (some t1) _).tmps.getD t1 undef) = _
  simp only [Act.put]
  rw [Array.getD_eq_getD_getElem?,Array.getElem?_setIfInBounds_self_of_lt (by omega)]; rfl
 have r2:(execOp (a.put (some t1) (.func (.func f) #[] #[v])).eval o2).run X.P w = .ok (.defer { target:=.fn (.func f) #[v],args:=#[] }) w:=by
  unfold execOp
  rw [ho2]
  simp only [resolve]
  rw [e1]
  simp [Deferred.ofValue,Sem.run_pure,Sem.run_bind,Result.andThen_ok]
 refine wpOp_of (o:=o2) rfl (by unfold Region.wanted; rw [hg2]) ?_
 unfold Oper.wp
 rw [r2,Oper.upon_defer,hd2]
 show z.wp X.P _ _ w
 refine wp_mono (swp_sound (X:={ X with df:=[{ target:=.fn (.func f) #[v],args:=#[] }],kp:=[(c1,v)] }) (draw_ok _) z _ ((t1,.any)::fr) hp nx _ w ⟨hz,by
   show codeKp [(c1,v)] z = true
   rw [codeKp_val c1 v undef]; exact hk⟩ ⟨ids,hH.df _ _,fun d=>?_,?_,?_,?_⟩ h) fun e a' w' he=>?_
 ·show DenX X hp ids w (getF ((t1,.any)::fr) d) (((a.put (some t1) _).put none undef).tmps.getD d undef)
  exact frame_put hF hN (dst:=some t1) (fun d hd=>by cases hd; exact ht) .any d
 ·show ((a.put (some t1) _).put none undef).tmps.size = N
  rw [put_size,put_size]; exact hN
 ·show _::(a.put (some t1) _).defers = _
  rw [put_defers,hdf.1,hX]
 ·intro p hp
  have hp:p = (c1,v):=by
   have:p ∈ [(c1,v)]:=hp
   simpa using this
  subst hp
  show (a.put (some t1) _).tmps.getD c1 undef = v
  simp only [Act.put]
  rw [Array.getD_eq_getD_getElem?,Array.getElem?_setIfInBounds_ne hne,← Array.getD_eq_getD_getElem?]
  exact hv
 ·have fin:∀ {fr hp nx},DfEnd X.P f c1 fn.results.toList X.m Post fr hp nx→StX { X with df:=[{ target:=.fn (.func f) #[v],args:=#[] }],kp:=[(c1,v)] } N fr hp nx a' w'→Go.Leaves X.P fn a'.tmps (RX X Post) a'.defers .returning w':=by
   rintro fr hp nx hk ⟨ids,hH,hF,hN,hdf⟩
   rw [hdf.1]
   exact dfEnd_sound hX (N:=N) hf1 hb1 hn1 hk hH.undf hF (hdf.2 (c1,v) (List.mem_singleton.2 rfl))
  cases e with
  | normal=>obtain ⟨fr,hp,nx,hk,hs⟩:=he; exact fin hk hs
  | ret=>obtain ⟨fr,hp,nx,hk,hs⟩:=he; exact fin hk hs
  | exit id=>obtain ⟨fr,hp,nx,hk,hs⟩:=he; exact hk.elim
  | _=>exact he.elim
def DfGo (P:Program) (m N:Nat) (z:Code) (t c f1:Nat) (rs:List ResultVar) (Post:SV→Hp→Nat→Prop) (fr:Fr) (hp:Hp) (nx:Nat):Prop:=Swp P m N z (DfQ P f1 c rs m Post) ((t,.any)::fr) hp nx
theorem spec_df2 {P:Program} {f:FuncId} {fn fn1:Func} {A1 A2 z body1:Code} {id:Nat} {ops:Array Oper} {args:List SV} {hin:Hp} {m:Nat} {Post:SV→Hp→Nat→Prop} (t c f1:Nat)
  (hf : P.funcs[f]? = some fn) (hb : fn.body = some (.seq A1 (.seq A2 (.seq (.region id ops false) z)))) (hn : fn.name ≠ "runtime.NumGoroutine") (hf1 : P.funcs[f1]? = some fn1) (hb1 : fn1.body = some body1) (hn1 : fn1.name ≠ "runtime.NumGoroutine")
  (hl:Nat.ble args.length fn.ntmps = true) (hc:(codeOk fn.ntmps A1,codeOk fn.ntmps A2,codeOk fn.ntmps z,codeKp [(c,undef)] z,Nat.blt t fn.ntmps) = (true,true,true,true,true)) (ho:dfOps ops = some (t,c,f1))
  (h:Swp P m fn.ntmps (.seq A1 (.seq A2 .skip)) (QA P fn.results.toList m Post (DfGo P m fn.ntmps z t c f1 fn.results.toList Post)) (frArgs 0 args) hin m):SpecW P f args hin m Post:=by
 simp only [Prod.mk.injEq] at hc
 obtain ⟨c1,c2,c3,c4,c5⟩:=hc
 refine ⟨⟨fn,_,hf,hb,hn⟩,fun X vals hP hm hdf0 hH hvs hvd=>?_⟩
 subst hP; subst hm
 refine calls_of_wp_defers hf hb ?_
 refine cat_sound (z:=.seq (.region id ops false) z) (draw_ok _) hdf0 (fun fr hp nx a w hr hs=>df_code hdf0 ho c5 hf1 hb1 hn1 c3 c4 hr hs) [A1,A2] _ _ _ _ _ (by simp [c1,c2]) h (args_st hdf0 (by simpa using hl) hH hvs hvd)
theorem df_end_x {P:Program} {m:Nat} {fr:Fr} {f1 c:Nat} {rs:List ResultVar} {Post:SV→Hp→Nat→Prop} {args':List SV} {hin:Hp} {mm:Nat} {X:SV} {H:Hp} {nn:Nat}
  (spec:SpecD P f1 args' hin mm (fun x h n=>x = X∧h = H∧n = nn)) (a0:SV) (ha:getF fr c = a0) (hpL:Hp) (nxL:Nat) (hh:(keepH hp hpL,coverH hp hpL,nx) = (hpL,true,nxL)) (σ:List (Nm×Nm)) (bor:List Nm) (hpB:Hp)
  (h1:leL hpL hin σ bor [a0] args') (h2:leH hpL hin σ bor hin) (h3:(okN 0 σ bor,okH 0 mm σ hin,okC mm hin σ,wfH H) = (true,true,true,true))
  (h6:bor = []∨(X.nim = true∧nimH H = true)) (e2:back (getN σ) nxL mm H hpL = hpB)
  (k:endS P rs m Post .ret fr (hpB++hp) (nxL+nn)) (hfam:famOk hpL hin σ:=by simp only [famOk,and_self]):DfEnd P f1 c rs m Post fr hp nx:=by
 simp only [Prod.mk.injEq] at hh h3
 obtain ⟨g1,g2,rfl⟩:=hh
 obtain ⟨h3,h4,h5,h7⟩:=h3
 have eh:=keep_getH (show (keepH hp hpL,coverH hp hpL) = (hpL,true) by rw [g1,g2])
 obtain ⟨l1,l2⟩:=leL_get h1
 have hok:=handed_ok h5 hfam
 have inj:∀ k1 k2 j,getN σ k1 = some j→getN σ k2 = some j→k1 = k2:=by
  simp only [okN,Bool.and_eq_true] at h3
  exact nodupN_inj h3.1.1 h3.1.2
 have fresh:∀ k:Nm,mm≤k.base→getN σ k = none∧getH hin k = .unborn:=fun k hk=>⟨by
  cases hn:getN σ k with
  | none=>rfl
  | some j=>have:=(hok k j hn).1; omega,okH_fresh h4 k hk⟩
 have eb:back (getN σ) nx mm H hp = hpB:=by
  rw [← e2]
  exact back_local (fun k hk=>(fresh k hk).1) (getN_sig σ) (fun k _=>by rw [eh]) H
 subst eb
 refine ⟨args',hin,mm,_,getN σ,bor,spec,by rw [eh]; exact sub_mk h2 h3,getN_sig σ,fresh,inj,fun k j hk=>by rw [eh]; exact (hok k j hk).2,by rw [← l1]; rfl,fun y hy=>by rw [eh,ha]; exact leS_sound (l2 0 a0 y rfl hy),?_⟩
 rintro _ _ _ ⟨rfl,rfl,rfl⟩
 exact ⟨h7,h6,_,rfl,k⟩
theorem df_go {P:Program} {m N:Nat} {z:Code} {t c f1:Nat} {rs:List ResultVar} {Post:SV→Hp→Nat→Prop} {fr:Fr} (h:Swp P m N z (DfQ P f1 c rs m Post) ((t,.any)::fr) hp nx):Swp P m N .skip (QA P rs m Post (DfGo P m N z t c f1 rs Post)) fr hp nx:=h
theorem qa_ret {P:Program} {rs:List ResultVar} {m:Nat} {Post:SV→Hp→Nat→Prop} {R:Fr→Hp→Nat→Prop} {fr:Fr} (h:endS P rs m Post .ret fr hp nx):QA P rs m Post R .ret fr hp nx:=h
attribute [push_cast] leS_erer leS_ernil leS_erpan
@[push_cast] theorem ren_er (τ:Nm→Nm) (a b c:Nat) (e:Err):renS τ (.er a b c e) = .er a b c e:=by unfold renS; rfl
theorem ex_row0 (e d:TypeId) (a b:Int) (h:Chunk.row e [iS a] = .row d [.v (.int .i64 b)]):a = b:=by
 have h2:e = d∧a = b:=by simpa [iS] using h
 exact h2.2
@[push_cast] theorem ex_row (e:TypeId) (a b:Int):(∃ d,Chunk.row e [iS a] = .row d [.v (.int .i64 b)]) = (a = b) :=
 propext ⟨fun ⟨d,h⟩=>ex_row0 e d a b h,fun h=>by subst h; exact ⟨e,rfl⟩⟩
def Err.isPan:Err→Bool
 | .pan _=>true
 | _=>false
def Err.val:Err→Int
 | .pan v=>v
 | _=>0
end Go.Sx
end

section
namespace Go.Sx
set_option linter.unusedVariables false
set_option linter.unusedSimpArgs false
open Go.RowKit
variable {P:Program} {X:Cx} {hp hp':Hp} {nx:Nat} {ids:Ids} {w:World}
def Shorter (c c':Chunk):Prop:=c' = c∨∃ e cs n,c = .row e cs∧c' = .row e (cs.take n)
theorem Shorter.live {c c':Chunk} (h:Shorter c c'):c'.live = c.live:=by
 rcases h with rfl | ⟨e,cs,n,rfl,rfl⟩ <;> rfl
theorem heap_shorter (h:HeapC X hp ids w) (hs:∀ k,Shorter (getH hp k) (getH hp' k)):HeapC X hp' ids w∧ExtX X hp ids w hp' ids w:=by
 have lv:∀ k,(getH hp' k).live = (getH hp k).live:=fun k=>(hs k).live
 have hE:ExtX X hp ids w hp' ids w:=by
  refine ⟨fun b hb=>⟨⟨hb.1,hb.2.1,fun j hj o hi=>hb.2.2 j (by rw [← lv]; exact hj) o hi⟩,rfl⟩,fun j hj=>?_,fun j hj=>.inr ⟨by rw [lv]; exact hj,rfl,?_,fun _ _ _=>SameShape.refl _⟩⟩
  ·rcases hs j with h1 | ⟨e,cs,n,h1,_⟩
   ·rw [h1]; exact hj
   ·rw [h1] at hj; cases hj
  ·rcases hs j with h1 | ⟨e,cs,n,h1,h2⟩
   ·rw [h1]; exact SameKind.refl hj
   ·rw [h1,h2]; exact ⟨rfl,by simp; omega⟩
 refine ⟨⟨⟨fun k=>?_,fun k k' b o o' hk hk'=>h.st.inj k k' b o o' (by rw [← lv]; exact hk) (by rw [← lv]; exact hk'),fun k b o hk=>h.st.lt k b o (by rw [← lv]; exact hk),h.st.im0,h.st.evol,h.st.os,h.st.tape,h.st.output,h.st.size⟩,fun k hk h0 hl=>?_,fun k hk hv=>?_⟩,hE⟩
 ·have hc:=h.st.ch k
  rcases hs k with h1 | ⟨e,cs,n,h1,h2⟩
  ·rw [h1]
   by_cases hl:(getH hp k).live = true
   ·exact hc.mono hE rfl fun _ _ _=>rfl
   ·cases hcc:getH hp k with
    | unborn=>trivial
    | void=>trivial
    | dead=>trivial
    | fam g=>trivial
    | row e cs=>rw [hcc] at hl; exact absurd rfl hl
    | map es=>rw [hcc] at hl; exact absurd rfl hl
    | obj s p=>rw [hcc] at hl; exact absurd rfl hl
  ·rw [h1] at hc
   rw [h2]
   simp only [DenC] at hc ⊢
   cases hid:ids k with
   | none =>
    rw [hid] at hc
    simp only at hc ⊢
    rw [hc]; simp
   | some bo =>
    obtain ⟨b,o⟩:=bo
    rw [hid] at hc
    simp only at hc ⊢
    obtain ⟨arr,a1,a2,a3⟩:=hc
    refine ⟨arr,a1,by simp only [List.length_take]; omega,fun i x hi=>?_⟩
    rw [List.getElem?_take] at hi
    split at hi
    ·exact (a3 i x hi).mono hE
    ·cases hi
 ·have hl0:(getH hp k).live = true:=by rw [← lv]; exact hl
  exact (h.kept k hk h0 hl0).step hE hl0 hl
 ·rcases hs k with h1 | ⟨e,cs,n,h1,h2⟩
  ·rw [h1] at hv; exact h.nov k hk hv
  ·rw [h2] at hv; cases hv
section
variable {α:Type} [Enc α]
theorem flD_take (D:DE α) (Fs:List Nat) (xs:List α) (n:Nat):flD D Fs (xs.take n) = (flD D Fs xs).take ((xs.take n).length * Enc.sz α):=by
 have h:flD D Fs xs = flD D Fs (xs.take n)++flN D (nF Fs) (0+(xs.take n).length) (xs.drop n):=by
  unfold flD
  rw [← flN_append,List.take_append_drop]
 rw [h,List.take_left' (flD_length D Fs _)]
theorem ghost_cutD {D:DE α} {xs ys:List α} {k F e et n:Nat} {g:α→List SV} (hR:getH hp (.t k) = .row e (flD D [F] xs)) (hF:getE hp (.s F 0) = .fam (famD D 0 xs)) (hy:ys = xs.take n) (ht:∀ a,chD D 0 a = .row et (g a)) (hd:g default = []) :
  Ghost P nx 0 [.t k,.s F 0] hp [(.s F 0,.fam (famD D 0 ys)),(.t k,.row e (flD D [F] ys))]:=by
 intro X ids w hp' hP hm h hrd hf
 have hRr:getH hp' (.t k) = .row e (flD D [F] xs):=(hrd (.t k) (by simp)).trans hR
 have hFi:∀ i,getH hp' (.s F i) = famD D 0 xs i:=fun i=>by
  rw [hrd (.s F i) (by simp [Nm.key]),getE_fam hF i,at_famD]
 have look:∀ j,Shorter (getH hp' j) (getH ([(.s F 0,.fam (famD D 0 ys)),(.t k,.row e (flD D [F] ys))]++hp') j):=fun j=>by
  by_cases hF2:∃ i,j = .s F i
  ·obtain ⟨i,rfl⟩:=hF2
   have e1:getH ([(.s F 0,.fam (famD D 0 ys)),(.t k,.row e (flD D [F] ys))]++hp') (.s F i) = famD D 0 ys i:=by
    simp only [List.cons_append,getH,Nm.eqk,beq_self_eq_true,cond_true,Chunk.mem]; exact at_famD D 0 ys i
   rw [e1,hFi]
   subst hy
   unfold famD
   by_cases hi:0≤i
   ·obtain ⟨m,rfl⟩:=Int.eq_ofNat_of_zero_le hi
    rw [ixD_nat,ixD_nat]
    by_cases hmn:m < n
    ·left
     rw [List.getD_eq_getElem?_getD,List.getD_eq_getElem?_getD,List.getElem?_take_of_lt hmn]
    ·right
     refine ⟨et,_,0,ht _,?_⟩
     rw [ht,List.getD_eq_getElem?_getD,List.getElem?_eq_none (by simp; omega),Option.getD_none,hd]
     rfl
   ·left
    unfold ixD
    rw [decide_eq_false hi]; rfl
  ·by_cases hK:j = .t k
   ·subst hK
    have e1:getH ([(.s F 0,.fam (famD D 0 ys)),(.t k,.row e (flD D [F] ys))]++hp') (.t k) = .row e (flD D [F] ys):=by
     simp [getH,Nm.eqk,Chunk.mem]
    rw [e1,hRr]
    subst hy
    exact .inr ⟨e,_,_,rfl,by rw [flD_take]⟩
   ·left
    rw [getH_append,if_neg]
    rintro ⟨p,hp1,hpk⟩
    simp only [List.mem_cons,List.not_mem_nil,or_false] at hp1
    rcases hp1 with rfl | rfl
    ·cases j with
     | t a=>simp [Nm.key] at hpk
     | s G i =>
      simp only [Nm.key_s,Nm.s.injEq,and_true] at hpk
      exact hF2 ⟨i,by rw [hpk]⟩
    ·cases j with
     | t a=>simp only [Nm.key_t,Nm.t.injEq] at hpk; exact hK (by rw [hpk])
     | s G i=>simp [Nm.key] at hpk
 obtain ⟨g1,g2⟩:=heap_shorter h look
 exact ⟨ids,g1,g2⟩
theorem ob_cutD {α:Type} [Enc α] (ys:List α) (b:Int) (z nx:Nat) (k:Nm) (e:TypeId) (hz:P.cellsOf e = z) (hb:0≤(0:Int)∧(0:Int)≤b∧b≤(ys.length:Int)):resOb (.ok (P.cellsOf e = z∧0≤(0:Int)∧(0:Int)≤b∧b≤(ys.length:Int)) ⟨.own k (0+(0:Int).toNat * z) (b.toNat - (0:Int).toNat),[],nx,[k.key]⟩) ⟨.own k 0 (cut ys (0:Int) b).length,[],nx,[k.key]⟩ :=
 ob_ok ⟨hz,hb⟩ (by rw [cut_len ys 0 b hb]; simp) rfl
theorem cut_pre {α:Type} (xs:List α) (h:Int):cut xs (0:Int) h = xs.take h.toNat:=by simp [cut]
end
end Go.Sx
end

section
namespace Go.Proofs.YteelocnklamegaaDoor
open Go Go.Sx
set_option linter.unusedVariables false
theorem vals2 {vals:Array Value} (h:vals.size = 2):∃ a b,vals = #[a,b]:=by
 obtain ⟨l⟩:=vals
 match l,h with
 | [a,b],_=>exact ⟨a,b,rfl⟩
theorem fe_is_spec (e:Err):SpecW Tryd.prog 19 [.er 48 91 0 e,.er 48 91 0 .tired] [] 0 (fun x h n=>x = bS (decide (e = .tired))∧h = []∧n = 0):=by
 refine ⟨⟨_,_,Tryd.func19,rfl,by decide⟩,fun X vals hP hm hdf hF hsz hd=>?_⟩
 obtain ⟨v0,v1,rfl⟩:=vals2 hsz
 have h0:DenX X _ X.ids0 X.w0 (.er 48 91 0 e) v0:=hd 0 _ rfl
 have h1:DenX X _ X.ids0 X.w0 (.er 48 91 0 .tired) v1:=hd 1 _ rfl
 cases h1 with
 | erT a hb hc =>
  cases h0 with
  | erN =>
   refine (fe_is_nil a X.w0).mono fun ex w' hx=>?_
   obtain ⟨rfl,rfl⟩:=hx
   exact ⟨_,_,[],0,X.ids0,rfl,⟨rfl,rfl,rfl⟩,hF,.v⟩
  | erP b o hb' hc' =>
   refine (fe_is_other _ a X.w0).mono fun ex w' hx=>?_
   obtain ⟨rfl,rfl⟩:=hx
   exact ⟨_,_,[],0,X.ids0,rfl,⟨rfl,rfl,rfl⟩,hF,.v⟩
  | erT a' hb' hc' =>
   rw [hc] at hc'
   cases hc'
   refine (fe_is_same a X.w0).mono fun ex w' hx=>?_
   obtain ⟨rfl,rfl⟩:=hx
   exact ⟨_,_,[],0,X.ids0,rfl,⟨rfl,rfl,rfl⟩,hF,.v⟩
theorem fe_glob {X:Cx} (hP:X.P = Tryd.prog):X.w0.cell? ⟨1,0,none⟩ = some (.iface 76 (.agg #[.pointer (some ⟨2,46,none⟩)])):=by
 have hg:=X.gl
 rw [hP] at hg
 obtain ⟨_,h⟩:=hg 1 [.v (.iface 76 (.agg #[.pointer (some ⟨2,46,none⟩)]))] (by kernel_rfl)
 obtain ⟨y,h1,h2⟩:=h 0 _ rfl
 have h2:y = .iface 76 (.agg #[.pointer (some ⟨2,46,none⟩)]):=h2
 rw [h1,h2]
theorem fe_cell {X:Cx} {v1:Value} (hF:HeapF X [(0,.row 48 [.v (.pointer none)])] 1 X.ids0 X.w0) (hd:DenX X [(0,.row 48 [.v (.pointer none)])] X.ids0 X.w0 (.ifc 51 (.ptr 0 0)) v1) :
 ∃b o arr,v1 = .iface 51 (.pointer (some ⟨b,o,none⟩))∧X.ids0 0 = some (b,o)∧X.w0.heap[b]? = some (.cells arr 48 (0,0))∧o+1≤arr.size∧X.w0.cell? ⟨b,o,none⟩ = some (.pointer none)∧X.w0.frozen? ⟨b,o,none⟩ = false∧b < X.w0.heap.size:=by
 obtain ⟨z,rfl,hz⟩:=den_ifc hd
 obtain ⟨b,o,hi,rfl⟩:=den_ptr hz rfl
 have hch:=hF.st.ch 0
 have hgc:getH [(0,Chunk.row 48 [.v (.pointer none)])] 0 = .row 48 [.v (.pointer none)]:=rfl
 rw [hgc] at hch
 simp only [DenC,hi] at hch
 obtain ⟨arr,hw,hl,hx⟩:=hch
 have hv:=den_v (hx 0 _ rfl)
 have hl':o+1≤arr.size:=by simpa using hl
 rw [Nat.add_zero,Array.getD_eq_getD_getElem?,Array.getElem?_eq_getElem (by omega),Option.getD_some] at hv
 refine ⟨b,o,arr,rfl,hi,hw,hl',?_,?_,(hF.st.lt 0 b o rfl hi).1⟩
 ·simp only [World.cell?,hw]
  simp [Array.getElem?_eq_getElem (show o < arr.size by omega),hv]
 ·simp [World.frozen?,hw]
theorem fe_as_miss_spec (e:Err) (hK:Err.isPan e = false):SpecW Tryd.prog 20 [.er 48 91 0 e,.ifc 51 (.ptr 0 0)] [(0,.row 48 [.v (.pointer none)])] 1 (fun x h n=>x = bS false∧h = [(0,.row 48 [.v (.pointer none)])]∧n = 1):=by
 refine ⟨⟨_,_,Tryd.func20,rfl,by decide⟩,fun X vals hP hm hdf hF hsz hd=>?_⟩
 obtain ⟨v0,v1,rfl⟩:=vals2 hsz
 have h0:DenX X _ X.ids0 X.w0 (.er 48 91 0 e) v0:=hd 0 _ rfl
 obtain ⟨b,o,arr,rfl,hi,hw,hl,hc,hf,hb⟩:=fe_cell hF (hd 1 _ rfl)
 cases h0 with
 | erN =>
  refine (fe_as_nil _ X.w0).mono fun ex w' hx=>?_
  obtain ⟨rfl,rfl⟩:=hx
  exact ⟨_,_,_,1,X.ids0,rfl,⟨rfl,rfl,rfl⟩,hF,.v⟩
 | erP b o hb' hc'=>cases hK
 | erT a hb' hc' =>
  refine (fe_as_miss a ⟨b,o,none⟩ _ X.w0 (fe_glob hP) hc hf).mono fun ex w' hx=>?_
  obtain ⟨rfl,rfl⟩:=hx
  have ho:=heap_on hF.toHeapC (w':=(((X.w0.alloc (.cells #[.pointer (some ⟨b,o,none⟩)] 51)).alloc (.cells #[.pointer (some ⟨2,51,none⟩),.pointer (some ⟨X.w0.heap.size,0,none⟩),.int .u64 150] 68)).alloc (.cells #[.pointer (some ⟨2,51,none⟩),.pointer (some ⟨X.w0.heap.size,0,none⟩),.int .u64 150] 68))) (by simp; omega) (fun c hc=>by
   rw [heap_alloc_lt _ _ _ (by simp; omega),heap_alloc_lt _ _ _ (by simp; omega),heap_alloc_lt _ _ _ hc]) rfl rfl rfl (Nat.le_refl _)
  exact ⟨_,_,_,1,X.ids0,rfl,⟨rfl,rfl,rfl⟩,⟨ho.1,hF.fresh,hF.m_le⟩,.v⟩
theorem fe_as_hit_spec (e:Err) (hK:Err.isPan e = true):SpecW Tryd.prog 20 [.er 48 91 0 e,.ifc 51 (.ptr 0 0)] [(0,.row 48 [.v (.pointer none)])] 1 (fun x h n=>x = bS true∧h = [(0,.row 48 [.iptr [iS (Err.val e)] 0])]∧n = 1):=by
 refine ⟨⟨_,_,Tryd.func20,rfl,by decide⟩,fun X vals hP hm hdf hF hsz hd=>?_⟩
 obtain ⟨v0,v1,rfl⟩:=vals2 hsz
 have h0:DenX X _ X.ids0 X.w0 (.er 48 91 0 e) v0:=hd 0 _ rfl
 obtain ⟨b,o,arr,rfl,hi,hw,hl,hc,hf,hb⟩:=fe_cell hF (hd 1 _ rfl)
 cases h0 with
 | erN=>cases hK
 | erT a hb' hc'=>cases hK
 | erP b2 o2 hb' hc' =>
  rename_i v
  refine (fe_as_hit ⟨b2,o2,none⟩ ⟨b,o,none⟩ _ X.w0 (fe_glob hP) hc hf).mono fun ex w' hx=>?_
  obtain ⟨rfl,rfl⟩:=hx
  have ht:=heap_turn hF.toX (k:=0) (cs:=[.v (.pointer none)]) (cs':=[.iptr [iS v] 0]) rfl hi hw (arr':=arr.setIfInBounds o (.pointer (some ⟨b2,o2,none⟩))) (by simp) hl (Nat.le_refl _) (fun i x hx=>by
   cases i with
   | succ i=>simp at hx
   | zero =>
    simp at hx; subst hx
    have e1:(arr.setIfInBounds o (Value.pointer (some ⟨b2,o2,none⟩))).getD (o+0) undef = .pointer (some ⟨b2,o2+0,none⟩):=by
     rw [Array.getD_eq_getD_getElem?,Nat.add_zero,Array.getElem?_setIfInBounds_self_of_lt (by omega)]; rfl
    rw [e1]
    exact .iptr b2 o2 (fun _=>.int .i64 v) hb' (fun i x hx=>by
     cases i with
     | succ i=>simp at hx
     | zero=>exact hc') (fun i x hx=>by
     cases i with
     | succ i=>simp at hx
     | zero=>simp at hx; subst hx; exact .v))
  have hat:=setRow_heap X.w0 b arr (arr.setIfInBounds o (.pointer (some ⟨b2,o2,none⟩))) 48 (0,0) hw
  have ho:=heap_on ht.1 (w':=((((X.w0.alloc (.cells #[.pointer (some ⟨b,o,none⟩)] 51)).alloc (.cells #[.pointer (some ⟨2,51,none⟩),.pointer (some ⟨X.w0.heap.size,0,none⟩),.int .u64 150] 68)).alloc (.cells #[.pointer (some ⟨2,51,none⟩),.pointer (some ⟨X.w0.heap.size,0,none⟩),.int .u64 150] 68)).alloc (.cells #[.pointer (some ⟨b2,o2,none⟩)] 48)).setCell ⟨b,o,none⟩ (.pointer (some ⟨b2,o2,none⟩))) (by simp [World.setRow,World.setCell]; omega) (fun c hc=>by
   have hc':c < X.w0.heap.size:=by simpa [World.setRow] using hc
   unfold World.setCell World.setRow
   simp only [Array.getElem?_modify]
   rw [heap_alloc_lt _ _ _ (by simp; omega),heap_alloc_lt _ _ _ (by simp; omega),heap_alloc_lt _ _ _ (by simp; omega),heap_alloc_lt _ _ _ hc']
   by_cases hcb:b = c
   ·subst hcb; simp [hw]
   ·simp [hcb]) rfl rfl rfl (Nat.le_refl _)
  refine ⟨_,_,_,1,X.ids0,rfl,⟨rfl,rfl,rfl⟩,⟨ho.1.congr ?_,fun k hk=>?_,hF.m_le⟩,.v⟩
  ·funext j
   match j with
   | .t 0=>rfl
   | .t (j+1)=>rfl
   | .s F i=>rfl
  ·match k,hk with
   | .t (j+1),_=>rfl
   | .s F i,_=>rfl
end Go.Proofs.YteelocnklamegaaDoor
end
