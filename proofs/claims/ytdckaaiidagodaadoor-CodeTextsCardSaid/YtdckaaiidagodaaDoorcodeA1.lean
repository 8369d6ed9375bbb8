/-
 Lemmas, put together: TxA, TxB, TxC, TxD, TxE, TxF, TxG, TxH, TxI, TxJ, TxK, TxL, TxM.
 No conditions.
-/
import Derived.WalkKit
import Derived.ProofKit
import Derived.Below
import Derived.Deep.MidRow
import Derived.Great.BuildSlice
import Derived.Laws.MakeOwn
import Derived.Deep.AppendSrc
import Derived.Deep.Upon
import Derived.Laws.IdiomStrings
import Derived.ChangeKeysEq
import Derived.Laws.StructEq
import Derived.DeepKeys3
set_option linter.unusedSimpArgs false
set_option linter.unusedVariables false
set_option linter.unusedSectionVars false
section
namespace Go.Sx
set_option linter.unusedVariables false
inductive Nm where
 | t (k:Nat)
 | s (F:Nat) (i:Int)
 deriving Inhabited
def Nm.eqb:Nm→Nm→Bool
 | .t a,.t b=>a == b
 | .s F i,.s G j=>F == G && i == j
 | _,_=>false
theorem Nm.eqb_iff {a b:Nm}:a.eqb b = true↔a = b:=by
 cases a <;> cases b <;> simp [Nm.eqb]
instance : BEq Nm:=⟨Nm.eqb⟩
instance : LawfulBEq Nm:={ eq_of_beq:=fun h=>Nm.eqb_iff.1 h,rfl:=fun {a}=>Nm.eqb_iff.2 rfl }
instance : DecidableEq Nm:=fun a b=>decidable_of_iff (a.eqb b = true) Nm.eqb_iff
instance (n:Nat):OfNat Nm n:=⟨.t n⟩
instance : Coe Nat Nm:=⟨.t⟩
def Nm.base:Nm→Nat
 | .t k=>k
 | .s F _=>F
def Nm.key:Nm→Nm
 | .t k=>.t k
 | .s F _=>.s F 0
@[simp] theorem Nm.base_t (k:Nat):(Nm.t k).base = k:=rfl
@[simp] theorem Nm.base_s (F:Nat) (i:Int):(Nm.s F i).base = F:=rfl
@[simp] theorem Nm.key_base (k:Nm):k.key.base = k.base:=by cases k <;> rfl
@[simp] theorem Nm.key_key (k:Nm):k.key.key = k.key:=by cases k <;> rfl
@[simp] theorem Nm.key_t (k:Nat):(Nm.t k).key = .t k:=rfl
@[simp] theorem Nm.key_s (F:Nat) (i:Int):(Nm.s F i).key = .s F 0:=rfl
theorem Nm.key_eq_t {k:Nm} {a:Nat}:k.key = .t a↔k = .t a:=by cases k <;> simp [Nm.key]
inductive Err where
 | nil
 | tired
 | pan (v:Int)
 deriving Inhabited,DecidableEq
inductive SV where
 | any
 | v (x:Value)
 | agg (xs:List SV)
 | tup (xs:List SV)
 | sl (n:Nat) (cs:List SV)
 | own (k:Nm) (off n:Nat)
 | ptr (k:Nm) (off:Nat)
 | iptr (cs:List SV) (off:Nat)
 | mp (k:Nm)
 | it (k:Nm)
 | clo (f:FuncId) (caps:List SV)
 | ifc (t:TypeId) (x:SV)
 | asl (k:Nm) (off n:Nat)
 | bp (k:Nm) (e:TypeId) (n:Nat)
 | mth (name:String) (x:SV)
 | er (tp te g:Nat) (e:Err)
 | gd (g:Bool) (x:SV)
 deriving Inhabited
inductive Chunk where
 | unborn
 | dead
 | void
 | row (e:TypeId) (cs:List SV)
 | map (es:List (Value×SV))
 | obj (s:ByteArray) (pos:Nat)
 | fam (g:Int→Chunk)
 deriving Inhabited
def Chunk.live:Chunk→Bool
 | .unborn=>false
 | .dead=>false
 | .void=>false
 | .fam _=>false
 | _=>true
abbrev Ids:=Nm→Option (Nat×Nat)
def OwnOk (P:Program) (C:Nm→Chunk) (ids:Ids) (w:World) (k:Nm) (off n:Nat) (a:Option Addr) (cap:Nat):Prop :=
 n≤cap∧cap≤maxLen∧(∀ e cs,C k = .row e cs→cs.length≤off+cap * P.cellsOf e)∧((n = 0∧cap = 0) ∨
 ∃b o e cs arr,C k = .row e cs∧ids k = some (b,o)∧a = some ⟨b,o+off,none⟩∧w.heap[b]? = some (.cells arr e (0,0))∧o+off+cap * P.cellsOf e≤arr.size)
inductive Den (P:Program) (C:Nm→Chunk) (ids:Ids) (I:Nat→Prop) (w:World):SV→Value→Prop
 | any {x}:Den P C ids I w .any x
 | v {x}:Den P C ids I w (.v x) x
 | agg {xs} (arr:Array Value) (h:xs.length = arr.size) (hx:∀ i x,xs[i]? = some x→Den P C ids I w x (arr.getD i undef)):Den P C ids I w (.agg xs) (.agg arr)
 | tup {xs} (arr:Array Value) (h:xs.length = arr.size) (hx:∀ i x,xs[i]? = some x→Den P C ids I w x (arr.getD i undef)):Den P C ids I w (.tup xs) (.tuple arr)
 | sl0 {a cap} (hc:cap≤maxLen):Den P C ids I w (.sl 0 []) (.slice a 0 cap)
 | sl {n cs} (b o cap:Nat) (c:Nat→Value) (hb:I b) (hn:n≤cap) (hcap:cap≤maxLen)
   (hc:∀ i x,cs[i]? = some x→w.cell? ⟨b,o+i,none⟩ = some (c i)) (hx:∀ i x,cs[i]? = some x→Den P C ids I w x (c i)):Den P C ids I w (.sl n cs) (.slice (some ⟨b,o,none⟩) n cap)
 | ownDead {k off n a n' cap} (h:C k = .dead):Den P C ids I w (.own k off n) (.slice a n' cap)
 | own {k off n} (a:Option Addr) (cap:Nat) (hl:(C k).live = true) (h:OwnOk P C ids w k off n a cap):Den P C ids I w (.own k off n) (.slice a n cap)
 | ptrDead {k off} (b q:Nat) (h:C k = .dead):Den P C ids I w (.ptr k off) (.pointer (some ⟨b,q,none⟩))
 | ptr {k off} (b o:Nat) (hl:(C k).live = true) (h:ids k = some (b,o)):Den P C ids I w (.ptr k off) (.pointer (some ⟨b,o+off,none⟩))
 | iptr {cs off} (b o:Nat) (c:Nat→Value) (hb:I b)
   (hc:∀ i x,cs[i]? = some x→w.cell? ⟨b,o+i,none⟩ = some (c i)) (hx:∀ i x,cs[i]? = some x→Den P C ids I w x (c i)):Den P C ids I w (.iptr cs off) (.pointer (some ⟨b,o+off,none⟩))
 | mpDead {k a} (h:C k = .dead):Den P C ids I w (.mp k) (.map a)
 | mp {k} (b:Nat) (hl:(C k).live = true) (h:ids k = some (b,0)):Den P C ids I w (.mp k) (.map (some b))
 | itDead {k a} (h:C k = .dead):Den P C ids I w (.it k) (.pointer a)
 | it {k} (b:Nat) (hl:(C k).live = true) (h:ids k = some (b,0)):Den P C ids I w (.it k) (.pointer (some ⟨b,0,none⟩))
 | clo {f caps} (arr:Array Value) (h:caps.length = arr.size) (hx:∀ i x,caps[i]? = some x→Den P C ids I w x (arr.getD i undef)):Den P C ids I w (.clo f caps) (.func (.func f) #[] arr)
 | aslDead {k off n a n' cap} (h:C k = .dead):Den P C ids I w (.asl k off n) (.slice a n' cap)
 | asl {k off n} (b o:Nat) (hl:(C k).live = true) (h:ids k = some (b,o)):Den P C ids I w (.asl k off n) (.slice (some ⟨b,o+off,none⟩) n n)
 | bpDead {k e n} (b:Nat) (h:C k = .dead):Den P C ids I w (.bp k e n) (.pointer (some ⟨b,0,none⟩))
 | bp {k e n} (b:Nat) (arr:Array Value) (hl:(C k).live = true) (h:ids k = some (b,0)) (hw:w.heap[b]? = some (.cells arr e (0,0))) (hn:arr.size = n):Den P C ids I w (.bp k e n) (.pointer (some ⟨b,0,none⟩))
 | mth {name x y} (h:Den P C ids I w x y):Den P C ids I w (.mth name x) (.func (.method name) #[y] #[])
 | ifc {t x y} (h:Den P C ids I w x y):Den P C ids I w (.ifc t x) (.iface t y)
 | erN {tp te g}:Den P C ids I w (.er tp te g .nil) .nilIface
 | erP {tp te g v} (b o:Nat) (hb:I b) (hc:w.cell? ⟨b,o,none⟩ = some (.int .i64 v)):Den P C ids I w (.er tp te g (.pan v)) (.iface tp (.pointer (some ⟨b,o,none⟩)))
 | erT {tp te g} (a:Addr) (hb:I g) (hc:w.cell? ⟨g,0,none⟩ = some (.iface te (.pointer (some a)))):Den P C ids I w (.er tp te g .tired) (.iface te (.pointer (some a)))
 | gd {g x y} (h:g = true→Den P C ids I w x y) (hn:g = false→y = undef):Den P C ids I w (.gd g x) y
def Born (arr:Array MapEntry) (clock:Nat):Prop:=clock = arr.size∧∀ i,i < arr.size→(arr.getD i default).born = i
def DenC (P:Program) (C:Nm→Chunk) (ids:Ids) (I:Nat→Prop) (w:World) (k:Nm):Chunk→Prop
 | .unborn=>True
 | .dead=>True
 | .void=>True
 | .row e cs=>match ids k with
  | none=>cs = []
  | some (b,o)=>∃ arr,w.heap[b]? = some (.cells arr e (0,0))∧o+cs.length≤arr.size∧∀ i x,cs[i]? = some x→Den P C ids I w x (arr.getD (o+i) undef)
 | .map es=>∃ b arr clock,ids k = some (b,0)∧w.heap[b]? = some (.map arr clock)∧arr.size = es.length ∧
   (∀ i x,es[i]? = some x→(arr.getD i default).key = x.1∧Den P C ids I w x.2 (arr.getD i default).val)∧Born arr clock
 | .obj s pos=>∃ b,ids k = some (b,0)∧w.heap[b]? = some (.stringIter s pos)
 | .fam _=>True
def SameKind:Chunk→Chunk→Prop
 | .row e cs,.row e' cs'=>e = e'∧cs'.length≤cs.length
 | .map _,.map _=>True
 | .obj _ _,.obj _ _=>True
 | _,_=>False
def SameShape (o o':Option Obj):Prop:=∀ arr e,o = some (.cells arr e (0,0))→∃ arr',o' = some (.cells arr' e (0,0))∧arr'.size = arr.size
theorem SameShape.refl (o:Option Obj):SameShape o o:=fun arr e h=>⟨arr,h,rfl⟩
theorem SameShape.of_eq {o o':Option Obj} (h:o' = o):SameShape o o':=h ▸ SameShape.refl o
theorem SameShape.trans {a b c:Option Obj} (h:SameShape a b) (g:SameShape b c):SameShape a c:=fun arr e ha=>by
 obtain ⟨x,hx,hs⟩:=h arr e ha
 obtain ⟨y,hy,ht⟩:=g x e hx
 exact ⟨y,hy,ht.trans hs⟩
theorem SameKind.refl {c:Chunk} (h:c.live = true):SameKind c c:=by cases c <;> simp_all [SameKind,Chunk.live]
theorem SameKind.trans {a b c:Chunk} (h:SameKind a b) (g:SameKind b c):SameKind a c:=by
 cases a <;> cases b <;> cases c <;> first | exact h.elim | exact g.elim | exact trivial | exact ⟨h.1.trans g.1,Nat.le_trans g.2 h.2⟩
structure Ext (C:Nm→Chunk) (ids:Ids) (I:Nat→Prop) (w:World) (C':Nm→Chunk) (ids':Ids) (I':Nat→Prop) (w':World):Prop where
 im:∀ b,I b→I' b∧w'.heap[b]? = w.heap[b]?
 dd:∀ k,C k = .dead→C' k = .dead
 lv:∀ k,(C k).live = true→C' k = .dead∨((C' k).live = true∧ids' k = ids k∧SameKind (C k) (C' k)∧∀ b o,ids k = some (b,o)→SameShape w.heap[b]? w'.heap[b]?)
theorem Ext.refl (C:Nm→Chunk) (ids:Ids) (I:Nat→Prop) (w:World):Ext C ids I w C ids I w :=
 ⟨fun _ h=>⟨h,rfl⟩,fun _ h=>h,fun _ h=>.inr ⟨h,rfl,SameKind.refl h,fun _ _ _=>SameShape.refl _⟩⟩
theorem cell_eq {w w':World} {b o:Nat} (h:w'.heap[b]? = w.heap[b]?):w'.cell? ⟨b,o,none⟩ = w.cell? ⟨b,o,none⟩ :=
 World.cell?_of_block (a:=⟨b,o,none⟩) h
theorem OwnOk.mono {P:Program} {C C':Nm→Chunk} {ids ids':Ids} {w w':World} {k:Nm} {off n:Nat} {a:Option Addr} {cap:Nat} (h:OwnOk P C ids w k off n a cap)
  (hi:ids' k = ids k) (hk:SameKind (C k) (C' k)) (hs:∀ b o,ids k = some (b,o)→SameShape w.heap[b]? w'.heap[b]?):OwnOk P C' ids' w' k off n a cap:=by
 obtain ⟨h1,h2,h4,h3⟩:=h
 refine ⟨h1,h2,fun e cs hc=>?_,?_⟩
 ·rw [hc] at hk
  cases hc':C k with
  | row e' cs' =>
   rw [hc'] at hk
   simp only [SameKind] at hk
   have:=h4 _ _ hc'
   rw [hk.1] at this
   omega
  | unborn=>rw [hc'] at hk; exact hk.elim
  | dead=>rw [hc'] at hk; exact hk.elim
  | void=>rw [hc'] at hk; exact hk.elim
  | map es=>rw [hc'] at hk; exact hk.elim
  | obj s pos=>rw [hc'] at hk; exact hk.elim
  | fam g=>rw [hc'] at hk; exact hk.elim
 rcases h3 with h3 | ⟨b,o,e,cs,arr,hc,hid,ha,hw,hsz⟩
 ·exact .inl h3
 ·obtain ⟨arr',hw',hs'⟩:=hs b o hid arr e hw
  rw [hc] at hk
  cases hc':C' k with
  | row e' cs' =>
   rw [hc'] at hk
   simp only [SameKind] at hk
   obtain ⟨rfl,_⟩:=hk
   exact .inr ⟨b,o,e,cs',arr',by first | exact hc' | rfl,hi.trans hid,ha,hw',hs' ▸ hsz⟩
  | unborn=>rw [hc'] at hk; exact hk.elim
  | dead=>rw [hc'] at hk; exact hk.elim
  | void=>rw [hc'] at hk; exact hk.elim
  | map es=>rw [hc'] at hk; exact hk.elim
  | obj s pos=>rw [hc'] at hk; exact hk.elim
  | fam g=>rw [hc'] at hk; exact hk.elim
theorem Den.mono {P:Program} {C C':Nm→Chunk} {ids ids':Ids} {I I':Nat→Prop} {w w':World} (hE:Ext C ids I w C' ids' I' w') {s:SV} {x:Value}
  (h:Den P C ids I w s x):Den P C' ids' I' w' s x:=by
 induction h with
 | any=>exact .any
 | v=>exact .v
 | agg arr h _ ih=>exact .agg arr h ih
 | tup arr h _ ih=>exact .tup arr h ih
 | sl0 hc=>exact .sl0 hc
 | sl b o cap c hb hn hcap hc _ ih =>
  obtain ⟨hb',hw⟩:=hE.im b hb
  exact .sl b o cap c hb' hn hcap (fun i x hi=>(cell_eq hw).trans (hc i x hi)) ih
 | ownDead h=>exact .ownDead (hE.dd _ h)
 | own a cap hl h =>
  rcases hE.lv _ hl with hd | ⟨hl',hi,hk,hs⟩
  ·exact .ownDead hd
  ·exact .own a cap hl' (h.mono hi hk hs)
 | ptrDead b q h=>exact .ptrDead b q (hE.dd _ h)
 | ptr b o hl h =>
  rcases hE.lv _ hl with hd | ⟨hl',hi,_,_⟩
  ·exact .ptrDead b _ hd
  ·exact .ptr b o hl' (hi.trans h)
 | iptr b o c hb hc _ ih =>
  obtain ⟨hb',hw⟩:=hE.im b hb
  exact .iptr b o c hb' (fun i x hi=>(cell_eq hw).trans (hc i x hi)) ih
 | mpDead h=>exact .mpDead (hE.dd _ h)
 | mp b hl h =>
  rcases hE.lv _ hl with hd | ⟨hl',hi,_,_⟩
  ·exact .mpDead hd
  ·exact .mp b hl' (hi.trans h)
 | itDead h=>exact .itDead (hE.dd _ h)
 | it b hl h =>
  rcases hE.lv _ hl with hd | ⟨hl',hi,_,_⟩
  ·exact .itDead hd
  ·exact .it b hl' (hi.trans h)
 | clo arr h _ ih=>exact .clo arr h ih
 | ifc _ ih=>exact .ifc ih
 | erN=>exact .erN
 | erP b o hb hc =>
  obtain ⟨hb',hw⟩:=hE.im b hb
  exact .erP b o hb' ((cell_eq hw).trans hc)
 | erT a hb hc =>
  obtain ⟨hb',hw⟩:=hE.im _ hb
  exact .erT a hb' ((cell_eq hw).trans hc)
 | mth _ ih=>exact .mth ih
 | aslDead h=>exact .aslDead (hE.dd _ h)
 | asl b o hl h =>
  rcases hE.lv _ hl with hd | ⟨hl',hi,_,_⟩
  ·exact .aslDead hd
  ·exact .asl b o hl' (hi.trans h)
 | bpDead b h=>exact .bpDead b (hE.dd _ h)
 | bp b arr hl h hw hn =>
  rcases hE.lv _ hl with hd | ⟨hl',hi,_,hs⟩
  ·exact .bpDead b hd
  ·obtain ⟨arr',hw',hs'⟩:=hs b 0 h arr _ hw
   exact .bp b arr' hl' (hi.trans h) hw' (hs'.trans hn)
 | gd _ hn ih=>exact .gd ih hn
def Im (w0:World) (I0 W0:Nat→Prop) (C:Nm→Chunk) (ids:Ids) (w:World) (b:Nat):Prop :=
 (I0 b∨W0 b∨w0.heap.size≤b)∧b < w.heap.size∧∀ k,(C k).live = true→∀ o,ids k≠some (b,o)
def DrOk (w0 w:World):Prop:=True
theorem DrOk.of {w0 w:World} (h:w0.drawn≤w.drawn):DrOk w0 w:=by first | trivial | exact h
theorem DrOk.trans {a b c:World} (h:DrOk a b) (k:DrOk b c):DrOk a c:=by first | trivial | exact Nat.le_trans h k
structure HSt (P:Program) (w0:World) (I0 W0:Nat→Prop) (C:Nm→Chunk) (ids:Ids) (w:World):Prop where
 ch:∀ k,DenC P C ids (Im w0 I0 W0 C ids w) w k (C k)
 inj:∀ k k' b o o',(C k).live = true→(C k').live = true→ids k = some (b,o)→ids k' = some (b,o')→k = k'
 lt:∀ k b o,(C k).live = true→ids k = some (b,o)→b < w.heap.size∧(W0 b∨w0.heap.size≤b)
 im0:∀ b,I0 b→b < w0.heap.size∧¬ W0 b
 evol:∀ b,b < w0.heap.size→¬ W0 b→w.heap[b]? = w0.heap[b]?
 os:w.os = w0.os
 tape:w.tape = w0.tape∧DrOk w0 w
 output:w.output = w0.output
 size:w0.heap.size≤w.heap.size
end Go.Sx
end

section
namespace Go.Sx
open Go.RowKit
set_option linter.unusedVariables false
def upd {α:Type} (C:Nm→α) (k:Nm) (c:α):Nm→α:=fun j=>if j = k then c else C j
@[simp] theorem upd_same {α:Type} (C:Nm→α) (k:Nm) (c:α):upd C k c k = c:=by simp [upd]
theorem upd_ne {α:Type} (C:Nm→α) {k j:Nm} (c:α) (h:j≠k):upd C k c j = C j:=by simp [upd,h]
variable {P:Program} {w0:World} {I0 W0:Nat→Prop} {C:Nm→Chunk} {ids:Ids} {w:World}
theorem DenC.mono {C':Nm→Chunk} {ids':Ids} {I I':Nat→Prop} {w':World} {k:Nm} {c:Chunk} (hE:Ext C ids I w C' ids' I' w') (h:DenC P C ids I w k c)
  (hi:ids' k = ids k) (hb:∀ b o,ids k = some (b,o)→w'.heap[b]? = w.heap[b]?):DenC P C' ids' I' w' k c:=by
 cases c with
 | unborn=>trivial
 | dead=>trivial
 | void=>trivial
 | row e cs =>
  simp only [DenC,hi] at h ⊢
  cases hid:ids k with
  | none=>rw [hid] at h; exact h
  | some p =>
   obtain ⟨b,o⟩:=p
   rw [hid] at h
   obtain ⟨arr,ha,hs,hx⟩:=h
   exact ⟨arr,(hb b o hid).trans ha,hs,fun i x hix=>(hx i x hix).mono hE⟩
 | map es =>
  obtain ⟨b,arr,clock,hid,ha,hs,hx,hbo⟩:=h
  exact ⟨b,arr,clock,hi.trans hid,(hb b 0 hid).trans ha,hs,fun i x hix=>⟨(hx i x hix).1,(hx i x hix).2.mono hE⟩,hbo⟩
 | obj s pos =>
  obtain ⟨b,hid,ha⟩:=h
  exact ⟨b,hi.trans hid,(hb b 0 hid).trans ha⟩
 | fam g=>trivial
theorem heap_alloc_lt (w:World) (o:Obj) (k:Nat) (h:k < w.heap.size):(w.alloc o).heap[k]? = w.heap[k]?:=Below.heap_alloc w o k h
theorem heap_alloc_new' (w:World) (o:Obj):(w.alloc o).heap[w.heap.size]? = some o:=by
 show (w.heap.push o)[w.heap.size]? = _
 simp
theorem size_alloc' (w:World) (o:Obj):(w.alloc o).heap.size = w.heap.size+1:=by simp
theorem HSt.alloc_ext (h:HSt P w0 I0 W0 C ids w) {k:Nm} (hk:C k = .unborn) (c:Chunk) (o:Obj) :
  Ext C ids (Im w0 I0 W0 C ids w) w (upd C k c) (upd ids k (some (w.heap.size,0))) (Im w0 I0 W0 (upd C k c) (upd ids k (some (w.heap.size,0))) (w.alloc o)) (w.alloc o):=by
 refine ⟨fun b hb=>?_,fun j hj=>?_,fun j hj=>?_⟩
 ·obtain ⟨h1,h2,h3⟩:=hb
  refine ⟨⟨h1,by rw [size_alloc']; omega,fun j hj o'=>?_⟩,heap_alloc_lt w o b h2⟩
  by_cases hjk:j = k
  ·subst hjk; simp; omega
  ·rw [upd_ne _ _ hjk] at hj ⊢; exact h3 j hj o'
 ·have hjk:j≠k:=fun e=>by subst e; rw [hk] at hj; cases hj
  rw [upd_ne _ _ hjk]; exact hj
 ·have hjk:j≠k:=fun e=>by subst e; rw [hk] at hj; cases hj
  rw [upd_ne _ _ hjk,upd_ne _ _ hjk]
  exact .inr ⟨hj,rfl,SameKind.refl hj,fun b o' hid=>SameShape.of_eq (heap_alloc_lt w o b (h.lt j b o' hj hid).1)⟩
theorem HSt.alloc (h:HSt P w0 I0 W0 C ids w) {k:Nm} (hk:C k = .unborn) (c:Chunk) (o:Obj)
  (hc:DenC P (upd C k c) (upd ids k (some (w.heap.size,0))) (Im w0 I0 W0 (upd C k c) (upd ids k (some (w.heap.size,0))) (w.alloc o)) (w.alloc o) k c) :
  HSt P w0 I0 W0 (upd C k c) (upd ids k (some (w.heap.size,0))) (w.alloc o):=by
 have hE:=h.alloc_ext hk c o
 have hne:∀ j,(C j).live = true→j≠k:=fun j hj e=>by subst e; rw [hk] at hj; cases hj
 refine ⟨fun j=>?_,fun j j' b o1 o2 hj hj' hi hi'=>?_,fun j b o' hj hi=>?_,h.im0,fun b hb hW=>?_,h.os,h.tape,h.output,?_⟩
 ·by_cases hjk:j = k
  ·subst hjk; rw [upd_same]; exact hc
  ·rw [upd_ne _ _ hjk]
   by_cases hl:(C j).live = true
   ·exact (h.ch j).mono hE (upd_ne _ _ hjk) (fun b o' hid=>heap_alloc_lt w o b (h.lt j b o' hl hid).1)
   ·cases hcj:C j <;> simp_all [Chunk.live,DenC]
 ·by_cases hjk:j = k <;> by_cases hjk':j' = k
  ·rw [hjk,hjk']
  ·subst hjk
   rw [upd_same] at hi; rw [upd_ne _ _ hjk'] at hj' hi'
   simp only [Option.some.injEq,Prod.mk.injEq] at hi
   have:=(h.lt j' b o2 hj' hi').1; omega
  ·subst hjk'
   rw [upd_same] at hi'; rw [upd_ne _ _ hjk] at hj hi
   simp only [Option.some.injEq,Prod.mk.injEq] at hi'
   have:=(h.lt j b o1 hj hi).1; omega
  ·rw [upd_ne _ _ hjk] at hj hi; rw [upd_ne _ _ hjk'] at hj' hi'
   exact h.inj j j' b o1 o2 hj hj' hi hi'
 ·by_cases hjk:j = k
  ·subst hjk
   rw [upd_same] at hi
   simp only [Option.some.injEq,Prod.mk.injEq] at hi
   have:=h.size
   rw [size_alloc']; exact ⟨by omega,.inr (by omega)⟩
  ·rw [upd_ne _ _ hjk] at hj hi
   have:=h.lt j b o' hj hi
   rw [size_alloc']; exact ⟨by omega,this.2⟩
 ·rw [heap_alloc_lt w o b (by have:=h.size; omega)]; exact h.evol b hb hW
 ·rw [size_alloc']; have:=h.size; omega
theorem HSt.turn_ext (h:HSt P w0 I0 W0 C ids w) {k:Nm} {b o:Nat} {c:Chunk} (hl:(C k).live = true) (hid:ids k = some (b,o)) (hc:c.live = true) (hk:SameKind (C k) c) {w':World}
  (hz:w'.heap.size = w.heap.size) (ho:∀ j,j≠b→w'.heap[j]? = w.heap[j]?) (hs:SameShape w.heap[b]? w'.heap[b]?) :
  Ext C ids (Im w0 I0 W0 C ids w) w (upd C k c) ids (Im w0 I0 W0 (upd C k c) ids w') w':=by
 refine ⟨fun d hd=>?_,fun j hj=>?_,fun j hj=>?_⟩
 ·obtain ⟨h1,h2,h3⟩:=hd
  have hdb:d≠b:=fun e=>by subst e; exact h3 k hl o hid
  refine ⟨⟨h1,by omega,fun j hj o'=>?_⟩,ho d hdb⟩
  by_cases hjk:j = k
  ·subst hjk; exact h3 j hl o'
  ·rw [upd_ne _ _ hjk] at hj; exact h3 j hj o'
 ·have hjk:j≠k:=fun e=>by subst e; rw [hj] at hl; cases hl
  rw [upd_ne _ _ hjk]; exact hj
 ·by_cases hjk:j = k
  ·subst hjk
   rw [upd_same]
   refine .inr ⟨hc,rfl,hk,fun b' o' hid'=>?_⟩
   rw [hid] at hid'; cases hid'; exact hs
  ·rw [upd_ne _ _ hjk]
   refine .inr ⟨hj,rfl,SameKind.refl hj,fun b' o' hid'=>SameShape.of_eq (ho b' fun e=>?_)⟩
   subst e; exact hjk (h.inj j k b' o' o hj hl hid' hid)
theorem HSt.turn (h:HSt P w0 I0 W0 C ids w) {k:Nm} {b o:Nat} {c:Chunk} (hl:(C k).live = true) (hid:ids k = some (b,o)) (hcl:c.live = true) (hk:SameKind (C k) c) {w':World}
  (hz:w'.heap.size = w.heap.size) (ho:∀ j,j≠b→w'.heap[j]? = w.heap[j]?) (hs:SameShape w.heap[b]? w'.heap[b]?) (hos:w'.os = w.os) (htape:w'.tape = w.tape) (hout:w'.output = w.output)
  (hc:DenC P (upd C k c) ids (Im w0 I0 W0 (upd C k c) ids w') w' k c) (hdr:w.drawn≤w'.drawn:=by exact Nat.le_refl _):HSt P w0 I0 W0 (upd C k c) ids w':=by
 have hE:=h.turn_ext hl hid hcl hk hz ho hs
 refine ⟨fun j=>?_,fun j j' b o1 o2 hj hj' hi hi'=>?_,fun j d o' hj hi=>?_,h.im0,fun d hd hW=>?_,hos.trans h.os,⟨htape.trans h.tape.1,h.tape.2.trans (.of hdr)⟩,hout.trans h.output,by rw [hz]; exact h.size⟩
 ·by_cases hjk:j = k
  ·subst hjk; rw [upd_same]; exact hc
  ·rw [upd_ne _ _ hjk]
   by_cases hlj:(C j).live = true
   ·exact (h.ch j).mono hE rfl (fun b' o' hid'=>ho b' fun e=>by subst e; exact hjk (h.inj j k b' o' o hlj hl hid' hid))
   ·cases hcj:C j <;> simp_all [Chunk.live,DenC]
 ·have e:∀ j,(upd C k c j).live = true→(C j).live = true:=fun j hj=>by
   by_cases hjk:j = k
   ·subst hjk; exact hl
   ·rw [upd_ne _ _ hjk] at hj; exact hj
  exact h.inj j j' b o1 o2 (e j hj) (e j' hj') hi hi'
 ·have hlj:(C j).live = true:=by
   by_cases hjk:j = k
   ·subst hjk; exact hl
   ·rw [upd_ne _ _ hjk] at hj; exact hj
  have:=h.lt j d o' hlj hi
  exact ⟨by omega,this.2⟩
 ·have hdb:d≠b:=fun e=>by
   subst e
   rcases (h.lt k d o hl hid).2 with hh | hh
   ·exact hW hh
   ·omega
  rw [ho d hdb]; exact h.evol d hd hW
theorem HSt.kill_ext (h:HSt P w0 I0 W0 C ids w) (k:Nm):Ext C ids (Im w0 I0 W0 C ids w) w (upd C k .dead) ids (Im w0 I0 W0 (upd C k .dead) ids w) w:=by
 refine ⟨fun d hd=>⟨⟨hd.1,hd.2.1,fun j hj o'=>?_⟩,rfl⟩,fun j hj=>?_,fun j hj=>?_⟩
 ·by_cases hjk:j = k
  ·subst hjk; rw [upd_same] at hj; cases hj
  ·rw [upd_ne _ _ hjk] at hj; exact hd.2.2 j hj o'
 ·by_cases hjk:j = k
  ·subst hjk; rw [upd_same]
  ·rw [upd_ne _ _ hjk]; exact hj
 ·by_cases hjk:j = k
  ·subst hjk; rw [upd_same]; exact .inl rfl
  ·rw [upd_ne _ _ hjk]; exact .inr ⟨hj,rfl,SameKind.refl hj,fun _ _ _=>SameShape.refl _⟩
theorem HSt.kill (h:HSt P w0 I0 W0 C ids w) (k:Nm):HSt P w0 I0 W0 (upd C k .dead) ids w:=by
 have hE:=h.kill_ext k
 have e:∀ j,(upd C k .dead j).live = true→(C j).live = true:=fun j hj=>by
  by_cases hjk:j = k
  ·subst hjk; rw [upd_same] at hj; cases hj
  ·rw [upd_ne _ _ hjk] at hj; exact hj
 refine ⟨fun j=>?_,fun j j' b o1 o2 hj hj' hi hi'=>h.inj j j' b o1 o2 (e j hj) (e j' hj') hi hi',fun j d o' hj hi=>h.lt j d o' (e j hj) hi,h.im0,h.evol,h.os,h.tape,h.output,h.size⟩
 by_cases hjk:j = k
 ·subst hjk; rw [upd_same]; trivial
 ·rw [upd_ne _ _ hjk]; exact (h.ch j).mono hE rfl (fun _ _ _=>rfl)
theorem HSt.drew (h:HSt P w0 I0 W0 C ids w):HSt P w0 I0 W0 C ids w.drew:=by
 have hE:Ext C ids (Im w0 I0 W0 C ids w) w C ids (Im w0 I0 W0 C ids w.drew) w.drew:=⟨fun d hd=>⟨hd,rfl⟩,fun _ h=>h,fun _ h=>.inr ⟨h,rfl,SameKind.refl h,fun _ _ _=>SameShape.refl _⟩⟩
 exact ⟨fun k=>(h.ch k).mono hE rfl (fun _ _ _=>rfl),h.inj,h.lt,h.im0,h.evol,h.os,⟨h.tape.1,h.tape.2.trans (.of (Nat.le_succ _))⟩,h.output,h.size⟩
theorem HSt.drew_ext (h:HSt P w0 I0 W0 C ids w):Ext C ids (Im w0 I0 W0 C ids w) w C ids (Im w0 I0 W0 C ids w.drew) w.drew :=
 ⟨fun d hd=>⟨hd,rfl⟩,fun _ h=>h,fun _ h=>.inr ⟨h,rfl,SameKind.refl h,fun _ _ _=>SameShape.refl _⟩⟩
theorem Ext.trans {C1 C2 C3:Nm→Chunk} {i1 i2 i3:Ids} {J1 J2 J3:Nat→Prop} {u1 u2 u3:World} (h:Ext C1 i1 J1 u1 C2 i2 J2 u2) (g:Ext C2 i2 J2 u2 C3 i3 J3 u3):Ext C1 i1 J1 u1 C3 i3 J3 u3:=by
 refine ⟨fun b hb=>?_,fun k hk=>g.dd k (h.dd k hk),fun k hk=>?_⟩
 ·obtain ⟨h1,h2⟩:=h.im b hb
  obtain ⟨g1,g2⟩:=g.im b h1
  exact ⟨g1,g2.trans h2⟩
 ·rcases h.lv k hk with hd | ⟨hl,hi,hs,hsh⟩
  ·exact .inl (g.dd k hd)
  ·rcases g.lv k hl with gd | ⟨gl,gi,gs,gsh⟩
   ·exact .inl gd
   ·exact .inr ⟨gl,gi.trans hi,hs.trans gs,fun b o hid=>(hsh b o hid).trans (gsh b o (hi.trans hid))⟩
end Go.Sx
end

section
namespace Go.Sx
set_option linter.unusedVariables false
open Go.RowKit
abbrev Fr:=List (Nat×SV)
abbrev Hp:=List (Nm×Chunk)
def getF:Fr→Nat→SV
 | [],_=>.any
 | p::r,t=>bif p.1 == t then p.2 else getF r t
def Chunk.at (c:Chunk) (i:Int):Chunk:=match c with
 | .fam g=>match g i with
  | .unborn=>.dead
  | .fam _=>.dead
  | c=>c
 | _=>.dead
def Chunk.mem (c:Chunk) (k:Nm):Chunk:=match k with
 | .t _=>c
 | .s _ i=>c.at i
def Nm.eqk:Nm→Nm→Bool
 | .t a,.t b=>a == b
 | .s F _,.s G _=>F == G
 | _,_=>false
theorem Nm.eqk_iff {a b:Nm}:a.eqk b = true↔a.key = b.key:=by
 cases a <;> cases b <;> simp [Nm.eqk,Nm.key]
theorem Nm.eqk_no {a b:Nm} (h:a.key≠b.key):a.eqk b = false:=by
 cases he:a.eqk b with
 | false=>rfl
 | true=>exact absurd (Nm.eqk_iff.1 he) h
def getH:Hp→Nm→Chunk
 | [],_=>.unborn
 | p::r,k=>bif p.1.eqk k then p.2.mem k else getH r k
theorem getF_nil (t:Nat):getF [] t = .any:=rfl
theorem getF_cons (d:Nat) (x:SV) (r:Fr) (t:Nat):getF ((d,x)::r) t = bif d == t then x else getF r t:=rfl
theorem getH_nil (t:Nm):getH [] t = .unborn:=rfl
theorem getH_cons (d:Nm) (x:Chunk) (r:Hp) (t:Nm):getH ((d,x)::r) t = bif d.eqk t then x.mem t else getH r t:=rfl
theorem getH_upd (k:Nat) (c:Chunk) (hp:Hp):getH ((.t k,c)::hp) = upd (getH hp) k c:=by
 funext j
 cases j with
 | t j =>
  by_cases h:j = k
  ·subst h; simp [getH,upd,Nm.eqk,Chunk.mem]
  ·have:(k == j) = false:=by simp; exact fun e=>h e.symm
   simp [getH,upd,h,Nm.eqk,this]
 | s F i=>simp [getH,upd,Nm.eqk]
def upI (g:Int→Chunk) (i:Int) (c:Chunk):Int→Chunk:=fun j=>bif j == i then c else g j
def updE (k:Nm) (c:Chunk) (hp:Hp):Nm×Chunk:=match k with
 | .t a=>(.t a,c)
 | .s F i=>(.s F 0,.fam (upI (fun j=>getH hp (.s F j)) i c))
theorem updE_key (k:Nm) (c:Chunk) (hp:Hp):(updE k c hp).1 = k.key:=by cases k <;> rfl
theorem at_born (c:Chunk) (i:Int):c.at i≠.unborn:=by
 unfold Chunk.at
 split
 ·split <;> simp_all
 ·simp
theorem getH_fam {F:Nat} {i:Int}:∀ {hp:Hp},getH hp (.s F i)≠.unborn→∀ j,getH hp (.s F j)≠.unborn
 | [],h,j=>absurd rfl h
 | p::r,h,j=>by
  simp only [getH] at h ⊢
  cases hk:p.1 with
  | t a=>rw [hk] at h; simp only [Nm.eqk,cond_false] at h ⊢; exact getH_fam h j
  | s G z =>
   rw [hk] at h
   simp only [Nm.eqk] at h ⊢
   cases hg:(G == F) with
   | true=>simp only [cond_true,Chunk.mem]; exact at_born _ _
   | false=>rw [hg] at h; simp only [cond_false] at h ⊢; exact getH_fam h j
theorem at_nofam (c:Chunk) (i:Int) (g:Int→Chunk):c.at i≠.fam g:=by
 unfold Chunk.at
 split
 ·split <;> simp_all
 ·simp
theorem getH_nofam {F:Nat} {i:Int} (g:Int→Chunk):∀ {hp:Hp},getH hp (.s F i)≠.fam g
 | []=>by simp [getH]
 | p::r=>by
  simp only [getH]
  cases hk:p.1.eqk (.s F i) with
  | true=>simp only [cond_true,Chunk.mem]; exact at_nofam _ _ _
  | false=>simp only [cond_false]; exact getH_nofam g
theorem getH_put {k:Nm} {c:Chunk} {hp:Hp} (hk:getH hp k≠.unborn) (hc:c≠.unborn∧∀ g,c≠.fam g):getH (updE k c hp::hp) = upd (getH hp) k c:=by
 cases k with
 | t a=>exact getH_upd a c hp
 | s F i =>
  funext j
  simp only [updE,getH]
  cases j with
  | t j=>simp [Nm.eqk,upd]
  | s G j =>
   simp only [Nm.eqk]
   by_cases hg:F = G
   ·subst hg
    simp only [beq_self_eq_true,cond_true,Chunk.mem,Chunk.at,upI,upd]
    by_cases hj:j = i
    ·subst hj
     simp only [beq_self_eq_true,cond_true,if_true]
     first | done | (cases c <;> first | rfl | exact absurd rfl hc.1 | exact absurd rfl (hc.2 _))
    ·rw [show (j == i) = false from by simpa using hj,cond_false,if_neg (by simpa using hj)]
     have:=getH_fam hk j
     cases hgj:getH hp (.s F j) <;> first | rfl | exact absurd hgj this | exact absurd hgj (getH_nofam _)
   ·rw [show (F == G) = false from by simpa using hg,cond_false,upd,if_neg (by simp; exact fun e=>absurd e.symm hg)]
theorem live_born {c:Chunk} (h:c.live = true):c≠.unborn:=fun e=>by rw [e] at h; cases h
structure Eff where
 val:SV
 upd:Hp
 nx:Nat
 rds:List Nm
inductive Res where
 | bad
 | ok (side:Prop) (e:Eff)
def Need (c k:Prop):Prop:=c∧k
theorem Need.mk {c k:Prop} (h:c) (hk:k):Need c k:=⟨h,hk⟩
def Res.wp:Res→(Eff→Prop)→Prop
 | .bad,_=>False
 | .ok s e,K=>Need s (K e)
def unw (g:Bool):SV→SV
 | .gd h x=>bif h || !g then x else .any
 | x=>x
def evS (g:Bool) (fr:Fr):Operand→SV
 | .tmp t=>unw g (getF fr t)
 | .const v=>.v v
 | .global n=>.v (.pointer (some ⟨n,0,none⟩))
 | .func f=>.v (.func (.func f) #[] #[])
def rawS (fr:Fr):Operand→SV
 | .tmp t=>getF fr t
 | .const v=>.v v
 | .global n=>.v (.pointer (some ⟨n,0,none⟩))
 | .func f=>.v (.func (.func f) #[] #[])
def szT (P:Program) (t:TypeId):Option Nat:=(P.info? t).map (·.size)
def aggT (P:Program) (t:TypeId):Option Bool:=(P.underlying t).map fun d=>match d with | .struct _=>true | .array _ _=>true | _=>false
def zeroT (P:Program) (t:TypeId):Option (List SV):=(P.info? t).bind fun i=>i.zero.map fun z=>z.cells.toList.map .v
def cellsS:SV→List SV
 | .agg xs=>xs
 | x=>[x]
def oneS:SV→Bool
 | .v x=>x.oneCell'
 | .sl _ _=>true
 | .own _ _ _=>true
 | .ptr _ _=>true
 | .iptr _ _=>true
 | .mp _=>true
 | .it _=>true
 | .clo _ _=>true
 | .ifc _ _=>true
 | .er _ _ _ _=>true
 | .mth _ _=>true
 | .asl _ _ _=>true
 | .bp _ _ _=>true
 | _=>false
def splice (cs:List SV) (o:Nat):List SV→List SV
 | []=>cs
 | x::xs=>splice (cs.set o x) (o+1) xs
def pureR (x:SV) (nx:Nat):Res:=.ok True ⟨x,[],nx,[]⟩
def pickS (g b:Bool) (x y:SV) (nx:Nat):Res :=
 match unw (g && b) x,unw (g && !b) y with
 | .v (.bool p),.v (.bool q)=>pureR (.v (.bool (bif b then p else q))) nx
 | .v (.int k p),.v (.int k' q)=>bif k == k' then pureR (.v (.int k (bif b then p else q))) nx else pureR (bif b then .v (.int k p) else .v (.int k' q)) nx
 | p,q=>pureR (bif b then p else q) nx
def dflS (P:Program) (t:TypeId):SV:=match zeroT P t with
 | some [x]=>x
 | _=>.any
def takeS (P:Program) (t:TypeId) (cs:List SV) (off:Nat) (rds:List Nm) (nx:Nat):Res :=
 match aggT P t,szT P t with
 | some true,some n=>.ok (off+n≤cs.length) ⟨.agg ((cs.drop off).take n),[],nx,rds⟩
 | some false,_=>.ok (off < cs.length) ⟨cs.getD off (dflS P t),[],nx,rds⟩
 | _,_=>.bad
def rowS (c:Chunk) (k:TypeId→List SV→Res):Res :=
 match c with
 | .row e cs=>k e cs
 | _=>.bad
def loadS (P:Program) (t:TypeId) (x:SV) (hp:Hp) (nx:Nat):Res :=
 match x with
 | .ptr k off=>rowS (getH hp k) fun _ cs=>takeS P t cs off [k.key] nx
 | .iptr cs off=>takeS P t cs off [] nx
 | _=>.bad
def storeS (P:Program) (t:TypeId) (x v:SV) (hp:Hp) (nx:Nat):Res :=
 match x with
 | .ptr k off=>rowS (getH hp k) fun e cs=>.ok (szT P t = some (cellsS v).length∧(cellsS v).all oneS = true∧off+(cellsS v).length≤cs.length) ⟨.any,[updE k (.row e (splice cs off (cellsS v))) hp],nx,[k.key]⟩
 | _=>.bad
def intS (op:BinOp) (k:IntKind) (a b:Int) (nx:Nat):Res :=
 match op with
 | .add=>pureR (.v (.int k (k.wrap (a+b)))) nx
 | .sub=>pureR (.v (.int k (k.wrap (a - b)))) nx
 | .mul=>pureR (.v (.int k (k.wrap (a * b)))) nx
 | .quo=>.ok (b≠0) ⟨.v (.int k (k.wrap (a.tdiv b))),[],nx,[]⟩
 | .rem=>.ok (b≠0) ⟨.v (.int k (a.tmod b)),[],nx,[]⟩
 | .and=>pureR (.v (.int k (k.wrap ((BitVec.ofInt k.bits a &&& BitVec.ofInt k.bits b).toNat:Nat)))) nx
 | .or=>pureR (.v (.int k (k.wrap ((BitVec.ofInt k.bits a ||| BitVec.ofInt k.bits b).toNat:Nat)))) nx
 | .xor=>pureR (.v (.int k (k.wrap ((BitVec.ofInt k.bits a ^^^ BitVec.ofInt k.bits b).toNat:Nat)))) nx
 | .andNot=>pureR (.v (.int k (k.wrap ((BitVec.ofInt k.bits a &&& ~~~BitVec.ofInt k.bits b).toNat:Nat)))) nx
 | .eql=>pureR (.v (.bool (a == b))) nx
 | .neq=>pureR (.v (.bool (a != b))) nx
 | .lss=>pureR (.v (.bool (decide (a < b)))) nx
 | .leq=>pureR (.v (.bool (decide (a≤b)))) nx
 | .gtr=>pureR (.v (.bool (decide (b < a)))) nx
 | .geq=>pureR (.v (.bool (decide (b≤a)))) nx
 | _=>.bad
end Go.Sx
end

section
namespace Go.Sx
set_option linter.unusedVariables false
open Go.RowKit
def firstB (b:Nat):Int :=
 if b < 128 then 240 else if b < 194 then 241 else if b < 224 then 2 else if b = 224 then 19 else if b < 237 then 3 else if b = 237 then 35 else if b < 240 then 3
 else if b = 240 then 52 else if b < 244 then 4 else if b = 244 then 68 else 241
def firstTab:List Value:=(List.range 256).map fun b=>.int .u8 (firstB b)
def acceptTab:List Value:=[128,191,160,191,128,159,144,191,128,143,0,0,0,0,0,0,0,0,0,0,0,0,0,0,0,0,0,0,0,0,0,0].map (Value.int .u8)
def strsS (l:List (List UInt8)):List SV:=l.map fun b=>.v (.string ⟨b.toArray⟩)
def namesTab:List SV:=strsS [[],[115,101,116],[99,111,112,121],[97,100,100],[115,117,98],[108,101,115,115],[106,117,109,112],[122,101,114,111],[112,114,105,110,116],[101,110,100],[121,105,101,108,100],[103,111],[108,111,97,100],[115,116,111,114,101],[115,101,110,100],[103,101,116],[115,104,117,116],[108,111,99,107],[117,110,108,111,99,107],[99,111,117,110,116],[119,97,105,116],[115,108,101,101,112],[112,97,110,105,99]]
def argsTab:List SV:=strsS [[],[114,110],[114,114],[114,114],[114,114],[114,114],[99,45],[114,99],[114,45],[45,45],[45,45],[99,114],[114,109],[109,114],[112,114],[114,112],[112,45],[108,107],[108,107],[103,114],[103,45],[114,45],[45,45]]
def kindsTab:List SV:=strsS [[],[],[115,101,116],[114,110],[99,111,112,121],[114,114],[97,100,100],[114,114],[115,117,98],[114,114],[108,101,115,115],[114,114],[106,117,109,112],[99,45],[122,101,114,111],[114,99],[112,114,105,110,116],[114,45],[101,110,100],[45,45],[121,105,101,108,100],[45,45],[103,111],[99,114],[108,111,97,100],[114,109],[115,116,111,114,101],[109,114],[115,101,110,100],[112,114],[103,101,116],[114,112],[115,104,117,116],[112,45],[108,111,99,107],[108,107],[117,110,108,111,99,107],[108,107],[99,111,117,110,116],[103,114],[119,97,105,116],[103,45],[115,108,101,101,112],[114,45],[112,97,110,105,99],[45,45]]
def powS:List SV:=[1,10,100,1000,10000,100000,1000000,10000000,100000000,1000000000,10000000000,100000000000,1000000000000,10000000000000,100000000000000,1000000000000000,10000000000000000,100000000000000000,1000000000000000000,10000000000000000000].map fun z=>.v (.int .u64 z)
def tabNamed (n : String) : Option (List SV) := if n = "taskmill/code.kinds" then some kindsTab else if n = "taskmill/taskmillref.Args" then some [.sl 23 argsTab] else if n = "taskmill/taskmillref.Names" then some [.sl 23 namesTab] else if n = "internal/strconv.uint64pow10" then some powS else if n = "internal/bytealg.MaxLen" then some [.any] else if n = "strconv.ErrSyntax" then some [.any] else if n = "strconv.ErrRange" then some [.any] else none
def tabOf (P:Program) (g:Nat):Option (List SV):=(P.globals[g]?).bind fun x=>tabNamed x.name
def tabDen (I:Nat→Prop) (w:World):SV→Value→Prop
 | .any,y=>True
 | .v v,y=>y = v
 | .er _ te g e,y=>e = .tired∧I g∧∃ a,y = .iface te (.pointer (some a))∧w.cell? ⟨g,0,none⟩ = some y
 | .sl n l,y=>∃ b q cap,y = .slice (some ⟨b,q,none⟩) n cap∧I b∧n≤cap∧cap≤maxLen∧∀ i x,l[i]? = some x→∃ v,x = .v v∧w.cell? ⟨b,q+i,none⟩ = some v
 | _,_=>False
theorem tabDen.mono {I I':Nat→Prop} {w w':World} {x:SV} {y:Value} (hI:∀ b,I b→I' b) (hc:∀ b,I b→∀ i,w'.cell? ⟨b,i,none⟩ = w.cell? ⟨b,i,none⟩) (h:tabDen I w x y):tabDen I' w' x y:=by
 unfold tabDen at h ⊢
 split at h
 ·exact h
 ·exact h
 ·obtain ⟨h1,h2,a,rfl,h3⟩:=h
  exact ⟨h1,hI _ h2,a,rfl,(hc _ h2 _).trans h3⟩
 ·obtain ⟨b,q,cap,rfl,h1,h2,h3,h4⟩:=h
  exact ⟨b,q,cap,rfl,hI b h1,h2,h3,fun i x hi=>by
   obtain ⟨v,rfl,hv⟩:=h4 i x hi
   exact ⟨v,rfl,(hc b h1 _).trans hv⟩⟩
 ·exact h.elim
def tabIs (n:String) (k:Nat) (arr:Array Value):Prop :=
 arr.size = k ∧ ((n == "internal/bytealg.MaxLen") = true → ∃ m, arr[0]? = some (.int .i64 m)) ∧ ((n == "strconv.ErrSyntax" || n == "strconv.ErrRange") = true → ∃ te pe, arr[0]? = some (.iface te pe))
def nameOf (P : Program) (g : Nat) : String := ((P.globals[g]?).map (·.name)).getD ""
def TabOk (P:Program) (I:Nat→Prop) (w:World):Prop:=∀ g cs,tabOf P g = some cs→I g∧(∃ arr e fr,w.heap[g]? = some (.cells arr e fr)∧tabIs (nameOf P g) cs.length arr)∧∀ i x,cs[i]? = some x→∃ y,w.cell? ⟨g,i,none⟩ = some y∧tabDen I w x y
structure Cx where
 P:Program
 w0:World
 I0:Nat→Prop
 W0:Nat→Prop
 m:Nat
 ids0:Ids
 C0:Nm→Chunk
 gl:TabOk P I0 w0
 df:List Deferred:=[]
 kp:List (Nat×Value):=[]
def Cx.kept (X:Cx):List (Nat×Value):=match X.df with
 | []=>[]
 | _::_=>X.kp
theorem Cx.kept_nil {X:Cx} (h:X.df = []):X.kept = []:=by unfold Cx.kept; rw [h]
abbrev DenX (X:Cx) (hp:Hp) (ids:Ids) (w:World):SV→Value→Prop:=Den X.P (getH hp) ids (Im X.w0 X.I0 X.W0 (getH hp) ids w) w
abbrev ExtX (X:Cx) (hp:Hp) (ids:Ids) (w:World) (hp':Hp) (ids':Ids) (w':World):Prop :=
 Ext (getH hp) ids (Im X.w0 X.I0 X.W0 (getH hp) ids w) w (getH hp') ids' (Im X.w0 X.I0 X.W0 (getH hp') ids' w') w'
structure Kept (X:Cx) (C:Nm→Chunk) (ids:Ids) (w:World) (k:Nm):Prop where
 id:ids k = X.ids0 k
 kind:SameKind (X.C0 k) (C k)
 shape:∀ b o,ids k = some (b,o)→SameShape X.w0.heap[b]? w.heap[b]?
theorem Kept.step {X:Cx} {C C':Nm→Chunk} {ids ids':Ids} {I I':Nat→Prop} {w w':World} {k:Nm} (h:Kept X C ids w k) (hE:Ext C ids I w C' ids' I' w') (hl:(C k).live = true) (hl':(C' k).live = true):Kept X C' ids' w' k:=by
 rcases hE.lv k hl with hd | ⟨_,hi,hk,hs⟩
 ·rw [hd] at hl'; cases hl'
 ·exact ⟨hi.trans h.id,h.kind.trans hk,fun b o hid=>(h.shape b o (hi ▸ hid)).trans (hs b o (hi ▸ hid))⟩
structure HeapC (X:Cx) (hp:Hp) (ids:Ids) (w:World):Prop where
 st:HSt X.P X.w0 X.I0 X.W0 (getH hp) ids w
 kept:∀ k,k.base < X.m→X.C0 k≠.void→(getH hp k).live = true→Kept X (getH hp) ids w k
 nov:∀ k,k.base < X.m→getH hp k = .void→X.C0 k = .void
theorem nov_upd {C C0:Nm→Chunk} {m:Nat} (h:∀ k:Nm,k.base < m→C k = .void→C0 k = .void) {K:Nm} {c:Chunk} (hc:c≠.void) (j:Nm) (hj:j.base < m) (hv:upd C K c j = .void):C0 j = .void:=by
 by_cases hjk:j = K
 ·subst hjk; rw [upd_same] at hv; exact absurd hv hc
 ·rw [upd_ne _ _ hjk] at hv; exact h j hj hv
structure HeapX (X:Cx) (hp:Hp) (nx:Nat) (ids:Ids) (w:World):Prop extends HeapC X hp ids w where
 fresh:getH hp nx = .unborn
 m_le:X.m≤nx
structure HeapF (X:Cx) (hp:Hp) (nx:Nat) (ids:Ids) (w:World):Prop extends HeapC X hp ids w where
 fresh:∀ k:Nm,nx≤k.base→getH hp k = .unborn
 m_le:X.m≤nx
theorem HeapF.toX {X:Cx} {hp:Hp} {nx:Nat} {ids:Ids} {w:World} (h:HeapF X hp nx ids w):HeapX X hp nx ids w:=⟨h.toHeapC,h.fresh nx (Nat.le_refl _),h.m_le⟩
def Sound (X:Cx) (hp:Hp) (ids:Ids) (w:World) (r:Result Value) (e:Eff):Prop :=
∃x w' ids',r = .ok x w'∧HeapC X (e.upd++hp) ids' w'∧ExtX X hp ids w (e.upd++hp) ids' w'∧DenX X (e.upd++hp) ids' w' e.val x
def SoundU (X:Cx) (hp:Hp) (ids:Ids) (w:World) (r:Result Unit) (e:Eff):Prop :=
∃w' ids',r = .ok () w'∧HeapC X (e.upd++hp) ids' w'∧ExtX X hp ids w (e.upd++hp) ids' w'
variable {X:Cx} {hp:Hp} {nx:Nat} {ids:Ids} {w:World}
theorem sound_pure (h:HeapX X hp nx ids w) {r:Result Value} {x:Value} (hr:r = .ok x w) {s:SV} {rds:List Nm} (hd:DenX X hp ids w s x):Sound X hp ids w r ⟨s,[],nx,rds⟩ :=
 ⟨x,w,ids,hr,h.toHeapC,Ext.refl _ _ _ _,hd⟩
section inv
variable {P:Program} {C:Nm→Chunk} {I:Nat→Prop} {y:Value}
theorem den_v {x} (h:Den P C ids I w (.v x) y):y = x:=by cases h; rfl
theorem den_agg {xs} (h:Den P C ids I w (.agg xs) y):∃ arr,y = .agg arr∧xs.length = arr.size∧∀ i x,xs[i]? = some x→Den P C ids I w x (arr.getD i undef):=by
 cases h with | agg arr h hx=>exact ⟨arr,rfl,h,hx⟩
theorem den_tup {xs} (h:Den P C ids I w (.tup xs) y):∃ arr,y = .tuple arr∧xs.length = arr.size∧∀ i x,xs[i]? = some x→Den P C ids I w x (arr.getD i undef):=by
 cases h with | tup arr h hx=>exact ⟨arr,rfl,h,hx⟩
theorem den_ptr {k off} (h:Den P C ids I w (.ptr k off) y) (hl:(C k).live = true):∃ b o,ids k = some (b,o)∧y = .pointer (some ⟨b,o+off,none⟩):=by
 cases h with
 | ptrDead b q h=>rw [h] at hl; cases hl
 | ptr b o _ hi=>exact ⟨b,o,hi,rfl⟩
theorem den_iptr {cs off} (h:Den P C ids I w (.iptr cs off) y):∃ (b o:Nat) (c:Nat→Value),I b∧y = .pointer (some ⟨b,o+off,none⟩)∧(∀ i x,cs[i]? = some x→w.cell? ⟨b,o+i,none⟩ = some (c i))∧∀ i x,cs[i]? = some x→Den P C ids I w x (c i):=by
 cases h with | iptr b o c hb hc hx=>exact ⟨b,o,c,hb,rfl,hc,hx⟩
theorem den_own {k off n} (h:Den P C ids I w (.own k off n) y) (hl:(C k).live = true):∃ a cap,y = .slice a n cap∧OwnOk P C ids w k off n a cap:=by
 cases h with
 | ownDead h=>rw [h] at hl; cases hl
 | own a cap _ ho=>exact ⟨a,cap,rfl,ho⟩
theorem den_sl {n cs} (h:Den P C ids I w (.sl n cs) y):∃ a cap,y = .slice a n cap∧n≤cap∧cap≤maxLen ∧
  ((n = 0∧cs = [])∨∃ (b o:Nat) (c:Nat→Value),a = some ⟨b,o,none⟩∧I b∧(∀ i x,cs[i]? = some x→w.cell? ⟨b,o+i,none⟩ = some (c i))∧∀ i x,cs[i]? = some x→Den P C ids I w x (c i)):=by
 cases h with
 | sl0 hc=>exact ⟨_,_,rfl,Nat.zero_le _,hc,.inl ⟨rfl,rfl⟩⟩
 | sl b o cap c hb hn hcap hc hx=>exact ⟨_,_,rfl,hn,hcap,.inr ⟨b,o,c,rfl,hb,hc,hx⟩⟩
theorem den_mp {k} (h:Den P C ids I w (.mp k) y) (hl:(C k).live = true):∃ b,ids k = some (b,0)∧y = .map (some b):=by
 cases h with
 | mpDead h=>rw [h] at hl; cases hl
 | mp b _ hi=>exact ⟨b,hi,rfl⟩
theorem den_clo {f caps} (h:Den P C ids I w (.clo f caps) y):∃ arr,y = .func (.func f) #[] arr∧caps.length = arr.size∧∀ i x,caps[i]? = some x→Den P C ids I w x (arr.getD i undef):=by
 cases h with | clo arr h hx=>exact ⟨arr,rfl,h,hx⟩
theorem den_asl {k off n} (h:Den P C ids I w (.asl k off n) y) (hl:(C k).live = true):∃ b o,ids k = some (b,o)∧y = .slice (some ⟨b,o+off,none⟩) n n:=by
 cases h with
 | aslDead h=>rw [h] at hl; cases hl
 | asl b o _ hi=>exact ⟨b,o,hi,rfl⟩
theorem den_bp {k e n} (h:Den P C ids I w (.bp k e n) y) (hl:(C k).live = true):∃ (b:Nat) (arr:Array Value),ids k = some (b,0)∧y = .pointer (some ⟨b,0,none⟩)∧w.heap[b]? = some (.cells arr e (0,0))∧arr.size = n:=by
 cases h with
 | bpDead b h=>rw [h] at hl; cases hl
 | bp b arr _ hi hw hn=>exact ⟨b,arr,hi,rfl,hw,hn⟩
theorem den_bp_ptr {k e n} (h:Den P C ids I w (.bp k e n) y):Den P C ids I w (.ptr k 0) y:=by
 cases h with
 | bpDead b h=>exact .ptrDead b 0 h
 | bp b arr hl hi hw hn=>exact .ptr b 0 hl hi
theorem den_mth {name x} (h:Den P C ids I w (.mth name x) y):∃ z,y = .func (.method name) #[z] #[]∧Den P C ids I w x z:=by
 cases h with | mth h=>exact ⟨_,rfl,h⟩
theorem den_ifc {t x} (h:Den P C ids I w (.ifc t x) y):∃ z,y = .iface t z∧Den P C ids I w x z:=by
 cases h with | ifc h=>exact ⟨_,rfl,h⟩
theorem den_unw {g:Bool} {s:SV} (hg:g = true) (h:Den P C ids I w s y):Den P C ids I w (unw g s) y:=by
 cases s with
 | gd hh x =>
  subst hg
  cases hh with
  | true=>cases h with | gd h _=>exact h rfl
  | false=>exact .any
 | _=>exact h
end inv
theorem den_lit (P:Program) (C:Nm→Chunk) (I:Nat→Prop) {l:List Value}:∀ i x,(l.map SV.v)[i]? = some x→Den P C ids I w x (l.toArray.getD i undef):=by
 intro i x h
 rw [List.getElem?_map] at h
 cases hl:l[i]? with
 | none=>rw [hl] at h; cases h
 | some y =>
  rw [hl] at h; cases h
  rw [Array.getD_eq_getD_getElem?,List.getElem?_toArray,hl]
  exact .v
theorem szT_some {P:Program} {t n} (h:szT P t = some n):∃ i,P.info? t = some i∧i.size = n:=by
 unfold szT at h
 cases hi:P.info? t with
 | none=>rw [hi] at h; cases h
 | some i=>rw [hi] at h; exact ⟨i,rfl,by simpa using h⟩
theorem szT_cells {P:Program} {t n} (h:szT P t = some n):P.cellsOf t = n:=by
 unfold Program.cellsOf; unfold szT at h; rw [h]; rfl
theorem aggT_run {P:Program} {t:TypeId} {g:Bool} (h:aggT P t = some g) (w:World):(isAgg t).run P w = .ok g w:=by
 unfold aggT at h
 cases hu:P.underlying t with
 | none=>rw [hu] at h; cases h
 | some d =>
  rw [hu] at h
  simp only [Option.map_some,Option.some.injEq] at h
  unfold isAgg
  rw [Sem.run_bind,run_underlying hu w]
  subst h
  cases d <;> rfl
structure Cells (P:Program) (C:Nm→Chunk) (ids:Ids) (I:Nat→Prop) (w:World) (b o:Nat) (cs:List SV):Prop where
 at_:∀ i x,cs[i]? = some x→∃ c,w.cell? ⟨b,o+i,none⟩ = some c∧Den P C ids I w x c
theorem cells_row {P:Program} {C:Nm→Chunk} {I:Nat→Prop} {k:Nm} {b o:Nat} {e:TypeId} {cs:List SV} (h:DenC P C ids I w k (.row e cs)) (hi:ids k = some (b,o)):Cells P C ids I w b o cs:=by
 simp only [DenC,hi] at h
 obtain ⟨arr,ha,hs,hx⟩:=h
 refine ⟨fun i x hix=>⟨arr.getD (o+i) undef,?_,hx i x hix⟩⟩
 have hlt:i < cs.length:=(List.getElem?_eq_some_iff.1 hix).1
 simp only [World.cell?,ha]
 simp [Array.getD_eq_getD_getElem?,Array.getElem?_eq_getElem (show o+i < arr.size by omega)]
theorem list_choose {α:Type} {Q:Nat→α→Value→Prop}:∀ (cs:List α) (o:Nat),(∀ i x,cs[i]? = some x→∃ c,Q (o+i) x c)→∃ l:List Value,l.length = cs.length∧∀ i x,cs[i]? = some x→Q (o+i) x (l.getD i undef)
 | [],_,_=>⟨[],rfl,fun i x h=>by simp at h⟩
 | a::cs,o,h=>by
  obtain ⟨c,hc⟩:=h 0 a rfl
  obtain ⟨l,hl,hx⟩:=list_choose cs (o+1) (fun i x hi=>by
   have:=h (i+1) x (by simpa using hi)
   rwa [show o+(i+1) = o+1+i from by omega] at this)
  refine ⟨c::l,by simp [hl],fun i x hi=>?_⟩
  cases i with
  | zero=>simp at hi; subst hi; exact hc
  | succ i =>
   have:=hx i x (by simpa using hi)
   rw [show o+(i+1) = o+1+i from by omega]
   simpa using this
theorem run_take {P:Program} {C:Nm→Chunk} {I:Nat→Prop} {t:TypeId} {b o off:Nat} {cs:List SV} (hc:Cells P C ids I w b o cs) {rds:List Nm} {side:Prop} {e:Eff} (h:takeS P t cs off rds nx = .ok side e) (hs:side) :
  e.upd = []∧e.nx = nx∧∃ x,(loadVar t ⟨b,o+off,none⟩).run P w = .ok x w∧Den P C ids I w e.val x:=by
 unfold takeS at h
 split at h
 ·rename_i n ha hn
  cases h
  refine ⟨rfl,rfl,?_⟩
  obtain ⟨l,hl,hx⟩:=list_choose (Q:=fun j x c=>w.cell? ⟨b,o+off+j,none⟩ = some c∧Den P C ids I w x c) ((cs.drop off).take n) 0 (fun i x hi=>by
   rw [List.getElem?_take] at hi
   split at hi
   ·rw [List.getElem?_drop] at hi
    obtain ⟨c,h1,h2⟩:=hc.at_ _ x hi
    refine ⟨c,?_,h2⟩
    rw [← h1]; congr 2; omega
   ·cases hi)
  have hlen:l.length = n:=by rw [hl,List.length_take,List.length_drop]; omega
  have hagg:∃ d,P.underlying t = some d∧d.isRow = true:=by
   unfold aggT at ha
   cases hu:P.underlying t with
   | none=>rw [hu] at ha; cases ha
   | some d=>rw [hu] at ha; exact ⟨d,rfl,by cases d <;> first | rfl | exact absurd ha (by simp)⟩
  obtain ⟨d,hu,hd⟩:=hagg
  refine ⟨.agg l.toArray,run_loadVar_mid w b (o+off) t l d (fun j v hv=>?_) hu hd (by unfold szT at hn; rw [hn,hlen]),.agg _ (by simp [hl]) fun i x hi=>?_⟩
  ·have hj:j < l.length:=(List.getElem?_eq_some_iff.1 hv).1
   have hj':j < ((cs.drop off).take n).length:=by omega
   have:=(hx j _ (List.getElem?_eq_getElem hj')).1
   rw [Nat.zero_add] at this
   rw [this,← hv]
   simp [List.getD_eq_getElem?_getD,List.getElem?_eq_getElem hj]
  ·have:=(hx i x hi).2
   simpa [Array.getD_eq_getD_getElem?,List.getD_eq_getElem?_getD] using this
 ·rename_i ha
  cases h
  refine ⟨rfl,rfl,?_⟩
  have hoff:off < cs.length:=hs
  obtain ⟨c,h1,h2⟩:=hc.at_ off _ (List.getElem?_eq_getElem hoff)
  refine ⟨c,?_,?_⟩
  ·simp only [loadVar,Sem.run_bind,aggT_run ha w,Result.andThen_ok,Bool.false_eq_true,if_false]
   simp only [load,Sem.run,h1]
  ·simpa [List.getD_eq_getElem?_getD,List.getElem?_eq_getElem hoff] using h2
 ·cases h
theorem rowS_ok {c:Chunk} {f:TypeId→List SV→Res} {s:Prop} {e:Eff} (h:rowS c f = .ok s e):∃ t cs,c = .row t cs∧f t cs = .ok s e:=by
 cases c <;> simp only [rowS] at h <;> first | exact ⟨_,_,rfl,h⟩ | cases h
theorem row_at (h:HeapX X hp nx ids w) {k:Nm} {b o:Nat} {e:TypeId} {cs:List SV} (hk:getH hp k = .row e cs) (hi:ids k = some (b,o)):Cells X.P (getH hp) ids (Im X.w0 X.I0 X.W0 (getH hp) ids w) w b o cs:=by
 have:=h.st.ch k
 rw [hk] at this
 exact cells_row this hi
theorem sound_load (h:HeapX X hp nx ids w) {t:TypeId} {s:SV} {x:Value} (hd:DenX X hp ids w s x) {side:Prop} {e:Eff} (he:loadS X.P t s hp nx = .ok side e) (hs:side) :
  Sound X hp ids w ((Instr.loadAt t x).run X.P w) e:=by
 have fin:∀ {b o:Nat} {cs:List SV} {off:Nat} {rds:List Nm},Cells X.P (getH hp) ids (Im X.w0 X.I0 X.W0 (getH hp) ids w) w b o cs→takeS X.P t cs off rds nx = .ok side e→x = .pointer (some ⟨b,o+off,none⟩) →
   Sound X hp ids w ((Instr.loadAt t x).run X.P w) e:=by
  intro b o cs off rds hc ht hx
  obtain ⟨h1,h2,y,hr,hy⟩:=run_take hc ht hs
  obtain ⟨val,upd,nx',rds'⟩:=e
  simp only at h1 h2; subst h1; subst h2
  subst hx
  exact sound_pure h (by simp only [Instr.loadAt,Instr.sureAddr,Sem.run_bind,Sem.run_pure,Result.andThen_ok]; exact hr) hy
 unfold loadS at he
 split at he
 ·rename_i k off
  obtain ⟨t',cs,hk,ht⟩:=rowS_ok he
  obtain ⟨b,o,hi,hx⟩:=den_ptr hd (by rw [hk]; rfl)
  exact fin (row_at h hk hi) ht hx
 ·obtain ⟨b,o,c,_,hx,hc,hy⟩:=den_iptr hd
  exact fin ⟨fun i y hi=>⟨c i,hc i y hi,hy i y hi⟩⟩ he hx
 ·cases he
end Go.Sx
end

section
namespace Go.Sx
set_option linter.unusedVariables false
open Go.RowKit
variable {X:Cx} {hp:Hp} {nx:Nat} {ids:Ids} {w:World}
theorem splice_length:∀ (xs cs:List SV) (o:Nat),(splice cs o xs).length = cs.length
 | [],cs,o=>rfl
 | x::xs,cs,o=>by rw [splice,splice_length xs]; simp
theorem splice_get:∀ (xs cs:List SV) (o i:Nat),o+xs.length≤cs.length→(splice cs o xs)[i]? = if o≤i∧i < o+xs.length then xs[i - o]? else cs[i]?
 | [],cs,o,i,h=>by simp only [splice,List.length_nil]; rw [if_neg (by omega)]
 | x::xs,cs,o,i,h=>by
  simp only [List.length_cons] at h
  rw [splice,splice_get xs (cs.set o x) (o+1) i (by simp; omega)]
  simp only [List.length_cons]
  by_cases h1:o+1≤i∧i < o+1+xs.length
  ·rw [if_pos h1,if_pos (by omega),show i - o = (i - (o+1))+1 from by omega,List.getElem?_cons_succ]
  ·rw [if_neg h1]
   by_cases h2:i = o
   ·subst h2
    rw [if_pos (by omega),Nat.sub_self,List.getElem?_cons_zero,List.getElem?_set_self (by omega)]
   ·rw [if_neg (by omega),List.getElem?_set_ne (fun e=>h2 e.symm)]
theorem one_den {P:Program} {C:Nm→Chunk} {I:Nat→Prop} {s:SV} {x:Value} (h:Den P C ids I w s x) (ho:oneS s = true):x.oneCell' = true:=by
 cases h <;> first | rfl | exact ho | (cases ho)
theorem cells_one {x:Value} (h:x.oneCell' = true):x.cells = #[x]:=by cases x <;> first | rfl | cases h
theorem den_cells {P:Program} {C:Nm→Chunk} {I:Nat→Prop} {s:SV} {x:Value} (h:Den P C ids I w s x) (ho:(cellsS s).all oneS = true) :
  x.cells.size = (cellsS s).length∧(∀ i y,(cellsS s)[i]? = some y→Den P C ids I w y (x.cells.getD i undef))∧∀ v ∈ x.cells.toList,v.oneCell' = true:=by
 have single:oneS s = true→cellsS s = [s]→x.cells.size = (cellsS s).length∧(∀ i y,(cellsS s)[i]? = some y→Den P C ids I w y (x.cells.getD i undef))∧∀ v ∈ x.cells.toList,v.oneCell' = true:=by
  intro h1 h2
  have hx:=one_den h h1
  rw [cells_one hx,h2]
  refine ⟨rfl,fun i y hi=>?_,fun v hv=>?_⟩
  ·cases i with
   | zero=>simp at hi; subst hi; exact h
   | succ i=>simp at hi
  ·simp at hv; subst hv; exact hx
 cases s with
 | agg xs =>
  obtain ⟨arr,rfl,hl,hx⟩:=den_agg h
  simp only [cellsS] at ho ⊢
  refine ⟨hl.symm,hx,fun v hv=>?_⟩
  obtain ⟨i,hi,rfl⟩:=List.getElem_of_mem hv
  have hi':i < xs.length:=by rw [hl]; simpa [Value.cells] using hi
  have h1:=hx i _ (List.getElem?_eq_getElem hi')
  have h2:=one_den h1 (List.all_eq_true.1 ho _ (List.getElem_mem hi'))
  have hs:i < arr.size:=by simpa [Value.cells] using hi
  rw [Array.getD_eq_getD_getElem?,Array.getElem?_eq_getElem hs] at h2
  simpa [Value.cells] using h2
 | any=>simp [cellsS,oneS] at ho
 | tup xs=>simp [cellsS,oneS] at ho
 | gd g y=>simp [cellsS,oneS] at ho
 | v y=>exact single (by simpa [cellsS] using ho) rfl
 | sl n cs=>exact single (by simpa [cellsS] using ho) rfl
 | own k o n=>exact single (by simpa [cellsS] using ho) rfl
 | ptr k o=>exact single (by simpa [cellsS] using ho) rfl
 | iptr cs o=>exact single (by simpa [cellsS] using ho) rfl
 | mp k=>exact single (by simpa [cellsS] using ho) rfl
 | it k=>exact single (by simpa [cellsS] using ho) rfl
 | clo f cs=>exact single (by simpa [cellsS] using ho) rfl
 | er a b c d=>exact single (by simpa [cellsS] using ho) rfl
 | ifc t x=>exact single (by simpa [cellsS] using ho) rfl
 | mth t x=>exact single (by simpa [cellsS] using ho) rfl
 | asl k o n=>exact single (by simpa [cellsS] using ho) rfl
 | bp k e n=>exact single (by simpa [cellsS] using ho) rfl
theorem heap_turn (h:HeapX X hp nx ids w) {k:Nm} {b o:Nat} {e:TypeId} {cs cs':List SV} (hk:getH hp k = .row e cs) (hi:ids k = some (b,o)) {arr arr':Array Value}
  (hw:w.heap[b]? = some (.cells arr e (0,0))) (hs:arr'.size = arr.size) (hl:o+cs'.length≤arr.size) (hsh:cs'.length≤cs.length)
  (hx:∀ i x,cs'[i]? = some x→DenX X hp ids w x (arr'.getD (o+i) undef)) :
  HeapC X ([updE k (.row e cs') hp]++hp) ids (w.setRow b arr')∧ExtX X hp ids w ([updE k (.row e cs') hp]++hp) ids (w.setRow b arr'):=by
 have hlk:(getH hp k).live = true:=by rw [hk]; rfl
 have hz:(w.setRow b arr').heap.size = w.heap.size:=by simp [World.setRow]
 have hat:=setRow_heap w b arr arr' e (0,0) hw
 have hshape:SameShape w.heap[b]? (w.setRow b arr').heap[b]?:=fun a t ha=>by
  rw [hw] at ha; cases ha
  exact ⟨arr',hat,hs⟩
 have hE:=h.st.turn_ext hlk hi (c:=.row e cs') rfl (by rw [hk]; exact ⟨rfl,hsh⟩) hz (fun j hj=>setRow_other w b j arr' hj) hshape
 have hC:getH ([updE k (.row e cs') hp]++hp) = upd (getH hp) k (.row e cs'):=getH_put (by rw [hk]; simp) (by simp)
 refine ⟨⟨?_,fun j hj h0 hjl=>?_,fun j hj hv=>by rw [hC] at hv; exact nov_upd h.nov (fun e=>by cases e) j hj hv⟩,?_⟩
 ·rw [hC]
  refine h.st.turn hlk hi rfl (by rw [hk]; exact ⟨rfl,hsh⟩) hz (fun j hj=>setRow_other w b j arr' hj) hshape rfl rfl rfl ?_
  simp only [DenC,hi]
  exact ⟨arr',hat,by rw [hs]; exact hl,fun i x hix=>(hx i x hix).mono hE⟩
 ·rw [hC] at hjl ⊢
  have hlo:(getH hp j).live = true:=by
   by_cases hjk:j = k
   ·subst hjk; exact hlk
   ·rwa [upd_ne _ _ hjk] at hjl
  exact (h.kept j hj h0 hlo).step hE hlo hjl
 ·simp only [ExtX,hC]; exact hE
theorem sound_store (h:HeapX X hp nx ids w) {t:TypeId} {s v:SV} {x y:Value} (hd:DenX X hp ids w s x) (hv:DenX X hp ids w v y) {side:Prop} {e:Eff}
  (he:storeS X.P t s v hp nx = .ok side e) (hs:side):SoundU X hp ids w ((Instr.storeAt t x y).run X.P w) e:=by
 unfold storeS at he
 split at he
 ·rename_i k off
  obtain ⟨t',cs,hk,ht⟩:=rowS_ok he
  cases ht
  obtain ⟨h1,h2,h3⟩:=hs
  obtain ⟨b,o,hi,rfl⟩:=den_ptr hd (by rw [hk]; rfl)
  have hc:=h.st.ch k
  rw [hk] at hc
  simp only [DenC,hi] at hc
  obtain ⟨arr,hw,hl,hx⟩:=hc
  obtain ⟨c1,c2,c3⟩:=den_cells hv h2
  obtain ⟨i,hti,hsz⟩:=szT_some h1
  have hlen:(y.cells.toList).length = (cellsS v).length:=by simpa using c1
  have hrun:=run_storeCells_at (P:=X.P) b (o+off) t' y.cells.toList 0 arr w hw (by rw [hlen]; omega) c3
  simp only [Nat.add_zero] at hrun
  have hst:(Instr.storeAt t (.pointer (some ⟨b,o+off,none⟩)) y).run X.P w = .ok () (w.setRow b (arr.toList.take (o+off)++y.cells.toList++arr.toList.drop (o+off+y.cells.toList.length)).toArray):=by
   simp only [Instr.storeAt,Instr.sureAddr,Sem.run_bind,Sem.run_pure,Result.andThen_ok,storeVar,sizeOf,typeInfo]
   simp [hti,hsz,c1,hrun]
  have hsize:(arr.toList.take (o+off)++y.cells.toList++arr.toList.drop (o+off+y.cells.toList.length)).toArray.size = arr.size:=by
   simp only [List.size_toArray,List.length_append,List.length_take,List.length_drop,Array.length_toList]; rw [c1]; omega
  have:=heap_turn h hk hi (cs':=splice cs off (cellsS v)) hw hsize (by rw [splice_length]; exact hl) (by rw [splice_length]; exact Nat.le_refl _) (fun j z hj=>by
   rw [splice_get _ _ _ _ h3] at hj
   have hget:∀ q,(arr.toList.take (o+off)++y.cells.toList++arr.toList.drop (o+off+y.cells.toList.length)).toArray.getD q undef =
     if q < o+off then arr.getD q undef else if q < o+off+y.cells.size then y.cells.getD (q - (o+off)) undef else arr.getD q undef:=by
    intro q
    have hoo:o+off≤arr.size:=by omega
    simp only [Array.getD_eq_getD_getElem?,List.getElem?_toArray]
    by_cases hq:q < o+off
    ·rw [if_pos hq,List.append_assoc,List.getElem?_append_left (by simp; omega),List.getElem?_take,if_pos hq]
     simp
    ·rw [if_neg hq,List.append_assoc,List.getElem?_append_right (by simp; omega)]
     simp only [List.length_take,Array.length_toList,Nat.min_eq_left hoo]
     by_cases hq2:q < o+off+y.cells.size
     ·rw [if_pos hq2,List.getElem?_append_left (by simp; omega)]
      simp
     ·rw [if_neg hq2,List.getElem?_append_right (by simp; omega),List.getElem?_drop]
      simp only [Array.length_toList,Array.getElem?_toList]
      congr 2; omega
   rw [hget]
   by_cases hj1:off≤j∧j < off+(cellsS v).length
   ·rw [if_pos hj1] at hj
    rw [if_neg (by omega),if_pos (by omega),show o+j - (o+off) = j - off from by omega]
    exact c2 _ _ hj
   ·rw [if_neg hj1] at hj
    have hxj:=hx j z hj
    split
    ·exact hxj
    ·rw [if_neg (by omega)]; exact hxj)
  exact ⟨_,ids,hst,this.1,this.2⟩
 ·cases he
theorem heap_alloc (h:HeapX X hp nx ids w) {e:TypeId} {cs:List SV} {arr:Array Value} (hl:cs.length≤arr.size) (hx:∀ i x,cs[i]? = some x→DenX X hp ids w x (arr.getD i undef)) :
  HeapC X ([(Nm.t nx,.row e cs)]++hp) (upd ids (Nm.t nx) (some (w.heap.size,0))) (w.alloc (.cells arr e))∧ExtX X hp ids w ([(Nm.t nx,.row e cs)]++hp) (upd ids (Nm.t nx) (some (w.heap.size,0))) (w.alloc (.cells arr e)):=by
 have hb:getH hp (Nm.t nx) = .unborn:=h.fresh
 have hC:getH ([(Nm.t nx,.row e cs)]++hp) = upd (getH hp) (Nm.t nx) (.row e cs):=getH_upd nx _ hp
 have hE:=h.st.alloc_ext hb (.row e cs) (.cells arr e)
 refine ⟨⟨?_,fun j hj h0 hjl=>?_,fun j hj hv=>by rw [hC] at hv; exact nov_upd h.nov (fun e=>by cases e) j hj hv⟩,?_⟩
 ·rw [hC]
  refine h.st.alloc hb _ _ ?_
  simp only [DenC,upd_same]
  exact ⟨arr,heap_alloc_new' w _,by simpa using hl,fun i x hi=>by rw [Nat.zero_add]; exact (hx i x hi).mono hE⟩
 ·have hjn:j≠Nm.t nx:=fun e=>by have:=h.m_le; subst e; simp at hj; omega
  rw [hC] at hjl ⊢
  have hlo:(getH hp j).live = true:=by rwa [upd_ne _ _ hjn] at hjl
  exact (h.kept j hj h0 hlo).step hE hlo hjl
 ·simp only [ExtX,hC]; exact hE
def allocS (P:Program) (t:TypeId) (nx:Nat):Res :=
 match zeroT P t with
 | some cs=>.ok True ⟨.ptr nx 0,[(Nm.t nx,.row t cs)],nx+1,[]⟩
 | none=>.bad
def boxS (t:TypeId) (x:SV) (nx:Nat):Res:=.ok ((cellsS x).all oneS = true) ⟨.ptr nx 0,[(Nm.t nx,.row t (cellsS x))],nx+1,[]⟩
theorem den_new (X:Cx) (hp:Hp) (nx:Nat) (ids:Ids) (w:World) (w':World) (c:Chunk) (hc:c.live = true):DenX X ([(Nm.t nx,c)]++hp) (upd ids (Nm.t nx) (some (w.heap.size,0))) w' (.ptr nx 0) (.pointer (some ⟨w.heap.size,0,none⟩)) :=
 .ptr w.heap.size 0 (by rw [List.singleton_append,getH_upd,upd_same]; exact hc) (upd_same _ _ _)
theorem sound_alloc (h:HeapX X hp nx ids w) {t:TypeId} {side:Prop} {e:Eff} (he:allocS X.P t nx = .ok side e) (old:Value):Sound X hp ids w ((Instr.alloc t true old).run X.P w) e:=by
 unfold allocS at he
 split at he
 ·rename_i cs hz
  cases he
  unfold zeroT at hz
  cases hi:X.P.info? t with
  | none=>rw [hi] at hz; cases hz
  | some i =>
   rw [hi] at hz
   cases hzz:i.zero with
   | none=>simp [hzz] at hz
   | some z =>
    simp [hzz] at hz
    obtain ⟨h1,h2⟩:=heap_alloc h (e:=t) (cs:=cs) (arr:=z.cells) (by rw [← hz]; simp) (fun j x hj=>by
     rw [← hz] at hj
     have:=den_lit (ids:=ids) (w:=w) X.P (getH hp) (Im X.w0 X.I0 X.W0 (getH hp) ids w) (l:=z.cells.toList) j x (by simpa using hj)
     simpa using this)
    refine ⟨_,_,_,?_,h1,h2,den_new X hp nx ids w _ _ rfl⟩
    simp [Instr.alloc,zeroValue,typeInfo,hi,hzz,newVar,newRow]
 ·cases he
theorem sound_box (h:HeapX X hp nx ids w) {t:TypeId} {s:SV} {x:Value} (hd:DenX X hp ids w s x) {side:Prop} {e:Eff} (he:boxS t s nx = .ok side e) (hs:side):Sound X hp ids w ((Instr.box t x).run X.P w) e:=by
 cases he
 obtain ⟨c1,c2,c3⟩:=den_cells hd hs
 obtain ⟨h1,h2⟩:=heap_alloc h (e:=t) (cs:=cellsS s) (arr:=x.cells) (by omega) c2
 refine ⟨_,_,_,?_,h1,h2,den_new X hp nx ids w _ _ rfl⟩
 simp [Instr.box,newVar,newRow]
end Go.Sx
end

section
namespace Go.Sx
set_option linter.unusedVariables false
open Go.RowKit
variable {X:Cx} {hp:Hp} {nx:Nat} {ids:Ids} {w:World}
def fieldT (P:Program) (t:TypeId) (f:Nat):Option (Nat×TypeId×Nat) :=
 match P.underlying t with
 | some (.struct fs)=>(fs[f]?).bind fun fl=>(szT P fl.type).bind fun n=>if n = 0 then none else some (fl.offset,fl.type,n)
 | _=>none
def sliceT (P:Program) (t:TypeId):Option (TypeId×Nat) :=
 match P.underlying t with
 | some (.slice e)=>(szT P e).map fun n=>(e,n)
 | _=>none
def arrT (P:Program) (t:TypeId):Option (Nat×TypeId×Nat) :=
 match P.underlying t with
 | some (.array l e)=>(szT P e).map fun n=>(l,e,n)
 | _=>none
theorem fieldT_some {P:Program} {t f o ft n} (h:fieldT P t f = some (o,ft,n)):∃ fs fl i,P.underlying t = some (.struct fs)∧fs[f]? = some fl∧fl.offset = o∧fl.type = ft∧P.info? ft = some i∧i.size = n∧n≠0:=by
 unfold fieldT at h
 split at h
 ·rename_i fs hu
  cases hf:fs[f]? with
  | none=>rw [hf] at h; cases h
  | some fl =>
   rw [hf] at h
   simp only [Option.bind_some] at h
   cases hz:szT P fl.type with
   | none=>rw [hz] at h; cases h
   | some m =>
    rw [hz] at h
    simp only [Option.bind_some] at h
    split at h
    ·cases h
    ·cases h
     obtain ⟨i,hi,hs⟩:=szT_some hz
     exact ⟨fs,fl,i,hu,hf,rfl,rfl,hi,hs,by assumption⟩
 ·cases h
theorem sliceT_some {P:Program} {t e n} (h:sliceT P t = some (e,n)):∃ i,P.underlying t = some (.slice e)∧P.info? e = some i∧i.size = n:=by
 unfold sliceT at h
 split at h
 ·rename_i e' hu
  cases hz:szT P e' with
  | none=>rw [hz] at h; cases h
  | some m =>
   rw [hz] at h; cases h
   obtain ⟨i,hi,hs⟩:=szT_some hz
   exact ⟨i,hu,hi,hs⟩
 ·cases h
theorem arrT_some {P:Program} {t l e n} (h:arrT P t = some (l,e,n)):∃ i,P.underlying t = some (.array l e)∧P.info? e = some i∧i.size = n:=by
 unfold arrT at h
 split at h
 ·rename_i l' e' hu
  cases hz:szT P e' with
  | none=>rw [hz] at h; cases h
  | some m =>
   rw [hz] at h; cases h
   obtain ⟨i,hi,hs⟩:=szT_some hz
   exact ⟨i,hu,hi,hs⟩
 ·cases h
theorem add_mk (b o n:Nat):(⟨b,o,none⟩:Addr).add n = ⟨b,o+n,none⟩:=Addr.add_mid b o n
theorem den_ptr' {P:Program} {C:Nm→Chunk} {I:Nat→Prop} {y:Value} {k off} (h:Den P C ids I w (.ptr k off) y):(C k = .dead∧∃ b q,y = .pointer (some ⟨b,q,none⟩))∨((C k).live = true∧∃ b o,ids k = some (b,o)∧y = .pointer (some ⟨b,o+off,none⟩)):=by
 cases h with
 | ptrDead b q h=>exact .inl ⟨h,b,q,rfl⟩
 | ptr b o hl hi=>exact .inr ⟨hl,b,o,hi,rfl⟩
def liveS (c:Chunk) (r:Res):Res:=match c with
 | .row _ _=>r
 | _=>.bad
theorem liveS_ok {c:Chunk} {r:Res} {s e} (h:liveS c r = .ok s e):(∃ t cs,c = .row t cs)∧r = .ok s e:=by
 cases c <;> simp only [liveS] at h <;> first | exact ⟨⟨_,_,rfl⟩,h⟩ | cases h
def fieldAddrS' (P:Program) (t:TypeId) (x:SV) (f:Nat) (hp:Hp) (nx:Nat):Res :=
 match fieldT P t f with
 | some (o,_,_)=>match x with
  | .ptr k off=>.ok True ⟨.ptr k (off+o),[],nx,[]⟩
  | .iptr cs off=>.ok True ⟨.iptr cs (off+o),[],nx,[]⟩
  | _=>.bad
 | none=>.bad
theorem sound_fieldAddr (h:HeapX X hp nx ids w) {t:TypeId} {f:Nat} {s:SV} {x:Value} (hd:DenX X hp ids w s x) {side:Prop} {e:Eff} (he:fieldAddrS' X.P t s f hp nx = .ok side e) (hs:side) :
  Sound X hp ids w ((Instr.fieldAt t x f).run X.P w) e:=by
 unfold fieldAddrS' at he
 split at he
 ·rename_i o ft n hf
  obtain ⟨fs,fl,i,hu,hfl,ho,hft,hi,hsz,hn⟩:=fieldT_some hf
  have hrun:∀ b q,(Instr.fieldAt t (.pointer (some ⟨b,q,none⟩)) f).run X.P w = .ok (.pointer (some ⟨b,q+o,none⟩)) w:=by
   intro b q
   subst ho; subst hft; subst hsz
   simp only [Instr.fieldAt,Sem.run_bind,run_underlying hu w,Result.andThen_ok,hfl]
   simp [Instr.sureAddr,fieldPlace,sizeOf,typeInfo,hi,hn,add_mk]
  split at he
  ·rename_i k off
   cases he
   rcases den_ptr' hd with ⟨hk,b,q,rfl⟩ | ⟨hl,b,q,hid,rfl⟩
   ·exact sound_pure h (hrun b q) (.ptrDead b _ hk)
   ·have:=hrun b (q+off)
    exact sound_pure h this (by rw [Nat.add_assoc]; exact .ptr b q hl hid)
  ·rename_i cs off
   cases he
   obtain ⟨b,q,c,hI,rfl,hc,hx⟩:=den_iptr hd
   have:=hrun b (q+off)
   exact sound_pure h this (by rw [Nat.add_assoc]; exact .iptr b q c hI hc hx)
  ·cases he
 ·cases he
def tabS (P:Program) (x:SV):SV:=match x with
 | .v (.pointer (some ⟨g,0,none⟩))=>match tabOf P g with
  | some cs=>.iptr cs 0
  | none=>x
 | _=>x
theorem tabCell_den {x:SV} {y:Value} (h:HeapC X hp ids w) (hd:tabDen X.I0 X.w0 x y):DenX X hp ids w x y:=by
 unfold tabDen at hd
 split at hd
 ·exact .any
 ·rw [hd]; exact .v
 ·obtain ⟨rfl,h1,a,rfl,h2⟩:=hd
  obtain ⟨h5,h6⟩:=h.st.im0 _ h1
  refine .erT a ⟨.inl h1,Nat.lt_of_lt_of_le h5 h.st.size,fun k hl o hi=>?_⟩ ((cell_eq (h.st.evol _ h5 h6)).trans h2)
  rcases (h.st.lt k _ o hl hi).2 with h7 | h7
  ·exact h6 h7
  ·omega
 ·obtain ⟨b,q,cap,rfl,h1,h2,h3,h4⟩:=hd
  obtain ⟨h5,h6⟩:=h.st.im0 b h1
  refine .sl b q cap (fun i=>match (‹List SV›:List SV)[i]? with | some (.v v)=>v | _=>undef) ⟨.inl h1,Nat.lt_of_lt_of_le h5 h.st.size,fun k hl o hi=>?_⟩ h2 h3 (fun i x hi=>?_) (fun i x hi=>?_)
  ·rcases (h.st.lt k b o hl hi).2 with h7 | h7
   ·exact h6 h7
   ·omega
  ·obtain ⟨v,rfl,hv⟩:=h4 i x hi
   simp only [hi]
   exact (cell_eq (h.st.evol b h5 h6)).trans hv
  ·obtain ⟨v,rfl,hv⟩:=h4 i x hi
   simp only [hi]
   exact .v
 ·exact hd.elim
theorem tab_den {s:SV} {y:Value} (h:HeapC X hp ids w) (hd:DenX X hp ids w s y):DenX X hp ids w (tabS X.P s) y:=by
 unfold tabS
 split
 ·rename_i g
  split
  ·rename_i cs hc
   cases hd
   obtain ⟨h1,-,h2⟩:=X.gl g cs hc
   obtain ⟨h3,h4⟩:=h.st.im0 g h1
   refine .iptr g 0 (fun i=>(X.w0.cell? ⟨g,i,none⟩).getD undef) ⟨.inl h1,Nat.lt_of_lt_of_le h3 h.st.size,fun k hl o hi=>?_⟩ (fun i x hi=>?_) (fun i x hi=>?_)
   ·rcases (h.st.lt k g o hl hi).2 with h5 | h5
    ·exact h4 h5
    ·omega
   ·obtain ⟨y,hy,hd⟩:=h2 i x hi
    rw [Nat.zero_add,(cell_eq (h.st.evol g h3 h4)).trans hy,hy]; rfl
   ·obtain ⟨y,hy,hd⟩:=h2 i x hi
    rw [hy]
    exact tabCell_den h hd
  ·exact hd
 ·exact hd
def indexAddrS (P:Program) (t:TypeId) (x i:SV) (hp:Hp) (nx:Nat):Res :=
 match i with
 | .v (.int _ n) =>
  match sliceT P t with
  | some (_,z)=>match x with
   | .own k off len=>liveS (getH hp k) (.ok (0≤n∧n < len) ⟨.ptr k (off+n.toNat * z),[],nx,[k.key]⟩)
   | .sl len cs=>.ok (0≤n∧n < len) ⟨.iptr cs (n.toNat * z),[],nx,[]⟩
   | _=>.bad
  | none=>match arrT P t with
   | some (len,_,z)=>match x with
    | .ptr k off=>.ok (0≤n∧n < len) ⟨.ptr k (off+n.toNat * z),[],nx,[]⟩
    | .iptr cs off=>.ok (0≤n∧n < len) ⟨.iptr cs (off+n.toNat * z),[],nx,[]⟩
    | _=>.bad
   | none=>.bad
 | _=>.bad
theorem den_own_pos {P:Program} {C:Nm→Chunk} {I:Nat→Prop} {y:Value} {k off n} (h:Den P C ids I w (.own k off n) y) (hl:(C k).live = true) (hn:0 < n) :
 ∃b o cap,ids k = some (b,o)∧y = .slice (some ⟨b,o+off,none⟩) n cap:=by
 obtain ⟨a,cap,rfl,h1,h2,_,h3⟩:=den_own h hl
 rcases h3 with ⟨h3,_⟩ | ⟨b,o,e,cs,arr,hc,hi,rfl,_⟩
 ·omega
 ·exact ⟨b,o,cap,hi,rfl⟩
theorem run_indexAt_slice {P:Program} {t e:TypeId} {i:TypeInfo} (hu:P.underlying t = some (.slice e)) (hi:P.info? e = some i) (b o len cap:Nat) (kd:IntKind) (n:Int) (h0:0≤n) (h1:n < len) (w:World) :
  (Instr.indexAt t (.slice (some ⟨b,o,none⟩) len cap) (.int kd n)).run P w = .ok (.pointer (some ⟨b,o+n.toNat * i.size,none⟩)) w:=by
 simp [Instr.indexAt,asIntOf,run_underlying hu,sizeOf,typeInfo,hi,h0,h1,add_mk]
theorem run_indexAt_arr {P:Program} {t e:TypeId} {len:Nat} {i:TypeInfo} (hu:P.underlying t = some (.array len e)) (hi:P.info? e = some i) (b o:Nat) (kd:IntKind) (n:Int) (h0:0≤n) (h1:n < len) (w:World) :
  (Instr.indexAt t (.pointer (some ⟨b,o,none⟩)) (.int kd n)).run P w = .ok (.pointer (some ⟨b,o+n.toNat * i.size,none⟩)) w:=by
 simp [Instr.indexAt,asIntOf,run_underlying hu,Instr.sureAddr,sizeOf,typeInfo,hi,h0,h1,add_mk]
theorem sound_indexAddr (h:HeapX X hp nx ids w) {t:TypeId} {s q:SV} {x y:Value} (hd:DenX X hp ids w s x) (hq:DenX X hp ids w q y) {side:Prop} {e:Eff} (he:indexAddrS X.P t s q hp nx = .ok side e) (hs:side) :
  Sound X hp ids w ((Instr.indexAt t x y).run X.P w) e:=by
 unfold indexAddrS at he
 split at he
 ·rename_i kd n
  obtain rfl:=den_v hq
  split at he
  ·rename_i e' z hz
   obtain ⟨i,hu,hi,rfl⟩:=sliceT_some hz
   split at he
   ·rename_i k off len
    obtain ⟨⟨t',cs,hk⟩,he⟩:=liveS_ok he
    cases he
    obtain ⟨h0,h1⟩:=hs
    obtain ⟨b,o,cap,hid,rfl⟩:=den_own_pos hd (by rw [hk]; rfl) (by omega)
    exact sound_pure h (run_indexAt_slice hu hi _ _ _ _ _ _ h0 h1 w) (by rw [Nat.add_assoc]; exact .ptr b o (by rw [hk]; rfl) hid)
   ·rename_i len cs
    cases he
    obtain ⟨h0,h1⟩:=hs
    obtain ⟨a,cap,rfl,_,_,h3⟩:=den_sl hd
    rcases h3 with ⟨h3,_⟩ | ⟨b,o,c,rfl,hI,hc,hx⟩
    ·omega
    ·exact sound_pure h (run_indexAt_slice hu hi _ _ _ _ _ _ h0 h1 w) (.iptr b o c hI hc hx)
   ·cases he
  ·split at he
   ·rename_i len e' z hz
    obtain ⟨i,hu,hi,rfl⟩:=arrT_some hz
    split at he
    ·rename_i k off
     cases he
     obtain ⟨h0,h1⟩:=hs
     rcases den_ptr' hd with ⟨hk,b,o,rfl⟩ | ⟨hl,b,o,hid,rfl⟩
     ·exact sound_pure h (run_indexAt_arr hu hi _ _ _ _ h0 h1 w) (.ptrDead b _ hk)
     ·exact sound_pure h (run_indexAt_arr hu hi _ _ _ _ h0 h1 w) (by rw [Nat.add_assoc]; exact .ptr b o hl hid)
    ·rename_i cs off
     cases he
     obtain ⟨h0,h1⟩:=hs
     obtain ⟨b,o,c,hI,rfl,hc,hx⟩:=den_iptr hd
     exact sound_pure h (run_indexAt_arr hu hi _ _ _ _ h0 h1 w) (by rw [Nat.add_assoc]; exact .iptr b o c hI hc hx)
    ·cases he
   ·cases he
 ·cases he
def partS (P:Program) (t:TypeId) (cs:List SV) (off:Nat) (nx:Nat):Res:=takeS P t cs off [] nx
theorem run_part {P:Program} {C:Nm→Chunk} {I:Nat→Prop} {t:TypeId} {cs:List SV} {arr:Array Value} (hl:cs.length = arr.size) (hx:∀ i x,cs[i]? = some x→Den P C ids I w x (arr.getD i undef)) {off:Nat} {side:Prop} {e:Eff}
  (h:partS P t cs off nx = .ok side e) (hs:side):e.upd = []∧e.nx = nx∧∃ x,(part t arr off).run P w = .ok x w∧Den P C ids I w e.val x:=by
 unfold partS takeS at h
 split at h
 ·rename_i n ha hn
  cases h
  obtain ⟨i,hi,rfl⟩:=szT_some hn
  refine ⟨rfl,rfl,.agg (arr.extract off (off+i.size)),?_,.agg _ ?_ fun j x hj=>?_⟩
  ·simp [part,Sem.run_bind,aggT_run ha w,sizeOf,typeInfo,hi]
  ·simp only [List.length_take,List.length_drop,Array.size_extract]; omega
  ·rw [List.getElem?_take] at hj
   split at hj
   ·rw [List.getElem?_drop] at hj
    have h1:=hx _ _ hj
    have hlt:off+j < arr.size:=by have:=(List.getElem?_eq_some_iff.1 hj).1; omega
    have hside:off+i.size≤cs.length:=hs
    rw [Array.getD_eq_getD_getElem?,Array.getElem?_eq_getElem hlt] at h1
    rw [Array.getD_eq_getD_getElem?,Array.getElem?_extract,if_pos (by omega),Array.getElem?_eq_getElem hlt]
    exact h1
   ·cases hj
 ·rename_i ha
  cases h
  have hoff:off < cs.length:=hs
  refine ⟨rfl,rfl,arr.getD off undef,?_,?_⟩
  ·simp only [part,Sem.run_bind,aggT_run ha w,Result.andThen_ok,Bool.false_eq_true,if_false]
   simp [Array.getD_eq_getD_getElem?,Array.getElem?_eq_getElem (show off < arr.size by omega)]
  ·have:=hx off _ (List.getElem?_eq_getElem hoff)
   simpa [List.getD_eq_getElem?_getD,List.getElem?_eq_getElem hoff] using this
 ·cases h
def fieldS (P:Program) (t:TypeId) (x:SV) (f:Nat) (nx:Nat):Res :=
 match fieldT P t f,x with
 | some (o,ft,_),.agg cs=>partS P ft cs o nx
 | _,_=>.bad
theorem sound_field (h:HeapX X hp nx ids w) {t:TypeId} {f:Nat} {s:SV} {x:Value} (hd:DenX X hp ids w s x) {side:Prop} {e:Eff} (he:fieldS X.P t s f nx = .ok side e) (hs:side) :
  Sound X hp ids w ((Instr.field t x f).run X.P w) e:=by
 unfold fieldS at he
 split at he
 ·rename_i o ft n cs hf
  obtain ⟨fs,fl,i,hu,hfl,ho,hft,hi,hsz,hn⟩:=fieldT_some hf
  obtain ⟨arr,rfl,hl,hx⟩:=den_agg hd
  obtain ⟨h1,h2,y,hr,hy⟩:=run_part hl hx he hs
  obtain ⟨val,up,nx',rds'⟩:=e
  simp only at h1 h2; subst h1; subst h2; subst ho; subst hft
  exact sound_pure h (by simp only [Instr.field,Sem.run_bind,run_underlying hu w,Result.andThen_ok,hfl,asAgg]; exact hr) hy
 ·cases he
def indexS (P:Program) (t:TypeId) (x i:SV) (nx:Nat):Res :=
 match x,i with
 | .agg cs,.v (.int _ n)=>match arrT P t with
  | some (len,e,z)=>match partS P e cs (n.toNat * z) nx with
   | .ok s r=>.ok ((0≤n∧n < len)∧s) r
   | .bad=>.bad
  | none=>.bad
 | .v (.string s),.v (.int _ n)=>match P.underlying t with
  | some .string=>.ok (0≤n∧n < s.size) ⟨.v (.int .u8 (s.data.getD n.toNat 0).toNat),[],nx,[]⟩
  | _=>.bad
 | _,_=>.bad
theorem sound_index (h:HeapX X hp nx ids w) {t:TypeId} {s q:SV} {x y:Value} (hd:DenX X hp ids w s x) (hq:DenX X hp ids w q y) {side:Prop} {e:Eff} (he:indexS X.P t s q nx = .ok side e) (hs:side) :
  Sound X hp ids w ((Instr.index t x y).run X.P w) e:=by
 unfold indexS at he
 split at he
 ·rename_i cs kd n
  obtain rfl:=den_v hq
  obtain ⟨arr,rfl,hl,hx⟩:=den_agg hd
  split at he
  ·rename_i len e' z hz
   obtain ⟨i,hu,hi,rfl⟩:=arrT_some hz
   split at he
   ·rename_i s' r hp'
    cases he
    obtain ⟨⟨h0,h1⟩,hs'⟩:=hs
    obtain ⟨g1,g2,y,hr,hy⟩:=run_part hl hx hp' hs'
    obtain ⟨val,up,nx',rds'⟩:=e
    simp only at g1 g2; subst g1; subst g2
    exact sound_pure h (by simp only [Instr.index,asIntOf,Sem.run_bind,Sem.run_pure,run_underlying hu w,Result.andThen_ok,h0,h1,and_self,if_true,sizeOf,typeInfo]; simp [hi,hr]) hy
   ·cases he
  ·cases he
 ·rename_i s kd n
  split at he
  ·rename_i hu
   cases he
   obtain rfl:=den_v hq
   obtain rfl:=den_v hd
   obtain ⟨h0,h1⟩:=hs
   refine sound_pure h ?_ .v
   simp only [Instr.index,asIntOf,Sem.run_bind,Sem.run_pure,run_underlying hu w,Result.andThen_ok,h0,if_true]
   have hlt:n.toNat < s.size:=by omega
   have hlt':n.toNat < s.data.size:=hlt
   rw [getElem?_pos s n.toNat hlt]
   simp [ByteArray.getElem_eq_getElem_data,Array.getD_eq_getD_getElem?,Array.getElem?_eq_getElem hlt']
  ·cases he
 ·cases he
end Go.Sx
end

section
namespace Go.Sx
set_option linter.unusedVariables false
open Go.RowKit
variable {X:Cx} {hp:Hp} {nx:Nat} {ids:Ids} {w:World}
def fillS (place:Nat→Option (Nat×Nat)) (cs:List SV):List (Nat×SV)→Option (List SV)
 | []=>some cs
 | p::r=>match place p.1 with
  | some (o,n)=>bif (cellsS p.2).length == n && (Nat.ble (o+n) cs.length && (cellsS p.2).all oneS) then fillS place (splice cs o (cellsS p.2)) r else none
  | none=>none
def placeT (P:Program) (t:TypeId):Option (List (Nat×Nat)) :=
 match P.underlying t with
 | some (.struct fs)=>fs.toList.mapM (fun f=>(P.info? f.type).map fun i=>(f.offset,i.size))
 | _=>none
structure AllDen (P:Program) (C:Nm→Chunk) (ids:Ids) (I:Nat→Prop) (w:World) (cs:List SV) (arr:Array Value):Prop where
 len:cs.length = arr.size
 den:∀ i x,cs[i]? = some x→Den P C ids I w x (arr.getD i undef)
theorem fill_den {P:Program} {C:Nm→Chunk} {I:Nat→Prop} {place:Nat→Option (Nat×Nat)}:∀ (ps:List (Nat×SV)) (vs:List (Nat×Value)) (cs:List SV) (arr:Array Value) (out:List SV),
  ps.length = vs.length→(∀ (i:Nat) (p:Nat×SV) (q:Nat×Value),ps[i]? = some p→vs[i]? = some q→p.1 = q.1∧Den P C ids I w p.2 q.2)→AllDen P C ids I w cs arr→fillS place cs ps = some out →
 ∃res,Instr.fill place arr vs = some res∧AllDen P C ids I w out res
 | [],[],cs,arr,out,_,_,hA,h=>by simp only [fillS,Option.some.injEq] at h; subst h; exact ⟨arr,rfl,hA⟩
 | [],_::_,_,_,_,h,_,_,_=>by simp at h
 | _::_,[],_,_,_,h,_,_,_=>by simp at h
 | p::ps,q::vs,cs,arr,out,hl,hd,hA,h=>by
  obtain ⟨h1,h2⟩:=hd 0 p q rfl rfl
  simp only [fillS] at h
  split at h
  ·rename_i o n hpl
   cases hb:((cellsS p.2).length == n && (Nat.ble (o+n) cs.length && (cellsS p.2).all oneS)) with
   | false=>rw [hb] at h; cases h
   | true =>
    rw [hb] at h
    simp only [Bool.and_eq_true,beq_iff_eq,Nat.ble_eq] at hb
    obtain ⟨b1,b2,b3⟩:=hb
    obtain ⟨c1,c2,c3⟩:=den_cells h2 b3
    obtain ⟨f1,f2⟩:=Go.Great.foldl_set o q.2.cells.toList 0 arr
    have hA':AllDen P C ids I w (splice cs o (cellsS p.2)) ((q.2.cells.toList.zipIdx 0).foldl (fun cs (x:Value×Nat)=>cs.setIfInBounds (o+x.2) x.1) arr):=by
     refine ⟨by rw [splice_length,f1,hA.len],fun i x hi=>?_⟩
     rw [splice_get _ _ _ _ (by omega)] at hi
     rw [Array.getD_eq_getD_getElem?,f2 i]
     have hlen:q.2.cells.toList.length = (cellsS p.2).length:=by simpa using c1
     have hal:=hA.len
     split at hi
     ·rename_i hin
      have:=c2 _ _ hi
      simp only [Nat.add_zero,Nat.sub_zero,hlen] at *
      rw [if_pos (by omega)]
      rw [Array.getD_eq_getD_getElem?] at this
      simpa using this
     ·rename_i hin
      have hi2:=hA.den _ _ hi
      simp only [Nat.add_zero,Nat.sub_zero,hlen] at *
      rw [if_neg (by omega)]
      rw [Array.getD_eq_getD_getElem?] at hi2
      exact hi2
    obtain ⟨res,hr,hAr⟩:=fill_den ps vs _ _ out (by simpa using hl) (fun i a b ha hb'=>hd (i+1) a b (by simpa using ha) (by simpa using hb')) hA' h
    refine ⟨res,?_,hAr⟩
    rw [show (q:Nat×Value) = (q.1,q.2) from rfl]
    simp only [Instr.fill]
    rw [← h1,hpl]
    simp only
    rw [if_neg (by simp only [Bool.or_eq_true,decide_eq_true_eq,not_or]; exact ⟨by simp [c1,b1],by rw [c1,b1,← hA.len]; omega⟩)]
    rw [← Array.foldl_toList,Array.toList_zipIdx]
    exact hr
  ·cases h
def buildS (P:Program) (t:TypeId) (parts:List (Nat×SV)) (nx:Nat):Res :=
 match zeroT P t with
 | some z=>match placeT P t with
  | some pl=>match fillS (fun i=>pl[i]?) z parts with
   | some cs=>.ok True ⟨.agg cs,[],nx,[]⟩
   | none=>.bad
  | none=>match arrT P t with
   | some (_,_,n)=>match fillS (fun i=>some (i * n,n)) z parts with
    | some cs=>.ok True ⟨.agg cs,[],nx,[]⟩
    | none=>.bad
   | none=>.bad
 | none=>.bad
theorem zeroT_some {P:Program} {t cs} (h:zeroT P t = some cs):∃ i z,P.info? t = some i∧i.zero = some z∧cs = z.cells.toList.map .v:=by
 unfold zeroT at h
 cases hi:P.info? t with
 | none=>rw [hi] at h; cases h
 | some i =>
  rw [hi] at h
  cases hz:i.zero with
  | none=>simp [hz] at h
  | some z=>simp [hz] at h; exact ⟨i,z,rfl,hz,h.symm⟩
theorem allDen_lit (P:Program) (C:Nm→Chunk) (I:Nat→Prop) (arr:Array Value):AllDen P C ids I w (arr.toList.map .v) arr :=
 ⟨by simp,fun i x h=>by have:=den_lit (ids:=ids) (w:=w) P C I (l:=arr.toList) i x h; simpa using this⟩
theorem sound_build (h:HeapX X hp nx ids w) {t:TypeId} {ps:List (Nat×SV)} {vs:Array (Nat×Value)} (hl:ps.length = vs.size)
  (hd:∀ (i:Nat) (p:Nat×SV) (q:Nat×Value),ps[i]? = some p→vs.toList[i]? = some q→p.1 = q.1∧DenX X hp ids w p.2 q.2) {side:Prop} {e:Eff} (he:buildS X.P t ps nx = .ok side e) :
  Sound X hp ids w ((Instr.build t vs).run X.P w) e:=by
 unfold buildS at he
 split at he
 ·rename_i z hz
  obtain ⟨i,zv,hi,hzv,rfl⟩:=zeroT_some hz
  split at he
  ·rename_i pl hpl
   split at he
   ·rename_i cs hf
    cases he
    obtain ⟨res,hr,hA⟩:=fill_den ps vs.toList _ _ _ (by simpa using hl) hd (allDen_lit _ _ _ zv.cells) hf
    unfold placeT at hpl
    split at hpl
    ·rename_i fs hu
     refine sound_pure h (run_build w t vs res ?_) (.agg res hA.len hA.den)
     unfold Program.built
     simp only [hi,hu,hzv,hpl]
     simpa using hr
    ·cases hpl
   ·cases he
  ·split at he
   ·rename_i n' e' n ha
    split at he
    ·rename_i cs hf
     cases he
     obtain ⟨j,hu,hj,rfl⟩:=arrT_some ha
     obtain ⟨res,hr,hA⟩:=fill_den ps vs.toList _ _ _ (by simpa using hl) hd (allDen_lit _ _ _ zv.cells) hf
     refine sound_pure h (run_build w t vs res ?_) (.agg res hA.len hA.den)
     unfold Program.built
     simp only [hi,hu,hzv,hj]
     exact hr
    ·cases he
   ·cases he
 ·cases he
def buildSliceS (P:Program) (t:TypeId) (len:Nat) (parts:List (Nat×SV)) (nx:Nat):Res :=
 match sliceT P t with
 | some (e,n)=>match zeroT P e with
  | some z=>bif (Nat.ble (len * n) 16777216 && !(len * n == 0)) && z.length == n then match fillS (fun i=>some (i * n,n)) ((List.range len).flatMap fun _=>z) parts with
   | some cs=>.ok True ⟨.own nx 0 len,[(Nm.t nx,.row e cs)],nx+1,[]⟩
   | none=>.bad
   else .bad
  | none=>.bad
 | none=>.bad
theorem length_flatMap_const {α:Type} (z:List α):∀ (len:Nat),((List.range len).flatMap fun _=>z).length = len * z.length
 | 0=>by simp
 | len+1=>by rw [List.range_succ,List.flatMap_append,List.length_append,length_flatMap_const z len,List.flatMap_singleton,Nat.succ_mul]
theorem getElem?_flatMap_const {α:Type} (z:List α):∀ (len i:Nat),i < len * z.length→((List.range len).flatMap fun _=>z)[i]? = z[i % z.length]?
 | 0,i,h=>by simp at h
 | len+1,i,h=>by
  rw [List.range_succ,List.flatMap_append,List.flatMap_singleton]
  have hl:=length_flatMap_const z len
  by_cases hi:i < len * z.length
  ·rw [List.getElem?_append_left (by omega)]; exact getElem?_flatMap_const z len i hi
  ·rw [List.getElem?_append_right (by omega),hl]
   rw [Nat.succ_mul] at h
   have:i % z.length = i - len * z.length:=by
    have h2:i = (i - len * z.length)+z.length * len:=by rw [Nat.mul_comm z.length]; omega
    rw [h2,Nat.add_mul_mod_self_left,Nat.mod_eq_of_lt (by omega),Nat.mul_comm z.length]; omega
   rw [this]
theorem sound_buildSlice (h:HeapX X hp nx ids w) {t:TypeId} {len:Nat} {ps:List (Nat×SV)} {vs:Array (Nat×Value)} (hl:ps.length = vs.size)
  (hd:∀ (i:Nat) (p:Nat×SV) (q:Nat×Value),ps[i]? = some p→vs.toList[i]? = some q→p.1 = q.1∧DenX X hp ids w p.2 q.2) {side:Prop} {e:Eff} (he:buildSliceS X.P t len ps nx = .ok side e) :
  Sound X hp ids w ((Instr.buildSlice t len vs).run X.P w) e:=by
 unfold buildSliceS at he
 split at he
 ·rename_i e' n hsl
  obtain ⟨i,hu,hi,rfl⟩:=sliceT_some hsl
  split at he
  ·rename_i z hz
   obtain ⟨i',zv,hi',hzv,rfl⟩:=zeroT_some hz
   rw [hi] at hi'; cases hi'
   cases hb:((Nat.ble (len * i.size) 16777216 && !(len * i.size == 0)) && ((zv.cells.toList.map SV.v).length == i.size)) with
   | false=>rw [hb] at he; cases he
   | true =>
    rw [hb] at he
    simp only [Bool.and_eq_true,Nat.ble_eq,Bool.not_eq_true',beq_eq_false_iff_ne,beq_iff_eq,List.length_map,Array.length_toList] at hb
    obtain ⟨⟨b1,b2⟩,b3⟩:=hb
    split at he
    ·rename_i cs hf
     cases he
     have hA0:AllDen X.P (getH hp) ids (Im X.w0 X.I0 X.W0 (getH hp) ids w) w ((List.range len).flatMap fun _=>zv.cells.toList.map SV.v) ((Array.range (len * i.size)).map (zv.cells[· % zv.cells.size]!)):=by
      refine ⟨by rw [length_flatMap_const]; simp [b3],fun j x hj=>?_⟩
      have hlt:j < len * i.size:=by
       have:=(List.getElem?_eq_some_iff.1 hj).1
       rw [length_flatMap_const] at this; simpa [b3] using this
      rw [getElem?_flatMap_const _ _ _ (by simpa [b3] using hlt)] at hj
      simp only [List.length_map,Array.length_toList,List.getElem?_map] at hj
      have hpos:0 < zv.cells.size:=by
       rcases Nat.eq_zero_or_pos zv.cells.size with h0 | h0
       ·rw [b3] at h0; rw [h0] at b2; simp at b2
       ·exact h0
      have hm:=Nat.mod_lt j hpos
      rw [Array.getElem?_toList,Array.getElem?_eq_getElem hm] at hj
      simp only [Option.map_some,Option.some.injEq] at hj
      subst hj
      rw [Array.getD_eq_getD_getElem?,Array.getElem?_map,Array.getElem?_range,if_pos hlt]
      simp only [Option.map_some,Option.getD_some,getElem!_pos zv.cells (j % zv.cells.size) hm]
      exact .v
     obtain ⟨res,hr,hA⟩:=fill_den ps vs.toList _ _ _ (by simpa using hl) hd hA0 hf
     have hrun:=run_buildSlice (P:=X.P) w t e' len vs res i zv hu hi hzv (by omega) b2 hr
     obtain ⟨g1,g2⟩:=heap_alloc h (e:=e') (cs:=cs) (arr:=res) (by rw [hA.len]; exact Nat.le_refl _) hA.den
     have hressz:res.size = len * i.size:=by
      have e1:∀ (ps:List (Nat×SV)) (c o:List SV),fillS (fun j=>some (j * i.size,i.size)) c ps = some o→o.length = c.length:=by
       intro ps
       induction ps with
       | nil=>intro c o hh; simp only [fillS,Option.some.injEq] at hh; rw [← hh]
       | cons p ps ih =>
        intro c o hh
        simp only [fillS] at hh
        cases hc:((cellsS p.2).length == i.size && (Nat.ble (p.1 * i.size+i.size) c.length && (cellsS p.2).all oneS)) with
        | false=>rw [hc] at hh; cases hh
        | true=>rw [hc] at hh; rw [ih _ _ hh,splice_length]
      rw [← hA.len,e1 _ _ _ hf,length_flatMap_const]
      simp [b3]
     have hlm:len≤maxLen:=by
      have:len≤len * i.size:=Nat.le_mul_of_pos_right _ (Nat.pos_of_ne_zero fun e=>by rw [e] at b2; simp at b2)
      unfold maxLen; omega
     refine ⟨_,_,_,hrun,g1,g2,.own (some ⟨w.heap.size,0,none⟩) len ?_ ?_⟩
     ·rw [List.singleton_append,getH_upd,upd_same]; rfl
     ·refine ⟨Nat.le_refl _,hlm,fun e2 cs2 hc2=>?_,.inr ⟨w.heap.size,0,e',cs,res,?_,upd_same _ _ _,rfl,heap_alloc_new' w _,?_⟩⟩
      ·rw [List.singleton_append,getH_upd,upd_same] at hc2
       cases hc2
       rw [hA.len,hressz,show X.P.cellsOf e' = i.size from by simp [Program.cellsOf,hi]]; omega
      ·rw [List.singleton_append,getH_upd,upd_same]
      ·rw [hressz,show X.P.cellsOf e' = i.size from by simp [Program.cellsOf,hi]]; omega
    ·cases he
  ·cases he
 ·cases he
def extractS (x:SV) (i:Nat) (nx:Nat):Res :=
 match x with
 | .tup xs=>match xs[i]? with
  | some y=>pureR y nx
  | none=>.bad
 | _=>.bad
theorem sound_extract (h:HeapX X hp nx ids w) {i:Nat} {s:SV} {x:Value} (hd:DenX X hp ids w s x) {side:Prop} {e:Eff} (he:extractS s i nx = .ok side e):Sound X hp ids w ((Instr.extract x i).run X.P w) e:=by
 unfold extractS at he
 split at he
 ·rename_i xs
  split at he
  ·rename_i y hy
   cases he
   obtain ⟨arr,rfl,hl,hx⟩:=den_tup hd
   have hlt:i < arr.size:=by rw [← hl]; exact (List.getElem?_eq_some_iff.1 hy).1
   refine sound_pure h (x:=arr[i]) ?_ (by have:=hx i y hy; rwa [Array.getD_eq_getD_getElem?,Array.getElem?_eq_getElem hlt] at this)
   simp [Instr.extract,Array.getElem?_eq_getElem hlt]
  ·cases he
 ·cases he
theorem sound_pick (h:HeapX X hp nx ids w) {g b:Bool} {s q:SV} {x y:Value} (hg:g = true) (hd:DenX X hp ids w s x) (hq:DenX X hp ids w q y) {side:Prop} {e:Eff} (he:pickS g b s q nx = .ok side e) :
  Sound X hp ids w (.ok (if b then x else y) w) e:=by
 unfold pickS at he
 have e1:b = true→DenX X hp ids w (unw (g && b) s) x:=fun hb=>den_unw (by simp [hg,hb]) hd
 have e2:b = false→DenX X hp ids w (unw (g && !b) q) y:=fun hb=>den_unw (by simp [hg,hb]) hq
 have gen:DenX X hp ids w (bif b then unw (g && b) s else unw (g && !b) q) (if b then x else y):=by
  cases b with
  | true=>exact e1 rfl
  | false=>exact e2 rfl
 split at he
 ·rename_i p r h1 h2
  cases he
  rw [h1,h2] at gen
  refine sound_pure h rfl ?_
  cases b with
  | true=>exact gen
  | false=>exact gen
 ·rename_i k p k' r h1 h2
  rw [h1,h2] at gen
  cases hk:(k == k') with
  | false=>rw [hk] at he; cases he; exact sound_pure h rfl gen
  | true =>
   rw [hk] at he; cases he
   have:k = k':=by simpa using hk
   subst this
   refine sound_pure h rfl ?_
   cases b with
   | true=>exact gen
   | false=>exact gen
 ·cases he; exact sound_pure h rfl gen
theorem sound_int (h:HeapX X hp nx ids w) {op:BinOp} {k:IntKind} {a b:Int} {side:Prop} {e:Eff} (he:intS op k a b nx = .ok side e) (hs:side) (t:TypeId):Sound X hp ids w ((binOp op t (.int k a) (.int k b)).run X.P w) e:=by
 have hdiv:b≠0→(Op.intDiv .quo k a b).run X.P w = .ok (.int k (k.wrap (a.tdiv b))) w∧(Op.intDiv .rem k a b).run X.P w = .ok (.int k (a.tmod b)) w:=fun hb=>by
  simp [Op.intDiv,hb]
 cases op <;> simp only [intS,pureR] at he <;> cases he <;> refine sound_pure h ?_ .v
 case quo=>simpa [binOp] using (hdiv hs).1
 case rem=>simpa [binOp] using (hdiv hs).2
 all_goals simp [binOp,Op.intArith,Op.intCmp,Op.intBits]
end Go.Sx
end

section
namespace Go.Sx
set_option linter.unusedVariables false
open Go.RowKit
variable {X:Cx} {hp:Hp} {nx:Nat} {ids:Ids} {w:World}
theorem setCells_eq_setRow (w:World) (b o:Nat) (e:TypeId) (vs:List Value) (arr:Array Value) (hw:w.heap[b]? = some (.cells arr e (0,0))) (hl:o+vs.length≤arr.size) (h1:∀ v ∈ vs,v.oneCell' = true) :
  w.setCells b o vs = w.setRow b (arr.toList.take o++vs++arr.toList.drop (o+vs.length)).toArray:=by
 have hc:∀ j,j < vs.length→w.cell? ⟨b,o+j,none⟩ = some (arr.getD (o+j) undef):=fun j hj=>by
  simp only [World.cell?,hw]
  simp [Array.getD_eq_getD_getElem?,Array.getElem?_eq_getElem (show o+j < arr.size by omega)]
 have h2:=run_storeCells_cells (P:=default) b o vs 0 w (fun j hj=>by rw [Nat.add_zero,hc j hj]; rfl) (fun j hj=>by simp [World.frozen?,hw]) h1
 have h3:=run_storeCells_at (P:=default) b o e vs 0 arr w hw (by omega) h1
 simp only [Nat.add_zero] at h2 h3
 rw [h2] at h3
 injection h3
theorem heap_renameG (h:HeapX X hp nx ids w) {k:Nm} {e:TypeId} {cs cs':List SV} {off:Nat} (hk:getH hp k = .row e cs) (hx0:ids k = none→cs' = [])
  (hx:∀ b o arr,ids k = some (b,o)→w.heap[b]? = some (.cells arr e (0,0))→o+off+cs'.length≤arr.size∧∀ i x,cs'[i]? = some x→DenX X hp ids w x (arr.getD (o+off+i) undef)) :
  HeapC X ([(Nm.t nx,.row e cs'),updE k .dead hp]++hp) (upd ids (Nm.t nx) ((ids k).map fun p=>(p.1,p.2+off))) w∧ExtX X hp ids w ([(Nm.t nx,.row e cs'),updE k .dead hp]++hp) (upd ids (Nm.t nx) ((ids k).map fun p=>(p.1,p.2+off))) w:=by
 have hlk:(getH hp k).live = true:=by rw [hk]; rfl
 have hub:getH hp (Nm.t nx) = .unborn:=h.fresh
 have hkn:k≠nx:=fun e'=>by subst e'; rw [hub] at hlk; cases hlk
 have hC:getH ([(Nm.t nx,.row e cs'),updE k .dead hp]++hp) = upd (upd (getH hp) k .dead) (Nm.t nx) (.row e cs'):=by
  show getH ((Nm.t nx,Chunk.row e cs')::updE k .dead hp::hp) = _
  rw [getH_upd,getH_put (live_born hlk) (by simp)]
 have hCo:∀ j:Nm,j≠Nm.t nx→j≠k→getH ([(Nm.t nx,.row e cs'),updE k .dead hp]++hp) j = getH hp j:=fun j h1 h2=>by rw [hC,upd_ne _ _ h1,upd_ne _ _ h2]
 have hCk:getH ([(Nm.t nx,.row e cs'),updE k .dead hp]++hp) k = .dead:=by rw [hC,upd_ne _ _ hkn,upd_same]
 have hCn:getH ([(Nm.t nx,.row e cs'),updE k .dead hp]++hp) nx = .row e cs':=by rw [hC,upd_same]
 have hidn:upd ids (Nm.t nx) ((ids k).map fun p=>(p.1,p.2+off)) nx = (ids k).map fun p=>(p.1,p.2+off):=upd_same _ _ _
 have hido:∀ j:Nm,j≠Nm.t nx→upd ids (Nm.t nx) ((ids k).map fun p=>(p.1,p.2+off)) j = ids j:=fun j h1=>upd_ne _ _ h1
 generalize hC':getH ([(Nm.t nx,.row e cs'),updE k .dead hp]++hp) = C' at hCo hCk hCn
 generalize hI':upd ids (Nm.t nx) ((ids k).map fun p=>(p.1,p.2+off)) = ids' at hidn hido
 have hnl:∀ j,(getH hp j).live = true→j≠nx:=fun j hj e'=>by subst e'; rw [hub] at hj; cases hj
 -- a live chunk of the new heap, with its block, is one of the old heap's with the same block
 have hold:∀ j b o,(C' j).live = true→ids' j = some (b,o)→∃ j' o',(getH hp j').live = true∧ids j' = some (b,o')∧(j = nx→j' = k)∧(j≠nx→j' = j):=by
  intro j b o hj hi
  by_cases h1:j = nx
  ·subst h1
   rw [hidn] at hi
   cases hik:ids k with
   | none=>rw [hik] at hi; cases hi
   | some p =>
    rw [hik] at hi
    simp only [Option.map_some,Option.some.injEq,Prod.mk.injEq] at hi
    exact ⟨k,p.2,hlk,by rw [hik,← hi.1],fun _=>rfl,fun h=>absurd rfl h⟩
  ·by_cases h2:j = k
   ·subst h2; rw [hCk] at hj; cases hj
   ·rw [hCo j h1 h2] at hj; rw [hido j h1] at hi
    exact ⟨j,o,hj,hi,fun h=>absurd h h1,fun _=>rfl⟩
 have hE:Ext (getH hp) ids (Im X.w0 X.I0 X.W0 (getH hp) ids w) w C' ids' (Im X.w0 X.I0 X.W0 C' ids' w) w:=by
  refine ⟨fun d hd=>⟨⟨hd.1,hd.2.1,fun j hj o hi=>?_⟩,rfl⟩,fun j hj=>?_,fun j hj=>?_⟩
  ·obtain ⟨j',o',h1,h2,_⟩:=hold j d o hj hi
   exact hd.2.2 j' h1 o' h2
  ·have h1:j≠nx:=fun e'=>by subst e'; rw [hub] at hj; cases hj
   by_cases h2:j = k
   ·subst h2; exact hCk
   ·rw [hCo j h1 h2]; exact hj
  ·by_cases h2:j = k
   ·subst h2; exact .inl hCk
   ·have h1:=hnl j hj
    refine .inr ⟨by rw [hCo j h1 h2]; exact hj,hido j h1,by rw [hCo j h1 h2]; exact SameKind.refl hj,fun _ _ _=>SameShape.refl _⟩
 refine ⟨⟨⟨fun j=>?_,fun j j' b o1 o2 hj hj' hi hi'=>?_,fun j b o hj hi=>?_,h.st.im0,h.st.evol,h.st.os,h.st.tape,h.st.output,h.st.size⟩,fun j hj h0 hjl=>?_,fun j hj hv=>by rw [hC] at hv; exact nov_upd (fun q hq hvq=>nov_upd h.nov (fun e=>by cases e) q hq hvq) (fun e=>by cases e) j hj hv⟩,?_⟩
 ·rw [hC']
  by_cases h1:j = nx
  ·subst h1
   rw [hCn]
   simp only [DenC,hidn]
   have hc:=h.st.ch k
   rw [hk] at hc
   simp only [DenC] at hc
   cases hik:ids k with
   | none =>
    exact hx0 hik
   | some p =>
    obtain ⟨b,o⟩:=p
    rw [hik] at hc
    obtain ⟨arr,ha,hs,hxx⟩:=hc
    simp only [Option.map_some]
    obtain ⟨q1,q2⟩:=hx b o arr hik ha
    exact ⟨arr,ha,q1,fun i x hi=>(q2 i x hi).mono hE⟩
  ·by_cases h2:j = k
   ·subst h2; rw [hCk]; trivial
   ·rw [hCo j h1 h2]
    exact (h.st.ch j).mono hE (hido j h1) (fun _ _ _=>rfl)
 ·rw [hC'] at hj hj'
  obtain ⟨q,p,h1,h2,h3,h4⟩:=hold j b o1 hj hi
  obtain ⟨q',p',h1',h2',h3',h4'⟩:=hold j' b o2 hj' hi'
  have hqq:=h.st.inj q q' b p p' h1 h1' h2 h2'
  by_cases e1:j = nx <;> by_cases e2:j' = nx
  ·rw [e1,e2]
  ·have:=h4' e2; have:=h3 e1; subst_vars
   rw [hCk] at hj'; cases hj'
  ·have:=h4 e1; have:=h3' e2; subst_vars
   rw [hCk] at hj; cases hj
  ·have:=h4 e1; have:=h4' e2; subst_vars; rfl
 ·rw [hC'] at hj
  obtain ⟨q,p,h1,h2,_⟩:=hold j b o hj hi
  exact h.st.lt q b p h1 h2
 ·rw [hC'] at hjl ⊢
  have h1:j≠nx:=fun e=>by have:=h.m_le; subst e; simp at hj; omega
  have h2:j≠k:=fun e'=>by subst e'; rw [hCk] at hjl; cases hjl
  have hlo:(getH hp j).live = true:=by rwa [hCo j h1 h2] at hjl
  exact (h.kept j hj h0 hlo).step hE hlo hjl
 ·simp only [ExtX,hC']; exact hE
theorem heap_rename (h:HeapX X hp nx ids w) {k:Nm} {e:TypeId} {cs cs':List SV} {off:Nat} (hk:getH hp k = .row e cs) (hl:off+cs'.length≤cs.length) (hx:∀ i x,cs'[i]? = some x→cs[off+i]? = some x) :
  HeapC X ([(Nm.t nx,.row e cs'),updE k .dead hp]++hp) (upd ids (Nm.t nx) ((ids k).map fun p=>(p.1,p.2+off))) w∧ExtX X hp ids w ([(Nm.t nx,.row e cs'),updE k .dead hp]++hp) (upd ids (Nm.t nx) ((ids k).map fun p=>(p.1,p.2+off))) w:=by
 have hc:=h.st.ch k
 rw [hk] at hc
 simp only [DenC] at hc
 refine heap_renameG h hk (fun hik=>?_) fun b o arr hik ha=>?_
 ·rw [hik] at hc
  simp only at hc
  subst hc
  simp at hl; exact hl.2
 ·rw [hik] at hc
  obtain ⟨arr',ha',hs,hxx⟩:=hc
  rw [ha] at ha'; cases ha'
  exact ⟨by omega,fun i x hi=>by
   have:=hxx _ _ (hx i x hi)
   rwa [← Nat.add_assoc] at this⟩
theorem heap_kill (h:HeapC X hp ids w) {k:Nm} (hk:getH hp k≠.unborn):HeapC X ([updE k .dead hp]++hp) ids w∧ExtX X hp ids w ([updE k .dead hp]++hp) ids w:=by
 have hC:getH ([updE k .dead hp]++hp) = upd (getH hp) k .dead:=getH_put hk (by simp)
 have hE:=h.st.kill_ext k
 refine ⟨⟨by rw [hC]; exact h.st.kill k,fun j hj h0 hjl=>?_,fun j hj hv=>by rw [hC] at hv; exact nov_upd h.nov (fun e=>by cases e) j hj hv⟩,by simp only [ExtX,hC]; exact hE⟩
 ·rw [hC] at hjl ⊢
  have hlo:(getH hp j).live = true:=by
   by_cases hjk:j = k
   ·subst hjk; rw [upd_same] at hjl; cases hjl
   ·rwa [upd_ne _ _ hjk] at hjl
  exact (h.kept j hj h0 hlo).step hE hlo hjl
theorem HeapC.drew (h:HeapC X hp ids w):HeapC X hp ids w.drew∧ExtX X hp ids w hp ids w.drew :=
 ⟨⟨h.st.drew,fun k hk h0 hl=>(h.kept k hk h0 hl).step h.st.drew_ext hl hl,h.nov⟩,h.st.drew_ext⟩
theorem heap_absent (h:HeapX X hp nx ids w) (e:TypeId) (hid:ids nx = none):HeapC X ([(Nm.t nx,.row e [])]++hp) ids w∧ExtX X hp ids w ([(Nm.t nx,.row e [])]++hp) ids w:=by
 have hub:getH hp (Nm.t nx) = .unborn:=h.fresh
 have hC:getH ([(Nm.t nx,.row e [])]++hp) = upd (getH hp) (Nm.t nx) (.row e []):=getH_upd nx _ hp
 have hnl:∀ j,(getH hp j).live = true→j≠nx:=fun j hj e'=>by subst e'; rw [hub] at hj; cases hj
 have hlv:∀ j b o,(upd (getH hp) (Nm.t nx) (Chunk.row e []) j).live = true→ids j = some (b,o)→(getH hp j).live = true:=fun j b o hj hi=>by
  by_cases hjn:j = nx
  ·subst hjn; rw [hid] at hi; cases hi
  ·rwa [upd_ne _ _ hjn] at hj
 have hE:ExtX X hp ids w ([(Nm.t nx,.row e [])]++hp) ids w:=by
  simp only [ExtX,hC]
  refine ⟨fun d hd=>⟨⟨hd.1,hd.2.1,fun j hj o hi=>hd.2.2 j (hlv j d o hj hi) o hi⟩,rfl⟩,fun j hj=>?_,fun j hj=>?_⟩
  ·rw [upd_ne _ _ (fun e'=>by subst e'; rw [hub] at hj; cases hj)]; exact hj
  ·rw [upd_ne _ _ (hnl j hj)]; exact .inr ⟨hj,rfl,SameKind.refl hj,fun _ _ _=>SameShape.refl _⟩
 refine ⟨⟨⟨fun j=>?_,fun j j' b o1 o2 hj hj' hi hi'=>?_,fun j b o hj hi=>?_,h.st.im0,h.st.evol,h.st.os,h.st.tape,h.st.output,h.st.size⟩,fun j hj h0 hjl=>?_,fun j hj hv=>by rw [hC] at hv; exact nov_upd h.nov (fun e=>by cases e) j hj hv⟩,hE⟩
 ·by_cases hjn:j = nx
  ·subst hjn
   rw [hC,upd_same]
   simp only [DenC,hid]
  ·have:=(h.st.ch j).mono hE rfl (fun _ _ _=>rfl)
   rw [show getH ([(Nm.t nx,Chunk.row e [])]++hp) j = getH hp j from by rw [hC,upd_ne _ _ hjn]]
   exact this
 ·rw [hC] at hj hj'
  exact h.st.inj j j' b o1 o2 (hlv j b o1 hj hi) (hlv j' b o2 hj' hi') hi hi'
 ·rw [hC] at hj
  exact h.st.lt j b o (hlv j b o hj hi) hi
 ·have hjn:j≠Nm.t nx:=fun e=>by have:=h.m_le; subst e; simp at hj; omega
  have hlo:(getH hp j).live = true:=by rw [hC] at hjl; rwa [upd_ne _ _ hjn] at hjl
  exact (h.kept j hj h0 hlo).step hE hlo hjl
theorem heap_reid (h:HeapX X hp nx ids w) (p:Option (Nat×Nat)):HeapX X hp nx (upd ids (Nm.t nx) p) w∧ExtX X hp ids w hp (upd ids (Nm.t nx) p) w:=by
 have hub:getH hp (Nm.t nx) = .unborn:=h.fresh
 have hnl:∀ j,(getH hp j).live = true→j≠nx:=fun j hj e'=>by subst e'; rw [hub] at hj; cases hj
 have hid:∀ j,(getH hp j).live = true→upd ids (Nm.t nx) p j = ids j:=fun j hj=>upd_ne _ _ (hnl j hj)
 have hE:ExtX X hp ids w hp (upd ids (Nm.t nx) p) w :=
  ⟨fun d hd=>⟨⟨hd.1,hd.2.1,fun j hj o hi=>hd.2.2 j hj o (by rwa [hid j hj] at hi)⟩,rfl⟩,fun j hj=>hj,fun j hj=>.inr ⟨hj,hid j hj,SameKind.refl hj,fun _ _ _=>SameShape.refl _⟩⟩
 refine ⟨⟨⟨⟨fun j=>?_,fun j j' b o1 o2 hj hj' hi hi'=>?_,fun j b o hj hi=>?_,h.st.im0,h.st.evol,h.st.os,h.st.tape,h.st.output,h.st.size⟩,fun j hj h0 hjl=>?_,h.nov⟩,h.fresh,h.m_le⟩,hE⟩
 ·by_cases hl:(getH hp j).live = true
  ·exact (h.st.ch j).mono hE (hid j hl) (fun _ _ _=>rfl)
  ·cases hc:getH hp j <;> simp_all [Chunk.live,DenC]
 ·rw [hid j hj] at hi; rw [hid j' hj'] at hi'; exact h.st.inj j j' b o1 o2 hj hj' hi hi'
 ·rw [hid j hj] at hi; exact h.st.lt j b o hj hi
 ·exact (h.kept j hj h0 hjl).step hE hjl hjl
end Go.Sx
end

section
namespace Go.Sx
set_option linter.unusedVariables false
open Go.RowKit
variable {X:Cx} {hp:Hp} {nx:Nat} {ids:Ids} {w:World}
def appCells (cs:List SV) (off n:Nat):List SV:=(cs.drop off).take n
def byteS (s:ByteArray):List SV:=s.data.toList.map fun b=>.v (.int .u8 b.toNat)
def srcS (P:Program) (tx:TypeId) (z:Nat) (y:SV) (hp:Hp) (f:Nat→List SV→List Nm→Prop→Res):Res :=
 match y with
 | .own k off m=>match sliceT P tx with
  | some _=>rowS (getH hp k) fun _ cs=>f m (appCells cs off (m * z)) [k.key] (off+m * z≤cs.length)
  | none=>.bad
 | .sl m cs=>match sliceT P tx with
  | some _=>f m cs [] (cs.length = m * z)
  | none=>.bad
 | .v (.slice none 0 0)=>match sliceT P tx with
  | some _=>f 0 [] [] True
  | none=>.bad
 | .v (.string s)=>match P.underlying tx with
  | some .string=>f s.size (byteS s) [] (z = 1)
  | _=>.bad
 | _=>.bad
structure SrcOk (P:Program) (C:Nm→Chunk) (ids:Ids) (I:Nat→Prop) (w:World) (z:Nat) (tx:TypeId) (y:Value) (m:Nat) (news:List SV) (vs:List Value):Prop where
 src:Src P z tx y m vs w
 len:news.length = vs.length
 den:∀ i x,news[i]? = some x→Den P C ids I w x (vs.getD i undef)
theorem cells_list {P:Program} {C:Nm→Chunk} {I:Nat→Prop} {b o:Nat} {cs:List SV} (hc:Cells P C ids I w b o cs) :
 ∃l:List Value,l.length = cs.length∧∀ i x,cs[i]? = some x→w.cell? ⟨b,o+i,none⟩ = some (l.getD i undef)∧Den P C ids I w x (l.getD i undef):=by
 obtain ⟨l,hl,hx⟩:=list_choose (Q:=fun j x c=>w.cell? ⟨b,o+j,none⟩ = some c∧Den P C ids I w x c) cs 0 (fun i x hi=>by rw [Nat.zero_add]; exact hc.at_ i x hi)
 exact ⟨l,hl,fun i x hi=>by have:=hx i x hi; rwa [Nat.zero_add] at this⟩
theorem appCells_get {cs:List SV} {off n i:Nat} {x:SV} (h:(appCells cs off n)[i]? = some x):i < n∧cs[off+i]? = some x:=by
 unfold appCells at h
 rw [List.getElem?_take] at h
 split at h
 ·rename_i hi
  rw [List.getElem?_drop] at h
  exact ⟨hi,h⟩
 ·cases h
theorem appCells_length {cs:List SV} {off n:Nat} (h:off+n≤cs.length):(appCells cs off n).length = n:=by
 unfold appCells; rw [List.length_take,List.length_drop]; omega
theorem appendCells_aux {cs:List SV} {off n:Nat} (h:off+n≤cs.length):(appCells cs off n).length = n:=appCells_length h
theorem getD_list {l:List Value} {j:Nat} {v:Value} (h:l[j]? = some v):l.getD j undef = v:=by simp [List.getD_eq_getElem?_getD,h]
theorem srcOk_cells {P:Program} {C:Nm→Chunk} {I:Nat→Prop} {b o z m cap:Nat} {tx e':TypeId} {cs:List SV} (hu:P.underlying tx = some (.slice e')) (hc:Cells P C ids I w b o cs) (hl:cs.length = m * z) (h1:cs.all oneS = true) :
 ∃vs,SrcOk P C ids I w z tx (.slice (some ⟨b,o,none⟩) m cap) m cs vs:=by
 obtain ⟨l,hll,hx⟩:=cells_list hc
 have hone:∀ u ∈ l,u.oneCell' = true:=fun u hu=>by
  obtain ⟨i,hi,rfl⟩:=List.getElem_of_mem hu
  have hi':i < cs.length:=by omega
  have:=(hx i _ (List.getElem?_eq_getElem hi')).2
  have h2:=one_den this (List.all_eq_true.1 h1 _ (List.getElem_mem hi'))
  simpa [List.getD_eq_getElem?_getD,List.getElem?_eq_getElem hi] using h2
 refine ⟨l,Src.ofSlice w hu ⟨b,o,none⟩ m cap l (by omega) (fun j u hj=>?_) hone,hll.symm,fun i x hi=>(hx i x hi).2⟩
 have hj':j < cs.length:=by rw [← hll]; exact (List.getElem?_eq_some_iff.1 hj).1
 rw [add_mk,(hx j _ (List.getElem?_eq_getElem hj')).1,getD_list hj]
theorem src_ok (h:HeapX X hp nx ids w) {tx:TypeId} {z:Nat} {s:SV} {y:Value} (hd:DenX X hp ids w s y) {f:Nat→List SV→List Nm→Prop→Res} {side:Prop} {e:Eff} (he:srcS X.P tx z s hp f = .ok side e)
  (hside:∀ m news rds s0,f m news rds s0 = .ok side e→side→s0∧news.length = m * z∧news.all oneS = true) (hs:side) :
 ∃m news rds s0 vs,f m news rds s0 = .ok side e∧SrcOk X.P (getH hp) ids (Im X.w0 X.I0 X.W0 (getH hp) ids w) w z tx y m news vs:=by
 unfold srcS at he
 split at he
 ·rename_i k off m
  split at he
  ·rename_i p hz
   obtain ⟨e',n'⟩:=p
   obtain ⟨i,hu,hi,_⟩:=sliceT_some hz
   obtain ⟨t',cs,hk,hf⟩:=rowS_ok he
   obtain ⟨s0,s1,s2⟩:=hside _ _ _ _ hf hs
   obtain ⟨a,cap,rfl,h1,h2,_,h3⟩:=den_own hd (by rw [hk]; rfl)
   rcases h3 with ⟨rfl,rfl⟩ | ⟨b,o,e2,cs2,arr,hC,hid,rfl,hw,hsz⟩
   ·refine ⟨_,_,_,_,[],hf,?_,by simpa using s1,fun i x hi=>?_⟩
    ·cases a with
     | none=>exact Src.ofNil w hu 0
     | some a=>exact Src.ofSlice w hu a 0 0 [] (by simp) (fun j u hj=>by simp at hj) (fun u hu=>by cases hu)
    ·have:=(List.getElem?_eq_some_iff.1 hi).1; rw [s1] at this; omega
   ·rw [hk] at hC; cases hC
    have hc:=row_at h hk hid
    have hc':Cells X.P (getH hp) ids (Im X.w0 X.I0 X.W0 (getH hp) ids w) w b (o+off) (appCells cs off (m * z)) :=
     ⟨fun i x hi=>by
      obtain ⟨_,hi2⟩:=appCells_get hi
      obtain ⟨c,g1,g2⟩:=hc.at_ _ _ hi2
      exact ⟨c,by rw [Nat.add_assoc]; exact g1,g2⟩⟩
    obtain ⟨vs,hvs⟩:=srcOk_cells (cap:=cap) hu hc' s1 s2
    exact ⟨_,_,_,_,vs,hf,hvs⟩
  ·cases he
 ·rename_i m cs
  split at he
  ·rename_i p hz
   obtain ⟨e',n'⟩:=p
   obtain ⟨i,hu,hi,_⟩:=sliceT_some hz
   obtain ⟨s0,s1,s2⟩:=hside _ _ _ _ he hs
   obtain ⟨a,cap,rfl,h1,h2,h3⟩:=den_sl hd
   rcases h3 with ⟨rfl,rfl⟩ | ⟨b,o,c,rfl,hI,hc,hx⟩
   ·refine ⟨_,_,_,_,[],he,?_,rfl,fun i x hi=>by simp at hi⟩
    cases a with
    | none=>exact Src.ofNil w hu cap
    | some a=>exact Src.ofSlice w hu a 0 cap [] (by simp) (fun j u hj=>by simp at hj) (fun u hu=>by cases hu)
   ·obtain ⟨vs,hvs⟩:=srcOk_cells (cap:=cap) hu (b:=b) (o:=o) (cs:=cs) ⟨fun i x hi=>⟨c i,hc i x hi,hx i x hi⟩⟩ s1 s2
    exact ⟨_,_,_,_,vs,he,hvs⟩
  ·cases he
 ·split at he
  ·rename_i p hz
   obtain ⟨e',n'⟩:=p
   obtain ⟨i,hu,hi,_⟩:=sliceT_some hz
   obtain rfl:=den_v hd
   exact ⟨_,_,_,_,[],he,Src.ofNil w hu 0,rfl,fun i x hi=>by simp at hi⟩
  ·cases he
 ·rename_i s
  split at he
  ·rename_i hu
   obtain ⟨s0,s1,s2⟩:=hside _ _ _ _ he hs
   obtain rfl:=den_v hd
   have hlen:(byteS s).length = s.size:=by unfold byteS; rw [List.length_map,Array.length_toList]; rfl
   have hz:z = 1∨s.size = 0:=by
    rw [hlen] at s1
    rcases Nat.eq_zero_or_pos s.size with h0 | h0
    ·exact .inr h0
    ·left
     have:s.size * 1 = s.size * z:=by omega
     exact (Nat.eq_of_mul_eq_mul_left h0 this).symm
   refine ⟨_,_,_,_,byteCells s,he,?_,by rw [hlen,byteCells_length],fun i x hi=>?_⟩
   ·have:=Src.ofString w hu s
    rcases hz with rfl | h0
    ·exact this
    ·have hb:byteCells s = []:=List.eq_nil_of_length_eq_zero (by rw [byteCells_length,h0])
     have g:∀ w':World,(Builtin.firstCells z s.size (.string s)).run X.P w' = .ok (byteCells s).toArray w':=fun w'=>firstCells_string s w'
     exact ⟨.inr hu,this.len,g w,g _,by rw [hb,h0]; simp,this.one⟩
   ·unfold byteS at hi
    rw [List.getElem?_map] at hi
    cases hq:s.data.toList[i]? with
    | none=>rw [hq] at hi; cases hi
    | some b =>
     rw [hq] at hi; cases hi
     have:(byteCells s)[i]? = some (.int .u8 b.toNat):=by unfold byteCells; rw [List.getElem?_map,hq]; rfl
     rw [getD_list this]; exact .v
  ·cases he
 ·cases he
def appendS (P:Program) (t tx:TypeId) (x y:SV) (hp:Hp) (nx:Nat):Res :=
 match sliceT P t with
 | some (e,z)=>srcS P tx z y hp fun m news rds s0 =>
  match x with
  | .own k off n=>rowS (getH hp k) fun e' cs =>
   .ok (s0∧e' = e∧news.length = m * z∧news.all oneS = true∧off+n * z≤cs.length∧0 < P.bytesOf e∧(n+m) * P.bytesOf e≤140737488355328) ⟨.own nx 0 (n+m),[(Nm.t nx,.row e (appCells cs off (n * z)++news)),updE k .dead hp],nx+1,k.key::rds⟩
  | .v (.slice none 0 0) =>
   .ok (s0∧news.length = m * z∧news.all oneS = true∧0 < P.bytesOf e∧m * P.bytesOf e≤140737488355328) ⟨.own nx 0 m,[(Nm.t nx,.row e news)],nx+1,rds⟩
  | _=>.bad
 | none=>.bad
theorem Ext_trans' {hp1 hp2 hp3:Hp} {i1 i2 i3:Ids} {u1 u2 u3:World} (h:ExtX X hp1 i1 u1 hp2 i2 u2) (g:ExtX X hp2 i2 u2 hp3 i3 u3):ExtX X hp1 i1 u1 hp3 i3 u3:=Ext.trans h g
theorem append_grow {hp':Hp} (h:HeapX X hp nx ids w) (h':HeapX X hp' nx ids w) (hE:ExtX X hp ids w hp' ids w) {t tx ty e:TypeId} {i:TypeInfo} {z:Value} (ht:X.P.underlying t = some (.slice e)) (hi:X.P.info? e = some i) (hz:i.zero = some z)
  {base:Option Addr} {n cap:Nat} {olds:List SV} {ovs:List Value} (hold:(Builtin.firstCells i.size n (.slice base n cap)).run X.P w.drew = .ok ovs.toArray w.drew) (hol:olds.length = ovs.length)
  (hod:∀ j x,olds[j]? = some x→DenX X hp ids w x (ovs.getD j undef)) {y:Value} {m:Nat} {news:List SV} {vs:List Value} (hsrc:SrcOk X.P (getH hp) ids (Im X.w0 X.I0 X.W0 (getH hp) ids w) w i.size tx y m news vs)
  (holn:ovs.length = n * i.size) (hg:cap < n+m) (hb0:0 < i.bytes) (hb:(n+m) * i.bytes≤140737488355328) (hzc:z.cells.size = i.size) :
 ∃x w' ids',(Builtin.append_ #[t,tx] ty #[.slice base n cap,y]).run X.P w = .ok x w'∧HeapC X ([(Nm.t nx,.row e (olds++news))]++hp') ids' w'∧ExtX X hp ids w ([(Nm.t nx,.row e (olds++news))]++hp') ids' w' ∧
   DenX X ([(Nm.t nx,.row e (olds++news))]++hp') ids' w' (.own nx 0 (n+m)) x:=by
 have hnm:n+m≤(n+m) * i.bytes:=Nat.le_mul_of_pos_right _ hb0
 have hrun:=run_append_grow_src (P:=X.P) w t tx ty e i z ht hi hz base n cap ovs hold y m vs hsrc.src hg (by omega) (growslice_fits hg hb)
 obtain ⟨d1c,d2⟩:=h'.toHeapC.drew
 have d1:HeapX X hp' nx ids w.drew:=⟨d1c,h'.fresh,h'.m_le⟩
 have hE2:=Ext_trans' hE d2
 have hvl:vs.length = m * i.size:=hsrc.src.newsLen
 have hcap:n+m≤grownCap w (n+m) cap e:=grownCap_ge w (n+m) cap e
 have hcm:grownCap w (n+m) cap e≤maxLen:=grownCap_le_maxLen w (n+m) cap e (by unfold maxLen; omega)
 have hsz:((ovs++vs).toArray++Builtin.zeroCells z.cells (grownCap w (n+m) cap e - (n+m))).size = grownCap w (n+m) cap e * i.size:=by
  rw [Array.size_append,List.size_toArray,List.length_append,size_zeroCells,hzc,holn,hvl,← Nat.add_mul,← Nat.add_mul]
  congr 1; omega
 obtain ⟨a1,a2⟩:=heap_alloc d1 (e:=e) (cs:=olds++news) (arr:=(ovs++vs).toArray++Builtin.zeroCells z.cells (grownCap w (n+m) cap e - (n+m))) (by
   rw [hsz,List.length_append,hol,holn,hsrc.len,hvl,← Nat.add_mul]; exact Nat.mul_le_mul_right _ hcap) (fun j x hj=>by
   have hjl:=(List.getElem?_eq_some_iff.1 hj).1
   rw [List.length_append,hol,hsrc.len] at hjl
   have key:DenX X hp ids w x ((ovs++vs).getD j undef):=by
    rw [List.getElem?_append] at hj
    split at hj
    ·rename_i hlt
     have:=hod j x hj
     rwa [List.getD_eq_getElem?_getD,List.getElem?_append_left (by omega),← List.getD_eq_getElem?_getD]
    ·rename_i hlt
     have:=hsrc.den _ x hj
     rw [List.getD_eq_getElem?_getD,List.getElem?_append_right (by omega),← List.getD_eq_getElem?_getD,← hol]
     exact this
   have:=key.mono hE2
   rw [Array.getD_eq_getD_getElem?,Array.getElem?_append_left (by rw [List.size_toArray,List.length_append]; exact hjl)]
   rw [List.getD_eq_getElem?_getD] at this
   simpa using this)
 refine ⟨_,_,_,hrun,a1,Ext_trans' hE2 a2,.own _ _ ?_ ?_⟩
 ·rw [List.singleton_append,getH_upd,upd_same]; rfl
 ·refine ⟨hcap,hcm,fun e' cs' hc'=>?_,.inr ⟨w.heap.size,0,e,olds++news,_,?_,upd_same _ _ _,rfl,heap_alloc_new' w.drew _,?_⟩⟩
  ·rw [List.singleton_append,getH_upd,upd_same] at hc'
   cases hc'
   rw [show X.P.cellsOf e = i.size from by simp [Program.cellsOf,hi],List.length_append,hol,hsrc.len,hvl,holn,← Nat.add_mul,Nat.zero_add]
   exact Nat.mul_le_mul_right _ hcap
  ·rw [List.singleton_append,getH_upd,upd_same]
  ·rw [hsz,show X.P.cellsOf e = i.size from by simp [Program.cellsOf,hi]]; omega
theorem run_firstCells_list {P:Program} {C:Nm→Chunk} {I:Nat→Prop} {b o z n cap:Nat} {cs:List SV} (hc:Cells P C ids I w b o cs) (hl:cs.length = n * z) :
 ∃l:List Value,l.length = n * z∧(Builtin.firstCells z n (.slice (some ⟨b,o,none⟩) n cap)).run P w.drew = .ok l.toArray w.drew∧∀ i x,cs[i]? = some x→Den P C ids I w x (l.getD i undef):=by
 obtain ⟨l,hll,hx⟩:=cells_list hc
 refine ⟨l,by omega,run_firstCells_some w.drew z n ⟨b,o,none⟩ n cap l (by omega) (fun j u hj=>?_),fun i x hi=>(hx i x hi).2⟩
 have hj':j < cs.length:=by rw [← hll]; exact (List.getElem?_eq_some_iff.1 hj).1
 rw [add_mk,World.cell?_drew,(hx j _ (List.getElem?_eq_getElem hj')).1,getD_list hj]
def zokT (P:Program) (e:TypeId):Bool:=match P.info? e with
 | some i=>match i.zero with
  | some z=>z.cells.size == i.size
  | none=>false
 | none=>false
theorem zokT_true {P:Program} {e:TypeId} {i:TypeInfo} (h:zokT P e = true) (hi:P.info? e = some i):∃ z,i.zero = some z∧z.cells.size = i.size:=by
 simp only [zokT,hi] at h
 cases hz:i.zero with
 | none=>simp [hz] at h
 | some z=>exact ⟨z,rfl,by simpa [hz] using h⟩
theorem sound_append (h:HeapX X hp nx ids w) {t tx ty:TypeId} {s q:SV} {x y:Value} (hd:DenX X hp ids w s x) (hq:DenX X hp ids w q y) {side:Prop} {e:Eff} (he:appendS X.P t tx s q hp nx = .ok side e) (hs:side)
  (hz:∀ et z,sliceT X.P t = some (et,z)→zokT X.P et = true) :
  Sound X hp ids w ((Builtin.append_ #[t,tx] ty #[x,y]).run X.P w) e:=by
 unfold appendS at he
 split at he
 ·rename_i et z hst
  obtain ⟨i,ht,hi,rfl⟩:=sliceT_some hst
  obtain ⟨zv,hzv,hzc⟩:=zokT_true (hz _ _ hst) hi
  have hby:X.P.bytesOf et = i.bytes:=by simp [Program.bytesOf,hi]
  have hce:X.P.cellsOf et = i.size:=by simp [Program.cellsOf,hi]
  obtain ⟨m,news,rds,s0,vs,hf,hsrc⟩:=src_ok h hq he (fun m news rds s0 hf hs=>by
   split at hf
   ·obtain ⟨t',cs,hk,hf⟩:=rowS_ok hf
    cases hf; exact ⟨hs.1,hs.2.2.1,hs.2.2.2.1⟩
   ·cases hf; exact ⟨hs.1,hs.2.1,hs.2.2.1⟩
   ·cases hf) hs
  have hvl:vs.length = m * i.size:=hsrc.src.newsLen
  split at hf
  ·rename_i k off n
   obtain ⟨t',cs,hk,hf⟩:=rowS_ok hf
   cases hf
   obtain ⟨_,rfl,hnl,hna,hoff,hb0,hb⟩:=hs
   rw [hby] at hb0 hb
   have hlk:(getH hp k).live = true:=by rw [hk]; rfl
   have hkn:k≠nx:=fun e'=>by subst e'; rw [h.fresh] at hlk; cases hlk
   obtain ⟨a,cap,rfl,h1,h2,h4,h3⟩:=den_own hd hlk
   have hal:=appendCells_aux hoff
   by_cases hg:cap < n+m
   ·-- it grows
    obtain ⟨k1c,k2⟩:=heap_kill h.toHeapC (live_born hlk)
    have k1:HeapX X ([updE k .dead hp]++hp) nx ids w:=⟨k1c,by rw [List.singleton_append,getH_put (live_born hlk) (by simp),upd_ne _ _ hkn.symm]; exact h.fresh,h.m_le⟩
    have hold:∃ ovs:List Value,ovs.length = n * i.size∧(Builtin.firstCells i.size n (.slice a n cap)).run X.P w.drew = .ok ovs.toArray w.drew∧∀ j x,(appCells cs off (n * i.size))[j]? = some x→DenX X hp ids w x (ovs.getD j undef):=by
     rcases h3 with ⟨rfl,rfl⟩ | ⟨b,o,e2,cs2,arr,hC,hid,rfl,hw,hsz⟩
     ·refine ⟨[],by simp,?_,fun j x hj=>by rw [Nat.zero_mul] at hj; obtain ⟨h0,_⟩:=appCells_get hj; omega⟩
      cases a with
      | none=>rfl
      | some a=>simp [Builtin.firstCells,loadCells,loadCellsFrom]
     ·rw [hk] at hC; cases hC
      have hc:=row_at h hk hid
      have hc':Cells X.P (getH hp) ids (Im X.w0 X.I0 X.W0 (getH hp) ids w) w b (o+off) (appCells cs off (n * i.size)) :=
       ⟨fun j x hj=>by
        obtain ⟨_,hj2⟩:=appCells_get hj
        obtain ⟨c,g1,g2⟩:=hc.at_ _ _ hj2
        exact ⟨c,by rw [Nat.add_assoc]; exact g1,g2⟩⟩
      obtain ⟨l,l1,l2,l3⟩:=run_firstCells_list (cap:=cap) (z:=i.size) (n:=n) hc' hal
      exact ⟨l,l1,l2,l3⟩
    obtain ⟨ovs,o1,o2,o3⟩:=hold
    obtain ⟨xv,w',ids',r1,r2,r3,r4⟩:=append_grow (ty:=ty) h k1 k2 ht hi hzv o2 (by rw [hal,o1]) o3 hsrc o1 hg hb0 hb hzc
    exact ⟨xv,w',ids',r1,r2,r3,r4⟩
   ·-- there is room
    rcases h3 with ⟨rfl,rfl⟩ | ⟨b,o,e2,cs2,arr,hC,hid,rfl,hw,hsz⟩
    ·have hm0:m = 0:=by omega
     subst hm0
     have hv0:vs = []:=List.eq_nil_of_length_eq_zero (by rw [hvl]; omega)
     have hn0:news = []:=List.eq_nil_of_length_eq_zero (by rw [hsrc.len,hv0]; rfl)
     subst hn0; subst hv0
     have hrun:=run_append_nothing (P:=X.P) w t tx ty t' i ht hi a 0 0 (Nat.le_refl _) y hsrc.src
     have hap:appCells cs off (0 * i.size)++[] = ([]:List SV):=by simp [appCells]
     rw [hap]
     obtain ⟨g1,g2⟩:=heap_rename h hk (cs':=[]) (off:=off) (by simp at hoff ⊢; exact hoff) (fun j x hj=>by simp at hj)
     refine ⟨_,_,_,hrun,g1,g2,.own a 0 ?_ ⟨Nat.le_refl _,by unfold maxLen; omega,fun e' cs' hc'=>?_,.inl ⟨rfl,rfl⟩⟩⟩
     ·show (getH ((Nm.t nx,Chunk.row t' [])::updE k .dead hp::hp) nx).live = true
      rw [getH_upd,upd_same]; rfl
     ·rw [show ([(Nm.t nx,Chunk.row t' []),updE k .dead hp]++hp:Hp) = (Nm.t nx,Chunk.row t' [])::updE k .dead hp::hp from rfl,getH_upd,upd_same] at hc'
      cases hc'; exact Nat.zero_le _
    ·rw [hk] at hC; cases hC
     have hc:=h.st.ch k
     rw [hk] at hc
     simp only [DenC,hid] at hc
     obtain ⟨arr',ha',hl',hx'⟩:=hc
     rw [hw] at ha'; cases ha'
     rw [hce] at hsz
     have hroomc:o+off+(n+m) * i.size≤arr.size:=by
      have:(n+m) * i.size≤cap * i.size:=Nat.mul_le_mul_right _ (by omega)
      omega
     rw [Nat.add_mul] at hroomc
     have hcell:∀ j,j < vs.length→w.cell? ⟨b,o+off+n * i.size+j,none⟩ = some (arr.getD (o+off+n * i.size+j) undef):=fun j hj=>by
      simp only [World.cell?,hw]
      simp [Array.getD_eq_getD_getElem?,Array.getElem?_eq_getElem (show o+off+n * i.size+j < arr.size by omega)]
     have hrun:=run_append_room_src (P:=X.P) w t tx ty t' i ht hi b (o+off) n cap y m vs hsrc.src (by omega) (fun j hj=>by rw [hcell j hj]; rfl) (fun j hj=>by simp [World.frozen?,hw])
     rw [setCells_eq_setRow w b (o+off+n * i.size) t' vs arr hw (by omega) hsrc.src.one] at hrun
     have hget:∀ q,(arr.toList.take (o+off+n * i.size)++vs++arr.toList.drop (o+off+n * i.size+vs.length)).toArray.getD q undef =
       if q < o+off+n * i.size then arr.getD q undef else if q < o+off+n * i.size+vs.length then vs.getD (q - (o+off+n * i.size)) undef else arr.getD q undef:=by
      intro q
      have hoo:o+off+n * i.size≤arr.size:=by omega
      simp only [Array.getD_eq_getD_getElem?,List.getElem?_toArray]
      by_cases hq:q < o+off+n * i.size
      ·rw [if_pos hq,List.append_assoc,List.getElem?_append_left (by simp; omega),List.getElem?_take,if_pos hq]
       simp
      ·rw [if_neg hq,List.append_assoc,List.getElem?_append_right (by simp; omega)]
       simp only [List.length_take,Array.length_toList,Nat.min_eq_left hoo]
       by_cases hq2:q < o+off+n * i.size+vs.length
       ·rw [if_pos hq2,List.getElem?_append_left (by omega)]
        simp [List.getD_eq_getElem?_getD]
       ·rw [if_neg hq2,List.getElem?_append_right (by omega),List.getElem?_drop]
        simp only [Array.getElem?_toList]
        congr 2; omega
     have htl:(cs.take (off+n * i.size)++news).length = off+n * i.size+m * i.size:=by
      rw [List.length_append,List.length_take,hnl]; omega
     obtain ⟨g1c,g2⟩:=heap_turn h hk hid (cs':=cs.take (off+n * i.size)) hw (arr':=(arr.toList.take (o+off+n * i.size)++vs++arr.toList.drop (o+off+n * i.size+vs.length)).toArray) (by simp only [List.size_toArray,List.length_append,List.length_take,List.length_drop,Array.length_toList]; omega) (by rw [List.length_take]; omega) (by rw [List.length_take]; omega) (fun j x hj=>by
       rw [hget]
       have hjl:=(List.getElem?_eq_some_iff.1 hj).1
       rw [List.length_take] at hjl
       rw [List.getElem?_take,if_pos (by omega)] at hj
       rw [if_pos (by omega)]; exact hx' j x hj)
     have g1:HeapX X ([updE k (Chunk.row t' (cs.take (off+n * i.size))) hp]++hp) nx ids _:=⟨g1c,by rw [List.singleton_append,getH_put (live_born hlk) (by simp),upd_ne _ _ hkn.symm]; exact h.fresh,h.m_le⟩
     have hk2:getH ([updE k (Chunk.row t' (cs.take (off+n * i.size))) hp]++hp) k = .row t' (cs.take (off+n * i.size)):=by rw [List.singleton_append,getH_put (live_born hlk) (by simp),upd_same]
     have hapl:(appCells cs off (n * i.size)++news).length = n * i.size+m * i.size:=by rw [List.length_append,hal,hnl]
     obtain ⟨r1,r2⟩:=heap_renameG g1 hk2 (cs':=appCells cs off (n * i.size)++news) (off:=off) (fun hn=>by rw [hid] at hn; cases hn) (fun b1 o1 arr1 hi1 ha1=>by
      rw [hid] at hi1; cases hi1
      rw [setRow_heap w b arr _ t' (0,0) hw] at ha1; cases ha1
      refine ⟨by rw [hapl]; simp only [List.size_toArray,List.length_append,List.length_take,List.length_drop,Array.length_toList]; omega,fun j x hj=>?_⟩
      rw [hget]
      have hjl:=(List.getElem?_eq_some_iff.1 hj).1
      rw [hapl] at hjl
      rw [List.getElem?_append] at hj
      split at hj
      ·rename_i hlt
       obtain ⟨a1,a2⟩:=appCells_get hj
       rw [if_pos (by omega)]
       have:=(hx' _ _ a2).mono g2
       rw [← Nat.add_assoc] at this
       exact this
      ·rename_i hlt
       rw [hal] at hlt hj
       rw [if_neg (by omega),if_pos (by omega)]
       have:=(hsrc.den _ x hj).mono g2
       rw [show o+off+j - (o+off+n * i.size) = j - n * i.size from by omega]
       exact this)
     have hCeq:getH ([(Nm.t nx,Chunk.row t' (appCells cs off (n * i.size)++news)),updE k .dead ([updE k (Chunk.row t' (cs.take (off+n * i.size))) hp]++hp)]++([updE k (Chunk.row t' (cs.take (off+n * i.size))) hp]++hp)) = getH ([(Nm.t nx,Chunk.row t' (appCells cs off (n * i.size)++news)),updE k .dead hp]++hp):=by
      show getH ((Nm.t nx,_)::updE k .dead (_::hp)::_::hp) = getH ((Nm.t nx,_)::updE k .dead hp::hp)
      rw [getH_upd,getH_upd,getH_put (by rw [getH_put (live_born hlk) (by simp),upd_same]; simp) (by simp),getH_put (live_born hlk) (by simp),getH_put (live_born hlk) (by simp)]
      funext j
      unfold upd
      split
      ·rfl
      ·split <;> rfl
     refine ⟨_,_,_,hrun,⟨by rw [← hCeq]; exact r1.st,by rw [← hCeq]; exact r1.kept,by rw [← hCeq]; exact r1.nov⟩,?_,?_⟩
     ·have:=Ext_trans' g2 r2
      simp only [ExtX,hCeq] at this
      exact this
     ·refine .own _ _ ?_ ⟨by omega,h2,fun e' cs' hc'=>?_,.inr ⟨b,o+off,t',appCells cs off (n * i.size)++news,_,?_,?_,rfl,setRow_heap w b arr _ t' (0,0) hw,?_⟩⟩
      ·show (getH ((Nm.t nx,_)::updE k .dead hp::hp) nx).live = true
       rw [getH_upd,upd_same]; rfl
      ·replace hc':getH ((Nm.t nx,_)::updE k .dead hp::hp) nx = _:=hc'
       rw [getH_upd,upd_same] at hc'
       cases hc'
       rw [hapl,hce,← Nat.add_mul,Nat.zero_add]
       exact Nat.mul_le_mul_right _ (by omega)
      ·show getH ((Nm.t nx,_)::updE k .dead hp::hp) nx = _
       rw [getH_upd,upd_same]
      ·rw [upd_same,hid]; rfl
      ·rw [hce]
       simp only [List.size_toArray,List.length_append,List.length_take,List.length_drop,Array.length_toList]; omega
  ·cases hf
   obtain ⟨_,hnl,hna,hb0,hb⟩:=hs
   rw [hby] at hb0 hb
   obtain rfl:=den_v hd
   by_cases hm:m = 0
   ·subst hm
    have hv0:vs = []:=List.eq_nil_of_length_eq_zero (by rw [hvl]; omega)
    have hn0:news = []:=List.eq_nil_of_length_eq_zero (by rw [hsrc.len,hv0]; rfl)
    subst hn0; subst hv0
    have hrun:=run_append_nothing (P:=X.P) w t tx ty et i ht hi none 0 0 (Nat.le_refl _) y hsrc.src
    obtain ⟨r1,r2⟩:=heap_reid h none
    obtain ⟨g1,g2⟩:=heap_absent r1 et (upd_same _ _ _)
    refine ⟨_,_,_,hrun,g1,Ext_trans' r2 g2,.own none 0 ?_ ⟨Nat.le_refl _,by unfold maxLen; omega,fun e' cs' hc'=>?_,.inl ⟨rfl,rfl⟩⟩⟩
    ·rw [List.singleton_append,getH_upd,upd_same]; rfl
    ·rw [List.singleton_append,getH_upd,upd_same] at hc'
     cases hc'; exact Nat.zero_le _
   ·obtain ⟨xv,w',ids',r1,r2,r3,r4⟩:=append_grow (ty:=ty) (olds:=[]) (ovs:=[]) (n:=0) (base:=none) (cap:=0) h h (Ext.refl _ _ _ _) ht hi hzv rfl rfl (fun j x hj=>by simp at hj) hsrc (by simp) (by omega) hb0 (by simpa using hb) hzc
    simp only [List.nil_append,Nat.zero_add] at r2 r3 r4
    exact ⟨xv,w',ids',r1,r2,r3,r4⟩
  ·cases hf
 ·cases he
theorem put_cells (h:HeapX X hp nx ids w) {k:Nm} {b o off:Nat} {t':TypeId} {cs:List SV} (hk:getH hp k = .row t' cs) (hi:ids k = some (b,o)) (ys:List Value) (news:List SV) (c1:ys.length = news.length)
  (c2:∀ i x,news[i]? = some x→DenX X hp ids w x (ys.getD i undef)) (c3:∀ v ∈ ys,v.oneCell' = true) (h3:off+news.length≤cs.length) :
 ∃w',(storeCells ⟨b,o+off,none⟩ ys).run X.P w = .ok () w'∧HeapC X ([updE k (.row t' (splice cs off news)) hp]++hp) ids w'∧ExtX X hp ids w ([updE k (.row t' (splice cs off news)) hp]++hp) ids w':=by
 have hc:=h.st.ch k
 rw [hk] at hc
 simp only [DenC,hi] at hc
 obtain ⟨arr,hw,hl,hx⟩:=hc
 have hrun:=run_storeCells_at (P:=X.P) b (o+off) t' ys 0 arr w hw (by omega) c3
 simp only [Nat.add_zero] at hrun
 have hsize:(arr.toList.take (o+off)++ys++arr.toList.drop (o+off+ys.length)).toArray.size = arr.size:=by
  simp only [List.size_toArray,List.length_append,List.length_take,List.length_drop,Array.length_toList]; rw [c1]; omega
 have:=heap_turn h hk hi (cs':=splice cs off news) hw hsize (by rw [splice_length]; exact hl) (by rw [splice_length]; exact Nat.le_refl _) (fun j z hj=>by
  rw [splice_get _ _ _ _ h3] at hj
  have hget:∀ q,(arr.toList.take (o+off)++ys++arr.toList.drop (o+off+ys.length)).toArray.getD q undef =
    if q < o+off then arr.getD q undef else if q < o+off+ys.length then ys.getD (q - (o+off)) undef else arr.getD q undef:=by
   intro q
   have hoo:o+off≤arr.size:=by omega
   simp only [Array.getD_eq_getD_getElem?,List.getElem?_toArray,List.getD_eq_getElem?_getD]
   by_cases hq:q < o+off
   ·rw [if_pos hq,List.append_assoc,List.getElem?_append_left (by simp; omega),List.getElem?_take,if_pos hq]
    simp
   ·rw [if_neg hq,List.append_assoc,List.getElem?_append_right (by simp; omega)]
    simp only [List.length_take,Array.length_toList,Nat.min_eq_left hoo]
    by_cases hq2:q < o+off+ys.length
    ·rw [if_pos hq2,List.getElem?_append_left (by omega)]
    ·rw [if_neg hq2,List.getElem?_append_right (by omega),List.getElem?_drop]
     simp only [Array.getElem?_toList]
     congr 2; omega
  rw [hget]
  by_cases hj1:off≤j∧j < off+news.length
  ·rw [if_pos hj1] at hj
   rw [if_neg (by omega),if_pos (by omega),show o+j - (o+off) = j - off from by omega]
   exact c2 _ _ hj
  ·rw [if_neg hj1] at hj
   have hxj:=hx j z hj
   split
   ·exact hxj
   ·rw [if_neg (by omega)]; exact hxj)
 exact ⟨_,hrun,this.1,this.2⟩
def copyS (P:Program) (t tx:TypeId) (x y:SV) (hp:Hp) (nx:Nat):Res:=match x,sliceT P t with
 | .asl k off n,some (_,1)=>rowS (getH hp k) fun e cs=>srcS P tx 1 y hp fun m news rds s0 =>
   .ok (s0∧news.length = m * 1∧news.all oneS = true∧m≤n∧off+news.length≤cs.length) ⟨.v (.int .i64 (m:Nat)),[updE k (.row e (splice cs off news)) hp],nx,k.key::rds⟩
 | _,_=>.bad
theorem sound_copy (h:HeapX X hp nx ids w) {t tx ty:TypeId} {s q:SV} {x y:Value} (hd:DenX X hp ids w s x) (hq:DenX X hp ids w q y) {side:Prop} {e:Eff} (he:copyS X.P t tx s q hp nx = .ok side e) (hs:side) :
  Sound X hp ids w ((Builtin.copy_ #[t,tx] ty #[x,y]).run X.P w) e:=by
 unfold copyS at he
 split at he
 ·rename_i k off n e0 hst
  obtain ⟨i,hu,hi',hz⟩:=sliceT_some hst
  obtain ⟨t',cs,hk,hf⟩:=rowS_ok he
  obtain ⟨m,news,rds,s0,vs,hf2,hsrc⟩:=src_ok h hq hf (fun m news rds s0 he hs=>by cases he; exact ⟨hs.1,hs.2.1,hs.2.2.1⟩) hs
  cases hf2
  obtain ⟨_,s1,s2,s3,s4⟩:=hs
  obtain ⟨b,o,hid,rfl⟩:=den_asl hd (by rw [hk]; rfl)
  obtain ⟨w',hr,g1,g2⟩:=put_cells h hk hid vs news hsrc.len.symm hsrc.den hsrc.src.one s4
  refine ⟨goInt (m:Nat),w',ids,?_,g1,g2,.v⟩
  have hmin:Nat.min m n = m:=Nat.min_eq_left s3
  have hcells:=hsrc.src.cells
  rw [show (1:Nat) = i.size from hz.symm] at hcells
  simp [Builtin.copy_,run_underlying hu,hsrc.src.len,hmin,sizeOf,typeInfo,hi',hcells,hr]
 ·cases he
end Go.Sx
end

section
namespace Go.Sx
set_option linter.unusedVariables false
open Go.RowKit
variable {X:Cx} {hp:Hp} {nx:Nat} {ids:Ids} {w:World}
def boundS (o:Option SV) (d:Int):Option Int :=
 match o with
 | none=>some d
 | some (.v (.int _ n))=>some n
 | _=>none
def BoundV (v:Option Value) (d n:Int):Prop:=(v = none∧n = d)∨∃ k,v = some (.int k n)
theorem boundS_ok {P:Program} {C:Nm→Chunk} {I:Nat→Prop} {o:Option SV} {v:Option Value} {d n:Int} (h:boundS o d = some n) (hn:o = none→v = none) (hs:∀ s,o = some s→∃ x,v = some x∧Den P C ids I w s x):BoundV v d n:=by
 unfold boundS at h
 split at h
 ·cases h; exact .inl ⟨hn rfl,rfl⟩
 ·rename_i k m
  cases h
  obtain ⟨x,hv,hd⟩:=hs _ rfl
  obtain rfl:=den_v hd
  exact .inr ⟨k,hv⟩
 ·cases h
theorem run_bounds {P:Program} (isSlice:Bool) (len cap:Nat) {lo hi:Option Value} {l h:Int} (hl:BoundV lo 0 l) (hh:BoundV hi len h) (h0:0≤l) (h1:l≤h) (h2:h≤len) (h3:len≤cap) (w:World) :
  (Instr.sliceBounds isSlice len cap lo hi none).run P w = .ok (l.toNat,h.toNat,cap) w:=by
 have hlt:h.toNat≤cap:=by omega
 have hlh:l≤(h.toNat:Int):=by omega
 have hln:(len:Int).toNat = len:=rfl
 rcases hl with ⟨rfl,rfl⟩ | ⟨k,rfl⟩ <;> rcases hh with ⟨rfl,rfl⟩ | ⟨k',rfl⟩
 ·simp [Instr.sliceBounds]
 ·have:0≤h∧h≤(cap:Int):=by omega
  simp [Instr.sliceBounds,Instr.sliceBound,asIntOf,this]
 ·have:0≤l∧l≤(len:Int):=by omega
  simp [Instr.sliceBounds,Instr.sliceBound,asIntOf,this]
 ·have:0≤h∧h≤(cap:Int):=by omega
  have h4:0≤l∧l≤h:=by omega
  have h5:max h 0 = h:=by omega
  simp [Instr.sliceBounds,Instr.sliceBound,asIntOf,this,h4,h5]
theorem run_sliceAt_slice {P:Program} {t e:TypeId} {i:TypeInfo} (hu:P.underlying t = some (.slice e)) (hi:P.info? e = some i) (a:Option Addr) (len cap:Nat) {lo hig:Option Value} {l h:Int} (hl:BoundV lo 0 l) (hh:BoundV hig len h)
  (h0:0≤l) (h1:l≤h) (h2:h≤len) (h3:len≤cap) (w:World) :
  (Instr.sliceAt t (.slice a len cap) lo hig none).run P w = .ok (.slice (if cap = l.toNat then a else a.map (·.add (l.toNat * i.size))) (h.toNat - l.toNat) (cap - l.toNat)) w:=by
 simp [Instr.sliceAt,Instr.slice,run_underlying hu,run_bounds true len cap hl hh h0 h1 h2 h3,sizeOf,typeInfo,hi]
theorem run_sliceAt_string {P:Program} {t:TypeId} (hu:P.underlying t = some .string) (s:ByteArray) {lo hig:Option Value} {l h:Int} (hl:BoundV lo 0 l) (hh:BoundV hig s.size h)
  (h0:0≤l) (h1:l≤h) (h2:h≤s.size) (w:World) :
  (Instr.sliceAt t (.string s) lo hig none).run P w = .ok (.string (s.extract l.toNat h.toNat)) w:=by
 simp [Instr.sliceAt,Instr.slice,run_underlying hu,run_bounds false s.size s.size hl hh h0 h1 h2 (Nat.le_refl _)]
theorem run_sliceAt_array {P:Program} {t el:TypeId} {n:Nat} {i:TypeInfo} (ha:P.underlying t = some (.array n el)) (hi:P.info? el = some i) (a:Addr) {lo hig:Option Value} {l h:Int} (hl:BoundV lo 0 l) (hh:BoundV hig n h)
  (h0:0≤l) (h1:l≤h) (h2:h≤n) (w:World) :
  (Instr.sliceAt t (.pointer (some a)) lo hig none).run P w = .ok (.slice (some (if n = l.toNat then a else a.add (l.toNat * i.size))) (h.toNat - l.toNat) (n - l.toNat)) w:=by
 simp [Instr.sliceAt,run_underlying ha,run_bounds false n n hl hh h0 h1 h2 (Nat.le_refl _),sizeOf,typeInfo,hi,Instr.sureAddr]
def sliceS (P:Program) (t:TypeId) (x:SV) (lo hi:Option SV) (hp:Hp) (nx:Nat):Res :=
 match x with
 | .own k off n=>match boundS lo 0,boundS hi n,sliceT P t with
  | some l,some h,some (_,z)=>rowS (getH hp k) fun e _=>.ok (P.cellsOf e = z∧0≤l∧l≤h∧h≤n) ⟨.own k (off+l.toNat * z) (h.toNat - l.toNat),[],nx,[k.key]⟩
  | _,_,_=>.bad
 | .sl n cs=>match boundS lo 0,boundS hi n,sliceT P t with
  | some l,some h,some (_,z)=>.ok (0≤l∧l≤h∧h≤n) ⟨.sl (h.toNat - l.toNat) (appCells cs (l.toNat * z) ((h.toNat - l.toNat) * z)),[],nx,[]⟩
  | _,_,_=>.bad
 | .v (.slice none 0 0)=>match boundS lo 0,boundS hi 0,sliceT P t with
  | some l,some h,some _=>.ok (l = 0∧h = 0) ⟨.v (.slice none 0 0),[],nx,[]⟩
  | _,_,_=>.bad
 | .v (.string s)=>match boundS lo 0,boundS hi s.size,P.underlying t with
  | some l,some h,some .string=>.ok (0≤l∧l≤h∧h≤s.size) ⟨.v (.string (s.extract l.toNat h.toNat)),[],nx,[]⟩
  | _,_,_=>.bad
 | .ptr k off=>match lo,hi,P.underlying t with
  | none,none,some (.array n el)=>bif szT P el == some 1 && Nat.ble n maxLen then liveS (getH hp k) (.ok True ⟨.asl k off n,[],nx,[k.key]⟩) else .bad
  | _,_,_=>.bad
 | .iptr cs off=>match lo,hi,P.underlying t with
  | none,none,some (.array n el)=>match szT P el with
   | some z=>bif Nat.ble n maxLen then .ok True ⟨.sl n (appCells cs off (n * z)),[],nx,[]⟩ else .bad
   | none=>.bad
  | _,_,_=>.bad
 | _=>.bad
theorem sound_slice (h:HeapX X hp nx ids w) {t:TypeId} {s:SV} {x:Value} {lo hi:Option SV} {lov hiv:Option Value} (hd:DenX X hp ids w s x) (hl1:lo = none→lov = none) (hl2:∀ s,lo = some s→∃ x,lov = some x∧DenX X hp ids w s x)
  (hh1:hi = none→hiv = none) (hh2:∀ s,hi = some s→∃ x,hiv = some x∧DenX X hp ids w s x) {side:Prop} {e:Eff} (he:sliceS X.P t s lo hi hp nx = .ok side e) (hs:side) :
  Sound X hp ids w ((Instr.sliceAt t x lov hiv none).run X.P w) e:=by
 unfold sliceS at he
 split at he
 ·rename_i k off n
  split at he
  ·rename_i l hh e' z b1 b2 hst
   obtain ⟨i,hu,hi',rfl⟩:=sliceT_some hst
   obtain ⟨t',cs,hk,hf⟩:=rowS_ok he
   cases hf
   obtain ⟨hz,h0,h1,h2⟩:=hs
   obtain ⟨a,cap,rfl,c1,c2,c4,c3⟩:=den_own hd (by rw [hk]; rfl)
   refine sound_pure h (run_sliceAt_slice hu hi' a n cap (boundS_ok b1 hl1 hl2) (boundS_ok b2 hh1 hh2) h0 h1 h2 c1 w) ?_
   refine .own _ _ (by rw [hk]; rfl) ⟨by omega,by omega,fun e2 cs2 hc2=>?_,?_⟩
   ·have:=c4 _ _ hc2
    rw [hk] at hc2; cases hc2
    rw [hz] at this ⊢
    have:l.toNat * i.size+(cap - l.toNat) * i.size = cap * i.size:=by rw [← Nat.add_mul]; congr 1; omega
    omega
   by_cases hc:cap = l.toNat
   ·exact .inl ⟨by omega,by omega⟩
   ·rw [if_neg hc]
    rcases c3 with ⟨_,rfl⟩ | ⟨b,o,e2,cs2,arr,hC,hid,rfl,hw,hsz⟩
    ·exact .inl ⟨by omega,by omega⟩
    ·rw [hk] at hC; cases hC
     refine .inr ⟨b,o,t',cs,arr,hk,hid,by simp only [Option.map_some,add_mk,Nat.add_assoc],hw,?_⟩
     rw [hz] at hsz ⊢
     have:l.toNat * i.size+(cap - l.toNat) * i.size = cap * i.size:=by rw [← Nat.add_mul]; congr 1; omega
     omega
  ·cases he
 ·rename_i n cs
  split at he
  ·rename_i l hh e' z b1 b2 hst
   obtain ⟨i,hu,hi',rfl⟩:=sliceT_some hst
   cases he
   obtain ⟨h0,h1,h2⟩:=hs
   obtain ⟨a,cap,rfl,c1,c2,c3⟩:=den_sl hd
   refine sound_pure h (run_sliceAt_slice hu hi' a n cap (boundS_ok b1 hl1 hl2) (boundS_ok b2 hh1 hh2) h0 h1 h2 c1 w) ?_
   by_cases hc:cap = l.toNat
   ·have e1:hh.toNat - l.toNat = 0:=by omega
    rw [e1,Nat.zero_mul,show appCells cs (l.toNat * i.size) 0 = [] from by simp [appCells]]
    exact .sl0 (by omega)
   ·rw [if_neg hc]
    rcases c3 with ⟨rfl,rfl⟩ | ⟨b,o,c,rfl,hI,hcc,hx⟩
    ·have e1:hh.toNat - l.toNat = 0:=by omega
     rw [e1,Nat.zero_mul,show appCells [] (l.toNat * i.size) 0 = [] from by simp [appCells]]
     exact .sl0 (by omega)
    ·simp only [Option.map_some,add_mk]
     exact .sl b (o+l.toNat * i.size) _ (fun j=>c (l.toNat * i.size+j)) hI (by omega) (by omega) (fun j x hj=>by
      obtain ⟨_,hj2⟩:=appCells_get hj
      rw [Nat.add_assoc]; exact hcc _ _ hj2) (fun j x hj=>by
      obtain ⟨_,hj2⟩:=appCells_get hj
      exact hx _ _ hj2)
  ·cases he
 ·split at he
  ·rename_i l hh p b1 b2 hst
   obtain ⟨e',z⟩:=p
   obtain ⟨i,hu,hi',rfl⟩:=sliceT_some hst
   cases he
   obtain ⟨rfl,rfl⟩:=hs
   obtain rfl:=den_v hd
   refine sound_pure h (run_sliceAt_slice hu hi' none 0 0 (boundS_ok b1 hl1 hl2) (boundS_ok b2 hh1 hh2) (by omega) (by omega) (by omega) (by omega) w) ?_
   exact .v
  ·cases he
 ·rename_i s
  split at he
  ·rename_i l hh b1 b2 hu
   cases he
   obtain ⟨h0,h1,h2⟩:=hs
   obtain rfl:=den_v hd
   exact sound_pure h (run_sliceAt_string hu s (boundS_ok b1 hl1 hl2) (boundS_ok b2 hh1 hh2) h0 h1 h2 w) .v
  ·cases he
 ·rename_i k off
  split at he
  ·rename_i n el hu
   rw [Bool.cond_eq_ite] at he
   split at he
   ·rename_i hz
    simp only [Bool.and_eq_true,beq_iff_eq,Nat.ble_eq] at hz
    obtain ⟨i,hi',hsz⟩:=szT_some hz.1
    obtain ⟨⟨t',cs,hk⟩,hf⟩:=liveS_ok he
    cases hf
    obtain ⟨b,o,hid,rfl⟩:=den_ptr hd (by rw [hk]; rfl)
    have hr:=run_sliceAt_array hu hi' ⟨b,o+off,none⟩ (boundS_ok (show boundS (none:Option SV) 0 = some 0 from rfl) hl1 hl2) (boundS_ok (show boundS (none:Option SV) n = some (n:Int) from rfl) hh1 hh2) (Int.le_refl 0) (by omega) (Int.le_refl _) w
    refine sound_pure h (x:=.slice (some ⟨b,o+off,none⟩) n n) ?_ (.asl b o (by rw [hk]; rfl) hid)
    rw [hr]
    simp [add_mk]
   ·cases he
  ·cases he
 ·rename_i cs off
  split at he
  ·rename_i n el hu
   split at he
   ·rename_i z hz
    rw [Bool.cond_eq_ite] at he
    split at he
    ·rename_i hn
     simp only [Nat.ble_eq] at hn
     cases he
     obtain ⟨i,hi',hsz⟩:=szT_some hz
     obtain ⟨b,o,c,hI,rfl,hc,hx⟩:=den_iptr hd
     have hr:=run_sliceAt_array hu hi' ⟨b,o+off,none⟩ (boundS_ok (show boundS (none:Option SV) 0 = some 0 from rfl) hl1 hl2) (boundS_ok (show boundS (none:Option SV) n = some (n:Int) from rfl) hh1 hh2) (Int.le_refl 0) (by omega) (Int.le_refl _) w
     refine sound_pure h (x:=.slice (some ⟨b,o+off,none⟩) n n) ?_ ?_
     ·rw [hr]
      simp [add_mk]
     ·exact .sl b (o+off) n (fun j=>c (off+j)) hI (Nat.le_refl _) hn (fun j x hj=>by
       obtain ⟨_,hj2⟩:=appCells_get hj
       rw [Nat.add_assoc]; exact hc _ _ hj2) (fun j x hj=>by
       obtain ⟨_,hj2⟩:=appCells_get hj
       exact hx _ _ hj2)
    ·cases he
   ·cases he
  ·cases he
 ·cases he
def lenS (P:Program) (t:TypeId) (x:SV) (hp:Hp) (nx:Nat):Res :=
 match arrT P t with
 | some (n,_,_)=>pureR (.v (.int .i64 n)) nx
 | none=>match x with
  | .own k _ n=>match P.underlying t with
   | some (.slice _)=>rowS (getH hp k) fun _ _=>.ok True ⟨.v (.int .i64 n),[],nx,[k.key]⟩
   | _=>.bad
  | .sl n _=>match P.underlying t with
   | some (.slice _)=>pureR (.v (.int .i64 n)) nx
   | _=>.bad
  | .v (.slice none 0 0)=>match P.underlying t with
   | some (.slice _)=>pureR (.v (.int .i64 0)) nx
   | _=>.bad
  | .v (.string s)=>match P.underlying t with
   | some .string=>pureR (.v (.int .i64 s.size)) nx
   | _=>.bad
  | .mp k=>match P.underlying t,getH hp k with
   | some (.map _ _),.map es=>.ok True ⟨.v (.int .i64 es.length),[],nx,[k.key]⟩
   | _,_=>.bad
  | _=>.bad
theorem run_getObj {P:Program} {w:World} {b:Nat} {o:Obj} (h:w.heap[b]? = some o) (hn:∀ c e f,o≠.cells c e f):(getObj b).run P w = .ok o w:=by
 cases o <;> simp [getObj,Sem.run,h] at hn ⊢
theorem sound_len (h:HeapX X hp nx ids w) {t:TypeId} {s:SV} {x:Value} (hd:DenX X hp ids w s x) {side:Prop} {e:Eff} (he:lenS X.P t s hp nx = .ok side e) (hs:side) (ty:TypeId) :
  Sound X hp ids w ((Builtin.len_ #[t] ty #[x]).run X.P w) e:=by
 unfold lenS at he
 split at he
 ·rename_i n e' z ha
  cases he
  obtain ⟨i,hu,_,_⟩:=arrT_some ha
  exact sound_pure h (by simp [Builtin.len_,run_underlying hu,goInt]) .v
 ·split at he
  ·rename_i k off n
   split at he
   ·rename_i e' hu
    obtain ⟨t',cs,hk,hf⟩:=rowS_ok he
    cases hf
    obtain ⟨a,cap,rfl,_⟩:=den_own hd (by rw [hk]; rfl)
    exact sound_pure h (by simp [Builtin.len_,run_underlying hu,goInt]) .v
   ·cases he
  ·rename_i n cs
   split at he
   ·rename_i e' hu
    cases he
    obtain ⟨a,cap,rfl,_⟩:=den_sl hd
    exact sound_pure h (by simp [Builtin.len_,run_underlying hu,goInt]) .v
   ·cases he
  ·split at he
   ·rename_i e' hu
    cases he
    obtain rfl:=den_v hd
    exact sound_pure h (by simp [Builtin.len_,run_underlying hu,goInt]) .v
   ·cases he
  ·rename_i s
   split at he
   ·rename_i hu
    cases he
    obtain rfl:=den_v hd
    exact sound_pure h (by simp [Builtin.len_,run_underlying hu,goInt]) .v
   ·cases he
  ·rename_i k
   split at he
   ·rename_i k' e' es hu hk
    cases he
    obtain ⟨b,hid,rfl⟩:=den_mp hd (by rw [hk]; rfl)
    have hc:=h.st.ch k
    rw [hk] at hc
    obtain ⟨b',arr,clock,hid',hw,hsz,_⟩:=hc
    rw [hid] at hid'; cases hid'
    exact sound_pure h (by simp [Builtin.len_,run_underlying hu,goInt,run_getObj hw (by intros; simp),hsz]) .v
   ·cases he
  ·cases he
def unS (op:UnOp) (x:SV) (nx:Nat):Res :=
 match op,x with
 | .not,.v (.bool b)=>pureR (.v (.bool (!b))) nx
 | .neg,.v (.int k n)=>pureR (.v (.int k (k.wrap (0 - n)))) nx
 | _,_=>.bad
theorem sound_un (h:HeapX X hp nx ids w) {op:UnOp} {s:SV} {x:Value} (hd:DenX X hp ids w s x) {side:Prop} {e:Eff} (he:unS op s nx = .ok side e):Sound X hp ids w ((Op.unary op x).run X.P w) e:=by
 unfold unS at he
 split at he
 ·cases he; obtain rfl:=den_v hd; exact sound_pure h (by simp [Op.unary]) .v
 ·cases he; obtain rfl:=den_v hd; exact sound_pure h (by simp [Op.unary,Op.intArith]) .v
 ·cases he
def runesL (s:ByteArray):Nat→Nat→List Int
 | 0,_=>[]
 | f+1,i=>bif decide (i < s.size) then ((Utf8.decode s i).1:Int)::runesL s f (i+(Utf8.decode s i).2) else []
def runesOf (s:ByteArray):List Int:=runesL s s.size 0
theorem runesFrom_eq (s:ByteArray):∀ (f i:Nat) (acc:Array Value),Conv.runesFrom s f i acc = acc++((runesL s f i).map (Value.int .i32)).toArray
 | 0,_,acc=>by simp [Conv.runesFrom,runesL]
 | f+1,i,acc=>by
  unfold Conv.runesFrom runesL
  by_cases h:i < s.size
  ·rw [if_pos h]
   show Conv.runesFrom s f (i+(Utf8.decode s i).2) (acc.push (Value.int IntKind.i32 (Int.ofNat (Utf8.decode s i).1))) = _
   rw [runesFrom_eq s f]
   simp [h]
  ·rw [if_neg h]; simp [h]
def encL (l:List Int):ByteArray:=l.foldl (fun r n=>r++Utf8.encode n) ByteArray.empty
def bytL (l:List Int):ByteArray:=l.foldl (fun r n=>r.push (UInt8.ofNat n.toNat)) ByteArray.empty
def isI (k:IntKind):SV→Bool
 | .v (.int j _)=>j == k
 | _=>false
def intOf:SV→Int
 | .v (.int _ n)=>n
 | _=>0
def strS' (P:Program) (s d:TypeId) (x:SV) (hp:Hp) (nx:Nat):Res :=
 match P.underlying s,P.underlying d with
 | some (.slice e),some .string=>match P.underlying e with
  | some (.int .i32)=>srcS P s 1 x hp fun m news rds s0=>bif news.all (isI .i32) then .ok (s0∧news.length = m * 1) ⟨.v (.string (encL (news.map intOf))),[],nx,rds⟩ else .bad
  | some (.int .u8)=>srcS P s 1 x hp fun m news rds s0=>bif news.all (isI .u8) then .ok (s0∧news.length = m * 1) ⟨.v (.string (bytL (news.map intOf))),[],nx,rds⟩ else .bad
  | _=>.bad
 | _,_=>.bad
def convS (P:Program) (s d:TypeId) (x:SV) (hp:Hp) (nx:Nat):Res :=
 match x with
 | .v (.int _ n)=>match P.underlying s,P.underlying d with
  | some _,some (.int k)=>pureR (.v (.int k (k.wrap n))) nx
  | some (.int _),some .string=>pureR (.v (.string (Utf8.encode n))) nx
  | _,_=>.bad
 | .v (.string b)=>match P.underlying s,P.underlying d with
  | some _,some .string=>pureR (.v (.string b)) nx
  | some .string,some (.slice e)=>match P.underlying e,szT P e with
   | some (.int .i32),some 1=>.ok ((runesOf b).length≤70368744177664) ⟨.own nx 0 (runesOf b).length,[(Nm.t nx,.row e ((runesOf b).map fun n=>.v (.int .i32 n)))],nx+1,[]⟩
   | _,_=>.bad
  | _,_=>.bad
 | x=>strS' P s d x hp nx
theorem run_forIn_runes {P:Program} {w:World} (f:Value→ByteArray→Sem (ForInStep ByteArray))
  (hf:∀ (n:Int) (r:ByteArray),(f (.int .i32 n) r).run P w = .ok (.yield (r++Utf8.encode n)) w) :
 ∀(ns:List Int) (s:ByteArray),(forIn (ns.map (Value.int .i32)) s f).run P w = .ok (ns.foldl (fun r n=>r++Utf8.encode n) s) w:=by
 intro ns
 induction ns with
 | nil=>intro s; simp [Sem.run_pure]
 | cons n ns ih =>
  intro s
  simp only [List.map_cons,List.forIn_cons,Sem.run_bind,hf,Result.andThen,List.foldl_cons]
  exact ih _
theorem run_runesToString' {P:Program} (w:World) (a:Addr) (len cap:Nat) (ns:List Int) (h:(loadCells a len).run P w = .ok (ns.map (Value.int .i32)).toArray w) :
  (Conv.runesToString (.slice (some a) len cap)).run P w = .ok (.string (encL ns)) w:=by
 unfold Conv.runesToString
 simp only [Sem.run_bind,h,Result.andThen,List.forIn_toArray]
 rw [run_forIn_runes _ (by intro n r; simp [Sem.run_pure])]
 simp [Sem.run_pure,encL]
theorem ints_den {X:Cx} {hp:Hp} {ids:Ids} {w:World} {k:IntKind}:∀ (news:List SV) (vs:List Value),news.length = vs.length→(∀ i x,news[i]? = some x→DenX X hp ids w x (vs.getD i undef))→news.all (isI k) = true→vs = (news.map intOf).map (Value.int k)
 | [],[],_,_,_=>rfl
 | [],_::_,h,_,_=>by cases h
 | _::_,[],h,_,_=>by cases h
 | a::l,v::r,h,hd,ha=>by
  simp only [List.all_cons,Bool.and_eq_true] at ha
  have h0:=hd 0 a rfl
  have:=ints_den l r (by simpa using h) (fun i x hi=>by have:=hd (i+1) x (by simpa using hi); simpa using this) ha.2
  rw [List.map_cons,List.map_cons,← this]
  congr 1
  have ha1:=ha.1
  unfold isI at ha1
  split at ha1
  ·rename_i j n
   have:j = k:=by simpa using ha1
   subst this
   exact den_v h0
  ·cases ha1
theorem one_isI {k:IntKind} {news:List SV} (h:news.all (isI k) = true):news.all oneS = true:=by
 rw [List.all_eq_true] at h ⊢
 intro x hx
 have:=h x hx
 unfold isI at this
 split at this
 ·rfl
 ·cases this
theorem den_sliceS {X:Cx} {hp:Hp} {ids:Ids} {w:World} {tx e:TypeId} {z:Nat} {q:SV} {y:Value} {f:Nat→List SV→List Nm→Prop→Res} {side:Prop} {ef:Eff} (hu:X.P.underlying tx = some (.slice e)) (hd:DenX X hp ids w q y) (he:srcS X.P tx z q hp f = .ok side ef):∃ a n c,y = .slice a n c:=by
 unfold srcS at he
 split at he
 ·cases hd with
  | ownDead h=>exact ⟨_,_,_,rfl⟩
  | own a cap hl h=>exact ⟨_,_,_,rfl⟩
 ·cases hd with
  | sl0 hc=>exact ⟨_,_,_,rfl⟩
  | sl b o cap c hb hn hcap hc hx=>exact ⟨_,_,_,rfl⟩
 ·cases hd; exact ⟨_,_,_,rfl⟩
 ·rw [hu] at he; cases he
 ·cases he
theorem sound_strS (h:HeapX X hp nx ids w) {s d:TypeId} {q:SV} {x:Value} (hd:DenX X hp ids w q x) {side:Prop} {e:Eff} (he:strS' X.P s d q hp nx = .ok side e) (hs:side):Sound X hp ids w ((convert s d x).run X.P w) e:=by
 unfold strS' at he
 split at he
 ·rename_i et h1 h2
  split at he
  ·rename_i h3
   obtain ⟨a,n,c,rfl⟩:=den_sliceS h1 hd he
   obtain ⟨m,news,rds,s0,vs,hf,hsrc⟩:=src_ok h hd he (fun m news rds s0 hf hs=>by
    cases hb:news.all (isI .i32) with
    | false=>rw [hb] at hf; cases hf
    | true=>rw [hb] at hf; cases hf; exact ⟨hs.1,hs.2,one_isI hb⟩) hs
   cases hb:news.all (isI .i32) with
   | false=>rw [hb] at hf; cases hf
   | true =>
    rw [hb] at hf; cases hf
    have hvs:=ints_den (X:=X) (hp:=hp) (ids:=ids) (w:=w) news vs hsrc.len hsrc.den hb
    have hln:n = m:=by have:=hsrc.src.len w; simp [Builtin.lenOf,Sem.run_pure] at this; exact this
    subst hln
    refine sound_pure h ?_ .v
    have hc:=hsrc.src.cells
    have hrun:(convert s d (.slice a n c)).run X.P w = (Conv.runesToString (.slice a n c)).run X.P w:=by
     simp [convert,run_underlying h1,run_underlying h2,run_underlying h3]
    rw [hrun]
    cases a with
    | none =>
     simp only [Builtin.firstCells,Sem.run_pure] at hc
     have h0:vs = []:=by
      have:=congrArg (fun r=>match r with | Result.ok (x:Array Value) _=>x.size | _=>0) hc
      simpa using this.symm
     rw [h0] at hvs
     have:news.map intOf = []:=by simpa using hvs.symm
     rw [this]; simp [Conv.runesToString,Sem.run_pure,encL]
    | some a =>
     refine run_runesToString' w a n c _ ?_
     rw [← hvs]
     simpa [Builtin.firstCells] using hc
  ·rename_i h3
   obtain ⟨a,n,c,rfl⟩:=den_sliceS h1 hd he
   obtain ⟨m,news,rds,s0,vs,hf,hsrc⟩:=src_ok h hd he (fun m news rds s0 hf hs=>by
    cases hb:news.all (isI .u8) with
    | false=>rw [hb] at hf; cases hf
    | true=>rw [hb] at hf; cases hf; exact ⟨hs.1,hs.2,one_isI hb⟩) hs
   cases hb:news.all (isI .u8) with
   | false=>rw [hb] at hf; cases hf
   | true =>
    rw [hb] at hf; cases hf
    have hvs:=ints_den (X:=X) (hp:=hp) (ids:=ids) (w:=w) news vs hsrc.len hsrc.den hb
    have hln:n = m:=by have:=hsrc.src.len w; simp [Builtin.lenOf,Sem.run_pure] at this; exact this
    subst hln
    refine sound_pure h ?_ .v
    have hc:=hsrc.src.cells
    rw [run_convert_bytes_string w s d et a n c h1 h3 h2]
    cases a with
    | none =>
     simp only [Builtin.firstCells,Sem.run_pure] at hc
     have h0:vs = []:=by
      have:=congrArg (fun r=>match r with | Result.ok (x:Array Value) _=>x.size | _=>0) hc
      simpa using this.symm
     rw [h0] at hvs
     have:news.map intOf = []:=by simpa using hvs.symm
     rw [this]; simp [Conv.bytesToString,Sem.run_pure,bytL]
    | some a =>
     refine run_bytesToString w a n c _ ?_
     rw [← hvs]
     simpa [Builtin.firstCells] using hc
  ·cases he
 ·cases he
theorem sound_conv (h:HeapX X hp nx ids w) {s d:TypeId} {q:SV} {x:Value} (hd:DenX X hp ids w q x) {side:Prop} {e:Eff} (he:convS X.P s d q hp nx = .ok side e) (hs:side):Sound X hp ids w ((convert s d x).run X.P w) e:=by
 unfold convS at he
 split at he
 ·split at he
  ·rename_i d1 k h1 h2
   cases he; obtain rfl:=den_v hd
   exact sound_pure h (by simp [convert,run_underlying h1,run_underlying h2,Conv.intToInt]) .v
  ·rename_i d1 h1 h2
   cases he; obtain rfl:=den_v hd
   exact sound_pure h (by simp [convert,run_underlying h1,run_underlying h2,Conv.intToString]) .v
  ·cases he
 ·rename_i b
  split at he
  ·rename_i d1 h1 h2
   cases he; obtain rfl:=den_v hd
   exact sound_pure h (by simp [convert,run_underlying h1,run_underlying h2]) .v
  ·rename_i et h1 h2
   split at he
   ·rename_i h3 h4
    cases he; obtain rfl:=den_v hd
    have hsz:Conv.runesFrom b b.size 0 #[] = ((runesOf b).map (Value.int .i32)).toArray:=by rw [runesFrom_eq]; simp [runesOf]
    have hrun:=run_runes_of_string w s d et b h1 h2 h3 (by rw [hsz]; simpa using hs)
    rw [hsz] at hrun
    simp only [List.size_toArray,List.length_map] at hrun
    obtain ⟨d1c,d2⟩:=h.toHeapC.drew
    have d1:HeapX X hp (nx:=nx) ids w.drew:=⟨d1c,h.fresh,h.m_le⟩
    have hge:=grownCap_ge w (runesOf b).length 0 et
    have hle:=grownCap_le_maxLen w (runesOf b).length 0 et (by unfold maxLen; omega)
    have hcz:=szT_cells h4
    obtain ⟨a1,a2⟩:=heap_alloc d1 (e:=et) (cs:=(runesOf b).map fun n=>.v (.int .i32 n)) (arr:=((runesOf b).map (Value.int .i32)).toArray++Array.replicate (grownCap w (runesOf b).length 0 et - (runesOf b).length) (.int .i32 0)) (by simp) (fun i x hi=>by
     rw [List.getElem?_map] at hi
     cases hr:(runesOf b)[i]? with
     | none=>rw [hr] at hi; cases hi
     | some n =>
      rw [hr] at hi; cases hi
      have hlt:=(List.getElem?_eq_some_iff.1 hr).1
      rw [Array.getD_eq_getD_getElem?,Array.getElem?_append_left (by simpa using hlt)]
      simp [hr]
      exact .v)
    refine ⟨_,_,_,hrun,a1,Ext_trans' d2 a2,.own _ _ ?_ ?_⟩
    ·rw [List.singleton_append,getH_upd,upd_same]; rfl
    ·refine ⟨hge,hle,fun e' cs' hc'=>?_,.inr ⟨w.heap.size,0,et,(runesOf b).map fun n=>.v (.int .i32 n),_,?_,upd_same _ _ _,rfl,heap_alloc_new' w.drew _,?_⟩⟩
     ·rw [List.singleton_append,getH_upd,upd_same] at hc'
      cases hc'
      rw [hcz]; simp; omega
     ·rw [List.singleton_append,getH_upd,upd_same]
     ·rw [hcz]; simp; omega
   ·cases he
  ·cases he
 ·exact sound_strS h hd he hs
def makeSliceS (P:Program) (t:TypeId) (l c:SV) (nx:Nat):Res :=
 match l,c,sliceT P t with
 | .v (.int _ n),.v (.int _ m),some (e,z)=>match zeroT P e with
  | some zs=>.ok (0≤n∧n≤m∧m≤4611686018427387904∧(P.bytesOf e:Int) * m≤140737488355328∧zs.length = z∧0 < z) ⟨.own nx 0 n.toNat,[(Nm.t nx,.row e ((List.range m.toNat).flatMap fun _=>zs))],nx+1,[]⟩
  | none=>.bad
 | _,_,_=>.bad
theorem madeCells_den (P:Program) (C:Nm→Chunk) (I:Nat→Prop) (zv:Value) (m:Nat) (hpos:0 < zv.cells.size) :
  AllDen P C ids I w ((List.range m).flatMap fun _=>zv.cells.toList.map SV.v) (madeCells zv.cells (m * zv.cells.size)):=by
 unfold madeCells
 refine ⟨by rw [length_flatMap_const]; simp,fun j x hj=>?_⟩
 have hlt:j < m * zv.cells.size:=by
  have:=(List.getElem?_eq_some_iff.1 hj).1
  rw [length_flatMap_const] at this; simpa using this
 rw [getElem?_flatMap_const _ _ _ (by simpa using hlt)] at hj
 simp only [List.length_map,Array.length_toList,List.getElem?_map] at hj
 have hm:=Nat.mod_lt j hpos
 rw [Array.getElem?_toList,Array.getElem?_eq_getElem hm] at hj
 simp only [Option.map_some,Option.some.injEq] at hj
 subst hj
 rw [Array.getD_eq_getD_getElem?,Array.getElem?_map,Array.getElem?_range,if_pos hlt]
 simp only [Option.map_some,Option.getD_some,getElem!_pos zv.cells (j % zv.cells.size) hm]
 exact .v
theorem sound_makeSlice (h:HeapX X hp nx ids w) {t:TypeId} {s q:SV} {x y:Value} (hd:DenX X hp ids w s x) (hq:DenX X hp ids w q y) {side:Prop} {e:Eff} (he:makeSliceS X.P t s q nx = .ok side e) (hs:side) :
  Sound X hp ids w ((Instr.makeSlice t x y).run X.P w) e:=by
 unfold makeSliceS at he
 split at he
 ·rename_i k1 n k2 m e' z hst
  split at he
  ·rename_i zs hz
   cases he
   obtain ⟨h0,h1,h2,h3,h4,h5⟩:=hs
   obtain rfl:=den_v hd
   obtain rfl:=den_v hq
   obtain ⟨i,hu,hi,rfl⟩:=sliceT_some hst
   obtain ⟨i',zv,hi',hzv,rfl⟩:=zeroT_some hz
   rw [hi] at hi'; cases hi'
   have hsz:zv.cells.size = i.size:=by simpa using h4
   have hb:X.P.bytesOf e' = i.bytes:=by simp [Program.bytesOf,hi]
   rw [hb] at h3
   have hrun:=run_make (P:=X.P) w t e' i zv hu hi hzv k1 k2 n m h0 h1 (by omega) (by omega)
   have hden:=madeCells_den (ids:=ids) (w:=w) X.P (getH hp) (Im X.w0 X.I0 X.W0 (getH hp) ids w) zv m.toNat (by omega)
   rw [hsz] at hden
   obtain ⟨g1,g2⟩:=heap_alloc h (e:=e') (cs:=(List.range m.toNat).flatMap fun _=>zv.cells.toList.map SV.v) (arr:=madeCells zv.cells (m.toNat * i.size)) (by rw [hden.len]; exact Nat.le_refl _) hden.den
   refine ⟨_,_,_,hrun,g1,g2,.own _ _ ?_ ⟨by omega,by unfold maxLen; omega,fun e2 cs2 hc2=>?_,.inr ⟨w.heap.size,0,e',(List.range m.toNat).flatMap fun _=>zv.cells.toList.map SV.v,_,?_,upd_same _ _ _,rfl,heap_alloc_new' w _,?_⟩⟩⟩
   ·rw [List.singleton_append,getH_upd,upd_same]; rfl
   ·rw [List.singleton_append,getH_upd,upd_same] at hc2
    cases hc2
    rw [hden.len,size_madeCells,show X.P.cellsOf e' = i.size from by simp [Program.cellsOf,hi],Nat.zero_add]; exact Nat.mul_le_mul_right _ (by omega)
   ·rw [List.singleton_append,getH_upd,upd_same]
   ·rw [size_madeCells,show X.P.cellsOf e' = i.size from by simp [Program.cellsOf,hi]]; omega
  ·cases he
 ·cases he
end Go.Sx
end

section
namespace Go.Sx
set_option linter.unusedVariables false
open Go.RowKit
variable {X:Cx} {hp:Hp} {nx:Nat} {ids:Ids} {w:World}
theorem heap_map_new (h:HeapX X hp nx ids w):HeapC X ([(Nm.t nx,.map [])]++hp) (upd ids (Nm.t nx) (some (w.heap.size,0))) (w.alloc (.map #[] 0)) ∧
  ExtX X hp ids w ([(Nm.t nx,.map [])]++hp) (upd ids (Nm.t nx) (some (w.heap.size,0))) (w.alloc (.map #[] 0)):=by
 have hb:getH hp (Nm.t nx) = .unborn:=h.fresh
 have hC:getH ([(Nm.t nx,.map [])]++hp) = upd (getH hp) (Nm.t nx) (.map []):=getH_upd nx _ hp
 have hE:=h.st.alloc_ext hb (.map []) (.map #[] 0)
 refine ⟨⟨?_,fun j hj h0 hjl=>?_,fun j hj hv=>by rw [hC] at hv; exact nov_upd h.nov (fun e=>by cases e) j hj hv⟩,?_⟩
 ·rw [hC]
  refine h.st.alloc hb _ _ ?_
  exact ⟨w.heap.size,#[],0,upd_same _ _ _,heap_alloc_new' w _,rfl,fun i x hi=>by simp at hi,rfl,fun i hi=>by simp at hi⟩
 ·have hjn:j≠Nm.t nx:=fun e=>by have:=h.m_le; subst e; simp at hj; omega
  rw [hC] at hjl ⊢
  have hlo:(getH hp j).live = true:=by rwa [upd_ne _ _ hjn] at hjl
  exact (h.kept j hj h0 hlo).step hE hlo hjl
 ·simp only [ExtX,hC]; exact hE
theorem heap_map_turn (h:HeapX X hp nx ids w) {k:Nm} {b:Nat} {es es':List (Value×SV)} (hk:getH hp k = .map es) (hi:ids k = some (b,0)) {arr arr':Array MapEntry} {clock clock':Nat}
  (hw:w.heap[b]? = some (.map arr clock)) (hl:arr'.size = es'.length) (hx:∀ i x,es'[i]? = some x→(arr'.getD i default).key = x.1∧DenX X hp ids w x.2 (arr'.getD i default).val) (hbo:Born arr' clock') :
  HeapC X ([updE k (.map es') hp]++hp) ids { w with heap:=w.heap.setIfInBounds b (.map arr' clock') }∧ExtX X hp ids w ([updE k (.map es') hp]++hp) ids { w with heap:=w.heap.setIfInBounds b (.map arr' clock') }:=by
 have hlk:(getH hp k).live = true:=by rw [hk]; rfl
 have hblt:b < w.heap.size:=(Array.getElem?_eq_some_iff.1 hw).1
 have hz:(w.heap.setIfInBounds b (.map arr' clock')).size = w.heap.size:=by simp
 have hat:(w.heap.setIfInBounds b (Obj.map arr' clock'))[b]? = some (.map arr' clock'):=by rw [Array.getElem?_setIfInBounds_self_of_lt hblt]
 have hot:∀ j,j≠b→(w.heap.setIfInBounds b (Obj.map arr' clock'))[j]? = w.heap[j]?:=fun j hj=>by rw [Array.getElem?_setIfInBounds_ne (fun e=>hj e.symm)]
 have hshape:SameShape w.heap[b]? (w.heap.setIfInBounds b (Obj.map arr' clock'))[b]?:=fun a t ha=>by rw [hw] at ha; cases ha
 have hE:=h.st.turn_ext (w':={ w with heap:=w.heap.setIfInBounds b (.map arr' clock') }) hlk hi (c:=.map es') rfl (by rw [hk]; trivial) hz hot hshape
 have hC:getH ([updE k (.map es') hp]++hp) = upd (getH hp) k (.map es'):=getH_put (live_born hlk) (by simp)
 refine ⟨⟨?_,fun j hj h0 hjl=>?_,fun j hj hv=>by rw [hC] at hv; exact nov_upd h.nov (fun e=>by cases e) j hj hv⟩,?_⟩
 ·rw [hC]
  refine h.st.turn hlk hi rfl (by rw [hk]; trivial) hz hot hshape rfl rfl rfl ?_
  exact ⟨b,arr',clock',hi,hat,hl,fun i x hix=>⟨(hx i x hix).1,(hx i x hix).2.mono hE⟩,hbo⟩
 ·rw [hC] at hjl ⊢
  have hlo:(getH hp j).live = true:=by
   by_cases hjk:j = k
   ·subst hjk; exact hlk
   ·rwa [upd_ne _ _ hjk] at hjl
  exact (h.kept j hj h0 hlo).step hE hlo hjl
 ·simp only [ExtX,hC]; exact hE
def keyOk (d:TypeDesc):Value→Bool
 | .int _ _=>match d with | .int _=>true | _=>false
 | .string _=>match d with | .string=>true | _=>false
 | .bool _=>match d with | .bool=>true | _=>false
 | _=>false
def leafEq:Value→Value→Bool
 | .int j a,.int k b=>j == k && a == b
 | .string a,.string b=>a == b
 | .bool a,.bool b=>a == b
 | _,_=>false
def eqLs:List Value→List Value→Bool
 | [],[]=>true
 | x::r,y::s=>leafEq x y && eqLs r s
 | _,_=>false
def keyEq:Value→Value→Bool
 | .agg a,.agg b=>eqLs a.toList b.toList
 | x,y=>leafEq x y
def keyAlike:Value→Value→Bool
 | .int j _,.int k _=>j == k
 | .string _,.string _=>true
 | .bool _,.bool _=>true
 | _,_=>false
def findS (key:Value):List (Value×SV)→Nat→Option (Nat×SV)
 | [],_=>none
 | p::r,i=>bif keyEq key p.1 then some (i,p.2) else findS key r (i+1)
theorem findNow_ok {d:TypeDesc} {key:Value} (hk:keyOk d key = true):∀ (arr:List MapEntry) (es:List (Value×SV)) (i:Nat),arr.length = es.length →
  (∀ (j:Nat) (x:Value×SV),es[j]? = some x→∃ e:MapEntry,arr[j]? = some e∧e.key = x.1)→(∀ x ∈ es,keyAlike key x.1 = true) →
  Instr.findNow d key arr i = some ((findS key es i).map fun p=>(p.1,(arr.getD (p.1 - i) default).val))
 | [],[],i,_,_,_=>rfl
 | [],_::_,_,h,_,_=>by simp at h
 | _::_,[],_,h,_,_=>by simp at h
 | e::arr,x::es,i,hl,hx,ha=>by
  obtain ⟨e',he',hkey⟩:=hx 0 x rfl
  simp only [List.getElem?_cons_zero,Option.some.injEq] at he'
  subst he'
  have hal:=ha x (by simp)
  have hsame:Instr.sameNow d key e.key = some (keyEq key x.1):=by
   rw [hkey]
   cases key <;> cases hx1:x.1 <;> rw [hx1] at hal <;> simp only [keyAlike,Bool.false_eq_true] at hal <;> cases d <;> simp only [keyOk,Bool.false_eq_true] at hk
   ·simp [Instr.sameNow,keyEq,leafEq]
   ·have:=hal; simp at this; simp [Instr.sameNow,keyEq,leafEq,this]
   ·simp [Instr.sameNow,keyEq,leafEq]
  have ih:=findNow_ok hk arr es (i+1) (by simpa using hl) (fun j y hj=>hx (j+1) y (by simpa using hj)) (fun y hy=>ha y (by simp [hy]))
  simp only [Instr.findNow,hsame,findS]
  cases hq:keyEq key x.1 with
  | true=>simp
  | false =>
   simp only [cond_false,ih]
   cases hf:findS key es (i+1) with
   | none=>rfl
   | some p =>
    have hge:i+1≤p.1:=by
     have:∀ (es:List (Value×SV)) (i:Nat) (p:Nat×SV),findS key es i = some p→i≤p.1:=by
      intro es
      induction es with
      | nil=>intro i p hp; cases hp
      | cons y es ih =>
       intro i p hp
       simp only [findS] at hp
       cases hc:keyEq key y.1 with
       | true=>rw [hc] at hp; cases hp; exact Nat.le_refl _
       | false=>rw [hc] at hp; have:=ih _ _ hp; omega
     exact this _ _ _ hf
    simp only [Option.map_some]
    rw [show p.1 - i = (p.1 - (i+1))+1 from by omega]
    simp
theorem findS_some {key:Value}:∀ (es:List (Value×SV)) (i:Nat) (p:Nat×SV),findS key es i = some p→i≤p.1∧∃ q,es[p.1 - i]? = some q∧q.2 = p.2∧keyEq key q.1 = true
 | [],_,_,h=>by cases h
 | y::es,i,p,h=>by
  simp only [findS] at h
  cases hc:keyEq key y.1 with
  | true=>rw [hc] at h; cases h; exact ⟨Nat.le_refl _,y,by simp,rfl,hc⟩
  | false =>
   rw [hc] at h
   obtain ⟨h1,q,h2,h3,h4⟩:=findS_some es (i+1) p h
   refine ⟨by omega,q,?_,h3,h4⟩
   rw [show p.1 - i = (p.1 - (i+1))+1 from by omega]
   simpa using h2
theorem run_checkKey {P:Program} {t:TypeId} {d:TypeDesc} {key:Value} (hu:P.underlying t = some d) (hk:keyOk d key = true) (em:Bool) (n:Nat) (w:World):(Instr.checkKey em (n+1) t key).run P w = .ok () w:=by
 unfold Instr.checkKey
 rw [Sem.run_bind,run_underlying hu]
 cases key <;> cases d <;> simp [keyOk] at hk <;> rfl
def zeroVal (P:Program) (e:TypeId):Option Value:=(P.info? e).bind (·.zero)
def mapT (P:Program) (t:TypeId):Option (TypeDesc×TypeId) :=
 match P.underlying t with
 | some (.map k e)=>(P.underlying k).map fun d=>(d,e)
 | _=>none
theorem mapT_some {P:Program} {t d e} (h:mapT P t = some (d,e)):∃ k,P.underlying t = some (.map k e)∧P.underlying k = some d:=by
 unfold mapT at h
 split at h
 ·rename_i k e' hu
  cases hk:P.underlying k with
  | none=>rw [hk] at h; cases h
  | some d'=>rw [hk] at h; cases h; exact ⟨k,hu,hk⟩
 ·cases h
def mapC (c:Chunk) (k:List (Value×SV)→Res):Res :=
 match c with
 | .map es=>k es
 | _=>.bad
theorem mapC_ok {c:Chunk} {f:List (Value×SV)→Res} {s:Prop} {e:Eff} (h:mapC c f = .ok s e):∃ es,c = .map es∧f es = .ok s e:=by
 cases c <;> simp only [mapC] at h <;> first | exact ⟨_,rfl,h⟩ | cases h
def lookV (z:Value) (key:Value) (es:List (Value×SV)):SV:=match findS key es 0 with
 | some p=>p.2
 | none=>.v z
def lookB (key:Value) (es:List (Value×SV)):Bool:=(findS key es 0).isSome
mutual
def flatT (P:Program):Nat→TypeId→Option (List TypeDesc)
 | 0,_=>none
 | d+1,t=>match P.underlying t with
  | some (.int k)=>some [.int k]
  | some .bool=>some [.bool]
  | some .string=>some [.string]
  | some (.struct fs)=>if P.stoodInHeld t || P.eqGuardType P.depth t then none else flatFs P d fs.toList 0
  | some (.array n e)=>match flatT P d e with
   | some l=>if szT P e = some l.length then some ((List.range n).flatMap fun _=>l) else none
   | none=>none
  | _=>none
def flatFs (P:Program):Nat→List Field→Nat→Option (List TypeDesc)
 | _,[],_=>some []
 | 0,_::_,_=>none
 | d + 1, f :: r, off => if f.name = "_" ∨ f.offset ≠ off then none else match flatT P d f.type with
  | some l=>if szT P f.type = some l.length then (flatFs P d r (off+l.length)).map (l++·) else none
  | none=>none
end
def leafV:TypeDesc→Value→Bool
 | .int k,.int k' _=>k == k'
 | .bool,.bool _=>true
 | .string,.string _=>true
 | _,_=>false
def plainA:List SV→Option (List Value)
 | []=>some []
 | .v x::r=>(plainA r).map (x::·)
 | _::_=>none
def leavesV:List TypeDesc→List Value→Bool
 | [],[]=>true
 | d::r,v::s=>leafV d v && leavesV r s
 | _,_=>false
def aggFits (l:List TypeDesc):Value→Bool
 | .agg a=>leavesV l a.toList
 | _=>false
def mapA (P:Program) (t:TypeId):Option (TypeId×List TypeDesc×TypeId):=match P.underlying t with
 | some (.map k e)=>match P.underlying k with
  | some (.struct _) | some (.array _ _)=>match flatT P 100 k with
   | some l=>if szT P k = some l.length then some (k,l,e) else none
   | none=>none
  | _=>none
 | _=>none
def lookupS (P:Program) (t:TypeId) (x key:SV) (ok:Bool) (hp:Hp) (nx:Nat):Res :=
 match x,key,mapT P t with
 | .mp k,.v kv,some (d,e)=>match zeroVal P e with
  | some z=>mapC (getH hp k) fun es=>.ok (keyOk d kv = true∧es.all (fun p=>keyAlike kv p.1) = true) ⟨bif ok then .tup [lookV z kv es,.v (.bool (lookB kv es))] else lookV z kv es,[],nx,[k.key]⟩
  | none=>.bad
 | .mp k,.agg cs,some _=>match plainA cs,mapA P t with
  | some vs,some (_,l,e)=>match zeroVal P e with
   | some z=>mapC (getH hp k) fun es=>.ok (leavesV l vs = true∧es.all (fun p=>aggFits l p.1) = true) ⟨bif ok then .tup [lookV z (.agg vs.toArray) es,.v (.bool (lookB (.agg vs.toArray) es))] else lookV z (.agg vs.toArray) es,[],nx,[k.key]⟩
   | none=>.bad
  | _,_=>.bad
 | _,_,_=>.bad
theorem map_at (h:HeapX X hp nx ids w) {k:Nm} {b:Nat} {es:List (Value×SV)} (hk:getH hp k = .map es) (hid:ids k = some (b,0)) :
 ∃arr clock,w.heap[b]? = some (.map arr clock)∧arr.size = es.length∧(∀ i x,es[i]? = some x→(arr.getD i default).key = x.1∧DenX X hp ids w x.2 (arr.getD i default).val)∧Born arr clock:=by
 have hc:=h.st.ch k
 rw [hk] at hc
 obtain ⟨b',arr,clock,hid',hw,hsz,hx,hbo⟩:=hc
 rw [hid] at hid'; cases hid'
 exact ⟨arr,clock,hw,hsz,hx,hbo⟩
theorem find_run (h:HeapX X hp nx ids w) {k:Nm} {b:Nat} {es:List (Value×SV)} (hk:getH hp k = .map es) (hid:ids k = some (b,0)) {kt:TypeId} {d:TypeDesc} {key:Value} (hu:X.P.underlying kt = some d) (hko:keyOk d key = true) (hal:es.all (fun p=>keyAlike key p.1) = true)
  {arr:Array MapEntry} {clock:Nat} (hw:w.heap[b]? = some (.map arr clock)) (hsz:arr.size = es.length) (hx:∀ i x,es[i]? = some x→(arr.getD i default).key = x.1∧DenX X hp ids w x.2 (arr.getD i default).val) :
  (Instr.findKey kt key arr.toList).run X.P w = .ok ((findS key es 0).map fun p=>(p.1,(arr.getD p.1 default).val)) w:=by
 have hf:=findNow_ok (d:=d) hko arr.toList es 0 (by simpa using hsz) (fun j x hj=>by
  have hlt:j < arr.size:=by rw [hsz]; exact (List.getElem?_eq_some_iff.1 hj).1
  refine ⟨arr[j],by simp,?_⟩
  have:=(hx j x hj).1
  rwa [Array.getD_eq_getD_getElem?,Array.getElem?_eq_getElem hlt] at this) (List.all_eq_true.1 hal)
 unfold Instr.findKey
 rw [Sem.run_bind,run_underlying hu]
 simp only [Result.andThen_ok,hf]
 simp [Array.getD_eq_getD_getElem?,List.getD_eq_getElem?_getD]
def updL (key:Value) (v:SV) (es:List (Value×SV)):List (Value×SV):=match findS key es 0 with
 | some p=>es.modify p.1 fun _=>(key,v)
 | none=>es++[(key,v)]
def mapUpdS (P:Program) (t:TypeId) (x key v:SV) (hp:Hp) (nx:Nat):Res :=
 match x,key,mapT P t with
 | .mp k,.v kv,some (d,e)=>mapC (getH hp k) fun es=>.ok (keyOk d kv = true∧es.all (fun p=>keyAlike kv p.1) = true) ⟨.any,[updE k (.map (updL kv v es)) hp],nx,[k.key]⟩
 | .mp k,.agg cs,some _=>match plainA cs,mapA P t with
  | some vs,some (_,l,e)=>mapC (getH hp k) fun es=>.ok (leavesV l vs = true∧es.all (fun p=>aggFits l p.1) = true) ⟨.any,[updE k (.map (updL (.agg vs.toArray) v es)) hp],nx,[k.key]⟩
  | _,_=>.bad
 | _,_,_=>.bad
theorem ba_beq (a b:ByteArray):(a == b) = (a.data == b.data):=by cases a; cases b; rfl
theorem ba_eq {a b:ByteArray} (h:(a == b) = true):a = b:=by
 rw [ba_beq] at h; cases a; cases b; simp at h; subst h; rfl
theorem ba_self (a:ByteArray):(a == a) = true:=by rw [ba_beq]; simp
theorem leaf_same {a b:Value} (h:leafEq a b = true) (n:Nat):Instr.sameBits n b a = true:=by
 cases a <;> cases b <;> simp only [leafEq,Bool.false_eq_true] at h
 ·have:=eq_of_beq h; subst this; cases n <;> simp [Instr.sameBits]
 ·simp at h; cases n <;> simp [Instr.sameBits,h]
 ·have:=ba_eq h; subst this; cases n <;> simp only [Instr.sameBits,ba_self]
theorem eqLs_same (n:Nat):∀ (x y:List Value),eqLs x y = true→y.length = x.length∧((y.zip x).all fun p=>Instr.sameBits n p.1 p.2) = true
 | [],[],_=>⟨rfl,rfl⟩
 | [],_::_,h=>by cases h
 | _::_,[],h=>by cases h
 | a::x,b::y,h=>by
  simp only [eqLs,Bool.and_eq_true] at h
  obtain ⟨h1,h2⟩:=eqLs_same n x y h.2
  exact ⟨by simp [h1],by simp only [List.zip_cons_cons,List.all_cons,leaf_same h.1 n,h2,Bool.and_self]⟩
theorem keyThatStays_same {P:Program} {a b:Value} (h:keyEq a b = true) (w:World):(Instr.keyThatStays b a).run P w = .ok a w:=by
 have hs:Instr.sameBits 10000 b a = true:=by
  unfold keyEq at h
  split at h
  ·rename_i x y
   obtain ⟨h1,h2⟩:=eqLs_same 9999 x.toList y.toList h
   show (y.size == x.size && _) = true
   rw [Bool.and_eq_true]
   exact ⟨by simpa using h1,h2⟩
  ·exact leaf_same h _
 simp [Instr.keyThatStays,hs]
theorem run_setObj {P:Program} {w:World} {b:Nat} {o o':Obj} (h:w.heap[b]? = some o) (hn:∀ c e f,o≠.cells c e f):(setObj b o').run P w = .ok () { w with heap:=w.heap.setIfInBounds b o' }:=by
 cases o <;> simp [setObj,Sem.run,h] at hn ⊢
def keyS (P:Program) (t:TypeId) (key:SV):Option (Value×(List (Value×SV)→Prop)×TypeId):=match key,mapT P t with
 | .v kv,some (d,e)=>some (kv,fun es=>keyOk d kv = true∧es.all (fun p=>keyAlike kv p.1) = true,e)
 | .agg cs,some _=>match plainA cs,mapA P t with
  | some vs,some (_,l,e)=>some (.agg vs.toArray,fun es=>leavesV l vs = true∧es.all (fun p=>aggFits l p.1) = true,e)
  | _,_=>none
 | _,_=>none
def posV (key:Value) (es:List (Value×SV)):Nat:=match findS key es 0 with
 | some p=>p.1
 | none=>es.length
def mapEntryS (P:Program) (t:TypeId) (x key:SV) (hp:Hp) (nx:Nat):Res:=match x,keyS P t key with
 | .mp k,some (kv,S,e)=>match zeroVal P e with
  | some z=>mapC (getH hp k) fun es=>.ok (S es) ⟨.tup [lookV z kv es,.v (.int .i64 (posV kv es:Nat))],[updE k (.map (updL kv (lookV z kv es) es)) hp],nx,[k.key]⟩
  | none=>.bad
 | _,_=>.bad
def entryStoreS (x st v:SV) (hp:Hp) (nx:Nat):Res:=match x,st with
 | .mp k,.v (.int .i64 i)=>mapC (getH hp k) fun es=>.ok (0≤i∧i < (es.length:Int)) ⟨.any,[updE k (.map (es.modify i.toNat fun p=>(p.1,v))) hp],nx,[k.key]⟩
 | _,_=>.bad
def makeMapS (nx:Nat):Res:=.ok True ⟨.mp nx,[(Nm.t nx,.map [])],nx+1,[]⟩
theorem sound_makeMap (h:HeapX X hp nx ids w) (t:TypeId) {side:Prop} {e:Eff} (he:makeMapS nx = .ok side e):Sound X hp ids w ((Instr.makeMap t none).run X.P w) e:=by
 cases he
 obtain ⟨g1,g2⟩:=heap_map_new h
 refine ⟨_,_,_,rfl,g1,g2,.mp w.heap.size ?_ (upd_same _ _ _)⟩
 rw [List.singleton_append,getH_upd,upd_same]; rfl
theorem heap_it_new (h:HeapX X hp nx ids w) (s:ByteArray):HeapC X ([(Nm.t nx,.obj s 0)]++hp) (upd ids (Nm.t nx) (some (w.heap.size,0))) (w.alloc (.stringIter s 0)) ∧
  ExtX X hp ids w ([(Nm.t nx,.obj s 0)]++hp) (upd ids (Nm.t nx) (some (w.heap.size,0))) (w.alloc (.stringIter s 0)):=by
 have hb:getH hp (Nm.t nx) = .unborn:=h.fresh
 have hC:getH ([(Nm.t nx,.obj s 0)]++hp) = upd (getH hp) (Nm.t nx) (.obj s 0):=getH_upd nx _ hp
 have hE:=h.st.alloc_ext hb (.obj s 0) (.stringIter s 0)
 refine ⟨⟨?_,fun j hj h0 hjl=>?_,fun j hj hv=>by rw [hC] at hv; exact nov_upd h.nov (fun e=>by cases e) j hj hv⟩,?_⟩
 ·rw [hC]
  refine h.st.alloc hb _ _ ?_
  exact ⟨w.heap.size,upd_same _ _ _,heap_alloc_new' w _⟩
 ·have hjn:j≠Nm.t nx:=fun e=>by have:=h.m_le; subst e; simp at hj; omega
  rw [hC] at hjl ⊢
  have hlo:(getH hp j).live = true:=by rwa [upd_ne _ _ hjn] at hjl
  exact (h.kept j hj h0 hlo).step hE hlo hjl
 ·simp only [ExtX,hC]; exact hE
theorem heap_it_turn (h:HeapX X hp nx ids w) {k:Nm} {b:Nat} {s:ByteArray} {pos pos':Nat} (hk:getH hp k = .obj s pos) (hi:ids k = some (b,0)) (hw:w.heap[b]? = some (.stringIter s pos)) :
  HeapC X ([updE k (.obj s pos') hp]++hp) ids { w with heap:=w.heap.setIfInBounds b (.stringIter s pos') }∧ExtX X hp ids w ([updE k (.obj s pos') hp]++hp) ids { w with heap:=w.heap.setIfInBounds b (.stringIter s pos') }:=by
 have hlk:(getH hp k).live = true:=by rw [hk]; rfl
 have hblt:b < w.heap.size:=(Array.getElem?_eq_some_iff.1 hw).1
 have hz:(w.heap.setIfInBounds b (.stringIter s pos')).size = w.heap.size:=by simp
 have hat:(w.heap.setIfInBounds b (Obj.stringIter s pos'))[b]? = some (.stringIter s pos'):=by rw [Array.getElem?_setIfInBounds_self_of_lt hblt]
 have hot:∀ j,j≠b→(w.heap.setIfInBounds b (Obj.stringIter s pos'))[j]? = w.heap[j]?:=fun j hj=>by rw [Array.getElem?_setIfInBounds_ne (fun e=>hj e.symm)]
 have hshape:SameShape w.heap[b]? (w.heap.setIfInBounds b (Obj.stringIter s pos'))[b]?:=fun a t ha=>by rw [hw] at ha; cases ha
 have hE:=h.st.turn_ext (w':={ w with heap:=w.heap.setIfInBounds b (.stringIter s pos') }) hlk hi (c:=.obj s pos') rfl (by rw [hk]; trivial) hz hot hshape
 have hC:getH ([updE k (.obj s pos') hp]++hp) = upd (getH hp) k (.obj s pos'):=getH_put (live_born hlk) (by simp)
 refine ⟨⟨?_,fun j hj h0 hjl=>?_,fun j hj hv=>by rw [hC] at hv; exact nov_upd h.nov (fun e=>by cases e) j hj hv⟩,?_⟩
 ·rw [hC]
  refine h.st.turn hlk hi rfl (by rw [hk]; trivial) hz hot hshape rfl rfl rfl ?_
  exact ⟨b,hi,hat⟩
 ·rw [hC] at hjl ⊢
  have hlo:(getH hp j).live = true:=by
   by_cases hjk:j = k
   ·subst hjk; exact hlk
   ·rwa [upd_ne _ _ hjk] at hjl
  exact (h.kept j hj h0 hlo).step hE hlo hjl
 ·simp only [ExtX,hC]; exact hE
def rangeS (P:Program) (t:TypeId) (x:SV) (nx:Nat):Res:=match x with
 | .v (.string s)=>match P.underlying t with
  | some .string=>.ok True ⟨.it nx,[(Nm.t nx,.obj s 0)],nx+1,[]⟩
  | _=>.bad
 | _=>.bad
def itC (c:Chunk) (f:ByteArray→Nat→Res):Res:=match c with
 | .obj s pos=>f s pos
 | _=>.bad
def nextS (x:SV) (str:Bool) (hp:Hp) (nx:Nat):Res:=bif str then (match x with
 | .it k=>itC (getH hp k) fun s pos=>bif decide (pos < s.size) then .ok True ⟨.tup [.v (.bool true),.v (.int .i64 ((pos:Nat):Int)),.v (.int .i32 (((Utf8.decode s pos).1:Nat):Int))],[updE k (.obj s (pos+(Utf8.decode s pos).2)) hp],nx,[k.key]⟩
  else .ok True ⟨.tup [.v (.bool false)],[],nx,[k.key]⟩
 | _=>.bad) else .bad
theorem itC_ok {c:Chunk} {f:ByteArray→Nat→Res} {s:Prop} {e:Eff} (h:itC c f = .ok s e):∃ t pos,c = .obj t pos∧f t pos = .ok s e:=by
 cases c with
 | obj t pos=>exact ⟨t,pos,rfl,h⟩
 | _=>cases h
theorem sound_range (h:HeapX X hp nx ids w) {t:TypeId} {q:SV} {x:Value} (hd:DenX X hp ids w q x) {side:Prop} {e:Eff} (he:rangeS X.P t q nx = .ok side e):Sound X hp ids w ((Instr.range t x).run X.P w) e:=by
 unfold rangeS at he
 split at he
 ·split at he
  ·rename_i s _ hu
   cases he
   obtain rfl:=den_v hd
   obtain ⟨g1,g2⟩:=heap_it_new h s
   refine ⟨.pointer (some ⟨w.heap.size,0,none⟩),w.alloc (.stringIter s 0),_,?_,g1,g2,.it w.heap.size ?_ (upd_same _ _ _)⟩
   ·simp only [Instr.range,Sem.run_bind,run_underlying hu,Result.andThen_ok,Sem.run_pure]
    rfl
   ·rw [List.singleton_append,getH_upd,upd_same]; rfl
  ·cases he
 ·cases he
theorem den_it {P:Program} {C:Nm→Chunk} {ids:Ids} {I:Nat→Prop} {w:World} {y:Value} {k:Nm} (h:Den P C ids I w (.it k) y) (hl:(C k).live = true):∃ b,ids k = some (b,0)∧y = .pointer (some ⟨b,0,none⟩):=by
 cases h with
 | itDead h=>rw [h] at hl; cases hl
 | it b _ hi=>exact ⟨b,hi,rfl⟩
theorem sound_next (h:HeapX X hp nx ids w) {str:Bool} {q:SV} {x:Value} (hd:DenX X hp ids w q x) {side:Prop} {e:Eff} (he:nextS q str hp nx = .ok side e) (ty:TypeId):Sound X hp ids w ((Instr.next x str ty).run X.P w) e:=by
 unfold nextS at he
 cases str with
 | false=>cases he
 | true =>
  simp only [cond_true] at he
  split at he
  ·rename_i k
   obtain ⟨s,pos,hk,hf⟩:=itC_ok he
   obtain ⟨b,hid,rfl⟩:=den_it hd (by rw [hk]; rfl)
   have hc:=h.st.ch k
   rw [hk] at hc
   obtain ⟨b',hid',hw⟩:=hc
   rw [hid] at hid'; cases hid'
   cases hb:decide (pos < s.size) with
   | true =>
    rw [hb] at hf; simp only [cond_true] at hf
    cases hf
    have hlt:pos < s.size:=of_decide_eq_true hb
    obtain ⟨g1,g2⟩:=heap_it_turn (pos':=pos+(Utf8.decode s pos).2) h hk hid hw
    refine ⟨_,_,_,?_,g1,g2,.tup #[.bool true,goInt pos,.int .i32 (Utf8.decode s pos).1] rfl fun i y hy=>?_⟩
    ·simp only [Instr.next,Sem.run_bind,run_getObj hw (by intros; simp),Result.andThen_ok,if_pos hlt,run_setObj hw (by intros; simp)]
     rfl
    ·match i,hy with
     | 0,hy=>cases hy; exact .v
     | 1,hy=>cases hy; exact .v
     | 2,hy=>cases hy; exact .v
   | false =>
    rw [hb] at hf; simp only [cond_false] at hf
    cases hf
    have hlt:¬ pos < s.size:=of_decide_eq_false hb
    refine sound_pure (x:=.tuple #[.bool false]) h ?_ (.tup #[.bool false] rfl fun i y hy=>?_)
    ·simp only [Instr.next,Sem.run_bind,run_getObj hw (by intros; simp),Result.andThen_ok,if_neg hlt]
     rfl
    ·match i,hy with
     | 0,hy=>cases hy; exact .v
  ·cases he
end Go.Sx
end

section
namespace Go.Sx
set_option linter.unusedVariables false
open Go.RowKit
variable {P:Program}
def eqV:Value→Value→Bool
 | .int _ a,.int _ b=>a == b
 | .bool a,.bool b=>a == b
 | .string a,.string b=>decide (a = b)
 | _,_=>false
def eqR (xs ys:Array Value) (off n:Nat):Bool:=(List.range n).all fun j=>eqV (xs.getD (off+j) undef) (ys.getD (off+j) undef)
structure Leaves (xs:Array Value) (off:Nat) (l:List TypeDesc):Prop where
 size:off+l.length≤xs.size
 at_:∀ j d,l[j]? = some d→leafV d (xs.getD (off+j) undef) = true
theorem Leaves.left {xs:Array Value} {off:Nat} {l r:List TypeDesc} (h:Leaves xs off (l++r)):Leaves xs off l :=
 ⟨by have:=h.size; rw [List.length_append] at this; omega,fun j d hj=>h.at_ j d (by rw [List.getElem?_append_left (List.getElem?_eq_some_iff.1 hj).1]; exact hj)⟩
theorem Leaves.right {xs:Array Value} {off:Nat} {l r:List TypeDesc} (h:Leaves xs off (l++r)):Leaves xs (off+l.length) r :=
 ⟨by have:=h.size; rw [List.length_append] at this; omega,fun j d hj=>by
  have:=h.at_ (l.length+j) d (by rw [List.getElem?_append_right (by omega)]; rw [Nat.add_sub_cancel_left]; exact hj)
  rwa [← Nat.add_assoc] at this⟩
theorem Leaves.extract {xs:Array Value} {off:Nat} {l:List TypeDesc} (h:Leaves xs off l):Leaves (xs.extract off (off+l.length)) 0 l :=
 ⟨by have:=h.size; simp only [Array.size_extract]; omega,fun j d hj=>by
  have:=h.at_ j d hj
  have hlt:=(List.getElem?_eq_some_iff.1 hj).1
  have hsz:=h.size
  rw [Array.getD_eq_getD_getElem?,Array.getElem?_eq_getElem (show off+j < xs.size by omega)] at this
  rw [Array.getD_eq_getD_getElem?,Nat.zero_add,Array.getElem?_extract,if_pos (by omega),Array.getElem?_eq_getElem (show off+j < xs.size by omega)]
  exact this⟩
theorem eqR_extract {xs ys:Array Value} {off n:Nat} (hx:off+n≤xs.size) (hy:off+n≤ys.size):eqR (xs.extract off (off+n)) (ys.extract off (off+n)) 0 n = eqR xs ys off n:=by
 unfold eqR
 rw [Bool.eq_iff_iff,List.all_eq_true,List.all_eq_true]
 refine forall_congr' fun j=>?_
 refine imp_congr_right fun hj=>?_
 rw [List.mem_range] at hj
 simp only [Array.getD_eq_getD_getElem?,Nat.zero_add,Array.getElem?_extract]
 rw [if_pos (by omega),if_pos (by omega)]
theorem eqR_add (xs ys:Array Value) (off a b:Nat):eqR xs ys off (a+b) = (eqR xs ys off a && eqR xs ys (off+a) b):=by
 unfold eqR
 rw [List.range_add,List.all_append,List.all_map]
 congr 1
 simp only [Function.comp_def,Nat.add_assoc]
theorem part_leaf {t:TypeId} {d:TypeDesc} (hu:P.underlying t = some d) (hd:d.isRow = false) (xs:Array Value) (off:Nat) (h:off < xs.size) (w:World):(part t xs off).run P w = .ok (xs.getD off undef) w:=by
 have:(isAgg t).run P w = .ok false w:=by
  unfold isAgg; rw [Sem.run_bind,run_underlying hu w]
  cases d <;> first | rfl | cases hd
 simp only [part,Sem.run_bind,this,Result.andThen_ok,Bool.false_eq_true,if_false]
 simp [Array.getD_eq_getD_getElem?,Array.getElem?_eq_getElem h]
theorem part_agg {t:TypeId} {d:TypeDesc} (hu:P.underlying t = some d) (hd:d.isRow = true) {n:Nat} (hs:szT P t = some n) (xs:Array Value) (off:Nat) (w:World):(part t xs off).run P w = .ok (.agg (xs.extract off (off+n))) w:=by
 have:(isAgg t).run P w = .ok true w:=by
  unfold isAgg; rw [Sem.run_bind,run_underlying hu w]
  cases d <;> first | rfl | cases hd
 obtain ⟨i,hi,rfl⟩:=szT_some hs
 simp [part,Sem.run_bind,this,sizeOf,typeInfo,hi]
theorem eqR_one (xs ys:Array Value) (off:Nat):eqR xs ys off 1 = eqV (xs.getD off undef) (ys.getD off undef):=by simp [eqR]
def EqPart (P:Program) (D:Nat) (t:TypeId) (l:List TypeDesc):Prop :=
∀(xs ys:Array Value) (off:Nat) (w:World),Leaves xs off l→Leaves ys off l →
 ∃a b,(part t xs off).run P w = .ok a w∧(part t ys off).run P w = .ok b w∧(Op.equalIn D t a b).run P w = .ok (eqR xs ys off l.length) w
theorem eq_leaf {t:TypeId} {d:TypeDesc} (hu:P.underlying t = some d) (hk:(∃ k,d = .int k)∨d = .bool∨d = .string) (D:Nat):EqPart P (D+1) t [d]:=by
 intro xs ys off w hx hy
 have hd:d.isRow = false:=by rcases hk with ⟨k,rfl⟩ | rfl | rfl <;> rfl
 have lx:=hx.at_ 0 d rfl
 have ly:=hy.at_ 0 d rfl
 have sx:=hx.size
 have sy:=hy.size
 simp only [List.length_cons,List.length_nil,Nat.zero_add,Nat.add_zero] at *
 refine ⟨_,_,part_leaf hu hd xs off (by omega) w,part_leaf hu hd ys off (by omega) w,?_⟩
 rw [eqR_one]
 generalize xs.getD off undef = a at *
 generalize ys.getD off undef = b at *
 rcases hk with ⟨k,rfl⟩ | rfl | rfl
 ·cases a <;> simp only [leafV,Bool.false_eq_true] at lx
  cases b <;> simp only [leafV,Bool.false_eq_true] at ly
  have e1:=eq_of_beq lx
  have e2:=eq_of_beq ly
  subst e1; subst e2
  rw [run_equalIn_int w D t _ _ _ _ hu]; rfl
 ·cases a <;> simp only [leafV,Bool.false_eq_true] at lx
  cases b <;> simp only [leafV,Bool.false_eq_true] at ly
  rw [run_equalIn_bool' w D t _ _ hu]; rfl
 ·cases a <;> simp only [leafV,Bool.false_eq_true] at lx
  cases b <;> simp only [leafV,Bool.false_eq_true] at ly
  rename_i s r
  rw [run_equalIn_string w D t _ _ hu,← beq_toListBytes]
  congr 1
  rw [eqV,Bool.eq_iff_iff,decide_eq_true_eq]
  exact ⟨fun h=>ba_eq h,fun h=>h ▸ ba_self s⟩
theorem eq_fields:∀ (fs:List Field) (D:Nat) (off:Nat) (l:List TypeDesc) (F:Nat),
  (∀ F' t l',F'≤F→flatT P F' t = some l'→szT P t = some l'.length→EqPart P D t l')→flatFs P F fs off = some l→∀ (xs ys:Array Value) (w:World),Leaves xs off l→Leaves ys off l →
  (Op.eqFields D xs ys fs).run P w = .ok (eqR xs ys off l.length) w
 | [],D,off,l,F,hF,h,xs,ys,w,hx,hy=>by
  unfold flatFs at h; cases h
  simp [Op.eqFields,eqR]
 | f::r,D,off,l,0,hF,h,xs,ys,w,hx,hy=>by unfold flatFs at h; cases h
 | f::r,D,off,l,F+1,hF,h,xs,ys,w,hx,hy=>by
  unfold flatFs at h
  split at h
  ·cases h
  ·rename_i hn
   simp only [not_or,Decidable.not_not] at hn
   obtain ⟨hn1,rfl⟩:=hn
   split at h
   ·rename_i l1 hl1
    split at h
    ·rename_i hsz
     cases hr:flatFs P F r (f.offset+l1.length) with
     | none=>rw [hr] at h; cases h
     | some l2 =>
      rw [hr] at h; cases h
      obtain ⟨a,b,ha,hb,he⟩:=hF F f.type l1 (by omega) hl1 hsz xs ys f.offset w hx.left hy.left
      have ih:=eq_fields r D (f.offset+l1.length) l2 F (fun F' t l' h1=>hF F' t l' (by omega)) hr xs ys w hx.right hy.right
      simp only [Op.eqFields]
      rw [if_pos hn1]
      simp only [Sem.run_bind,ha,Result.andThen_ok,hb,he,List.length_append,eqR_add]
      cases eqR xs ys f.offset l1.length with
      | true=>simpa using ih
      | false=>simp
    ·cases h
   ·cases h
theorem eq_items {e:TypeId} {D:Nat} {l:List TypeDesc} (hE:EqPart P D e l) (hs:P.cellsOf e = l.length):∀ (n k:Nat) (xs ys:Array Value) (w:World),
  Leaves xs (k * l.length) ((List.range n).flatMap fun _=>l)→Leaves ys (k * l.length) ((List.range n).flatMap fun _=>l) →
  (Op.eqItems D e (P.cellsOf e) xs ys (List.range' k n)).run P w = .ok (eqR xs ys (k * l.length) (n * l.length)) w
 | 0,k,xs,ys,w,hx,hy=>by simp [Op.eqItems,eqR]
 | n+1,k,xs,ys,w,hx,hy=>by
  have hsplit:((List.range (n+1)).flatMap fun _=>l) = l++(List.range n).flatMap fun _=>l:=by
   rw [List.range_succ_eq_map,List.flatMap_cons,List.flatMap_map]
  rw [hsplit] at hx hy
  obtain ⟨a,b,ha,hb,he⟩:=hE xs ys (k * l.length) w hx.left hy.left
  have hr1:=hx.right
  have hr2:=hy.right
  rw [← Nat.succ_mul] at hr1 hr2
  have ih:=eq_items hE hs n (k+1) xs ys w hr1 hr2
  rw [List.range'_succ]
  simp only [Op.eqItems,Sem.run_bind]
  rw [hs] at ih ⊢
  simp only [ha,Result.andThen_ok,hb,he]
  rw [Nat.succ_mul n,Nat.add_comm (n * l.length),eqR_add,← Nat.succ_mul]
  cases eqR xs ys (k * l.length) l.length with
  | true=>simpa using ih
  | false=>simp
theorem eq_flat:∀ (F:Nat) (t:TypeId) (l:List TypeDesc) (D:Nat),F≤D→flatT P F t = some l→(szT P t = some l.length)→EqPart P D t l:=by
 intro F
 induction F using Nat.strongRecOn with
 | _ F ih =>
  intro t l D hD h hsz0
  cases F with
  | zero=>unfold flatT at h; cases h
  | succ F =>
   cases D with
   | zero=>omega
   | succ D =>
    unfold flatT at h
    split at h
    ·rename_i k hu; cases h; exact eq_leaf hu (.inl ⟨k,rfl⟩) D
    ·rename_i hu; cases h; exact eq_leaf hu (.inr (.inl rfl)) D
    ·rename_i hu; cases h; exact eq_leaf hu (.inr (.inr rfl)) D
    ·rename_i fs hu
     split at h
     ·cases h
     ·rename_i hst
      simp only [Bool.or_eq_true,not_or,Bool.not_eq_true] at hst
      intro xs ys off w hx hy
      refine ⟨_,_,part_agg hu rfl hsz0 xs off w,part_agg hu rfl hsz0 ys off w,?_⟩
      have hf:P.fieldsOf t = fs:=by unfold Program.fieldsOf; rw [hu]
      rw [run_equalIn_struct w D t _ _ (by rw [hf]; exact hu) hst.1,hf]
      rw [eq_fields fs.toList D 0 l F (fun F' t l' h1 h2 h3=>ih F' (by omega) t l' D (by omega) h2 h3) h _ _ w hx.extract hy.extract]
      rw [eqR_extract hx.size hy.size]
    ·rename_i n e hu
     split at h
     ·rename_i l1 hl1
      split at h
      ·rename_i hsz
       cases h
       intro xs ys off w hx hy
       refine ⟨_,_,part_agg hu rfl hsz0 xs off w,part_agg hu rfl hsz0 ys off w,?_⟩
       obtain ⟨i,hi,_⟩:=szT_some hsz
       rw [run_equalIn_array w D _ _ hu hi]
       have he:=ih F (by omega) e l1 D (by omega) hl1 hsz
       have:=eq_items he (szT_cells hsz) n 0 (xs.extract off (off+((List.range n).flatMap fun _=>l1).length)) (ys.extract off (off+((List.range n).flatMap fun _=>l1).length)) w (by rw [Nat.zero_mul]; exact hx.extract) (by rw [Nat.zero_mul]; exact hy.extract)
       rw [← List.range_eq_range'] at this
       rw [this,Nat.zero_mul,← length_flatMap_const,eqR_extract hx.size hy.size]
      ·cases h
     ·cases h
    ·cases h
def CheckPart (P:Program) (em:Bool) (D:Nat) (t:TypeId) (l:List TypeDesc):Prop :=
∀(xs:Array Value) (off:Nat) (w:World),Leaves xs off l→∃ a,(part t xs off).run P w = .ok a w∧(Instr.checkKey em D t a).run P w = .ok () w
theorem check_leaf {t:TypeId} {d:TypeDesc} (hu:P.underlying t = some d) (hk:(∃ k,d = .int k)∨d = .bool∨d = .string) (em:Bool) (D:Nat):CheckPart P em (D+1) t [d]:=by
 intro xs off w hx
 have hd:d.isRow = false:=by rcases hk with ⟨k,rfl⟩ | rfl | rfl <;> rfl
 have lx:=hx.at_ 0 d rfl
 have sx:=hx.size
 simp only [List.length_cons,List.length_nil,Nat.zero_add,Nat.add_zero] at *
 refine ⟨_,part_leaf hu hd xs off (by omega) w,?_⟩
 generalize xs.getD off undef = a at *
 unfold Instr.checkKey
 rw [Sem.run_bind,run_underlying hu]
 rcases hk with ⟨k,rfl⟩ | rfl | rfl <;> cases a <;> simp only [leafV,Bool.false_eq_true] at lx <;> rfl
theorem check_flat (em:Bool):∀ (F:Nat) (t:TypeId) (l:List TypeDesc) (D:Nat),F≤D→flatT P F t = some l→szT P t = some l.length→CheckPart P em D t l:=by
 intro F
 induction F using Nat.strongRecOn with
 | _ F ih =>
  intro t l D hD h hsz0
  cases F with
  | zero=>unfold flatT at h; cases h
  | succ F =>
   cases D with
   | zero=>omega
   | succ D =>
    unfold flatT at h
    split at h
    ·rename_i k hu; cases h; exact check_leaf hu (.inl ⟨k,rfl⟩) em D
    ·rename_i hu; cases h; exact check_leaf hu (.inr (.inl rfl)) em D
    ·rename_i hu; cases h; exact check_leaf hu (.inr (.inr rfl)) em D
    ·rename_i fs hu
     split at h
     ·cases h
     ·intro xs off w hx
      refine ⟨_,part_agg hu rfl hsz0 xs off w,?_⟩
      have hx2:=hx.extract
      generalize xs.extract off (off+l.length) = ys at hx2
      unfold Instr.checkKey
      simp only [Sem.run_bind,run_underlying hu,Result.andThen_ok]
      rw [← Array.forIn_toList]
      clear hx hu hsz0
      have gen:∀ (fs:List Field) (F' off:Nat) (l:List TypeDesc),F'≤F→flatFs P F' fs off = some l→Leaves ys off l→((forIn fs PUnit.unit fun f r=>do
         if f.name ≠ "_" then (do
          Instr.checkKey em D f.type (← part f.type ys f.offset)
          pure (ForInStep.yield PUnit.unit))
         else pure (ForInStep.yield PUnit.unit)):Sem PUnit).run P w = .ok PUnit.unit w:=by
       intro fs
       induction fs with
       | nil=>intro F' off l _ _ _; simp
       | cons f r ihr =>
        intro F' off l hF' h hl
        cases F' with
        | zero=>unfold flatFs at h; cases h
        | succ F' =>
         unfold flatFs at h
         split at h
         ·cases h
         ·rename_i hn
          simp only [not_or,Decidable.not_not] at hn
          obtain ⟨hn1,rfl⟩:=hn
          split at h
          ·rename_i l1 hl1
           split at h
           ·rename_i hsz
            cases hr:flatFs P F' r (f.offset+l1.length) with
            | none=>rw [hr] at h; cases h
            | some l2 =>
             rw [hr] at h; cases h
             obtain ⟨a,ha,hc⟩:=ih F' (by omega) f.type l1 D (by omega) hl1 hsz ys f.offset w hl.left
             have:=ihr F' (f.offset+l1.length) l2 (by omega) hr hl.right
             simp only [List.forIn_cons,Sem.run_bind,hn1,ne_eq,not_false_eq_true,if_true,Result.andThen_ok,ha,hc,Sem.run_pure]
             exact this
           ·cases h
          ·cases h
      have:=gen fs.toList F 0 l (Nat.le_refl _) h hx2
      rw [this]; rfl
    ·rename_i n e hu
     split at h
     ·rename_i l1 hl1
      split at h
      ·rename_i hsz
       cases h
       intro xs off w hx
       refine ⟨_,part_agg hu rfl hsz0 xs off w,?_⟩
       have hx2:=hx.extract
       generalize xs.extract off (off+((List.range n).flatMap fun _=>l1).length) = ys at hx2
       obtain ⟨i,hi,_⟩:=szT_some hsz
       have hcs:=szT_cells hsz
       unfold Instr.checkKey
       simp only [Sem.run_bind,run_underlying hu,Result.andThen_ok]
       simp only [Std.Legacy.Range.forIn_eq_forIn_range',Std.Legacy.Range.size,Nat.sub_zero,Nat.add_one_sub_one,Nat.div_one]
       have gen:∀ (n k:Nat),Leaves ys (k * l1.length) ((List.range n).flatMap fun _=>l1)→((forIn (List.range' k n) PUnit.unit fun i r=>do
          Instr.checkKey em D e (← part e ys (i * (← sizeOf e)))
          pure (ForInStep.yield PUnit.unit)):Sem PUnit).run P w = .ok PUnit.unit w:=by
        intro n
        induction n with
        | zero=>intro k _; simp
        | succ n ihn =>
         intro k hl
         have hsplit:((List.range (n+1)).flatMap fun _=>l1) = l1++(List.range n).flatMap fun _=>l1:=by
          rw [List.range_succ_eq_map,List.flatMap_cons,List.flatMap_map]
         rw [hsplit] at hl
         obtain ⟨a,ha,hc⟩:=ih F (by omega) e l1 D (by omega) hl1 hsz ys (k * l1.length) w hl.left
         have hr1:=hl.right
         rw [← Nat.succ_mul] at hr1
         have:=ihn (k+1) hr1
         rw [List.range'_succ]
         simp only [List.forIn_cons,Sem.run_bind,run_sizeOf w hi,hcs,Result.andThen_ok,ha,hc,Sem.run_pure]
         exact this
       have:=gen n 0 (by rw [Nat.zero_mul]; exact hx2)
       rw [this]; rfl
      ·cases h
     ·cases h
    ·cases h
theorem leavesV_at:∀ (l:List TypeDesc) (vs:List Value),leavesV l vs = true→vs.length = l.length∧∀ j d,l[j]? = some d→leafV d (vs.getD j undef) = true
 | [],[],_=>⟨rfl,fun j d h=>by simp at h⟩
 | [],_::_,h=>by cases h
 | _::_,[],h=>by cases h
 | d::l,v::vs,h=>by
  simp only [leavesV,Bool.and_eq_true] at h
  obtain ⟨h1,h2⟩:=leavesV_at l vs h.2
  refine ⟨by simp [h1],fun j d' hj=>?_⟩
  cases j with
  | zero=>simp at hj; subst hj; simpa using h.1
  | succ j=>simp at hj; simpa using h2 j d' hj
theorem leaves_of {l:List TypeDesc} {a:Array Value} (h:leavesV l a.toList = true):Leaves a 0 l:=by
 obtain ⟨h1,h2⟩:=leavesV_at l a.toList h
 refine ⟨by rw [Nat.zero_add,← h1]; simp,fun j d hj=>?_⟩
 have:=h2 j d hj
 rw [Nat.zero_add]
 simpa [Array.getD_eq_getD_getElem?,List.getD_eq_getElem?_getD] using this
theorem eqV_leaf {d:TypeDesc} {a b:Value} (ha:leafV d a = true) (hb:leafV d b = true):eqV a b = leafEq a b:=by
 cases d <;> cases a <;> simp only [leafV,Bool.false_eq_true] at ha <;> cases b <;> simp only [leafV,Bool.false_eq_true] at hb
 ·rfl
 ·have e1:=eq_of_beq ha; have e2:=eq_of_beq hb; subst e1; subst e2; simp [eqV,leafEq]
 ·rename_i s r
  rw [eqV,leafEq,Bool.eq_iff_iff,decide_eq_true_eq]
  exact ⟨fun h=>h ▸ ba_self s,fun h=>ba_eq h⟩
theorem eqR_eqLs:∀ (l:List TypeDesc) (x y:List Value),leavesV l x = true→leavesV l y = true→((List.range l.length).all fun j=>eqV (x.getD j undef) (y.getD j undef)) = eqLs x y
 | [],[],[],_,_=>rfl
 | [],_::_,_,h,_=>by cases h
 | [],[],_::_,_,h=>by cases h
 | _::_,[],_,h,_=>by cases h
 | _::_,_::_,[],_,h=>by cases h
 | d::l,a::x,b::y,hx,hy=>by
  simp only [leavesV,Bool.and_eq_true] at hx hy
  have ih:=eqR_eqLs l x y hx.2 hy.2
  rw [List.length_cons,List.range_succ_eq_map,List.all_cons,List.all_map]
  simp only [Function.comp_def,List.getD_cons_zero,List.getD_cons_succ,eqLs]
  rw [ih,eqV_leaf hx.1 hy.1]
theorem extract_all (a:Array Value) {n:Nat} (h:a.size = n):a.extract 0 (0+n) = a:=by subst h; simp
theorem agg_row {kt:TypeId} {d:TypeDesc} (hu:P.underlying kt = some d) (hd:d.isRow = true) {l:List TypeDesc} (hs:szT P kt = some l.length) {a:Array Value} (ha:leavesV l a.toList = true) (w:World):(part kt a 0).run P w = .ok (.agg a) w:=by
 have h1:=(leavesV_at l a.toList ha).1
 rw [part_agg hu hd hs a 0 w,extract_all a (by rw [← h1]; simp)]
theorem equal_agg {kt:TypeId} {d:TypeDesc} (hu:P.underlying kt = some d) (hd:d.isRow = true) {l:List TypeDesc} (hf:flatT P 100 kt = some l) (hs:szT P kt = some l.length) {a b:Array Value} (ha:leavesV l a.toList = true) (hb:leavesV l b.toList = true) (w:World) :
  (Op.equal kt (.agg a) (.agg b)).run P w = .ok (keyEq (.agg a) (.agg b)) w:=by
 obtain ⟨x,y,h1,h2,h3⟩:=eq_flat 100 kt l 10000 (by omega) hf hs a b 0 w (leaves_of ha) (leaves_of hb)
 rw [agg_row hu hd hs ha] at h1
 rw [agg_row hu hd hs hb] at h2
 cases h1; cases h2
 have:eqR a b 0 l.length = keyEq (.agg a) (.agg b):=by
  show _ = eqLs a.toList b.toList
  rw [← eqR_eqLs l _ _ ha hb]
  unfold eqR
  simp [Array.getD_eq_getD_getElem?,List.getD_eq_getElem?_getD]
 rw [← this]; exact h3
theorem check_agg {kt:TypeId} {d:TypeDesc} (hu:P.underlying kt = some d) (hd:d.isRow = true) {l:List TypeDesc} (hf:flatT P 100 kt = some l) (hs:szT P kt = some l.length) {a:Array Value} (ha:leavesV l a.toList = true) (em:Bool) (w:World) :
  (Instr.checkKey em 10000 kt (.agg a)).run P w = .ok () w:=by
 obtain ⟨x,h1,h2⟩:=check_flat em 100 kt l 10000 (by omega) hf hs a 0 w (leaves_of ha)
 rw [agg_row hu hd hs ha] at h1
 cases h1; exact h2
theorem findAsking_ok {kt:TypeId} {d:TypeDesc} (hu:P.underlying kt = some d) (hd:d.isRow = true) {l:List TypeDesc} (hf:flatT P 100 kt = some l) (hs:szT P kt = some l.length) {a:Array Value} (ha:leavesV l a.toList = true) (w:World) :
 ∀(arr:List MapEntry) (es:List (Value×SV)) (i:Nat),arr.length = es.length →
  (∀ (j:Nat) (x:Value×SV),es[j]? = some x→∃ e:MapEntry,arr[j]? = some e∧e.key = x.1)→(∀ x ∈ es,aggFits l x.1 = true) →
  (Instr.findAsking kt (.agg a) arr i).run P w = .ok ((findS (.agg a) es i).map fun p=>(p.1,(arr.getD (p.1 - i) default).val)) w
 | [],[],i,_,_,_=>by simp [Instr.findAsking,findS]
 | [],_::_,_,h,_,_=>by simp at h
 | _::_,[],_,h,_,_=>by simp at h
 | e::arr,x::es,i,hl,hx,hal=>by
  obtain ⟨e',he',hkey⟩:=hx 0 x rfl
  simp only [List.getElem?_cons_zero,Option.some.injEq] at he'
  subst he'
  have hfit:=hal x (by simp)
  have heq:(Op.equal kt (.agg a) e.key).run P w = .ok (keyEq (.agg a) x.1) w:=by
   rw [hkey]
   cases hx1:x.1 <;> rw [hx1] at hfit <;> simp only [aggFits,Bool.false_eq_true] at hfit
   exact equal_agg hu hd hf hs ha hfit w
  have ih:=findAsking_ok hu hd hf hs ha w arr es (i+1) (by simpa using hl) (fun j y hj=>hx (j+1) y (by simpa using hj)) (fun y hy=>hal y (by simp [hy]))
  simp only [Instr.findAsking,Sem.run_bind,heq,Result.andThen_ok,findS]
  cases hq:keyEq (.agg a) x.1 with
  | true=>simp
  | false =>
   simp only [Bool.false_eq_true,if_false,cond_false,ih]
   cases hf':findS (.agg a) es (i+1) with
   | none=>rfl
   | some p =>
    have hge:=(findS_some es (i+1) p hf').1
    simp only [Option.map_some]
    rw [show p.1 - i = (p.1 - (i+1))+1 from by omega]
    simp
theorem den_plain {X:Cx} {hp:Hp} {ids:Ids} {w:World}:∀ (cs:List SV) (vs:List Value) (arr:Array Value),plainA cs = some vs→cs.length = arr.size→(∀ i x,cs[i]? = some x→DenX X hp ids w x (arr.getD i undef))→arr = vs.toArray:=by
 have gen:∀ (cs:List SV) (vs:List Value) (l:List Value),plainA cs = some vs→cs.length = l.length→(∀ i x,cs[i]? = some x→DenX X hp ids w x (l.getD i undef))→l = vs:=by
  intro cs
  induction cs with
  | nil=>intro vs l h hl _; cases h; cases l with
   | nil=>rfl
   | cons=>simp at hl
  | cons c cs ih =>
   intro vs l h hl hx
   cases l with
   | nil=>simp at hl
   | cons v l =>
    cases c <;> simp only [plainA] at h
    case v x =>
     cases hp':plainA cs with
     | none=>rw [hp'] at h; cases h
     | some r =>
      rw [hp'] at h; cases h
      have h0:=den_v (hx 0 _ rfl)
      simp at h0
      rw [ih r l hp' (by simpa using hl) (fun i x hi=>by have:=hx (i+1) x (by simpa using hi); simpa using this),h0]
    all_goals cases h
 intro cs vs arr h hl hx
 have:=gen cs vs arr.toList h (by simpa using hl) (fun i x hi=>by have:=hx i x hi; simpa [Array.getD_eq_getD_getElem?,List.getD_eq_getElem?_getD] using this)
 rw [← this]
theorem mapA_some {t kt e:TypeId} {l:List TypeDesc} (h:mapA P t = some (kt,l,e)):P.underlying t = some (.map kt e)∧∃ d,P.underlying kt = some d∧d.isRow = true∧flatT P 100 kt = some l∧szT P kt = some l.length∧((∃ fs,d = .struct fs)∨∃ n e',d = .array n e'):=by
 unfold mapA at h
 split at h
 ·rename_i k e' hu
  split at h
  ·rename_i fs hk
   split at h
   ·rename_i l' hl
    split at h
    ·rename_i hs; cases h; exact ⟨hu,_,hk,rfl,hl,hs,.inl ⟨_,rfl⟩⟩
    ·cases h
   ·cases h
  ·rename_i n e2 hk
   split at h
   ·rename_i l' hl
    split at h
    ·rename_i hs; cases h; exact ⟨hu,_,hk,rfl,hl,hs,.inr ⟨_,_,rfl⟩⟩
    ·cases h
   ·cases h
  ·cases h
 ·cases h
theorem find_runA {kt:TypeId} {d:TypeDesc} (hu:P.underlying kt = some d) (hd:d.isRow = true) (hsa:(∃ fs,d = .struct fs)∨∃ n e',d = .array n e') {l:List TypeDesc} (hf:flatT P 100 kt = some l) (hs:szT P kt = some l.length) {a:Array Value} (ha:leavesV l a.toList = true) (w:World)
  {arr:Array MapEntry} {es:List (Value×SV)} (hsz:arr.size = es.length) (hx:∀ i x,es[i]? = some x→(arr.getD i default).key = x.1) (hal:es.all (fun p=>aggFits l p.1) = true) :
  (Instr.findKey kt (.agg a) arr.toList).run P w = .ok ((findS (.agg a) es 0).map fun p=>(p.1,(arr.getD p.1 default).val)) w:=by
 have hA:=findAsking_ok hu hd hf hs ha w arr.toList es 0 (by simpa using hsz) (fun j x hj=>by
   have hlt:j < arr.size:=by rw [hsz]; exact (List.getElem?_eq_some_iff.1 hj).1
   refine ⟨arr[j],by simp,?_⟩
   have:=hx j x hj
   rwa [Array.getD_eq_getD_getElem?,Array.getElem?_eq_getElem hlt] at this) (List.all_eq_true.1 hal)
 unfold Instr.findKey
 rw [Sem.run_bind,run_underlying hu]
 simp only [Result.andThen_ok]
 cases hl:arr.toList with
 | nil =>
  rw [hl] at hA
  have:es = []:=by cases es with
   | nil=>rfl
   | cons=>have:=congrArg List.length hl; simp at this; simp [this] at hsz
  subst this
  simp [Instr.findNow,findS]
 | cons e r =>
  have hn:Instr.findNow d (.agg a) (e::r) 0 = none:=by
   rcases hsa with ⟨fs,rfl⟩ | ⟨n,e',rfl⟩ <;> simp [Instr.findNow,Instr.sameNow]
  rw [hn]
  rw [hl] at hA
  simp only [hA,Nat.sub_zero]
  rw [← hl]
  simp [Array.getD_eq_getD_getElem?,List.getD_eq_getElem?_getD]
variable {X:Cx} {hp:Hp} {nx:Nat} {ids:Ids} {w:World}
theorem lookup_core (h:HeapX X hp nx ids w) {t kt e':TypeId} {ok:Bool} {k:Nm} {b:Nat} {es:List (Value×SV)} {y z:Value} (hu:X.P.underlying t = some (.map kt e')) (hz:zeroVal X.P e' = some z) (hk:getH hp k = .map es) (hid:ids k = some (b,0))
  {arr:Array MapEntry} {clock:Nat} (hw:w.heap[b]? = some (.map arr clock)) (hsz:arr.size = es.length) (hx:∀ i x,es[i]? = some x→(arr.getD i default).key = x.1∧DenX X hp ids w x.2 (arr.getD i default).val)
  (hck:∀ em,(Instr.checkKey em 10000 kt y).run X.P w = .ok () w) (hfr:(Instr.findKey kt y arr.toList).run X.P w = .ok ((findS y es 0).map fun p=>(p.1,(arr.getD p.1 default).val)) w) :
  Sound X hp ids w ((Instr.lookup t (.map (some b)) y ok).run X.P w) ⟨bif ok then .tup [lookV z y es,.v (.bool (lookB y es))] else lookV z y es,[],nx,[k.key]⟩:=by
 have hzr:(zeroValue e').run X.P w = .ok z w:=by
  unfold zeroVal at hz
  cases hi:X.P.info? e' with
  | none=>rw [hi] at hz; cases hz
  | some i=>rw [hi] at hz; simp only [Option.bind_some] at hz; simp [zeroValue,typeInfo,hi,hz]
 have hrun:(Instr.lookup t (.map (some b)) y ok).run X.P w = .ok (if ok then .tuple #[match findS y es 0 with | some p=>(arr.getD p.1 default).val | none=>z,.bool (lookB y es)] else match findS y es 0 with | some p=>(arr.getD p.1 default).val | none=>z) w:=by
  simp only [Instr.lookup,Sem.run_bind,run_underlying hu,Result.andThen_ok,run_getObj hw (by intros; simp),Sem.run_pure,hck,hfr,lookB]
  cases hfs:findS y es 0 with
  | none=>simp [hzr]
  | some p=>simp
 have hval:DenX X hp ids w (lookV z y es) (match findS y es 0 with | some p=>(arr.getD p.1 default).val | none=>z):=by
  unfold lookV
  cases hfs:findS y es 0 with
  | none=>exact .v
  | some p =>
   obtain ⟨_,q',h2,h3,_⟩:=findS_some es 0 p hfs
   rw [Nat.sub_zero] at h2
   have:=(hx p.1 q' h2).2
   rw [h3] at this; exact this
 refine sound_pure h hrun ?_
 cases ok with
 | false=>exact hval
 | true =>
  refine .tup _ rfl fun i x hi=>?_
  match i,hi with
  | 0,hi=>simp at hi; subst hi; exact hval
  | 1,hi=>simp at hi; subst hi; exact .v
  | i+2,hi=>simp at hi
theorem sound_lookup (h:HeapX X hp nx ids w) {t:TypeId} {ok:Bool} {s q:SV} {x y:Value} (hd:DenX X hp ids w s x) (hq:DenX X hp ids w q y) {side:Prop} {e:Eff} (he:lookupS X.P t s q ok hp nx = .ok side e) (hs:side) :
  Sound X hp ids w ((Instr.lookup t x y ok).run X.P w) e:=by
 unfold lookupS at he
 split at he
 ·rename_i k kv d e' hmt
  obtain ⟨kt,hu,huk⟩:=mapT_some hmt
  split at he
  ·rename_i z hz
   obtain ⟨es,hk,hf⟩:=mapC_ok he
   cases hf
   obtain ⟨hko,hal⟩:=hs
   obtain rfl:=den_v hq
   obtain ⟨b,hid,rfl⟩:=den_mp hd (by rw [hk]; rfl)
   obtain ⟨arr,clock,hw,hsz,hx,hbo⟩:=map_at h hk hid
   exact lookup_core h hu hz hk hid hw hsz hx (fun em=>run_checkKey huk hko em 9999 w) (find_run h hk hid huk hko hal hw hsz hx)
  ·cases he
 ·rename_i k cs d' hmt
  split at he
  ·rename_i vs kt l e' hvs hma
   obtain ⟨hu,d,huk,hrow,hfl,hst,hsa⟩:=mapA_some hma
   split at he
   ·rename_i z hz
    obtain ⟨es,hk,hf⟩:=mapC_ok he
    cases hf
    obtain ⟨hlv,hal⟩:=hs
    obtain ⟨a,rfl,hl2,hx2⟩:=den_agg hq
    obtain rfl:=den_plain cs vs a hvs hl2 hx2
    obtain ⟨b,hid,rfl⟩:=den_mp hd (by rw [hk]; rfl)
    obtain ⟨arr,clock,hw,hsz,hx,hbo⟩:=map_at h hk hid
    exact lookup_core h hu hz hk hid hw hsz hx (fun em=>check_agg huk hrow hfl hst (by simpa using hlv) em w) (find_runA huk hrow hsa hfl hst (by simpa using hlv) w hsz (fun i x hi=>(hx i x hi).1) hal)
   ·cases he
  ·cases he
 ·cases he
theorem born_push {arr:Array MapEntry} {clock:Nat} (h:Born arr clock) (e:MapEntry) (he:e.born = clock):Born (arr.push e) (clock+1):=by
 refine ⟨by rw [Array.size_push,h.1],fun i hi=>?_⟩
 rw [Array.size_push] at hi
 rw [Array.getD_eq_getD_getElem?,Array.getElem?_push]
 by_cases e2:i = arr.size
 ·rw [if_pos e2]; show e.born = i; rw [he,h.1,e2]
 ·rw [if_neg e2,← Array.getD_eq_getD_getElem?]; exact h.2 i (by omega)
theorem born_modify {arr:Array MapEntry} {clock:Nat} (h:Born arr clock) (k:Nat) (f:MapEntry→MapEntry) (hf:∀ e,(f e).born = e.born):Born (arr.modify k f) clock:=by
 refine ⟨by rw [Array.size_modify]; exact h.1,fun i hi=>?_⟩
 rw [Array.size_modify] at hi
 have:=h.2 i hi
 rw [Array.getD_eq_getD_getElem?,Array.getElem?_eq_getElem hi] at this
 rw [Array.getD_eq_getD_getElem?,Array.getElem?_modify,Array.getElem?_eq_getElem hi]
 split
 ·show (f arr[i]).born = i; rw [hf]; exact this
 ·exact this
theorem mapUpd_core (h:HeapX X hp nx ids w) {t kt e':TypeId} {k:Nm} {b:Nat} {es:List (Value×SV)} {y z:Value} {v:SV} (hu:X.P.underlying t = some (.map kt e')) (hv:DenX X hp ids w v z) (hk:getH hp k = .map es) (hid:ids k = some (b,0))
  {arr:Array MapEntry} {clock:Nat} (hw:w.heap[b]? = some (.map arr clock)) (hsz:arr.size = es.length) (hx:∀ i x,es[i]? = some x→(arr.getD i default).key = x.1∧DenX X hp ids w x.2 (arr.getD i default).val) (hbo:Born arr clock)
  (hck:∀ em,(Instr.checkKey em 10000 kt y).run X.P w = .ok () w) (hfr:(Instr.findKey kt y arr.toList).run X.P w = .ok ((findS y es 0).map fun p=>(p.1,(arr.getD p.1 default).val)) w) :
  SoundU X hp ids w ((Instr.mapUpdate t (.map (some b)) y z).run X.P w) ⟨.any,[updE k (.map (updL y v es)) hp],nx,[k.key]⟩:=by
 cases hfs:findS y es 0 with
 | none =>
  rw [hfs] at hfr
  have hrun:(Instr.mapUpdate t (.map (some b)) y z).run X.P w = .ok () { w with heap:=w.heap.setIfInBounds b (.map (arr.push { key:=y,val:=z,born:=clock }) (clock+1)) }:=by
   simp only [Instr.mapUpdate,Sem.run_bind,run_underlying hu,Result.andThen_ok,run_getObj hw (by intros; simp),hck,hfr,Option.map_none]
   exact run_setObj hw (by intros; simp)
  obtain ⟨g1,g2⟩:=heap_map_turn h hk hid (es':=es++[(y,v)]) hw (arr':=arr.push { key:=y,val:=z,born:=clock }) (clock':=clock+1) (by simp [hsz]) (fun i x hi=>by
   rw [List.getElem?_append] at hi
   rw [Array.getD_eq_getD_getElem?,Array.getElem?_push]
   split at hi
   ·rename_i hlt
    have:=hx i x hi
    rw [if_neg (by omega)]
    rwa [Array.getD_eq_getD_getElem?] at this
   ·rename_i hlt
    have:i = es.length:=by
     have:=(List.getElem?_eq_some_iff.1 hi).1
     simp at this; omega
    subst this
    simp at hi; subst hi
    rw [if_pos hsz.symm]
    exact ⟨rfl,hv⟩) (born_push hbo _ rfl)
  exact ⟨_,_,hrun,by simpa [updL,hfs] using g1,by simpa [updL,hfs] using g2⟩
 | some p =>
  rw [hfs] at hfr
  obtain ⟨_,q',hq1,hq2,hq3⟩:=findS_some es 0 p hfs
  rw [Nat.sub_zero] at hq1
  have hlt:p.1 < arr.size:=by rw [hsz]; exact (List.getElem?_eq_some_iff.1 hq1).1
  have hkk:(arr.getD p.1 default).key = q'.1:=(hx p.1 q' hq1).1
  have hrun:(Instr.mapUpdate t (.map (some b)) y z).run X.P w = .ok () { w with heap:=w.heap.setIfInBounds b (.map (arr.modify p.1 fun e=>{ e with key:=y,val:=z }) clock) }:=by
   simp only [Instr.mapUpdate,Sem.run_bind,run_underlying hu,Result.andThen_ok,run_getObj hw (by intros; simp),hck,hfr,Option.map_some]
   have hkey:((arr[p.1]?).map (·.key)).getD y = q'.1:=by
    rw [← hkk,Array.getD_eq_getD_getElem?,Array.getElem?_eq_getElem hlt]; rfl
   rw [hkey,keyThatStays_same hq3,Result.andThen_ok]
   exact run_setObj hw (by intros; simp)
  obtain ⟨g1,g2⟩:=heap_map_turn h hk hid (es':=es.modify p.1 fun _=>(y,v)) hw (arr':=arr.modify p.1 fun e=>{ e with key:=y,val:=z }) (clock':=clock) (by simp [hsz]) (fun i x hi=>by
   rw [List.getElem?_modify] at hi
   rw [Array.getD_eq_getD_getElem?,Array.getElem?_modify]
   by_cases hip:p.1 = i
   ·subst hip
    rw [hq1] at hi
    simp at hi; subst hi
    simp [Array.getElem?_eq_getElem hlt]
    exact hv
   ·simp only [if_neg hip] at hi ⊢
    have hi':es[i]? = some x:=by
     cases he:es[i]? with
     | none=>rw [he] at hi; cases hi
     | some u=>rw [he] at hi; simpa using hi
    have:=hx i x hi'
    rwa [Array.getD_eq_getD_getElem?] at this) (born_modify hbo _ _ fun _=>rfl)
  exact ⟨_,_,hrun,by simpa [updL,hfs] using g1,by simpa [updL,hfs] using g2⟩
theorem sound_mapUpd (h:HeapX X hp nx ids w) {t:TypeId} {s q v:SV} {x y z:Value} (hd:DenX X hp ids w s x) (hq:DenX X hp ids w q y) (hv:DenX X hp ids w v z) {side:Prop} {e:Eff} (he:mapUpdS X.P t s q v hp nx = .ok side e) (hs:side) :
  SoundU X hp ids w ((Instr.mapUpdate t x y z).run X.P w) e:=by
 unfold mapUpdS at he
 split at he
 ·rename_i k kv d e' hmt
  obtain ⟨kt,hu,huk⟩:=mapT_some hmt
  obtain ⟨es,hk,hf⟩:=mapC_ok he
  cases hf
  obtain ⟨hko,hal⟩:=hs
  obtain rfl:=den_v hq
  obtain ⟨b,hid,rfl⟩:=den_mp hd (by rw [hk]; rfl)
  obtain ⟨arr,clock,hw,hsz,hx,hbo⟩:=map_at h hk hid
  exact mapUpd_core h hu hv hk hid hw hsz hx hbo (fun em=>run_checkKey huk hko em 9999 w) (find_run h hk hid huk hko hal hw hsz hx)
 ·rename_i k cs d' hmt
  split at he
  ·rename_i vs kt l e' hvs hma
   obtain ⟨hu,d,huk,hrow,hfl,hst,hsa⟩:=mapA_some hma
   obtain ⟨es,hk,hf⟩:=mapC_ok he
   cases hf
   obtain ⟨hlv,hal⟩:=hs
   obtain ⟨a,rfl,hl2,hx2⟩:=den_agg hq
   obtain rfl:=den_plain cs vs a hvs hl2 hx2
   obtain ⟨b,hid,rfl⟩:=den_mp hd (by rw [hk]; rfl)
   obtain ⟨arr,clock,hw,hsz,hx,hbo⟩:=map_at h hk hid
   exact mapUpd_core h hu hv hk hid hw hsz hx hbo (fun em=>check_agg huk hrow hfl hst (by simpa using hlv) em w) (find_runA huk hrow hsa hfl hst (by simpa using hlv) w hsz (fun i x hi=>(hx i x hi).1) hal)
  ·cases he
 ·cases he
theorem keyS_ok (h:HeapX X hp nx ids w) {t e':TypeId} {key:SV} {kv y:Value} {S:List (Value×SV)→Prop} (hk:keyS X.P t key = some (kv,S,e')) (hq:DenX X hp ids w key y) :
  y = kv∧∃ kt,X.P.underlying t = some (.map kt e')∧∀ {k:Nm} {b:Nat} {es:List (Value×SV)} {arr:Array MapEntry} {clock:Nat},S es→getH hp k = .map es→ids k = some (b,0)→w.heap[b]? = some (.map arr clock)→arr.size = es.length→(∀ i x,es[i]? = some x→(arr.getD i default).key = x.1∧DenX X hp ids w x.2 (arr.getD i default).val)→(∀ em,(Instr.checkKey em 10000 kt kv).run X.P w = .ok () w)∧(Instr.findKey kt kv arr.toList).run X.P w = .ok ((findS kv es 0).map fun p=>(p.1,(arr.getD p.1 default).val)) w:=by
 unfold keyS at hk
 split at hk
 ·rename_i kv' d e'' hmt
  cases hk
  obtain ⟨kt,hu,huk⟩:=mapT_some hmt
  refine ⟨den_v hq,kt,hu,fun hS hk hid hw hsz hx=>⟨fun em=>run_checkKey huk hS.1 em 9999 w,find_run h hk hid huk hS.1 hS.2 hw hsz hx⟩⟩
 ·rename_i cs d' hmt
  split at hk
  ·rename_i vs kt l e'' hvs hma
   cases hk
   obtain ⟨hu,d,huk,hrow,hfl,hst,hsa⟩:=mapA_some hma
   obtain ⟨a,rfl,hl2,hx2⟩:=den_agg hq
   obtain rfl:=den_plain cs vs a hvs hl2 hx2
   exact ⟨rfl,_,hu,fun hS hk hid hw hsz hx=>⟨fun em=>check_agg huk hrow hfl hst (by simpa using hS.1) em w,find_runA huk hrow hsa hfl hst (by simpa using hS.1) w hsz (fun i x hi=>(hx i x hi).1) hS.2⟩⟩
  ·cases hk
 ·cases hk
theorem sound_mapEntry (h:HeapX X hp nx ids w) {t:TypeId} {s q:SV} {x y:Value} (hd:DenX X hp ids w s x) (hq:DenX X hp ids w q y) {side:Prop} {e:Eff} (he:mapEntryS X.P t s q hp nx = .ok side e) (hs:side) :
  Sound X hp ids w ((Instr.mapEntry t x y).run X.P w) e:=by
 unfold mapEntryS at he
 split at he
 ·rename_i k kv S e' hke
  split at he
  ·rename_i z hz
   obtain ⟨es,hk,hf⟩:=mapC_ok he
   cases hf
   obtain ⟨rfl,kt,hu,hall⟩:=keyS_ok h hke hq
   obtain ⟨b,hid,rfl⟩:=den_mp hd (by rw [hk]; rfl)
   obtain ⟨arr,clock,hw,hsz,hx,hbo⟩:=map_at h hk hid
   obtain ⟨hck,hfr⟩:=hall hs hk hid hw hsz hx
   have hzr:(zeroValue e').run X.P w = .ok z w:=by
    unfold zeroVal at hz
    cases hi:X.P.info? e' with
    | none=>rw [hi] at hz; cases hz
    | some i=>rw [hi] at hz; simp only [Option.bind_some] at hz; simp [zeroValue,typeInfo,hi,hz]
   cases hfs:findS y es 0 with
   | none =>
    rw [hfs] at hfr
    have hrun:(Instr.mapEntry t (.map (some b)) y).run X.P w = .ok (.tuple #[z,goInt clock]) { w with heap:=w.heap.setIfInBounds b (.map (arr.push { key:=y,val:=z,born:=clock }) (clock+1)) }:=by
     simp only [Instr.mapEntry,Sem.run_bind,run_underlying hu,Result.andThen_ok,run_getObj hw (by intros; simp),hck,hfr,Option.map_none,hzr]
     rw [run_setObj hw (by intros; simp)]
     rfl
    have hlv:lookV z y es = .v z:=by unfold lookV; rw [hfs]
    obtain ⟨g1,g2⟩:=heap_map_turn h hk hid (es':=es++[(y,.v z)]) hw (arr':=arr.push { key:=y,val:=z,born:=clock }) (clock':=clock+1) (by simp [hsz]) (fun i x hi=>by
     rw [List.getElem?_append] at hi
     rw [Array.getD_eq_getD_getElem?,Array.getElem?_push]
     split at hi
     ·rename_i hlt
      have:=hx i x hi
      rw [if_neg (by omega)]
      rwa [Array.getD_eq_getD_getElem?] at this
     ·rename_i hlt
      have:i = es.length:=by
       have:=(List.getElem?_eq_some_iff.1 hi).1
       simp at this; omega
      subst this
      simp at hi; subst hi
      rw [if_pos hsz.symm]
      exact ⟨rfl,.v⟩) (born_push hbo _ rfl)
    rw [hlv]
    have hu2:updL y (.v z) es = es++[(y,.v z)]:=by unfold updL; rw [hfs]
    have hp2:posV y es = es.length:=by unfold posV; rw [hfs]
    rw [hu2,hp2]
    refine ⟨_,_,ids,hrun,g1,g2,.tup _ rfl fun i x hi=>?_⟩
    match i,hi with
    | 0,hi=>simp at hi; subst hi; exact .v
    | 1,hi =>
     simp at hi; subst hi
     have:goInt clock = Value.int .i64 (es.length:Nat):=by rw [goInt,hbo.1,hsz]
     show Den _ _ _ _ _ _ (goInt clock)
     rw [this]; exact .v
    | i+2,hi=>simp at hi
   | some p =>
    rw [hfs] at hfr
    obtain ⟨_,q',hq1,hq2,hq3⟩:=findS_some es 0 p hfs
    rw [Nat.sub_zero] at hq1
    have hlt:p.1 < arr.size:=by rw [hsz]; exact (List.getElem?_eq_some_iff.1 hq1).1
    have hkk:(arr.getD p.1 default).key = q'.1:=(hx p.1 q' hq1).1
    have hvv:DenX X hp ids w p.2 (arr.getD p.1 default).val:=by have:=(hx p.1 q' hq1).2; rw [hq2] at this; exact this
    have hbn:(arr.getD p.1 default).born = p.1:=hbo.2 _ hlt
    have hrun:(Instr.mapEntry t (.map (some b)) y).run X.P w = .ok (.tuple #[(arr.getD p.1 default).val,goInt (p.1:Nat)]) { w with heap:=w.heap.setIfInBounds b (.map (arr.modify p.1 fun e=>{ e with key:=y }) clock) }:=by
     simp only [Instr.mapEntry,Sem.run_bind,run_underlying hu,Result.andThen_ok,run_getObj hw (by intros; simp),hck,hfr,Option.map_some]
     have hkey:((arr[p.1]?).map (·.key)).getD y = q'.1:=by
      rw [← hkk,Array.getD_eq_getD_getElem?,Array.getElem?_eq_getElem hlt]; rfl
     have hbo':((arr[p.1]?).map fun x=>(x.born:Int)).getD 0 = (p.1:Int):=by
      rw [Array.getElem?_eq_getElem hlt]
      rw [Array.getD_eq_getD_getElem?,Array.getElem?_eq_getElem hlt] at hbn
      exact congrArg Int.ofNat hbn
     rw [hkey,keyThatStays_same hq3,Result.andThen_ok,run_setObj hw (by intros; simp),hbo']
     rfl
    obtain ⟨g1,g2⟩:=heap_map_turn h hk hid (es':=es.modify p.1 fun _=>(y,p.2)) hw (arr':=arr.modify p.1 fun e=>{ e with key:=y }) (clock':=clock) (by simp [hsz]) (fun i x hi=>by
     rw [List.getElem?_modify] at hi
     rw [Array.getD_eq_getD_getElem?,Array.getElem?_modify]
     by_cases hip:p.1 = i
     ·subst hip
      rw [hq1] at hi
      simp at hi; subst hi
      rw [Array.getD_eq_getD_getElem?,Array.getElem?_eq_getElem hlt] at hvv
      simp [Array.getElem?_eq_getElem hlt]
      exact hvv
     ·simp only [if_neg hip] at hi ⊢
      have hi':es[i]? = some x:=by
       cases he:es[i]? with
       | none=>rw [he] at hi; cases hi
       | some u=>rw [he] at hi; simpa using hi
      have:=hx i x hi'
      rwa [Array.getD_eq_getD_getElem?] at this) (born_modify hbo _ _ fun _=>rfl)
    have hlv:lookV z y es = p.2:=by unfold lookV; rw [hfs]
    have hu2:updL y p.2 es = es.modify p.1 fun _=>(y,p.2):=by unfold updL; rw [hfs]
    have hp2:posV y es = p.1:=by unfold posV; rw [hfs]
    rw [hlv,hu2,hp2]
    refine ⟨_,_,ids,hrun,g1,g2,.tup _ rfl fun i x hi=>?_⟩
    match i,hi with
    | 0,hi=>simp at hi; subst hi; exact Den.mono g2 hvv
    | 1,hi=>simp at hi; subst hi; exact .v
    | i+2,hi=>simp at hi
  ·cases he
 ·cases he
theorem sound_entryStore (h:HeapX X hp nx ids w) {t:TypeId} {s q v:SV} {x y z:Value} (hd:DenX X hp ids w s x) (hq:DenX X hp ids w q y) (hv:DenX X hp ids w v z) {side:Prop} {e:Eff} (he:entryStoreS s q v hp nx = .ok side e) (hs:side) :
  SoundU X hp ids w ((Instr.entryStore t x y z).run X.P w) e:=by
 unfold entryStoreS at he
 split at he
 ·rename_i k i
  obtain ⟨es,hk,hf⟩:=mapC_ok he
  cases hf
  obtain rfl:=den_v hq
  obtain ⟨b,hid,rfl⟩:=den_mp hd (by rw [hk]; rfl)
  obtain ⟨arr,clock,hw,hsz,hx,hbo⟩:=map_at h hk hid
  obtain ⟨h0,h1⟩:=hs
  have hlt:i.toNat < arr.size:=by omega
  have hfi:arr.findIdx? (fun e=>(e.born:Int) == i) = some i.toNat:=by
   rw [Array.findIdx?_eq_some_iff_getElem]
   refine ⟨hlt,?_,fun j hj=>?_⟩
   ·have:=hbo.2 _ hlt
    rw [Array.getD_eq_getD_getElem?,Array.getElem?_eq_getElem hlt] at this
    simp only [Option.getD_some] at this
    rw [this]; simp; omega
   ·have hj2:j < arr.size:=by omega
    have:=hbo.2 _ hj2
    rw [Array.getD_eq_getD_getElem?,Array.getElem?_eq_getElem hj2] at this
    simp only [Option.getD_some] at this
    rw [this]; simp; omega
  have hrun:(Instr.entryStore t (.map (some b)) (.int .i64 i) z).run X.P w = .ok () { w with heap:=w.heap.setIfInBounds b (.map (arr.modify i.toNat fun e=>{ e with val:=z }) clock) }:=by
   simp only [Instr.entryStore,Sem.run_bind,run_getObj hw (by intros; simp),Result.andThen_ok,asInt,asIntOf,Sem.run_pure,hfi]
   exact run_setObj hw (by intros; simp)
  obtain ⟨g1,g2⟩:=heap_map_turn h hk hid (es':=es.modify i.toNat fun p=>(p.1,v)) hw (arr':=arr.modify i.toNat fun e=>{ e with val:=z }) (clock':=clock) (by simp [hsz]) (fun j x hi=>by
   rw [List.getElem?_modify] at hi
   rw [Array.getD_eq_getD_getElem?,Array.getElem?_modify]
   by_cases hip:i.toNat = j
   ·subst hip
    cases he:es[i.toNat]? with
    | none=>rw [he] at hi; cases hi
    | some u =>
     rw [he] at hi
     simp at hi; subst hi
     have:=(hx _ u he).1
     rw [Array.getD_eq_getD_getElem?,Array.getElem?_eq_getElem hlt] at this
     simp [Array.getElem?_eq_getElem hlt]
     exact ⟨this,hv⟩
   ·simp only [if_neg hip] at hi ⊢
    have hi':es[j]? = some x:=by
     cases he:es[j]? with
     | none=>rw [he] at hi; cases hi
     | some u=>rw [he] at hi; simpa using hi
    have:=hx j x hi'
    rwa [Array.getD_eq_getD_getElem?] at this) (born_modify hbo _ _ fun _=>rfl)
  exact ⟨_,ids,hrun,g1,g2⟩
 ·cases he
def makeIfcS (P:Program) (t:TypeId) (x:SV) (nx:Nat):Res:=match P.underlying t with
 | some (.interface _)=>.bad
 | some _=>pureR (.ifc t x) nx
 | none=>.bad
theorem run_makeIfc {P:Program} {t:TypeId} {d:TypeDesc} (hu:P.underlying t = some d) (hn:∀ ms,d = .interface ms→False) (x:Value) (w:World):(Instr.makeInterface t x).run P w = .ok (.iface t x) w:=by
 cases d <;> simp [Instr.makeInterface,run_underlying hu] at hn ⊢
theorem sound_makeIfc (h:HeapX X hp nx ids w) {t:TypeId} {s:SV} {x:Value} (hd:DenX X hp ids w s x) {side:Prop} {e:Eff} (he:makeIfcS X.P t s nx = .ok side e):Sound X hp ids w ((Instr.makeInterface t x).run X.P w) e:=by
 unfold makeIfcS at he
 split at he
 ·cases he
 ·rename_i d hn hu
  cases he
  exact sound_pure h (run_makeIfc hu (fun ms e=>hn ms e) x w) (.ifc hd)
 ·cases he
def assertS (P:Program) (x:SV) (a:TypeId) (ok:Bool) (nx:Nat):Res:=match P.underlying a with
 | some (.interface _)=>.bad
 | some _=>match x with
  | .ifc t v=>bif t == a then pureR (bif ok then .tup [v,.v (.bool true)] else v) nx else bif ok then (match zeroVal P a with
   | some z=>pureR (.tup [.v z,.v (.bool false)]) nx
   | none=>.bad) else .bad
  | .v .nilIface=>bif ok then (match zeroVal P a with
   | some z=>pureR (.tup [.v z,.v (.bool false)]) nx
   | none=>.bad) else .bad
  | _=>.bad
 | none=>.bad
theorem den_pair {X:Cx} {a b:SV} {x y:Value} (h1:DenX X hp ids w a x) (h2:DenX X hp ids w b y):DenX X hp ids w (.tup [a,b]) (.tuple #[x,y]):=by
 refine .tup _ rfl fun i q hi=>?_
 match i,hi with
 | 0,hi=>simp at hi; subst hi; exact h1
 | 1,hi=>simp at hi; subst hi; exact h2
 | i+2,hi=>simp at hi
theorem run_assert_t {P:Program} {t a:TypeId} {d:TypeDesc} (hu:P.underlying a = some d) (hn:∀ ms,d = .interface ms→False) (ok:Bool) (x:Value) (w:World):(Instr.typeAssert (.iface a x) t a ok).run P w = .ok (bif ok then .tuple #[x,.bool true] else x) w:=by
 cases d <;> cases ok <;> simp [Instr.typeAssert,run_underlying hu] at hn ⊢
theorem run_assert_f {P:Program} {t a b:TypeId} {d:TypeDesc} (hu:P.underlying a = some d) (hn:∀ ms,d = .interface ms→False) (hb:¬ b = a) {z:Value} {w:World} (hz:(zeroValue a).run P w = .ok z w) (x:Value):(Instr.typeAssert (.iface b x) t a true).run P w = .ok (.tuple #[z,.bool false]) w:=by
 cases d <;> simp [Instr.typeAssert,run_underlying hu,hb,hz] at hn ⊢
theorem run_assert_n {P:Program} {t a:TypeId} {d:TypeDesc} (hu:P.underlying a = some d) (hn:∀ ms,d = .interface ms→False) {z:Value} {w:World} (hz:(zeroValue a).run P w = .ok z w):(Instr.typeAssert .nilIface t a true).run P w = .ok (.tuple #[z,.bool false]) w:=by
 cases d <;> simp [Instr.typeAssert,run_underlying hu,hz] at hn ⊢
theorem sound_assert (h:HeapX X hp nx ids w) {t a:TypeId} {ok:Bool} {s:SV} {x:Value} (hd:DenX X hp ids w s x) {side:Prop} {e:Eff} (he:assertS X.P s a ok nx = .ok side e):Sound X hp ids w ((Instr.typeAssert x t a ok).run X.P w) e:=by
 have hzr:∀ {z},zeroVal X.P a = some z→(zeroValue a).run X.P w = .ok z w:=fun {z} hz=>by
  unfold zeroVal at hz
  cases hi:X.P.info? a with
  | none=>rw [hi] at hz; cases hz
  | some i=>rw [hi] at hz; simp only [Option.bind_some] at hz; simp [zeroValue,typeInfo,hi,hz]
 unfold assertS at he
 split at he
 ·cases he
 ·rename_i d hn hu
  have hn':∀ ms,d = .interface ms→False:=fun ms e=>hn ms e
  split at he
  ·rename_i t' v
   obtain ⟨z,rfl,hz⟩:=den_ifc hd
   rw [Bool.cond_eq_ite] at he
   split at he
   ·rename_i htt
    obtain rfl:t' = a:=by simpa using htt
    cases he
    cases ok with
    | true=>exact sound_pure h (run_assert_t hu hn' true z w) (den_pair hz .v)
    | false=>exact sound_pure h (run_assert_t hu hn' false z w) hz
   ·rename_i htt
    have htt:¬ t' = a:=by simpa using htt
    cases ok with
    | false=>cases he
    | true =>
     simp only [cond_true] at he
     split at he
     ·rename_i z0 hz0
      cases he
      exact sound_pure h (run_assert_f hu hn' htt (hzr hz0) z) (den_pair .v .v)
     ·cases he
  ·obtain rfl:=den_v hd
   cases ok with
   | false=>cases he
   | true =>
    simp only [cond_true] at he
    split at he
    ·rename_i z0 hz0
     cases he
     exact sound_pure h (run_assert_n hu hn' (hzr hz0)) (den_pair .v .v)
    ·cases he
  ·cases he
 ·cases he
end Go.Sx
end

section
namespace Go.Sx
set_option linter.unusedVariables false
open Go.RowKit
variable {X:Cx} {hp:Hp} {nx:Nat} {ids:Ids} {w:World}
def slice0S (P:Program) (t:TypeId) (x:SV) (hi mx:SV) (nx:Nat) (hp:Hp):Res :=
 match sliceT P t,hi,mx with
 | some (e,_),.v (.int _ h),.v (.int _ m)=>match x with
  | .own k _ _=>liveS (getH hp k) (.ok (h = 0∧m = 0) ⟨.own nx 0 0,[(Nm.t nx,.row e [])],nx+1,[k.key]⟩)
  | .sl _ _=>.ok (h = 0∧m = 0) ⟨.own nx 0 0,[(Nm.t nx,.row e [])],nx+1,[]⟩
  | .v (.slice none 0 0)=>.ok (h = 0∧m = 0) ⟨.own nx 0 0,[(Nm.t nx,.row e [])],nx+1,[]⟩
  | _=>.bad
 | _,_,_=>.bad
theorem run_slice0 {P:Program} {t e:TypeId} {i:TypeInfo} (hu:P.underlying t = some (.slice e)) (hi:P.info? e = some i) (a:Option Addr) (len cap:Nat) (k k':IntKind) (w:World) :
 ∃a',(Instr.sliceAt t (.slice a len cap) none (some (.int k 0)) (some (.int k' 0))).run P w = .ok (.slice a' 0 0) w:=by
 refine ⟨a,?_⟩
 have h1:(Instr.sliceBounds true len cap none (some (.int k 0)) (some (.int k' 0))).run P w = .ok (0,0,0) w:=by
  simp [Instr.sliceBounds,Instr.sliceBound,asIntOf]
 simp [Instr.sliceAt,Instr.slice,run_underlying hu,h1,sizeOf,typeInfo,hi]
theorem den_slice {P:Program} {C:Nm→Chunk} {I:Nat→Prop} {y:Value} {k off n} (h:Den P C ids I w (.own k off n) y):∃ a n' cap,y = .slice a n' cap:=by
 cases h with
 | ownDead h=>exact ⟨_,_,_,rfl⟩
 | own a cap _ _=>exact ⟨_,_,_,rfl⟩
theorem sound_slice0 (h:HeapX X hp nx ids w) {t:TypeId} {s q r:SV} {x y z:Value} (hd:DenX X hp ids w s x) (hq:DenX X hp ids w q y) (hr:DenX X hp ids w r z) {side:Prop} {e:Eff} (he:slice0S X.P t s q r nx hp = .ok side e) (hs:side) :
  Sound X hp ids w ((Instr.sliceAt t x none (some y) (some z)).run X.P w) e:=by
 unfold slice0S at he
 split at he
 ·rename_i e' n' k1 hh k2 m hst
  obtain ⟨i,hu,hi,_⟩:=sliceT_some hst
  obtain rfl:=den_v hq
  obtain rfl:=den_v hr
  have fin:∀ a len cap rds,x = .slice a len cap→hh = 0∧m = 0→Sound X hp ids w ((Instr.sliceAt t x none (some (.int k1 hh)) (some (.int k2 m))).run X.P w) ⟨.own nx 0 0,[(Nm.t nx,.row e' [])],nx+1,rds⟩:=by
   rintro a len cap rds rfl ⟨rfl,rfl⟩
   obtain ⟨a',hrun⟩:=run_slice0 hu hi a len cap k1 k2 w
   obtain ⟨r1,r2⟩:=heap_reid h none
   obtain ⟨g1,g2⟩:=heap_absent r1 e' (upd_same _ _ _)
   refine ⟨_,_,_,hrun,g1,Ext_trans' r2 g2,.own a' 0 ?_ ⟨Nat.le_refl _,by unfold maxLen; omega,fun e2 cs2 hc2=>?_,.inl ⟨rfl,rfl⟩⟩⟩
   ·rw [List.singleton_append,getH_upd,upd_same]; rfl
   ·rw [List.singleton_append,getH_upd,upd_same] at hc2
    cases hc2; exact Nat.zero_le _
  split at he
  ·obtain ⟨_,hf⟩:=liveS_ok he
   cases hf
   obtain ⟨a,n1,cap,rfl⟩:=den_slice hd
   exact fin _ _ _ _ rfl hs
  ·cases he
   obtain ⟨a,cap,rfl,_⟩:=den_sl hd
   exact fin _ _ _ _ rfl hs
  ·cases he
   obtain rfl:=den_v hd
   exact fin _ _ _ _ rfl hs
  ·cases he
 ·cases he
def eqS:List SV→List SV→Option Bool
 | [],[]=>some true
 | .v a::xs,.v b::ys=>match a,b with
  | .int k x,.int k' y=>bif k == k' then (eqS xs ys).map fun r=>(x == y) && r else none
  | .bool x,.bool y=>(eqS xs ys).map fun r=>(x == y) && r
  | .string x,.string y=>(eqS xs ys).map fun r=>decide (x = y) && r
  | _,_=>none
 | _,_=>none
def leafS:List TypeDesc→List SV→Bool
 | [],[]=>true
 | d::ds,.v x::xs=>leafV d x && leafS ds xs
 | _,_=>false
theorem eqS_ok {P:Program} {C:Nm→Chunk} {I:Nat→Prop}:∀ (xs ys:List SV) (r:Bool) (A B:Array Value) (off:Nat),eqS xs ys = some r→(∀ i x,xs[i]? = some x→Den P C ids I w x (A.getD (off+i) undef))→(∀ i x,ys[i]? = some x→Den P C ids I w x (B.getD (off+i) undef)) →
  eqR A B off xs.length = r
 | [],[],r,A,B,off,h,_,_=>by cases h; rfl
 | [],_::_,r,A,B,off,h,_,_=>by cases h
 | .any::_,_,r,A,B,off,h,_,_=>by simp [eqS] at h
 | .agg _::_,_,r,A,B,off,h,_,_=>by simp [eqS] at h
 | .tup _::_,_,r,A,B,off,h,_,_=>by simp [eqS] at h
 | .sl _ _::_,_,r,A,B,off,h,_,_=>by simp [eqS] at h
 | .own _ _ _::_,_,r,A,B,off,h,_,_=>by simp [eqS] at h
 | .ptr _ _::_,_,r,A,B,off,h,_,_=>by simp [eqS] at h
 | .iptr _ _::_,_,r,A,B,off,h,_,_=>by simp [eqS] at h
 | .mp _::_,_,r,A,B,off,h,_,_=>by simp [eqS] at h
 | .it _::_,_,r,A,B,off,h,_,_=>by simp [eqS] at h
 | .clo _ _::_,_,r,A,B,off,h,_,_=>by simp [eqS] at h
 | .gd _ _::_,_,r,A,B,off,h,_,_=>by simp [eqS] at h
 | .asl _ _ _::_,_,r,A,B,off,h,_,_=>by simp [eqS] at h
 | .bp _ _ _::_,_,r,A,B,off,h,_,_=>by simp [eqS] at h
 | .mth _ _::_,_,r,A,B,off,h,_,_=>by simp [eqS] at h
 | .er _ _ _ _::_,_,r,A,B,off,h,_,_=>by simp [eqS] at h
 | .ifc _ _::_,_,r,A,B,off,h,_,_=>by simp [eqS] at h
 | .v a::xs,ys,r,A,B,off,h,hx,hy=>by
  cases ys with
  | nil=>simp [eqS] at h
  | cons y ys =>
   cases y <;> try (simp [eqS] at h; done)
   rename_i b
   have ha:=den_v (hx 0 _ rfl)
   have hb:=den_v (hy 0 _ rfl)
   simp only [Nat.add_zero] at ha hb
   have ih:=fun r' h'=>eqS_ok xs ys r' A B (off+1) h' (fun i x hi=>by have:=hx (i+1) x (by simpa using hi); rwa [show off+(i+1) = off+1+i from by omega] at this) (fun i x hi=>by have:=hy (i+1) x (by simpa using hi); rwa [show off+(i+1) = off+1+i from by omega] at this)
   rw [List.length_cons,Nat.add_comm,eqR_add,eqR_one,ha,hb]
   cases a <;> cases b <;> try (simp [eqS] at h; done)
   ·simp only [eqS] at h
    cases hr:eqS xs ys with
    | none=>rw [hr] at h; cases h
    | some r'=>rw [hr] at h; cases h; rw [ih r' hr]; rfl
   ·rename_i k x k' y
    simp only [eqS] at h
    cases hk:(k == k') with
    | false=>rw [hk] at h; cases h
    | true =>
     rw [hk] at h
     cases hr:eqS xs ys with
     | none=>rw [hr] at h; cases h
     | some r'=>rw [hr] at h; cases h; rw [ih r' hr]; rfl
   ·simp only [eqS] at h
    cases hr:eqS xs ys with
    | none=>rw [hr] at h; cases h
    | some r'=>rw [hr] at h; cases h; rw [ih r' hr]; rfl
theorem leafS_ok {P:Program} {C:Nm→Chunk} {I:Nat→Prop}:∀ (ds:List TypeDesc) (xs:List SV) (A:Array Value) (off:Nat),leafS ds xs = true→(∀ i x,xs[i]? = some x→Den P C ids I w x (A.getD (off+i) undef)) →
  ds.length = xs.length∧∀ j d,ds[j]? = some d→leafV d (A.getD (off+j) undef) = true
 | [],[],A,off,_,_=>⟨rfl,fun j d h=>by simp at h⟩
 | [],_::_,A,off,h,_=>by cases h
 | d::ds,[],A,off,h,_=>by cases h
 | d::ds,x::xs,A,off,h,hx=>by
  cases x <;> try (simp [leafS] at h; done)
  rename_i x
  simp only [leafS,Bool.and_eq_true] at h
  obtain ⟨h1,h2⟩:=h
  obtain ⟨g1,g2⟩:=leafS_ok ds xs A (off+1) h2 (fun i x hi=>by have:=hx (i+1) x (by simpa using hi); rwa [show off+(i+1) = off+1+i from by omega] at this)
  refine ⟨by simp [g1],fun j d' hj=>?_⟩
  cases j with
  | zero =>
   simp at hj; subst hj
   have:=den_v (hx 0 _ rfl)
   rw [this]; exact h1
  | succ j =>
   have:=g2 j d' (by simpa using hj)
   rwa [show off+(j+1) = off+1+j from by omega]
def strS (op:BinOp) (a b:ByteArray) (nx:Nat):Res :=
 match op with
 | .add=>.ok (a.size+b.size≤9223372036854775807) ⟨.v (.string (a++b)),[],nx,[]⟩
 | .eql=>pureR (.v (.bool (decide (a = b)))) nx
 | .neq=>pureR (.v (.bool (!decide (a = b)))) nx
 | .lss=>pureR (.v (.bool (Op.bytesLess a.toList b.toList))) nx
 | .leq=>pureR (.v (.bool (Op.bytesLess a.toList b.toList || decide (a = b)))) nx
 | .gtr=>pureR (.v (.bool (!(Op.bytesLess a.toList b.toList || decide (a = b))))) nx
 | .geq=>pureR (.v (.bool (!Op.bytesLess a.toList b.toList))) nx
 | _=>.bad
theorem toList_beq (a b:ByteArray):(a.toList == b.toList) = decide (a = b):=by
 rw [← beq_toListBytes,Bool.eq_iff_iff,decide_eq_true_eq]
 exact ⟨fun h=>ba_eq h,fun h=>h ▸ ba_self a⟩
theorem sound_str (h:HeapX X hp nx ids w) {op:BinOp} {a b:ByteArray} {side:Prop} {e:Eff} (he:strS op a b nx = .ok side e) (hs:side) (t:TypeId):Sound X hp ids w ((binOp op t (.string a) (.string b)).run X.P w) e:=by
 have hadd:a.size+b.size≤9223372036854775807→(Op.stringOp .add a b).run X.P w = .ok (.string (a++b)) w:=fun hle=>by
  have:¬ (((a.size+b.size:Nat):Int) > IntKind.i64.max):=by
   have:IntKind.i64.max = 9223372036854775807:=by decide
   omega
  simp only [Op.stringOp,this,if_false]; rfl
 cases op <;> simp only [strS,pureR] at he <;> cases he <;> refine sound_pure h ?_ .v
 case add=>simpa [binOp] using hadd hs
 all_goals simp [binOp,Op.stringOp,toList_beq]
def flatN:Nat:=12
def aggEqS (P:Program) (neg:Bool) (t:TypeId) (xs ys:List SV) (nx:Nat):Res :=
 match flatT P flatN t,szT P t,eqS xs ys with
 | some l,some n,some r=>bif (n == l.length && (xs.length == n && ys.length == n)) && (leafS l xs && leafS l ys) then pureR (.v (.bool (bif neg then !r else r))) nx else .bad
 | _,_,_=>.bad
theorem sound_aggEq (h:HeapX X hp nx ids w) {neg:Bool} {t:TypeId} {xs ys:List SV} {A B:Array Value} (hx:DenX X hp ids w (.agg xs) (.agg A)) (hy:DenX X hp ids w (.agg ys) (.agg B)) {side:Prop} {e:Eff} (he:aggEqS X.P neg t xs ys nx = .ok side e)
  (hrow:aggT X.P t = some true):Sound X hp ids w ((binOp (if neg then .neq else .eql) t (.agg A) (.agg B)).run X.P w) e:=by
 unfold aggEqS at he
 split at he
 ·rename_i l n r hl hn hr
  cases hb:((n == l.length && (xs.length == n && ys.length == n)) && (leafS l xs && leafS l ys)) with
  | false=>rw [hb] at he; cases he
  | true =>
   rw [hb] at he; cases he
   simp only [Bool.and_eq_true,beq_iff_eq] at hb
   obtain ⟨⟨rfl,h1,h2⟩,h3,h4⟩:=hb
   obtain ⟨A',hA,hal,had⟩:=den_agg hx
   cases hA
   obtain ⟨B',hB,hbl,hbd⟩:=den_agg hy
   cases hB
   have had':∀ i x,xs[i]? = some x→DenX X hp ids w x (A.getD (0+i) undef):=fun i x hi=>by rw [Nat.zero_add]; exact had i x hi
   have hbd':∀ i x,ys[i]? = some x→DenX X hp ids w x (B.getD (0+i) undef):=fun i x hi=>by rw [Nat.zero_add]; exact hbd i x hi
   obtain ⟨_,la⟩:=leafS_ok l xs A 0 h3 had'
   obtain ⟨_,lb⟩:=leafS_ok l ys B 0 h4 hbd'
   have hE:=eq_flat (P:=X.P) flatN t l 10000 (by unfold flatN; omega) hl hn A B 0 w ⟨by omega,la⟩ ⟨by omega,lb⟩
   obtain ⟨a,b,ha,hb2,he2⟩:=hE
   have hd:∃ d,X.P.underlying t = some d∧d.isRow = true:=by
    unfold aggT at hrow
    cases hu:X.P.underlying t with
    | none=>rw [hu] at hrow; cases hrow
    | some d=>rw [hu] at hrow; exact ⟨d,rfl,by cases d <;> first | rfl | exact absurd hrow (by simp)⟩
   obtain ⟨d,hu,hdr⟩:=hd
   have hpa:=part_agg hu hdr hn A 0 w
   have hpb:=part_agg hu hdr hn B 0 w
   rw [hpa] at ha; rw [hpb] at hb2
   cases ha; cases hb2
   have eA:A.extract 0 (0+l.length) = A:=by rw [Nat.zero_add,← h1,hal]; simp
   have eB:B.extract 0 (0+l.length) = B:=by rw [Nat.zero_add,← h2,hbl]; simp
   rw [eA,eB,← h1,eqS_ok xs ys r A B 0 hr had' hbd'] at he2
   cases neg with
   | false=>exact sound_pure h (by simp only [Bool.false_eq_true,if_false]; rw [run_eql_struct,he2]; rfl) .v
   | true=>exact sound_pure h (by simp only [if_true]; rw [run_neq_struct,he2]; rfl) .v
 ·cases he
end Go.Sx
end
