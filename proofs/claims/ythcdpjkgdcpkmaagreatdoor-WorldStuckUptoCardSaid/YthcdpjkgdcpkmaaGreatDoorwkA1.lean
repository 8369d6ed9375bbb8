/-
 Lemmas, put together: TxA, TxB, TxC, TxD, TxE, TxF, TxG, TxH, TxI, TxJ, TxK, TxL, TxM.
 No conditions.
-/
import Derived.WalkKit
import Derived.ProofKit
import Derived.Below
import Derived.Deep.MidRow
import Derived.Great.BuildSlice
import Derived.Laws.MakeOwn
import Derived.Deep.AppendSrc
import Derived.Deep.Upon
import Derived.Laws.IdiomStrings
import Derived.ChangeKeysEq
import Derived.Laws.StructEq
import Derived.DeepKeys3
set_option linter.unusedSimpArgs false
set_option linter.unusedVariables false
set_option linter.unusedSectionVars false
section
namespace Go.Sx
abbrev mb:=@Nat.le_trans
abbrev fP:=@Option.some.injEq
abbrev iJ:=@Prod.mk.injEq
abbrev cF:=@Nat.le_refl
abbrev cj:=@cond_false
abbrev cd:=@cond_true
abbrev oO:=@beq_self_eq_true
abbrev hU:=@Nat.zero_le
abbrev fZ:=@List.getElem?_map
abbrev cQ:=@Array.getD_eq_getD_getElem?
abbrev pI:=@List.getElem?_toArray
abbrev fp:=@Option.map_some
abbrev c_:=@Go.Sem.run_bind
abbrev dF:=@Go.run_underlying
abbrev dy:=@List.getElem?_eq_some_iff
abbrev d6:=@Array.getElem?_eq_getElem
abbrev mJ:=@List.getElem?_take
abbrev nh:=@List.getElem?_drop
abbrev gL:=@List.length_take
abbrev jz:=@List.length_drop
abbrev dz:=@List.getElem?_eq_getElem
abbrev dm:=@Nat.zero_add
abbrev dA:=@List.getD_eq_getElem?_getD
abbrev dv:=@Go.Result.andThen_ok
abbrev fy:=@Bool.false_eq_true
abbrev lJ:=@if_false
abbrev eK:=@Go.Sem.run_pure
abbrev gu:=@List.length_cons
abbrev pJ:=@List.getElem?_cons_zero
abbrev uI:=@List.getElem_of_mem
abbrev dQ:=@List.all_eq_true
abbrev eL:=@List.getElem_mem
abbrev eG:=@Nat.add_zero
abbrev oi:=@List.size_toArray
abbrev dW:=@List.length_append
abbrev jA:=@Array.length_toList
abbrev fJ:=@List.append_assoc
abbrev iR:=@List.getElem?_append_left
abbrev jB:=@List.getElem?_append_right
abbrev sL:=@Array.getElem?_toList
abbrev fF:=@List.singleton_append
abbrev cx:=@Option.bind_some
abbrev iT:=@Nat.add_assoc
abbrev qG:=@Nat.lt_of_lt_of_le
abbrev uJ:=@Array.getElem?_extract
abbrev cT:=@Bool.and_eq_true
abbrev jC:=@beq_iff_eq
abbrev ni:=@Nat.sub_zero
abbrev kZ:=@Bool.or_eq_true
abbrev iU:=@decide_eq_true_eq
abbrev uK:=@List.flatMap_append
abbrev qH:=@Nat.succ_mul
abbrev uL:=@Nat.mod_eq_of_lt
abbrev km:=@Bool.not_eq_true'
abbrev ep:=@List.length_map
abbrev qI:=@Array.getElem?_map
abbrev gY:=@Option.getD_some
abbrev oj:=@getElem!_pos
abbrev sM:=@Nat.pos_of_ne_zero
abbrev iV:=@List.eq_nil_of_length_eq_zero
abbrev gZ:=@Nat.add_mul
abbrev k8:=@Nat.mul_le_mul_right
abbrev pK:=@List.getElem?_append
abbrev nj:=@Array.getElem?_append_left
abbrev lK:=@Nat.zero_mul
abbrev pL:=@List.nil_append
abbrev ff:=@Bool.cond_eq_ite
abbrev iW:=@Int.le_refl
abbrev gv:=@List.map_cons
abbrev mK:=@List.all_cons
abbrev dJ:=@congrArg
abbrev qJ:=@Array.getElem?_eq_some_iff
abbrev uM:=@Array.getElem?_setIfInBounds_self_of_lt
abbrev yc:=@Array.getElem?_setIfInBounds_ne
abbrev dc:=@Bool.and_self
abbrev yd:=@Nat.add_sub_cancel_left
abbrev sN:=@Bool.eq_iff_iff
abbrev jD:=@List.mem_range
abbrev pM:=@List.flatMap_cons
abbrev qK:=@Array.getElem?_modify
abbrev k9:=@List.map_nil
abbrev fK:=@List.mem_map
abbrev iz:=@List.cons_append
abbrev fg:=@List.mem_cons
abbrev pN:=@List.mem_flatMap
abbrev gy:=@List.mem_append
abbrev k_:=@and_true
abbrev pO:=@List.mem_of_getElem?
abbrev qL:=@Option.isSome_iff_exists
abbrev uN:=@List.mem_cons_of_mem
abbrev pP:=@List.map_congr_left
abbrev ol:=@Nat.le_succ
abbrev jE:=@List.mem_append_right
abbrev uO:=@Nat.le_add_right
abbrev lL:=@List.mem_append_left
abbrev nk:=@List.getElem?_eq_none
abbrev uP:=@decide_eq_false_iff_not
abbrev qM:=@Nat.ble_eq_true_of_le
abbrev jF:=@Bool.not_true
abbrev nl:=@List.any_eq_true
abbrev pU:=@Nat.lt_trichotomy
abbrev cG:=@decide_eq_true
abbrev cP:=@decide_eq_false
abbrev kG:=@List.filter_cons_of_pos
abbrev nb:=@List.filter_cons_of_neg
abbrev kH:=@Nat.blt_eq
abbrev dL:=@Option.some.inj
abbrev cX:=@Nat.le_of_ble_eq_true
abbrev om:=@Nat.not_lt_zero
abbrev jY:=@List.append_nil
abbrev tv:=@Nat.lt_succ_self
abbrev rz:=@Bool.true_and
abbrev kI:=@List.take_of_length_le
abbrev rA:=@List.drop_zero
abbrev mw:=@Option.map_eq_some_iff
abbrev rB:=@List.length_replicate
abbrev fO:=@List.mem_singleton
abbrev kJ:=@List.map_append
abbrev oo:=@Bool.not_false
abbrev cr:=@List.length_set
abbrev oq:=@List.getElem_map
abbrev pV:=@Nat.mul_one
abbrev ot:=@List.map_map
abbrev ou:=@Bool.and_false
abbrev eU:=@Int.toNat_natCast
abbrev ov:=@List.take_length
abbrev nc:=@bne_iff_ne
abbrev jZ:=@List.take_succ_eq_append_getElem
abbrev tw:=@List.sublist_append_left
abbrev v7:=@List.sublist_append_right
abbrev rC:=@List.nodup_append
abbrev v8:=@List.pairwise_iff_getElem
abbrev v_:=@List.perm_append_singleton
abbrev nf:=@List.count_append
abbrev pW:=@List.perm_iff_count
abbrev pX:=@List.getElem_set
abbrev rD:=@List.nodup_cons
abbrev rE:=@List.mem_map_of_mem
abbrev ib:=@Int.eq_ofNat_of_zero_le
abbrev ow:=@List.getElem_set_self
abbrev lC:=@List.nodup_nil
abbrev tz:=@List.getElem_append_left
abbrev tA:=@List.getElem_append_right
section
inductive Nm where
 | t (k:Nat)
 | s (F:Nat) (i:Int)
 deriving Inhabited
def Nm.eqb:Nm->Nm->Bool
 | .t a,.t b=>a==b
 | .s F i,.s G j=>F==G&&i==j
 | _,_=>false
theorem Nm.eqb_iff {a b:Nm}:a.eqb b=true↔a=b:=by
 cases a<;>cases b<;>simp [Nm.eqb]
instance : BEq Nm:=⟨Nm.eqb⟩
instance : LawfulBEq Nm:={ eq_of_beq:=λh=>Nm.eqb_iff.1 h,rfl:=λ{a}=>Nm.eqb_iff.2 rfl }
instance : DecidableEq Nm:=λa b=>decidable_of_iff (a.eqb b=true) Nm.eqb_iff
instance (n:Nat):OfNat Nm n:=⟨.t n⟩
instance : Coe Nat Nm:=⟨.t⟩
def Nm.base:Nm->Nat
 | .t k=>k
 | .s F _=>F
def Nm.key:Nm->Nm
 | .t k=>.t k
 | .s F _=>.s F 0
@[simp] theorem Nm.base_t (k:Nat):(Nm.t k).base=k:=rfl
@[simp] theorem Nm.base_s (F:Nat) (i:Int):(Nm.s F i).base=F:=rfl
@[simp] theorem Nm.key_base (k:Nm):k.key.base=k.base:=by cases k<;>rfl
@[simp] theorem Nm.key_key (k:Nm):k.key.key=k.key:=by cases k<;>rfl
@[simp] theorem Nm.key_t (k:Nat):(Nm.t k).key = .t k:=rfl
@[simp] theorem Nm.key_s (F:Nat) (i:Int):(Nm.s F i).key = .s F 0:=rfl
theorem Nm.key_eq_t {k:Nm} {a:Nat} :k.key = .t a↔k = .t a:=by cases k<;>simp [Nm.key]
inductive SV where
 | any
 | v (x:Value)
 | agg (xs:List SV)
 | tup (xs:List SV)
 | sl (n:Nat) (cs:List SV)
 | own (k:Nm) (off n:Nat)
 | ptr (k:Nm) (off:Nat)
 | iptr (cs:List SV) (off:Nat)
 | mp (k:Nm)
 | it (k:Nm)
 | clo (f:FuncId) (caps:List SV)
 | ifc (t:TypeId) (x:SV)
 | asl (k:Nm) (off n:Nat)
 | bp (k:Nm) (e:TypeId) (n:Nat)
 | mth (name:String) (x:SV)
 | gd (g:Bool) (x:SV)
 deriving Inhabited
inductive cp where
 | unborn
 | dead
 | void
 | row (e:TypeId) (cs:List SV)
 | map (es:List (Value×SV))
 | obj (s:ByteArray) (pos:Nat)
 | fam (g:Int->cp)
 deriving Inhabited
def cp.live:cp->Bool
 | .unborn=>false
 | .dead=>false
 | .void=>false
 | .fam _=>false
 | _=>true
abbrev dE:=Nm->Option (Nat×Nat)
def yQ (P:Program) (C:Nm->cp) (ids:dE) (w:World) (k:Nm) (off n:Nat) (a:Option Addr) (cap:Nat):Prop :=
 n<=cap/\cap<=maxLen/\(∀ e cs,C k = .row e cs->cs.length<=off+cap*P.cellsOf e)/\((n=0/\cap=0) \/
 ∃b o e cs arr,C k = .row e cs/\ids k=some (b,o)/\a=some ⟨b,o+off,none⟩/\w.heap[b]? = some (.cells arr e (0,0))/\o+off+cap*P.cellsOf e<=arr.size)
inductive dT (P:Program) (C:Nm->cp) (ids:dE) (I:Nat->Prop) (w:World):SV->Value->Prop
 | any {x}:dT P C ids I w .any x
 | v {x}:dT P C ids I w (.v x) x
 | agg {xs} (arr:Array Value) (h:xs.length=arr.size) (hx:∀ i x,xs[i]? = some x->dT P C ids I w x (arr.getD i undef)):dT P C ids I w (.agg xs) (.agg arr)
 | tup {xs} (arr:Array Value) (h:xs.length=arr.size) (hx:∀ i x,xs[i]? = some x->dT P C ids I w x (arr.getD i undef)):dT P C ids I w (.tup xs) (.tuple arr)
 | sl0 {a cap} (hc:cap<=maxLen):dT P C ids I w (.sl 0 []) (.slice a 0 cap)
 | sl {n cs} (b o cap:Nat) (c:Nat->Value) (hb:I b) (hn:n<=cap) (hcap:cap<=maxLen)
   (hc:∀ i x,cs[i]? = some x->w.cell? ⟨b,o+i,none⟩=some (c i)) (hx:∀ i x,cs[i]? = some x->dT P C ids I w x (c i)):dT P C ids I w (.sl n cs) (.slice (some ⟨b,o,none⟩) n cap)
 | ownDead {k off n a n' cap} (h:C k = .dead):dT P C ids I w (.own k off n) (.slice a n' cap)
 | own {k off n} (a:Option Addr) (cap:Nat) (hl:(C k).live=true) (h:yQ P C ids w k off n a cap):dT P C ids I w (.own k off n) (.slice a n cap)
 | ptrDead {k off} (b q:Nat) (h:C k = .dead):dT P C ids I w (.ptr k off) (.pointer (some ⟨b,q,none⟩))
 | ptr {k off} (b o:Nat) (hl:(C k).live=true) (h:ids k=some (b,o)):dT P C ids I w (.ptr k off) (.pointer (some ⟨b,o+off,none⟩))
 | iptr {cs off} (b o:Nat) (c:Nat->Value) (hb:I b)
   (hc:∀ i x,cs[i]? = some x->w.cell? ⟨b,o+i,none⟩=some (c i)) (hx:∀ i x,cs[i]? = some x->dT P C ids I w x (c i)):dT P C ids I w (.iptr cs off) (.pointer (some ⟨b,o+off,none⟩))
 | mpDead {k a} (h:C k = .dead):dT P C ids I w (.mp k) (.map a)
 | mp {k} (b:Nat) (hl:(C k).live=true) (h:ids k=some (b,0)):dT P C ids I w (.mp k) (.map (some b))
 | itDead {k a} (h:C k = .dead):dT P C ids I w (.it k) (.pointer a)
 | it {k} (b:Nat) (hl:(C k).live=true) (h:ids k=some (b,0)):dT P C ids I w (.it k) (.pointer (some ⟨b,0,none⟩))
 | clo {f caps} (arr:Array Value) (h:caps.length=arr.size) (hx:∀ i x,caps[i]? = some x->dT P C ids I w x (arr.getD i undef)):dT P C ids I w (.clo f caps) (.func (.func f) #[] arr)
 | aslDead {k off n a n' cap} (h:C k = .dead):dT P C ids I w (.asl k off n) (.slice a n' cap)
 | asl {k off n} (b o:Nat) (hl:(C k).live=true) (h:ids k=some (b,o)):dT P C ids I w (.asl k off n) (.slice (some ⟨b,o+off,none⟩) n n)
 | bpDead {k e n} (b:Nat) (h:C k = .dead):dT P C ids I w (.bp k e n) (.pointer (some ⟨b,0,none⟩))
 | bp {k e n} (b:Nat) (arr:Array Value) (hl:(C k).live=true) (h:ids k=some (b,0)) (hw:w.heap[b]? = some (.cells arr e (0,0))) (hn:arr.size=n):dT P C ids I w (.bp k e n) (.pointer (some ⟨b,0,none⟩))
 | mth {name x y} (h:dT P C ids I w x y):dT P C ids I w (.mth name x) (.func (.method name) #[y] #[])
 | ifc {t x y} (h:dT P C ids I w x y):dT P C ids I w (.ifc t x) (.iface t y)
 | gd {g x y} (h:g=true->dT P C ids I w x y) (hn:g=false->y=undef):dT P C ids I w (.gd g x) y
def wa (arr:Array MapEntry) (clock:Nat):Prop:=clock=arr.size/\∀ i,i<arr.size->(arr.getD i default).born=i
def fH (P:Program) (C:Nm->cp) (ids:dE) (I:Nat->Prop) (w:World) (k:Nm):cp->Prop
 | .unborn=>True
 | .dead=>True
 | .void=>True
 | .row e cs=>match ids k with
  | none=>cs=[]
  | some (b,o)=>∃ arr,w.heap[b]? = some (.cells arr e (0,0))/\o+cs.length<=arr.size/\∀ i x,cs[i]? = some x->dT P C ids I w x (arr.getD (o+i) undef)
 | .map es=>∃ b arr clock,ids k=some (b,0)/\w.heap[b]? = some (.map arr clock)/\arr.size=es.length /\
   (∀ i x,es[i]? = some x->(arr.getD i default).key=x.1/\dT P C ids I w x.2 (arr.getD i default).val)/\wa arr clock
 | .obj s pos=>∃ b,ids k=some (b,0)/\w.heap[b]? = some (.stringIter s pos)
 | .fam _=>True
def dZ:cp->cp->Prop
 | .row e cs,.row e' cs'=>e=e'/\cs'.length<=cs.length
 | .map _,.map _=>True
 | .obj _ _,.obj _ _=>True
 | _,_=>False
def dN (o o':Option Obj):Prop:=∀ arr e,o=some (.cells arr e (0,0))->∃ arr',o'=some (.cells arr' e (0,0))/\arr'.size=arr.size
theorem dN.refl (o:Option Obj):dN o o:=λarr e h=>⟨arr,h,rfl⟩
theorem dN.of_eq {o o':Option Obj} (h:o'=o):dN o o':=h▸dN.refl o
theorem dN.trans {a b c:Option Obj} (h:dN a b) (g:dN b c):dN a c:=λarr e ha=>by
 obtain ⟨x,hx,hs⟩:=h arr e ha
 obtain ⟨y,hy,ht⟩:=g x e hx
 exact ⟨y,hy,ht.trans hs⟩
theorem dZ.refl {c:cp} (h:c.live=true):dZ c c:=by cases c<;>simp_all [dZ,cp.live]
theorem dZ.trans {a b c:cp} (h:dZ a b) (g:dZ b c):dZ a c:=by
 cases a<;>cases b<;>cases c<;>first|exact h.elim|exact g.elim|exact trivial|exact ⟨h.1.trans g.1,mb g.2 h.2⟩
structure ku (C:Nm->cp) (ids:dE) (I:Nat->Prop) (w:World) (C':Nm->cp) (ids':dE) (I':Nat->Prop) (w':World):Prop where
 im:∀ b,I b->I' b/\w'.heap[b]? = w.heap[b]?
 dd:∀ k,C k = .dead->C' k = .dead
 lv:∀ k,(C k).live=true->C' k = .dead\/((C' k).live=true/\ids' k=ids k/\dZ (C k) (C' k)/\∀ b o,ids k=some (b,o)->dN w.heap[b]? w'.heap[b]?)
theorem ku.refl (C:Nm->cp) (ids:dE) (I:Nat->Prop) (w:World):ku C ids I w C ids I w :=
 ⟨λ_ h=>⟨h,rfl⟩,λ_ h=>h,λ_ h=>.inr ⟨h,rfl,dZ.refl h,λ_ _ _=>dN.refl _⟩⟩
theorem nV {w w':World} {b o:Nat} (h:w'.heap[b]? = w.heap[b]?):w'.cell? ⟨b,o,none⟩=w.cell? ⟨b,o,none⟩ :=
 World.cell?_of_block (a:=⟨b,o,none⟩) h
theorem yQ.mono {P:Program} {C C':Nm->cp} {ids ids':dE} {w w':World} {k:Nm} {off n:Nat} {a:Option Addr} {cap:Nat} (h:yQ P C ids w k off n a cap)
  (hi:ids' k=ids k) (hk:dZ (C k) (C' k)) (hs:∀ b o,ids k=some (b,o)->dN w.heap[b]? w'.heap[b]?):yQ P C' ids' w' k off n a cap:=by
 obtain ⟨h1,h2,h4,h3⟩:=h;refine ⟨h1,h2,λe cs hc=>?_,?_⟩
 ·rw [hc] at hk;cases hc':C k with
  | row e' cs' =>
   rw [hc'] at hk;simp only [dZ] at hk;have:=h4 _ _ hc';rw [hk.1] at this;omega
  | unborn=>rw [hc'] at hk;exact hk.elim
  | dead=>rw [hc'] at hk;exact hk.elim
  | void=>rw [hc'] at hk;exact hk.elim
  | map es=>rw [hc'] at hk;exact hk.elim
  | obj s pos=>rw [hc'] at hk;exact hk.elim
  | fam g=>rw [hc'] at hk;exact hk.elim
 rcases h3 with h3|⟨b,o,e,cs,arr,hc,hid,ha,hw,hsz⟩
 ·exact .inl h3
 ·obtain ⟨arr',hw',hs'⟩:=hs b o hid arr e hw;rw [hc] at hk;cases hc':C' k with
  | row e' cs' =>
   rw [hc'] at hk;simp only [dZ] at hk;obtain ⟨rfl,_⟩:=hk;exact .inr ⟨b,o,e,cs',arr',by first|exact hc'|rfl,hi.trans hid,ha,hw',hs'▸hsz⟩
  | unborn=>rw [hc'] at hk;exact hk.elim
  | dead=>rw [hc'] at hk;exact hk.elim
  | void=>rw [hc'] at hk;exact hk.elim
  | map es=>rw [hc'] at hk;exact hk.elim
  | obj s pos=>rw [hc'] at hk;exact hk.elim
  | fam g=>rw [hc'] at hk;exact hk.elim
theorem dT.mono {P:Program} {C C':Nm->cp} {ids ids':dE} {I I':Nat->Prop} {w w':World} (hE:ku C ids I w C' ids' I' w') {s:SV} {x:Value}
  (h:dT P C ids I w s x):dT P C' ids' I' w' s x:=by
 induction h with
 | any=>exact .any
 | v=>exact .v
 | agg arr h _ ih=>exact .agg arr h ih
 | tup arr h _ ih=>exact .tup arr h ih
 | sl0 hc=>exact .sl0 hc
 | sl b o cap c hb hn hcap hc _ ih =>
  obtain ⟨hb',hw⟩:=hE.im b hb;exact .sl b o cap c hb' hn hcap (λi x hi=>(nV hw).trans (hc i x hi)) ih
 | ownDead h=>exact .ownDead (hE.dd _ h)
 | own a cap hl h =>
  rcases hE.lv _ hl with hd|⟨hl',hi,hk,hs⟩
  ·exact .ownDead hd
  ·exact .own a cap hl' (h.mono hi hk hs)
 | ptrDead b q h=>exact .ptrDead b q (hE.dd _ h)
 | ptr b o hl h =>
  rcases hE.lv _ hl with hd|⟨hl',hi,_,_⟩
  ·exact .ptrDead b _ hd
  ·exact .ptr b o hl' (hi.trans h)
 | iptr b o c hb hc _ ih =>
  obtain ⟨hb',hw⟩:=hE.im b hb;exact .iptr b o c hb' (λi x hi=>(nV hw).trans (hc i x hi)) ih
 | mpDead h=>exact .mpDead (hE.dd _ h)
 | mp b hl h =>
  rcases hE.lv _ hl with hd|⟨hl',hi,_,_⟩
  ·exact .mpDead hd
  ·exact .mp b hl' (hi.trans h)
 | itDead h=>exact .itDead (hE.dd _ h)
 | it b hl h =>
  rcases hE.lv _ hl with hd|⟨hl',hi,_,_⟩
  ·exact .itDead hd
  ·exact .it b hl' (hi.trans h)
 | clo arr h _ ih=>exact .clo arr h ih
 | ifc _ ih=>exact .ifc ih
 | mth _ ih=>exact .mth ih
 | aslDead h=>exact .aslDead (hE.dd _ h)
 | asl b o hl h =>
  rcases hE.lv _ hl with hd|⟨hl',hi,_,_⟩
  ·exact .aslDead hd
  ·exact .asl b o hl' (hi.trans h)
 | bpDead b h=>exact .bpDead b (hE.dd _ h)
 | bp b arr hl h hw hn =>
  rcases hE.lv _ hl with hd|⟨hl',hi,_,hs⟩
  ·exact .bpDead b hd
  ·obtain ⟨arr',hw',hs'⟩:=hs b 0 h arr _ hw;exact .bp b arr' hl' (hi.trans h) hw' (hs'.trans hn)
 | gd _ hn ih=>exact .gd ih hn
def Im (w0:World) (I0 W0:Nat->Prop) (C:Nm->cp) (ids:dE) (w:World) (b:Nat):Prop :=
 (I0 b\/W0 b\/w0.heap.size<=b)/\b<w.heap.size/\∀ k,(C k).live=true->∀ o,ids k≠some (b,o)
structure lD (P:Program) (w0:World) (I0 W0:Nat->Prop) (C:Nm->cp) (ids:dE) (w:World):Prop where
 ch:∀ k,fH P C ids (Im w0 I0 W0 C ids w) w k (C k)
 inj:∀ k k' b o o',(C k).live=true->(C k').live=true->ids k=some (b,o)->ids k'=some (b,o')->k=k'
 lt:∀ k b o,(C k).live=true->ids k=some (b,o)->b<w.heap.size/\(W0 b\/w0.heap.size<=b)
 im0:∀ b,I0 b->b<w0.heap.size/\¬ W0 b
 evol:∀ b,b<w0.heap.size->¬ W0 b->w.heap[b]? = w0.heap[b]?
 os:w.os=w0.os
 tape:w.tape=w0.tape/\w0.drawn<=w.drawn
 output:w.output=w0.output
 size:w0.heap.size<=w.heap.size
end
section
open Go.RowKit
def upd {α:Type} (C:Nm->α) (k:Nm) (c:α):Nm->α:=λj=>if j=k then c else C j
@[simp] theorem cH {α:Type} (C:Nm->α) (k:Nm) (c:α):upd C k c k=c:=by simp [upd]
theorem dP {α:Type} (C:Nm->α) {k j:Nm} (c:α) (h:j≠k):upd C k c j=C j:=by simp [upd,h]
variable {P:Program} {w0:World} {I0 W0:Nat->Prop} {C:Nm->cp} {ids:dE} {w:World}
theorem fH.mono {C':Nm->cp} {ids':dE} {I I':Nat->Prop} {w':World} {k:Nm} {c:cp} (hE:ku C ids I w C' ids' I' w') (h:fH P C ids I w k c)
  (hi:ids' k=ids k) (hb:∀ b o,ids k=some (b,o)->w'.heap[b]? = w.heap[b]?):fH P C' ids' I' w' k c:=by
 cases c with
 | unborn=>trivial
 | dead=>trivial
 | void=>trivial
 | row e cs =>
  simp only [fH,hi] at h ⊢;cases hid:ids k with
  | none=>rw [hid] at h;exact h
  | some p =>
   obtain ⟨b,o⟩:=p;rw [hid] at h;obtain ⟨arr,ha,hs,hx⟩:=h;exact ⟨arr,(hb b o hid).trans ha,hs,λi x hix=>(hx i x hix).mono hE⟩
 | map es =>
  obtain ⟨b,arr,clock,hid,ha,hs,hx,hbo⟩:=h;exact ⟨b,arr,clock,hi.trans hid,(hb b 0 hid).trans ha,hs,λi x hix=>⟨(hx i x hix).1,(hx i x hix).2.mono hE⟩,hbo⟩
 | obj s pos =>
  obtain ⟨b,hid,ha⟩:=h;exact ⟨b,hi.trans hid,(hb b 0 hid).trans ha⟩
 | fam g=>trivial
theorem pz (w:World) (o:Obj) (k:Nat) (h:k<w.heap.size):(w.alloc o).heap[k]? = w.heap[k]?:=Below.heap_alloc w o k h
theorem jG (w:World) (o:Obj):(w.alloc o).heap[w.heap.size]? = some o:=by
 show (w.heap.push o)[w.heap.size]? = _;simp
theorem q_ (w:World) (o:Obj):(w.alloc o).heap.size=w.heap.size+1:=by simp
theorem lD.alloc_ext (h:lD P w0 I0 W0 C ids w) {k:Nm} (hk:C k = .unborn) (c:cp) (o:Obj) :
  ku C ids (Im w0 I0 W0 C ids w) w (upd C k c) (upd ids k (some (w.heap.size,0))) (Im w0 I0 W0 (upd C k c) (upd ids k (some (w.heap.size,0))) (w.alloc o)) (w.alloc o):=by
 refine ⟨λb hb=>?_,λj hj=>?_,λj hj=>?_⟩
 ·obtain ⟨h1,h2,h3⟩:=hb;refine ⟨⟨h1,by rw [q_];omega,λj hj o'=>?_⟩,pz w o b h2⟩;by_cases hjk:j=k
  ·subst hjk;simp;omega
  ·rw [dP _ _ hjk] at hj ⊢;exact h3 j hj o'
 ·have hjk:j≠k:=λe=>by subst e;rw [hk] at hj;cases hj
  rw [dP _ _ hjk];exact hj
 ·have hjk:j≠k:=λe=>by subst e;rw [hk] at hj;cases hj
  rw [dP _ _ hjk,dP _ _ hjk];exact .inr ⟨hj,rfl,dZ.refl hj,λb o' hid=>dN.of_eq (pz w o b (h.lt j b o' hj hid).1)⟩
theorem lD.alloc (h:lD P w0 I0 W0 C ids w) {k:Nm} (hk:C k = .unborn) (c:cp) (o:Obj)
  (hc:fH P (upd C k c) (upd ids k (some (w.heap.size,0))) (Im w0 I0 W0 (upd C k c) (upd ids k (some (w.heap.size,0))) (w.alloc o)) (w.alloc o) k c) :
  lD P w0 I0 W0 (upd C k c) (upd ids k (some (w.heap.size,0))) (w.alloc o):=by
 have hE:=h.alloc_ext hk c o;have hne:∀ j,(C j).live=true->j≠k:=λj hj e=>by subst e;rw [hk] at hj;cases hj
 refine ⟨λj=>?_,λj j' b o1 o2 hj hj' hi hi'=>?_,λj b o' hj hi=>?_,h.im0,λb hb hW=>?_,h.os,h.tape,h.output,?_⟩
 ·by_cases hjk:j=k
  ·subst hjk;rw [cH];exact hc
  ·rw [dP _ _ hjk];by_cases hl:(C j).live=true
   ·exact (h.ch j).mono hE (dP _ _ hjk) (λb o' hid=>pz w o b (h.lt j b o' hl hid).1)
   ·cases hcj:C j<;>simp_all [cp.live,fH]
 ·by_cases hjk:j=k<;>by_cases hjk':j'=k
  ·rw [hjk,hjk']
  ·subst hjk;rw [cH] at hi;rw [dP _ _ hjk'] at hj' hi';simp only [fP,iJ] at hi;have:=(h.lt j' b o2 hj' hi').1;omega
  ·subst hjk';rw [cH] at hi';rw [dP _ _ hjk] at hj hi;simp only [fP,iJ] at hi';have:=(h.lt j b o1 hj hi).1;omega
  ·rw [dP _ _ hjk] at hj hi;rw [dP _ _ hjk'] at hj' hi';exact h.inj j j' b o1 o2 hj hj' hi hi'
 ·by_cases hjk:j=k
  ·subst hjk;rw [cH] at hi;simp only [fP,iJ] at hi;have:=h.size;rw [q_];exact ⟨by omega,.inr (by omega)⟩
  ·rw [dP _ _ hjk] at hj hi;have:=h.lt j b o' hj hi;rw [q_];exact ⟨by omega,this.2⟩
 ·rw [pz w o b (by have:=h.size;omega)];exact h.evol b hb hW
 ·rw [q_];have:=h.size;omega
theorem lD.turn_ext (h:lD P w0 I0 W0 C ids w) {k:Nm} {b o:Nat} {c:cp} (hl:(C k).live=true) (hid:ids k=some (b,o)) (hc:c.live=true) (hk:dZ (C k) c) {w':World}
  (hz:w'.heap.size=w.heap.size) (ho:∀ j,j≠b->w'.heap[j]? = w.heap[j]?) (hs:dN w.heap[b]? w'.heap[b]?) :
  ku C ids (Im w0 I0 W0 C ids w) w (upd C k c) ids (Im w0 I0 W0 (upd C k c) ids w') w':=by
 refine ⟨λd hd=>?_,λj hj=>?_,λj hj=>?_⟩
 ·obtain ⟨h1,h2,h3⟩:=hd;have hdb:d≠b:=λe=>by subst e;exact h3 k hl o hid
  refine ⟨⟨h1,by omega,λj hj o'=>?_⟩,ho d hdb⟩;by_cases hjk:j=k
  ·subst hjk;exact h3 j hl o'
  ·rw [dP _ _ hjk] at hj;exact h3 j hj o'
 ·have hjk:j≠k:=λe=>by subst e;rw [hj] at hl;cases hl
  rw [dP _ _ hjk];exact hj
 ·by_cases hjk:j=k
  ·subst hjk;rw [cH];refine .inr ⟨hc,rfl,hk,λb' o' hid'=>?_⟩;rw [hid] at hid';cases hid';exact hs
  ·rw [dP _ _ hjk];refine .inr ⟨hj,rfl,dZ.refl hj,λb' o' hid'=>dN.of_eq (ho b' λe=>?_)⟩;subst e;exact hjk (h.inj j k b' o' o hj hl hid' hid)
theorem lD.turn (h:lD P w0 I0 W0 C ids w) {k:Nm} {b o:Nat} {c:cp} (hl:(C k).live=true) (hid:ids k=some (b,o)) (hcl:c.live=true) (hk:dZ (C k) c) {w':World}
  (hz:w'.heap.size=w.heap.size) (ho:∀ j,j≠b->w'.heap[j]? = w.heap[j]?) (hs:dN w.heap[b]? w'.heap[b]?) (hos:w'.os=w.os) (htape:w'.tape=w.tape) (hout:w'.output=w.output)
  (hc:fH P (upd C k c) ids (Im w0 I0 W0 (upd C k c) ids w') w' k c) (hdr:w.drawn<=w'.drawn:=by exact cF _):lD P w0 I0 W0 (upd C k c) ids w':=by
 have hE:=h.turn_ext hl hid hcl hk hz ho hs;refine ⟨λj=>?_,λj j' b o1 o2 hj hj' hi hi'=>?_,λj d o' hj hi=>?_,h.im0,λd hd hW=>?_,hos.trans h.os,⟨htape.trans h.tape.1,mb h.tape.2 hdr⟩,hout.trans h.output,by rw [hz];exact h.size⟩
 ·by_cases hjk:j=k
  ·subst hjk;rw [cH];exact hc
  ·rw [dP _ _ hjk];by_cases hlj:(C j).live=true
   ·exact (h.ch j).mono hE rfl (λb' o' hid'=>ho b' λe=>by subst e;exact hjk (h.inj j k b' o' o hlj hl hid' hid))
   ·cases hcj:C j<;>simp_all [cp.live,fH]
 ·have e:∀ j,(upd C k c j).live=true->(C j).live=true:=λj hj=>by
   by_cases hjk:j=k
   ·subst hjk;exact hl
   ·rw [dP _ _ hjk] at hj;exact hj
  exact h.inj j j' b o1 o2 (e j hj) (e j' hj') hi hi'
 ·have hlj:(C j).live=true:=by
   by_cases hjk:j=k
   ·subst hjk;exact hl
   ·rw [dP _ _ hjk] at hj;exact hj
  have:=h.lt j d o' hlj hi;exact ⟨by omega,this.2⟩
 ·have hdb:d≠b:=λe=>by
   subst e;rcases (h.lt k d o hl hid).2 with hh|hh
   ·exact hW hh
   ·omega
  rw [ho d hdb];exact h.evol d hd hW
theorem lD.kill_ext (h:lD P w0 I0 W0 C ids w) (k:Nm):ku C ids (Im w0 I0 W0 C ids w) w (upd C k .dead) ids (Im w0 I0 W0 (upd C k .dead) ids w) w:=by
 refine ⟨λd hd=>⟨⟨hd.1,hd.2.1,λj hj o'=>?_⟩,rfl⟩,λj hj=>?_,λj hj=>?_⟩
 ·by_cases hjk:j=k
  ·subst hjk;rw [cH] at hj;cases hj
  ·rw [dP _ _ hjk] at hj;exact hd.2.2 j hj o'
 ·by_cases hjk:j=k
  ·subst hjk;rw [cH]
  ·rw [dP _ _ hjk];exact hj
 ·by_cases hjk:j=k
  ·subst hjk;rw [cH];exact .inl rfl
  ·rw [dP _ _ hjk];exact .inr ⟨hj,rfl,dZ.refl hj,λ_ _ _=>dN.refl _⟩
theorem lD.kill (h:lD P w0 I0 W0 C ids w) (k:Nm):lD P w0 I0 W0 (upd C k .dead) ids w:=by
 have hE:=h.kill_ext k;have e:∀ j,(upd C k .dead j).live=true->(C j).live=true:=λj hj=>by
  by_cases hjk:j=k
  ·subst hjk;rw [cH] at hj;cases hj
  ·rw [dP _ _ hjk] at hj;exact hj
 refine ⟨λj=>?_,λj j' b o1 o2 hj hj' hi hi'=>h.inj j j' b o1 o2 (e j hj) (e j' hj') hi hi',λj d o' hj hi=>h.lt j d o' (e j hj) hi,h.im0,h.evol,h.os,h.tape,h.output,h.size⟩;by_cases hjk:j=k
 ·subst hjk;rw [cH];trivial
 ·rw [dP _ _ hjk];exact (h.ch j).mono hE rfl (λ_ _ _=>rfl)
theorem lD.drew (h:lD P w0 I0 W0 C ids w):lD P w0 I0 W0 C ids w.drew:=by
 have hE:ku C ids (Im w0 I0 W0 C ids w) w C ids (Im w0 I0 W0 C ids w.drew) w.drew:=⟨λd hd=>⟨hd,rfl⟩,λ_ h=>h,λ_ h=>.inr ⟨h,rfl,dZ.refl h,λ_ _ _=>dN.refl _⟩⟩;exact ⟨λk=>(h.ch k).mono hE rfl (λ_ _ _=>rfl),h.inj,h.lt,h.im0,h.evol,h.os,⟨h.tape.1,Nat.le_succ_of_le h.tape.2⟩,h.output,h.size⟩
theorem lD.drew_ext (h:lD P w0 I0 W0 C ids w):ku C ids (Im w0 I0 W0 C ids w) w C ids (Im w0 I0 W0 C ids w.drew) w.drew :=
 ⟨λd hd=>⟨hd,rfl⟩,λ_ h=>h,λ_ h=>.inr ⟨h,rfl,dZ.refl h,λ_ _ _=>dN.refl _⟩⟩
theorem ku.trans {C1 C2 C3:Nm->cp} {i1 i2 i3:dE} {J1 J2 J3:Nat->Prop} {u1 u2 u3:World} (h:ku C1 i1 J1 u1 C2 i2 J2 u2) (g:ku C2 i2 J2 u2 C3 i3 J3 u3):ku C1 i1 J1 u1 C3 i3 J3 u3:=by
 refine ⟨λb hb=>?_,λk hk=>g.dd k (h.dd k hk),λk hk=>?_⟩
 ·obtain ⟨h1,h2⟩:=h.im b hb;obtain ⟨g1,g2⟩:=g.im b h1;exact ⟨g1,g2.trans h2⟩
 ·rcases h.lv k hk with hd|⟨hl,hi,hs,hsh⟩
  ·exact .inl (g.dd k hd)
  ·rcases g.lv k hl with gd|⟨gl,gi,gs,gsh⟩
   ·exact .inl gd
   ·exact .inr ⟨gl,gi.trans hi,hs.trans gs,λb o hid=>(hsh b o hid).trans (gsh b o (hi.trans hid))⟩
end
section
open Go.RowKit
abbrev Fr:=List (Nat×SV)
abbrev Hp:=List (Nm×cp)
def cL:Fr->Nat->SV
 | [],_=>.any
 | p::r,t=>bif p.1==t then p.2 else cL r t
def cp.at (c:cp) (i:Int):cp:=match c with
 | .fam g=>match g i with
  | .unborn=>.dead
  | .fam _=>.dead
  | c=>c
 | _=>.dead
def cp.mem (c:cp) (k:Nm):cp:=match k with
 | .t _=>c
 | .s _ i=>c.at i
def Nm.eqk:Nm->Nm->Bool
 | .t a,.t b=>a==b
 | .s F _,.s G _=>F==G
 | _,_=>false
theorem Nm.eqk_iff {a b:Nm}:a.eqk b=true↔a.key=b.key:=by
 cases a<;>cases b<;>simp [Nm.eqk,Nm.key]
theorem Nm.eqk_no {a b:Nm} (h:a.key≠b.key):a.eqk b=false:=by
 cases he:a.eqk b with
 | false=>rfl
 | true=>exact absurd (Nm.eqk_iff.1 he) h
def bX:Hp->Nm->cp
 | [],_=>.unborn
 | p::r,k=>bif p.1.eqk k then p.2.mem k else bX r k
theorem Iw (t:Nat):cL [] t = .any:=rfl
theorem GT (d:Nat) (x:SV) (r:Fr) (t:Nat):cL ((d,x)::r) t=bif d==t then x else cL r t:=rfl
theorem Ix (t:Nm):bX [] t = .unborn:=rfl
theorem rF (d:Nm) (x:cp) (r:Hp) (t:Nm):bX ((d,x)::r) t=bif d.eqk t then x.mem t else bX r t:=rfl
theorem dw (k:Nat) (c:cp) (hp:Hp):bX ((.t k,c)::hp)=upd (bX hp) k c:=by
 funext j;cases j with
 | t j =>
  by_cases h:j=k
  ·subst h;simp [bX,upd,Nm.eqk,cp.mem]
  ·have:(k==j)=false:=by simp;exact λe=>h e.symm
   simp [bX,upd,h,Nm.eqk,this]
 | s F i=>simp [bX,upd,Nm.eqk]
def sO (g:Int->cp) (i:Int) (c:cp):Int->cp:=λj=>bif j==i then c else g j
def ea (k:Nm) (c:cp) (hp:Hp):Nm×cp:=match k with
 | .t a=>(.t a,c)
 | .s F i=>(.s F 0,.fam (sO (λj=>bX hp (.s F j)) i c))
theorem g7 (k:Nm) (c:cp) (hp:Hp):(ea k c hp).1=k.key:=by cases k<;>rfl
theorem xn (c:cp) (i:Int):c.at i≠.unborn:=by
 unfold cp.at;split
 ·split<;>simp_all
 ·simp
theorem ye {F:Nat} {i:Int} :∀ {hp:Hp},bX hp (.s F i)≠.unborn->∀ j,bX hp (.s F j)≠.unborn
 | [],h,j=>absurd rfl h
 | p::r,h,j=>by
  simp only [bX] at h ⊢
  cases hk:p.1 with
  | t a=>rw [hk] at h;simp only [Nm.eqk,cj] at h ⊢;exact ye h j
  | s G z =>
   rw [hk] at h
   simp only [Nm.eqk] at h ⊢
   cases hg:(G==F) with
   | true=>simp only [cd,cp.mem];exact xn _ _
   | false=>rw [hg] at h;simp only [cj] at h ⊢;exact ye h j
theorem B7 (c:cp) (i:Int) (g:Int->cp):c.at i≠.fam g:=by
 unfold cp.at;split
 ·split<;>simp_all
 ·simp
theorem yR {F:Nat} {i:Int} (g:Int->cp):∀ {hp:Hp},bX hp (.s F i)≠.fam g
 | []=>by simp [bX]
 | p::r=>by
  simp only [bX]
  cases hk:p.1.eqk (.s F i) with
  | true=>simp only [cd,cp.mem];exact B7 _ _ _
  | false=>simp only [cj];exact yR g
theorem jH {k:Nm} {c:cp} {hp:Hp} (hk:bX hp k≠.unborn) (hc:c≠.unborn/\∀ g,c≠.fam g):bX (ea k c hp::hp)=upd (bX hp) k c:=by
 cases k with
 | t a=>exact dw a c hp
 | s F i =>
  funext j;simp only [ea,bX];cases j with
  | t j=>simp [Nm.eqk,upd]
  | s G j =>
   simp only [Nm.eqk];by_cases hg:F=G
   ·subst hg;simp only [oO,cd,cp.mem,cp.at,sO,upd];by_cases hj:j=i
    ·subst hj;simp only [oO,cd,if_true];first|done|(cases c<;>first|rfl|exact absurd rfl hc.1|exact absurd rfl (hc.2 _))
    ·rw [show (j==i)=false from by simpa using hj,cj,if_neg (by simpa using hj)];have:=ye hk j;cases hgj:bX hp (.s F j)<;>first|rfl|exact absurd hgj this|exact absurd hgj (yR _)
   ·rw [show (F==G)=false from by simpa using hg,cj,upd,if_neg (by simp;exact λe=>absurd e.symm hg)]
theorem iY {c:cp} (h:c.live=true):c≠.unborn:=λe=>by rw [e] at h;cases h
structure dx where
 val:SV
 upd:Hp
 nx:Nat
 rds:List Nm
inductive eY where
 | bad
 | ok (side:Prop) (e:dx)
def yf (c k:Prop):Prop:=c/\k
theorem yf.mk {c k:Prop} (h:c) (hk:k):yf c k:=⟨h,hk⟩
def eY.wp:eY->(dx->Prop)->Prop
 | .bad,_=>False
 | .ok s e,K=>yf s (K e)
def AP (g:Bool):SV->SV
 | .gd h x=>bif h || !g then x else .any
 | x=>x
def dC (g:Bool) (fr:Fr):Operand->SV
 | .tmp t=>AP g (cL fr t)
 | .const v=>.v v
 | .global n=>.v (.pointer (some ⟨n,0,none⟩))
 | .func f=>.v (.func (.func f) #[] #[])
def wb (fr:Fr):Operand->SV
 | .tmp t=>cL fr t
 | .const v=>.v v
 | .global n=>.v (.pointer (some ⟨n,0,none⟩))
 | .func f=>.v (.func (.func f) #[] #[])
def jI (P:Program) (t:TypeId):Option Nat:=(P.info? t).map (·.size)
def tZ (P:Program) (t:TypeId):Option Bool:=(P.underlying t).map λd=>match d with | .struct _=>true | .array _ _=>true|_=>false
def tB (P:Program) (t:TypeId):Option (List SV):=(P.info? t).bind λi=>i.zero.map λz=>z.cells.toList.map .v
def er:SV->List SV
 | .agg xs=>xs
 | x=>[x]
def i_:SV->Bool
 | .v x=>x.oneCell'
 | .sl _ _=>true
 | .own _ _ _=>true
 | .ptr _ _=>true
 | .iptr _ _=>true
 | .mp _=>true
 | .it _=>true
 | .clo _ _=>true
 | .ifc _ _=>true
 | .mth _ _=>true
 | .asl _ _ _=>true
 | .bp _ _ _=>true
 | _=>false
def fT (cs:List SV) (o:Nat):List SV->List SV
 | []=>cs
 | x::xs=>fT (cs.set o x) (o+1) xs
def eE (x:SV) (nx:Nat):eY:=.ok True ⟨x,[],nx,[]⟩
def yS (g b:Bool) (x y:SV) (nx:Nat):eY :=
 match AP (g&&b) x,AP (g && !b) y with
 | .v (.bool p),.v (.bool q)=>eE (.v (.bool (bif b then p else q))) nx
 | .v (.int k p),.v (.int k' q)=>bif k==k' then eE (.v (.int k (bif b then p else q))) nx else eE (bif b then .v (.int k p) else .v (.int k' q)) nx
 | p,q=>eE (bif b then p else q) nx
def eM (P:Program) (t:TypeId):SV:=match tB P t with
 | some [x]=>x
 | _=>.any
def kx (P:Program) (t:TypeId) (cs:List SV) (off:Nat) (rds:List Nm) (nx:Nat):eY :=
 match tZ P t,jI P t with
 | some true,some n=>.ok (off+n<=cs.length) ⟨.agg ((cs.drop off).take n),[],nx,rds⟩
 | some false,_=>.ok (off<cs.length) ⟨cs.getD off (eM P t),[],nx,rds⟩
 | _,_=>.bad
def o_ (c:cp) (k:TypeId->List SV->eY):eY :=
 match c with
 | .row e cs=>k e cs
 | _=>.bad
def oa (P:Program) (t:TypeId) (x:SV) (hp:Hp) (nx:Nat):eY :=
 match x with
 | .ptr k off=>o_ (bX hp k) λ_ cs=>kx P t cs off [k.key] nx
 | .iptr cs off=>kx P t cs off [] nx
 | _=>.bad
def oz (P:Program) (t:TypeId) (x v:SV) (hp:Hp) (nx:Nat):eY :=
 match x with
 | .ptr k off=>o_ (bX hp k) λe cs=>.ok (jI P t=some (er v).length/\(er v).all i_=true/\off+(er v).length<=cs.length) ⟨.any,[ea k (.row e (fT cs off (er v))) hp],nx,[k.key]⟩
 | _=>.bad
def Af (op:BinOp) (k:IntKind) (a b:Int) (nx:Nat):eY :=
 match op with
 | .add=>eE (.v (.int k (k.wrap (a+b)))) nx
 | .sub=>eE (.v (.int k (k.wrap (a-b)))) nx
 | .mul=>eE (.v (.int k (k.wrap (a*b)))) nx
 | .quo=>.ok (b≠0) ⟨.v (.int k (k.wrap (a.tdiv b))),[],nx,[]⟩
 | .rem=>.ok (b≠0) ⟨.v (.int k (a.tmod b)),[],nx,[]⟩
 | .and=>eE (.v (.int k (k.wrap ((BitVec.ofInt k.bits a &&& BitVec.ofInt k.bits b).toNat:Nat)))) nx
 | .or=>eE (.v (.int k (k.wrap ((BitVec.ofInt k.bits a ||| BitVec.ofInt k.bits b).toNat:Nat)))) nx
 | .xor=>eE (.v (.int k (k.wrap ((BitVec.ofInt k.bits a ^^^ BitVec.ofInt k.bits b).toNat:Nat)))) nx
 | .andNot=>eE (.v (.int k (k.wrap ((BitVec.ofInt k.bits a &&& ~~~BitVec.ofInt k.bits b).toNat:Nat)))) nx
 | .eql=>eE (.v (.bool (a==b))) nx
 | .neq=>eE (.v (.bool (a != b))) nx
 | .lss=>eE (.v (.bool (decide (a<b)))) nx
 | .leq=>eE (.v (.bool (decide (a<=b)))) nx
 | .gtr=>eE (.v (.bool (decide (b<a)))) nx
 | .geq=>eE (.v (.bool (decide (b<=a)))) nx
 | _=>.bad
end
section
open Go.RowKit
def LP (b:Nat):Int :=
 if b<128 then 240 else if b<194 then 241 else if b<224 then 2 else if b=224 then 19 else if b<237 then 3 else if b=237 then 35 else if b<240 then 3
 else if b=240 then 52 else if b<244 then 4 else if b=244 then 68 else 241
def Oz:List Value:=(List.range 256).map λb=>.int .u8 (LP b)
def Of:List Value:=[128,191,160,191,128,159,144,191,128,143,0,0,0,0,0,0,0,0,0,0,0,0,0,0,0,0,0,0,0,0,0,0].map (Value.int .u8)
def FD (l:List (List UInt8)):List SV:=l.map λb=>.v (.string ⟨b.toArray⟩)
def OA:List SV:=FD [[],[115,101,116],[99,111,112,121],[97,100,100],[115,117,98],[108,101,115,115],[106,117,109,112],[122,101,114,111],[112,114,105,110,116],[101,110,100],[121,105,101,108,100],[103,111],[108,111,97,100],[115,116,111,114,101],[115,101,110,100],[103,101,116],[115,104,117,116],[108,111,99,107],[117,110,108,111,99,107],[99,111,117,110,116],[119,97,105,116],[115,108,101,101,112],[112,97,110,105,99]]
def EG:List SV:=FD [[],[114,110],[114,114],[114,114],[114,114],[114,114],[99,45],[114,99],[114,45],[45,45],[45,45],[99,114],[114,109],[109,114],[112,114],[114,112],[112,45],[108,107],[108,107],[103,114],[103,45],[114,45],[45,45]]
def yg:List SV:=FD [[],[],[115,101,116],[114,110],[99,111,112,121],[114,114],[97,100,100],[114,114],[115,117,98],[114,114],[108,101,115,115],[114,114],[106,117,109,112],[99,45],[122,101,114,111],[114,99],[112,114,105,110,116],[114,45],[101,110,100],[45,45],[121,105,101,108,100],[45,45],[103,111],[99,114],[108,111,97,100],[114,109],[115,116,111,114,101],[109,114],[115,101,110,100],[112,114],[103,101,116],[114,112],[115,104,117,116],[112,45],[108,111,99,107],[108,107],[117,110,108,111,99,107],[108,107],[99,111,117,110,116],[103,114],[119,97,105,116],[103,45],[115,108,101,101,112],[114,45],[112,97,110,105,99],[45,45]]
def Iy (n : String) : Option (List SV) := if n = "taskmill/code.kinds" then some yg else if n = "taskmill/taskmillref.Args" then some [.sl 23 EG] else none
def yT (P:Program) (g:Nat):Option (List SV):=(P.globals[g]?).bind λx=>Iy x.name
def qa (I:Nat->Prop) (w:World):SV->Value->Prop
 | .v v,y=>y=v
 | .sl n l,y=>∃ b q cap,y = .slice (some ⟨b,q,none⟩) n cap/\I b/\n<=cap/\cap<=maxLen/\∀ i x,l[i]? = some x->∃ v,x = .v v/\w.cell? ⟨b,q+i,none⟩=some v
 | _,_=>False
theorem qa.mono {I I':Nat->Prop} {w w':World} {x:SV} {y:Value} (hI:∀ b,I b->I' b) (hc:∀ b,I b->∀ i,w'.cell? ⟨b,i,none⟩=w.cell? ⟨b,i,none⟩) (h:qa I w x y):qa I' w' x y:=by
 unfold qa at h ⊢;split at h
 ·exact h
 ·obtain ⟨b,q,cap,rfl,h1,h2,h3,h4⟩:=h;exact ⟨b,q,cap,rfl,hI b h1,h2,h3,λi x hi=>by
   obtain ⟨v,rfl,hv⟩:=h4 i x hi;exact ⟨v,rfl,(hc b h1 _).trans hv⟩⟩
 ·exact h.elim
def sb (P:Program) (I:Nat->Prop) (w:World):Prop:=∀ g cs,yT P g=some cs->I g/\∀ i x,cs[i]? = some x->∃ y,w.cell? ⟨g,i,none⟩=some y/\qa I w x y
structure Cx where
 P:Program
 w0:World
 I0:Nat->Prop
 W0:Nat->Prop
 m:Nat
 ids0:dE
 C0:Nm->cp
 gl:sb P I0 w0
abbrev cV (X:Cx) (hp:Hp) (ids:dE) (w:World):SV->Value->Prop:=dT X.P (bX hp) ids (Im X.w0 X.I0 X.W0 (bX hp) ids w) w
abbrev fk (X:Cx) (hp:Hp) (ids:dE) (w:World) (hp':Hp) (ids':dE) (w':World):Prop :=
 ku (bX hp) ids (Im X.w0 X.I0 X.W0 (bX hp) ids w) w (bX hp') ids' (Im X.w0 X.I0 X.W0 (bX hp') ids' w') w'
structure FE (X:Cx) (C:Nm->cp) (ids:dE) (w:World) (k:Nm):Prop where
 id:ids k=X.ids0 k
 kind:dZ (X.C0 k) (C k)
 shape:∀ b o,ids k=some (b,o)->dN X.w0.heap[b]? w.heap[b]?
theorem FE.step {X:Cx} {C C':Nm->cp} {ids ids':dE} {I I':Nat->Prop} {w w':World} {k:Nm} (h:FE X C ids w k) (hE:ku C ids I w C' ids' I' w') (hl:(C k).live=true) (hl':(C' k).live=true):FE X C' ids' w' k:=by
 rcases hE.lv k hl with hd|⟨_,hi,hk,hs⟩
 ·rw [hd] at hl';cases hl'
 ·exact ⟨hi.trans h.id,h.kind.trans hk,λb o hid=>(h.shape b o (hi▸hid)).trans (hs b o (hi▸hid))⟩
structure HeapC (X:Cx) (hp:Hp) (ids:dE) (w:World):Prop where
 st:lD X.P X.w0 X.I0 X.W0 (bX hp) ids w
 kept:∀ k,k.base<X.m->X.C0 k≠.void->(bX hp k).live=true->FE X (bX hp) ids w k
 nov:∀ k,k.base<X.m->bX hp k = .void->X.C0 k = .void
theorem mc {C C0:Nm->cp} {m:Nat} (h:∀ k:Nm,k.base<m->C k = .void->C0 k = .void) {K:Nm} {c:cp} (hc:c≠.void) (j:Nm) (hj:j.base<m) (hv:upd C K c j = .void):C0 j = .void:=by
 by_cases hjk:j=K
 ·subst hjk;rw [cH] at hv;exact absurd hv hc
 ·rw [dP _ _ hjk] at hv;exact h j hj hv
structure dS (X:Cx) (hp:Hp) (nx:Nat) (ids:dE) (w:World):Prop extends HeapC X hp ids w where
 fresh:bX hp nx = .unborn
 m_le:X.m<=nx
structure nm (X:Cx) (hp:Hp) (nx:Nat) (ids:dE) (w:World):Prop extends HeapC X hp ids w where
 fresh:∀ k:Nm,nx<=k.base->bX hp k = .unborn
 m_le:X.m<=nx
theorem nm.toX {X:Cx} {hp:Hp} {nx:Nat} {ids:dE} {w:World} (h:nm X hp nx ids w):dS X hp nx ids w:=⟨h.toHeapC,h.fresh nx (cF _),h.m_le⟩
def fQ (X:Cx) (hp:Hp) (ids:dE) (w:World) (r:Result Value) (e:dx):Prop :=
∃x w' ids',r = .ok x w'/\HeapC X (e.upd++hp) ids' w'/\fk X hp ids w (e.upd++hp) ids' w'/\cV X (e.upd++hp) ids' w' e.val x
def wc (X:Cx) (hp:Hp) (ids:dE) (w:World) (r:Result Unit) (e:dx):Prop :=
∃w' ids',r = .ok () w'/\HeapC X (e.upd++hp) ids' w'/\fk X hp ids w (e.upd++hp) ids' w'
variable {X:Cx} {hp:Hp} {nx:Nat} {ids:dE} {w:World}
theorem cW (h:dS X hp nx ids w) {r:Result Value} {x:Value} (hr:r = .ok x w) {s:SV} {rds:List Nm} (hd:cV X hp ids w s x):fQ X hp ids w r ⟨s,[],nx,rds⟩ :=
 ⟨x,w,ids,hr,h.toHeapC,ku.refl _ _ _ _,hd⟩
section inv
variable {P:Program} {C:Nm->cp} {I:Nat->Prop} {y:Value}
theorem d9 {x} (h:dT P C ids I w (.v x) y):y=x:=by cases h;rfl
theorem mW {xs} (h:dT P C ids I w (.agg xs) y):∃ arr,y = .agg arr/\xs.length=arr.size/\∀ i x,xs[i]? = some x->dT P C ids I w x (arr.getD i undef):=by
 cases h with|agg arr h hx=>exact ⟨arr,rfl,h,hx⟩
theorem EH {xs} (h:dT P C ids I w (.tup xs) y):∃ arr,y = .tuple arr/\xs.length=arr.size/\∀ i x,xs[i]? = some x->dT P C ids I w x (arr.getD i undef):=by
 cases h with|tup arr h hx=>exact ⟨arr,rfl,h,hx⟩
theorem pY {k off} (h:dT P C ids I w (.ptr k off) y) (hl:(C k).live=true):∃ b o,ids k=some (b,o)/\y = .pointer (some ⟨b,o+off,none⟩):=by
 cases h with
 | ptrDead b q h=>rw [h] at hl;cases hl
 | ptr b o _ hi=>exact ⟨b,o,hi,rfl⟩
theorem qN {cs off} (h:dT P C ids I w (.iptr cs off) y):∃ (b o:Nat) (c:Nat->Value),I b/\y = .pointer (some ⟨b,o+off,none⟩)/\(∀ i x,cs[i]? = some x->w.cell? ⟨b,o+i,none⟩=some (c i))/\∀ i x,cs[i]? = some x->dT P C ids I w x (c i):=by
 cases h with|iptr b o c hb hc hx=>exact ⟨b,o,c,hb,rfl,hc,hx⟩
theorem md {k off n} (h:dT P C ids I w (.own k off n) y) (hl:(C k).live=true):∃ a cap,y = .slice a n cap/\yQ P C ids w k off n a cap:=by
 cases h with
 | ownDead h=>rw [h] at hl;cases hl
 | own a cap _ ho=>exact ⟨a,cap,rfl,ho⟩
theorem sP {n cs} (h:dT P C ids I w (.sl n cs) y):∃ a cap,y = .slice a n cap/\n<=cap/\cap<=maxLen /\
  ((n=0/\cs=[])\/∃ (b o:Nat) (c:Nat->Value),a=some ⟨b,o,none⟩/\I b/\(∀ i x,cs[i]? = some x->w.cell? ⟨b,o+i,none⟩=some (c i))/\∀ i x,cs[i]? = some x->dT P C ids I w x (c i)):=by
 cases h with
 | sl0 hc=>exact ⟨_,_,rfl,hU _,hc,.inl ⟨rfl,rfl⟩⟩
 | sl b o cap c hb hn hcap hc hx=>exact ⟨_,_,rfl,hn,hcap,.inr ⟨b,o,c,rfl,hb,hc,hx⟩⟩
theorem rG {k} (h:dT P C ids I w (.mp k) y) (hl:(C k).live=true):∃ b,ids k=some (b,0)/\y = .map (some b):=by
 cases h with
 | mpDead h=>rw [h] at hl;cases hl
 | mp b _ hi=>exact ⟨b,hi,rfl⟩
theorem xo {f caps} (h:dT P C ids I w (.clo f caps) y):∃ arr,y = .func (.func f) #[] arr/\caps.length=arr.size/\∀ i x,caps[i]? = some x->dT P C ids I w x (arr.getD i undef):=by
 cases h with|clo arr h hx=>exact ⟨arr,rfl,h,hx⟩
theorem J7 {k off n} (h:dT P C ids I w (.asl k off n) y) (hl:(C k).live=true):∃ b o,ids k=some (b,o)/\y = .slice (some ⟨b,o+off,none⟩) n n:=by
 cases h with
 | aslDead h=>rw [h] at hl;cases hl
 | asl b o _ hi=>exact ⟨b,o,hi,rfl⟩
theorem LQ {k e n} (h:dT P C ids I w (.bp k e n) y) (hl:(C k).live=true):∃ (b:Nat) (arr:Array Value),ids k=some (b,0)/\y = .pointer (some ⟨b,0,none⟩)/\w.heap[b]? = some (.cells arr e (0,0))/\arr.size=n:=by
 cases h with
 | bpDead b h=>rw [h] at hl;cases hl
 | bp b arr _ hi hw hn=>exact ⟨b,arr,hi,rfl,hw,hn⟩
theorem EI {name x} (h:dT P C ids I w (.mth name x) y):∃ z,y = .func (.method name) #[z] #[]/\dT P C ids I w x z:=by
 cases h with|mth h=>exact ⟨_,rfl,h⟩
theorem Ag {t x} (h:dT P C ids I w (.ifc t x) y):∃ z,y = .iface t z/\dT P C ids I w x z:=by
 cases h with|ifc h=>exact ⟨_,rfl,h⟩
theorem Ah {g:Bool} {s:SV} (hg:g=true) (h:dT P C ids I w s y):dT P C ids I w (AP g s) y:=by
 cases s with
 | gd hh x =>
  subst hg;cases hh with
  | true=>cases h with|gd h _=>exact h rfl
  | false=>exact .any
 | _=>exact h
end inv
theorem EJ (P:Program) (C:Nm->cp) (I:Nat->Prop) {l:List Value}:∀ i x,(l.map SV.v)[i]? = some x->dT P C ids I w x (l.toArray.getD i undef):=by
 intro i x h;rw [fZ] at h;cases hl:l[i]? with
 | none=>rw [hl] at h;cases h
 | some y =>
  rw [hl] at h;cases h;rw [cQ,pI,hl];exact .v
theorem np {P:Program} {t n} (h:jI P t=some n):∃ i,P.info? t=some i/\i.size=n:=by
 unfold jI at h;cases hi:P.info? t with
 | none=>rw [hi] at h;cases h
 | some i=>rw [hi] at h;exact ⟨i,rfl,by simpa using h⟩
theorem wd {P:Program} {t n} (h:jI P t=some n):P.cellsOf t=n:=by
 unfold Program.cellsOf;unfold jI at h;rw [h];rfl
theorem yh {P:Program} {t:TypeId} {g:Bool} (h:tZ P t=some g) (w:World):(isAgg t).run P w = .ok g w:=by
 unfold tZ at h;cases hu:P.underlying t with
 | none=>rw [hu] at h;cases h
 | some d =>
  rw [hu] at h;simp only [fp,fP] at h;unfold isAgg;rw [c_,dF hu w];subst h;cases d<;>rfl
structure Cells (P:Program) (C:Nm->cp) (ids:dE) (I:Nat->Prop) (w:World) (b o:Nat) (cs:List SV):Prop where
 at_:∀ i x,cs[i]? = some x->∃ c,w.cell? ⟨b,o+i,none⟩=some c/\dT P C ids I w x c
theorem we {P:Program} {C:Nm->cp} {I:Nat->Prop} {k:Nm} {b o:Nat} {e:TypeId} {cs:List SV} (h:fH P C ids I w k (.row e cs)) (hi:ids k=some (b,o)):Cells P C ids I w b o cs:=by
 simp only [fH,hi] at h;obtain ⟨arr,ha,hs,hx⟩:=h;refine ⟨λi x hix=>⟨arr.getD (o+i) undef,?_,hx i x hix⟩⟩;have hlt:i<cs.length:=(dy.1 hix).1;simp only [World.cell?,ha];simp [cQ,d6 (show o+i<arr.size by omega)]
theorem t6 {α:Type} {Q:Nat->α->Value->Prop}:∀ (cs:List α) (o:Nat),(∀ i x,cs[i]? = some x->∃ c,Q (o+i) x c)->∃ l:List Value,l.length=cs.length/\∀ i x,cs[i]? = some x->Q (o+i) x (l.getD i undef)
 | [],_,_=>⟨[],rfl,λi x h=>by simp at h⟩
 | a::cs,o,h=>by
  obtain ⟨c,hc⟩:=h 0 a rfl
  obtain ⟨l,hl,hx⟩:=t6 cs (o+1) (λi x hi=>by
   have:=h (i+1) x (by simpa using hi)
   rwa [show o+(i+1)=o+1+i from by omega] at this)
  refine ⟨c::l,by simp [hl],λi x hi=>?_⟩
  cases i with
  | zero=>simp at hi;subst hi;exact hc
  | succ i =>
   have:=hx i x (by simpa using hi)
   rw [show o+(i+1)=o+1+i from by omega]
   simpa using this
theorem B8 {P:Program} {C:Nm->cp} {I:Nat->Prop} {t:TypeId} {b o off:Nat} {cs:List SV} (hc:Cells P C ids I w b o cs) {rds:List Nm} {side:Prop} {e:dx} (h:kx P t cs off rds nx = .ok side e) (hs:side) :
  e.upd=[]/\e.nx=nx/\∃ x,(loadVar t ⟨b,o+off,none⟩).run P w = .ok x w/\dT P C ids I w e.val x:=by
 unfold kx at h;split at h
 ·rename_i n ha hn;cases h;refine ⟨rfl,rfl,?_⟩;obtain ⟨l,hl,hx⟩:=t6 (Q:=λj x c=>w.cell? ⟨b,o+off+j,none⟩=some c/\dT P C ids I w x c) ((cs.drop off).take n) 0 (λi x hi=>by
   rw [mJ] at hi;split at hi
   ·rw [nh] at hi;obtain ⟨c,h1,h2⟩:=hc.at_ _ x hi;refine ⟨c,?_,h2⟩;rw [←h1];congr 2;omega
   ·cases hi)
  have hlen:l.length=n:=by rw [hl,gL,jz];omega
  have hagg:∃ d,P.underlying t=some d/\d.isRow=true:=by
   unfold tZ at ha;cases hu:P.underlying t with
   | none=>rw [hu] at ha;cases ha
   | some d=>rw [hu] at ha;exact ⟨d,rfl,by cases d<;>first|rfl|exact absurd ha (by simp)⟩
  obtain ⟨d,hu,hd⟩:=hagg;refine ⟨.agg l.toArray,run_loadVar_mid w b (o+off) t l d (λj v hv=>?_) hu hd (by unfold jI at hn;rw [hn,hlen]),.agg _ (by simp [hl]) λi x hi=>?_⟩
  ·have hj:j<l.length:=(dy.1 hv).1;have hj':j<((cs.drop off).take n).length:=by omega
   have:=(hx j _ (dz hj')).1;rw [dm] at this;rw [this,←hv];simp [dA,dz hj]
  ·have:=(hx i x hi).2;simpa [cQ,dA] using this
 ·rename_i ha;cases h;refine ⟨rfl,rfl,?_⟩;have hoff:off<cs.length:=hs;obtain ⟨c,h1,h2⟩:=hc.at_ off _ (dz hoff);refine ⟨c,?_,?_⟩
  ·simp only [loadVar,c_,yh ha w,dv,fy,lJ];simp only [load,Sem.run,h1]
  ·simpa [dA,dz hoff] using h2
 ·cases h
theorem gz {c:cp} {f:TypeId->List SV->eY} {s:Prop} {e:dx} (h:o_ c f = .ok s e):∃ t cs,c = .row t cs/\f t cs = .ok s e:=by
 cases c<;>simp only [o_] at h<;>first|exact ⟨_,_,rfl,h⟩|cases h
theorem yU (h:dS X hp nx ids w) {k:Nm} {b o:Nat} {e:TypeId} {cs:List SV} (hk:bX hp k = .row e cs) (hi:ids k=some (b,o)):Cells X.P (bX hp) ids (Im X.w0 X.I0 X.W0 (bX hp) ids w) w b o cs:=by
 have:=h.st.ch k;rw [hk] at this;exact we this hi
theorem FF (h:dS X hp nx ids w) {t:TypeId} {s:SV} {x:Value} (hd:cV X hp ids w s x) {side:Prop} {e:dx} (he:oa X.P t s hp nx = .ok side e) (hs:side) :
  fQ X hp ids w ((Instr.loadAt t x).run X.P w) e:=by
 have fin:∀ {b o:Nat} {cs:List SV} {off:Nat} {rds:List Nm},Cells X.P (bX hp) ids (Im X.w0 X.I0 X.W0 (bX hp) ids w) w b o cs->kx X.P t cs off rds nx = .ok side e->x = .pointer (some ⟨b,o+off,none⟩) ->
   fQ X hp ids w ((Instr.loadAt t x).run X.P w) e:=by
  intro b o cs off rds hc ht hx;obtain ⟨h1,h2,y,hr,hy⟩:=B8 hc ht hs;obtain ⟨val,upd,nx',rds'⟩:=e;simp only at h1 h2;subst h1;subst h2;subst hx;exact cW h (by simp only [Instr.loadAt,Instr.sureAddr,c_,eK,dv];exact hr) hy
 unfold oa at he;split at he
 ·rename_i k off;obtain ⟨t',cs,hk,ht⟩:=gz he;obtain ⟨b,o,hi,hx⟩:=pY hd (by rw [hk];rfl);exact fin (yU h hk hi) ht hx
 ·obtain ⟨b,o,c,_,hx,hc,hy⟩:=qN hd;exact fin ⟨λi y hi=>⟨c i,hc i y hi,hy i y hi⟩⟩ he hx
 ·cases he
end
section
open Go.RowKit
variable {X:Cx} {hp:Hp} {nx:Nat} {ids:dE} {w:World}
theorem lc:∀ (xs cs:List SV) (o:Nat),(fT cs o xs).length=cs.length
 | [],cs,o=>rfl
 | x::xs,cs,o=>by rw [fT,lc xs];simp
theorem se:∀ (xs cs:List SV) (o i:Nat),o+xs.length<=cs.length->(fT cs o xs)[i]? = if o<=i/\i<o+xs.length then xs[i-o]? else cs[i]?
 | [],cs,o,i,h=>by simp only [fT,List.length_nil];rw [if_neg (by omega)]
 | x::xs,cs,o,i,h=>by
  simp only [gu] at h
  rw [fT,se xs (cs.set o x) (o+1) i (by simp;omega)]
  simp only [gu]
  by_cases h1:o+1<=i/\i<o+1+xs.length
  ·rw [if_pos h1,if_pos (by omega),show i-o=(i-(o+1))+1 from by omega,List.getElem?_cons_succ]
  ·rw [if_neg h1]
   by_cases h2:i=o
   ·subst h2
    rw [if_pos (by omega),Nat.sub_self,pJ,List.getElem?_set_self (by omega)]
   ·rw [if_neg (by omega),List.getElem?_set_ne (λe=>h2 e.symm)]
theorem Ai {P:Program} {C:Nm->cp} {I:Nat->Prop} {s:SV} {x:Value} (h:dT P C ids I w s x) (ho:i_ s=true):x.oneCell'=true:=by
 cases h<;>first|rfl|exact ho|(cases ho)
theorem GU {x:Value} (h:x.oneCell'=true):x.cells = #[x]:=by cases x<;>first|rfl|cases h
theorem wg {P:Program} {C:Nm->cp} {I:Nat->Prop} {s:SV} {x:Value} (h:dT P C ids I w s x) (ho:(er s).all i_=true) :
  x.cells.size=(er s).length/\(∀ i y,(er s)[i]? = some y->dT P C ids I w y (x.cells.getD i undef))/\∀ v∈x.cells.toList,v.oneCell'=true:=by
 have single:i_ s=true->er s=[s]->x.cells.size=(er s).length/\(∀ i y,(er s)[i]? = some y->dT P C ids I w y (x.cells.getD i undef))/\∀ v∈x.cells.toList,v.oneCell'=true:=by
  intro h1 h2;have hx:=Ai h h1;rw [GU hx,h2];refine ⟨rfl,λi y hi=>?_,λv hv=>?_⟩
  ·cases i with
   | zero=>simp at hi;subst hi;exact h
   | succ i=>simp at hi
  ·simp at hv;subst hv;exact hx
 cases s with
 | agg xs =>
  obtain ⟨arr,rfl,hl,hx⟩:=mW h;simp only [er] at ho ⊢;refine ⟨hl.symm,hx,λv hv=>?_⟩;obtain ⟨i,hi,rfl⟩:=uI hv;have hi':i<xs.length:=by rw [hl];simpa [Value.cells] using hi
  have h1:=hx i _ (dz hi');have h2:=Ai h1 (dQ.1 ho _ (eL hi'));have hs:i<arr.size:=by simpa [Value.cells] using hi
  rw [cQ,d6 hs] at h2;simpa [Value.cells] using h2
 | any=>simp [er,i_] at ho
 | tup xs=>simp [er,i_] at ho
 | gd g y=>simp [er,i_] at ho
 | v y=>exact single (by simpa [er] using ho) rfl
 | sl n cs=>exact single (by simpa [er] using ho) rfl
 | own k o n=>exact single (by simpa [er] using ho) rfl
 | ptr k o=>exact single (by simpa [er] using ho) rfl
 | iptr cs o=>exact single (by simpa [er] using ho) rfl
 | mp k=>exact single (by simpa [er] using ho) rfl
 | it k=>exact single (by simpa [er] using ho) rfl
 | clo f cs=>exact single (by simpa [er] using ho) rfl
 | ifc t x=>exact single (by simpa [er] using ho) rfl
 | mth t x=>exact single (by simpa [er] using ho) rfl
 | asl k o n=>exact single (by simpa [er] using ho) rfl
 | bp k e n=>exact single (by simpa [er] using ho) rfl
theorem tC (h:dS X hp nx ids w) {k:Nm} {b o:Nat} {e:TypeId} {cs cs':List SV} (hk:bX hp k = .row e cs) (hi:ids k=some (b,o)) {arr arr':Array Value}
  (hw:w.heap[b]? = some (.cells arr e (0,0))) (hs:arr'.size=arr.size) (hl:o+cs'.length<=arr.size) (hsh:cs'.length<=cs.length)
  (hx:∀ i x,cs'[i]? = some x->cV X hp ids w x (arr'.getD (o+i) undef)) :
  HeapC X ([ea k (.row e cs') hp]++hp) ids (w.setRow b arr')/\fk X hp ids w ([ea k (.row e cs') hp]++hp) ids (w.setRow b arr'):=by
 have hlk:(bX hp k).live=true:=by rw [hk];rfl
 have hz:(w.setRow b arr').heap.size=w.heap.size:=by simp [World.setRow]
 have hat:=setRow_heap w b arr arr' e (0,0) hw;have hshape:dN w.heap[b]? (w.setRow b arr').heap[b]?:=λa t ha=>by
  rw [hw] at ha;cases ha;exact ⟨arr',hat,hs⟩
 have hE:=h.st.turn_ext hlk hi (c:=.row e cs') rfl (by rw [hk];exact ⟨rfl,hsh⟩) hz (λj hj=>setRow_other w b j arr' hj) hshape;have hC:bX ([ea k (.row e cs') hp]++hp)=upd (bX hp) k (.row e cs'):=jH (by rw [hk];simp) (by simp);refine ⟨⟨?_,λj hj h0 hjl=>?_,λj hj hv=>by rw [hC] at hv;exact mc h.nov (λe=>by cases e) j hj hv⟩,?_⟩
 ·rw [hC];refine h.st.turn hlk hi rfl (by rw [hk];exact ⟨rfl,hsh⟩) hz (λj hj=>setRow_other w b j arr' hj) hshape rfl rfl rfl ?_;simp only [fH,hi];exact ⟨arr',hat,by rw [hs];exact hl,λi x hix=>(hx i x hix).mono hE⟩
 ·rw [hC] at hjl ⊢;have hlo:(bX hp j).live=true:=by
   by_cases hjk:j=k
   ·subst hjk;exact hlk
   ·rwa [dP _ _ hjk] at hjl
  exact (h.kept j hj h0 hlo).step hE hlo hjl
 ·simp only [fk,hC];exact hE
theorem DU (h:dS X hp nx ids w) {t:TypeId} {s v:SV} {x y:Value} (hd:cV X hp ids w s x) (hv:cV X hp ids w v y) {side:Prop} {e:dx}
  (he:oz X.P t s v hp nx = .ok side e) (hs:side):wc X hp ids w ((Instr.storeAt t x y).run X.P w) e:=by
 unfold oz at he;split at he
 ·rename_i k off;obtain ⟨t',cs,hk,ht⟩:=gz he;cases ht;obtain ⟨h1,h2,h3⟩:=hs;obtain ⟨b,o,hi,rfl⟩:=pY hd (by rw [hk];rfl);have hc:=h.st.ch k;rw [hk] at hc;simp only [fH,hi] at hc;obtain ⟨arr,hw,hl,hx⟩:=hc;obtain ⟨c1,c2,c3⟩:=wg hv h2;obtain ⟨i,hti,hsz⟩:=np h1;have hlen:(y.cells.toList).length=(er v).length:=by simpa using c1
  have hrun:=run_storeCells_at (P:=X.P) b (o+off) t' y.cells.toList 0 arr w hw (by rw [hlen];omega) c3;simp only [eG] at hrun;have hst:(Instr.storeAt t (.pointer (some ⟨b,o+off,none⟩)) y).run X.P w = .ok () (w.setRow b (arr.toList.take (o+off)++y.cells.toList++arr.toList.drop (o+off+y.cells.toList.length)).toArray):=by
   simp only [Instr.storeAt,Instr.sureAddr,c_,eK,dv,storeVar,sizeOf,typeInfo];simp [hti,hsz,c1,hrun]
  have hsize:(arr.toList.take (o+off)++y.cells.toList++arr.toList.drop (o+off+y.cells.toList.length)).toArray.size=arr.size:=by
   simp only [oi,dW,gL,jz,jA];rw [c1];omega
  have:=tC h hk hi (cs':=fT cs off (er v)) hw hsize (by rw [lc];exact hl) (by rw [lc];exact cF _) (λj z hj=>by
   rw [se _ _ _ _ h3] at hj;have hget:∀ q,(arr.toList.take (o+off)++y.cells.toList++arr.toList.drop (o+off+y.cells.toList.length)).toArray.getD q undef =
     if q<o+off then arr.getD q undef else if q<o+off+y.cells.size then y.cells.getD (q-(o+off)) undef else arr.getD q undef:=by
    intro q;have hoo:o+off<=arr.size:=by omega
    simp only [cQ,pI];by_cases hq:q<o+off
    ·rw [if_pos hq,fJ,iR (by simp;omega),mJ,if_pos hq];simp
    ·rw [if_neg hq,fJ,jB (by simp;omega)];simp only [gL,jA,Nat.min_eq_left hoo];by_cases hq2:q<o+off+y.cells.size
     ·rw [if_pos hq2,iR (by simp;omega)];simp
     ·rw [if_neg hq2,jB (by simp;omega),nh];simp only [jA,sL];congr 2;omega
   rw [hget];by_cases hj1:off<=j/\j<off+(er v).length
   ·rw [if_pos hj1] at hj;rw [if_neg (by omega),if_pos (by omega),show o+j-(o+off)=j-off from by omega];exact c2 _ _ hj
   ·rw [if_neg hj1] at hj;have hxj:=hx j z hj;split
    ·exact hxj
    ·rw [if_neg (by omega)];exact hxj)
  exact ⟨_,ids,hst,this.1,this.2⟩
 ·cases he
theorem heap_alloc (h:dS X hp nx ids w) {e:TypeId} {cs:List SV} {arr:Array Value} (hl:cs.length<=arr.size) (hx:∀ i x,cs[i]? = some x->cV X hp ids w x (arr.getD i undef)) :
  HeapC X ([(Nm.t nx,.row e cs)]++hp) (upd ids (Nm.t nx) (some (w.heap.size,0))) (w.alloc (.cells arr e))/\fk X hp ids w ([(Nm.t nx,.row e cs)]++hp) (upd ids (Nm.t nx) (some (w.heap.size,0))) (w.alloc (.cells arr e)):=by
 have hb:bX hp (Nm.t nx) = .unborn:=h.fresh;have hC:bX ([(Nm.t nx,.row e cs)]++hp)=upd (bX hp) (Nm.t nx) (.row e cs):=dw nx _ hp;have hE:=h.st.alloc_ext hb (.row e cs) (.cells arr e);refine ⟨⟨?_,λj hj h0 hjl=>?_,λj hj hv=>by rw [hC] at hv;exact mc h.nov (λe=>by cases e) j hj hv⟩,?_⟩
 ·rw [hC];refine h.st.alloc hb _ _ ?_;simp only [fH,cH];exact ⟨arr,jG w _,by simpa using hl,λi x hi=>by rw [dm];exact (hx i x hi).mono hE⟩
 ·have hjn:j≠Nm.t nx:=λe=>by have:=h.m_le;subst e;simp at hj;omega
  rw [hC] at hjl ⊢;have hlo:(bX hp j).live=true:=by rwa [dP _ _ hjn] at hjl
  exact (h.kept j hj h0 hlo).step hE hlo hjl
 ·simp only [fk,hC];exact hE
def wh (P:Program) (t:TypeId) (nx:Nat):eY :=
 match tB P t with
 | some cs=>.ok True ⟨.ptr nx 0,[(Nm.t nx,.row t cs)],nx+1,[]⟩
 | none=>.bad
def LR (t:TypeId) (x:SV) (nx:Nat):eY:=.ok ((er x).all i_=true) ⟨.ptr nx 0,[(Nm.t nx,.row t (er x))],nx+1,[]⟩
theorem EK (X:Cx) (hp:Hp) (nx:Nat) (ids:dE) (w w':World) (c:cp) (hc:c.live=true):cV X ([(Nm.t nx,c)]++hp) (upd ids (Nm.t nx) (some (w.heap.size,0))) w' (.ptr nx 0) (.pointer (some ⟨w.heap.size,0,none⟩)) :=
 .ptr w.heap.size 0 (by rw [fF,dw,cH];exact hc) (cH _ _ _)
theorem DV (h:dS X hp nx ids w) {t:TypeId} {side:Prop} {e:dx} (he:wh X.P t nx = .ok side e) (old:Value):fQ X hp ids w ((Instr.alloc t true old).run X.P w) e:=by
 unfold wh at he;split at he
 ·rename_i cs hz;cases he;unfold tB at hz;cases hi:X.P.info? t with
  | none=>rw [hi] at hz;cases hz
  | some i =>
   rw [hi] at hz;cases hzz:i.zero with
   | none=>simp [hzz] at hz
   | some z =>
    simp [hzz] at hz;obtain ⟨h1,h2⟩:=heap_alloc h (e:=t) (cs:=cs) (arr:=z.cells) (by rw [←hz];simp) (λj x hj=>by
     rw [←hz] at hj;have:=EJ (ids:=ids) (w:=w) X.P (bX hp) (Im X.w0 X.I0 X.W0 (bX hp) ids w) (l:=z.cells.toList) j x (by simpa using hj);simpa using this)
    refine ⟨_,_,_,?_,h1,h2,EK X hp nx ids w _ _ rfl⟩;simp [Instr.alloc,zeroValue,typeInfo,hi,hzz,newVar,newRow]
 ·cases he
theorem GX (h:dS X hp nx ids w) {t:TypeId} {s:SV} {x:Value} (hd:cV X hp ids w s x) {side:Prop} {e:dx} (he:LR t s nx = .ok side e) (hs:side):fQ X hp ids w ((Instr.box t x).run X.P w) e:=by
 cases he;obtain ⟨c1,c2,c3⟩:=wg hd hs;obtain ⟨h1,h2⟩:=heap_alloc h (e:=t) (cs:=er s) (arr:=x.cells) (by omega) c2;refine ⟨_,_,_,?_,h1,h2,EK X hp nx ids w _ _ rfl⟩;simp [Instr.box,newVar,newRow]
end
section
open Go.RowKit
variable {X:Cx} {hp:Hp} {nx:Nat} {ids:dE} {w:World}
def wj (P:Program) (t:TypeId) (f:Nat):Option (Nat×TypeId×Nat) :=
 match P.underlying t with
 | some (.struct fs)=>(fs[f]?).bind λfl=>(jI P fl.type).bind λn=>if n=0 then none else some (fl.offset,fl.type,n)
 | _=>none
def ja (P:Program) (t:TypeId):Option (TypeId×Nat) :=
 match P.underlying t with
 | some (.slice e)=>(jI P e).map λn=>(e,n)
 | _=>none
def t7 (P:Program) (t:TypeId):Option (Nat×TypeId×Nat) :=
 match P.underlying t with
 | some (.array l e)=>(jI P e).map λn=>(l,e,n)
 | _=>none
theorem xQ {P:Program} {t f o ft n} (h:wj P t f=some (o,ft,n)):∃ fs fl i,P.underlying t=some (.struct fs)/\fs[f]? = some fl/\fl.offset=o/\fl.type=ft/\P.info? ft=some i/\i.size=n/\n≠0:=by
 unfold wj at h;split at h
 ·rename_i fs hu;cases hf:fs[f]? with
  | none=>rw [hf] at h;cases h
  | some fl =>
   rw [hf] at h;simp only [cx] at h;cases hz:jI P fl.type with
   | none=>rw [hz] at h;cases h
   | some m =>
    rw [hz] at h;simp only [cx] at h;split at h
    ·cases h
    ·cases h;obtain ⟨i,hi,hs⟩:=np hz;exact ⟨fs,fl,i,hu,hf,rfl,rfl,hi,hs,by assumption⟩
 ·cases h
theorem gP {P:Program} {t e n} (h:ja P t=some (e,n)):∃ i,P.underlying t=some (.slice e)/\P.info? e=some i/\i.size=n:=by
 unfold ja at h;split at h
 ·rename_i e' hu;cases hz:jI P e' with
  | none=>rw [hz] at h;cases h
  | some m =>
   rw [hz] at h;cases h;obtain ⟨i,hi,hs⟩:=np hz;exact ⟨i,hu,hi,hs⟩
 ·cases h
theorem tD {P:Program} {t l e n} (h:t7 P t=some (l,e,n)):∃ i,P.underlying t=some (.array l e)/\P.info? e=some i/\i.size=n:=by
 unfold t7 at h;split at h
 ·rename_i l' e' hu;cases hz:jI P e' with
  | none=>rw [hz] at h;cases h
  | some m =>
   rw [hz] at h;cases h;obtain ⟨i,hi,hs⟩:=np hz;exact ⟨i,hu,hi,hs⟩
 ·cases h
theorem qb (b o n:Nat):(⟨b,o,none⟩:Addr).add n=⟨b,o+n,none⟩:=Addr.add_mid b o n
theorem uQ {P:Program} {C:Nm->cp} {I:Nat->Prop} {y:Value} {k off} (h:dT P C ids I w (.ptr k off) y):(C k = .dead/\∃ b q,y = .pointer (some ⟨b,q,none⟩))\/((C k).live=true/\∃ b o,ids k=some (b,o)/\y = .pointer (some ⟨b,o+off,none⟩)):=by
 cases h with
 | ptrDead b q h=>exact .inl ⟨h,b,q,rfl⟩
 | ptr b o hl hi=>exact .inr ⟨hl,b,o,hi,rfl⟩
def tE (c:cp) (r:eY):eY:=match c with
 | .row _ _=>r
 | _=>.bad
theorem nt {c:cp} {r:eY} {s e} (h:tE c r = .ok s e):(∃ t cs,c = .row t cs)/\r = .ok s e:=by
 cases c<;>simp only [tE] at h<;>first|exact ⟨⟨_,_,rfl⟩,h⟩|cases h
def ky (P:Program) (t:TypeId) (x:SV) (f:Nat) (hp:Hp) (nx:Nat):eY :=
 match wj P t f with
 | some (o,_,_)=>match x with
  | .ptr k off=>.ok True ⟨.ptr k (off+o),[],nx,[]⟩
  | .iptr cs off=>.ok True ⟨.iptr cs (off+o),[],nx,[]⟩
  | _=>.bad
 | none=>.bad
theorem yV (h:dS X hp nx ids w) {t:TypeId} {f:Nat} {s:SV} {x:Value} (hd:cV X hp ids w s x) {side:Prop} {e:dx} (he:ky X.P t s f hp nx = .ok side e) (hs:side) :
  fQ X hp ids w ((Instr.fieldAt t x f).run X.P w) e:=by
 unfold ky at he;split at he
 ·rename_i o ft n hf;obtain ⟨fs,fl,i,hu,hfl,ho,hft,hi,hsz,hn⟩:=xQ hf;have hrun:∀ b q,(Instr.fieldAt t (.pointer (some ⟨b,q,none⟩)) f).run X.P w = .ok (.pointer (some ⟨b,q+o,none⟩)) w:=by
   intro b q;subst ho;subst hft;subst hsz;simp only [Instr.fieldAt,c_,dF hu w,dv,hfl];simp [Instr.sureAddr,fieldPlace,sizeOf,typeInfo,hi,hn,qb]
  split at he
  ·rename_i k off;cases he;rcases uQ hd with ⟨hk,b,q,rfl⟩|⟨hl,b,q,hid,rfl⟩
   ·exact cW h (hrun b q) (.ptrDead b _ hk)
   ·have:=hrun b (q+off);exact cW h this (by rw [iT];exact .ptr b q hl hid)
  ·rename_i cs off;cases he;obtain ⟨b,q,c,hI,rfl,hc,hx⟩:=qN hd;have:=hrun b (q+off);exact cW h this (by rw [iT];exact .iptr b q c hI hc hx)
  ·cases he
 ·cases he
def Aj (P:Program) (x:SV):SV:=match x with
 | .v (.pointer (some ⟨g,0,none⟩))=>match yT P g with
  | some cs=>.iptr cs 0
  | none=>x
 | _=>x
theorem DW {x:SV} {y:Value} (h:HeapC X hp ids w) (hd:qa X.I0 X.w0 x y):cV X hp ids w x y:=by
 unfold qa at hd;split at hd
 ·rw [hd];exact .v
 ·obtain ⟨b,q,cap,rfl,h1,h2,h3,h4⟩:=hd;obtain ⟨h5,h6⟩:=h.st.im0 b h1;refine .sl b q cap (λi=>match (‹List SV›:List SV)[i]? with|some (.v v)=>v|_=>undef) ⟨.inl h1,qG h5 h.st.size,λk hl o hi=>?_⟩ h2 h3 (λi x hi=>?_) (λi x hi=>?_)
  ·rcases (h.st.lt k b o hl hi).2 with h7|h7
   ·exact h6 h7
   ·omega
  ·obtain ⟨v,rfl,hv⟩:=h4 i x hi;simp only [hi];exact (nV (h.st.evol b h5 h6)).trans hv
  ·obtain ⟨v,rfl,hv⟩:=h4 i x hi;simp only [hi];exact .v
 ·exact hd.elim
theorem EL {s:SV} {y:Value} (h:HeapC X hp ids w) (hd:cV X hp ids w s y):cV X hp ids w (Aj X.P s) y:=by
 unfold Aj;split
 ·rename_i g;split
  ·rename_i cs hc;cases hd;obtain ⟨h1,h2⟩:=X.gl g cs hc;obtain ⟨h3,h4⟩:=h.st.im0 g h1;refine .iptr g 0 (λi=>(X.w0.cell? ⟨g,i,none⟩).getD undef) ⟨.inl h1,qG h3 h.st.size,λk hl o hi=>?_⟩ (λi x hi=>?_) (λi x hi=>?_)
   ·rcases (h.st.lt k g o hl hi).2 with h5|h5
    ·exact h4 h5
    ·omega
   ·obtain ⟨y,hy,hd⟩:=h2 i x hi;rw [dm,(nV (h.st.evol g h3 h4)).trans hy,hy];rfl
   ·obtain ⟨y,hy,hd⟩:=h2 i x hi;rw [hy];exact DW h hd
  ·exact hd
 ·exact hd
def ll (P:Program) (t:TypeId) (x i:SV) (hp:Hp) (nx:Nat):eY :=
 match i with
 | .v (.int _ n) =>
  match ja P t with
  | some (_,z)=>match x with
   | .own k off len=>tE (bX hp k) (.ok (0<=n/\n<len) ⟨.ptr k (off+n.toNat*z),[],nx,[k.key]⟩)
   | .sl len cs=>.ok (0<=n/\n<len) ⟨.iptr cs (n.toNat*z),[],nx,[]⟩
   | _=>.bad
  | none=>match t7 P t with
   | some (len,_,z)=>match x with
    | .ptr k off=>.ok (0<=n/\n<len) ⟨.ptr k (off+n.toNat*z),[],nx,[]⟩
    | .iptr cs off=>.ok (0<=n/\n<len) ⟨.iptr cs (off+n.toNat*z),[],nx,[]⟩
    | _=>.bad
   | none=>.bad
 | _=>.bad
theorem DX {P:Program} {C:Nm->cp} {I:Nat->Prop} {y:Value} {k off n} (h:dT P C ids I w (.own k off n) y) (hl:(C k).live=true) (hn:0<n) :
 ∃b o cap,ids k=some (b,o)/\y = .slice (some ⟨b,o+off,none⟩) n cap:=by
 obtain ⟨a,cap,rfl,h1,h2,_,h3⟩:=md h hl;rcases h3 with ⟨h3,_⟩|⟨b,o,e,cs,arr,hc,hi,rfl,_⟩
 ·omega
 ·exact ⟨b,o,cap,hi,rfl⟩
theorem r9 {P:Program} {t e:TypeId} {i:TypeInfo} (hu:P.underlying t=some (.slice e)) (hi:P.info? e=some i) (b o len cap:Nat) (kd:IntKind) (n:Int) (h0:0<=n) (h1:n<len) (w:World) :
  (Instr.indexAt t (.slice (some ⟨b,o,none⟩) len cap) (.int kd n)).run P w = .ok (.pointer (some ⟨b,o+n.toNat*i.size,none⟩)) w:=by
 simp [Instr.indexAt,asIntOf,dF hu,sizeOf,typeInfo,hi,h0,h1,qb]
theorem qc {P:Program} {t e:TypeId} {len:Nat} {i:TypeInfo} (hu:P.underlying t=some (.array len e)) (hi:P.info? e=some i) (b o:Nat) (kd:IntKind) (n:Int) (h0:0<=n) (h1:n<len) (w:World) :
  (Instr.indexAt t (.pointer (some ⟨b,o,none⟩)) (.int kd n)).run P w = .ok (.pointer (some ⟨b,o+n.toNat*i.size,none⟩)) w:=by
 simp [Instr.indexAt,asIntOf,dF hu,Instr.sureAddr,sizeOf,typeInfo,hi,h0,h1,qb]
theorem yW (h:dS X hp nx ids w) {t:TypeId} {s q:SV} {x y:Value} (hd:cV X hp ids w s x) (hq:cV X hp ids w q y) {side:Prop} {e:dx} (he:ll X.P t s q hp nx = .ok side e) (hs:side) :
  fQ X hp ids w ((Instr.indexAt t x y).run X.P w) e:=by
 unfold ll at he;split at he
 ·rename_i kd n;obtain rfl:=d9 hq;split at he
  ·rename_i e' z hz;obtain ⟨i,hu,hi,rfl⟩:=gP hz;split at he
   ·rename_i k off len;obtain ⟨⟨t',cs,hk⟩,he⟩:=nt he;cases he;obtain ⟨h0,h1⟩:=hs;obtain ⟨b,o,cap,hid,rfl⟩:=DX hd (by rw [hk];rfl) (by omega);exact cW h (r9 hu hi _ _ _ _ _ _ h0 h1 w) (by rw [iT];exact .ptr b o (by rw [hk];rfl) hid)
   ·rename_i len cs;cases he;obtain ⟨h0,h1⟩:=hs;obtain ⟨a,cap,rfl,_,_,h3⟩:=sP hd;rcases h3 with ⟨h3,_⟩|⟨b,o,c,rfl,hI,hc,hx⟩
    ·omega
    ·exact cW h (r9 hu hi _ _ _ _ _ _ h0 h1 w) (.iptr b o c hI hc hx)
   ·cases he
  ·split at he
   ·rename_i len e' z hz;obtain ⟨i,hu,hi,rfl⟩:=tD hz;split at he
    ·rename_i k off;cases he;obtain ⟨h0,h1⟩:=hs;rcases uQ hd with ⟨hk,b,o,rfl⟩|⟨hl,b,o,hid,rfl⟩
     ·exact cW h (qc hu hi _ _ _ _ h0 h1 w) (.ptrDead b _ hk)
     ·exact cW h (qc hu hi _ _ _ _ h0 h1 w) (by rw [iT];exact .ptr b o hl hid)
    ·rename_i cs off;cases he;obtain ⟨h0,h1⟩:=hs;obtain ⟨b,o,c,hI,rfl,hc,hx⟩:=qN hd;exact cW h (qc hu hi _ _ _ _ h0 h1 w) (by rw [iT];exact .iptr b o c hI hc hx)
    ·cases he
   ·cases he
 ·cases he
def BO (P:Program) (t:TypeId) (cs:List SV) (off nx:Nat):eY:=kx P t cs off [] nx
theorem B9 {P:Program} {C:Nm->cp} {I:Nat->Prop} {t:TypeId} {cs:List SV} {arr:Array Value} (hl:cs.length=arr.size) (hx:∀ i x,cs[i]? = some x->dT P C ids I w x (arr.getD i undef)) {off:Nat} {side:Prop} {e:dx}
  (h:BO P t cs off nx = .ok side e) (hs:side):e.upd=[]/\e.nx=nx/\∃ x,(part t arr off).run P w = .ok x w/\dT P C ids I w e.val x:=by
 unfold BO kx at h;split at h
 ·rename_i n ha hn;cases h;obtain ⟨i,hi,rfl⟩:=np hn;refine ⟨rfl,rfl,.agg (arr.extract off (off+i.size)),?_,.agg _ ?_ λj x hj=>?_⟩
  ·simp [part,c_,yh ha w,sizeOf,typeInfo,hi]
  ·simp only [gL,jz,Array.size_extract];omega
  ·rw [mJ] at hj;split at hj
   ·rw [nh] at hj;have h1:=hx _ _ hj;have hlt:off+j<arr.size:=by have:=(dy.1 hj).1;omega
    have hside:off+i.size<=cs.length:=hs;rw [cQ,d6 hlt] at h1;rw [cQ,uJ,if_pos (by omega),d6 hlt];exact h1
   ·cases hj
 ·rename_i ha;cases h;have hoff:off<cs.length:=hs;refine ⟨rfl,rfl,arr.getD off undef,?_,?_⟩
  ·simp only [part,c_,yh ha w,dv,fy,lJ];simp [cQ,d6 (show off<arr.size by omega)]
  ·have:=hx off _ (dz hoff);simpa [dA,dz hoff] using this
 ·cases h
def wl (P:Program) (t:TypeId) (x:SV) (f nx:Nat):eY :=
 match wj P t f,x with
 | some (o,ft,_),.agg cs=>BO P ft cs o nx
 | _,_=>.bad
theorem DY (h:dS X hp nx ids w) {t:TypeId} {f:Nat} {s:SV} {x:Value} (hd:cV X hp ids w s x) {side:Prop} {e:dx} (he:wl X.P t s f nx = .ok side e) (hs:side) :
  fQ X hp ids w ((Instr.field t x f).run X.P w) e:=by
 unfold wl at he;split at he
 ·rename_i o ft n cs hf;obtain ⟨fs,fl,i,hu,hfl,ho,hft,hi,hsz,hn⟩:=xQ hf;obtain ⟨arr,rfl,hl,hx⟩:=mW hd;obtain ⟨h1,h2,y,hr,hy⟩:=B9 hl hx he hs;obtain ⟨val,up,nx',rds'⟩:=e;simp only at h1 h2;subst h1;subst h2;subst ho;subst hft;exact cW h (by simp only [Instr.field,c_,dF hu w,dv,hfl,asAgg];exact hr) hy
 ·cases he
def uj (P:Program) (t:TypeId) (x i:SV) (nx:Nat):eY :=
 match x,i with
 | .agg cs,.v (.int _ n)=>match t7 P t with
  | some (len,e,z)=>match BO P e cs (n.toNat*z) nx with
   | .ok s r=>.ok ((0<=n/\n<len)/\s) r
   | .bad=>.bad
  | none=>.bad
 | .v (.string s),.v (.int _ n)=>match P.underlying t with
  | some .string=>.ok (0<=n/\n<s.size) ⟨.v (.int .u8 (s.data.getD n.toNat 0).toNat),[],nx,[]⟩
  | _=>.bad
 | _,_=>.bad
theorem DZ (h:dS X hp nx ids w) {t:TypeId} {s q:SV} {x y:Value} (hd:cV X hp ids w s x) (hq:cV X hp ids w q y) {side:Prop} {e:dx} (he:uj X.P t s q nx = .ok side e) (hs:side) :
  fQ X hp ids w ((Instr.index t x y).run X.P w) e:=by
 unfold uj at he;split at he
 ·rename_i cs kd n;obtain rfl:=d9 hq;obtain ⟨arr,rfl,hl,hx⟩:=mW hd;split at he
  ·rename_i len e' z hz;obtain ⟨i,hu,hi,rfl⟩:=tD hz;split at he
   ·rename_i s' r hp';cases he;obtain ⟨⟨h0,h1⟩,hs'⟩:=hs;obtain ⟨g1,g2,y,hr,hy⟩:=B9 hl hx hp' hs';obtain ⟨val,up,nx',rds'⟩:=e;simp only at g1 g2;subst g1;subst g2;exact cW h (by simp only [Instr.index,asIntOf,c_,eK,dF hu w,dv,h0,h1,and_self,if_true,sizeOf,typeInfo];simp [hi,hr]) hy
   ·cases he
  ·cases he
 ·rename_i s kd n;split at he
  ·rename_i hu;cases he;obtain rfl:=d9 hq;obtain rfl:=d9 hd;obtain ⟨h0,h1⟩:=hs;refine cW h ?_ .v;simp only [Instr.index,asIntOf,c_,eK,dF hu w,dv,h0,if_true];have hlt:n.toNat<s.size:=by omega
   have hlt':n.toNat<s.data.size:=hlt;rw [getElem?_pos s n.toNat hlt];simp [ByteArray.getElem_eq_getElem_data,cQ,d6 hlt']
  ·cases he
 ·cases he
end
section
open Go.RowKit
variable {X:Cx} {hp:Hp} {nx:Nat} {ids:dE} {w:World}
def ra (place:Nat->Option (Nat×Nat)) (cs:List SV):List (Nat×SV)->Option (List SV)
 | []=>some cs
 | p::r=>match place p.1 with
  | some (o,n)=>bif (er p.2).length==n&&(Nat.ble (o+n) cs.length&&(er p.2).all i_) then ra place (fT cs o (er p.2)) r else none
  | none=>none
def GY (P:Program) (t:TypeId):Option (List (Nat×Nat)) :=
 match P.underlying t with
 | some (.struct fs)=>fs.toList.mapM (λf=>(P.info? f.type).map λi=>(f.offset,i.size))
 | _=>none
structure uk (P:Program) (C:Nm->cp) (ids:dE) (I:Nat->Prop) (w:World) (cs:List SV) (arr:Array Value):Prop where
 len:cs.length=arr.size
 den:∀ i x,cs[i]? = some x->dT P C ids I w x (arr.getD i undef)
theorem uR {P:Program} {C:Nm->cp} {I:Nat->Prop} {place:Nat->Option (Nat×Nat)} :∀ (ps:List (Nat×SV)) (vs:List (Nat×Value)) (cs:List SV) (arr:Array Value) (out:List SV),
  ps.length=vs.length->(∀ (i:Nat) (p:Nat×SV) (q:Nat×Value),ps[i]? = some p->vs[i]? = some q->p.1=q.1/\dT P C ids I w p.2 q.2)->uk P C ids I w cs arr->ra place cs ps=some out ->
 ∃res,Instr.fill place arr vs=some res/\uk P C ids I w out res
 | [],[],cs,arr,out,_,_,hA,h=>by simp only [ra,fP] at h;subst h;exact ⟨arr,rfl,hA⟩
 | [],_::_,_,_,_,h,_,_,_=>by simp at h
 | _::_,[],_,_,_,h,_,_,_=>by simp at h
 | p::ps,q::vs,cs,arr,out,hl,hd,hA,h=>by
  obtain ⟨h1,h2⟩:=hd 0 p q rfl rfl
  simp only [ra] at h
  split at h
  ·rename_i o n hpl
   cases hb:((er p.2).length==n&&(Nat.ble (o+n) cs.length&&(er p.2).all i_)) with
   | false=>rw [hb] at h;cases h
   | true =>
    rw [hb] at h
    simp only [cT,jC,Nat.ble_eq] at hb
    obtain ⟨b1,b2,b3⟩:=hb
    obtain ⟨c1,c2,c3⟩:=wg h2 b3
    obtain ⟨f1,f2⟩:=Go.Great.foldl_set o q.2.cells.toList 0 arr
    have hA':uk P C ids I w (fT cs o (er p.2)) ((q.2.cells.toList.zipIdx 0).foldl (λcs (x:Value×Nat)=>cs.setIfInBounds (o+x.2) x.1) arr):=by
     refine ⟨by rw [lc,f1,hA.len],λi x hi=>?_⟩;rw [se _ _ _ _ (by omega)] at hi;rw [cQ,f2 i];have hlen:q.2.cells.toList.length=(er p.2).length:=by simpa using c1
     have hal:=hA.len;split at hi
     ·rename_i hin;have:=c2 _ _ hi;simp only [eG,ni,hlen] at *;rw [if_pos (by omega)];rw [cQ] at this;simpa using this
     ·rename_i hin;have hi2:=hA.den _ _ hi;simp only [eG,ni,hlen] at *;rw [if_neg (by omega)];rw [cQ] at hi2;exact hi2
    obtain ⟨res,hr,hAr⟩:=uR ps vs _ _ out (by simpa using hl) (λi a b ha hb'=>hd (i+1) a b (by simpa using ha) (by simpa using hb')) hA' h;refine ⟨res,?_,hAr⟩;rw [show (q:Nat×Value)=(q.1,q.2) from rfl];simp only [Instr.fill];rw [←h1,hpl];simp only;rw [if_neg (by simp only [kZ,iU,not_or];exact ⟨by simp [c1,b1],by rw [c1,b1,←hA.len];omega⟩)];rw [←Array.foldl_toList,Array.toList_zipIdx];exact hr
  ·cases h
def wm (P:Program) (t:TypeId) (parts:List (Nat×SV)) (nx:Nat):eY :=
 match tB P t with
 | some z=>match GY P t with
  | some pl=>match ra (λi=>pl[i]?) z parts with
   | some cs=>.ok True ⟨.agg cs,[],nx,[]⟩
   | none=>.bad
  | none=>match t7 P t with
   | some (_,_,n)=>match ra (λi=>some (i*n,n)) z parts with
    | some cs=>.ok True ⟨.agg cs,[],nx,[]⟩
    | none=>.bad
   | none=>.bad
 | none=>.bad
theorem uS {P:Program} {t cs} (h:tB P t=some cs):∃ i z,P.info? t=some i/\i.zero=some z/\cs=z.cells.toList.map .v:=by
 unfold tB at h;cases hi:P.info? t with
 | none=>rw [hi] at h;cases h
 | some i =>
  rw [hi] at h;cases hz:i.zero with
  | none=>simp [hz] at h
  | some z=>simp [hz] at h;exact ⟨i,z,rfl,hz,h.symm⟩
theorem yX (P:Program) (C:Nm->cp) (I:Nat->Prop) (arr:Array Value):uk P C ids I w (arr.toList.map .v) arr :=
 ⟨by simp,λi x h=>by have:=EJ (ids:=ids) (w:=w) P C I (l:=arr.toList) i x h;simpa using this⟩
theorem D0 (h:dS X hp nx ids w) {t:TypeId} {ps:List (Nat×SV)} {vs:Array (Nat×Value)} (hl:ps.length=vs.size)
  (hd:∀ (i:Nat) (p:Nat×SV) (q:Nat×Value),ps[i]? = some p->vs.toList[i]? = some q->p.1=q.1/\cV X hp ids w p.2 q.2) {side:Prop} {e:dx} (he:wm X.P t ps nx = .ok side e) :
  fQ X hp ids w ((Instr.build t vs).run X.P w) e:=by
 unfold wm at he;split at he
 ·rename_i z hz;obtain ⟨i,zv,hi,hzv,rfl⟩:=uS hz;split at he
  ·rename_i pl hpl;split at he
   ·rename_i cs hf;cases he;obtain ⟨res,hr,hA⟩:=uR ps vs.toList _ _ _ (by simpa using hl) hd (yX _ _ _ zv.cells) hf;unfold GY at hpl;split at hpl
    ·rename_i fs hu;refine cW h (run_build w t vs res ?_) (.agg res hA.len hA.den);unfold Program.built;simp only [hi,hu,hzv,hpl];simpa using hr
    ·cases hpl
   ·cases he
  ·split at he
   ·rename_i n' e' n ha;split at he
    ·rename_i cs hf;cases he;obtain ⟨j,hu,hj,rfl⟩:=tD ha;obtain ⟨res,hr,hA⟩:=uR ps vs.toList _ _ _ (by simpa using hl) hd (yX _ _ _ zv.cells) hf;refine cW h (run_build w t vs res ?_) (.agg res hA.len hA.den);unfold Program.built;simp only [hi,hu,hzv,hj];exact hr
    ·cases he
   ·cases he
 ·cases he
def ph (P:Program) (t:TypeId) (len:Nat) (parts:List (Nat×SV)) (nx:Nat):eY :=
 match ja P t with
 | some (e,n)=>match tB P e with
  | some z=>bif (Nat.ble (len*n) 16777216 && !(len*n==0))&&z.length==n then match ra (λi=>some (i*n,n)) ((List.range len).flatMap λ_=>z) parts with
   | some cs=>.ok True ⟨.own nx 0 len,[(Nm.t nx,.row e cs)],nx+1,[]⟩
   | none=>.bad
   else .bad
  | none=>.bad
 | none=>.bad
theorem gg {α:Type} (z:List α):∀ (len:Nat),((List.range len).flatMap λ_=>z).length=len*z.length
 | 0=>by simp
 | len+1=>by rw [List.range_succ,uK,dW,gg z len,List.flatMap_singleton,qH]
theorem getElem?_flatMap_const {α:Type} (z:List α):∀ (len i:Nat),i<len*z.length->((List.range len).flatMap λ_=>z)[i]? = z[i%z.length]?
 | 0,i,h=>by simp at h
 | len+1,i,h=>by
  rw [List.range_succ,uK,List.flatMap_singleton]
  have hl:=gg z len
  by_cases hi:i<len*z.length
  ·rw [iR (by omega)];exact getElem?_flatMap_const z len i hi
  ·rw [jB (by omega),hl]
   rw [qH] at h
   have:i%z.length=i-len*z.length:=by
    have h2:i=(i-len*z.length)+z.length*len:=by rw [Nat.mul_comm z.length];omega
    rw [h2,Nat.add_mul_mod_self_left,uL (by omega),Nat.mul_comm z.length];omega
   rw [this]
theorem yi (h:dS X hp nx ids w) {t:TypeId} {len:Nat} {ps:List (Nat×SV)} {vs:Array (Nat×Value)} (hl:ps.length=vs.size)
  (hd:∀ (i:Nat) (p:Nat×SV) (q:Nat×Value),ps[i]? = some p->vs.toList[i]? = some q->p.1=q.1/\cV X hp ids w p.2 q.2) {side:Prop} {e:dx} (he:ph X.P t len ps nx = .ok side e) :
  fQ X hp ids w ((Instr.buildSlice t len vs).run X.P w) e:=by
 unfold ph at he;split at he
 ·rename_i e' n hsl;obtain ⟨i,hu,hi,rfl⟩:=gP hsl;split at he
  ·rename_i z hz;obtain ⟨i',zv,hi',hzv,rfl⟩:=uS hz;rw [hi] at hi';cases hi';cases hb:((Nat.ble (len*i.size) 16777216 && !(len*i.size==0))&&((zv.cells.toList.map SV.v).length==i.size)) with
   | false=>rw [hb] at he;cases he
   | true =>
    rw [hb] at he;simp only [cT,Nat.ble_eq,km,beq_eq_false_iff_ne,jC,ep,jA] at hb;obtain ⟨⟨b1,b2⟩,b3⟩:=hb;split at he
    ·rename_i cs hf;cases he;have hA0:uk X.P (bX hp) ids (Im X.w0 X.I0 X.W0 (bX hp) ids w) w ((List.range len).flatMap λ_=>zv.cells.toList.map SV.v) ((Array.range (len*i.size)).map (zv.cells[· % zv.cells.size]!)):=by
      refine ⟨by rw [gg];simp [b3],λj x hj=>?_⟩;have hlt:j<len*i.size:=by
       have:=(dy.1 hj).1;rw [gg] at this;simpa [b3] using this
      rw [getElem?_flatMap_const _ _ _ (by simpa [b3] using hlt)] at hj;simp only [ep,jA,fZ] at hj;have hpos:0<zv.cells.size:=by
       rcases Nat.eq_zero_or_pos zv.cells.size with h0|h0
       ·rw [b3] at h0;rw [h0] at b2;simp at b2
       ·exact h0
      have hm:=Nat.mod_lt j hpos;rw [sL,d6 hm] at hj;simp only [fp,fP] at hj;subst hj;rw [cQ,qI,Array.getElem?_range,if_pos hlt];simp only [fp,gY,oj zv.cells (j%zv.cells.size) hm];exact .v
     obtain ⟨res,hr,hA⟩:=uR ps vs.toList _ _ _ (by simpa using hl) hd hA0 hf;have hrun:=run_buildSlice (P:=X.P) w t e' len vs res i zv hu hi hzv (by omega) b2 hr;obtain ⟨g1,g2⟩:=heap_alloc h (e:=e') (cs:=cs) (arr:=res) (by rw [hA.len];exact cF _) hA.den;have hressz:res.size=len*i.size:=by
      have e1:∀ (ps:List (Nat×SV)) (c o:List SV),ra (λj=>some (j*i.size,i.size)) c ps=some o->o.length=c.length:=by
       intro ps;induction ps with
       | nil=>intro c o hh;simp only [ra,fP] at hh;rw [←hh]
       | cons p ps ih =>
        intro c o hh;simp only [ra] at hh;cases hc:((er p.2).length==i.size&&(Nat.ble (p.1*i.size+i.size) c.length&&(er p.2).all i_)) with
        | false=>rw [hc] at hh;cases hh
        | true=>rw [hc] at hh;rw [ih _ _ hh,lc]
      rw [←hA.len,e1 _ _ _ hf,gg];simp [b3]
     have hlm:len<=maxLen:=by
      have:len<=len*i.size:=Nat.le_mul_of_pos_right _ (sM λe=>by rw [e] at b2;simp at b2);unfold maxLen;omega
     refine ⟨_,_,_,hrun,g1,g2,.own (some ⟨w.heap.size,0,none⟩) len ?_ ?_⟩
     ·rw [fF,dw,cH];rfl
     ·refine ⟨cF _,hlm,λe2 cs2 hc2=>?_,.inr ⟨w.heap.size,0,e',cs,res,?_,cH _ _ _,rfl,jG w _,?_⟩⟩
      ·rw [fF,dw,cH] at hc2;cases hc2;rw [hA.len,hressz,show X.P.cellsOf e'=i.size from by simp [Program.cellsOf,hi]];omega
      ·rw [fF,dw,cH]
      ·rw [hressz,show X.P.cellsOf e'=i.size from by simp [Program.cellsOf,hi]];omega
    ·cases he
  ·cases he
 ·cases he
def sQ (x:SV) (i nx:Nat):eY :=
 match x with
 | .tup xs=>match xs[i]? with
  | some y=>eE y nx
  | none=>.bad
 | _=>.bad
theorem BC (h:dS X hp nx ids w) {i:Nat} {s:SV} {x:Value} (hd:cV X hp ids w s x) {side:Prop} {e:dx} (he:sQ s i nx = .ok side e):fQ X hp ids w ((Instr.extract x i).run X.P w) e:=by
 unfold sQ at he;split at he
 ·rename_i xs;split at he
  ·rename_i y hy;cases he;obtain ⟨arr,rfl,hl,hx⟩:=EH hd;have hlt:i<arr.size:=by rw [←hl];exact (dy.1 hy).1
   refine cW h (x:=arr[i]) ?_ (by have:=hx i y hy;rwa [cQ,d6 hlt] at this);simp [Instr.extract,d6 hlt]
  ·cases he
 ·cases he
theorem FG (h:dS X hp nx ids w) {g b:Bool} {s q:SV} {x y:Value} (hg:g=true) (hd:cV X hp ids w s x) (hq:cV X hp ids w q y) {side:Prop} {e:dx} (he:yS g b s q nx = .ok side e) :
  fQ X hp ids w (.ok (if b then x else y) w) e:=by
 unfold yS at he;have e1:b=true->cV X hp ids w (AP (g&&b) s) x:=λhb=>Ah (by simp [hg,hb]) hd;have e2:b=false->cV X hp ids w (AP (g && !b) q) y:=λhb=>Ah (by simp [hg,hb]) hq;have gen:cV X hp ids w (bif b then AP (g&&b) s else AP (g && !b) q) (if b then x else y):=by
  cases b with
  | true=>exact e1 rfl
  | false=>exact e2 rfl
 split at he
 ·rename_i p r h1 h2;cases he;rw [h1,h2] at gen;refine cW h rfl ?_;cases b with
  | true=>exact gen
  | false=>exact gen
 ·rename_i k p k' r h1 h2;rw [h1,h2] at gen;cases hk:(k==k') with
  | false=>rw [hk] at he;cases he;exact cW h rfl gen
  | true =>
   rw [hk] at he;cases he;have:k=k':=by simpa using hk
   subst this;refine cW h rfl ?_;cases b with
   | true=>exact gen
   | false=>exact gen
 ·cases he;exact cW h rfl gen
theorem GZ (h:dS X hp nx ids w) {op:BinOp} {k:IntKind} {a b:Int} {side:Prop} {e:dx} (he:Af op k a b nx = .ok side e) (hs:side) (t:TypeId):fQ X hp ids w ((binOp op t (.int k a) (.int k b)).run X.P w) e:=by
 have hdiv:b≠0->(Op.intDiv .quo k a b).run X.P w = .ok (.int k (k.wrap (a.tdiv b))) w/\(Op.intDiv .rem k a b).run X.P w = .ok (.int k (a.tmod b)) w:=λhb=>by
  simp [Op.intDiv,hb]
 cases op<;>simp only [Af,eE] at he<;>cases he<;>refine cW h ?_ .v;case quo=>simpa [binOp] using (hdiv hs).1
 case rem=>simpa [binOp] using (hdiv hs).2
 all_goals simp [binOp,Op.intArith,Op.intCmp,Op.intBits]
end
section
open Go.RowKit
variable {X:Cx} {hp:Hp} {nx:Nat} {ids:dE} {w:World}
theorem wn (w:World) (b o:Nat) (e:TypeId) (vs:List Value) (arr:Array Value) (hw:w.heap[b]? = some (.cells arr e (0,0))) (hl:o+vs.length<=arr.size) (h1:∀ v∈vs,v.oneCell'=true) :
  w.setCells b o vs=w.setRow b (arr.toList.take o++vs++arr.toList.drop (o+vs.length)).toArray:=by
 have hc:∀ j,j<vs.length->w.cell? ⟨b,o+j,none⟩=some (arr.getD (o+j) undef):=λj hj=>by
  simp only [World.cell?,hw];simp [cQ,d6 (show o+j<arr.size by omega)]
 have h2:=run_storeCells_cells (P:=default) b o vs 0 w (λj hj=>by rw [eG,hc j hj];rfl) (λj hj=>by simp [World.frozen?,hw]) h1;have h3:=run_storeCells_at (P:=default) b o e vs 0 arr w hw (by omega) h1;simp only [eG] at h2 h3;rw [h2] at h3;injection h3
theorem wo (h:dS X hp nx ids w) {k:Nm} {e:TypeId} {cs cs':List SV} {off:Nat} (hk:bX hp k = .row e cs) (hx0:ids k=none->cs'=[])
  (hx:∀ b o arr,ids k=some (b,o)->w.heap[b]? = some (.cells arr e (0,0))->o+off+cs'.length<=arr.size/\∀ i x,cs'[i]? = some x->cV X hp ids w x (arr.getD (o+off+i) undef)) :
  HeapC X ([(Nm.t nx,.row e cs'),ea k .dead hp]++hp) (upd ids (Nm.t nx) ((ids k).map λp=>(p.1,p.2+off))) w/\fk X hp ids w ([(Nm.t nx,.row e cs'),ea k .dead hp]++hp) (upd ids (Nm.t nx) ((ids k).map λp=>(p.1,p.2+off))) w:=by
 have hlk:(bX hp k).live=true:=by rw [hk];rfl
 have hub:bX hp (Nm.t nx) = .unborn:=h.fresh
 have hkn:k≠nx:=λe'=>by subst e';rw [hub] at hlk;cases hlk
 have hC:bX ([(Nm.t nx,.row e cs'),ea k .dead hp]++hp)=upd (upd (bX hp) k .dead) (Nm.t nx) (.row e cs'):=by
  show bX ((Nm.t nx,cp.row e cs')::ea k .dead hp::hp)=_
  rw [dw,jH (iY hlk) (by simp)]
 have hCo:∀ j:Nm,j≠Nm.t nx->j≠k->bX ([(Nm.t nx,.row e cs'),ea k .dead hp]++hp) j=bX hp j:=λj h1 h2=>by rw [hC,dP _ _ h1,dP _ _ h2]
 have hCk:bX ([(Nm.t nx,.row e cs'),ea k .dead hp]++hp) k = .dead:=by rw [hC,dP _ _ hkn,cH]
 have hCn:bX ([(Nm.t nx,.row e cs'),ea k .dead hp]++hp) nx = .row e cs':=by rw [hC,cH]
 have hidn:upd ids (Nm.t nx) ((ids k).map λp=>(p.1,p.2+off)) nx=(ids k).map λp=>(p.1,p.2+off):=cH _ _ _
 have hido:∀ j:Nm,j≠Nm.t nx->upd ids (Nm.t nx) ((ids k).map λp=>(p.1,p.2+off)) j=ids j:=λj h1=>dP _ _ h1
 generalize hC':bX ([(Nm.t nx,.row e cs'),ea k .dead hp]++hp)=C' at hCo hCk hCn
 generalize hI':upd ids (Nm.t nx) ((ids k).map λp=>(p.1,p.2+off))=ids' at hidn hido
 have hnl:∀ j,(bX hp j).live=true->j≠nx:=λj hj e'=>by subst e';rw [hub] at hj;cases hj
 -- a live chunk of the new heap, with its block, is one of the old heap's with the same block
 have hold:∀ j b o,(C' j).live=true->ids' j=some (b,o)->∃ j' o',(bX hp j').live=true/\ids j'=some (b,o')/\(j=nx->j'=k)/\(j≠nx->j'=j):=by
  intro j b o hj hi
  by_cases h1:j=nx
  ·subst h1
   rw [hidn] at hi
   cases hik:ids k with
   | none=>rw [hik] at hi;cases hi
   | some p =>
    rw [hik] at hi
    simp only [fp,fP,iJ] at hi
    exact ⟨k,p.2,hlk,by rw [hik,←hi.1],λ_=>rfl,λh=>absurd rfl h⟩
  ·by_cases h2:j=k
   ·subst h2;rw [hCk] at hj;cases hj
   ·rw [hCo j h1 h2] at hj;rw [hido j h1] at hi
    exact ⟨j,o,hj,hi,λh=>absurd h h1,λ_=>rfl⟩
 have hE:ku (bX hp) ids (Im X.w0 X.I0 X.W0 (bX hp) ids w) w C' ids' (Im X.w0 X.I0 X.W0 C' ids' w) w:=by
  refine ⟨λd hd=>⟨⟨hd.1,hd.2.1,λj hj o hi=>?_⟩,rfl⟩,λj hj=>?_,λj hj=>?_⟩
  ·obtain ⟨j',o',h1,h2,_⟩:=hold j d o hj hi
   exact hd.2.2 j' h1 o' h2
  ·have h1:j≠nx:=λe'=>by subst e';rw [hub] at hj;cases hj
   by_cases h2:j=k
   ·subst h2;exact hCk
   ·rw [hCo j h1 h2];exact hj
  ·by_cases h2:j=k
   ·subst h2;exact .inl hCk
   ·have h1:=hnl j hj
    refine .inr ⟨by rw [hCo j h1 h2];exact hj,hido j h1,by rw [hCo j h1 h2];exact dZ.refl hj,λ_ _ _=>dN.refl _⟩
 refine ⟨⟨⟨λj=>?_,λj j' b o1 o2 hj hj' hi hi'=>?_,λj b o hj hi=>?_,h.st.im0,h.st.evol,h.st.os,h.st.tape,h.st.output,h.st.size⟩,λj hj h0 hjl=>?_,λj hj hv=>by rw [hC] at hv;exact mc (λq hq hvq=>mc h.nov (λe=>by cases e) q hq hvq) (λe=>by cases e) j hj hv⟩,?_⟩
 ·rw [hC']
  by_cases h1:j=nx
  ·subst h1
   rw [hCn]
   simp only [fH,hidn]
   have hc:=h.st.ch k
   rw [hk] at hc
   simp only [fH] at hc
   cases hik:ids k with
   | none =>
    exact hx0 hik
   | some p =>
    obtain ⟨b,o⟩:=p
    rw [hik] at hc
    obtain ⟨arr,ha,hs,hxx⟩:=hc
    simp only [fp]
    obtain ⟨q1,q2⟩:=hx b o arr hik ha
    exact ⟨arr,ha,q1,λi x hi=>(q2 i x hi).mono hE⟩
  ·by_cases h2:j=k
   ·subst h2;rw [hCk];trivial
   ·rw [hCo j h1 h2]
    exact (h.st.ch j).mono hE (hido j h1) (λ_ _ _=>rfl)
 ·rw [hC'] at hj hj'
  obtain ⟨q,p,h1,h2,h3,h4⟩:=hold j b o1 hj hi
  obtain ⟨q',p',h1',h2',h3',h4'⟩:=hold j' b o2 hj' hi'
  have hqq:=h.st.inj q q' b p p' h1 h1' h2 h2'
  by_cases e1:j=nx<;>by_cases e2:j'=nx
  ·rw [e1,e2]
  ·have:=h4' e2;have:=h3 e1;subst_vars
   rw [hCk] at hj';cases hj'
  ·have:=h4 e1;have:=h3' e2;subst_vars
   rw [hCk] at hj;cases hj
  ·have:=h4 e1;have:=h4' e2;subst_vars;rfl
 ·rw [hC'] at hj
  obtain ⟨q,p,h1,h2,_⟩:=hold j b o hj hi
  exact h.st.lt q b p h1 h2
 ·rw [hC'] at hjl ⊢
  have h1:j≠nx:=λe=>by have:=h.m_le;subst e;simp at hj;omega
  have h2:j≠k:=λe'=>by subst e';rw [hCk] at hjl;cases hjl
  have hlo:(bX hp j).live=true:=by rwa [hCo j h1 h2] at hjl
  exact (h.kept j hj h0 hlo).step hE hlo hjl
 ·simp only [fk,hC'];exact hE
theorem xR (h:dS X hp nx ids w) {k:Nm} {e:TypeId} {cs cs':List SV} {off:Nat} (hk:bX hp k = .row e cs) (hl:off+cs'.length<=cs.length) (hx:∀ i x,cs'[i]? = some x->cs[off+i]? = some x) :
  HeapC X ([(Nm.t nx,.row e cs'),ea k .dead hp]++hp) (upd ids (Nm.t nx) ((ids k).map λp=>(p.1,p.2+off))) w/\fk X hp ids w ([(Nm.t nx,.row e cs'),ea k .dead hp]++hp) (upd ids (Nm.t nx) ((ids k).map λp=>(p.1,p.2+off))) w:=by
 have hc:=h.st.ch k;rw [hk] at hc;simp only [fH] at hc;refine wo h hk (λhik=>?_) λb o arr hik ha=>?_
 ·rw [hik] at hc;simp only at hc;subst hc;simp at hl;exact hl.2
 ·rw [hik] at hc;obtain ⟨arr',ha',hs,hxx⟩:=hc;rw [ha] at ha';cases ha';exact ⟨by omega,λi x hi=>by
   have:=hxx _ _ (hx i x hi);rwa [←iT] at this⟩
theorem AQ (h:HeapC X hp ids w) {k:Nm} (hk:bX hp k≠.unborn):HeapC X ([ea k .dead hp]++hp) ids w/\fk X hp ids w ([ea k .dead hp]++hp) ids w:=by
 have hC:bX ([ea k .dead hp]++hp)=upd (bX hp) k .dead:=jH hk (by simp);have hE:=h.st.kill_ext k;refine ⟨⟨by rw [hC];exact h.st.kill k,λj hj h0 hjl=>?_,λj hj hv=>by rw [hC] at hv;exact mc h.nov (λe=>by cases e) j hj hv⟩,by simp only [fk,hC];exact hE⟩
 ·rw [hC] at hjl ⊢;have hlo:(bX hp j).live=true:=by
   by_cases hjk:j=k
   ·subst hjk;rw [cH] at hjl;cases hjl
   ·rwa [dP _ _ hjk] at hjl
  exact (h.kept j hj h0 hlo).step hE hlo hjl
theorem HeapC.drew (h:HeapC X hp ids w):HeapC X hp ids w.drew/\fk X hp ids w hp ids w.drew :=
 ⟨⟨h.st.drew,λk hk h0 hl=>(h.kept k hk h0 hl).step h.st.drew_ext hl hl,h.nov⟩,h.st.drew_ext⟩
theorem xS (h:dS X hp nx ids w) (e:TypeId) (hid:ids nx=none):HeapC X ([(Nm.t nx,.row e [])]++hp) ids w/\fk X hp ids w ([(Nm.t nx,.row e [])]++hp) ids w:=by
 have hub:bX hp (Nm.t nx) = .unborn:=h.fresh;have hC:bX ([(Nm.t nx,.row e [])]++hp)=upd (bX hp) (Nm.t nx) (.row e []):=dw nx _ hp;have hnl:∀ j,(bX hp j).live=true->j≠nx:=λj hj e'=>by subst e';rw [hub] at hj;cases hj
 have hlv:∀ j b o,(upd (bX hp) (Nm.t nx) (cp.row e []) j).live=true->ids j=some (b,o)->(bX hp j).live=true:=λj b o hj hi=>by
  by_cases hjn:j=nx
  ·subst hjn;rw [hid] at hi;cases hi
  ·rwa [dP _ _ hjn] at hj
 have hE:fk X hp ids w ([(Nm.t nx,.row e [])]++hp) ids w:=by
  simp only [fk,hC];refine ⟨λd hd=>⟨⟨hd.1,hd.2.1,λj hj o hi=>hd.2.2 j (hlv j d o hj hi) o hi⟩,rfl⟩,λj hj=>?_,λj hj=>?_⟩
  ·rw [dP _ _ (λe'=>by subst e';rw [hub] at hj;cases hj)];exact hj
  ·rw [dP _ _ (hnl j hj)];exact .inr ⟨hj,rfl,dZ.refl hj,λ_ _ _=>dN.refl _⟩
 refine ⟨⟨⟨λj=>?_,λj j' b o1 o2 hj hj' hi hi'=>?_,λj b o hj hi=>?_,h.st.im0,h.st.evol,h.st.os,h.st.tape,h.st.output,h.st.size⟩,λj hj h0 hjl=>?_,λj hj hv=>by rw [hC] at hv;exact mc h.nov (λe=>by cases e) j hj hv⟩,hE⟩
 ·by_cases hjn:j=nx
  ·subst hjn;rw [hC,cH];simp only [fH,hid]
  ·have:=(h.st.ch j).mono hE rfl (λ_ _ _=>rfl);rw [show bX ([(Nm.t nx,cp.row e [])]++hp) j=bX hp j from by rw [hC,dP _ _ hjn]];exact this
 ·rw [hC] at hj hj';exact h.st.inj j j' b o1 o2 (hlv j b o1 hj hi) (hlv j' b o2 hj' hi') hi hi'
 ·rw [hC] at hj;exact h.st.lt j b o (hlv j b o hj hi) hi
 ·have hjn:j≠Nm.t nx:=λe=>by have:=h.m_le;subst e;simp at hj;omega
  have hlo:(bX hp j).live=true:=by rw [hC] at hjl;rwa [dP _ _ hjn] at hjl
  exact (h.kept j hj h0 hlo).step hE hlo hjl
theorem AR (h:dS X hp nx ids w) (p:Option (Nat×Nat)):dS X hp nx (upd ids (Nm.t nx) p) w/\fk X hp ids w hp (upd ids (Nm.t nx) p) w:=by
 have hub:bX hp (Nm.t nx) = .unborn:=h.fresh;have hnl:∀ j,(bX hp j).live=true->j≠nx:=λj hj e'=>by subst e';rw [hub] at hj;cases hj
 have hid:∀ j,(bX hp j).live=true->upd ids (Nm.t nx) p j=ids j:=λj hj=>dP _ _ (hnl j hj);have hE:fk X hp ids w hp (upd ids (Nm.t nx) p) w :=
  ⟨λd hd=>⟨⟨hd.1,hd.2.1,λj hj o hi=>hd.2.2 j hj o (by rwa [hid j hj] at hi)⟩,rfl⟩,λj hj=>hj,λj hj=>.inr ⟨hj,hid j hj,dZ.refl hj,λ_ _ _=>dN.refl _⟩⟩
 refine ⟨⟨⟨⟨λj=>?_,λj j' b o1 o2 hj hj' hi hi'=>?_,λj b o hj hi=>?_,h.st.im0,h.st.evol,h.st.os,h.st.tape,h.st.output,h.st.size⟩,λj hj h0 hjl=>?_,h.nov⟩,h.fresh,h.m_le⟩,hE⟩
 ·by_cases hl:(bX hp j).live=true
  ·exact (h.st.ch j).mono hE (hid j hl) (λ_ _ _=>rfl)
  ·cases hc:bX hp j<;>simp_all [cp.live,fH]
 ·rw [hid j hj] at hi;rw [hid j' hj'] at hi';exact h.st.inj j j' b o1 o2 hj hj' hi hi'
 ·rw [hid j hj] at hi;exact h.st.lt j b o hj hi
 ·exact (h.kept j hj h0 hjl).step hE hjl hjl
end
section
open Go.RowKit
variable {X:Cx} {hp:Hp} {nx:Nat} {ids:dE} {w:World}
def da (cs:List SV) (off n:Nat):List SV:=(cs.drop off).take n
def BP (s:ByteArray):List SV:=s.data.toList.map λb=>.v (.int .u8 b.toNat)
def pb (P:Program) (tx:TypeId) (z:Nat) (y:SV) (hp:Hp) (f:Nat->List SV->List Nm->Prop->eY):eY :=
 match y with
 | .own k off m=>match ja P tx with
  | some _=>o_ (bX hp k) λ_ cs=>f m (da cs off (m*z)) [k.key] (off+m*z<=cs.length)
  | none=>.bad
 | .sl m cs=>match ja P tx with
  | some _=>f m cs [] (cs.length=m*z)
  | none=>.bad
 | .v (.slice none 0 0)=>match ja P tx with
  | some _=>f 0 [] [] True
  | none=>.bad
 | .v (.string s)=>match P.underlying tx with
  | some .string=>f s.size (BP s) [] (z=1)
  | _=>.bad
 | _=>.bad
structure FH (P:Program) (C:Nm->cp) (ids:dE) (I:Nat->Prop) (w:World) (z:Nat) (tx:TypeId) (y:Value) (m:Nat) (news:List SV) (vs:List Value):Prop where
 src:Src P z tx y m vs w
 len:news.length=vs.length
 den:∀ i x,news[i]? = some x->dT P C ids I w x (vs.getD i undef)
theorem sf {P:Program} {C:Nm->cp} {I:Nat->Prop} {b o:Nat} {cs:List SV} (hc:Cells P C ids I w b o cs) :
 ∃l:List Value,l.length=cs.length/\∀ i x,cs[i]? = some x->w.cell? ⟨b,o+i,none⟩=some (l.getD i undef)/\dT P C ids I w x (l.getD i undef):=by
 obtain ⟨l,hl,hx⟩:=t6 (Q:=λj x c=>w.cell? ⟨b,o+j,none⟩=some c/\dT P C ids I w x c) cs 0 (λi x hi=>by rw [dm];exact hc.at_ i x hi);exact ⟨l,hl,λi x hi=>by have:=hx i x hi;rwa [dm] at this⟩
theorem jJ {cs:List SV} {off n i:Nat} {x:SV} (h:(da cs off n)[i]? = some x):i<n/\cs[off+i]? = some x:=by
 unfold da at h;rw [mJ] at h;split at h
 ·rename_i hi;rw [nh] at h;exact ⟨hi,h⟩
 ·cases h
theorem yY {cs:List SV} {off n:Nat} (h:off+n<=cs.length):(da cs off n).length=n:=by
 unfold da;rw [gL,jz];omega
theorem yZ {cs:List SV} {off n:Nat} (h:off+n<=cs.length):(da cs off n).length=n:=yY h
theorem wq {l:List Value} {j:Nat} {v:Value} (h:l[j]? = some v):l.getD j undef=v:=by simp [dA,h]
theorem xT {P:Program} {C:Nm->cp} {I:Nat->Prop} {b o z m cap:Nat} {tx e':TypeId} {cs:List SV} (hu:P.underlying tx=some (.slice e')) (hc:Cells P C ids I w b o cs) (hl:cs.length=m*z) (h1:cs.all i_=true) :
 ∃vs,FH P C ids I w z tx (.slice (some ⟨b,o,none⟩) m cap) m cs vs:=by
 obtain ⟨l,hll,hx⟩:=sf hc;have hone:∀ u∈l,u.oneCell'=true:=λu hu=>by
  obtain ⟨i,hi,rfl⟩:=uI hu;have hi':i<cs.length:=by omega
  have:=(hx i _ (dz hi')).2;have h2:=Ai this (dQ.1 h1 _ (eL hi'));simpa [dA,dz hi] using h2
 refine ⟨l,Src.ofSlice w hu ⟨b,o,none⟩ m cap l (by omega) (λj u hj=>?_) hone,hll.symm,λi x hi=>(hx i x hi).2⟩;have hj':j<cs.length:=by rw [←hll];exact (dy.1 hj).1
 rw [qb,(hx j _ (dz hj')).1,wq hj]
theorem y_ (h:dS X hp nx ids w) {tx:TypeId} {z:Nat} {s:SV} {y:Value} (hd:cV X hp ids w s y) {f:Nat->List SV->List Nm->Prop->eY} {side:Prop} {e:dx} (he:pb X.P tx z s hp f = .ok side e)
  (hside:∀ m news rds s0,f m news rds s0 = .ok side e->side->s0/\news.length=m*z/\news.all i_=true) (hs:side) :
 ∃m news rds s0 vs,f m news rds s0 = .ok side e/\FH X.P (bX hp) ids (Im X.w0 X.I0 X.W0 (bX hp) ids w) w z tx y m news vs:=by
 unfold pb at he;split at he
 ·rename_i k off m;split at he
  ·rename_i p hz;obtain ⟨e',n'⟩:=p;obtain ⟨i,hu,hi,_⟩:=gP hz;obtain ⟨t',cs,hk,hf⟩:=gz he;obtain ⟨s0,s1,s2⟩:=hside _ _ _ _ hf hs;obtain ⟨a,cap,rfl,h1,h2,_,h3⟩:=md hd (by rw [hk];rfl);rcases h3 with ⟨rfl,rfl⟩|⟨b,o,e2,cs2,arr,hC,hid,rfl,hw,hsz⟩
   ·refine ⟨_,_,_,_,[],hf,?_,by simpa using s1,λi x hi=>?_⟩
    ·cases a with
     | none=>exact Src.ofNil w hu 0
     | some a=>exact Src.ofSlice w hu a 0 0 [] (by simp) (λj u hj=>by simp at hj) (λu hu=>by cases hu)
    ·have:=(dy.1 hi).1;rw [s1] at this;omega
   ·rw [hk] at hC;cases hC;have hc:=yU h hk hid;have hc':Cells X.P (bX hp) ids (Im X.w0 X.I0 X.W0 (bX hp) ids w) w b (o+off) (da cs off (m*z)) :=
     ⟨λi x hi=>by
      obtain ⟨_,hi2⟩:=jJ hi;obtain ⟨c,g1,g2⟩:=hc.at_ _ _ hi2;exact ⟨c,by rw [iT];exact g1,g2⟩⟩
    obtain ⟨vs,hvs⟩:=xT (cap:=cap) hu hc' s1 s2;exact ⟨_,_,_,_,vs,hf,hvs⟩
  ·cases he
 ·rename_i m cs;split at he
  ·rename_i p hz;obtain ⟨e',n'⟩:=p;obtain ⟨i,hu,hi,_⟩:=gP hz;obtain ⟨s0,s1,s2⟩:=hside _ _ _ _ he hs;obtain ⟨a,cap,rfl,h1,h2,h3⟩:=sP hd;rcases h3 with ⟨rfl,rfl⟩|⟨b,o,c,rfl,hI,hc,hx⟩
   ·refine ⟨_,_,_,_,[],he,?_,rfl,λi x hi=>by simp at hi⟩;cases a with
    | none=>exact Src.ofNil w hu cap
    | some a=>exact Src.ofSlice w hu a 0 cap [] (by simp) (λj u hj=>by simp at hj) (λu hu=>by cases hu)
   ·obtain ⟨vs,hvs⟩:=xT (cap:=cap) hu (b:=b) (o:=o) (cs:=cs) ⟨λi x hi=>⟨c i,hc i x hi,hx i x hi⟩⟩ s1 s2;exact ⟨_,_,_,_,vs,he,hvs⟩
  ·cases he
 ·split at he
  ·rename_i p hz;obtain ⟨e',n'⟩:=p;obtain ⟨i,hu,hi,_⟩:=gP hz;obtain rfl:=d9 hd;exact ⟨_,_,_,_,[],he,Src.ofNil w hu 0,rfl,λi x hi=>by simp at hi⟩
  ·cases he
 ·rename_i s;split at he
  ·rename_i hu;obtain ⟨s0,s1,s2⟩:=hside _ _ _ _ he hs;obtain rfl:=d9 hd;have hlen:(BP s).length=s.size:=by unfold BP;rw [ep,jA];rfl
   have hz:z=1\/s.size=0:=by
    rw [hlen] at s1;rcases Nat.eq_zero_or_pos s.size with h0|h0
    ·exact .inr h0
    ·left;have:s.size*1=s.size*z:=by omega
     exact (Nat.eq_of_mul_eq_mul_left h0 this).symm
   refine ⟨_,_,_,_,byteCells s,he,?_,by rw [hlen,byteCells_length],λi x hi=>?_⟩
   ·have:=Src.ofString w hu s;rcases hz with rfl|h0
    ·exact this
    ·have hb:byteCells s=[]:=iV (by rw [byteCells_length,h0]);have g:∀ w':World,(Builtin.firstCells z s.size (.string s)).run X.P w' = .ok (byteCells s).toArray w':=λw'=>firstCells_string s w';exact ⟨.inr hu,this.len,g w,g _,by rw [hb,h0];simp,this.one⟩
   ·unfold BP at hi;rw [fZ] at hi;cases hq:s.data.toList[i]? with
    | none=>rw [hq] at hi;cases hi
    | some b =>
     rw [hq] at hi;cases hi;have:(byteCells s)[i]? = some (.int .u8 b.toNat):=by unfold byteCells;rw [fZ,hq];rfl
     rw [wq this];exact .v
  ·cases he
 ·cases he
def pZ (P:Program) (t tx:TypeId) (x y:SV) (hp:Hp) (nx:Nat):eY :=
 match ja P t with
 | some (e,z)=>pb P tx z y hp λm news rds s0 =>
  match x with
  | .own k off n=>o_ (bX hp k) λe' cs =>
   .ok (s0/\e'=e/\news.length=m*z/\news.all i_=true/\off+n*z<=cs.length/\0<P.bytesOf e/\(n+m)*P.bytesOf e<=140737488355328) ⟨.own nx 0 (n+m),[(Nm.t nx,.row e (da cs off (n*z)++news)),ea k .dead hp],nx+1,k.key::rds⟩
  | .v (.slice none 0 0) =>
   .ok (s0/\news.length=m*z/\news.all i_=true/\0<P.bytesOf e/\m*P.bytesOf e<=140737488355328) ⟨.own nx 0 m,[(Nm.t nx,.row e news)],nx+1,rds⟩
  | _=>.bad
 | none=>.bad
theorem lm {hp1 hp2 hp3:Hp} {i1 i2 i3:dE} {u1 u2 u3:World} (h:fk X hp1 i1 u1 hp2 i2 u2) (g:fk X hp2 i2 u2 hp3 i3 u3):fk X hp1 i1 u1 hp3 i3 u3:=ku.trans h g
theorem xU {hp':Hp} (h:dS X hp nx ids w) (h':dS X hp' nx ids w) (hE:fk X hp ids w hp' ids w) {t tx ty e:TypeId} {i:TypeInfo} {z:Value} (ht:X.P.underlying t=some (.slice e)) (hi:X.P.info? e=some i) (hz:i.zero=some z)
  {base:Option Addr} {n cap:Nat} {olds:List SV} {ovs:List Value} (hold:(Builtin.firstCells i.size n (.slice base n cap)).run X.P w.drew = .ok ovs.toArray w.drew) (hol:olds.length=ovs.length)
  (hod:∀ j x,olds[j]? = some x->cV X hp ids w x (ovs.getD j undef)) {y:Value} {m:Nat} {news:List SV} {vs:List Value} (hsrc:FH X.P (bX hp) ids (Im X.w0 X.I0 X.W0 (bX hp) ids w) w i.size tx y m news vs)
  (holn:ovs.length=n*i.size) (hg:cap<n+m) (hb0:0<i.bytes) (hb:(n+m)*i.bytes<=140737488355328) (hzc:z.cells.size=i.size) :
 ∃x w' ids',(Builtin.append_ #[t,tx] ty #[.slice base n cap,y]).run X.P w = .ok x w'/\HeapC X ([(Nm.t nx,.row e (olds++news))]++hp') ids' w'/\fk X hp ids w ([(Nm.t nx,.row e (olds++news))]++hp') ids' w' /\
   cV X ([(Nm.t nx,.row e (olds++news))]++hp') ids' w' (.own nx 0 (n+m)) x:=by
 have hnm:n+m<=(n+m)*i.bytes:=Nat.le_mul_of_pos_right _ hb0;have hrun:=run_append_grow_src (P:=X.P) w t tx ty e i z ht hi hz base n cap ovs hold y m vs hsrc.src hg (by omega) (growslice_fits hg hb);obtain ⟨d1c,d2⟩:=h'.toHeapC.drew;have d1:dS X hp' nx ids w.drew:=⟨d1c,h'.fresh,h'.m_le⟩;have hE2:=lm hE d2;have hvl:vs.length=m*i.size:=hsrc.src.newsLen;have hcap:n+m<=grownCap w (n+m) cap e:=grownCap_ge w (n+m) cap e;have hcm:grownCap w (n+m) cap e<=maxLen:=grownCap_le_maxLen w (n+m) cap e (by unfold maxLen;omega);have hsz:((ovs++vs).toArray++Builtin.zeroCells z.cells (grownCap w (n+m) cap e-(n+m))).size=grownCap w (n+m) cap e*i.size:=by
  rw [Array.size_append,oi,dW,size_zeroCells,hzc,holn,hvl,←gZ,←gZ];congr 1;omega
 obtain ⟨a1,a2⟩:=heap_alloc d1 (e:=e) (cs:=olds++news) (arr:=(ovs++vs).toArray++Builtin.zeroCells z.cells (grownCap w (n+m) cap e-(n+m))) (by
   rw [hsz,dW,hol,holn,hsrc.len,hvl,←gZ];exact k8 _ hcap) (λj x hj=>by
   have hjl:=(dy.1 hj).1;rw [dW,hol,hsrc.len] at hjl;have key:cV X hp ids w x ((ovs++vs).getD j undef):=by
    rw [pK] at hj;split at hj
    ·rename_i hlt;have:=hod j x hj;rwa [dA,iR (by omega),←dA]
    ·rename_i hlt;have:=hsrc.den _ x hj;rw [dA,jB (by omega),←dA,←hol];exact this
   have:=key.mono hE2;rw [cQ,nj (by rw [oi,dW];exact hjl)];rw [dA] at this;simpa using this)
 refine ⟨_,_,_,hrun,a1,lm hE2 a2,.own _ _ ?_ ?_⟩
 ·rw [fF,dw,cH];rfl
 ·refine ⟨hcap,hcm,λe' cs' hc'=>?_,.inr ⟨w.heap.size,0,e,olds++news,_,?_,cH _ _ _,rfl,jG w.drew _,?_⟩⟩
  ·rw [fF,dw,cH] at hc';cases hc';rw [show X.P.cellsOf e=i.size from by simp [Program.cellsOf,hi],dW,hol,hsrc.len,hvl,holn,←gZ,dm];exact k8 _ hcap
  ·rw [fF,dw,cH]
  ·rw [hsz,show X.P.cellsOf e=i.size from by simp [Program.cellsOf,hi]];omega
theorem v6 {P:Program} {C:Nm->cp} {I:Nat->Prop} {b o z n cap:Nat} {cs:List SV} (hc:Cells P C ids I w b o cs) (hl:cs.length=n*z) :
 ∃l:List Value,l.length=n*z/\(Builtin.firstCells z n (.slice (some ⟨b,o,none⟩) n cap)).run P w.drew = .ok l.toArray w.drew/\∀ i x,cs[i]? = some x->dT P C ids I w x (l.getD i undef):=by
 obtain ⟨l,hll,hx⟩:=sf hc;refine ⟨l,by omega,run_firstCells_some w.drew z n ⟨b,o,none⟩ n cap l (by omega) (λj u hj=>?_),λi x hi=>(hx i x hi).2⟩;have hj':j<cs.length:=by rw [←hll];exact (dy.1 hj).1
 rw [qb,World.cell?_drew,(hx j _ (dz hj')).1,wq hj]
def yj (P:Program) (e:TypeId):Bool:=match P.info? e with
 | some i=>match i.zero with
  | some z=>z.cells.size==i.size
  | none=>false
 | none=>false
theorem G0 {P:Program} {e:TypeId} {i:TypeInfo} (h:yj P e=true) (hi:P.info? e=some i):∃ z,i.zero=some z/\z.cells.size=i.size:=by
 simp only [yj,hi] at h;cases hz:i.zero with
 | none=>simp [hz] at h
 | some z=>exact ⟨z,rfl,by simpa [hz] using h⟩
theorem B_ (h:dS X hp nx ids w) {t tx ty:TypeId} {s q:SV} {x y:Value} (hd:cV X hp ids w s x) (hq:cV X hp ids w q y) {side:Prop} {e:dx} (he:pZ X.P t tx s q hp nx = .ok side e) (hs:side)
  (hz:∀ et z,ja X.P t=some (et,z)->yj X.P et=true) :
  fQ X hp ids w ((Builtin.append_ #[t,tx] ty #[x,y]).run X.P w) e:=by
 unfold pZ at he
 split at he
 ·rename_i et z hst
  obtain ⟨i,ht,hi,rfl⟩:=gP hst
  obtain ⟨zv,hzv,hzc⟩:=G0 (hz _ _ hst) hi
  have hby:X.P.bytesOf et=i.bytes:=by simp [Program.bytesOf,hi]
  have hce:X.P.cellsOf et=i.size:=by simp [Program.cellsOf,hi]
  obtain ⟨m,news,rds,s0,vs,hf,hsrc⟩:=y_ h hq he (λm news rds s0 hf hs=>by
   split at hf
   ·obtain ⟨t',cs,hk,hf⟩:=gz hf
    cases hf;exact ⟨hs.1,hs.2.2.1,hs.2.2.2.1⟩
   ·cases hf;exact ⟨hs.1,hs.2.1,hs.2.2.1⟩
   ·cases hf) hs
  have hvl:vs.length=m*i.size:=hsrc.src.newsLen
  split at hf
  ·rename_i k off n
   obtain ⟨t',cs,hk,hf⟩:=gz hf
   cases hf
   obtain ⟨_,rfl,hnl,hna,hoff,hb0,hb⟩:=hs
   rw [hby] at hb0 hb
   have hlk:(bX hp k).live=true:=by rw [hk];rfl
   have hkn:k≠nx:=λe'=>by subst e';rw [h.fresh] at hlk;cases hlk
   obtain ⟨a,cap,rfl,h1,h2,h4,h3⟩:=md hd hlk
   have hal:=yZ hoff
   by_cases hg:cap<n+m
   ·-- it grows
    obtain ⟨k1c,k2⟩:=AQ h.toHeapC (iY hlk)
    have k1:dS X ([ea k .dead hp]++hp) nx ids w:=⟨k1c,by rw [fF,jH (iY hlk) (by simp),dP _ _ hkn.symm];exact h.fresh,h.m_le⟩
    have hold:∃ ovs:List Value,ovs.length=n*i.size/\(Builtin.firstCells i.size n (.slice a n cap)).run X.P w.drew = .ok ovs.toArray w.drew/\∀ j x,(da cs off (n*i.size))[j]? = some x->cV X hp ids w x (ovs.getD j undef):=by
     rcases h3 with ⟨rfl,rfl⟩|⟨b,o,e2,cs2,arr,hC,hid,rfl,hw,hsz⟩
     ·refine ⟨[],by simp,?_,λj x hj=>by rw [lK] at hj;obtain ⟨h0,_⟩:=jJ hj;omega⟩
      cases a with
      | none=>rfl
      | some a=>simp [Builtin.firstCells,loadCells,loadCellsFrom]
     ·rw [hk] at hC;cases hC
      have hc:=yU h hk hid
      have hc':Cells X.P (bX hp) ids (Im X.w0 X.I0 X.W0 (bX hp) ids w) w b (o+off) (da cs off (n*i.size)) :=
       ⟨λj x hj=>by
        obtain ⟨_,hj2⟩:=jJ hj
        obtain ⟨c,g1,g2⟩:=hc.at_ _ _ hj2
        exact ⟨c,by rw [iT];exact g1,g2⟩⟩
      obtain ⟨l,l1,l2,l3⟩:=v6 (cap:=cap) (z:=i.size) (n:=n) hc' hal
      exact ⟨l,l1,l2,l3⟩
    obtain ⟨ovs,o1,o2,o3⟩:=hold
    obtain ⟨xv,w',ids',r1,r2,r3,r4⟩:=xU (ty:=ty) h k1 k2 ht hi hzv o2 (by rw [hal,o1]) o3 hsrc o1 hg hb0 hb hzc
    exact ⟨xv,w',ids',r1,r2,r3,r4⟩
   ·-- there is room
    rcases h3 with ⟨rfl,rfl⟩|⟨b,o,e2,cs2,arr,hC,hid,rfl,hw,hsz⟩
    ·have hm0:m=0:=by omega
     subst hm0
     have hv0:vs=[]:=iV (by rw [hvl];omega)
     have hn0:news=[]:=iV (by rw [hsrc.len,hv0];rfl)
     subst hn0;subst hv0
     have hrun:=run_append_nothing (P:=X.P) w t tx ty t' i ht hi a 0 0 (cF _) y hsrc.src
     have hap:da cs off (0*i.size)++[]=([]:List SV):=by simp [da]
     rw [hap]
     obtain ⟨g1,g2⟩:=xR h hk (cs':=[]) (off:=off) (by simp at hoff ⊢;exact hoff) (λj x hj=>by simp at hj)
     refine ⟨_,_,_,hrun,g1,g2,.own a 0 ?_ ⟨cF _,by unfold maxLen;omega,λe' cs' hc'=>?_,.inl ⟨rfl,rfl⟩⟩⟩
     ·show (bX ((Nm.t nx,cp.row t' [])::ea k .dead hp::hp) nx).live=true
      rw [dw,cH];rfl
     ·rw [show ([(Nm.t nx,cp.row t' []),ea k .dead hp]++hp:Hp)=(Nm.t nx,cp.row t' [])::ea k .dead hp::hp from rfl,dw,cH] at hc'
      cases hc';exact hU _
    ·rw [hk] at hC;cases hC
     have hc:=h.st.ch k
     rw [hk] at hc
     simp only [fH,hid] at hc
     obtain ⟨arr',ha',hl',hx'⟩:=hc
     rw [hw] at ha';cases ha'
     rw [hce] at hsz
     have hroomc:o+off+(n+m)*i.size<=arr.size:=by
      have:(n+m)*i.size<=cap*i.size:=k8 _ (by omega)
      omega
     rw [gZ] at hroomc
     have hcell:∀ j,j<vs.length->w.cell? ⟨b,o+off+n*i.size+j,none⟩=some (arr.getD (o+off+n*i.size+j) undef):=λj hj=>by
      simp only [World.cell?,hw]
      simp [cQ,d6 (show o+off+n*i.size+j<arr.size by omega)]
     have hrun:=run_append_room_src (P:=X.P) w t tx ty t' i ht hi b (o+off) n cap y m vs hsrc.src (by omega) (λj hj=>by rw [hcell j hj];rfl) (λj hj=>by simp [World.frozen?,hw])
     rw [wn w b (o+off+n*i.size) t' vs arr hw (by omega) hsrc.src.one] at hrun
     have hget:∀ q,(arr.toList.take (o+off+n*i.size)++vs++arr.toList.drop (o+off+n*i.size+vs.length)).toArray.getD q undef =
       if q<o+off+n*i.size then arr.getD q undef else if q<o+off+n*i.size+vs.length then vs.getD (q-(o+off+n*i.size)) undef else arr.getD q undef:=by
      intro q
      have hoo:o+off+n*i.size<=arr.size:=by omega
      simp only [cQ,pI]
      by_cases hq:q<o+off+n*i.size
      ·rw [if_pos hq,fJ,iR (by simp;omega),mJ,if_pos hq]
       simp
      ·rw [if_neg hq,fJ,jB (by simp;omega)]
       simp only [gL,jA,Nat.min_eq_left hoo]
       by_cases hq2:q<o+off+n*i.size+vs.length
       ·rw [if_pos hq2,iR (by omega)]
        simp [dA]
       ·rw [if_neg hq2,jB (by omega),nh]
        simp only [sL]
        congr 2;omega
     have htl:(cs.take (off+n*i.size)++news).length=off+n*i.size+m*i.size:=by
      rw [dW,gL,hnl];omega
     obtain ⟨g1c,g2⟩:=tC h hk hid (cs':=cs.take (off+n*i.size)) hw (arr':=(arr.toList.take (o+off+n*i.size)++vs++arr.toList.drop (o+off+n*i.size+vs.length)).toArray) (by simp only [oi,dW,gL,jz,jA];omega) (by rw [gL];omega) (by rw [gL];omega) (λj x hj=>by
       rw [hget]
       have hjl:=(dy.1 hj).1
       rw [gL] at hjl
       rw [mJ,if_pos (by omega)] at hj
       rw [if_pos (by omega)];exact hx' j x hj)
     have g1:dS X ([ea k (cp.row t' (cs.take (off+n*i.size))) hp]++hp) nx ids _:=⟨g1c,by rw [fF,jH (iY hlk) (by simp),dP _ _ hkn.symm];exact h.fresh,h.m_le⟩
     have hk2:bX ([ea k (cp.row t' (cs.take (off+n*i.size))) hp]++hp) k = .row t' (cs.take (off+n*i.size)):=by rw [fF,jH (iY hlk) (by simp),cH]
     have hapl:(da cs off (n*i.size)++news).length=n*i.size+m*i.size:=by rw [dW,hal,hnl]
     obtain ⟨r1,r2⟩:=wo g1 hk2 (cs':=da cs off (n*i.size)++news) (off:=off) (λhn=>by rw [hid] at hn;cases hn) (λb1 o1 arr1 hi1 ha1=>by
      rw [hid] at hi1;cases hi1
      rw [setRow_heap w b arr _ t' (0,0) hw] at ha1;cases ha1
      refine ⟨by rw [hapl];simp only [oi,dW,gL,jz,jA];omega,λj x hj=>?_⟩
      rw [hget]
      have hjl:=(dy.1 hj).1
      rw [hapl] at hjl
      rw [pK] at hj
      split at hj
      ·rename_i hlt
       obtain ⟨a1,a2⟩:=jJ hj
       rw [if_pos (by omega)]
       have:=(hx' _ _ a2).mono g2
       rw [←iT] at this
       exact this
      ·rename_i hlt
       rw [hal] at hlt hj
       rw [if_neg (by omega),if_pos (by omega)]
       have:=(hsrc.den _ x hj).mono g2
       rw [show o+off+j-(o+off+n*i.size)=j-n*i.size from by omega]
       exact this)
     have hCeq:bX ([(Nm.t nx,cp.row t' (da cs off (n*i.size)++news)),ea k .dead ([ea k (cp.row t' (cs.take (off+n*i.size))) hp]++hp)]++([ea k (cp.row t' (cs.take (off+n*i.size))) hp]++hp))=bX ([(Nm.t nx,cp.row t' (da cs off (n*i.size)++news)),ea k .dead hp]++hp):=by
      show bX ((Nm.t nx,_)::ea k .dead (_::hp)::_::hp)=bX ((Nm.t nx,_)::ea k .dead hp::hp)
      rw [dw,dw,jH (by rw [jH (iY hlk) (by simp),cH];simp) (by simp),jH (iY hlk) (by simp),jH (iY hlk) (by simp)]
      funext j
      unfold upd
      split
      ·rfl
      ·split<;>rfl
     refine ⟨_,_,_,hrun,⟨by rw [←hCeq];exact r1.st,by rw [←hCeq];exact r1.kept,by rw [←hCeq];exact r1.nov⟩,?_,?_⟩
     ·have:=lm g2 r2
      simp only [fk,hCeq] at this
      exact this
     ·refine .own _ _ ?_ ⟨by omega,h2,λe' cs' hc'=>?_,.inr ⟨b,o+off,t',da cs off (n*i.size)++news,_,?_,?_,rfl,setRow_heap w b arr _ t' (0,0) hw,?_⟩⟩
      ·show (bX ((Nm.t nx,_)::ea k .dead hp::hp) nx).live=true
       rw [dw,cH];rfl
      ·replace hc':bX ((Nm.t nx,_)::ea k .dead hp::hp) nx=_:=hc'
       rw [dw,cH] at hc'
       cases hc'
       rw [hapl,hce,←gZ,dm]
       exact k8 _ (by omega)
      ·show bX ((Nm.t nx,_)::ea k .dead hp::hp) nx=_
       rw [dw,cH]
      ·rw [cH,hid];rfl
      ·rw [hce]
       simp only [oi,dW,gL,jz,jA];omega
  ·cases hf
   obtain ⟨_,hnl,hna,hb0,hb⟩:=hs
   rw [hby] at hb0 hb
   obtain rfl:=d9 hd
   by_cases hm:m=0
   ·subst hm
    have hv0:vs=[]:=iV (by rw [hvl];omega)
    have hn0:news=[]:=iV (by rw [hsrc.len,hv0];rfl)
    subst hn0;subst hv0
    have hrun:=run_append_nothing (P:=X.P) w t tx ty et i ht hi none 0 0 (cF _) y hsrc.src
    obtain ⟨r1,r2⟩:=AR h none
    obtain ⟨g1,g2⟩:=xS r1 et (cH _ _ _)
    refine ⟨_,_,_,hrun,g1,lm r2 g2,.own none 0 ?_ ⟨cF _,by unfold maxLen;omega,λe' cs' hc'=>?_,.inl ⟨rfl,rfl⟩⟩⟩
    ·rw [fF,dw,cH];rfl
    ·rw [fF,dw,cH] at hc'
     cases hc';exact hU _
   ·obtain ⟨xv,w',ids',r1,r2,r3,r4⟩:=xU (ty:=ty) (olds:=[]) (ovs:=[]) (n:=0) (base:=none) (cap:=0) h h (ku.refl _ _ _ _) ht hi hzv rfl rfl (λj x hj=>by simp at hj) hsrc (by simp) (by omega) hb0 (by simpa using hb) hzc
    simp only [pL,dm] at r2 r3 r4
    exact ⟨xv,w',ids',r1,r2,r3,r4⟩
  ·cases hf
 ·cases he
theorem G7 (h:dS X hp nx ids w) {k:Nm} {b o off:Nat} {t':TypeId} {cs:List SV} (hk:bX hp k = .row t' cs) (hi:ids k=some (b,o)) (ys:List Value) (news:List SV) (c1:ys.length=news.length)
  (c2:∀ i x,news[i]? = some x->cV X hp ids w x (ys.getD i undef)) (c3:∀ v∈ys,v.oneCell'=true) (h3:off+news.length<=cs.length) :
 ∃w',(storeCells ⟨b,o+off,none⟩ ys).run X.P w = .ok () w'/\HeapC X ([ea k (.row t' (fT cs off news)) hp]++hp) ids w'/\fk X hp ids w ([ea k (.row t' (fT cs off news)) hp]++hp) ids w':=by
 have hc:=h.st.ch k;rw [hk] at hc;simp only [fH,hi] at hc;obtain ⟨arr,hw,hl,hx⟩:=hc;have hrun:=run_storeCells_at (P:=X.P) b (o+off) t' ys 0 arr w hw (by omega) c3;simp only [eG] at hrun;have hsize:(arr.toList.take (o+off)++ys++arr.toList.drop (o+off+ys.length)).toArray.size=arr.size:=by
  simp only [oi,dW,gL,jz,jA];rw [c1];omega
 have:=tC h hk hi (cs':=fT cs off news) hw hsize (by rw [lc];exact hl) (by rw [lc];exact cF _) (λj z hj=>by
  rw [se _ _ _ _ h3] at hj;have hget:∀ q,(arr.toList.take (o+off)++ys++arr.toList.drop (o+off+ys.length)).toArray.getD q undef =
    if q<o+off then arr.getD q undef else if q<o+off+ys.length then ys.getD (q-(o+off)) undef else arr.getD q undef:=by
   intro q;have hoo:o+off<=arr.size:=by omega
   simp only [cQ,pI,dA];by_cases hq:q<o+off
   ·rw [if_pos hq,fJ,iR (by simp;omega),mJ,if_pos hq];simp
   ·rw [if_neg hq,fJ,jB (by simp;omega)];simp only [gL,jA,Nat.min_eq_left hoo];by_cases hq2:q<o+off+ys.length
    ·rw [if_pos hq2,iR (by omega)]
    ·rw [if_neg hq2,jB (by omega),nh];simp only [sL];congr 2;omega
  rw [hget];by_cases hj1:off<=j/\j<off+news.length
  ·rw [if_pos hj1] at hj;rw [if_neg (by omega),if_pos (by omega),show o+j-(o+off)=j-off from by omega];exact c2 _ _ hj
  ·rw [if_neg hj1] at hj;have hxj:=hx j z hj;split
   ·exact hxj
   ·rw [if_neg (by omega)];exact hxj)
 exact ⟨_,hrun,this.1,this.2⟩
def tF (P:Program) (t tx:TypeId) (x y:SV) (hp:Hp) (nx:Nat):eY:=match x,ja P t with
 | .asl k off n,some (_,1)=>o_ (bX hp k) λe cs=>pb P tx 1 y hp λm news rds s0 =>
   .ok (s0/\news.length=m*1/\news.all i_=true/\m<=n/\off+news.length<=cs.length) ⟨.v (.int .i64 (m:Nat)),[ea k (.row e (fT cs off news)) hp],nx,k.key::rds⟩
 | _,_=>.bad
theorem FI (h:dS X hp nx ids w) {t tx ty:TypeId} {s q:SV} {x y:Value} (hd:cV X hp ids w s x) (hq:cV X hp ids w q y) {side:Prop} {e:dx} (he:tF X.P t tx s q hp nx = .ok side e) (hs:side) :
  fQ X hp ids w ((Builtin.copy_ #[t,tx] ty #[x,y]).run X.P w) e:=by
 unfold tF at he;split at he
 ·rename_i k off n e0 hst;obtain ⟨i,hu,hi',hz⟩:=gP hst;obtain ⟨t',cs,hk,hf⟩:=gz he;obtain ⟨m,news,rds,s0,vs,hf2,hsrc⟩:=y_ h hq hf (λm news rds s0 he hs=>by cases he;exact ⟨hs.1,hs.2.1,hs.2.2.1⟩) hs;cases hf2;obtain ⟨_,s1,s2,s3,s4⟩:=hs;obtain ⟨b,o,hid,rfl⟩:=J7 hd (by rw [hk];rfl);obtain ⟨w',hr,g1,g2⟩:=G7 h hk hid vs news hsrc.len.symm hsrc.den hsrc.src.one s4;refine ⟨goInt (m:Nat),w',ids,?_,g1,g2,.v⟩;have hmin:Nat.min m n=m:=Nat.min_eq_left s3;have hcells:=hsrc.src.cells;rw [show (1:Nat)=i.size from hz.symm] at hcells;simp [Builtin.copy_,dF hu,hsrc.src.len,hmin,sizeOf,typeInfo,hi',hcells,hr]
 ·cases he
end
section
open Go.RowKit
variable {X:Cx} {hp:Hp} {nx:Nat} {ids:dE} {w:World}
def li (o:Option SV) (d:Int):Option Int :=
 match o with
 | none=>some d
 | some (.v (.int _ n))=>some n
 | _=>none
def oA (v:Option Value) (d n:Int):Prop:=(v=none/\n=d)\/∃ k,v=some (.int k n)
theorem j5 {P:Program} {C:Nm->cp} {I:Nat->Prop} {o:Option SV} {v:Option Value} {d n:Int} (h:li o d=some n) (hn:o=none->v=none) (hs:∀ s,o=some s->∃ x,v=some x/\dT P C ids I w s x):oA v d n:=by
 unfold li at h;split at h
 ·cases h;exact .inl ⟨hn rfl,rfl⟩
 ·rename_i k m;cases h;obtain ⟨x,hv,hd⟩:=hs _ rfl;obtain rfl:=d9 hd;exact .inr ⟨k,hv⟩
 ·cases h
theorem uT {P:Program} (isSlice:Bool) (len cap:Nat) {lo hi:Option Value} {l h:Int} (hl:oA lo 0 l) (hh:oA hi len h) (h0:0<=l) (h1:l<=h) (h2:h<=len) (h3:len<=cap) (w:World) :
  (Instr.sliceBounds isSlice len cap lo hi none).run P w = .ok (l.toNat,h.toNat,cap) w:=by
 have hlt:h.toNat<=cap:=by omega
 have hlh:l<=(h.toNat:Int):=by omega
 have hln:(len:Int).toNat=len:=rfl;rcases hl with ⟨rfl,rfl⟩|⟨k,rfl⟩<;>rcases hh with ⟨rfl,rfl⟩|⟨k',rfl⟩
 ·simp [Instr.sliceBounds]
 ·have:0<=h/\h<=(cap:Int):=by omega
  simp [Instr.sliceBounds,Instr.sliceBound,asIntOf,this]
 ·have:0<=l/\l<=(len:Int):=by omega
  simp [Instr.sliceBounds,Instr.sliceBound,asIntOf,this]
 ·have:0<=h/\h<=(cap:Int):=by omega
  have h4:0<=l/\l<=h:=by omega
  have h5:max h 0=h:=by omega
  simp [Instr.sliceBounds,Instr.sliceBound,asIntOf,this,h4,h5]
theorem mQ {P:Program} {t e:TypeId} {i:TypeInfo} (hu:P.underlying t=some (.slice e)) (hi:P.info? e=some i) (a:Option Addr) (len cap:Nat) {lo hig:Option Value} {l h:Int} (hl:oA lo 0 l) (hh:oA hig len h)
  (h0:0<=l) (h1:l<=h) (h2:h<=len) (h3:len<=cap) (w:World) :
  (Instr.sliceAt t (.slice a len cap) lo hig none).run P w = .ok (.slice (if cap=l.toNat then a else a.map (·.add (l.toNat*i.size))) (h.toNat-l.toNat) (cap-l.toNat)) w:=by
 simp [Instr.sliceAt,Instr.slice,dF hu,uT true len cap hl hh h0 h1 h2 h3,sizeOf,typeInfo,hi]
theorem wt {P:Program} {t:TypeId} (hu:P.underlying t=some .string) (s:ByteArray) {lo hig:Option Value} {l h:Int} (hl:oA lo 0 l) (hh:oA hig s.size h)
  (h0:0<=l) (h1:l<=h) (h2:h<=s.size) (w:World) :
  (Instr.sliceAt t (.string s) lo hig none).run P w = .ok (.string (s.extract l.toNat h.toNat)) w:=by
 simp [Instr.sliceAt,Instr.slice,dF hu,uT false s.size s.size hl hh h0 h1 h2 (cF _)]
theorem xM {P:Program} {t el:TypeId} {n:Nat} {i:TypeInfo} (ha:P.underlying t=some (.array n el)) (hi:P.info? el=some i) (a:Addr) {lo hig:Option Value} {l h:Int} (hl:oA lo 0 l) (hh:oA hig n h)
  (h0:0<=l) (h1:l<=h) (h2:h<=n) (w:World) :
  (Instr.sliceAt t (.pointer (some a)) lo hig none).run P w = .ok (.slice (some (if n=l.toNat then a else a.add (l.toNat*i.size))) (h.toNat-l.toNat) (n-l.toNat)) w:=by
 simp [Instr.sliceAt,dF ha,uT false n n hl hh h0 h1 h2 (cF _),sizeOf,typeInfo,hi,Instr.sureAddr]
def qd (P:Program) (t:TypeId) (x:SV) (lo hi:Option SV) (hp:Hp) (nx:Nat):eY :=
 match x with
 | .own k off n=>match li lo 0,li hi n,ja P t with
  | some l,some h,some (_,z)=>o_ (bX hp k) λe _=>.ok (P.cellsOf e=z/\0<=l/\l<=h/\h<=n) ⟨.own k (off+l.toNat*z) (h.toNat-l.toNat),[],nx,[k.key]⟩
  | _,_,_=>.bad
 | .sl n cs=>match li lo 0,li hi n,ja P t with
  | some l,some h,some (_,z)=>.ok (0<=l/\l<=h/\h<=n) ⟨.sl (h.toNat-l.toNat) (da cs (l.toNat*z) ((h.toNat-l.toNat)*z)),[],nx,[]⟩
  | _,_,_=>.bad
 | .v (.slice none 0 0)=>match li lo 0,li hi 0,ja P t with
  | some l,some h,some _=>.ok (l=0/\h=0) ⟨.v (.slice none 0 0),[],nx,[]⟩
  | _,_,_=>.bad
 | .v (.string s)=>match li lo 0,li hi s.size,P.underlying t with
  | some l,some h,some .string=>.ok (0<=l/\l<=h/\h<=s.size) ⟨.v (.string (s.extract l.toNat h.toNat)),[],nx,[]⟩
  | _,_,_=>.bad
 | .ptr k off=>match lo,hi,P.underlying t with
  | none,none,some (.array n el)=>bif jI P el==some 1&&Nat.ble n maxLen then tE (bX hp k) (.ok True ⟨.asl k off n,[],nx,[k.key]⟩) else .bad
  | _,_,_=>.bad
 | _=>.bad
theorem D7 (h:dS X hp nx ids w) {t:TypeId} {s:SV} {x:Value} {lo hi:Option SV} {lov hiv:Option Value} (hd:cV X hp ids w s x) (hl1:lo=none->lov=none) (hl2:∀ s,lo=some s->∃ x,lov=some x/\cV X hp ids w s x)
  (hh1:hi=none->hiv=none) (hh2:∀ s,hi=some s->∃ x,hiv=some x/\cV X hp ids w s x) {side:Prop} {e:dx} (he:qd X.P t s lo hi hp nx = .ok side e) (hs:side) :
  fQ X hp ids w ((Instr.sliceAt t x lov hiv none).run X.P w) e:=by
 unfold qd at he;split at he
 ·rename_i k off n;split at he
  ·rename_i l hh e' z b1 b2 hst;obtain ⟨i,hu,hi',rfl⟩:=gP hst;obtain ⟨t',cs,hk,hf⟩:=gz he;cases hf;obtain ⟨hz,h0,h1,h2⟩:=hs;obtain ⟨a,cap,rfl,c1,c2,c4,c3⟩:=md hd (by rw [hk];rfl);refine cW h (mQ hu hi' a n cap (j5 b1 hl1 hl2) (j5 b2 hh1 hh2) h0 h1 h2 c1 w) ?_;refine .own _ _ (by rw [hk];rfl) ⟨by omega,by omega,λe2 cs2 hc2=>?_,?_⟩
   ·have:=c4 _ _ hc2;rw [hk] at hc2;cases hc2;rw [hz] at this ⊢;have:l.toNat*i.size+(cap-l.toNat)*i.size=cap*i.size:=by rw [←gZ];congr 1;omega
    omega
   by_cases hc:cap=l.toNat
   ·exact .inl ⟨by omega,by omega⟩
   ·rw [if_neg hc];rcases c3 with ⟨_,rfl⟩|⟨b,o,e2,cs2,arr,hC,hid,rfl,hw,hsz⟩
    ·exact .inl ⟨by omega,by omega⟩
    ·rw [hk] at hC;cases hC;refine .inr ⟨b,o,t',cs,arr,hk,hid,by simp only [fp,qb,iT],hw,?_⟩;rw [hz] at hsz ⊢;have:l.toNat*i.size+(cap-l.toNat)*i.size=cap*i.size:=by rw [←gZ];congr 1;omega
     omega
  ·cases he
 ·rename_i n cs;split at he
  ·rename_i l hh e' z b1 b2 hst;obtain ⟨i,hu,hi',rfl⟩:=gP hst;cases he;obtain ⟨h0,h1,h2⟩:=hs;obtain ⟨a,cap,rfl,c1,c2,c3⟩:=sP hd;refine cW h (mQ hu hi' a n cap (j5 b1 hl1 hl2) (j5 b2 hh1 hh2) h0 h1 h2 c1 w) ?_;by_cases hc:cap=l.toNat
   ·have e1:hh.toNat-l.toNat=0:=by omega
    rw [e1,lK,show da cs (l.toNat*i.size) 0=[] from by simp [da]];exact .sl0 (by omega)
   ·rw [if_neg hc];rcases c3 with ⟨rfl,rfl⟩|⟨b,o,c,rfl,hI,hcc,hx⟩
    ·have e1:hh.toNat-l.toNat=0:=by omega
     rw [e1,lK,show da [] (l.toNat*i.size) 0=[] from by simp [da]];exact .sl0 (by omega)
    ·simp only [fp,qb];exact .sl b (o+l.toNat*i.size) _ (λj=>c (l.toNat*i.size+j)) hI (by omega) (by omega) (λj x hj=>by
      obtain ⟨_,hj2⟩:=jJ hj;rw [iT];exact hcc _ _ hj2) (λj x hj=>by
      obtain ⟨_,hj2⟩:=jJ hj;exact hx _ _ hj2)
  ·cases he
 ·split at he
  ·rename_i l hh p b1 b2 hst;obtain ⟨e',z⟩:=p;obtain ⟨i,hu,hi',rfl⟩:=gP hst;cases he;obtain ⟨rfl,rfl⟩:=hs;obtain rfl:=d9 hd;refine cW h (mQ hu hi' none 0 0 (j5 b1 hl1 hl2) (j5 b2 hh1 hh2) (by omega) (by omega) (by omega) (by omega) w) ?_;exact .v
  ·cases he
 ·rename_i s;split at he
  ·rename_i l hh b1 b2 hu;cases he;obtain ⟨h0,h1,h2⟩:=hs;obtain rfl:=d9 hd;exact cW h (wt hu s (j5 b1 hl1 hl2) (j5 b2 hh1 hh2) h0 h1 h2 w) .v
  ·cases he
 ·rename_i k off;split at he
  ·rename_i n el hu;rw [ff] at he;split at he
   ·rename_i hz;simp only [cT,jC,Nat.ble_eq] at hz;obtain ⟨i,hi',hsz⟩:=np hz.1;obtain ⟨⟨t',cs,hk⟩,hf⟩:=nt he;cases hf;obtain ⟨b,o,hid,rfl⟩:=pY hd (by rw [hk];rfl);have hr:=xM hu hi' ⟨b,o+off,none⟩ (j5 (show li (none:Option SV) 0=some 0 from rfl) hl1 hl2) (j5 (show li (none:Option SV) n=some (n:Int) from rfl) hh1 hh2) (iW 0) (by omega) (iW _) w;refine cW h (x:=.slice (some ⟨b,o+off,none⟩) n n) ?_ (.asl b o (by rw [hk];rfl) hid);rw [hr];simp [qb]
   ·cases he
  ·cases he
 ·cases he
def uU (P:Program) (t:TypeId) (x:SV) (hp:Hp) (nx:Nat):eY :=
 match t7 P t with
 | some (n,_,_)=>eE (.v (.int .i64 n)) nx
 | none=>match x with
  | .own k _ n=>match P.underlying t with
   | some (.slice _)=>o_ (bX hp k) λ_ _=>.ok True ⟨.v (.int .i64 n),[],nx,[k.key]⟩
   | _=>.bad
  | .sl n _=>match P.underlying t with
   | some (.slice _)=>eE (.v (.int .i64 n)) nx
   | _=>.bad
  | .v (.slice none 0 0)=>match P.underlying t with
   | some (.slice _)=>eE (.v (.int .i64 0)) nx
   | _=>.bad
  | .v (.string s)=>match P.underlying t with
   | some .string=>eE (.v (.int .i64 s.size)) nx
   | _=>.bad
  | .mp k=>match P.underlying t,bX hp k with
   | some (.map _ _),.map es=>.ok True ⟨.v (.int .i64 es.length),[],nx,[k.key]⟩
   | _,_=>.bad
  | _=>.bad
theorem lp {P:Program} {w:World} {b:Nat} {o:Obj} (h:w.heap[b]? = some o) (hn:∀ c e f,o≠.cells c e f):(getObj b).run P w = .ok o w:=by
 cases o<;>simp [getObj,Sem.run,h] at hn ⊢
theorem G8 (h:dS X hp nx ids w) {t:TypeId} {s:SV} {x:Value} (hd:cV X hp ids w s x) {side:Prop} {e:dx} (he:uU X.P t s hp nx = .ok side e) (hs:side) (ty:TypeId) :
  fQ X hp ids w ((Builtin.len_ #[t] ty #[x]).run X.P w) e:=by
 unfold uU at he;split at he
 ·rename_i n e' z ha;cases he;obtain ⟨i,hu,_,_⟩:=tD ha;exact cW h (by simp [Builtin.len_,dF hu,goInt]) .v
 ·split at he
  ·rename_i k off n;split at he
   ·rename_i e' hu;obtain ⟨t',cs,hk,hf⟩:=gz he;cases hf;obtain ⟨a,cap,rfl,_⟩:=md hd (by rw [hk];rfl);exact cW h (by simp [Builtin.len_,dF hu,goInt]) .v
   ·cases he
  ·rename_i n cs;split at he
   ·rename_i e' hu;cases he;obtain ⟨a,cap,rfl,_⟩:=sP hd;exact cW h (by simp [Builtin.len_,dF hu,goInt]) .v
   ·cases he
  ·split at he
   ·rename_i e' hu;cases he;obtain rfl:=d9 hd;exact cW h (by simp [Builtin.len_,dF hu,goInt]) .v
   ·cases he
  ·rename_i s;split at he
   ·rename_i hu;cases he;obtain rfl:=d9 hd;exact cW h (by simp [Builtin.len_,dF hu,goInt]) .v
   ·cases he
  ·rename_i k;split at he
   ·rename_i k' e' es hu hk;cases he;obtain ⟨b,hid,rfl⟩:=rG hd (by rw [hk];rfl);have hc:=h.st.ch k;rw [hk] at hc;obtain ⟨b',arr,clock,hid',hw,hsz,_⟩:=hc;rw [hid] at hid';cases hid';exact cW h (by simp [Builtin.len_,dF hu,goInt,lp hw (by intros;simp),hsz]) .v
   ·cases he
  ·cases he
def G9 (op:UnOp) (x:SV) (nx:Nat):eY :=
 match op,x with
 | .not,.v (.bool b)=>eE (.v (.bool (!b))) nx
 | .neg,.v (.int k n)=>eE (.v (.int k (k.wrap (0-n)))) nx
 | _,_=>.bad
theorem Iz (h:dS X hp nx ids w) {op:UnOp} {s:SV} {x:Value} (hd:cV X hp ids w s x) {side:Prop} {e:dx} (he:G9 op s nx = .ok side e):fQ X hp ids w ((Op.unary op x).run X.P w) e:=by
 unfold G9 at he;split at he
 ·cases he;obtain rfl:=d9 hd;exact cW h (by simp [Op.unary]) .v
 ·cases he;obtain rfl:=d9 hd;exact cW h (by simp [Op.unary,Op.intArith]) .v
 ·cases he
def wu (s:ByteArray):Nat->Nat->List Int
 | 0,_=>[]
 | f+1,i=>bif decide (i<s.size) then ((Utf8.decode s i).1:Int)::wu s f (i+(Utf8.decode s i).2) else []
def lF (s:ByteArray):List Int:=wu s s.size 0
theorem wv (s:ByteArray):∀ (f i:Nat) (acc:Array Value),Conv.runesFrom s f i acc=acc++((wu s f i).map (Value.int .i32)).toArray
 | 0,_,acc=>by simp [Conv.runesFrom,wu]
 | f+1,i,acc=>by
  unfold Conv.runesFrom wu
  by_cases h:i<s.size
  ·rw [if_pos h]
   show Conv.runesFrom s f (i+(Utf8.decode s i).2) (acc.push (Value.int IntKind.i32 (Int.ofNat (Utf8.decode s i).1)))=_
   rw [wv s f]
   simp [h]
  ·rw [if_neg h];simp [h]
def FJ (l:List Int):ByteArray:=l.foldl (λr n=>r++Utf8.encode n) ByteArray.empty
def LS (l:List Int):ByteArray:=l.foldl (λr n=>r.push (UInt8.ofNat n.toNat)) ByteArray.empty
def tG (k:IntKind):SV->Bool
 | .v (.int j _)=>j==k
 | _=>false
def za:SV->Int
 | .v (.int _ n)=>n
 | _=>0
def zb (P:Program) (s d:TypeId) (x:SV) (hp:Hp) (nx:Nat):eY :=
 match P.underlying s,P.underlying d with
 | some (.slice e),some .string=>match P.underlying e with
  | some (.int .i32)=>pb P s 1 x hp λm news rds s0=>bif news.all (tG .i32) then .ok (s0/\news.length=m*1) ⟨.v (.string (FJ (news.map za))),[],nx,rds⟩ else .bad
  | some (.int .u8)=>pb P s 1 x hp λm news rds s0=>bif news.all (tG .u8) then .ok (s0/\news.length=m*1) ⟨.v (.string (LS (news.map za))),[],nx,rds⟩ else .bad
  | _=>.bad
 | _,_=>.bad
def tH (P:Program) (s d:TypeId) (x:SV) (hp:Hp) (nx:Nat):eY :=
 match x with
 | .v (.int _ n)=>match P.underlying s,P.underlying d with
  | some _,some (.int k)=>eE (.v (.int k (k.wrap n))) nx
  | _,_=>.bad
 | .v (.string b)=>match P.underlying s,P.underlying d with
  | some _,some .string=>eE (.v (.string b)) nx
  | some .string,some (.slice e)=>match P.underlying e,jI P e with
   | some (.int .i32),some 1=>.ok ((lF b).length<=70368744177664) ⟨.own nx 0 (lF b).length,[(Nm.t nx,.row e ((lF b).map λn=>.v (.int .i32 n)))],nx+1,[]⟩
   | _,_=>.bad
  | _,_=>.bad
 | x=>zb P s d x hp nx
theorem zc {P:Program} {w:World} (f:Value->ByteArray->Sem (ForInStep ByteArray))
  (hf:∀ (n:Int) (r:ByteArray),(f (.int .i32 n) r).run P w = .ok (.yield (r++Utf8.encode n)) w) :
 ∀(ns:List Int) (s:ByteArray),(forIn (ns.map (Value.int .i32)) s f).run P w = .ok (ns.foldl (λr n=>r++Utf8.encode n) s) w:=by
 intro ns;induction ns with
 | nil=>intro s;simp [eK]
 | cons n ns ih =>
  intro s;simp only [gv,List.forIn_cons,c_,hf,Result.andThen,List.foldl_cons];exact ih _
theorem ww {P:Program} (w:World) (a:Addr) (len cap:Nat) (ns:List Int) (h:(loadCells a len).run P w = .ok (ns.map (Value.int .i32)).toArray w) :
  (Conv.runesToString (.slice (some a) len cap)).run P w = .ok (.string (FJ ns)) w:=by
 unfold Conv.runesToString;simp only [c_,h,Result.andThen,List.forIn_toArray];rw [zc _ (by intro n r;simp [eK])];simp [eK,FJ]
theorem yk {X:Cx} {hp:Hp} {ids:dE} {w:World} {k:IntKind} :∀ (news:List SV) (vs:List Value),news.length=vs.length->(∀ i x,news[i]? = some x->cV X hp ids w x (vs.getD i undef))->news.all (tG k)=true->vs=(news.map za).map (Value.int k)
 | [],[],_,_,_=>rfl
 | [],_::_,h,_,_=>by cases h
 | _::_,[],h,_,_=>by cases h
 | a::l,v::r,h,hd,ha=>by
  simp only [mK,cT] at ha
  have h0:=hd 0 a rfl
  have:=yk l r (by simpa using h) (λi x hi=>by have:=hd (i+1) x (by simpa using hi);simpa using this) ha.2
  rw [gv,gv,←this]
  congr 1
  have ha1:=ha.1
  unfold tG at ha1
  split at ha1
  ·rename_i j n
   have:j=k:=by simpa using ha1
   subst this
   exact d9 h0
  ·cases ha1
theorem EM {k:IntKind} {news:List SV} (h:news.all (tG k)=true):news.all i_=true:=by
 rw [dQ] at h ⊢;intro x hx;have:=h x hx;unfold tG at this;split at this
 ·rfl
 ·cases this
theorem zd {X:Cx} {hp:Hp} {ids:dE} {w:World} {tx e:TypeId} {z:Nat} {q:SV} {y:Value} {f:Nat->List SV->List Nm->Prop->eY} {side:Prop} {ef:dx} (hu:X.P.underlying tx=some (.slice e)) (hd:cV X hp ids w q y) (he:pb X.P tx z q hp f = .ok side ef):∃ a n c,y = .slice a n c:=by
 unfold pb at he;split at he
 ·cases hd with
  | ownDead h=>exact ⟨_,_,_,rfl⟩
  | own a cap hl h=>exact ⟨_,_,_,rfl⟩
 ·cases hd with
  | sl0 hc=>exact ⟨_,_,_,rfl⟩
  | sl b o cap c hb hn hcap hc hx=>exact ⟨_,_,_,rfl⟩
 ·cases hd;exact ⟨_,_,_,rfl⟩
 ·rw [hu] at he;cases he
 ·cases he
theorem FK (h:dS X hp nx ids w) {s d:TypeId} {q:SV} {x:Value} (hd:cV X hp ids w q x) {side:Prop} {e:dx} (he:zb X.P s d q hp nx = .ok side e) (hs:side):fQ X hp ids w ((convert s d x).run X.P w) e:=by
 unfold zb at he;split at he
 ·rename_i et h1 h2;split at he
  ·rename_i h3;obtain ⟨a,n,c,rfl⟩:=zd h1 hd he;obtain ⟨m,news,rds,s0,vs,hf,hsrc⟩:=y_ h hd he (λm news rds s0 hf hs=>by
    cases hb:news.all (tG .i32) with
    | false=>rw [hb] at hf;cases hf
    | true=>rw [hb] at hf;cases hf;exact ⟨hs.1,hs.2,EM hb⟩) hs
   cases hb:news.all (tG .i32) with
   | false=>rw [hb] at hf;cases hf
   | true =>
    rw [hb] at hf;cases hf;have hvs:=yk (X:=X) (hp:=hp) (ids:=ids) (w:=w) news vs hsrc.len hsrc.den hb;have hln:n=m:=by have:=hsrc.src.len w;simp [Builtin.lenOf,eK] at this;exact this
    subst hln;refine cW h ?_ .v;have hc:=hsrc.src.cells;have hrun:(convert s d (.slice a n c)).run X.P w=(Conv.runesToString (.slice a n c)).run X.P w:=by
     simp [convert,dF h1,dF h2,dF h3]
    rw [hrun];cases a with
    | none =>
     simp only [Builtin.firstCells,eK] at hc;have h0:vs=[]:=by
      have:=dJ (λr=>match r with|Result.ok (x:Array Value) _=>x.size|_=>0) hc;simpa using this.symm
     rw [h0] at hvs;have:news.map za=[]:=by simpa using hvs.symm
     rw [this];simp [Conv.runesToString,eK,FJ]
    | some a =>
     refine ww w a n c _ ?_;rw [←hvs];simpa [Builtin.firstCells] using hc
  ·rename_i h3;obtain ⟨a,n,c,rfl⟩:=zd h1 hd he;obtain ⟨m,news,rds,s0,vs,hf,hsrc⟩:=y_ h hd he (λm news rds s0 hf hs=>by
    cases hb:news.all (tG .u8) with
    | false=>rw [hb] at hf;cases hf
    | true=>rw [hb] at hf;cases hf;exact ⟨hs.1,hs.2,EM hb⟩) hs
   cases hb:news.all (tG .u8) with
   | false=>rw [hb] at hf;cases hf
   | true =>
    rw [hb] at hf;cases hf;have hvs:=yk (X:=X) (hp:=hp) (ids:=ids) (w:=w) news vs hsrc.len hsrc.den hb;have hln:n=m:=by have:=hsrc.src.len w;simp [Builtin.lenOf,eK] at this;exact this
    subst hln;refine cW h ?_ .v;have hc:=hsrc.src.cells;rw [run_convert_bytes_string w s d et a n c h1 h3 h2];cases a with
    | none =>
     simp only [Builtin.firstCells,eK] at hc;have h0:vs=[]:=by
      have:=dJ (λr=>match r with|Result.ok (x:Array Value) _=>x.size|_=>0) hc;simpa using this.symm
     rw [h0] at hvs;have:news.map za=[]:=by simpa using hvs.symm
     rw [this];simp [Conv.bytesToString,eK,LS]
    | some a =>
     refine run_bytesToString w a n c _ ?_;rw [←hvs];simpa [Builtin.firstCells] using hc
  ·cases he
 ·cases he
theorem FL (h:dS X hp nx ids w) {s d:TypeId} {q:SV} {x:Value} (hd:cV X hp ids w q x) {side:Prop} {e:dx} (he:tH X.P s d q hp nx = .ok side e) (hs:side):fQ X hp ids w ((convert s d x).run X.P w) e:=by
 unfold tH at he;split at he
 ·split at he
  ·rename_i d1 k h1 h2;cases he;obtain rfl:=d9 hd;exact cW h (by simp [convert,dF h1,dF h2,Conv.intToInt]) .v
  ·cases he
 ·rename_i b;split at he
  ·rename_i d1 h1 h2;cases he;obtain rfl:=d9 hd;exact cW h (by simp [convert,dF h1,dF h2]) .v
  ·rename_i et h1 h2;split at he
   ·rename_i h3 h4;cases he;obtain rfl:=d9 hd;have hsz:Conv.runesFrom b b.size 0 #[]=((lF b).map (Value.int .i32)).toArray:=by rw [wv];simp [lF]
    have hrun:=run_runes_of_string w s d et b h1 h2 h3 (by rw [hsz];simpa using hs);rw [hsz] at hrun;simp only [oi,ep] at hrun;obtain ⟨d1c,d2⟩:=h.toHeapC.drew;have d1:dS X hp (nx:=nx) ids w.drew:=⟨d1c,h.fresh,h.m_le⟩;have hge:=grownCap_ge w (lF b).length 0 et;have hle:=grownCap_le_maxLen w (lF b).length 0 et (by unfold maxLen;omega);have hcz:=wd h4;obtain ⟨a1,a2⟩:=heap_alloc d1 (e:=et) (cs:=(lF b).map λn=>.v (.int .i32 n)) (arr:=((lF b).map (Value.int .i32)).toArray++Array.replicate (grownCap w (lF b).length 0 et-(lF b).length) (.int .i32 0)) (by simp) (λi x hi=>by
     rw [fZ] at hi;cases hr:(lF b)[i]? with
     | none=>rw [hr] at hi;cases hi
     | some n =>
      rw [hr] at hi;cases hi;have hlt:=(dy.1 hr).1;rw [cQ,nj (by simpa using hlt)];simp [hr];exact .v)
    refine ⟨_,_,_,hrun,a1,lm d2 a2,.own _ _ ?_ ?_⟩
    ·rw [fF,dw,cH];rfl
    ·refine ⟨hge,hle,λe' cs' hc'=>?_,.inr ⟨w.heap.size,0,et,(lF b).map λn=>.v (.int .i32 n),_,?_,cH _ _ _,rfl,jG w.drew _,?_⟩⟩
     ·rw [fF,dw,cH] at hc';cases hc';rw [hcz];simp;omega
     ·rw [fF,dw,cH]
     ·rw [hcz];simp;omega
   ·cases he
  ·cases he
 ·exact FK h hd he hs
def sg (P:Program) (t:TypeId) (l c:SV) (nx:Nat):eY :=
 match l,c,ja P t with
 | .v (.int _ n),.v (.int _ m),some (e,z)=>match tB P e with
  | some zs=>.ok (0<=n/\n<=m/\m<=4611686018427387904/\(P.bytesOf e:Int)*m<=140737488355328/\zs.length=z/\0<z) ⟨.own nx 0 n.toNat,[(Nm.t nx,.row e ((List.range m.toNat).flatMap λ_=>zs))],nx+1,[]⟩
  | none=>.bad
 | _,_,_=>.bad
theorem BD (P:Program) (C:Nm->cp) (I:Nat->Prop) (zv:Value) (m:Nat) (hpos:0<zv.cells.size) :
  uk P C ids I w ((List.range m).flatMap λ_=>zv.cells.toList.map SV.v) (madeCells zv.cells (m*zv.cells.size)):=by
 unfold madeCells;refine ⟨by rw [gg];simp,λj x hj=>?_⟩;have hlt:j<m*zv.cells.size:=by
  have:=(dy.1 hj).1;rw [gg] at this;simpa using this
 rw [getElem?_flatMap_const _ _ _ (by simpa using hlt)] at hj;simp only [ep,jA,fZ] at hj;have hm:=Nat.mod_lt j hpos;rw [sL,d6 hm] at hj;simp only [fp,fP] at hj;subst hj;rw [cQ,qI,Array.getElem?_range,if_pos hlt];simp only [fp,gY,oj zv.cells (j%zv.cells.size) hm];exact .v
theorem ze (h:dS X hp nx ids w) {t:TypeId} {s q:SV} {x y:Value} (hd:cV X hp ids w s x) (hq:cV X hp ids w q y) {side:Prop} {e:dx} (he:sg X.P t s q nx = .ok side e) (hs:side) :
  fQ X hp ids w ((Instr.makeSlice t x y).run X.P w) e:=by
 unfold sg at he;split at he
 ·rename_i k1 n k2 m e' z hst;split at he
  ·rename_i zs hz;cases he;obtain ⟨h0,h1,h2,h3,h4,h5⟩:=hs;obtain rfl:=d9 hd;obtain rfl:=d9 hq;obtain ⟨i,hu,hi,rfl⟩:=gP hst;obtain ⟨i',zv,hi',hzv,rfl⟩:=uS hz;rw [hi] at hi';cases hi';have hsz:zv.cells.size=i.size:=by simpa using h4
   have hb:X.P.bytesOf e'=i.bytes:=by simp [Program.bytesOf,hi]
   rw [hb] at h3;have hrun:=run_make (P:=X.P) w t e' i zv hu hi hzv k1 k2 n m h0 h1 (by omega) (by omega);have hden:=BD (ids:=ids) (w:=w) X.P (bX hp) (Im X.w0 X.I0 X.W0 (bX hp) ids w) zv m.toNat (by omega);rw [hsz] at hden;obtain ⟨g1,g2⟩:=heap_alloc h (e:=e') (cs:=(List.range m.toNat).flatMap λ_=>zv.cells.toList.map SV.v) (arr:=madeCells zv.cells (m.toNat*i.size)) (by rw [hden.len];exact cF _) hden.den;refine ⟨_,_,_,hrun,g1,g2,.own _ _ ?_ ⟨by omega,by unfold maxLen;omega,λe2 cs2 hc2=>?_,.inr ⟨w.heap.size,0,e',(List.range m.toNat).flatMap λ_=>zv.cells.toList.map SV.v,_,?_,cH _ _ _,rfl,jG w _,?_⟩⟩⟩
   ·rw [fF,dw,cH];rfl
   ·rw [fF,dw,cH] at hc2;cases hc2;rw [hden.len,size_madeCells,show X.P.cellsOf e'=i.size from by simp [Program.cellsOf,hi],dm];exact k8 _ (by omega)
   ·rw [fF,dw,cH]
   ·rw [size_madeCells,show X.P.cellsOf e'=i.size from by simp [Program.cellsOf,hi]];omega
  ·cases he
 ·cases he
end
section
open Go.RowKit
variable {X:Cx} {hp:Hp} {nx:Nat} {ids:dE} {w:World}
theorem Ca (h:dS X hp nx ids w):HeapC X ([(Nm.t nx,.map [])]++hp) (upd ids (Nm.t nx) (some (w.heap.size,0))) (w.alloc (.map #[] 0)) /\
  fk X hp ids w ([(Nm.t nx,.map [])]++hp) (upd ids (Nm.t nx) (some (w.heap.size,0))) (w.alloc (.map #[] 0)):=by
 have hb:bX hp (Nm.t nx) = .unborn:=h.fresh;have hC:bX ([(Nm.t nx,.map [])]++hp)=upd (bX hp) (Nm.t nx) (.map []):=dw nx _ hp;have hE:=h.st.alloc_ext hb (.map []) (.map #[] 0);refine ⟨⟨?_,λj hj h0 hjl=>?_,λj hj hv=>by rw [hC] at hv;exact mc h.nov (λe=>by cases e) j hj hv⟩,?_⟩
 ·rw [hC];refine h.st.alloc hb _ _ ?_;exact ⟨w.heap.size,#[],0,cH _ _ _,jG w _,rfl,λi x hi=>by simp at hi,rfl,λi hi=>by simp at hi⟩
 ·have hjn:j≠Nm.t nx:=λe=>by have:=h.m_le;subst e;simp at hj;omega
  rw [hC] at hjl ⊢;have hlo:(bX hp j).live=true:=by rwa [dP _ _ hjn] at hjl
  exact (h.kept j hj h0 hlo).step hE hlo hjl
 ·simp only [fk,hC];exact hE
theorem nK (h:dS X hp nx ids w) {k:Nm} {b:Nat} {es es':List (Value×SV)} (hk:bX hp k = .map es) (hi:ids k=some (b,0)) {arr arr':Array MapEntry} {clock clock':Nat}
  (hw:w.heap[b]? = some (.map arr clock)) (hl:arr'.size=es'.length) (hx:∀ i x,es'[i]? = some x->(arr'.getD i default).key=x.1/\cV X hp ids w x.2 (arr'.getD i default).val) (hbo:wa arr' clock') :
  HeapC X ([ea k (.map es') hp]++hp) ids { w with heap:=w.heap.setIfInBounds b (.map arr' clock') }/\fk X hp ids w ([ea k (.map es') hp]++hp) ids { w with heap:=w.heap.setIfInBounds b (.map arr' clock') }:=by
 have hlk:(bX hp k).live=true:=by rw [hk];rfl
 have hblt:b<w.heap.size:=(qJ.1 hw).1;have hz:(w.heap.setIfInBounds b (.map arr' clock')).size=w.heap.size:=by simp
 have hat:(w.heap.setIfInBounds b (Obj.map arr' clock'))[b]? = some (.map arr' clock'):=by rw [uM hblt]
 have hot:∀ j,j≠b->(w.heap.setIfInBounds b (Obj.map arr' clock'))[j]? = w.heap[j]?:=λj hj=>by rw [yc (λe=>hj e.symm)]
 have hshape:dN w.heap[b]? (w.heap.setIfInBounds b (Obj.map arr' clock'))[b]?:=λa t ha=>by rw [hw] at ha;cases ha
 have hE:=h.st.turn_ext (w':={ w with heap:=w.heap.setIfInBounds b (.map arr' clock') }) hlk hi (c:=.map es') rfl (by rw [hk];trivial) hz hot hshape;have hC:bX ([ea k (.map es') hp]++hp)=upd (bX hp) k (.map es'):=jH (iY hlk) (by simp);refine ⟨⟨?_,λj hj h0 hjl=>?_,λj hj hv=>by rw [hC] at hv;exact mc h.nov (λe=>by cases e) j hj hv⟩,?_⟩
 ·rw [hC];refine h.st.turn hlk hi rfl (by rw [hk];trivial) hz hot hshape rfl rfl rfl ?_;exact ⟨b,arr',clock',hi,hat,hl,λi x hix=>⟨(hx i x hix).1,(hx i x hix).2.mono hE⟩,hbo⟩
 ·rw [hC] at hjl ⊢;have hlo:(bX hp j).live=true:=by
   by_cases hjk:j=k
   ·subst hjk;exact hlk
   ·rwa [dP _ _ hjk] at hjl
  exact (h.kept j hj h0 hlo).step hE hlo hjl
 ·simp only [fk,hC];exact hE
def lZ (d:TypeDesc):Value->Bool
 | .int _ _=>match d with | .int _=>true|_=>false
 | .string _=>match d with | .string=>true|_=>false
 | .bool _=>match d with | .bool=>true|_=>false
 | _=>false
def kc:Value->Value->Bool
 | .int j a,.int k b=>j==k&&a==b
 | .string a,.string b=>a==b
 | .bool a,.bool b=>a==b
 | _,_=>false
def sR:List Value->List Value->Bool
 | [],[]=>true
 | x::r,y::s=>kc x y&&sR r s
 | _,_=>false
def gQ:Value->Value->Bool
 | .agg a,.agg b=>sR a.toList b.toList
 | x,y=>kc x y
def gM:Value->Value->Bool
 | .int j _,.int k _=>j==k
 | .string _,.string _=>true
 | .bool _,.bool _=>true
 | _,_=>false
def fc (key:Value):List (Value×SV)->Nat->Option (Nat×SV)
 | [],_=>none
 | p::r,i=>bif gQ key p.1 then some (i,p.2) else fc key r (i+1)
theorem zf {d:TypeDesc} {key:Value} (hk:lZ d key=true):∀ (arr:List MapEntry) (es:List (Value×SV)) (i:Nat),arr.length=es.length ->
  (∀ (j:Nat) (x:Value×SV),es[j]? = some x->∃ e:MapEntry,arr[j]? = some e/\e.key=x.1)->(∀ x∈es,gM key x.1=true) ->
  Instr.findNow d key arr i=some ((fc key es i).map λp=>(p.1,(arr.getD (p.1-i) default).val))
 | [],[],i,_,_,_=>rfl
 | [],_::_,_,h,_,_=>by simp at h
 | _::_,[],_,h,_,_=>by simp at h
 | e::arr,x::es,i,hl,hx,ha=>by
  obtain ⟨e',he',hkey⟩:=hx 0 x rfl
  simp only [pJ,fP] at he'
  subst he'
  have hal:=ha x (by simp)
  have hsame:Instr.sameNow d key e.key=some (gQ key x.1):=by
   rw [hkey];cases key<;>cases hx1:x.1<;>rw [hx1] at hal<;>simp only [gM,fy] at hal<;>cases d<;>simp only [lZ,fy] at hk
   ·simp [Instr.sameNow,gQ,kc]
   ·have:=hal;simp at this;simp [Instr.sameNow,gQ,kc,this]
   ·simp [Instr.sameNow,gQ,kc]
  have ih:=zf hk arr es (i+1) (by simpa using hl) (λj y hj=>hx (j+1) y (by simpa using hj)) (λy hy=>ha y (by simp [hy]));simp only [Instr.findNow,hsame,fc];cases hq:gQ key x.1 with
  | true=>simp
  | false =>
   simp only [cj,ih];cases hf:fc key es (i+1) with
   | none=>rfl
   | some p =>
    have hge:i+1<=p.1:=by
     have:∀ (es:List (Value×SV)) (i:Nat) (p:Nat×SV),fc key es i=some p->i<=p.1:=by
      intro es;induction es with
      | nil=>intro i p hp;cases hp
      | cons y es ih =>
       intro i p hp;simp only [fc] at hp;cases hc:gQ key y.1 with
       | true=>rw [hc] at hp;cases hp;exact cF _
       | false=>rw [hc] at hp;have:=ih _ _ hp;omega
     exact this _ _ _ hf
    simp only [fp];rw [show p.1-i=(p.1-(i+1))+1 from by omega];simp
theorem nu {key:Value}:∀ (es:List (Value×SV)) (i:Nat) (p:Nat×SV),fc key es i=some p->i<=p.1/\∃ q,es[p.1-i]? = some q/\q.2=p.2/\gQ key q.1=true
 | [],_,_,h=>by cases h
 | y::es,i,p,h=>by
  simp only [fc] at h
  cases hc:gQ key y.1 with
  | true=>rw [hc] at h;cases h;exact ⟨cF _,y,by simp,rfl,hc⟩
  | false =>
   rw [hc] at h
   obtain ⟨h1,q,h2,h3,h4⟩:=nu es (i+1) p h
   refine ⟨by omega,q,?_,h3,h4⟩
   rw [show p.1-i=(p.1-(i+1))+1 from by omega]
   simpa using h2
theorem sS {P:Program} {t:TypeId} {d:TypeDesc} {key:Value} (hu:P.underlying t=some d) (hk:lZ d key=true) (em:Bool) (n:Nat) (w:World):(Instr.checkKey em (n+1) t key).run P w = .ok () w:=by
 unfold Instr.checkKey;rw [c_,dF hu];cases key<;>cases d<;>simp [lZ] at hk<;>rfl
def mX (P:Program) (e:TypeId):Option Value:=(P.info? e).bind (·.zero)
def Cb (P:Program) (t:TypeId):Option (TypeDesc×TypeId) :=
 match P.underlying t with
 | some (.map k e)=>(P.underlying k).map λd=>(d,e)
 | _=>none
theorem wx {P:Program} {t d e} (h:Cb P t=some (d,e)):∃ k,P.underlying t=some (.map k e)/\P.underlying k=some d:=by
 unfold Cb at h;split at h
 ·rename_i k e' hu;cases hk:P.underlying k with
  | none=>rw [hk] at h;cases h
  | some d'=>rw [hk] at h;cases h;exact ⟨k,hu,hk⟩
 ·cases h
def qe (c:cp) (k:List (Value×SV)->eY):eY :=
 match c with
 | .map es=>k es
 | _=>.bad
theorem ir {c:cp} {f:List (Value×SV)->eY} {s:Prop} {e:dx} (h:qe c f = .ok s e):∃ es,c = .map es/\f es = .ok s e:=by
 cases c<;>simp only [qe] at h<;>first|exact ⟨_,rfl,h⟩|cases h
def gA (z key:Value) (es:List (Value×SV)):SV:=match fc key es 0 with
 | some p=>p.2
 | none=>.v z
def zg (key:Value) (es:List (Value×SV)):Bool:=(fc key es 0).isSome
mutual
def mR (P:Program):Nat->TypeId->Option (List TypeDesc)
 | 0,_=>none
 | d+1,t=>match P.underlying t with
  | some (.int k)=>some [.int k]
  | some .bool=>some [.bool]
  | some .string=>some [.string]
  | some (.struct fs)=>if P.stoodInHeld t||P.eqGuardType P.depth t then none else oB P d fs.toList 0
  | some (.array n e)=>match mR P d e with
   | some l=>if jI P e=some l.length then some ((List.range n).flatMap λ_=>l) else none
   | none=>none
  | _=>none
def oB (P:Program):Nat->List Field->Nat->Option (List TypeDesc)
 | _,[],_=>some []
 | 0,_::_,_=>none
 | d + 1, f :: r, off => if f.name = "_" \/ f.offset ≠ off then none else match mR P d f.type with
  | some l=>if jI P f.type=some l.length then (oB P d r (off+l.length)).map (l++·) else none
  | none=>none
end
def mS:TypeDesc->Value->Bool
 | .int k,.int k' _=>k==k'
 | .bool,.bool _=>true
 | .string,.string _=>true
 | _,_=>false
def qf:List SV->Option (List Value)
 | []=>some []
 | .v x::r=>(qf r).map (x::·)
 | _::_=>none
def iK:List TypeDesc->List Value->Bool
 | [],[]=>true
 | d::r,v::s=>mS d v&&iK r s
 | _,_=>false
def oP (l:List TypeDesc):Value->Bool
 | .agg a=>iK l a.toList
 | _=>false
def Cc (P:Program) (t:TypeId):Option (TypeId×List TypeDesc×TypeId):=match P.underlying t with
 | some (.map k e)=>match P.underlying k with
  | some (.struct _)|some (.array _ _)=>match mR P 100 k with
   | some l=>if jI P k=some l.length then some (k,l,e) else none
   | none=>none
  | _=>none
 | _=>none
def jW (P:Program) (t:TypeId) (x key:SV) (ok:Bool) (hp:Hp) (nx:Nat):eY :=
 match x,key,Cb P t with
 | .mp k,.v kv,some (d,e)=>match mX P e with
  | some z=>qe (bX hp k) λes=>.ok (lZ d kv=true/\es.all (λp=>gM kv p.1)=true) ⟨bif ok then .tup [gA z kv es,.v (.bool (zg kv es))] else gA z kv es,[],nx,[k.key]⟩
  | none=>.bad
 | .mp k,.agg cs,some _=>match qf cs,Cc P t with
  | some vs,some (_,l,e)=>match mX P e with
   | some z=>qe (bX hp k) λes=>.ok (iK l vs=true/\es.all (λp=>oP l p.1)=true) ⟨bif ok then .tup [gA z (.agg vs.toArray) es,.v (.bool (zg (.agg vs.toArray) es))] else gA z (.agg vs.toArray) es,[],nx,[k.key]⟩
   | none=>.bad
  | _,_=>.bad
 | _,_,_=>.bad
theorem ul (h:dS X hp nx ids w) {k:Nm} {b:Nat} {es:List (Value×SV)} (hk:bX hp k = .map es) (hid:ids k=some (b,0)) :
 ∃arr clock,w.heap[b]? = some (.map arr clock)/\arr.size=es.length/\(∀ i x,es[i]? = some x->(arr.getD i default).key=x.1/\cV X hp ids w x.2 (arr.getD i default).val)/\wa arr clock:=by
 have hc:=h.st.ch k;rw [hk] at hc;obtain ⟨b',arr,clock,hid',hw,hsz,hx,hbo⟩:=hc;rw [hid] at hid';cases hid';exact ⟨arr,clock,hw,hsz,hx,hbo⟩
theorem yl (h:dS X hp nx ids w) {k:Nm} {b:Nat} {es:List (Value×SV)} (hk:bX hp k = .map es) (hid:ids k=some (b,0)) {kt:TypeId} {d:TypeDesc} {key:Value} (hu:X.P.underlying kt=some d) (hko:lZ d key=true) (hal:es.all (λp=>gM key p.1)=true)
  {arr:Array MapEntry} {clock:Nat} (hw:w.heap[b]? = some (.map arr clock)) (hsz:arr.size=es.length) (hx:∀ i x,es[i]? = some x->(arr.getD i default).key=x.1/\cV X hp ids w x.2 (arr.getD i default).val) :
  (Instr.findKey kt key arr.toList).run X.P w = .ok ((fc key es 0).map λp=>(p.1,(arr.getD p.1 default).val)) w:=by
 have hf:=zf (d:=d) hko arr.toList es 0 (by simpa using hsz) (λj x hj=>by
  have hlt:j<arr.size:=by rw [hsz];exact (dy.1 hj).1
  refine ⟨arr[j],by simp,?_⟩;have:=(hx j x hj).1;rwa [cQ,d6 hlt] at this) (dQ.1 hal)
 unfold Instr.findKey;rw [c_,dF hu];simp only [dv,hf];simp [cQ,dA]
def lr (key:Value) (v:SV) (es:List (Value×SV)):List (Value×SV):=match fc key es 0 with
 | some p=>es.modify p.1 λ_=>(key,v)
 | none=>es++[(key,v)]
def mY (P:Program) (t:TypeId) (x key v:SV) (hp:Hp) (nx:Nat):eY :=
 match x,key,Cb P t with
 | .mp k,.v kv,some (d,e)=>qe (bX hp k) λes=>.ok (lZ d kv=true/\es.all (λp=>gM kv p.1)=true) ⟨.any,[ea k (.map (lr kv v es)) hp],nx,[k.key]⟩
 | .mp k,.agg cs,some _=>match qf cs,Cc P t with
  | some vs,some (_,l,e)=>qe (bX hp k) λes=>.ok (iK l vs=true/\es.all (λp=>oP l p.1)=true) ⟨.any,[ea k (.map (lr (.agg vs.toArray) v es)) hp],nx,[k.key]⟩
  | _,_=>.bad
 | _,_,_=>.bad
theorem G_ (a b:ByteArray):(a==b)=(a.data==b.data):=by cases a;cases b;rfl
theorem BQ {a b:ByteArray} (h:(a==b)=true):a=b:=by
 rw [G_] at h;cases a;cases b;simp at h;subst h;rfl
theorem um (a:ByteArray):(a==a)=true:=by rw [G_];simp
theorem AS {a b:Value} (h:kc a b=true) (n:Nat):Instr.sameBits n b a=true:=by
 cases a<;>cases b<;>simp only [kc,fy] at h
 ·have:=eq_of_beq h;subst this;cases n<;>simp [Instr.sameBits]
 ·simp at h;cases n<;>simp [Instr.sameBits,h]
 ·have:=BQ h;subst this;cases n<;>simp only [Instr.sameBits,um]
theorem AT (n:Nat):∀ (x y:List Value),sR x y=true->y.length=x.length/\((y.zip x).all λp=>Instr.sameBits n p.1 p.2)=true
 | [],[],_=>⟨rfl,rfl⟩
 | [],_::_,h=>by cases h
 | _::_,[],h=>by cases h
 | a::x,b::y,h=>by
  simp only [sR,cT] at h
  obtain ⟨h1,h2⟩:=AT n x y h.2
  exact ⟨by simp [h1],by simp only [List.zip_cons_cons,mK,AS h.1 n,h2,dc]⟩
theorem r_ {P:Program} {a b:Value} (h:gQ a b=true) (w:World):(Instr.keyThatStays b a).run P w = .ok a w:=by
 have hs:Instr.sameBits 10000 b a=true:=by
  unfold gQ at h;split at h
  ·rename_i x y;obtain ⟨h1,h2⟩:=AT 9999 x.toList y.toList h;show (y.size==x.size&&_)=true;rw [cT];exact ⟨by simpa using h1,h2⟩
  ·exact AS h _
 simp [Instr.keyThatStays,hs]
theorem oQ {P:Program} {w:World} {b:Nat} {o o':Obj} (h:w.heap[b]? = some o) (hn:∀ c e f,o≠.cells c e f):(setObj b o').run P w = .ok () { w with heap:=w.heap.setIfInBounds b o' }:=by
 cases o<;>simp [setObj,Sem.run,h] at hn ⊢
def wy (P:Program) (t:TypeId) (key:SV):Option (Value×(List (Value×SV)->Prop)×TypeId):=match key,Cb P t with
 | .v kv,some (d,e)=>some (kv,λes=>lZ d kv=true/\es.all (λp=>gM kv p.1)=true,e)
 | .agg cs,some _=>match qf cs,Cc P t with
  | some vs,some (_,l,e)=>some (.agg vs.toArray,λes=>iK l vs=true/\es.all (λp=>oP l p.1)=true,e)
  | _,_=>none
 | _,_=>none
def Cd (key:Value) (es:List (Value×SV)):Nat:=match fc key es 0 with
 | some p=>p.1
 | none=>es.length
def jo (P:Program) (t:TypeId) (x key:SV) (hp:Hp) (nx:Nat):eY:=match x,wy P t key with
 | .mp k,some (kv,S,e)=>match mX P e with
  | some z=>qe (bX hp k) λes=>.ok (S es) ⟨.tup [gA z kv es,.v (.int .i64 (Cd kv es:Nat))],[ea k (.map (lr kv (gA z kv es) es)) hp],nx,[k.key]⟩
  | none=>.bad
 | _,_=>.bad
def jy (x st v:SV) (hp:Hp) (nx:Nat):eY:=match x,st with
 | .mp k,.v (.int .i64 i)=>qe (bX hp k) λes=>.ok (0<=i/\i<(es.length:Int)) ⟨.any,[ea k (.map (es.modify i.toNat λp=>(p.1,v))) hp],nx,[k.key]⟩
 | _,_=>.bad
def Ce (nx:Nat):eY:=.ok True ⟨.mp nx,[(Nm.t nx,.map [])],nx+1,[]⟩
theorem BE (h:dS X hp nx ids w) (t:TypeId) {side:Prop} {e:dx} (he:Ce nx = .ok side e):fQ X hp ids w ((Instr.makeMap t none).run X.P w) e:=by
 cases he;obtain ⟨g1,g2⟩:=Ca h;refine ⟨_,_,_,rfl,g1,g2,.mp w.heap.size ?_ (cH _ _ _)⟩;rw [fF,dw,cH];rfl
theorem D8 (h:dS X hp nx ids w) (s:ByteArray):HeapC X ([(Nm.t nx,.obj s 0)]++hp) (upd ids (Nm.t nx) (some (w.heap.size,0))) (w.alloc (.stringIter s 0)) /\
  fk X hp ids w ([(Nm.t nx,.obj s 0)]++hp) (upd ids (Nm.t nx) (some (w.heap.size,0))) (w.alloc (.stringIter s 0)):=by
 have hb:bX hp (Nm.t nx) = .unborn:=h.fresh;have hC:bX ([(Nm.t nx,.obj s 0)]++hp)=upd (bX hp) (Nm.t nx) (.obj s 0):=dw nx _ hp;have hE:=h.st.alloc_ext hb (.obj s 0) (.stringIter s 0);refine ⟨⟨?_,λj hj h0 hjl=>?_,λj hj hv=>by rw [hC] at hv;exact mc h.nov (λe=>by cases e) j hj hv⟩,?_⟩
 ·rw [hC];refine h.st.alloc hb _ _ ?_;exact ⟨w.heap.size,cH _ _ _,jG w _⟩
 ·have hjn:j≠Nm.t nx:=λe=>by have:=h.m_le;subst e;simp at hj;omega
  rw [hC] at hjl ⊢;have hlo:(bX hp j).live=true:=by rwa [dP _ _ hjn] at hjl
  exact (h.kept j hj h0 hlo).step hE hlo hjl
 ·simp only [fk,hC];exact hE
theorem Cf (h:dS X hp nx ids w) {k:Nm} {b:Nat} {s:ByteArray} {pos pos':Nat} (hk:bX hp k = .obj s pos) (hi:ids k=some (b,0)) (hw:w.heap[b]? = some (.stringIter s pos)) :
  HeapC X ([ea k (.obj s pos') hp]++hp) ids { w with heap:=w.heap.setIfInBounds b (.stringIter s pos') }/\fk X hp ids w ([ea k (.obj s pos') hp]++hp) ids { w with heap:=w.heap.setIfInBounds b (.stringIter s pos') }:=by
 have hlk:(bX hp k).live=true:=by rw [hk];rfl
 have hblt:b<w.heap.size:=(qJ.1 hw).1;have hz:(w.heap.setIfInBounds b (.stringIter s pos')).size=w.heap.size:=by simp
 have hat:(w.heap.setIfInBounds b (Obj.stringIter s pos'))[b]? = some (.stringIter s pos'):=by rw [uM hblt]
 have hot:∀ j,j≠b->(w.heap.setIfInBounds b (Obj.stringIter s pos'))[j]? = w.heap[j]?:=λj hj=>by rw [yc (λe=>hj e.symm)]
 have hshape:dN w.heap[b]? (w.heap.setIfInBounds b (Obj.stringIter s pos'))[b]?:=λa t ha=>by rw [hw] at ha;cases ha
 have hE:=h.st.turn_ext (w':={ w with heap:=w.heap.setIfInBounds b (.stringIter s pos') }) hlk hi (c:=.obj s pos') rfl (by rw [hk];trivial) hz hot hshape;have hC:bX ([ea k (.obj s pos') hp]++hp)=upd (bX hp) k (.obj s pos'):=jH (iY hlk) (by simp);refine ⟨⟨?_,λj hj h0 hjl=>?_,λj hj hv=>by rw [hC] at hv;exact mc h.nov (λe=>by cases e) j hj hv⟩,?_⟩
 ·rw [hC];refine h.st.turn hlk hi rfl (by rw [hk];trivial) hz hot hshape rfl rfl rfl ?_;exact ⟨b,hi,hat⟩
 ·rw [hC] at hjl ⊢;have hlo:(bX hp j).live=true:=by
   by_cases hjk:j=k
   ·subst hjk;exact hlk
   ·rwa [dP _ _ hjk] at hjl
  exact (h.kept j hj h0 hlo).step hE hlo hjl
 ·simp only [fk,hC];exact hE
def zh (P:Program) (t:TypeId) (x:SV) (nx:Nat):eY:=match x with
 | .v (.string s)=>match P.underlying t with
  | some .string=>.ok True ⟨.it nx,[(Nm.t nx,.obj s 0)],nx+1,[]⟩
  | _=>.bad
 | _=>.bad
def LU (c:cp) (f:ByteArray->Nat->eY):eY:=match c with
 | .obj s pos=>f s pos
 | _=>.bad
def zi (x:SV) (str:Bool) (hp:Hp) (nx:Nat):eY:=bif str then (match x with
 | .it k=>LU (bX hp k) λs pos=>bif decide (pos<s.size) then .ok True ⟨.tup [.v (.bool true),.v (.int .i64 ((pos:Nat):Int)),.v (.int .i32 (((Utf8.decode s pos).1:Nat):Int))],[ea k (.obj s (pos+(Utf8.decode s pos).2)) hp],nx,[k.key]⟩
  else .ok True ⟨.tup [.v (.bool false)],[],nx,[k.key]⟩
 | _=>.bad) else .bad
theorem Cg {c:cp} {f:ByteArray->Nat->eY} {s:Prop} {e:dx} (h:LU c f = .ok s e):∃ t pos,c = .obj t pos/\f t pos = .ok s e:=by
 cases c with
 | obj t pos=>exact ⟨t,pos,rfl,h⟩
 | _=>cases h
theorem D9 (h:dS X hp nx ids w) {t:TypeId} {q:SV} {x:Value} (hd:cV X hp ids w q x) {side:Prop} {e:dx} (he:zh X.P t q nx = .ok side e):fQ X hp ids w ((Instr.range t x).run X.P w) e:=by
 unfold zh at he;split at he
 ·split at he
  ·rename_i s _ hu;cases he;obtain rfl:=d9 hd;obtain ⟨g1,g2⟩:=D8 h s;refine ⟨.pointer (some ⟨w.heap.size,0,none⟩),w.alloc (.stringIter s 0),_,?_,g1,g2,.it w.heap.size ?_ (cH _ _ _)⟩
   ·simp only [Instr.range,c_,dF hu,dv,eK];rfl
   ·rw [fF,dw,cH];rfl
  ·cases he
 ·cases he
theorem LX {P:Program} {C:Nm->cp} {ids:dE} {I:Nat->Prop} {w:World} {y:Value} {k:Nm} (h:dT P C ids I w (.it k) y) (hl:(C k).live=true):∃ b,ids k=some (b,0)/\y = .pointer (some ⟨b,0,none⟩):=by
 cases h with
 | itDead h=>rw [h] at hl;cases hl
 | it b _ hi=>exact ⟨b,hi,rfl⟩
theorem FM (h:dS X hp nx ids w) {str:Bool} {q:SV} {x:Value} (hd:cV X hp ids w q x) {side:Prop} {e:dx} (he:zi q str hp nx = .ok side e) (ty:TypeId):fQ X hp ids w ((Instr.next x str ty).run X.P w) e:=by
 unfold zi at he;cases str with
 | false=>cases he
 | true =>
  simp only [cd] at he;split at he
  ·rename_i k;obtain ⟨s,pos,hk,hf⟩:=Cg he;obtain ⟨b,hid,rfl⟩:=LX hd (by rw [hk];rfl);have hc:=h.st.ch k;rw [hk] at hc;obtain ⟨b',hid',hw⟩:=hc;rw [hid] at hid';cases hid';cases hb:decide (pos<s.size) with
   | true =>
    rw [hb] at hf;simp only [cd] at hf;cases hf;have hlt:pos<s.size:=of_decide_eq_true hb;obtain ⟨g1,g2⟩:=Cf (pos':=pos+(Utf8.decode s pos).2) h hk hid hw;refine ⟨_,_,_,?_,g1,g2,.tup #[.bool true,goInt pos,.int .i32 (Utf8.decode s pos).1] rfl λi y hy=>?_⟩
    ·simp only [Instr.next,c_,lp hw (by intros;simp),dv,if_pos hlt,oQ hw (by intros;simp)];rfl
    ·match i,hy with
     | 0,hy=>cases hy;exact .v
     | 1,hy=>cases hy;exact .v
     | 2,hy=>cases hy;exact .v
   | false =>
    rw [hb] at hf;simp only [cj] at hf;cases hf;have hlt:¬ pos<s.size:=of_decide_eq_false hb;refine cW (x:=.tuple #[.bool false]) h ?_ (.tup #[.bool false] rfl λi y hy=>?_)
    ·simp only [Instr.next,c_,lp hw (by intros;simp),dv,if_neg hlt];rfl
    ·match i,hy with
     | 0,hy=>cases hy;exact .v
  ·cases he
end
section
open Go.RowKit
variable {P:Program}
def Ci:Value->Value->Bool
 | .int _ a,.int _ b=>a==b
 | .bool a,.bool b=>a==b
 | .string a,.string b=>decide (a=b)
 | _,_=>false
def qg (xs ys:Array Value) (off n:Nat):Bool:=(List.range n).all λj=>Ci (xs.getD (off+j) undef) (ys.getD (off+j) undef)
structure jK (xs:Array Value) (off:Nat) (l:List TypeDesc):Prop where
 size:off+l.length<=xs.size
 at_:∀ j d,l[j]? = some d->mS d (xs.getD (off+j) undef)=true
theorem jK.left {xs:Array Value} {off:Nat} {l r:List TypeDesc} (h:jK xs off (l++r)):jK xs off l :=
 ⟨by have:=h.size;rw [dW] at this;omega,λj d hj=>h.at_ j d (by rw [iR (dy.1 hj).1];exact hj)⟩
theorem jK.right {xs:Array Value} {off:Nat} {l r:List TypeDesc} (h:jK xs off (l++r)):jK xs (off+l.length) r :=
 ⟨by have:=h.size;rw [dW] at this;omega,λj d hj=>by
  have:=h.at_ (l.length+j) d (by rw [jB (by omega)];rw [yd];exact hj)
  rwa [←iT] at this⟩
theorem jK.extract {xs:Array Value} {off:Nat} {l:List TypeDesc} (h:jK xs off l):jK (xs.extract off (off+l.length)) 0 l :=
 ⟨by have:=h.size;simp only [Array.size_extract];omega,λj d hj=>by
  have:=h.at_ j d hj
  have hlt:=(dy.1 hj).1
  have hsz:=h.size
  rw [cQ,d6 (show off+j<xs.size by omega)] at this
  rw [cQ,dm,uJ,if_pos (by omega),d6 (show off+j<xs.size by omega)]
  exact this⟩
theorem xV {xs ys:Array Value} {off n:Nat} (hx:off+n<=xs.size) (hy:off+n<=ys.size):qg (xs.extract off (off+n)) (ys.extract off (off+n)) 0 n=qg xs ys off n:=by
 unfold qg;rw [sN,dQ,dQ];refine forall_congr' λj=>?_
 refine imp_congr_right λhj=>?_
 rw [jD] at hj;simp only [cQ,dm,uJ];rw [if_pos (by omega),if_pos (by omega)]
theorem Ak (xs ys:Array Value) (off a b:Nat):qg xs ys off (a+b)=(qg xs ys off a&&qg xs ys (off+a) b):=by
 unfold qg;rw [List.range_add,List.all_append,List.all_map];congr 1;simp only [Function.comp_def,iT]
theorem wz {t:TypeId} {d:TypeDesc} (hu:P.underlying t=some d) (hd:d.isRow=false) (xs:Array Value) (off:Nat) (h:off<xs.size) (w:World):(part t xs off).run P w = .ok (xs.getD off undef) w:=by
 have:(isAgg t).run P w = .ok false w:=by
  unfold isAgg;rw [c_,dF hu w];cases d<;>first|rfl|cases hd
 simp only [part,c_,this,dv,fy,lJ];simp [cQ,d6 h]
theorem nv {t:TypeId} {d:TypeDesc} (hu:P.underlying t=some d) (hd:d.isRow=true) {n:Nat} (hs:jI P t=some n) (xs:Array Value) (off:Nat) (w:World):(part t xs off).run P w = .ok (.agg (xs.extract off (off+n))) w:=by
 have:(isAgg t).run P w = .ok true w:=by
  unfold isAgg;rw [c_,dF hu w];cases d<;>first|rfl|cases hd
 obtain ⟨i,hi,rfl⟩:=np hs;simp [part,c_,this,sizeOf,typeInfo,hi]
theorem EN (xs ys:Array Value) (off:Nat):qg xs ys off 1=Ci (xs.getD off undef) (ys.getD off undef):=by simp [qg]
def zj (P:Program) (D:Nat) (t:TypeId) (l:List TypeDesc):Prop :=
∀(xs ys:Array Value) (off:Nat) (w:World),jK xs off l->jK ys off l ->
 ∃a b,(part t xs off).run P w = .ok a w/\(part t ys off).run P w = .ok b w/\(Op.equalIn D t a b).run P w = .ok (qg xs ys off l.length) w
theorem Al {t:TypeId} {d:TypeDesc} (hu:P.underlying t=some d) (hk:(∃ k,d = .int k)\/d = .bool\/d = .string) (D:Nat):zj P (D+1) t [d]:=by
 intro xs ys off w hx hy;have hd:d.isRow=false:=by rcases hk with ⟨k,rfl⟩|rfl|rfl<;>rfl
 have lx:=hx.at_ 0 d rfl;have ly:=hy.at_ 0 d rfl;have sx:=hx.size;have sy:=hy.size;simp only [gu,List.length_nil,dm,eG] at *;refine ⟨_,_,wz hu hd xs off (by omega) w,wz hu hd ys off (by omega) w,?_⟩;rw [EN];generalize xs.getD off undef=a at *;generalize ys.getD off undef=b at *;rcases hk with ⟨k,rfl⟩|rfl|rfl
 ·cases a<;>simp only [mS,fy] at lx;cases b<;>simp only [mS,fy] at ly;have e1:=eq_of_beq lx;have e2:=eq_of_beq ly;subst e1;subst e2;rw [run_equalIn_int w D t _ _ _ _ hu];rfl
 ·cases a<;>simp only [mS,fy] at lx;cases b<;>simp only [mS,fy] at ly;rw [run_equalIn_bool' w D t _ _ hu];rfl
 ·cases a<;>simp only [mS,fy] at lx;cases b<;>simp only [mS,fy] at ly;rename_i s r;rw [run_equalIn_string w D t _ _ hu,←beq_toListBytes];congr 1;rw [Ci,sN,iU];exact ⟨λh=>BQ h,λh=>h▸um s⟩
theorem AU:∀ (fs:List Field) (D:Nat) (off:Nat) (l:List TypeDesc) (F:Nat),
  (∀ F' t l',F'<=F->mR P F' t=some l'->jI P t=some l'.length->zj P D t l')->oB P F fs off=some l->∀ (xs ys:Array Value) (w:World),jK xs off l->jK ys off l ->
  (Op.eqFields D xs ys fs).run P w = .ok (qg xs ys off l.length) w
 | [],D,off,l,F,hF,h,xs,ys,w,hx,hy=>by
  unfold oB at h;cases h
  simp [Op.eqFields,qg]
 | f::r,D,off,l,0,hF,h,xs,ys,w,hx,hy=>by unfold oB at h;cases h
 | f::r,D,off,l,F+1,hF,h,xs,ys,w,hx,hy=>by
  unfold oB at h
  split at h
  ·cases h
  ·rename_i hn
   simp only [not_or,Decidable.not_not] at hn
   obtain ⟨hn1,rfl⟩:=hn
   split at h
   ·rename_i l1 hl1
    split at h
    ·rename_i hsz
     cases hr:oB P F r (f.offset+l1.length) with
     | none=>rw [hr] at h;cases h
     | some l2 =>
      rw [hr] at h;cases h
      obtain ⟨a,b,ha,hb,he⟩:=hF F f.type l1 (by omega) hl1 hsz xs ys f.offset w hx.left hy.left
      have ih:=AU r D (f.offset+l1.length) l2 F (λF' t l' h1=>hF F' t l' (by omega)) hr xs ys w hx.right hy.right
      simp only [Op.eqFields]
      rw [if_pos hn1]
      simp only [c_,ha,dv,hb,he,dW,Ak]
      cases qg xs ys f.offset l1.length with
      | true=>simpa using ih
      | false=>simp
    ·cases h
   ·cases h
theorem Cj {e:TypeId} {D:Nat} {l:List TypeDesc} (hE:zj P D e l) (hs:P.cellsOf e=l.length):∀ (n k:Nat) (xs ys:Array Value) (w:World),
  jK xs (k*l.length) ((List.range n).flatMap λ_=>l)->jK ys (k*l.length) ((List.range n).flatMap λ_=>l) ->
  (Op.eqItems D e (P.cellsOf e) xs ys (List.range' k n)).run P w = .ok (qg xs ys (k*l.length) (n*l.length)) w
 | 0,k,xs,ys,w,hx,hy=>by simp [Op.eqItems,qg]
 | n+1,k,xs,ys,w,hx,hy=>by
  have hsplit:((List.range (n+1)).flatMap λ_=>l)=l++(List.range n).flatMap λ_=>l:=by
   rw [List.range_succ_eq_map,pM,List.flatMap_map]
  rw [hsplit] at hx hy;obtain ⟨a,b,ha,hb,he⟩:=hE xs ys (k*l.length) w hx.left hy.left;have hr1:=hx.right;have hr2:=hy.right;rw [←qH] at hr1 hr2;have ih:=Cj hE hs n (k+1) xs ys w hr1 hr2;rw [List.range'_succ];simp only [Op.eqItems,c_];rw [hs] at ih ⊢;simp only [ha,dv,hb,he];rw [qH n,Nat.add_comm (n*l.length),Ak,←qH];cases qg xs ys (k*l.length) l.length with
  | true=>simpa using ih
  | false=>simp
theorem EO:∀ (F:Nat) (t:TypeId) (l:List TypeDesc) (D:Nat),F<=D->mR P F t=some l->(jI P t=some l.length)->zj P D t l:=by
 intro F;induction F using Nat.strongRecOn with
 | _ F ih =>
  intro t l D hD h hsz0;cases F with
  | zero=>unfold mR at h;cases h
  | succ F =>
   cases D with
   | zero=>omega
   | succ D =>
    unfold mR at h;split at h
    ·rename_i k hu;cases h;exact Al hu (.inl ⟨k,rfl⟩) D
    ·rename_i hu;cases h;exact Al hu (.inr (.inl rfl)) D
    ·rename_i hu;cases h;exact Al hu (.inr (.inr rfl)) D
    ·rename_i fs hu;split at h
     ·cases h
     ·rename_i hst;simp only [kZ,not_or,Bool.not_eq_true] at hst;intro xs ys off w hx hy;refine ⟨_,_,nv hu rfl hsz0 xs off w,nv hu rfl hsz0 ys off w,?_⟩;have hf:P.fieldsOf t=fs:=by unfold Program.fieldsOf;rw [hu]
      rw [run_equalIn_struct w D t _ _ (by rw [hf];exact hu) hst.1,hf];rw [AU fs.toList D 0 l F (λF' t l' h1 h2 h3=>ih F' (by omega) t l' D (by omega) h2 h3) h _ _ w hx.extract hy.extract];rw [xV hx.size hy.size]
    ·rename_i n e hu;split at h
     ·rename_i l1 hl1;split at h
      ·rename_i hsz;cases h;intro xs ys off w hx hy;refine ⟨_,_,nv hu rfl hsz0 xs off w,nv hu rfl hsz0 ys off w,?_⟩;obtain ⟨i,hi,_⟩:=np hsz;rw [run_equalIn_array w D _ _ hu hi];have he:=ih F (by omega) e l1 D (by omega) hl1 hsz;have:=Cj he (wd hsz) n 0 (xs.extract off (off+((List.range n).flatMap λ_=>l1).length)) (ys.extract off (off+((List.range n).flatMap λ_=>l1).length)) w (by rw [lK];exact hx.extract) (by rw [lK];exact hy.extract);rw [←List.range_eq_range'] at this;rw [this,lK,←gg,xV hx.size hy.size]
      ·cases h
     ·cases h
    ·cases h
def AV (P:Program) (em:Bool) (D:Nat) (t:TypeId) (l:List TypeDesc):Prop :=
∀(xs:Array Value) (off:Nat) (w:World),jK xs off l->∃ a,(part t xs off).run P w = .ok a w/\(Instr.checkKey em D t a).run P w = .ok () w
theorem uV {t:TypeId} {d:TypeDesc} (hu:P.underlying t=some d) (hk:(∃ k,d = .int k)\/d = .bool\/d = .string) (em:Bool) (D:Nat):AV P em (D+1) t [d]:=by
 intro xs off w hx;have hd:d.isRow=false:=by rcases hk with ⟨k,rfl⟩|rfl|rfl<;>rfl
 have lx:=hx.at_ 0 d rfl;have sx:=hx.size;simp only [gu,List.length_nil,dm,eG] at *;refine ⟨_,wz hu hd xs off (by omega) w,?_⟩;generalize xs.getD off undef=a at *;unfold Instr.checkKey;rw [c_,dF hu];rcases hk with ⟨k,rfl⟩|rfl|rfl<;>cases a<;>simp only [mS,fy] at lx<;>rfl
theorem FN (em:Bool):∀ (F:Nat) (t:TypeId) (l:List TypeDesc) (D:Nat),F<=D->mR P F t=some l->jI P t=some l.length->AV P em D t l:=by
 intro F
 induction F using Nat.strongRecOn with
 | _ F ih =>
  intro t l D hD h hsz0
  cases F with
  | zero=>unfold mR at h;cases h
  | succ F =>
   cases D with
   | zero=>omega
   | succ D =>
    unfold mR at h
    split at h
    ·rename_i k hu;cases h;exact uV hu (.inl ⟨k,rfl⟩) em D
    ·rename_i hu;cases h;exact uV hu (.inr (.inl rfl)) em D
    ·rename_i hu;cases h;exact uV hu (.inr (.inr rfl)) em D
    ·rename_i fs hu
     split at h
     ·cases h
     ·intro xs off w hx
      refine ⟨_,nv hu rfl hsz0 xs off w,?_⟩
      have hx2:=hx.extract
      generalize xs.extract off (off+l.length)=ys at hx2
      unfold Instr.checkKey
      simp only [c_,dF hu,dv]
      rw [←Array.forIn_toList]
      clear hx hu hsz0
      have gen:∀ (fs:List Field) (F' off:Nat) (l:List TypeDesc),F'<=F->oB P F' fs off=some l->jK ys off l->((forIn fs PUnit.unit λf r=>do
         if f.name ≠ "_" then (do
          Instr.checkKey em D f.type (←part f.type ys f.offset)
          pure (ForInStep.yield PUnit.unit))
         else pure (ForInStep.yield PUnit.unit)):Sem PUnit).run P w = .ok PUnit.unit w:=by
       intro fs
       induction fs with
       | nil=>intro F' off l _ _ _;simp
       | cons f r ihr =>
        intro F' off l hF' h hl
        cases F' with
        | zero=>unfold oB at h;cases h
        | succ F' =>
         unfold oB at h
         split at h
         ·cases h
         ·rename_i hn
          simp only [not_or,Decidable.not_not] at hn
          obtain ⟨hn1,rfl⟩:=hn
          split at h
          ·rename_i l1 hl1
           split at h
           ·rename_i hsz
            cases hr:oB P F' r (f.offset+l1.length) with
            | none=>rw [hr] at h;cases h
            | some l2 =>
             rw [hr] at h;cases h
             obtain ⟨a,ha,hc⟩:=ih F' (by omega) f.type l1 D (by omega) hl1 hsz ys f.offset w hl.left
             have:=ihr F' (f.offset+l1.length) l2 (by omega) hr hl.right
             simp only [List.forIn_cons,c_,hn1,ne_eq,not_false_eq_true,if_true,dv,ha,hc,eK]
             exact this
           ·cases h
          ·cases h
      have:=gen fs.toList F 0 l (cF _) h hx2
      rw [this];rfl
    ·rename_i n e hu
     split at h
     ·rename_i l1 hl1
      split at h
      ·rename_i hsz
       cases h
       intro xs off w hx
       refine ⟨_,nv hu rfl hsz0 xs off w,?_⟩
       have hx2:=hx.extract
       generalize xs.extract off (off+((List.range n).flatMap λ_=>l1).length)=ys at hx2
       obtain ⟨i,hi,_⟩:=np hsz
       have hcs:=wd hsz
       unfold Instr.checkKey
       simp only [c_,dF hu,dv]
       simp only [Std.Legacy.Range.forIn_eq_forIn_range',Std.Legacy.Range.size,ni,Nat.add_one_sub_one,Nat.div_one]
       have gen:∀ (n k:Nat),jK ys (k*l1.length) ((List.range n).flatMap λ_=>l1)->((forIn (List.range' k n) PUnit.unit λi r=>do
          Instr.checkKey em D e (←part e ys (i*(←sizeOf e)))
          pure (ForInStep.yield PUnit.unit)):Sem PUnit).run P w = .ok PUnit.unit w:=by
        intro n
        induction n with
        | zero=>intro k _;simp
        | succ n ihn =>
         intro k hl
         have hsplit:((List.range (n+1)).flatMap λ_=>l1)=l1++(List.range n).flatMap λ_=>l1:=by
          rw [List.range_succ_eq_map,pM,List.flatMap_map]
         rw [hsplit] at hl
         obtain ⟨a,ha,hc⟩:=ih F (by omega) e l1 D (by omega) hl1 hsz ys (k*l1.length) w hl.left
         have hr1:=hl.right
         rw [←qH] at hr1
         have:=ihn (k+1) hr1
         rw [List.range'_succ]
         simp only [List.forIn_cons,c_,run_sizeOf w hi,hcs,dv,ha,hc,eK]
         exact this
       have:=gen n 0 (by rw [lK];exact hx2)
       rw [this];rfl
      ·cases h
     ·cases h
    ·cases h
theorem uW:∀ (l:List TypeDesc) (vs:List Value),iK l vs=true->vs.length=l.length/\∀ j d,l[j]? = some d->mS d (vs.getD j undef)=true
 | [],[],_=>⟨rfl,λj d h=>by simp at h⟩
 | [],_::_,h=>by cases h
 | _::_,[],h=>by cases h
 | d::l,v::vs,h=>by
  simp only [iK,cT] at h
  obtain ⟨h1,h2⟩:=uW l vs h.2
  refine ⟨by simp [h1],λj d' hj=>?_⟩
  cases j with
  | zero=>simp at hj;subst hj;simpa using h.1
  | succ j=>simp at hj;simpa using h2 j d' hj
theorem wA {l:List TypeDesc} {a:Array Value} (h:iK l a.toList=true):jK a 0 l:=by
 obtain ⟨h1,h2⟩:=uW l a.toList h;refine ⟨by rw [dm,←h1];simp,λj d hj=>?_⟩;have:=h2 j d hj;rw [dm];simpa [cQ,dA] using this
theorem IA {d:TypeDesc} {a b:Value} (ha:mS d a=true) (hb:mS d b=true):Ci a b=kc a b:=by
 cases d<;>cases a<;>simp only [mS,fy] at ha<;>cases b<;>simp only [mS,fy] at hb
 ·rfl
 ·have e1:=eq_of_beq ha;have e2:=eq_of_beq hb;subst e1;subst e2;simp [Ci,kc]
 ·rename_i s r;rw [Ci,kc,sN,iU];exact ⟨λh=>h▸um s,λh=>BQ h⟩
theorem Ck:∀ (l:List TypeDesc) (x y:List Value),iK l x=true->iK l y=true->((List.range l.length).all λj=>Ci (x.getD j undef) (y.getD j undef))=sR x y
 | [],[],[],_,_=>rfl
 | [],_::_,_,h,_=>by cases h
 | [],[],_::_,_,h=>by cases h
 | _::_,[],_,h,_=>by cases h
 | _::_,_::_,[],_,h=>by cases h
 | d::l,a::x,b::y,hx,hy=>by
  simp only [iK,cT] at hx hy
  have ih:=Ck l x y hx.2 hy.2
  rw [gu,List.range_succ_eq_map,mK,List.all_map]
  simp only [Function.comp_def,List.getD_cons_zero,List.getD_cons_succ,sR]
  rw [ih,IA hx.1 hy.1]
theorem D_ (a:Array Value) {n:Nat} (h:a.size=n):a.extract 0 (0+n)=a:=by subst h;simp
theorem Am {kt:TypeId} {d:TypeDesc} (hu:P.underlying kt=some d) (hd:d.isRow=true) {l:List TypeDesc} (hs:jI P kt=some l.length) {a:Array Value} (ha:iK l a.toList=true) (w:World):(part kt a 0).run P w = .ok (.agg a) w:=by
 have h1:=(uW l a.toList ha).1;rw [nv hu hd hs a 0 w,D_ a (by rw [←h1];simp)]
theorem Ha {kt:TypeId} {d:TypeDesc} (hu:P.underlying kt=some d) (hd:d.isRow=true) {l:List TypeDesc} (hf:mR P 100 kt=some l) (hs:jI P kt=some l.length) {a b:Array Value} (ha:iK l a.toList=true) (hb:iK l b.toList=true) (w:World) :
  (Op.equal kt (.agg a) (.agg b)).run P w = .ok (gQ (.agg a) (.agg b)) w:=by
 obtain ⟨x,y,h1,h2,h3⟩:=EO 100 kt l 10000 (by omega) hf hs a b 0 w (wA ha) (wA hb);rw [Am hu hd hs ha] at h1;rw [Am hu hd hs hb] at h2;cases h1;cases h2;have:qg a b 0 l.length=gQ (.agg a) (.agg b):=by
  show _=sR a.toList b.toList;rw [←Ck l _ _ ha hb];unfold qg;simp [cQ,dA]
 rw [←this];exact h3
theorem wB {kt:TypeId} {d:TypeDesc} (hu:P.underlying kt=some d) (hd:d.isRow=true) {l:List TypeDesc} (hf:mR P 100 kt=some l) (hs:jI P kt=some l.length) {a:Array Value} (ha:iK l a.toList=true) (em:Bool) (w:World) :
  (Instr.checkKey em 10000 kt (.agg a)).run P w = .ok () w:=by
 obtain ⟨x,h1,h2⟩:=FN em 100 kt l 10000 (by omega) hf hs a 0 w (wA ha);rw [Am hu hd hs ha] at h1;cases h1;exact h2
theorem vW {kt:TypeId} {d:TypeDesc} (hu:P.underlying kt=some d) (hd:d.isRow=true) {l:List TypeDesc} (hf:mR P 100 kt=some l) (hs:jI P kt=some l.length) {a:Array Value} (ha:iK l a.toList=true) (w:World) :
 ∀(arr:List MapEntry) (es:List (Value×SV)) (i:Nat),arr.length=es.length ->
  (∀ (j:Nat) (x:Value×SV),es[j]? = some x->∃ e:MapEntry,arr[j]? = some e/\e.key=x.1)->(∀ x∈es,oP l x.1=true) ->
  (Instr.findAsking kt (.agg a) arr i).run P w = .ok ((fc (.agg a) es i).map λp=>(p.1,(arr.getD (p.1-i) default).val)) w
 | [],[],i,_,_,_=>by simp [Instr.findAsking,fc]
 | [],_::_,_,h,_,_=>by simp at h
 | _::_,[],_,h,_,_=>by simp at h
 | e::arr,x::es,i,hl,hx,hal=>by
  obtain ⟨e',he',hkey⟩:=hx 0 x rfl
  simp only [pJ,fP] at he'
  subst he'
  have hfit:=hal x (by simp)
  have heq:(Op.equal kt (.agg a) e.key).run P w = .ok (gQ (.agg a) x.1) w:=by
   rw [hkey];cases hx1:x.1<;>rw [hx1] at hfit<;>simp only [oP,fy] at hfit;exact Ha hu hd hf hs ha hfit w
  have ih:=vW hu hd hf hs ha w arr es (i+1) (by simpa using hl) (λj y hj=>hx (j+1) y (by simpa using hj)) (λy hy=>hal y (by simp [hy]));simp only [Instr.findAsking,c_,heq,dv,fc];cases hq:gQ (.agg a) x.1 with
  | true=>simp
  | false =>
   simp only [fy,lJ,cj,ih];cases hf':fc (.agg a) es (i+1) with
   | none=>rfl
   | some p =>
    have hge:=(nu es (i+1) p hf').1;simp only [fp];rw [show p.1-i=(p.1-(i+1))+1 from by omega];simp
theorem wC {X:Cx} {hp:Hp} {ids:dE} {w:World} :∀ (cs:List SV) (vs:List Value) (arr:Array Value),qf cs=some vs->cs.length=arr.size->(∀ i x,cs[i]? = some x->cV X hp ids w x (arr.getD i undef))->arr=vs.toArray:=by
 have gen:∀ (cs:List SV) (vs:List Value) (l:List Value),qf cs=some vs->cs.length=l.length->(∀ i x,cs[i]? = some x->cV X hp ids w x (l.getD i undef))->l=vs:=by
  intro cs;induction cs with
  | nil=>intro vs l h hl _;cases h;cases l with
   | nil=>rfl
   | cons=>simp at hl
  | cons c cs ih =>
   intro vs l h hl hx;cases l with
   | nil=>simp at hl
   | cons v l =>
    cases c<;>simp only [qf] at h;case v x =>
     cases hp':qf cs with
     | none=>rw [hp'] at h;cases h
     | some r =>
      rw [hp'] at h;cases h;have h0:=d9 (hx 0 _ rfl);simp at h0;rw [ih r l hp' (by simpa using hl) (λi x hi=>by have:=hx (i+1) x (by simpa using hi);simpa using this),h0]
    all_goals cases h
 intro cs vs arr h hl hx;have:=gen cs vs arr.toList h (by simpa using hl) (λi x hi=>by have:=hx i x hi;simpa [cQ,dA] using this);rw [←this]
theorem wD {t kt e:TypeId} {l:List TypeDesc} (h:Cc P t=some (kt,l,e)):P.underlying t=some (.map kt e)/\∃ d,P.underlying kt=some d/\d.isRow=true/\mR P 100 kt=some l/\jI P kt=some l.length/\((∃ fs,d = .struct fs)\/∃ n e',d = .array n e'):=by
 unfold Cc at h;split at h
 ·rename_i k e' hu;split at h
  ·rename_i fs hk;split at h
   ·rename_i l' hl;split at h
    ·rename_i hs;cases h;exact ⟨hu,_,hk,rfl,hl,hs,.inl ⟨_,rfl⟩⟩
    ·cases h
   ·cases h
  ·rename_i n e2 hk;split at h
   ·rename_i l' hl;split at h
    ·rename_i hs;cases h;exact ⟨hu,_,hk,rfl,hl,hs,.inr ⟨_,_,rfl⟩⟩
    ·cases h
   ·cases h
  ·cases h
 ·cases h
theorem wE {kt:TypeId} {d:TypeDesc} (hu:P.underlying kt=some d) (hd:d.isRow=true) (hsa:(∃ fs,d = .struct fs)\/∃ n e',d = .array n e') {l:List TypeDesc} (hf:mR P 100 kt=some l) (hs:jI P kt=some l.length) {a:Array Value} (ha:iK l a.toList=true) (w:World)
  {arr:Array MapEntry} {es:List (Value×SV)} (hsz:arr.size=es.length) (hx:∀ i x,es[i]? = some x->(arr.getD i default).key=x.1) (hal:es.all (λp=>oP l p.1)=true) :
  (Instr.findKey kt (.agg a) arr.toList).run P w = .ok ((fc (.agg a) es 0).map λp=>(p.1,(arr.getD p.1 default).val)) w:=by
 have hA:=vW hu hd hf hs ha w arr.toList es 0 (by simpa using hsz) (λj x hj=>by
   have hlt:j<arr.size:=by rw [hsz];exact (dy.1 hj).1
   refine ⟨arr[j],by simp,?_⟩;have:=hx j x hj;rwa [cQ,d6 hlt] at this) (dQ.1 hal)
 unfold Instr.findKey;rw [c_,dF hu];simp only [dv];cases hl:arr.toList with
 | nil =>
  rw [hl] at hA;have:es=[]:=by cases es with
   | nil=>rfl
   | cons=>have:=dJ List.length hl;simp at this;simp [this] at hsz
  subst this;simp [Instr.findNow,fc]
 | cons e r =>
  have hn:Instr.findNow d (.agg a) (e::r) 0=none:=by
   rcases hsa with ⟨fs,rfl⟩|⟨n,e',rfl⟩<;>simp [Instr.findNow,Instr.sameNow]
  rw [hn];rw [hl] at hA;simp only [hA,ni];rw [←hl];simp [cQ,dA]
variable {X:Cx} {hp:Hp} {nx:Nat} {ids:dE} {w:World}
theorem xW (h:dS X hp nx ids w) {t kt e':TypeId} {ok:Bool} {k:Nm} {b:Nat} {es:List (Value×SV)} {y z:Value} (hu:X.P.underlying t=some (.map kt e')) (hz:mX X.P e'=some z) (hk:bX hp k = .map es) (hid:ids k=some (b,0))
  {arr:Array MapEntry} {clock:Nat} (hw:w.heap[b]? = some (.map arr clock)) (hsz:arr.size=es.length) (hx:∀ i x,es[i]? = some x->(arr.getD i default).key=x.1/\cV X hp ids w x.2 (arr.getD i default).val)
  (hck:∀ em,(Instr.checkKey em 10000 kt y).run X.P w = .ok () w) (hfr:(Instr.findKey kt y arr.toList).run X.P w = .ok ((fc y es 0).map λp=>(p.1,(arr.getD p.1 default).val)) w) :
  fQ X hp ids w ((Instr.lookup t (.map (some b)) y ok).run X.P w) ⟨bif ok then .tup [gA z y es,.v (.bool (zg y es))] else gA z y es,[],nx,[k.key]⟩:=by
 have hzr:(zeroValue e').run X.P w = .ok z w:=by
  unfold mX at hz;cases hi:X.P.info? e' with
  | none=>rw [hi] at hz;cases hz
  | some i=>rw [hi] at hz;simp only [cx] at hz;simp [zeroValue,typeInfo,hi,hz]
 have hrun:(Instr.lookup t (.map (some b)) y ok).run X.P w = .ok (if ok then .tuple #[match fc y es 0 with|some p=>(arr.getD p.1 default).val|none=>z,.bool (zg y es)] else match fc y es 0 with|some p=>(arr.getD p.1 default).val|none=>z) w:=by
  simp only [Instr.lookup,c_,dF hu,dv,lp hw (by intros;simp),eK,hck,hfr,zg];cases hfs:fc y es 0 with
  | none=>simp [hzr]
  | some p=>simp
 have hval:cV X hp ids w (gA z y es) (match fc y es 0 with|some p=>(arr.getD p.1 default).val|none=>z):=by
  unfold gA;cases hfs:fc y es 0 with
  | none=>exact .v
  | some p =>
   obtain ⟨_,q',h2,h3,_⟩:=nu es 0 p hfs;rw [ni] at h2;have:=(hx p.1 q' h2).2;rw [h3] at this;exact this
 refine cW h hrun ?_;cases ok with
 | false=>exact hval
 | true =>
  refine .tup _ rfl λi x hi=>?_
  match i,hi with
  | 0,hi=>simp at hi;subst hi;exact hval
  | 1,hi=>simp at hi;subst hi;exact .v
  | i+2,hi=>simp at hi
theorem Cl (h:dS X hp nx ids w) {t:TypeId} {ok:Bool} {s q:SV} {x y:Value} (hd:cV X hp ids w s x) (hq:cV X hp ids w q y) {side:Prop} {e:dx} (he:jW X.P t s q ok hp nx = .ok side e) (hs:side) :
  fQ X hp ids w ((Instr.lookup t x y ok).run X.P w) e:=by
 unfold jW at he;split at he
 ·rename_i k kv d e' hmt;obtain ⟨kt,hu,huk⟩:=wx hmt;split at he
  ·rename_i z hz;obtain ⟨es,hk,hf⟩:=ir he;cases hf;obtain ⟨hko,hal⟩:=hs;obtain rfl:=d9 hq;obtain ⟨b,hid,rfl⟩:=rG hd (by rw [hk];rfl);obtain ⟨arr,clock,hw,hsz,hx,hbo⟩:=ul h hk hid;exact xW h hu hz hk hid hw hsz hx (λem=>sS huk hko em 9999 w) (yl h hk hid huk hko hal hw hsz hx)
  ·cases he
 ·rename_i k cs d' hmt;split at he
  ·rename_i vs kt l e' hvs hma;obtain ⟨hu,d,huk,hrow,hfl,hst,hsa⟩:=wD hma;split at he
   ·rename_i z hz;obtain ⟨es,hk,hf⟩:=ir he;cases hf;obtain ⟨hlv,hal⟩:=hs;obtain ⟨a,rfl,hl2,hx2⟩:=mW hq;obtain rfl:=wC cs vs a hvs hl2 hx2;obtain ⟨b,hid,rfl⟩:=rG hd (by rw [hk];rfl);obtain ⟨arr,clock,hw,hsz,hx,hbo⟩:=ul h hk hid;exact xW h hu hz hk hid hw hsz hx (λem=>wB huk hrow hfl hst (by simpa using hlv) em w) (wE huk hrow hsa hfl hst (by simpa using hlv) w hsz (λi x hi=>(hx i x hi).1) hal)
   ·cases he
  ·cases he
 ·cases he
theorem AW {arr:Array MapEntry} {clock:Nat} (h:wa arr clock) (e:MapEntry) (he:e.born=clock):wa (arr.push e) (clock+1):=by
 refine ⟨by rw [Array.size_push,h.1],λi hi=>?_⟩;rw [Array.size_push] at hi;rw [cQ,Array.getElem?_push];by_cases e2:i=arr.size
 ·rw [if_pos e2];show e.born=i;rw [he,h.1,e2]
 ·rw [if_neg e2,←cQ];exact h.2 i (by omega)
theorem t8 {arr:Array MapEntry} {clock:Nat} (h:wa arr clock) (k:Nat) (f:MapEntry->MapEntry) (hf:∀ e,(f e).born=e.born):wa (arr.modify k f) clock:=by
 refine ⟨by rw [Array.size_modify];exact h.1,λi hi=>?_⟩;rw [Array.size_modify] at hi;have:=h.2 i hi;rw [cQ,d6 hi] at this;rw [cQ,qK,d6 hi];split
 ·show (f arr[i]).born=i;rw [hf];exact this
 ·exact this
theorem xX (h:dS X hp nx ids w) {t kt e':TypeId} {k:Nm} {b:Nat} {es:List (Value×SV)} {y z:Value} {v:SV} (hu:X.P.underlying t=some (.map kt e')) (hv:cV X hp ids w v z) (hk:bX hp k = .map es) (hid:ids k=some (b,0))
  {arr:Array MapEntry} {clock:Nat} (hw:w.heap[b]? = some (.map arr clock)) (hsz:arr.size=es.length) (hx:∀ i x,es[i]? = some x->(arr.getD i default).key=x.1/\cV X hp ids w x.2 (arr.getD i default).val) (hbo:wa arr clock)
  (hck:∀ em,(Instr.checkKey em 10000 kt y).run X.P w = .ok () w) (hfr:(Instr.findKey kt y arr.toList).run X.P w = .ok ((fc y es 0).map λp=>(p.1,(arr.getD p.1 default).val)) w) :
  wc X hp ids w ((Instr.mapUpdate t (.map (some b)) y z).run X.P w) ⟨.any,[ea k (.map (lr y v es)) hp],nx,[k.key]⟩:=by
 cases hfs:fc y es 0 with
 | none =>
  rw [hfs] at hfr;have hrun:(Instr.mapUpdate t (.map (some b)) y z).run X.P w = .ok () { w with heap:=w.heap.setIfInBounds b (.map (arr.push { key:=y,val:=z,born:=clock }) (clock+1)) }:=by
   simp only [Instr.mapUpdate,c_,dF hu,dv,lp hw (by intros;simp),hck,hfr,Option.map_none];exact oQ hw (by intros;simp)
  obtain ⟨g1,g2⟩:=nK h hk hid (es':=es++[(y,v)]) hw (arr':=arr.push { key:=y,val:=z,born:=clock }) (clock':=clock+1) (by simp [hsz]) (λi x hi=>by
   rw [pK] at hi;rw [cQ,Array.getElem?_push];split at hi
   ·rename_i hlt;have:=hx i x hi;rw [if_neg (by omega)];rwa [cQ] at this
   ·rename_i hlt;have:i=es.length:=by
     have:=(dy.1 hi).1;simp at this;omega
    subst this;simp at hi;subst hi;rw [if_pos hsz.symm];exact ⟨rfl,hv⟩) (AW hbo _ rfl)
  exact ⟨_,_,hrun,by simpa [lr,hfs] using g1,by simpa [lr,hfs] using g2⟩
 | some p =>
  rw [hfs] at hfr;obtain ⟨_,q',hq1,hq2,hq3⟩:=nu es 0 p hfs;rw [ni] at hq1;have hlt:p.1<arr.size:=by rw [hsz];exact (dy.1 hq1).1
  have hkk:(arr.getD p.1 default).key=q'.1:=(hx p.1 q' hq1).1;have hrun:(Instr.mapUpdate t (.map (some b)) y z).run X.P w = .ok () { w with heap:=w.heap.setIfInBounds b (.map (arr.modify p.1 λe=>{ e with key:=y,val:=z }) clock) }:=by
   simp only [Instr.mapUpdate,c_,dF hu,dv,lp hw (by intros;simp),hck,hfr,fp];have hkey:((arr[p.1]?).map (·.key)).getD y=q'.1:=by
    rw [←hkk,cQ,d6 hlt];rfl
   rw [hkey,r_ hq3,dv];exact oQ hw (by intros;simp)
  obtain ⟨g1,g2⟩:=nK h hk hid (es':=es.modify p.1 λ_=>(y,v)) hw (arr':=arr.modify p.1 λe=>{ e with key:=y,val:=z }) (clock':=clock) (by simp [hsz]) (λi x hi=>by
   rw [List.getElem?_modify] at hi;rw [cQ,qK];by_cases hip:p.1=i
   ·subst hip;rw [hq1] at hi;simp at hi;subst hi;simp [d6 hlt];exact hv
   ·simp only [if_neg hip] at hi ⊢;have hi':es[i]? = some x:=by
     cases he:es[i]? with
     | none=>rw [he] at hi;cases hi
     | some u=>rw [he] at hi;simpa using hi
    have:=hx i x hi';rwa [cQ] at this) (t8 hbo _ _ λ_=>rfl)
  exact ⟨_,_,hrun,by simpa [lr,hfs] using g1,by simpa [lr,hfs] using g2⟩
theorem wF (h:dS X hp nx ids w) {t:TypeId} {s q v:SV} {x y z:Value} (hd:cV X hp ids w s x) (hq:cV X hp ids w q y) (hv:cV X hp ids w v z) {side:Prop} {e:dx} (he:mY X.P t s q v hp nx = .ok side e) (hs:side) :
  wc X hp ids w ((Instr.mapUpdate t x y z).run X.P w) e:=by
 unfold mY at he;split at he
 ·rename_i k kv d e' hmt;obtain ⟨kt,hu,huk⟩:=wx hmt;obtain ⟨es,hk,hf⟩:=ir he;cases hf;obtain ⟨hko,hal⟩:=hs;obtain rfl:=d9 hq;obtain ⟨b,hid,rfl⟩:=rG hd (by rw [hk];rfl);obtain ⟨arr,clock,hw,hsz,hx,hbo⟩:=ul h hk hid;exact xX h hu hv hk hid hw hsz hx hbo (λem=>sS huk hko em 9999 w) (yl h hk hid huk hko hal hw hsz hx)
 ·rename_i k cs d' hmt;split at he
  ·rename_i vs kt l e' hvs hma;obtain ⟨hu,d,huk,hrow,hfl,hst,hsa⟩:=wD hma;obtain ⟨es,hk,hf⟩:=ir he;cases hf;obtain ⟨hlv,hal⟩:=hs;obtain ⟨a,rfl,hl2,hx2⟩:=mW hq;obtain rfl:=wC cs vs a hvs hl2 hx2;obtain ⟨b,hid,rfl⟩:=rG hd (by rw [hk];rfl);obtain ⟨arr,clock,hw,hsz,hx,hbo⟩:=ul h hk hid;exact xX h hu hv hk hid hw hsz hx hbo (λem=>wB huk hrow hfl hst (by simpa using hlv) em w) (wE huk hrow hsa hfl hst (by simpa using hlv) w hsz (λi x hi=>(hx i x hi).1) hal)
  ·cases he
 ·cases he
theorem J8 (h:dS X hp nx ids w) {t e':TypeId} {key:SV} {kv y:Value} {S:List (Value×SV)->Prop} (hk:wy X.P t key=some (kv,S,e')) (hq:cV X hp ids w key y) :
  y=kv/\∃ kt,X.P.underlying t=some (.map kt e')/\∀ {k:Nm} {b:Nat} {es:List (Value×SV)} {arr:Array MapEntry} {clock:Nat},S es->bX hp k = .map es->ids k=some (b,0)->w.heap[b]? = some (.map arr clock)->arr.size=es.length->(∀ i x,es[i]? = some x->(arr.getD i default).key=x.1/\cV X hp ids w x.2 (arr.getD i default).val)->(∀ em,(Instr.checkKey em 10000 kt kv).run X.P w = .ok () w)/\(Instr.findKey kt kv arr.toList).run X.P w = .ok ((fc kv es 0).map λp=>(p.1,(arr.getD p.1 default).val)) w:=by
 unfold wy at hk;split at hk
 ·rename_i kv' d e'' hmt;cases hk;obtain ⟨kt,hu,huk⟩:=wx hmt;refine ⟨d9 hq,kt,hu,λhS hk hid hw hsz hx=>⟨λem=>sS huk hS.1 em 9999 w,yl h hk hid huk hS.1 hS.2 hw hsz hx⟩⟩
 ·rename_i cs d' hmt;split at hk
  ·rename_i vs kt l e'' hvs hma;cases hk;obtain ⟨hu,d,huk,hrow,hfl,hst,hsa⟩:=wD hma;obtain ⟨a,rfl,hl2,hx2⟩:=mW hq;obtain rfl:=wC cs vs a hvs hl2 hx2;exact ⟨rfl,_,hu,λhS hk hid hw hsz hx=>⟨λem=>wB huk hrow hfl hst (by simpa using hS.1) em w,wE huk hrow hsa hfl hst (by simpa using hS.1) w hsz (λi x hi=>(hx i x hi).1) hS.2⟩⟩
  ·cases hk
 ·cases hk
theorem An (h:dS X hp nx ids w) {t:TypeId} {s q:SV} {x y:Value} (hd:cV X hp ids w s x) (hq:cV X hp ids w q y) {side:Prop} {e:dx} (he:jo X.P t s q hp nx = .ok side e) (hs:side) :
  fQ X hp ids w ((Instr.mapEntry t x y).run X.P w) e:=by
 unfold jo at he;split at he
 ·rename_i k kv S e' hke;split at he
  ·rename_i z hz;obtain ⟨es,hk,hf⟩:=ir he;cases hf;obtain ⟨rfl,kt,hu,hall⟩:=J8 h hke hq;obtain ⟨b,hid,rfl⟩:=rG hd (by rw [hk];rfl);obtain ⟨arr,clock,hw,hsz,hx,hbo⟩:=ul h hk hid;obtain ⟨hck,hfr⟩:=hall hs hk hid hw hsz hx;have hzr:(zeroValue e').run X.P w = .ok z w:=by
    unfold mX at hz;cases hi:X.P.info? e' with
    | none=>rw [hi] at hz;cases hz
    | some i=>rw [hi] at hz;simp only [cx] at hz;simp [zeroValue,typeInfo,hi,hz]
   cases hfs:fc y es 0 with
   | none =>
    rw [hfs] at hfr;have hrun:(Instr.mapEntry t (.map (some b)) y).run X.P w = .ok (.tuple #[z,goInt clock]) { w with heap:=w.heap.setIfInBounds b (.map (arr.push { key:=y,val:=z,born:=clock }) (clock+1)) }:=by
     simp only [Instr.mapEntry,c_,dF hu,dv,lp hw (by intros;simp),hck,hfr,Option.map_none,hzr];rw [oQ hw (by intros;simp)];rfl
    have hlv:gA z y es = .v z:=by unfold gA;rw [hfs]
    obtain ⟨g1,g2⟩:=nK h hk hid (es':=es++[(y,.v z)]) hw (arr':=arr.push { key:=y,val:=z,born:=clock }) (clock':=clock+1) (by simp [hsz]) (λi x hi=>by
     rw [pK] at hi;rw [cQ,Array.getElem?_push];split at hi
     ·rename_i hlt;have:=hx i x hi;rw [if_neg (by omega)];rwa [cQ] at this
     ·rename_i hlt;have:i=es.length:=by
       have:=(dy.1 hi).1;simp at this;omega
      subst this;simp at hi;subst hi;rw [if_pos hsz.symm];exact ⟨rfl,.v⟩) (AW hbo _ rfl)
    rw [hlv];have hu2:lr y (.v z) es=es++[(y,.v z)]:=by unfold lr;rw [hfs]
    have hp2:Cd y es=es.length:=by unfold Cd;rw [hfs]
    rw [hu2,hp2];refine ⟨_,_,ids,hrun,g1,g2,.tup _ rfl λi x hi=>?_⟩;match i,hi with
    | 0,hi=>simp at hi;subst hi;exact .v
    | 1,hi =>
     simp at hi;subst hi;have:goInt clock=Value.int .i64 (es.length:Nat):=by rw [goInt,hbo.1,hsz]
     show dT _ _ _ _ _ _ (goInt clock);rw [this];exact .v
    | i+2,hi=>simp at hi
   | some p =>
    rw [hfs] at hfr;obtain ⟨_,q',hq1,hq2,hq3⟩:=nu es 0 p hfs;rw [ni] at hq1;have hlt:p.1<arr.size:=by rw [hsz];exact (dy.1 hq1).1
    have hkk:(arr.getD p.1 default).key=q'.1:=(hx p.1 q' hq1).1;have hvv:cV X hp ids w p.2 (arr.getD p.1 default).val:=by have:=(hx p.1 q' hq1).2;rw [hq2] at this;exact this
    have hbn:(arr.getD p.1 default).born=p.1:=hbo.2 _ hlt;have hrun:(Instr.mapEntry t (.map (some b)) y).run X.P w = .ok (.tuple #[(arr.getD p.1 default).val,goInt (p.1:Nat)]) { w with heap:=w.heap.setIfInBounds b (.map (arr.modify p.1 λe=>{ e with key:=y }) clock) }:=by
     simp only [Instr.mapEntry,c_,dF hu,dv,lp hw (by intros;simp),hck,hfr,fp];have hkey:((arr[p.1]?).map (·.key)).getD y=q'.1:=by
      rw [←hkk,cQ,d6 hlt];rfl
     have hbo':((arr[p.1]?).map λx=>(x.born:Int)).getD 0=(p.1:Int):=by
      rw [d6 hlt];rw [cQ,d6 hlt] at hbn;exact dJ Int.ofNat hbn
     rw [hkey,r_ hq3,dv,oQ hw (by intros;simp),hbo'];rfl
    obtain ⟨g1,g2⟩:=nK h hk hid (es':=es.modify p.1 λ_=>(y,p.2)) hw (arr':=arr.modify p.1 λe=>{ e with key:=y }) (clock':=clock) (by simp [hsz]) (λi x hi=>by
     rw [List.getElem?_modify] at hi;rw [cQ,qK];by_cases hip:p.1=i
     ·subst hip;rw [hq1] at hi;simp at hi;subst hi;rw [cQ,d6 hlt] at hvv;simp [d6 hlt];exact hvv
     ·simp only [if_neg hip] at hi ⊢;have hi':es[i]? = some x:=by
       cases he:es[i]? with
       | none=>rw [he] at hi;cases hi
       | some u=>rw [he] at hi;simpa using hi
      have:=hx i x hi';rwa [cQ] at this) (t8 hbo _ _ λ_=>rfl)
    have hlv:gA z y es=p.2:=by unfold gA;rw [hfs]
    have hu2:lr y p.2 es=es.modify p.1 λ_=>(y,p.2):=by unfold lr;rw [hfs]
    have hp2:Cd y es=p.1:=by unfold Cd;rw [hfs]
    rw [hlv,hu2,hp2];refine ⟨_,_,ids,hrun,g1,g2,.tup _ rfl λi x hi=>?_⟩;match i,hi with
    | 0,hi=>simp at hi;subst hi;exact dT.mono g2 hvv
    | 1,hi=>simp at hi;subst hi;exact .v
    | i+2,hi=>simp at hi
  ·cases he
 ·cases he
theorem ym (h:dS X hp nx ids w) {t:TypeId} {s q v:SV} {x y z:Value} (hd:cV X hp ids w s x) (hq:cV X hp ids w q y) (hv:cV X hp ids w v z) {side:Prop} {e:dx} (he:jy s q v hp nx = .ok side e) (hs:side) :
  wc X hp ids w ((Instr.entryStore t x y z).run X.P w) e:=by
 unfold jy at he;split at he
 ·rename_i k i;obtain ⟨es,hk,hf⟩:=ir he;cases hf;obtain rfl:=d9 hq;obtain ⟨b,hid,rfl⟩:=rG hd (by rw [hk];rfl);obtain ⟨arr,clock,hw,hsz,hx,hbo⟩:=ul h hk hid;obtain ⟨h0,h1⟩:=hs;have hlt:i.toNat<arr.size:=by omega
  have hfi:arr.findIdx? (λe=>(e.born:Int)==i)=some i.toNat:=by
   rw [Array.findIdx?_eq_some_iff_getElem];refine ⟨hlt,?_,λj hj=>?_⟩
   ·have:=hbo.2 _ hlt;rw [cQ,d6 hlt] at this;simp only [gY] at this;rw [this];simp;omega
   ·have hj2:j<arr.size:=by omega
    have:=hbo.2 _ hj2;rw [cQ,d6 hj2] at this;simp only [gY] at this;rw [this];simp;omega
  have hrun:(Instr.entryStore t (.map (some b)) (.int .i64 i) z).run X.P w = .ok () { w with heap:=w.heap.setIfInBounds b (.map (arr.modify i.toNat λe=>{ e with val:=z }) clock) }:=by
   simp only [Instr.entryStore,c_,lp hw (by intros;simp),dv,asInt,asIntOf,eK,hfi];exact oQ hw (by intros;simp)
  obtain ⟨g1,g2⟩:=nK h hk hid (es':=es.modify i.toNat λp=>(p.1,v)) hw (arr':=arr.modify i.toNat λe=>{ e with val:=z }) (clock':=clock) (by simp [hsz]) (λj x hi=>by
   rw [List.getElem?_modify] at hi;rw [cQ,qK];by_cases hip:i.toNat=j
   ·subst hip;cases he:es[i.toNat]? with
    | none=>rw [he] at hi;cases hi
    | some u =>
     rw [he] at hi;simp at hi;subst hi;have:=(hx _ u he).1;rw [cQ,d6 hlt] at this;simp [d6 hlt];exact ⟨this,hv⟩
   ·simp only [if_neg hip] at hi ⊢;have hi':es[j]? = some x:=by
     cases he:es[j]? with
     | none=>rw [he] at hi;cases hi
     | some u=>rw [he] at hi;simpa using hi
    have:=hx j x hi';rwa [cQ] at this) (t8 hbo _ _ λ_=>rfl)
  exact ⟨_,ids,hrun,g1,g2⟩
 ·cases he
def qO (P:Program) (t:TypeId) (x:SV) (nx:Nat):eY:=match P.underlying t with
 | some (.interface _)=>.bad
 | some _=>eE (.ifc t x) nx
 | none=>.bad
theorem Ea {P:Program} {t:TypeId} {d:TypeDesc} (hu:P.underlying t=some d) (hn:∀ ms,d = .interface ms->False) (x:Value) (w:World):(Instr.makeInterface t x).run P w = .ok (.iface t x) w:=by
 cases d<;>simp [Instr.makeInterface,dF hu] at hn ⊢
theorem BF (h:dS X hp nx ids w) {t:TypeId} {s:SV} {x:Value} (hd:cV X hp ids w s x) {side:Prop} {e:dx} (he:qO X.P t s nx = .ok side e):fQ X hp ids w ((Instr.makeInterface t x).run X.P w) e:=by
 unfold qO at he;split at he
 ·cases he
 ·rename_i d hn hu;cases he;exact cW h (Ea hu (λms e=>hn ms e) x w) (.ifc hd)
 ·cases he
def sH (P:Program) (x:SV) (a:TypeId) (ok:Bool) (nx:Nat):eY:=match P.underlying a with
 | some (.interface _)=>.bad
 | some _=>match x with
  | .ifc t v=>bif t==a then eE (bif ok then .tup [v,.v (.bool true)] else v) nx else bif ok then (match mX P a with
   | some z=>eE (.tup [.v z,.v (.bool false)]) nx
   | none=>.bad) else .bad
  | .v .nilIface=>bif ok then (match mX P a with
   | some z=>eE (.tup [.v z,.v (.bool false)]) nx
   | none=>.bad) else .bad
  | _=>.bad
 | none=>.bad
theorem yn {X:Cx} {a b:SV} {x y:Value} (h1:cV X hp ids w a x) (h2:cV X hp ids w b y):cV X hp ids w (.tup [a,b]) (.tuple #[x,y]):=by
 refine .tup _ rfl λi q hi=>?_
 match i,hi with
 | 0,hi=>simp at hi;subst hi;exact h1
 | 1,hi=>simp at hi;subst hi;exact h2
 | i+2,hi=>simp at hi
theorem wG {P:Program} {t a:TypeId} {d:TypeDesc} (hu:P.underlying a=some d) (hn:∀ ms,d = .interface ms->False) (ok:Bool) (x:Value) (w:World):(Instr.typeAssert (.iface a x) t a ok).run P w = .ok (bif ok then .tuple #[x,.bool true] else x) w:=by
 cases d<;>cases ok<;>simp [Instr.typeAssert,dF hu] at hn ⊢
theorem Cm {P:Program} {t a b:TypeId} {d:TypeDesc} (hu:P.underlying a=some d) (hn:∀ ms,d = .interface ms->False) (hb:¬ b=a) {z:Value} {w:World} (hz:(zeroValue a).run P w = .ok z w) (x:Value):(Instr.typeAssert (.iface b x) t a true).run P w = .ok (.tuple #[z,.bool false]) w:=by
 cases d<;>simp [Instr.typeAssert,dF hu,hb,hz] at hn ⊢
theorem Cn {P:Program} {t a:TypeId} {d:TypeDesc} (hu:P.underlying a=some d) (hn:∀ ms,d = .interface ms->False) {z:Value} {w:World} (hz:(zeroValue a).run P w = .ok z w):(Instr.typeAssert .nilIface t a true).run P w = .ok (.tuple #[z,.bool false]) w:=by
 cases d<;>simp [Instr.typeAssert,dF hu,hz] at hn ⊢
theorem Co (h:dS X hp nx ids w) {t a:TypeId} {ok:Bool} {s:SV} {x:Value} (hd:cV X hp ids w s x) {side:Prop} {e:dx} (he:sH X.P s a ok nx = .ok side e):fQ X hp ids w ((Instr.typeAssert x t a ok).run X.P w) e:=by
 have hzr:∀ {z},mX X.P a=some z->(zeroValue a).run X.P w = .ok z w:=λ{z} hz=>by
  unfold mX at hz;cases hi:X.P.info? a with
  | none=>rw [hi] at hz;cases hz
  | some i=>rw [hi] at hz;simp only [cx] at hz;simp [zeroValue,typeInfo,hi,hz]
 unfold sH at he;split at he
 ·cases he
 ·rename_i d hn hu;have hn':∀ ms,d = .interface ms->False:=λms e=>hn ms e;split at he
  ·rename_i t' v;obtain ⟨z,rfl,hz⟩:=Ag hd;rw [ff] at he;split at he
   ·rename_i htt;obtain rfl:t'=a:=by simpa using htt
    cases he;cases ok with
    | true=>exact cW h (wG hu hn' true z w) (yn hz .v)
    | false=>exact cW h (wG hu hn' false z w) hz
   ·rename_i htt;have htt:¬ t'=a:=by simpa using htt
    cases ok with
    | false=>cases he
    | true =>
     simp only [cd] at he;split at he
     ·rename_i z0 hz0;cases he;exact cW h (Cm hu hn' htt (hzr hz0) z) (yn .v .v)
     ·cases he
  ·obtain rfl:=d9 hd;cases ok with
   | false=>cases he
   | true =>
    simp only [cd] at he;split at he
    ·rename_i z0 hz0;cases he;exact cW h (Cn hu hn' (hzr hz0)) (yn .v .v)
    ·cases he
  ·cases he
 ·cases he
end
section
open Go.RowKit
variable {X:Cx} {hp:Hp} {nx:Nat} {ids:dE} {w:World}
def qP (P:Program) (t:TypeId) (x:SV) (hi mx:SV) (nx:Nat) (hp:Hp):eY :=
 match ja P t,hi,mx with
 | some (e,_),.v (.int _ h),.v (.int _ m)=>match x with
  | .own k _ _=>tE (bX hp k) (.ok (h=0/\m=0) ⟨.own nx 0 0,[(Nm.t nx,.row e [])],nx+1,[k.key]⟩)
  | .sl _ _=>.ok (h=0/\m=0) ⟨.own nx 0 0,[(Nm.t nx,.row e [])],nx+1,[]⟩
  | .v (.slice none 0 0)=>.ok (h=0/\m=0) ⟨.own nx 0 0,[(Nm.t nx,.row e [])],nx+1,[]⟩
  | _=>.bad
 | _,_,_=>.bad
theorem FO {P:Program} {t e:TypeId} {i:TypeInfo} (hu:P.underlying t=some (.slice e)) (hi:P.info? e=some i) (a:Option Addr) (len cap:Nat) (k k':IntKind) (w:World) :
 ∃a',(Instr.sliceAt t (.slice a len cap) none (some (.int k 0)) (some (.int k' 0))).run P w = .ok (.slice a' 0 0) w:=by
 refine ⟨a,?_⟩;have h1:(Instr.sliceBounds true len cap none (some (.int k 0)) (some (.int k' 0))).run P w = .ok (0,0,0) w:=by
  simp [Instr.sliceBounds,Instr.sliceBound,asIntOf]
 simp [Instr.sliceAt,Instr.slice,dF hu,h1,sizeOf,typeInfo,hi]
theorem Hb {P:Program} {C:Nm->cp} {I:Nat->Prop} {y:Value} {k off n} (h:dT P C ids I w (.own k off n) y):∃ a n' cap,y = .slice a n' cap:=by
 cases h with
 | ownDead h=>exact ⟨_,_,_,rfl⟩
 | own a cap _ _=>exact ⟨_,_,_,rfl⟩
theorem Cp (h:dS X hp nx ids w) {t:TypeId} {s q r:SV} {x y z:Value} (hd:cV X hp ids w s x) (hq:cV X hp ids w q y) (hr:cV X hp ids w r z) {side:Prop} {e:dx} (he:qP X.P t s q r nx hp = .ok side e) (hs:side) :
  fQ X hp ids w ((Instr.sliceAt t x none (some y) (some z)).run X.P w) e:=by
 unfold qP at he;split at he
 ·rename_i e' n' k1 hh k2 m hst;obtain ⟨i,hu,hi,_⟩:=gP hst;obtain rfl:=d9 hq;obtain rfl:=d9 hr;have fin:∀ a len cap rds,x = .slice a len cap->hh=0/\m=0->fQ X hp ids w ((Instr.sliceAt t x none (some (.int k1 hh)) (some (.int k2 m))).run X.P w) ⟨.own nx 0 0,[(Nm.t nx,.row e' [])],nx+1,rds⟩:=by
   rintro a len cap rds rfl ⟨rfl,rfl⟩;obtain ⟨a',hrun⟩:=FO hu hi a len cap k1 k2 w;obtain ⟨r1,r2⟩:=AR h none;obtain ⟨g1,g2⟩:=xS r1 e' (cH _ _ _);refine ⟨_,_,_,hrun,g1,lm r2 g2,.own a' 0 ?_ ⟨cF _,by unfold maxLen;omega,λe2 cs2 hc2=>?_,.inl ⟨rfl,rfl⟩⟩⟩
   ·rw [fF,dw,cH];rfl
   ·rw [fF,dw,cH] at hc2;cases hc2;exact hU _
  split at he
  ·obtain ⟨_,hf⟩:=nt he;cases hf;obtain ⟨a,n1,cap,rfl⟩:=Hb hd;exact fin _ _ _ _ rfl hs
  ·cases he;obtain ⟨a,cap,rfl,_⟩:=sP hd;exact fin _ _ _ _ rfl hs
  ·cases he;obtain rfl:=d9 hd;exact fin _ _ _ _ rfl hs
  ·cases he
 ·cases he
def my:List SV->List SV->Option Bool
 | [],[]=>some true
 | .v a::xs,.v b::ys=>match a,b with
  | .int k x,.int k' y=>bif k==k' then (my xs ys).map λr=>(x==y)&&r else none
  | .bool x,.bool y=>(my xs ys).map λr=>(x==y)&&r
  | .string x,.string y=>(my xs ys).map λr=>decide (x=y)&&r
  | _,_=>none
 | _,_=>none
def rc:List TypeDesc->List SV->Bool
 | [],[]=>true
 | d::ds,.v x::xs=>mS d x&&rc ds xs
 | _,_=>false
theorem Hc {P:Program} {C:Nm->cp} {I:Nat->Prop} :∀ (xs ys:List SV) (r:Bool) (A B:Array Value) (off:Nat),my xs ys=some r->(∀ i x,xs[i]? = some x->dT P C ids I w x (A.getD (off+i) undef))->(∀ i x,ys[i]? = some x->dT P C ids I w x (B.getD (off+i) undef)) ->
  qg A B off xs.length=r
 | [],[],r,A,B,off,h,_,_=>by cases h;rfl
 | [],_::_,r,A,B,off,h,_,_=>by cases h
 | .any::_,_,r,A,B,off,h,_,_=>by simp [my] at h
 | .agg _::_,_,r,A,B,off,h,_,_=>by simp [my] at h
 | .tup _::_,_,r,A,B,off,h,_,_=>by simp [my] at h
 | .sl _ _::_,_,r,A,B,off,h,_,_=>by simp [my] at h
 | .own _ _ _::_,_,r,A,B,off,h,_,_=>by simp [my] at h
 | .ptr _ _::_,_,r,A,B,off,h,_,_=>by simp [my] at h
 | .iptr _ _::_,_,r,A,B,off,h,_,_=>by simp [my] at h
 | .mp _::_,_,r,A,B,off,h,_,_=>by simp [my] at h
 | .it _::_,_,r,A,B,off,h,_,_=>by simp [my] at h
 | .clo _ _::_,_,r,A,B,off,h,_,_=>by simp [my] at h
 | .gd _ _::_,_,r,A,B,off,h,_,_=>by simp [my] at h
 | .asl _ _ _::_,_,r,A,B,off,h,_,_=>by simp [my] at h
 | .bp _ _ _::_,_,r,A,B,off,h,_,_=>by simp [my] at h
 | .mth _ _::_,_,r,A,B,off,h,_,_=>by simp [my] at h
 | .ifc _ _::_,_,r,A,B,off,h,_,_=>by simp [my] at h
 | .v a::xs,ys,r,A,B,off,h,hx,hy=>by
  cases ys with
  | nil=>simp [my] at h
  | cons y ys =>
   cases y<;>try (simp [my] at h;done)
   rename_i b
   have ha:=d9 (hx 0 _ rfl)
   have hb:=d9 (hy 0 _ rfl)
   simp only [eG] at ha hb
   have ih:=λr' h'=>Hc xs ys r' A B (off+1) h' (λi x hi=>by have:=hx (i+1) x (by simpa using hi);rwa [show off+(i+1)=off+1+i from by omega] at this) (λi x hi=>by have:=hy (i+1) x (by simpa using hi);rwa [show off+(i+1)=off+1+i from by omega] at this)
   rw [gu,Nat.add_comm,Ak,EN,ha,hb]
   cases a<;>cases b<;>try (simp [my] at h;done)
   ·simp only [my] at h
    cases hr:my xs ys with
    | none=>rw [hr] at h;cases h
    | some r'=>rw [hr] at h;cases h;rw [ih r' hr];rfl
   ·rename_i k x k' y
    simp only [my] at h
    cases hk:(k==k') with
    | false=>rw [hk] at h;cases h
    | true =>
     rw [hk] at h
     cases hr:my xs ys with
     | none=>rw [hr] at h;cases h
     | some r'=>rw [hr] at h;cases h;rw [ih r' hr];rfl
   ·simp only [my] at h
    cases hr:my xs ys with
    | none=>rw [hr] at h;cases h
    | some r'=>rw [hr] at h;cases h;rw [ih r' hr];rfl
theorem yo {P:Program} {C:Nm->cp} {I:Nat->Prop} :∀ (ds:List TypeDesc) (xs:List SV) (A:Array Value) (off:Nat),rc ds xs=true->(∀ i x,xs[i]? = some x->dT P C ids I w x (A.getD (off+i) undef)) ->
  ds.length=xs.length/\∀ j d,ds[j]? = some d->mS d (A.getD (off+j) undef)=true
 | [],[],A,off,_,_=>⟨rfl,λj d h=>by simp at h⟩
 | [],_::_,A,off,h,_=>by cases h
 | d::ds,[],A,off,h,_=>by cases h
 | d::ds,x::xs,A,off,h,hx=>by
  cases x<;>try (simp [rc] at h;done)
  rename_i x
  simp only [rc,cT] at h
  obtain ⟨h1,h2⟩:=h
  obtain ⟨g1,g2⟩:=yo ds xs A (off+1) h2 (λi x hi=>by have:=hx (i+1) x (by simpa using hi);rwa [show off+(i+1)=off+1+i from by omega] at this)
  refine ⟨by simp [g1],λj d' hj=>?_⟩
  cases j with
  | zero =>
   simp at hj;subst hj
   have:=d9 (hx 0 _ rfl)
   rw [this];exact h1
  | succ j =>
   have:=g2 j d' (by simpa using hj)
   rwa [show off+(j+1)=off+1+j from by omega]
def Cq (op:BinOp) (a b:ByteArray) (nx:Nat):eY :=
 match op with
 | .add=>.ok (a.size+b.size<=9223372036854775807) ⟨.v (.string (a++b)),[],nx,[]⟩
 | .eql=>eE (.v (.bool (decide (a=b)))) nx
 | .neq=>eE (.v (.bool (!decide (a=b)))) nx
 | .lss=>eE (.v (.bool (Op.bytesLess a.toList b.toList))) nx
 | .leq=>eE (.v (.bool (Op.bytesLess a.toList b.toList||decide (a=b)))) nx
 | .gtr=>eE (.v (.bool (!(Op.bytesLess a.toList b.toList||decide (a=b))))) nx
 | .geq=>eE (.v (.bool (!Op.bytesLess a.toList b.toList))) nx
 | _=>.bad
theorem FP (a b:ByteArray):(a.toList==b.toList)=decide (a=b):=by
 rw [←beq_toListBytes,sN,iU];exact ⟨λh=>BQ h,λh=>h▸um a⟩
theorem Hd (h:dS X hp nx ids w) {op:BinOp} {a b:ByteArray} {side:Prop} {e:dx} (he:Cq op a b nx = .ok side e) (hs:side) (t:TypeId):fQ X hp ids w ((binOp op t (.string a) (.string b)).run X.P w) e:=by
 have hadd:a.size+b.size<=9223372036854775807->(Op.stringOp .add a b).run X.P w = .ok (.string (a++b)) w:=λhle=>by
  have:¬ (((a.size+b.size:Nat):Int) > IntKind.i64.max):=by
   have:IntKind.i64.max=9223372036854775807:=by decide
   omega
  simp only [Op.stringOp,this,lJ];rfl
 cases op<;>simp only [Cq,eE] at he<;>cases he<;>refine cW h ?_ .v;case add=>simpa [binOp] using hadd hs
 all_goals simp [binOp,Op.stringOp,FP]
def FQ:Nat:=12
def wH (P:Program) (neg:Bool) (t:TypeId) (xs ys:List SV) (nx:Nat):eY :=
 match mR P FQ t,jI P t,my xs ys with
 | some l,some n,some r=>bif (n==l.length&&(xs.length==n&&ys.length==n))&&(rc l xs&&rc l ys) then eE (.v (.bool (bif neg then !r else r))) nx else .bad
 | _,_,_=>.bad
theorem Eb (h:dS X hp nx ids w) {neg:Bool} {t:TypeId} {xs ys:List SV} {A B:Array Value} (hx:cV X hp ids w (.agg xs) (.agg A)) (hy:cV X hp ids w (.agg ys) (.agg B)) {side:Prop} {e:dx} (he:wH X.P neg t xs ys nx = .ok side e)
  (hrow:tZ X.P t=some true):fQ X hp ids w ((binOp (if neg then .neq else .eql) t (.agg A) (.agg B)).run X.P w) e:=by
 unfold wH at he;split at he
 ·rename_i l n r hl hn hr;cases hb:((n==l.length&&(xs.length==n&&ys.length==n))&&(rc l xs&&rc l ys)) with
  | false=>rw [hb] at he;cases he
  | true =>
   rw [hb] at he;cases he;simp only [cT,jC] at hb;obtain ⟨⟨rfl,h1,h2⟩,h3,h4⟩:=hb;obtain ⟨A',hA,hal,had⟩:=mW hx;cases hA;obtain ⟨B',hB,hbl,hbd⟩:=mW hy;cases hB;have had':∀ i x,xs[i]? = some x->cV X hp ids w x (A.getD (0+i) undef):=λi x hi=>by rw [dm];exact had i x hi
   have hbd':∀ i x,ys[i]? = some x->cV X hp ids w x (B.getD (0+i) undef):=λi x hi=>by rw [dm];exact hbd i x hi
   obtain ⟨_,la⟩:=yo l xs A 0 h3 had';obtain ⟨_,lb⟩:=yo l ys B 0 h4 hbd';have hE:=EO (P:=X.P) FQ t l 10000 (by unfold FQ;omega) hl hn A B 0 w ⟨by omega,la⟩ ⟨by omega,lb⟩;obtain ⟨a,b,ha,hb2,he2⟩:=hE;have hd:∃ d,X.P.underlying t=some d/\d.isRow=true:=by
    unfold tZ at hrow;cases hu:X.P.underlying t with
    | none=>rw [hu] at hrow;cases hrow
    | some d=>rw [hu] at hrow;exact ⟨d,rfl,by cases d<;>first|rfl|exact absurd hrow (by simp)⟩
   obtain ⟨d,hu,hdr⟩:=hd;have hpa:=nv hu hdr hn A 0 w;have hpb:=nv hu hdr hn B 0 w;rw [hpa] at ha;rw [hpb] at hb2;cases ha;cases hb2;have eA:A.extract 0 (0+l.length)=A:=by rw [dm,←h1,hal];simp
   have eB:B.extract 0 (0+l.length)=B:=by rw [dm,←h2,hbl];simp
   rw [eA,eB,←h1,Hc xs ys r A B 0 hr had' hbd'] at he2;cases neg with
   | false=>exact cW h (by simp only [fy,lJ];rw [run_eql_struct,he2];rfl) .v
   | true=>exact cW h (by simp only [if_true];rw [run_neq_struct,he2];rfl) .v
 ·cases he
end
end Go.Sx
end
