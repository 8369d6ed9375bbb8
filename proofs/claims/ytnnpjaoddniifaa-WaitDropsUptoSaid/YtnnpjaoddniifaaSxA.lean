/-
  Sx, part A: symbolic values that stand for Go values in a world, heap chunks, and what they mean.
-/
import Derived.WalkKit
import Derived.ProofKit
import Derived.Below
set_option linter.unusedSimpArgs false
set_option linter.unusedVariables false
namespace Go.Sx
set_option linter.unusedVariables false

/-- A symbolic value: what is known of a value in a slot or in a cell. -/
inductive SV where
  | any
  | v (x : Value)
  | agg (xs : List SV)
  | tup (xs : List SV)
  | sl (n : Nat) (cs : List SV)
  | own (k off n : Nat)
  | ptr (k off : Nat)
  | iptr (cs : List SV) (off : Nat)
  | mp (k : Nat)
  | it (k : Nat)
  | clo (f : FuncId) (caps : List SV)
  | gd (g : Bool) (x : SV)
  deriving Inhabited

/-- What is known of a block that the call may write. -/
inductive Chunk where
  | unborn
  | dead
  | row (e : TypeId) (cs : List SV)
  | map (es : List (Value × SV))
  | obj (s : ByteArray) (pos : Nat)
  deriving Inhabited

def Chunk.live : Chunk → Bool
  | .unborn => false
  | .dead => false
  | _ => true

abbrev Ids := Nat → Option (Nat × Nat)

/-- How a slice over an owned row lies. -/
def OwnOk (P : Program) (C : Nat → Chunk) (ids : Ids) (w : World) (k off n : Nat) (a : Option Addr) (cap : Nat) : Prop :=
  n ≤ cap ∧ cap ≤ maxLen ∧ (∀ e cs, C k = .row e cs → cs.length ≤ off + cap * P.cellsOf e) ∧ ((n = 0 ∧ cap = 0) ∨
    ∃ b o e cs arr, C k = .row e cs ∧ ids k = some (b, o) ∧ a = some ⟨b, o + off, none⟩ ∧ w.heap[b]? = some (.cells arr e (0, 0)) ∧ o + off + cap * P.cellsOf e ≤ arr.size)

/-- What a symbolic value says of a value. -/
inductive Den (P : Program) (C : Nat → Chunk) (ids : Ids) (I : Nat → Prop) (w : World) : SV → Value → Prop
  | any {x} : Den P C ids I w .any x
  | v {x} : Den P C ids I w (.v x) x
  | agg {xs} (arr : Array Value) (h : xs.length = arr.size) (hx : ∀ i x, xs[i]? = some x → Den P C ids I w x (arr.getD i undef)) : Den P C ids I w (.agg xs) (.agg arr)
  | tup {xs} (arr : Array Value) (h : xs.length = arr.size) (hx : ∀ i x, xs[i]? = some x → Den P C ids I w x (arr.getD i undef)) : Den P C ids I w (.tup xs) (.tuple arr)
  | sl0 {a cap} (hc : cap ≤ maxLen) : Den P C ids I w (.sl 0 []) (.slice a 0 cap)
  | sl {n cs} (b o cap : Nat) (c : Nat → Value) (hb : I b) (hn : n ≤ cap) (hcap : cap ≤ maxLen)
      (hc : ∀ i x, cs[i]? = some x → w.cell? ⟨b, o + i, none⟩ = some (c i)) (hx : ∀ i x, cs[i]? = some x → Den P C ids I w x (c i)) : Den P C ids I w (.sl n cs) (.slice (some ⟨b, o, none⟩) n cap)
  | ownDead {k off n a n' cap} (h : C k = .dead) : Den P C ids I w (.own k off n) (.slice a n' cap)
  | own {k off n} (a : Option Addr) (cap : Nat) (hl : (C k).live = true) (h : OwnOk P C ids w k off n a cap) : Den P C ids I w (.own k off n) (.slice a n cap)
  | ptrDead {k off a} (h : C k = .dead) : Den P C ids I w (.ptr k off) (.pointer a)
  | ptr {k off} (b o : Nat) (hl : (C k).live = true) (h : ids k = some (b, o)) : Den P C ids I w (.ptr k off) (.pointer (some ⟨b, o + off, none⟩))
  | iptr {cs off} (b o : Nat) (c : Nat → Value) (hb : I b)
      (hc : ∀ i x, cs[i]? = some x → w.cell? ⟨b, o + i, none⟩ = some (c i)) (hx : ∀ i x, cs[i]? = some x → Den P C ids I w x (c i)) : Den P C ids I w (.iptr cs off) (.pointer (some ⟨b, o + off, none⟩))
  | mpDead {k a} (h : C k = .dead) : Den P C ids I w (.mp k) (.map a)
  | mp {k} (b : Nat) (hl : (C k).live = true) (h : ids k = some (b, 0)) : Den P C ids I w (.mp k) (.map (some b))
  | itDead {k a} (h : C k = .dead) : Den P C ids I w (.it k) (.pointer a)
  | it {k} (b : Nat) (hl : (C k).live = true) (h : ids k = some (b, 0)) : Den P C ids I w (.it k) (.pointer (some ⟨b, 0, none⟩))
  | clo {f caps} (arr : Array Value) (h : caps.length = arr.size) (hx : ∀ i x, caps[i]? = some x → Den P C ids I w x (arr.getD i undef)) : Den P C ids I w (.clo f caps) (.func (.func f) #[] arr)
  | gd {g x y} (h : g = true → Den P C ids I w x y) (hn : g = false → y = undef) : Den P C ids I w (.gd g x) y

/-- What a chunk says of its block. -/
def DenC (P : Program) (C : Nat → Chunk) (ids : Ids) (I : Nat → Prop) (w : World) (k : Nat) : Chunk → Prop
  | .unborn => True
  | .dead => True
  | .row e cs => match ids k with
    | none => cs = []
    | some (b, o) => ∃ arr, w.heap[b]? = some (.cells arr e (0, 0)) ∧ o + cs.length ≤ arr.size ∧ ∀ i x, cs[i]? = some x → Den P C ids I w x (arr.getD (o + i) undef)
  | .map es => ∃ b arr clock, ids k = some (b, 0) ∧ w.heap[b]? = some (.map arr clock) ∧ arr.size = es.length ∧
      ∀ i x, es[i]? = some x → (arr.getD i default).key = x.1 ∧ Den P C ids I w x.2 (arr.getD i default).val
  | .obj s pos => ∃ b, ids k = some (b, 0) ∧ w.heap[b]? = some (.stringIter s pos)

def SameKind : Chunk → Chunk → Prop
  | .row e cs, .row e' cs' => e = e' ∧ cs'.length ≤ cs.length
  | .map _, .map _ => True
  | .obj _ _, .obj _ _ => True
  | _, _ => False

def SameShape (o o' : Option Obj) : Prop := ∀ arr e, o = some (.cells arr e (0, 0)) → ∃ arr', o' = some (.cells arr' e (0, 0)) ∧ arr'.size = arr.size

theorem SameShape.refl (o : Option Obj) : SameShape o o := fun arr e h => ⟨arr, h, rfl⟩
theorem SameShape.of_eq {o o' : Option Obj} (h : o' = o) : SameShape o o' := h ▸ SameShape.refl o
theorem SameShape.trans {a b c : Option Obj} (h : SameShape a b) (g : SameShape b c) : SameShape a c := fun arr e ha => by
  obtain ⟨x, hx, hs⟩ := h arr e ha
  obtain ⟨y, hy, ht⟩ := g x e hx
  exact ⟨y, hy, ht.trans hs⟩

theorem SameKind.refl {c : Chunk} (h : c.live = true) : SameKind c c := by cases c <;> simp_all [SameKind, Chunk.live]

theorem SameKind.trans {a b c : Chunk} (h : SameKind a b) (g : SameKind b c) : SameKind a c := by
  cases a <;> cases b <;> cases c <;> first | exact h.elim | exact g.elim | exact trivial | exact ⟨h.1.trans g.1, Nat.le_trans g.2 h.2⟩

/-- From one state of the heap to the next: what is immutable stays, what is dead stays dead, what lives keeps its place, or dies. -/
structure Ext (C : Nat → Chunk) (ids : Ids) (I : Nat → Prop) (w : World) (C' : Nat → Chunk) (ids' : Ids) (I' : Nat → Prop) (w' : World) : Prop where
  im : ∀ b, I b → I' b ∧ w'.heap[b]? = w.heap[b]?
  dd : ∀ k, C k = .dead → C' k = .dead
  lv : ∀ k, (C k).live = true → C' k = .dead ∨ ((C' k).live = true ∧ ids' k = ids k ∧ SameKind (C k) (C' k) ∧ ∀ b o, ids k = some (b, o) → SameShape w.heap[b]? w'.heap[b]?)

theorem Ext.refl (C : Nat → Chunk) (ids : Ids) (I : Nat → Prop) (w : World) : Ext C ids I w C ids I w :=
  ⟨fun _ h => ⟨h, rfl⟩, fun _ h => h, fun _ h => .inr ⟨h, rfl, SameKind.refl h, fun _ _ _ => SameShape.refl _⟩⟩

theorem cell_eq {w w' : World} {b o : Nat} (h : w'.heap[b]? = w.heap[b]?) : w'.cell? ⟨b, o, none⟩ = w.cell? ⟨b, o, none⟩ :=
  World.cell?_of_block (a := ⟨b, o, none⟩) h

theorem OwnOk.mono {P : Program} {C C' : Nat → Chunk} {ids ids' : Ids} {w w' : World} {k off n : Nat} {a : Option Addr} {cap : Nat} (h : OwnOk P C ids w k off n a cap)
    (hi : ids' k = ids k) (hk : SameKind (C k) (C' k)) (hs : ∀ b o, ids k = some (b, o) → SameShape w.heap[b]? w'.heap[b]?) : OwnOk P C' ids' w' k off n a cap := by
  obtain ⟨h1, h2, h4, h3⟩ := h
  refine ⟨h1, h2, fun e cs hc => ?_, ?_⟩
  · rw [hc] at hk
    cases hc' : C k with
    | row e' cs' =>
      rw [hc'] at hk
      simp only [SameKind] at hk
      have := h4 _ _ hc'
      rw [hk.1] at this
      omega
    | unborn => rw [hc'] at hk; exact hk.elim
    | dead => rw [hc'] at hk; exact hk.elim
    | map es => rw [hc'] at hk; exact hk.elim
    | obj s pos => rw [hc'] at hk; exact hk.elim
  rcases h3 with h3 | ⟨b, o, e, cs, arr, hc, hid, ha, hw, hsz⟩
  · exact .inl h3
  · obtain ⟨arr', hw', hs'⟩ := hs b o hid arr e hw
    rw [hc] at hk
    cases hc' : C' k with
    | row e' cs' =>
      rw [hc'] at hk
      simp only [SameKind] at hk
      obtain ⟨rfl, _⟩ := hk
      exact .inr ⟨b, o, e, cs', arr', by first | exact hc' | rfl, hi.trans hid, ha, hw', hs' ▸ hsz⟩
    | unborn => rw [hc'] at hk; exact hk.elim
    | dead => rw [hc'] at hk; exact hk.elim
    | map es => rw [hc'] at hk; exact hk.elim
    | obj s pos => rw [hc'] at hk; exact hk.elim

theorem Den.mono {P : Program} {C C' : Nat → Chunk} {ids ids' : Ids} {I I' : Nat → Prop} {w w' : World} (hE : Ext C ids I w C' ids' I' w') {s : SV} {x : Value}
    (h : Den P C ids I w s x) : Den P C' ids' I' w' s x := by
  induction h with
  | any => exact .any
  | v => exact .v
  | agg arr h _ ih => exact .agg arr h ih
  | tup arr h _ ih => exact .tup arr h ih
  | sl0 hc => exact .sl0 hc
  | sl b o cap c hb hn hcap hc _ ih =>
    obtain ⟨hb', hw⟩ := hE.im b hb
    exact .sl b o cap c hb' hn hcap (fun i x hi => (cell_eq hw).trans (hc i x hi)) ih
  | ownDead h => exact .ownDead (hE.dd _ h)
  | own a cap hl h =>
    rcases hE.lv _ hl with hd | ⟨hl', hi, hk, hs⟩
    · exact .ownDead hd
    · exact .own a cap hl' (h.mono hi hk hs)
  | ptrDead h => exact .ptrDead (hE.dd _ h)
  | ptr b o hl h =>
    rcases hE.lv _ hl with hd | ⟨hl', hi, _, _⟩
    · exact .ptrDead hd
    · exact .ptr b o hl' (hi.trans h)
  | iptr b o c hb hc _ ih =>
    obtain ⟨hb', hw⟩ := hE.im b hb
    exact .iptr b o c hb' (fun i x hi => (cell_eq hw).trans (hc i x hi)) ih
  | mpDead h => exact .mpDead (hE.dd _ h)
  | mp b hl h =>
    rcases hE.lv _ hl with hd | ⟨hl', hi, _, _⟩
    · exact .mpDead hd
    · exact .mp b hl' (hi.trans h)
  | itDead h => exact .itDead (hE.dd _ h)
  | it b hl h =>
    rcases hE.lv _ hl with hd | ⟨hl', hi, _, _⟩
    · exact .itDead hd
    · exact .it b hl' (hi.trans h)
  | clo arr h _ ih => exact .clo arr h ih
  | gd _ hn ih => exact .gd ih hn

/-- The blocks that may be read and that nobody will write. -/
def Im (w0 : World) (I0 W0 : Nat → Prop) (C : Nat → Chunk) (ids : Ids) (w : World) (b : Nat) : Prop :=
  (I0 b ∨ W0 b ∨ w0.heap.size ≤ b) ∧ b < w.heap.size ∧ ∀ k, (C k).live = true → ∀ o, ids k ≠ some (b, o)

/-- The heap of a call under way: w0 is the world at its beginning, I0 the blocks that are only read, W0 those of the chunks that it was given. -/
structure HSt (P : Program) (w0 : World) (I0 W0 : Nat → Prop) (C : Nat → Chunk) (ids : Ids) (w : World) : Prop where
  ch : ∀ k, DenC P C ids (Im w0 I0 W0 C ids w) w k (C k)
  inj : ∀ k k' b o o', (C k).live = true → (C k').live = true → ids k = some (b, o) → ids k' = some (b, o') → k = k'
  lt : ∀ k b o, (C k).live = true → ids k = some (b, o) → b < w.heap.size ∧ (W0 b ∨ w0.heap.size ≤ b)
  im0 : ∀ b, I0 b → b < w0.heap.size ∧ ¬ W0 b
  evol : ∀ b, b < w0.heap.size → ¬ W0 b → w.heap[b]? = w0.heap[b]?
  os : w.os = w0.os
  tape : w.tape = w0.tape
  output : w.output = w0.output
  size : w0.heap.size ≤ w.heap.size

end Go.Sx
