/-
  Sx, part B: steps of the heap.
-/
import Derived.Test.YtnnpjaoddniifaaSxA
set_option linter.unusedSimpArgs false
set_option linter.unusedVariables false
namespace Go.Sx
open Go.RowKit
set_option linter.unusedVariables false

def upd {α : Type} (C : Nat → α) (k : Nat) (c : α) : Nat → α := fun j => if j = k then c else C j
@[simp] theorem upd_same {α : Type} (C : Nat → α) (k : Nat) (c : α) : upd C k c k = c := by simp [upd]
theorem upd_ne {α : Type} (C : Nat → α) {k j : Nat} (c : α) (h : j ≠ k) : upd C k c j = C j := by simp [upd, h]

variable {P : Program} {w0 : World} {I0 W0 : Nat → Prop} {C : Nat → Chunk} {ids : Ids} {w : World}

theorem DenC.mono {C' : Nat → Chunk} {ids' : Ids} {I I' : Nat → Prop} {w' : World} {k : Nat} {c : Chunk} (hE : Ext C ids I w C' ids' I' w') (h : DenC P C ids I w k c)
    (hi : ids' k = ids k) (hb : ∀ b o, ids k = some (b, o) → w'.heap[b]? = w.heap[b]?) : DenC P C' ids' I' w' k c := by
  cases c with
  | unborn => trivial
  | dead => trivial
  | row e cs =>
    simp only [DenC, hi] at h ⊢
    cases hid : ids k with
    | none => rw [hid] at h; exact h
    | some p =>
      obtain ⟨b, o⟩ := p
      rw [hid] at h
      obtain ⟨arr, ha, hs, hx⟩ := h
      exact ⟨arr, (hb b o hid).trans ha, hs, fun i x hix => (hx i x hix).mono hE⟩
  | map es =>
    obtain ⟨b, arr, clock, hid, ha, hs, hx⟩ := h
    exact ⟨b, arr, clock, hi.trans hid, (hb b 0 hid).trans ha, hs, fun i x hix => ⟨(hx i x hix).1, (hx i x hix).2.mono hE⟩⟩
  | obj s pos =>
    obtain ⟨b, hid, ha⟩ := h
    exact ⟨b, hi.trans hid, (hb b 0 hid).trans ha⟩

theorem heap_alloc_lt (w : World) (o : Obj) (k : Nat) (h : k < w.heap.size) : (w.alloc o).heap[k]? = w.heap[k]? := Below.heap_alloc w o k h
theorem heap_alloc_new' (w : World) (o : Obj) : (w.alloc o).heap[w.heap.size]? = some o := by
  show (w.heap.push o)[w.heap.size]? = _
  simp
theorem size_alloc' (w : World) (o : Obj) : (w.alloc o).heap.size = w.heap.size + 1 := by simp

/-- A new block: chunk k is born. -/
theorem HSt.alloc_ext (h : HSt P w0 I0 W0 C ids w) {k : Nat} (hk : C k = .unborn) (c : Chunk) (o : Obj) :
    Ext C ids (Im w0 I0 W0 C ids w) w (upd C k c) (upd ids k (some (w.heap.size, 0))) (Im w0 I0 W0 (upd C k c) (upd ids k (some (w.heap.size, 0))) (w.alloc o)) (w.alloc o) := by
  refine ⟨fun b hb => ?_, fun j hj => ?_, fun j hj => ?_⟩
  · obtain ⟨h1, h2, h3⟩ := hb
    refine ⟨⟨h1, by rw [size_alloc']; omega, fun j hj o' => ?_⟩, heap_alloc_lt w o b h2⟩
    by_cases hjk : j = k
    · subst hjk; simp; omega
    · rw [upd_ne _ _ hjk] at hj ⊢; exact h3 j hj o'
  · have hjk : j ≠ k := fun e => by subst e; rw [hk] at hj; cases hj
    rw [upd_ne _ _ hjk]; exact hj
  · have hjk : j ≠ k := fun e => by subst e; rw [hk] at hj; cases hj
    rw [upd_ne _ _ hjk, upd_ne _ _ hjk]
    exact .inr ⟨hj, rfl, SameKind.refl hj, fun b o' hid => SameShape.of_eq (heap_alloc_lt w o b (h.lt j b o' hj hid).1)⟩

theorem HSt.alloc (h : HSt P w0 I0 W0 C ids w) {k : Nat} (hk : C k = .unborn) (c : Chunk) (o : Obj)
    (hc : DenC P (upd C k c) (upd ids k (some (w.heap.size, 0))) (Im w0 I0 W0 (upd C k c) (upd ids k (some (w.heap.size, 0))) (w.alloc o)) (w.alloc o) k c) :
    HSt P w0 I0 W0 (upd C k c) (upd ids k (some (w.heap.size, 0))) (w.alloc o) := by
  have hE := h.alloc_ext hk c o
  have hne : ∀ j, (C j).live = true → j ≠ k := fun j hj e => by subst e; rw [hk] at hj; cases hj
  refine ⟨fun j => ?_, fun j j' b o1 o2 hj hj' hi hi' => ?_, fun j b o' hj hi => ?_, h.im0, fun b hb hW => ?_, h.os, h.tape, h.output, ?_⟩
  · by_cases hjk : j = k
    · subst hjk; rw [upd_same]; exact hc
    · rw [upd_ne _ _ hjk]
      by_cases hl : (C j).live = true
      · exact (h.ch j).mono hE (upd_ne _ _ hjk) (fun b o' hid => heap_alloc_lt w o b (h.lt j b o' hl hid).1)
      · cases hcj : C j <;> simp_all [Chunk.live, DenC]
  · by_cases hjk : j = k <;> by_cases hjk' : j' = k
    · rw [hjk, hjk']
    · subst hjk
      rw [upd_same] at hi; rw [upd_ne _ _ hjk'] at hj' hi'
      simp only [Option.some.injEq, Prod.mk.injEq] at hi
      have := (h.lt j' b o2 hj' hi').1; omega
    · subst hjk'
      rw [upd_same] at hi'; rw [upd_ne _ _ hjk] at hj hi
      simp only [Option.some.injEq, Prod.mk.injEq] at hi'
      have := (h.lt j b o1 hj hi).1; omega
    · rw [upd_ne _ _ hjk] at hj hi; rw [upd_ne _ _ hjk'] at hj' hi'
      exact h.inj j j' b o1 o2 hj hj' hi hi'
  · by_cases hjk : j = k
    · subst hjk
      rw [upd_same] at hi
      simp only [Option.some.injEq, Prod.mk.injEq] at hi
      have := h.size
      rw [size_alloc']; exact ⟨by omega, .inr (by omega)⟩
    · rw [upd_ne _ _ hjk] at hj hi
      have := h.lt j b o' hj hi
      rw [size_alloc']; exact ⟨by omega, this.2⟩
  · rw [heap_alloc_lt w o b (by have := h.size; omega)]; exact h.evol b hb hW
  · rw [size_alloc']; have := h.size; omega

/-- A chunk's content turns, in its own block: world w' parts from w there alone. -/
theorem HSt.turn_ext (h : HSt P w0 I0 W0 C ids w) {k b o : Nat} {c : Chunk} (hl : (C k).live = true) (hid : ids k = some (b, o)) (hc : c.live = true) (hk : SameKind (C k) c) {w' : World}
    (hz : w'.heap.size = w.heap.size) (ho : ∀ j, j ≠ b → w'.heap[j]? = w.heap[j]?) (hs : SameShape w.heap[b]? w'.heap[b]?) :
    Ext C ids (Im w0 I0 W0 C ids w) w (upd C k c) ids (Im w0 I0 W0 (upd C k c) ids w') w' := by
  refine ⟨fun d hd => ?_, fun j hj => ?_, fun j hj => ?_⟩
  · obtain ⟨h1, h2, h3⟩ := hd
    have hdb : d ≠ b := fun e => by subst e; exact h3 k hl o hid
    refine ⟨⟨h1, by omega, fun j hj o' => ?_⟩, ho d hdb⟩
    by_cases hjk : j = k
    · subst hjk; exact h3 j hl o'
    · rw [upd_ne _ _ hjk] at hj; exact h3 j hj o'
  · have hjk : j ≠ k := fun e => by subst e; rw [hj] at hl; cases hl
    rw [upd_ne _ _ hjk]; exact hj
  · by_cases hjk : j = k
    · subst hjk
      rw [upd_same]
      refine .inr ⟨hc, rfl, hk, fun b' o' hid' => ?_⟩
      rw [hid] at hid'; cases hid'; exact hs
    · rw [upd_ne _ _ hjk]
      refine .inr ⟨hj, rfl, SameKind.refl hj, fun b' o' hid' => SameShape.of_eq (ho b' fun e => ?_)⟩
      subst e; exact hjk (h.inj j k b' o' o hj hl hid' hid)

theorem HSt.turn (h : HSt P w0 I0 W0 C ids w) {k b o : Nat} {c : Chunk} (hl : (C k).live = true) (hid : ids k = some (b, o)) (hcl : c.live = true) (hk : SameKind (C k) c) {w' : World}
    (hz : w'.heap.size = w.heap.size) (ho : ∀ j, j ≠ b → w'.heap[j]? = w.heap[j]?) (hs : SameShape w.heap[b]? w'.heap[b]?) (hos : w'.os = w.os) (htape : w'.tape = w.tape) (hout : w'.output = w.output)
    (hc : DenC P (upd C k c) ids (Im w0 I0 W0 (upd C k c) ids w') w' k c) : HSt P w0 I0 W0 (upd C k c) ids w' := by
  have hE := h.turn_ext hl hid hcl hk hz ho hs
  refine ⟨fun j => ?_, fun j j' b o1 o2 hj hj' hi hi' => ?_, fun j d o' hj hi => ?_, h.im0, fun d hd hW => ?_, hos.trans h.os, htape.trans h.tape, hout.trans h.output, by rw [hz]; exact h.size⟩
  · by_cases hjk : j = k
    · subst hjk; rw [upd_same]; exact hc
    · rw [upd_ne _ _ hjk]
      by_cases hlj : (C j).live = true
      · exact (h.ch j).mono hE rfl (fun b' o' hid' => ho b' fun e => by subst e; exact hjk (h.inj j k b' o' o hlj hl hid' hid))
      · cases hcj : C j <;> simp_all [Chunk.live, DenC]
  · have e : ∀ j, (upd C k c j).live = true → (C j).live = true := fun j hj => by
      by_cases hjk : j = k
      · subst hjk; exact hl
      · rw [upd_ne _ _ hjk] at hj; exact hj
    exact h.inj j j' b o1 o2 (e j hj) (e j' hj') hi hi'
  · have hlj : (C j).live = true := by
      by_cases hjk : j = k
      · subst hjk; exact hl
      · rw [upd_ne _ _ hjk] at hj; exact hj
    have := h.lt j d o' hlj hi
    exact ⟨by omega, this.2⟩
  · have hdb : d ≠ b := fun e => by
      subst e
      rcases (h.lt k d o hl hid).2 with hh | hh
      · exact hW hh
      · omega
    rw [ho d hdb]; exact h.evol d hd hW

/-- A chunk dies: nobody writes its block any more. -/
theorem HSt.kill_ext (h : HSt P w0 I0 W0 C ids w) (k : Nat) : Ext C ids (Im w0 I0 W0 C ids w) w (upd C k .dead) ids (Im w0 I0 W0 (upd C k .dead) ids w) w := by
  refine ⟨fun d hd => ⟨⟨hd.1, hd.2.1, fun j hj o' => ?_⟩, rfl⟩, fun j hj => ?_, fun j hj => ?_⟩
  · by_cases hjk : j = k
    · subst hjk; rw [upd_same] at hj; cases hj
    · rw [upd_ne _ _ hjk] at hj; exact hd.2.2 j hj o'
  · by_cases hjk : j = k
    · subst hjk; rw [upd_same]
    · rw [upd_ne _ _ hjk]; exact hj
  · by_cases hjk : j = k
    · subst hjk; rw [upd_same]; exact .inl rfl
    · rw [upd_ne _ _ hjk]; exact .inr ⟨hj, rfl, SameKind.refl hj, fun _ _ _ => SameShape.refl _⟩

theorem HSt.kill (h : HSt P w0 I0 W0 C ids w) (k : Nat) : HSt P w0 I0 W0 (upd C k .dead) ids w := by
  have hE := h.kill_ext k
  have e : ∀ j, (upd C k .dead j).live = true → (C j).live = true := fun j hj => by
    by_cases hjk : j = k
    · subst hjk; rw [upd_same] at hj; cases hj
    · rw [upd_ne _ _ hjk] at hj; exact hj
  refine ⟨fun j => ?_, fun j j' b o1 o2 hj hj' hi hi' => h.inj j j' b o1 o2 (e j hj) (e j' hj') hi hi', fun j d o' hj hi => h.lt j d o' (e j hj) hi, h.im0, h.evol, h.os, h.tape, h.output, h.size⟩
  by_cases hjk : j = k
  · subst hjk; rw [upd_same]; trivial
  · rw [upd_ne _ _ hjk]; exact (h.ch j).mono hE rfl (fun _ _ _ => rfl)

/-- A draw turns nothing. -/
theorem HSt.drew (h : HSt P w0 I0 W0 C ids w) : HSt P w0 I0 W0 C ids w.drew := by
  have hE : Ext C ids (Im w0 I0 W0 C ids w) w C ids (Im w0 I0 W0 C ids w.drew) w.drew := ⟨fun d hd => ⟨hd, rfl⟩, fun _ h => h, fun _ h => .inr ⟨h, rfl, SameKind.refl h, fun _ _ _ => SameShape.refl _⟩⟩
  exact ⟨fun k => (h.ch k).mono hE rfl (fun _ _ _ => rfl), h.inj, h.lt, h.im0, h.evol, h.os, h.tape, h.output, h.size⟩
theorem HSt.drew_ext (h : HSt P w0 I0 W0 C ids w) : Ext C ids (Im w0 I0 W0 C ids w) w C ids (Im w0 I0 W0 C ids w.drew) w.drew :=
  ⟨fun d hd => ⟨hd, rfl⟩, fun _ h => h, fun _ h => .inr ⟨h, rfl, SameKind.refl h, fun _ _ _ => SameShape.refl _⟩⟩

theorem Ext.trans {C1 C2 C3 : Nat → Chunk} {i1 i2 i3 : Ids} {J1 J2 J3 : Nat → Prop} {u1 u2 u3 : World} (h : Ext C1 i1 J1 u1 C2 i2 J2 u2) (g : Ext C2 i2 J2 u2 C3 i3 J3 u3) : Ext C1 i1 J1 u1 C3 i3 J3 u3 := by
  refine ⟨fun b hb => ?_, fun k hk => g.dd k (h.dd k hk), fun k hk => ?_⟩
  · obtain ⟨h1, h2⟩ := h.im b hb
    obtain ⟨g1, g2⟩ := g.im b h1
    exact ⟨g1, g2.trans h2⟩
  · rcases h.lv k hk with hd | ⟨hl, hi, hs, hsh⟩
    · exact .inl (g.dd k hd)
    · rcases g.lv k hl with gd | ⟨gl, gi, gs, gsh⟩
      · exact .inl gd
      · exact .inr ⟨gl, gi.trans hi, hs.trans gs, fun b o hid => (hsh b o hid).trans (gsh b o (hi.trans hid))⟩

end Go.Sx
