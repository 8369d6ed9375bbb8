/-
  Sx, part D: that what the operations do is so.
-/
import Derived.Test.YtnnpjaoddniifaaSxC
import Derived.Deep.MidRow
set_option linter.unusedSimpArgs false
set_option linter.unusedVariables false
namespace Go.Sx
set_option linter.unusedVariables false
open Go.RowKit

/-- What is known of the library's tables: cells, by the variable's name. -/
def firstB (b : Nat) : Int :=
  if b < 128 then 240 else if b < 194 then 241 else if b < 224 then 2 else if b = 224 then 19 else if b < 237 then 3 else if b = 237 then 35 else if b < 240 then 3
  else if b = 240 then 52 else if b < 244 then 4 else if b = 244 then 68 else 241
def firstTab : List Value := (List.range 256).map fun b => .int .u8 (firstB b)
def acceptTab : List Value := [128, 191, 160, 191, 128, 159, 144, 191, 128, 143, 0, 0, 0, 0, 0, 0, 0, 0, 0, 0, 0, 0, 0, 0, 0, 0, 0, 0, 0, 0, 0, 0].map (Value.int .u8)
def tabNamed (n : String) : Option (List Value) := if n = "unicode/utf8.first" then some firstTab else if n = "unicode/utf8.acceptRanges" then some acceptTab else none
def tabOf (P : Program) (g : Nat) : Option (List Value) := (P.globals[g]?).bind fun x => tabNamed x.name
def noTabs (P : Program) : Bool := P.globals.all fun x => (tabNamed x.name).isNone
def TabOk (P : Program) (I : Nat → Prop) (w : World) : Prop := ∀ g cs, tabOf P g = some cs → I g ∧ ∀ i x, cs[i]? = some x → w.cell? ⟨g, i, none⟩ = some x
theorem TabOk.of_none {P : Program} {I : Nat → Prop} {w : World} (h : noTabs P = true) : TabOk P I w := fun g cs hc => by
  unfold tabOf at hc
  cases hg : P.globals[g]? with
  | none => rw [hg] at hc; cases hc
  | some x =>
    rw [hg] at hc
    unfold noTabs at h
    rw [Array.all_eq_true_iff_forall_mem] at h
    have := h x (Array.mem_of_getElem? hg)
    simp only [Option.bind_some] at hc
    rw [hc] at this; cases this
/-- The call under way: its program, the world at its beginning, what it may read and write, how many chunks it was given, and where they lay. -/
structure Cx where
  P : Program
  w0 : World
  I0 : Nat → Prop
  W0 : Nat → Prop
  m : Nat
  ids0 : Ids
  C0 : Nat → Chunk
  gl : TabOk P I0 w0

abbrev DenX (X : Cx) (hp : Hp) (ids : Ids) (w : World) : SV → Value → Prop := Den X.P (getH hp) ids (Im X.w0 X.I0 X.W0 (getH hp) ids w) w
abbrev ExtX (X : Cx) (hp : Hp) (ids : Ids) (w : World) (hp' : Hp) (ids' : Ids) (w' : World) : Prop :=
  Ext (getH hp) ids (Im X.w0 X.I0 X.W0 (getH hp) ids w) w (getH hp') ids' (Im X.w0 X.I0 X.W0 (getH hp') ids' w') w'

/-- A chunk that the call was given, and that lives: it lies where it lay. -/
structure Kept (X : Cx) (C : Nat → Chunk) (ids : Ids) (w : World) (k : Nat) : Prop where
  id : ids k = X.ids0 k
  kind : SameKind (X.C0 k) (C k)
  shape : ∀ b o, ids k = some (b, o) → SameShape X.w0.heap[b]? w.heap[b]?

theorem Kept.step {X : Cx} {C C' : Nat → Chunk} {ids ids' : Ids} {I I' : Nat → Prop} {w w' : World} {k : Nat} (h : Kept X C ids w k) (hE : Ext C ids I w C' ids' I' w') (hl : (C k).live = true) (hl' : (C' k).live = true) : Kept X C' ids' w' k := by
  rcases hE.lv k hl with hd | ⟨_, hi, hk, hs⟩
  · rw [hd] at hl'; cases hl'
  · exact ⟨hi.trans h.id, h.kind.trans hk, fun b o hid => (h.shape b o (hi ▸ hid)).trans (hs b o (hi ▸ hid))⟩

structure HeapC (X : Cx) (hp : Hp) (ids : Ids) (w : World) : Prop where
  st : HSt X.P X.w0 X.I0 X.W0 (getH hp) ids w
  kept : ∀ k, k < X.m → (getH hp k).live = true → Kept X (getH hp) ids w k

/-- .. and the name nx may be given to a new chunk. -/
structure HeapX (X : Cx) (hp : Hp) (nx : Nat) (ids : Ids) (w : World) : Prop extends HeapC X hp ids w where
  fresh : getH hp nx = .unborn
  m_le : X.m ≤ nx

/-- .. and all names from nx on. -/
structure HeapF (X : Cx) (hp : Hp) (nx : Nat) (ids : Ids) (w : World) : Prop extends HeapC X hp ids w where
  fresh : ∀ k, nx ≤ k → getH hp k = .unborn
  m_le : X.m ≤ nx
theorem HeapF.toX {X : Cx} {hp : Hp} {nx : Nat} {ids : Ids} {w : World} (h : HeapF X hp nx ids w) : HeapX X hp nx ids w := ⟨h.toHeapC, h.fresh nx (Nat.le_refl _), h.m_le⟩

/-- An operation that ran: what came of it. -/
def Sound (X : Cx) (hp : Hp) (ids : Ids) (w : World) (r : Result Value) (e : Eff) : Prop :=
  ∃ x w' ids', r = .ok x w' ∧ HeapC X (e.upd ++ hp) ids' w' ∧ ExtX X hp ids w (e.upd ++ hp) ids' w' ∧ DenX X (e.upd ++ hp) ids' w' e.val x
def SoundU (X : Cx) (hp : Hp) (ids : Ids) (w : World) (r : Result Unit) (e : Eff) : Prop :=
  ∃ w' ids', r = .ok () w' ∧ HeapC X (e.upd ++ hp) ids' w' ∧ ExtX X hp ids w (e.upd ++ hp) ids' w'

variable {X : Cx} {hp : Hp} {nx : Nat} {ids : Ids} {w : World}

theorem sound_pure (h : HeapX X hp nx ids w) {r : Result Value} {x : Value} (hr : r = .ok x w) {s : SV} {rds : List Nat} (hd : DenX X hp ids w s x) : Sound X hp ids w r ⟨s, [], nx, rds⟩ :=
  ⟨x, w, ids, hr, h.toHeapC, Ext.refl _ _ _ _, hd⟩

section inv
variable {P : Program} {C : Nat → Chunk} {I : Nat → Prop} {y : Value}
theorem den_v {x} (h : Den P C ids I w (.v x) y) : y = x := by cases h; rfl
theorem den_agg {xs} (h : Den P C ids I w (.agg xs) y) : ∃ arr, y = .agg arr ∧ xs.length = arr.size ∧ ∀ i x, xs[i]? = some x → Den P C ids I w x (arr.getD i undef) := by
  cases h with | agg arr h hx => exact ⟨arr, rfl, h, hx⟩
theorem den_tup {xs} (h : Den P C ids I w (.tup xs) y) : ∃ arr, y = .tuple arr ∧ xs.length = arr.size ∧ ∀ i x, xs[i]? = some x → Den P C ids I w x (arr.getD i undef) := by
  cases h with | tup arr h hx => exact ⟨arr, rfl, h, hx⟩
theorem den_ptr {k off} (h : Den P C ids I w (.ptr k off) y) (hl : (C k).live = true) : ∃ b o, ids k = some (b, o) ∧ y = .pointer (some ⟨b, o + off, none⟩) := by
  cases h with
  | ptrDead h => rw [h] at hl; cases hl
  | ptr b o _ hi => exact ⟨b, o, hi, rfl⟩
theorem den_iptr {cs off} (h : Den P C ids I w (.iptr cs off) y) : ∃ (b o : Nat) (c : Nat → Value), I b ∧ y = .pointer (some ⟨b, o + off, none⟩) ∧ (∀ i x, cs[i]? = some x → w.cell? ⟨b, o + i, none⟩ = some (c i)) ∧ ∀ i x, cs[i]? = some x → Den P C ids I w x (c i) := by
  cases h with | iptr b o c hb hc hx => exact ⟨b, o, c, hb, rfl, hc, hx⟩
theorem den_own {k off n} (h : Den P C ids I w (.own k off n) y) (hl : (C k).live = true) : ∃ a cap, y = .slice a n cap ∧ OwnOk P C ids w k off n a cap := by
  cases h with
  | ownDead h => rw [h] at hl; cases hl
  | own a cap _ ho => exact ⟨a, cap, rfl, ho⟩
theorem den_sl {n cs} (h : Den P C ids I w (.sl n cs) y) : ∃ a cap, y = .slice a n cap ∧ n ≤ cap ∧ cap ≤ maxLen ∧
    ((n = 0 ∧ cs = []) ∨ ∃ (b o : Nat) (c : Nat → Value), a = some ⟨b, o, none⟩ ∧ I b ∧ (∀ i x, cs[i]? = some x → w.cell? ⟨b, o + i, none⟩ = some (c i)) ∧ ∀ i x, cs[i]? = some x → Den P C ids I w x (c i)) := by
  cases h with
  | sl0 hc => exact ⟨_, _, rfl, Nat.zero_le _, hc, .inl ⟨rfl, rfl⟩⟩
  | sl b o cap c hb hn hcap hc hx => exact ⟨_, _, rfl, hn, hcap, .inr ⟨b, o, c, rfl, hb, hc, hx⟩⟩
theorem den_mp {k} (h : Den P C ids I w (.mp k) y) (hl : (C k).live = true) : ∃ b, ids k = some (b, 0) ∧ y = .map (some b) := by
  cases h with
  | mpDead h => rw [h] at hl; cases hl
  | mp b _ hi => exact ⟨b, hi, rfl⟩
theorem den_clo {f caps} (h : Den P C ids I w (.clo f caps) y) : ∃ arr, y = .func (.func f) #[] arr ∧ caps.length = arr.size ∧ ∀ i x, caps[i]? = some x → Den P C ids I w x (arr.getD i undef) := by
  cases h with | clo arr h hx => exact ⟨arr, rfl, h, hx⟩
theorem den_unw {g : Bool} {s : SV} (hg : g = true) (h : Den P C ids I w s y) : Den P C ids I w (unw g s) y := by
  cases s with
  | gd hh x =>
    subst hg
    cases hh with
    | true => cases h with | gd h _ => exact h rfl
    | false => exact .any
  | _ => exact h
end inv

theorem den_lit (P : Program) (C : Nat → Chunk) (I : Nat → Prop) {l : List Value} : ∀ i x, (l.map SV.v)[i]? = some x → Den P C ids I w x (l.toArray.getD i undef) := by
  intro i x h
  rw [List.getElem?_map] at h
  cases hl : l[i]? with
  | none => rw [hl] at h; cases h
  | some y =>
    rw [hl] at h; cases h
    rw [Array.getD_eq_getD_getElem?, List.getElem?_toArray, hl]
    exact .v

theorem szT_some {P : Program} {t n} (h : szT P t = some n) : ∃ i, P.info? t = some i ∧ i.size = n := by
  unfold szT at h
  cases hi : P.info? t with
  | none => rw [hi] at h; cases h
  | some i => rw [hi] at h; exact ⟨i, rfl, by simpa using h⟩
theorem szT_cells {P : Program} {t n} (h : szT P t = some n) : P.cellsOf t = n := by
  unfold Program.cellsOf; unfold szT at h; rw [h]; rfl

theorem aggT_run {P : Program} {t : TypeId} {g : Bool} (h : aggT P t = some g) (w : World) : (isAgg t).run P w = .ok g w := by
  unfold aggT at h
  cases hu : P.underlying t with
  | none => rw [hu] at h; cases h
  | some d =>
    rw [hu] at h
    simp only [Option.map_some, Option.some.injEq] at h
    unfold isAgg
    rw [Sem.run_bind, run_underlying hu w]
    subst h
    cases d <;> rfl

/-- Cells of a row in the world, read at a place. -/
structure Cells (P : Program) (C : Nat → Chunk) (ids : Ids) (I : Nat → Prop) (w : World) (b o : Nat) (cs : List SV) : Prop where
  at_ : ∀ i x, cs[i]? = some x → ∃ c, w.cell? ⟨b, o + i, none⟩ = some c ∧ Den P C ids I w x c

theorem cells_row {P : Program} {C : Nat → Chunk} {I : Nat → Prop} {k b o : Nat} {e : TypeId} {cs : List SV} (h : DenC P C ids I w k (.row e cs)) (hi : ids k = some (b, o)) : Cells P C ids I w b o cs := by
  simp only [DenC, hi] at h
  obtain ⟨arr, ha, hs, hx⟩ := h
  refine ⟨fun i x hix => ⟨arr.getD (o + i) undef, ?_, hx i x hix⟩⟩
  have hlt : i < cs.length := (List.getElem?_eq_some_iff.1 hix).1
  simp only [World.cell?, ha]
  simp [Array.getD_eq_getD_getElem?, Array.getElem?_eq_getElem (show o + i < arr.size by omega)]

theorem list_choose {α : Type} {Q : Nat → α → Value → Prop} : ∀ (cs : List α) (o : Nat), (∀ i x, cs[i]? = some x → ∃ c, Q (o + i) x c) → ∃ l : List Value, l.length = cs.length ∧ ∀ i x, cs[i]? = some x → Q (o + i) x (l.getD i undef)
  | [], _, _ => ⟨[], rfl, fun i x h => by simp at h⟩
  | a :: cs, o, h => by
    obtain ⟨c, hc⟩ := h 0 a rfl
    obtain ⟨l, hl, hx⟩ := list_choose cs (o + 1) (fun i x hi => by
      have := h (i + 1) x (by simpa using hi)
      rwa [show o + (i + 1) = o + 1 + i from by omega] at this)
    refine ⟨c :: l, by simp [hl], fun i x hi => ?_⟩
    cases i with
    | zero => simp at hi; subst hi; exact hc
    | succ i =>
      have := hx i x (by simpa using hi)
      rw [show o + (i + 1) = o + 1 + i from by omega]
      simpa using this

theorem run_take {P : Program} {C : Nat → Chunk} {I : Nat → Prop} {t : TypeId} {b o off : Nat} {cs : List SV} (hc : Cells P C ids I w b o cs) {rds : List Nat} {side : Prop} {e : Eff} (h : takeS P t cs off rds nx = .ok side e) (hs : side) :
    e.upd = [] ∧ e.nx = nx ∧ ∃ x, (loadVar t ⟨b, o + off, none⟩).run P w = .ok x w ∧ Den P C ids I w e.val x := by
  unfold takeS at h
  split at h
  · rename_i n ha hn
    cases h
    refine ⟨rfl, rfl, ?_⟩
    obtain ⟨l, hl, hx⟩ := list_choose (Q := fun j x c => w.cell? ⟨b, o + off + j, none⟩ = some c ∧ Den P C ids I w x c) ((cs.drop off).take n) 0 (fun i x hi => by
      rw [List.getElem?_take] at hi
      split at hi
      · rw [List.getElem?_drop] at hi
        obtain ⟨c, h1, h2⟩ := hc.at_ _ x hi
        refine ⟨c, ?_, h2⟩
        rw [← h1]; congr 2; omega
      · cases hi)
    have hlen : l.length = n := by rw [hl, List.length_take, List.length_drop]; omega
    have hagg : ∃ d, P.underlying t = some d ∧ d.isRow = true := by
      unfold aggT at ha
      cases hu : P.underlying t with
      | none => rw [hu] at ha; cases ha
      | some d => rw [hu] at ha; exact ⟨d, rfl, by cases d <;> first | rfl | exact absurd ha (by simp)⟩
    obtain ⟨d, hu, hd⟩ := hagg
    refine ⟨.agg l.toArray, run_loadVar_mid w b (o + off) t l d (fun j v hv => ?_) hu hd (by unfold szT at hn; rw [hn, hlen]), .agg _ (by simp [hl]) fun i x hi => ?_⟩
    · have hj : j < l.length := (List.getElem?_eq_some_iff.1 hv).1
      have hj' : j < ((cs.drop off).take n).length := by omega
      have := (hx j _ (List.getElem?_eq_getElem hj')).1
      rw [Nat.zero_add] at this
      rw [this, ← hv]
      simp [List.getD_eq_getElem?_getD, List.getElem?_eq_getElem hj]
    · have := (hx i x hi).2
      simpa [Array.getD_eq_getD_getElem?, List.getD_eq_getElem?_getD] using this
  · rename_i ha
    cases h
    refine ⟨rfl, rfl, ?_⟩
    have hoff : off < cs.length := hs
    obtain ⟨c, h1, h2⟩ := hc.at_ off _ (List.getElem?_eq_getElem hoff)
    refine ⟨c, ?_, ?_⟩
    · simp only [loadVar, Sem.run_bind, aggT_run ha w, Result.andThen_ok, Bool.false_eq_true, if_false]
      simp only [load, Sem.run, h1]
    · simpa [List.getD_eq_getElem?_getD, List.getElem?_eq_getElem hoff] using h2
  · cases h

theorem rowS_ok {c : Chunk} {f : TypeId → List SV → Res} {s : Prop} {e : Eff} (h : rowS c f = .ok s e) : ∃ t cs, c = .row t cs ∧ f t cs = .ok s e := by
  cases c <;> simp only [rowS] at h <;> first | exact ⟨_, _, rfl, h⟩ | cases h

theorem row_at (h : HeapX X hp nx ids w) {k b o : Nat} {e : TypeId} {cs : List SV} (hk : getH hp k = .row e cs) (hi : ids k = some (b, o)) : Cells X.P (getH hp) ids (Im X.w0 X.I0 X.W0 (getH hp) ids w) w b o cs := by
  have := h.st.ch k
  rw [hk] at this
  exact cells_row this hi

theorem sound_load (h : HeapX X hp nx ids w) {t : TypeId} {s : SV} {x : Value} (hd : DenX X hp ids w s x) {side : Prop} {e : Eff} (he : loadS X.P t s hp nx = .ok side e) (hs : side) :
    Sound X hp ids w ((Instr.loadAt t x).run X.P w) e := by
  have fin : ∀ {b o : Nat} {cs : List SV} {off : Nat} {rds : List Nat}, Cells X.P (getH hp) ids (Im X.w0 X.I0 X.W0 (getH hp) ids w) w b o cs → takeS X.P t cs off rds nx = .ok side e → x = .pointer (some ⟨b, o + off, none⟩) →
      Sound X hp ids w ((Instr.loadAt t x).run X.P w) e := by
    intro b o cs off rds hc ht hx
    obtain ⟨h1, h2, y, hr, hy⟩ := run_take hc ht hs
    obtain ⟨val, upd, nx', rds'⟩ := e
    simp only at h1 h2; subst h1; subst h2
    subst hx
    exact sound_pure h (by simp only [Instr.loadAt, Instr.sureAddr, Sem.run_bind, Sem.run_pure, Result.andThen_ok]; exact hr) hy
  unfold loadS at he
  split at he
  · rename_i k off
    obtain ⟨t', cs, hk, ht⟩ := rowS_ok he
    obtain ⟨b, o, hi, hx⟩ := den_ptr hd (by rw [hk]; rfl)
    exact fin (row_at h hk hi) ht hx
  · obtain ⟨b, o, c, _, hx, hc, hy⟩ := den_iptr hd
    exact fin ⟨fun i y hi => ⟨c i, hc i y hi, hy i y hi⟩⟩ he hx
  · cases he

end Go.Sx
