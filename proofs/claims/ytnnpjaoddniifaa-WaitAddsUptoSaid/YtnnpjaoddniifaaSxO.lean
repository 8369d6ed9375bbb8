/-
  Sx, part O: less may be known, and under other names.
-/
import Derived.Test.YtnnpjaoddniifaaSxN
set_option linter.unusedSimpArgs false
set_option linter.unusedVariables false
namespace Go.Sx
set_option linter.unusedVariables false
open Go.RowKit
variable {X : Cx} {hp : Hp} {nx : Nat} {ids : Ids} {w : World}

mutual
/-- Names no chunk. -/
def SV.cl : SV → Bool
  | .any => true
  | .v _ => true
  | .agg xs => clL xs
  | .tup xs => clL xs
  | .sl _ xs => clL xs
  | .iptr xs _ => clL xs
  | .clo _ xs => clL xs
  | .gd _ x => x.cl
  | .own _ _ _ => false
  | .ptr _ _ => false
  | .mp _ => false
  | .it _ => false
def clL : List SV → Bool
  | [] => true
  | x :: xs => x.cl && clL xs
end
theorem clL_get : ∀ {xs : List SV}, clL xs = true → ∀ (i : Nat) (x : SV), xs[i]? = some x → x.cl = true
  | [], _, i, x, h => by simp at h
  | y :: ys, hc, i, x, h => by
    simp only [clL, Bool.and_eq_true] at hc
    cases i with
    | zero => simp at h; subst h; exact hc.1
    | succ i => exact clL_get hc.2 i x (by simpa using h)
theorem clL_of {xs : List SV} (h : ∀ x ∈ xs, x.cl = true) : clL xs = true := by
  induction xs with
  | nil => rfl
  | cons y ys ih => simp only [clL, Bool.and_eq_true]; exact ⟨h y (by simp), ih fun x hx => h x (by simp [hx])⟩
theorem clL_map {α : Type} (f : α → SV) (h : ∀ a, (f a).cl = true) (l : List α) : clL (l.map f) = true := clL_of fun x hx => by
  obtain ⟨a, _, rfl⟩ := List.mem_map.1 hx; exact h a
theorem clL_flatMap {α : Type} (f : α → List SV) (h : ∀ a, clL (f a) = true) (l : List α) : clL (l.flatMap f) = true := clL_of fun x hx => by
  obtain ⟨a, _, ha⟩ := List.mem_flatMap.1 hx
  obtain ⟨i, hi, rfl⟩ := List.getElem_of_mem ha
  exact clL_get (h a) i _ (List.getElem?_eq_getElem hi)
theorem clL_append (xs ys : List SV) : clL (xs ++ ys) = (clL xs && clL ys) := by
  induction xs with
  | nil => rfl
  | cons x xs ih => simp only [List.cons_append, clL, ih, Bool.and_assoc]
theorem clL_app {cs : List SV} (h : clL cs = true) (o n : Nat) : clL (appCells cs o n) = true := clL_of fun x hx => by
  obtain ⟨i, hi, rfl⟩ := List.getElem_of_mem hx
  exact clL_get h _ _ (appCells_get (List.getElem?_eq_getElem hi)).2

theorem den_cl {P : Program} {C C' : Nat → Chunk} {ids ids' : Ids} {I I' : Nat → Prop} {w w' : World} (hI : ∀ b, I b → I' b ∧ w'.heap[b]? = w.heap[b]?) {s : SV} {x : Value} (h : Den P C ids I w s x) : s.cl = true → Den P C' ids' I' w' s x := by
  induction h with
  | any => exact fun _ => .any
  | v => exact fun _ => .v
  | agg arr h _ ih => exact fun hc => .agg arr h fun i x hi => ih i x hi (clL_get hc i x hi)
  | tup arr h _ ih => exact fun hc => .tup arr h fun i x hi => ih i x hi (clL_get hc i x hi)
  | sl0 hc => exact fun _ => .sl0 hc
  | sl b o cap c hb hn hcap hc _ ih =>
    obtain ⟨hb', hw⟩ := hI b hb
    exact fun hcl => .sl b o cap c hb' hn hcap (fun i x hi => (cell_eq hw).trans (hc i x hi)) fun i x hi => ih i x hi (clL_get hcl i x hi)
  | iptr b o c hb hc _ ih =>
    obtain ⟨hb', hw⟩ := hI b hb
    exact fun hcl => .iptr b o c hb' (fun i x hi => (cell_eq hw).trans (hc i x hi)) fun i x hi => ih i x hi (clL_get hcl i x hi)
  | clo arr h _ ih => exact fun hc => .clo arr h fun i x hi => ih i x hi (clL_get hc i x hi)
  | gd _ hn ih => exact fun hc => .gd (fun hg => ih hg hc) hn
  | ownDead h => intro hc; cases hc
  | own a cap hl h => intro hc; cases hc
  | ptrDead h => intro hc; cases hc
  | ptr b o hl h => intro hc; cases hc
  | mpDead h => intro hc; cases hc
  | mp b hl h => intro hc; cases hc
  | itDead h => intro hc; cases hc
  | it b hl h => intro hc; cases hc

/-- s' says of a value no more than s, under the names that σ gives; what frz names is seen as immutable. -/
inductive LeS (P : Program) (C C' : Nat → Chunk) (σ : Nat → Option Nat) (frz : Nat → Prop) : SV → SV → Prop
  | any {s} : LeS P C C' σ frz s .any
  | cl {s} (h : s.cl = true) : LeS P C C' σ frz s s
  | own {k k' off n} (hs : σ k' = some k) (hl : (C' k').live = true) : LeS P C C' σ frz (.own k off n) (.own k' off n)
  | absent {k'} (hl : (C' k').live = true) (hs : σ k' = none) : LeS P C C' σ frz (.v (.slice none 0 0)) (.own k' 0 0)
  | ptr {k k' off} (hs : σ k' = some k) (hl : (C' k').live = true) : LeS P C C' σ frz (.ptr k off) (.ptr k' off)
  | mp {k k'} (hs : σ k' = some k) (hl : (C' k').live = true) : LeS P C C' σ frz (.mp k) (.mp k')
  | it {k k'} (hs : σ k' = some k) (hl : (C' k').live = true) : LeS P C C' σ frz (.it k) (.it k')
  | agg {xs ys : List SV} (h : xs.length = ys.length) (hx : ∀ (i : Nat) (x y : SV), xs[i]? = some x → ys[i]? = some y → LeS P C C' σ frz x y) : LeS P C C' σ frz (.agg xs) (.agg ys)
  | tup {xs ys : List SV} (h : xs.length = ys.length) (hx : ∀ (i : Nat) (x y : SV), xs[i]? = some x → ys[i]? = some y → LeS P C C' σ frz x y) : LeS P C C' σ frz (.tup xs) (.tup ys)
  | clo {f} {xs ys : List SV} (h : xs.length = ys.length) (hx : ∀ (i : Nat) (x y : SV), xs[i]? = some x → ys[i]? = some y → LeS P C C' σ frz x y) : LeS P C C' σ frz (.clo f xs) (.clo f ys)
  | frz {k off n e cs} (hk : C k = .row e cs) (hf : frz k) (hc : clL cs = true) (q : Nat) (hq : n = 0 → q = 0) : LeS P C C' σ frz (.own k off n) (.sl n (appCells cs off q))
  | fptr {k off e cs} (hk : C k = .row e cs) (hf : frz k) (hc : clL cs = true) : LeS P C C' σ frz (.ptr k off) (.iptr cs off)
  | nilsl : LeS P C C' σ frz (.v (.slice none 0 0)) (.sl 0 [])

/-- So of a chunk. -/
def ChLe (P : Program) (C C' : Nat → Chunk) (σ : Nat → Option Nat) (frz : Nat → Prop) (k' : Nat) : Chunk → Prop
  | .unborn => True
  | .dead => True
  | .row e cs' => (σ k' = none ∧ cs' = []) ∨ ∃ k cs, σ k' = some k ∧ C k = .row e cs ∧ cs'.length ≤ cs.length ∧ ∀ (i : Nat) (x y : SV), cs[i]? = some x → cs'[i]? = some y → LeS P C C' σ frz x y
  | .map es' => ∃ k es, σ k' = some k ∧ C k = .map es ∧ es.length = es'.length ∧ ∀ (i : Nat) (x y : Value × SV), es[i]? = some x → es'[i]? = some y → x.1 = y.1 ∧ LeS P C C' σ frz x.2 y.2
  | .obj s pos => ∃ k, σ k' = some k ∧ C k = .obj s pos

structure Sub (P : Program) (C C' : Nat → Chunk) (σ : Nat → Option Nat) (frz : Nat → Prop) : Prop where
  ch : ∀ k', ChLe P C C' σ frz k' (C' k')
  inj : ∀ k1 k2 k, (C' k1).live = true → (C' k2).live = true → σ k1 = some k → σ k2 = some k → k1 = k2
  frz : ∀ k, frz k → ∀ k', (C' k').live = true → σ k' ≠ some k

theorem ChLe.live {P : Program} {C C' : Nat → Chunk} {σ : Nat → Option Nat} {frz : Nat → Prop} {k k' : Nat} (h : ChLe P C C' σ frz k' (C' k')) (hl : (C' k').live = true) (hs : σ k' = some k) : (C k).live = true ∧ ∀ e cs, C k = .row e cs → ∃ cs', C' k' = .row e cs' := by
  cases hc : C' k' with
  | unborn => rw [hc] at hl; cases hl
  | dead => rw [hc] at hl; cases hl
  | row e cs' =>
    rw [hc] at h
    rcases h with ⟨h1, _⟩ | ⟨k2, cs, h1, h2, _⟩
    · rw [hs] at h1; cases h1
    · rw [hs] at h1; cases h1
      exact ⟨by rw [h2]; rfl, fun e2 cs2 h3 => by rw [h2] at h3; cases h3; exact ⟨cs', rfl⟩⟩
  | map es' =>
    rw [hc] at h
    obtain ⟨k2, es, h1, h2, _⟩ := h
    rw [hs] at h1; cases h1
    exact ⟨by rw [h2]; rfl, fun e2 cs2 h3 => by rw [h2] at h3; cases h3⟩
  | obj s pos =>
    rw [hc] at h
    obtain ⟨k2, h1, h2⟩ := h
    rw [hs] at h1; cases h1
    exact ⟨by rw [h2]; rfl, fun e2 cs2 h3 => by rw [h2] at h3; cases h3⟩

theorem ChLe.kind {P : Program} {C C' : Nat → Chunk} {σ : Nat → Option Nat} {frz : Nat → Prop} {k k' : Nat} (h : ChLe P C C' σ frz k' (C' k')) (hl : (C' k').live = true) (hs : σ k' = some k) : SameKind (C k) (C' k') := by
  cases hc : C' k' with
  | unborn => rw [hc] at hl; cases hl
  | dead => rw [hc] at hl; cases hl
  | row e cs' =>
    rw [hc] at h
    rcases h with ⟨h1, _⟩ | ⟨k2, cs, h1, h2, h3, _⟩
    · rw [hs] at h1; cases h1
    · rw [hs] at h1; cases h1; rw [h2]; exact ⟨rfl, h3⟩
  | map es' =>
    rw [hc] at h
    obtain ⟨k2, es, h1, h2, _⟩ := h
    rw [hs] at h1; cases h1; rw [h2]; trivial
  | obj s pos =>
    rw [hc] at h
    obtain ⟨k2, h1, h2⟩ := h
    rw [hs] at h1; cases h1; rw [h2]; trivial

/-- What the world must show for it. -/
structure SubW (P : Program) (C C' : Nat → Chunk) (σ : Nat → Option Nat) (frz : Nat → Prop) (ids ids' : Ids) (I I' : Nat → Prop) (w : World) : Prop where
  sub : Sub P C C' σ frz
  im : ∀ b, I b → I' b
  idsEq : ∀ k' k, σ k' = some k → (C' k').live = true → ids' k' = ids k
  fz : ∀ k, frz k → (C k).live = true → ∀ b o, ids k = some (b, o) → I' b
  ch : ∀ k e cs, C k = .row e cs → DenC P C ids I w k (.row e cs)

theorem den_le {P : Program} {C C' : Nat → Chunk} {σ : Nat → Option Nat} {frz : Nat → Prop} {ids ids' : Ids} {I I' : Nat → Prop} {w : World} (hW : SubW P C C' σ frz ids ids' I I' w) {s s' : SV} (h : LeS P C C' σ frz s s') :
    ∀ {x : Value}, Den P C ids I w s x → Den P C' ids' I' w s' x := by
  have hI : ∀ b, I b → I' b ∧ w.heap[b]? = w.heap[b]? := fun b hb => ⟨hW.im b hb, rfl⟩
  induction h with
  | any => exact fun _ => .any
  | cl h => exact fun hd => den_cl hI hd h
  | own hs hl =>
    rename_i k k' off n
    intro x hd
    obtain ⟨hlk, hrow⟩ := (hW.sub.ch k').live hl hs
    obtain ⟨a, cap, rfl, h1, h2, h4, h3⟩ := den_own hd hlk
    refine .own a cap hl ⟨h1, h2, fun e cs hc => ?_, ?_⟩
    · have h := hW.sub.ch k'
      rw [hc] at h
      rcases h with ⟨g1, _⟩ | ⟨k2, cs2, g1, g2, g3, _⟩
      · rw [hs] at g1; cases g1
      · rw [hs] at g1; cases g1
        exact Nat.le_trans g3 (h4 _ _ g2)
    rcases h3 with h3 | ⟨b, o, e, cs, arr, hC, hid, ha, hw, hsz⟩
    · exact .inl h3
    · obtain ⟨cs', hc'⟩ := hrow e cs hC
      exact .inr ⟨b, o, e, cs', arr, hc', by rw [hW.idsEq k' k hs hl]; exact hid, ha, hw, hsz⟩
  | absent hl hs =>
    rename_i k'
    intro x hd
    obtain rfl := den_v hd
    refine .own none 0 hl ⟨Nat.le_refl _, by unfold maxLen; omega, fun e cs hc => ?_, .inl ⟨rfl, rfl⟩⟩
    have h := hW.sub.ch k'
    rw [hc] at h
    rcases h with ⟨_, g⟩ | ⟨k2, cs2, g1, _⟩
    · subst g; exact Nat.zero_le _
    · rw [hs] at g1; cases g1
  | ptr hs hl =>
    rename_i k k' off
    intro x hd
    obtain ⟨hlk, _⟩ := (hW.sub.ch k').live hl hs
    obtain ⟨b, o, hid, rfl⟩ := den_ptr hd hlk
    exact .ptr b o hl (by rw [hW.idsEq k' k hs hl]; exact hid)
  | mp hs hl =>
    rename_i k k'
    intro x hd
    obtain ⟨hlk, _⟩ := (hW.sub.ch k').live hl hs
    obtain ⟨b, hid, rfl⟩ := den_mp hd hlk
    exact .mp b hl (by rw [hW.idsEq k' k hs hl]; exact hid)
  | it hs hl =>
    rename_i k k'
    intro x hd
    obtain ⟨hlk, _⟩ := (hW.sub.ch k').live hl hs
    cases hd with
    | itDead h => rw [h] at hlk; cases hlk
    | it b hl2 hid => exact .it b hl (by rw [hW.idsEq k' k hs hl]; exact hid)
  | agg h _ ih =>
    intro x hd
    obtain ⟨arr, rfl, hl, hx⟩ := den_agg hd
    refine .agg arr (by omega) fun i y hi => ?_
    have hlt := (List.getElem?_eq_some_iff.1 hi).1
    exact ih i _ y (List.getElem?_eq_getElem (by omega)) hi (hx i _ (List.getElem?_eq_getElem (by omega)))
  | tup h _ ih =>
    intro x hd
    obtain ⟨arr, rfl, hl, hx⟩ := den_tup hd
    refine .tup arr (by omega) fun i y hi => ?_
    have hlt := (List.getElem?_eq_some_iff.1 hi).1
    exact ih i _ y (List.getElem?_eq_getElem (by omega)) hi (hx i _ (List.getElem?_eq_getElem (by omega)))
  | clo h _ ih =>
    intro x hd
    obtain ⟨arr, rfl, hl, hx⟩ := den_clo hd
    refine .clo arr (by omega) fun i y hi => ?_
    have hlt := (List.getElem?_eq_some_iff.1 hi).1
    exact ih i _ y (List.getElem?_eq_getElem (by omega)) hi (hx i _ (List.getElem?_eq_getElem (by omega)))
  | frz hk hf hc q hq =>
    rename_i k off n e cs
    intro x hd
    have hlk : (C k).live = true := by rw [hk]; rfl
    obtain ⟨a, cap, rfl, h1, h2, _, h3⟩ := den_own hd hlk
    rcases h3 with ⟨rfl, rfl⟩ | ⟨b, o, e', cs', arr, hC, hid, rfl, hw, hsz⟩
    · rw [hq rfl, show appCells cs off 0 = [] from by simp [appCells]]
      exact .sl0 h2
    · rw [hk] at hC; cases hC
      have hc' := cells_row (hW.ch k e cs hk) hid
      obtain ⟨l, hll, hx⟩ := cells_list hc'
      exact .sl b (o + off) cap (fun i => l.getD (off + i) undef) (hW.fz k hf hlk b o hid) h1 h2
        (fun i y hi => by
          obtain ⟨_, hi2⟩ := appCells_get hi
          rw [Nat.add_assoc]; exact (hx _ _ hi2).1)
        (fun i y hi => by
          obtain ⟨_, hi2⟩ := appCells_get hi
          exact den_cl hI (hx _ _ hi2).2 (clL_get hc _ _ hi2))
  | fptr hk hf hc =>
    rename_i k off e cs
    intro x hd
    have hlk : (C k).live = true := by rw [hk]; rfl
    obtain ⟨b, o, hid, rfl⟩ := den_ptr hd hlk
    have hc' := cells_row (hW.ch k e cs hk) hid
    obtain ⟨l, hll, hx⟩ := cells_list hc'
    exact .iptr b o (fun i => l.getD i undef) (hW.fz k hf hlk b o hid) (fun i y hi => (hx _ _ hi).1) (fun i y hi => den_cl hI (hx _ _ hi).2 (clL_get hc _ _ hi))
  | nilsl =>
    intro x hd
    obtain rfl := den_v hd
    exact .sl0 (by unfold maxLen; omega)

theorem denC_le {P : Program} {C C' : Nat → Chunk} {σ : Nat → Option Nat} {frz : Nat → Prop} {ids ids' : Ids} {I I' : Nat → Prop} {w : World} (hW : SubW P C C' σ frz ids ids' I I' w) (hall : ∀ k, DenC P C ids I w k (C k)) (k' : Nat) (hn : σ k' = none → ids' k' = none) :
    DenC P C' ids' I' w k' (C' k') := by
  have h := hW.sub.ch k'
  cases hc : C' k' with
  | unborn => trivial
  | dead => trivial
  | row e cs' =>
    have hl : (C' k').live = true := by rw [hc]; rfl
    rw [hc] at h
    simp only [DenC]
    rcases h with ⟨h1, rfl⟩ | ⟨k, cs, h1, h2, h3, h4⟩
    · rw [hn h1]
    · have hk := hall k
      rw [h2] at hk
      simp only [DenC] at hk
      rw [hW.idsEq k' k h1 hl]
      cases hid : ids k with
      | none =>
        rw [hid] at hk; simp only at hk; subst hk
        exact List.eq_nil_of_length_eq_zero (by simpa using h3)
      | some p =>
        obtain ⟨b, o⟩ := p
        rw [hid] at hk
        obtain ⟨arr, ha, hs, hx⟩ := hk
        refine ⟨arr, ha, by omega, fun i y hi => ?_⟩
        have hlt := (List.getElem?_eq_some_iff.1 hi).1
        exact den_le hW (h4 i _ y (List.getElem?_eq_getElem (by omega)) hi) (hx i _ (List.getElem?_eq_getElem (by omega)))
  | map es' =>
    have hl : (C' k').live = true := by rw [hc]; rfl
    rw [hc] at h
    obtain ⟨k, es, h1, h2, h3, h4⟩ := h
    have hk := hall k
    rw [h2] at hk
    obtain ⟨b, arr, clock, hid, hw, hsz, hx⟩ := hk
    refine ⟨b, arr, clock, by rw [hW.idsEq k' k h1 hl]; exact hid, hw, by omega, fun i y hi => ?_⟩
    have hlt := (List.getElem?_eq_some_iff.1 hi).1
    obtain ⟨g1, g2⟩ := h4 i _ y (List.getElem?_eq_getElem (by omega)) hi
    obtain ⟨g3, g4⟩ := hx i _ (List.getElem?_eq_getElem (by omega))
    exact ⟨g3.trans g1, den_le hW g2 g4⟩
  | obj s pos =>
    have hl : (C' k').live = true := by rw [hc]; rfl
    rw [hc] at h
    obtain ⟨k, h1, h2⟩ := h
    have hk := hall k
    rw [h2] at hk
    obtain ⟨b, hid, hw⟩ := hk
    exact ⟨b, by rw [hW.idsEq k' k h1 hl]; exact hid, hw⟩

def idsOf (σ : Nat → Option Nat) (ids : Ids) : Ids := fun k => (σ k).bind ids

theorem weaken {hp' : Hp} {nx' : Nat} {σ : Nat → Option Nat} {frz : Nat → Prop} (h : HeapC X hp ids w) (hS : Sub X.P (getH hp) (getH hp') σ frz) (hf : ∀ k, nx' ≤ k → getH hp' k = .unborn) (hm : ∀ k, k < X.m → (getH hp' k).live = true → σ k = some k) (hmn : X.m ≤ nx') :
    ∃ ids', HeapF X hp' nx' ids' w ∧ ∀ s s' x, LeS X.P (getH hp) (getH hp') σ frz s s' → DenX X hp ids w s x → DenX X hp' ids' w s' x := by
  have hold : ∀ k' b o, (getH hp' k').live = true → idsOf σ ids k' = some (b, o) → ∃ k, σ k' = some k ∧ (getH hp k).live = true ∧ ids k = some (b, o) := fun k' b o hl hi => by
    unfold idsOf at hi
    cases hs : σ k' with
    | none => rw [hs] at hi; cases hi
    | some k => rw [hs] at hi; exact ⟨k, rfl, ((hS.ch k').live hl hs).1, hi⟩
  have hW : SubW X.P (getH hp) (getH hp') σ frz ids (idsOf σ ids) (Im X.w0 X.I0 X.W0 (getH hp) ids w) (Im X.w0 X.I0 X.W0 (getH hp') (idsOf σ ids) w) w := by
    refine ⟨hS, fun b hb => ⟨hb.1, hb.2.1, fun k' hl o hi => ?_⟩, fun k' k hs hl => by simp [idsOf, hs], fun k hk hl b o hi => ⟨?_, (h.st.lt k b o hl hi).1, fun k' hl' o' hi' => ?_⟩, fun k e cs hk => by have := h.st.ch k; rwa [hk] at this⟩
    · obtain ⟨k, _, h2, h3⟩ := hold k' b o hl hi
      exact hb.2.2 k h2 o h3
    · rcases (h.st.lt k b o hl hi).2 with h1 | h1
      · exact .inr (.inl h1)
      · exact .inr (.inr h1)
    · obtain ⟨k2, h1, h2, h3⟩ := hold k' b o' hl' hi'
      have := h.st.inj k k2 b o o' hl h2 hi h3
      subst this
      exact hS.frz k hk k' hl' h1
  refine ⟨idsOf σ ids, ⟨⟨⟨fun k' => denC_le hW h.st.ch k' (fun hn => by simp [idsOf, hn]), fun k1 k2 b o1 o2 hl1 hl2 hi1 hi2 => ?_, fun k' b o hl hi => ?_, h.st.im0, h.st.evol, h.st.os, h.st.tape, h.st.output, h.st.size⟩, fun k hk hl => ?_⟩, hf, hmn⟩, fun s s' x hle hd => den_le hW hle hd⟩
  · obtain ⟨q1, a1, a2, a3⟩ := hold k1 b o1 hl1 hi1
    obtain ⟨q2, b1, b2, b3⟩ := hold k2 b o2 hl2 hi2
    have := h.st.inj q1 q2 b o1 o2 a2 b2 a3 b3
    subst this
    exact hS.inj k1 k2 q1 hl1 hl2 a1 b1
  · obtain ⟨q, _, a2, a3⟩ := hold k' b o hl hi
    exact h.st.lt q b o a2 a3
  · have hs := hm k hk hl
    have hlk := ((hS.ch k).live hl hs).1
    have hkp := h.kept k hk hlk
    have hidk : idsOf σ ids k = ids k := by simp [idsOf, hs]
    exact ⟨hidk.trans hkp.id, hkp.kind.trans ((hS.ch k).kind hl hs), fun b o hi => hkp.shape b o (hidk ▸ hi)⟩

end Go.Sx
