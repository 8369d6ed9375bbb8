/-
  Sx, part H: append, and the ghost steps of the heap.
-/
import Derived.Test.YtnnpjaoddniifaaSxG
import Derived.Deep.AppendSrc
import Derived.Deep.Upon
set_option linter.unusedSimpArgs false
set_option linter.unusedVariables false
namespace Go.Sx
set_option linter.unusedVariables false
open Go.RowKit
variable {X : Cx} {hp : Hp} {nx : Nat} {ids : Ids} {w : World}

theorem setCells_eq_setRow (w : World) (b o : Nat) (e : TypeId) (vs : List Value) (arr : Array Value) (hw : w.heap[b]? = some (.cells arr e (0, 0))) (hl : o + vs.length ≤ arr.size) (h1 : ∀ v ∈ vs, v.oneCell' = true) :
    w.setCells b o vs = w.setRow b (arr.toList.take o ++ vs ++ arr.toList.drop (o + vs.length)).toArray := by
  have hc : ∀ j, j < vs.length → w.cell? ⟨b, o + j, none⟩ = some (arr.getD (o + j) undef) := fun j hj => by
    simp only [World.cell?, hw]
    simp [Array.getD_eq_getD_getElem?, Array.getElem?_eq_getElem (show o + j < arr.size by omega)]
  have h2 := run_storeCells_cells (P := default) b o vs 0 w (fun j hj => by rw [Nat.add_zero, hc j hj]; rfl) (fun j hj => by simp [World.frozen?, hw]) h1
  have h3 := run_storeCells_at (P := default) b o e vs 0 arr w hw (by omega) h1
  simp only [Nat.add_zero] at h2 h3
  rw [h2] at h3
  injection h3

/-- A chunk goes under another name, seen from a place of it on, so far as it matters. -/
theorem heap_renameG (h : HeapX X hp nx ids w) {k : Nat} {e : TypeId} {cs cs' : List SV} {off : Nat} (hk : getH hp k = .row e cs) (hx0 : ids k = none → cs' = [])
    (hx : ∀ b o arr, ids k = some (b, o) → w.heap[b]? = some (.cells arr e (0, 0)) → o + off + cs'.length ≤ arr.size ∧ ∀ i x, cs'[i]? = some x → DenX X hp ids w x (arr.getD (o + off + i) undef)) :
    HeapC X ([(nx, .row e cs'), (k, .dead)] ++ hp) (upd ids nx ((ids k).map fun p => (p.1, p.2 + off))) w ∧ ExtX X hp ids w ([(nx, .row e cs'), (k, .dead)] ++ hp) (upd ids nx ((ids k).map fun p => (p.1, p.2 + off))) w := by
  have hlk : (getH hp k).live = true := by rw [hk]; rfl
  have hub : getH hp nx = .unborn := h.fresh
  have hkn : k ≠ nx := fun e' => by subst e'; rw [hub] at hlk; cases hlk
  have hC : getH ([(nx, .row e cs'), (k, .dead)] ++ hp) = upd (upd (getH hp) k .dead) nx (.row e cs') := by
    show getH ((nx, Chunk.row e cs') :: (k, .dead) :: hp) = _
    rw [getH_upd, getH_upd]
  have hCo : ∀ j, j ≠ nx → j ≠ k → getH ([(nx, .row e cs'), (k, .dead)] ++ hp) j = getH hp j := fun j h1 h2 => by rw [hC, upd_ne _ _ h1, upd_ne _ _ h2]
  have hCk : getH ([(nx, .row e cs'), (k, .dead)] ++ hp) k = .dead := by rw [hC, upd_ne _ _ hkn, upd_same]
  have hCn : getH ([(nx, .row e cs'), (k, .dead)] ++ hp) nx = .row e cs' := by rw [hC, upd_same]
  have hidn : upd ids nx ((ids k).map fun p => (p.1, p.2 + off)) nx = (ids k).map fun p => (p.1, p.2 + off) := upd_same _ _ _
  have hido : ∀ j, j ≠ nx → upd ids nx ((ids k).map fun p => (p.1, p.2 + off)) j = ids j := fun j h1 => upd_ne _ _ h1
  generalize hC' : getH ([(nx, .row e cs'), (k, .dead)] ++ hp) = C' at hCo hCk hCn
  generalize hI' : upd ids nx ((ids k).map fun p => (p.1, p.2 + off)) = ids' at hidn hido
  have hnl : ∀ j, (getH hp j).live = true → j ≠ nx := fun j hj e' => by subst e'; rw [hub] at hj; cases hj
  -- a live chunk of the new heap, with its block, is one of the old heap's with the same block
  have hold : ∀ j b o, (C' j).live = true → ids' j = some (b, o) → ∃ j' o', (getH hp j').live = true ∧ ids j' = some (b, o') ∧ (j = nx → j' = k) ∧ (j ≠ nx → j' = j) := by
    intro j b o hj hi
    by_cases h1 : j = nx
    · subst h1
      rw [hidn] at hi
      cases hik : ids k with
      | none => rw [hik] at hi; cases hi
      | some p =>
        rw [hik] at hi
        simp only [Option.map_some, Option.some.injEq, Prod.mk.injEq] at hi
        exact ⟨k, p.2, hlk, by rw [hik, ← hi.1], fun _ => rfl, fun h => absurd rfl h⟩
    · by_cases h2 : j = k
      · subst h2; rw [hCk] at hj; cases hj
      · rw [hCo j h1 h2] at hj; rw [hido j h1] at hi
        exact ⟨j, o, hj, hi, fun h => absurd h h1, fun _ => rfl⟩
  have hE : Ext (getH hp) ids (Im X.w0 X.I0 X.W0 (getH hp) ids w) w C' ids' (Im X.w0 X.I0 X.W0 C' ids' w) w := by
    refine ⟨fun d hd => ⟨⟨hd.1, hd.2.1, fun j hj o hi => ?_⟩, rfl⟩, fun j hj => ?_, fun j hj => ?_⟩
    · obtain ⟨j', o', h1, h2, _⟩ := hold j d o hj hi
      exact hd.2.2 j' h1 o' h2
    · have h1 : j ≠ nx := fun e' => by subst e'; rw [hub] at hj; cases hj
      by_cases h2 : j = k
      · subst h2; exact hCk
      · rw [hCo j h1 h2]; exact hj
    · by_cases h2 : j = k
      · subst h2; exact .inl hCk
      · have h1 := hnl j hj
        refine .inr ⟨by rw [hCo j h1 h2]; exact hj, hido j h1, by rw [hCo j h1 h2]; exact SameKind.refl hj, fun _ _ _ => SameShape.refl _⟩
  refine ⟨⟨⟨fun j => ?_, fun j j' b o1 o2 hj hj' hi hi' => ?_, fun j b o hj hi => ?_, h.st.im0, h.st.evol, h.st.os, h.st.tape, h.st.output, h.st.size⟩, fun j hj hjl => ?_⟩, ?_⟩
  · rw [hC']
    by_cases h1 : j = nx
    · subst h1
      rw [hCn]
      simp only [DenC, hidn]
      have hc := h.st.ch k
      rw [hk] at hc
      simp only [DenC] at hc
      cases hik : ids k with
      | none =>
        exact hx0 hik
      | some p =>
        obtain ⟨b, o⟩ := p
        rw [hik] at hc
        obtain ⟨arr, ha, hs, hxx⟩ := hc
        simp only [Option.map_some]
        obtain ⟨q1, q2⟩ := hx b o arr hik ha
        exact ⟨arr, ha, q1, fun i x hi => (q2 i x hi).mono hE⟩
    · by_cases h2 : j = k
      · subst h2; rw [hCk]; trivial
      · rw [hCo j h1 h2]
        exact (h.st.ch j).mono hE (hido j h1) (fun _ _ _ => rfl)
  · rw [hC'] at hj hj'
    obtain ⟨q, p, h1, h2, h3, h4⟩ := hold j b o1 hj hi
    obtain ⟨q', p', h1', h2', h3', h4'⟩ := hold j' b o2 hj' hi'
    have hqq := h.st.inj q q' b p p' h1 h1' h2 h2'
    by_cases e1 : j = nx <;> by_cases e2 : j' = nx
    · rw [e1, e2]
    · have := h4' e2; have := h3 e1; subst_vars
      rw [hCk] at hj'; cases hj'
    · have := h4 e1; have := h3' e2; subst_vars
      rw [hCk] at hj; cases hj
    · have := h4 e1; have := h4' e2; subst_vars; rfl
  · rw [hC'] at hj
    obtain ⟨q, p, h1, h2, _⟩ := hold j b o hj hi
    exact h.st.lt q b p h1 h2
  · rw [hC'] at hjl ⊢
    have h1 : j ≠ nx := by have := h.m_le; omega
    have h2 : j ≠ k := fun e' => by subst e'; rw [hCk] at hjl; cases hjl
    have hlo : (getH hp j).live = true := by rwa [hCo j h1 h2] at hjl
    exact (h.kept j hj hlo).step hE hlo hjl
  · simp only [ExtX, hC']; exact hE


theorem heap_rename (h : HeapX X hp nx ids w) {k : Nat} {e : TypeId} {cs cs' : List SV} {off : Nat} (hk : getH hp k = .row e cs) (hl : off + cs'.length ≤ cs.length) (hx : ∀ i x, cs'[i]? = some x → cs[off + i]? = some x) :
    HeapC X ([(nx, .row e cs'), (k, .dead)] ++ hp) (upd ids nx ((ids k).map fun p => (p.1, p.2 + off))) w ∧ ExtX X hp ids w ([(nx, .row e cs'), (k, .dead)] ++ hp) (upd ids nx ((ids k).map fun p => (p.1, p.2 + off))) w := by
  have hc := h.st.ch k
  rw [hk] at hc
  simp only [DenC] at hc
  refine heap_renameG h hk (fun hik => ?_) fun b o arr hik ha => ?_
  · rw [hik] at hc
    simp only at hc
    subst hc
    simp at hl; exact hl.2
  · rw [hik] at hc
    obtain ⟨arr', ha', hs, hxx⟩ := hc
    rw [ha] at ha'; cases ha'
    exact ⟨by omega, fun i x hi => by
      have := hxx _ _ (hx i x hi)
      rwa [← Nat.add_assoc] at this⟩

/-- A chunk is done with. -/
theorem heap_kill (h : HeapC X hp ids w) (k : Nat) : HeapC X ([(k, .dead)] ++ hp) ids w ∧ ExtX X hp ids w ([(k, .dead)] ++ hp) ids w := by
  have hC : getH ([(k, .dead)] ++ hp) = upd (getH hp) k .dead := getH_upd k _ hp
  have hE := h.st.kill_ext k
  refine ⟨⟨by rw [hC]; exact h.st.kill k, fun j hj hjl => ?_⟩, by simp only [ExtX, hC]; exact hE⟩
  · rw [hC] at hjl ⊢
    have hlo : (getH hp j).live = true := by
      by_cases hjk : j = k
      · subst hjk; rw [upd_same] at hjl; cases hjl
      · rwa [upd_ne _ _ hjk] at hjl
    exact (h.kept j hj hlo).step hE hlo hjl

theorem HeapC.drew (h : HeapC X hp ids w) : HeapC X hp ids w.drew ∧ ExtX X hp ids w hp ids w.drew :=
  ⟨⟨h.st.drew, fun k hk hl => (h.kept k hk hl).step h.st.drew_ext hl hl⟩, h.st.drew_ext⟩

theorem HeapF.lt_of_live (h : HeapF X hp nx ids w) {k : Nat} (hl : (getH hp k).live = true) : k < nx := by
  by_cases hk : k < nx
  · exact hk
  · have := h.fresh k (by omega); rw [this] at hl; cases hl

/-- A row that lies nowhere: that of a nil slice. -/
theorem heap_absent (h : HeapX X hp nx ids w) (e : TypeId) (hid : ids nx = none) : HeapC X ([(nx, .row e [])] ++ hp) ids w ∧ ExtX X hp ids w ([(nx, .row e [])] ++ hp) ids w := by
  have hub : getH hp nx = .unborn := h.fresh
  have hC : getH ([(nx, .row e [])] ++ hp) = upd (getH hp) nx (.row e []) := getH_upd nx _ hp
  have hnl : ∀ j, (getH hp j).live = true → j ≠ nx := fun j hj e' => by subst e'; rw [hub] at hj; cases hj
  have hlv : ∀ j b o, (upd (getH hp) nx (Chunk.row e []) j).live = true → ids j = some (b, o) → (getH hp j).live = true := fun j b o hj hi => by
    by_cases hjn : j = nx
    · subst hjn; rw [hid] at hi; cases hi
    · rwa [upd_ne _ _ hjn] at hj
  have hE : ExtX X hp ids w ([(nx, .row e [])] ++ hp) ids w := by
    simp only [ExtX, hC]
    refine ⟨fun d hd => ⟨⟨hd.1, hd.2.1, fun j hj o hi => hd.2.2 j (hlv j d o hj hi) o hi⟩, rfl⟩, fun j hj => ?_, fun j hj => ?_⟩
    · rw [upd_ne _ _ (fun e' => by subst e'; rw [hub] at hj; cases hj)]; exact hj
    · rw [upd_ne _ _ (hnl j hj)]; exact .inr ⟨hj, rfl, SameKind.refl hj, fun _ _ _ => SameShape.refl _⟩
  refine ⟨⟨⟨fun j => ?_, fun j j' b o1 o2 hj hj' hi hi' => ?_, fun j b o hj hi => ?_, h.st.im0, h.st.evol, h.st.os, h.st.tape, h.st.output, h.st.size⟩, fun j hj hjl => ?_⟩, hE⟩
  · by_cases hjn : j = nx
    · subst hjn
      rw [hC, upd_same]
      simp only [DenC, hid]
    · have := (h.st.ch j).mono hE rfl (fun _ _ _ => rfl)
      rw [show getH ([(nx, Chunk.row e [])] ++ hp) j = getH hp j from by rw [hC, upd_ne _ _ hjn]]
      exact this
  · rw [hC] at hj hj'
    exact h.st.inj j j' b o1 o2 (hlv j b o1 hj hi) (hlv j' b o2 hj' hi') hi hi'
  · rw [hC] at hj
    exact h.st.lt j b o (hlv j b o hj hi) hi
  · have hjn : j ≠ nx := by have := h.m_le; omega
    have hlo : (getH hp j).live = true := by rw [hC] at hjl; rwa [upd_ne _ _ hjn] at hjl
    exact (h.kept j hj hlo).step hE hlo hjl

/-- What the ids say of an unborn chunk matters to nobody. -/
theorem heap_reid (h : HeapX X hp nx ids w) (p : Option (Nat × Nat)) : HeapX X hp nx (upd ids nx p) w ∧ ExtX X hp ids w hp (upd ids nx p) w := by
  have hub : getH hp nx = .unborn := h.fresh
  have hnl : ∀ j, (getH hp j).live = true → j ≠ nx := fun j hj e' => by subst e'; rw [hub] at hj; cases hj
  have hid : ∀ j, (getH hp j).live = true → upd ids nx p j = ids j := fun j hj => upd_ne _ _ (hnl j hj)
  have hE : ExtX X hp ids w hp (upd ids nx p) w :=
    ⟨fun d hd => ⟨⟨hd.1, hd.2.1, fun j hj o hi => hd.2.2 j hj o (by rwa [hid j hj] at hi)⟩, rfl⟩, fun j hj => hj, fun j hj => .inr ⟨hj, hid j hj, SameKind.refl hj, fun _ _ _ => SameShape.refl _⟩⟩
  refine ⟨⟨⟨⟨fun j => ?_, fun j j' b o1 o2 hj hj' hi hi' => ?_, fun j b o hj hi => ?_, h.st.im0, h.st.evol, h.st.os, h.st.tape, h.st.output, h.st.size⟩, fun j hj hjl => ?_⟩, h.fresh, h.m_le⟩, hE⟩
  · by_cases hl : (getH hp j).live = true
    · exact (h.st.ch j).mono hE (hid j hl) (fun _ _ _ => rfl)
    · cases hc : getH hp j <;> simp_all [Chunk.live, DenC]
  · rw [hid j hj] at hi; rw [hid j' hj'] at hi'; exact h.st.inj j j' b o1 o2 hj hj' hi hi'
  · rw [hid j hj] at hi; exact h.st.lt j b o hj hi
  · exact (h.kept j hj hjl).step hE hjl hjl

end Go.Sx
