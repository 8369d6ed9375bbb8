/-
 Lemmas, put together: HU, IG.
 No conditions.
-/
import Derived.Test.YtdckaaiidagodaaDoorcodeA3
set_option linter.unusedSimpArgs false
set_option linter.unusedVariables false
section
namespace Go.Sx
open Go.RowKit
set_option linter.unusedVariables false
set_option linter.unusedSimpArgs false
variable {α β : Type} [Enc α] {P : Program} {hp hp' : Hp} {nx : Nat} {σ : List (Nm × Nm)} {frz : List Nm}
def flP (F n : Nat) : List SV := (List.range n).map fun (i : Nat) => SV.ptr (.s F ((i : Nat) : Int)) 0
def famP (t : TypeId) (xs : List α) : Int → Chunk := fun i => bif decide (0 ≤ i ∧ i < ((xs.length : Nat) : Int)) then .row t (Enc.cells (ix xs i)) else .void
theorem famP_in {t : TypeId} {xs : List α} {i : Int} (k : 0 ≤ i ∧ i < ((xs.length : Nat) : Int)) : famP t xs i = .row t (Enc.cells (ix xs i)) := by
 unfold famP; rw [decide_eq_true k]; rfl
theorem famP_out {t : TypeId} {xs : List α} {i : Int} (k : ¬ (0 ≤ i ∧ i < ((xs.length : Nat) : Int))) : famP t xs i = .void := by
 unfold famP; rw [decide_eq_false k]; rfl
theorem at_famP (t : TypeId) (xs : List α) (i : Int) : (Chunk.fam (famP t xs)).at i = famP t xs i := by
 simp only [Chunk.at]
 by_cases k : 0 ≤ i ∧ i < ((xs.length : Nat) : Int)
 ·rw [famP_in k]
 ·rw [famP_out k]
theorem famP_mem {t : TypeId} {xs : List α} {i : Int} (k : 0 ≤ i ∧ i < ((xs.length : Nat) : Int)) : (Chunk.fam (famP t xs)).at i = .row t (Enc.cells (ix xs i)) := (at_famP t xs i).trans (famP_in k)
structure Birth (C C' : Nm → Chunk) (Q K R : Nm) : Prop where
 vd : C Q = .void
 kl : (C K).live = true
 q : C' Q = C K
 k : C' K = .dead
 oth : ∀ j, j ≠ Q → j ≠ K → j ≠ R → C' j = C j
 kr : K ≠ R
 row : (∃ e cs cs', C R = .row e cs ∧ C' R = .row e cs' ∧ cs'.length = cs.length ∧ ∀ (i : Nat) (x y : SV), cs[i]? = some x → cs'[i]? = some y → x = y ∨ (x = .ptr K 0 ∧ y = .ptr Q 0)) ∨
  ∃ es es', C R = .map es ∧ C' R = .map es' ∧ es'.length = es.length ∧ ∀ (i : Nat) (x y : Value × SV), es[i]? = some x → es'[i]? = some y → x.1 = y.1 ∧ (x.2 = y.2 ∨ (x.2 = .ptr K 0 ∧ y.2 = .ptr Q 0))
section sem
variable {w0 : World} {I0 W0 : Nat → Prop} {C C' : Nm → Chunk} {Q K R : Nm} {ids : Ids} {w : World}
theorem Birth.liveR (hh : Birth C C' Q K R) : (C R).live = true ∧ (C' R).live = true := by
 rcases hh.row with ⟨e, cs, cs', h1, h2, _⟩ | ⟨es, es', h1, h2, _⟩ <;> (rw [h1, h2]; exact ⟨rfl, rfl⟩)
theorem Birth.old (hh : Birth C C' Q K R) {j : Nm} {b o : Nat} (hl : (C' j).live = true) (hi : upd ids Q (ids K) j = some (b, o)) :
  ∃ k0, (C k0).live = true ∧ ids k0 = some (b, o) ∧ ((j ≠ Q ∧ k0 = j ∧ j ≠ K) ∨ (j = Q ∧ k0 = K)) := by
 by_cases hQ : j = Q
 ·subst hQ; rw [upd_same] at hi; exact ⟨K, hh.kl, hi, .inr ⟨rfl, rfl⟩⟩
 ·rw [upd_ne _ _ hQ] at hi
  by_cases hK : j = K
  ·subst hK; rw [hh.k] at hl; cases hl
  by_cases hR : j = R
  ·subst hR; exact ⟨j, hh.liveR.1, hi, .inl ⟨hQ, rfl, hK⟩⟩
  ·rw [hh.oth j hQ hK hR] at hl; exact ⟨j, hl, hi, .inl ⟨hQ, rfl, hK⟩⟩
theorem Birth.ext (h : HSt P w0 I0 W0 C ids w) (hh : Birth C C' Q K R) : Ext C ids (Im w0 I0 W0 C ids w) w C' (upd ids Q (ids K)) (Im w0 I0 W0 C' (upd ids Q (ids K)) w) w := by
 refine ⟨fun b hb => ⟨⟨hb.1, hb.2.1, fun k hk o hi => ?_⟩, rfl⟩, fun j hj => ?_, fun j hj => ?_⟩
 ·obtain ⟨k0, h1, h2, _⟩ := hh.old hk hi
  exact hb.2.2 k0 h1 o h2
 ·have hQ : j ≠ Q := fun e => by rw [e, hh.vd] at hj; cases hj
  have hK : j ≠ K := fun e => by have := hh.kl; rw [← e, hj] at this; cases this
  have hR : j ≠ R := fun e => by have := hh.liveR.1; rw [← e, hj] at this; cases this
  rw [hh.oth j hQ hK hR]; exact hj
 ·have hQ : j ≠ Q := fun e => by rw [e, hh.vd] at hj; cases hj
  by_cases hK : j = K
  ·subst hK; exact .inl hh.k
  by_cases hR : j = R
  ·subst hR
   rcases hh.row with ⟨e, cs, cs', h1, h2, h3, _⟩ | ⟨es, es', h1, h2, _⟩
   ·exact .inr ⟨hh.liveR.2, upd_ne _ _ hQ, by rw [h1, h2]; exact ⟨rfl, Nat.le_of_eq h3⟩, fun _ _ _ => SameShape.refl _⟩
   ·exact .inr ⟨hh.liveR.2, upd_ne _ _ hQ, by rw [h1, h2]; exact trivial, fun _ _ _ => SameShape.refl _⟩
  ·have h1 := hh.oth j hQ hK hR
   exact .inr ⟨by rw [h1]; exact hj, upd_ne _ _ hQ, by rw [h1]; exact SameKind.refl hj, fun _ _ _ => SameShape.refl _⟩
theorem Birth.den {off : Nat} (h : HSt P w0 I0 W0 C ids w) (hh : Birth C C' Q K R) {x y : SV} {v : Value} (hr : x = y ∨ (x = .ptr K off ∧ y = .ptr Q off)) (hd : Den P C ids (Im w0 I0 W0 C ids w) w x v) : Den P C' (upd ids Q (ids K)) (Im w0 I0 W0 C' (upd ids Q (ids K)) w) w y v := by
 rcases hr with rfl | ⟨rfl, rfl⟩
 ·exact hd.mono (hh.ext h)
 ·obtain ⟨b, o, g1, rfl⟩ := den_ptr hd hh.kl
  exact .ptr b o (by rw [hh.q]; exact hh.kl) (by rw [upd_same]; exact g1)
theorem Birth.st (h : HSt P w0 I0 W0 C ids w) (hh : Birth C C' Q K R) : HSt P w0 I0 W0 C' (upd ids Q (ids K)) w := by
 have hE := hh.ext h
 refine ⟨fun j => ?_, fun k k' b o o' hk hk' hi hi' => ?_, fun k b o hk hi => ?_, h.im0, h.evol, h.os, h.tape, h.output, h.size⟩
 ·by_cases hQ : j = Q
  ·subst hQ; rw [hh.q]; exact DenC.rename hE (h.ch K) (upd_same _ _ _)
  by_cases hK : j = K
  ·subst hK; rw [hh.k]; trivial
  by_cases hR : j = R
  ·subst hR
   have hc := h.ch j
   rcases hh.row with ⟨e, cs, cs', h1, h2, h3, h4⟩ | ⟨es, es', h1, h2, h3, h4⟩
   ·rw [h1] at hc
    rw [h2]
    simp only [DenC, upd_ne _ _ hQ] at hc ⊢
    cases hid : ids j with
    | none =>
     rw [hid] at hc
     simp only at hc
     subst hc
     exact List.eq_nil_of_length_eq_zero h3
    | some p =>
     obtain ⟨b, o⟩ := p
     rw [hid] at hc
     obtain ⟨arr, ha, hl, hxx⟩ := hc
     refine ⟨arr, ha, by omega, fun i y hi => ?_⟩
     have hlt := (List.getElem?_eq_some_iff.1 hi).1
     have hi2 := List.getElem?_eq_getElem (show i < cs.length by omega)
     exact hh.den h (h4 i _ y hi2 hi) (hxx i _ hi2)
   ·rw [h1] at hc
    rw [h2]
    simp only [DenC, upd_ne _ _ hQ] at hc ⊢
    obtain ⟨b, arr, clock, g1, g2, g3, g4, hbo⟩ := hc
    refine ⟨b, arr, clock, g1, g2, by omega, fun i y hi => ?_, hbo⟩
    have hlt := (List.getElem?_eq_some_iff.1 hi).1
    have hi2 := List.getElem?_eq_getElem (show i < es.length by omega)
    obtain ⟨a1, a2⟩ := h4 i _ y hi2 hi
    obtain ⟨b1, b2⟩ := g4 i _ hi2
    exact ⟨b1.trans a1, hh.den h a2 b2⟩
  ·rw [hh.oth j hQ hK hR]; exact DenC.rename hE (h.ch j) (upd_ne _ _ hQ)
 ·obtain ⟨k0, a1, a2, a3⟩ := hh.old hk hi
  obtain ⟨k0', b1, b2, b3⟩ := hh.old hk' hi'
  have := h.inj k0 k0' b o o' a1 b1 a2 b2
  subst this
  rcases a3 with ⟨_, a3, a4⟩ | ⟨a3, a4⟩ <;> rcases b3 with ⟨_, b3, b4⟩ | ⟨b3, b4⟩
  ·rw [← a3, ← b3]
  ·rw [← a3] at a4; exact absurd b4 a4
  ·rw [← b3] at b4; exact absurd a4 b4
  ·rw [a3, b3]
 ·obtain ⟨k0, a1, a2, _⟩ := hh.old hk hi
  exact h.lt k0 b o a1 a2
end sem
theorem famP_live {t : TypeId} {xs : List α} {i : Int} (k : 0 ≤ i ∧ i < ((xs.length : Nat) : Int)) : ((Chunk.fam (famP t xs)).at i).live = true := by rw [famP_mem k]; rfl
def lenP (c : Chunk) (m : Nat) : Prop := ∀ i : Nat, i < m → (c.at ((i : Nat) : Int)).live = true
theorem lenP_famP (t : TypeId) (xs : List α) (m : Nat) : lenP (.fam (famP t xs)) m = (m ≤ xs.length) := by
 refine propext ⟨fun h => ?_, fun h i hi => famP_live (by omega)⟩
 by_cases hm : m ≤ xs.length
 ·exact hm
 ·have := h xs.length (by omega)
  rw [at_famP, famP_out (by omega)] at this
  cases this
theorem lenP_same (t : TypeId) (xs : List α) : lenP (.fam (famP t xs)) xs.length = True := eq_true (by rw [lenP_famP]; exact Nat.le_refl _)
theorem lenP_one (t : TypeId) (x : α) : lenP (.fam (famP t [x])) 1 = True := eq_true (by rw [lenP_famP]; exact Nat.le_refl _)
theorem lenP_app (t : TypeId) (xs : List α) (x : α) : lenP (.fam (famP t (xs ++ [x]))) (xs.length + 1) = True := eq_true (by rw [lenP_famP]; simp)
theorem lenP_set (t : TypeId) (xs : List α) (i : Nat) (x : α) : lenP (.fam (famP t (xs.set i x))) xs.length = True := eq_true (by rw [lenP_famP]; simp)
theorem leC1_famP {t : TypeId} {xs : List α} {F' : Nat} {i : Int} (h : famLe hp σ F' (famP t xs)) : leC1 hp hp' σ frz (.s F' i) (famP t xs i) = True := by
 refine eq_true ?_
 unfold famLe at h
 cases hn : getN σ (.s F' 0) with
 | none => rw [hn] at h; exact h.elim
 | some k =>
  rw [hn] at h
  simp only at h
  have hs : getN σ (.s F' i) = some (.s k.base i) := by rw [getN_sig σ F' i, hn]; rfl
  have hg := getE_fam h i
  rw [at_famP] at hg
  by_cases kk : 0 ≤ i ∧ i < ((xs.length : Nat) : Int)
  ·rw [famP_in kk] at hg ⊢
   simp only [leC1, hs, hg]
   exact ⟨trivial, .inl ⟨Enc.stc _, trivial⟩⟩
  ·rw [famP_out kk] at hg ⊢
   simp only [leC1, hs, hg]
theorem ren_famP (τ : Nm → Nm) (t : TypeId) (xs : List α) (i : Int) : renC τ (famP t xs i) = famP t xs i := by
 by_cases kk : 0 ≤ i ∧ i < ((xs.length : Nat) : Int)
 ·rw [famP_in kk]; simp only [renC]; rw [renL_cl (stL_clL (Enc.stc _))]
 ·rw [famP_out kk]; rfl
theorem renL_flP (F n : Nat) : renL (bck (getN σ) nx) (flP F n) = flP (bck (getN σ) nx (.s F 0)).base n := by
 unfold flP
 rw [renL_map, List.map_map]
 refine List.map_congr_left fun i _ => ?_
 simp only [Function.comp, renS]
 rw [bck_s (getN_sig σ)]
theorem famG_P (t : TypeId) (xs : List α) (G : Nat) (z : Int) (r : Hp) (F : Nat) : famG ((.s G z, .fam (famP t xs)) :: r) F = bif G == F then famP t xs else famG r F := by
 funext q
 simp only [famG, getH, Nm.eqk]
 cases G == F with
 | true => simp only [cond_true, Chunk.mem]; exact at_famP t xs q
 | false => rfl
theorem leC_famP {t : TypeId} {xs : List α} {F' : Nat} {z : Int} (h : famLe hp σ F' (famP t xs)) : leC hp hp' σ frz (.s F' z) (.fam (famP t xs)) = True := by
 refine eq_true fun i => ?_
 rw [at_famP]
 exact of_eq_true (leC1_famP h)
theorem famLe_P (F' : Nat) (t : TypeId) (xs : List α) : famLe hp σ F' (famP t xs) = match getN σ (.s F' 0) with
 | some k => getE hp (.s k.base 0) = .fam (famP t xs)
 | none => False := propext Iff.rfl
theorem leH_cons (k : Nm) (c : Chunk) (r : Hp) : leH hp hp' σ frz ((k, c) :: r) = (leC hp hp' σ frz k c ∧ leH hp hp' σ frz r) := propext Iff.rfl
def noN (σ : List (Nm × Nm)) (F : Nat) : Prop := getN σ (.s F 0) = none
theorem noN_eq (σ : List (Nm × Nm)) (F : Nat) : noN σ F = (getN σ (.s F 0) = none) := propext Iff.rfl
theorem leC_famP0 {t : TypeId} {F' : Nat} {z : Int} (h : noN σ F') : leC hp hp' σ frz (.s F' z) (.fam (famP t ([] : List α))) = True := by
 refine eq_true fun i => ?_
 have h : getN σ (.s F' 0) = none := h
 rw [at_famP, famP_out (by simp <;> omega)]
 have : getN σ (.s F' i) = none := by rw [getN_sig σ F' i, h]; rfl
 simp only [leC1, this]
theorem flP_0 (F : Nat) : flP F 0 = [] := rfl
attribute [push_cast high] leC_famP leC_famP0 leH_cons
attribute [push_cast] noN_eq lenP_same lenP_one lenP_app lenP_set flP_0 ren_famP renL_flP famG_P at_famP famLe_P
end Go.Sx
end

section
namespace Go.Sx
open Go.RowKit
set_option linter.unusedVariables false
set_option linter.unusedSimpArgs false
variable {P : Program}
def ccHook (fcc T : Nat) : Hook := fun f args hin m => bif f == fcc then match args with
 | [.bp (.t 0) e 2] => match getH hin (.t 0) with
  | .row e' [c, d] => bif e == T && (e' == T && Nat.blt 0 m) then match c with
   | .v (.pointer none) => some (.tup [], updE (.t 0) (.row T [.bp (.t 0) T 2, d]) hin :: hin, m)
   | .bp (.t 0) e2 2 => bif e2 == T then some (.tup [], hin, m) else none
   | _ => none
   else none
  | _ => none
 | _ => none
 else none
theorem setCell_row (w : World) (b i : Nat) (cs : Array Value) (t : TypeId) (fr : Nat × Nat) (hb : w.heap[b]? = some (.cells cs t fr)) (v : Value) : w.setCell ⟨b, i, none⟩ v = w.setRow b (cs.setIfInBounds i v) := by
 unfold World.setCell World.setRow
 congr 1
 apply Array.ext_getElem?
 intro j
 simp only [Array.getElem?_modify]
 by_cases hj : b = j
 ·subst hj; simp [hb]
 ·simp [hj]
theorem copyCheck_ok {fcc T : Nat} (hent : ∃ fn body, P.funcs[fcc]? = some fn ∧ fn.body = some body ∧ fn.name ≠ "runtime.NumGoroutine")
  (hf : ∀ (b : Nat) (w : World), w.cell? ⟨b, 0, none⟩ = some (.pointer none) → w.shape? b = some (T, 2) → w.frozen? ⟨b, 0, none⟩ = false →
   Calls P fcc #[.pointer (some ⟨b, 0, none⟩)] w fun e w' => e = .returned (.tuple #[]) ∧ w' = w.setCell ⟨b, 0, none⟩ (.pointer (some ⟨b, 0, none⟩)))
  (hu : ∀ (b : Nat) (w : World), w.cell? ⟨b, 0, none⟩ = some (.pointer (some ⟨b, 0, none⟩)) →
   Calls P fcc #[.pointer (some ⟨b, 0, none⟩)] w fun e w' => e = .returned (.tuple #[]) ∧ w' = w) : CallOk P (ccHook fcc T) := by
 intro f args hin m x h n he
 unfold ccHook at he
 rw [Bool.cond_eq_ite] at he
 split at he
 ·rename_i hfe
  have hfe : f = fcc := by simpa using hfe
  subst hfe
  split at he
  ·rename_i e
   split at he
   ·rename_i e' c d hk
    rw [Bool.cond_eq_ite] at he
    split at he
    ·rename_i hb
     simp only [Bool.and_eq_true, beq_iff_eq, Nat.blt_eq] at hb
     obtain ⟨rfl, rfl, hm⟩ := hb
     have hlk : (getH hin (.t 0)).live = true := by rw [hk]; rfl
     have base : ∀ (X : Cx) (vals : Array Value), HeapF X hin m X.ids0 X.w0 → vals.size = 1 → DenX X hin X.ids0 X.w0 (.bp (.t 0) e' 2) (vals.getD 0 undef) →
       ∃ (b : Nat) (arr : Array Value), X.ids0 (.t 0) = some (b, 0) ∧ vals = #[.pointer (some ⟨b, 0, none⟩)] ∧ X.w0.heap[b]? = some (.cells arr e' (0, 0)) ∧ arr.size = 2 ∧ DenX X hin X.ids0 X.w0 c (arr.getD 0 undef) ∧ DenX X hin X.ids0 X.w0 d (arr.getD 1 undef) ∧ X.w0.cell? ⟨b, 0, none⟩ = some (arr.getD 0 undef) := by
      intro X vals hH hs hd
      obtain ⟨b, arr, hid, hv, hw, hn⟩ := den_bp hd hlk
      have hch := hH.st.ch (.t 0)
      rw [hk] at hch
      simp only [DenC, hid] at hch
      obtain ⟨arr', hw', hsz, hcs⟩ := hch
      rw [hw] at hw'; cases hw'
      have h0 := hcs 0 c rfl
      have h1 := hcs 1 d rfl
      refine ⟨b, arr, hid, ?_, hw, hn, by simpa using h0, by simpa using h1, ?_⟩
      ·apply Array.ext_getElem?
       intro i
       by_cases hi : i = 0
       ·subst hi
        rw [Array.getD_eq_getD_getElem?] at hv
        rw [Array.getElem?_eq_getElem (by omega)] at hv ⊢
        simp only [Option.getD_some] at hv
        rw [hv]; rfl
       ·rw [Array.getElem?_eq_none (by omega), Array.getElem?_eq_none (by simp; omega)]
      ·simp [World.cell?, hw, hn]
     split at he
     ·cases he
      refine ⟨hent, fun X vals hP hXm hH hs hd => ?_⟩
      subst hP
      obtain ⟨b, arr, hid, rfl, hw, hn, h0, h1, hc⟩ := base X vals hH hs (hd 0 _ rfl)
      rw [den_v h0] at hc
      refine (hf b X.w0 hc (by simp [World.shape?, hw, hn]) (by simp [World.frozen?, hw])).mono fun ex w' hx => ?_
      obtain ⟨rfl, rfl⟩ := hx
      rw [setCell_row _ _ _ _ _ _ hw]
      obtain ⟨g1, g2⟩ := heap_turn (X := X) hH.toX hk hid (cs' := [.bp (.t 0) e' 2, d]) (arr' := arr.setIfInBounds 0 (.pointer (some ⟨b, 0, none⟩))) hw (by simp) (by simp [hn]) (by simp) (fun i z hz => by
       match i, hz with
       | 0, hz =>
        cases hz
        have : ((arr.setIfInBounds 0 (Value.pointer (some ⟨b, 0, none⟩))).getD (0 + 0) undef) = .pointer (some ⟨b, 0, none⟩) := by
         rw [Array.getD_eq_getD_getElem?]; simp [hn]
        rw [this]
        exact .bp b arr hlk hid hw hn
       | 1, hz =>
        cases hz
        have : ((arr.setIfInBounds 0 (Value.pointer (some ⟨b, 0, none⟩))).getD (0 + 1) undef) = arr.getD 1 undef := by
         rw [Array.getD_eq_getD_getElem?, Array.getD_eq_getD_getElem?]; simp
        rw [this]; exact h1
       | i + 2, hz => simp at hz)
      refine ⟨_, .tup [], _, m, X.ids0, rfl, ⟨rfl, rfl, rfl⟩, ⟨g1, fun k hkb => ?_, hH.m_le⟩, .tup #[] rfl fun i z hz => by simp at hz⟩
      have hne : k ≠ .t 0 := fun e0 => by subst e0; simp at hkb; omega
      rw [getH_put (by rw [hk]; simp) (by simp), upd_ne _ _ hne]
      exact hH.fresh k hkb
     ·rename_i e2
      rw [Bool.cond_eq_ite] at he
      split at he
      ·rename_i h2
       have h2 : e2 = e' := by simpa using h2
       subst h2
       cases he
       refine ⟨hent, fun X vals hP hXm hH hs hd => ?_⟩
       subst hP
       obtain ⟨b, arr, hid, rfl, hw, hn, h0, h1, hc⟩ := base X vals hH hs (hd 0 _ rfl)
       obtain ⟨b', arr', hid', hv', hw', hn'⟩ := den_bp h0 hlk
       rw [hid] at hid'; cases hid'
       rw [hv'] at hc
       refine (hu b X.w0 hc).mono fun ex w' hx => ?_
       obtain ⟨rfl, rfl⟩ := hx
       exact ⟨_, .tup [], _, m, X.ids0, rfl, ⟨rfl, rfl, rfl⟩, hH, .tup #[] rfl fun i z hz => by simp at hz⟩
      ·cases he
     ·cases he
    ·cases he
   ·cases he
  ·cases he
 ·cases he
end Go.Sx
end
