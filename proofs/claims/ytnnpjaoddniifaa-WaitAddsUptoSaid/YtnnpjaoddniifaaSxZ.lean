/-
  Sx, part Z: that less is known, by looking; and calls.
-/
import Derived.Test.YtnnpjaoddniifaaSxY
set_option linter.unusedSimpArgs false
set_option linter.unusedVariables false
namespace Go.Sx
open Go.RowKit
variable {P : Program}

def getN : List (Nat × Nat) → Nat → Option Nat
  | [], _ => none
  | p :: r, k => bif p.1 == k then some p.2 else getN r k
theorem getN_cons (a b : Nat) (r : List (Nat × Nat)) (k : Nat) : getN ((a, b) :: r) k = bif a == k then some b else getN r k := rfl
theorem getN_nil (k : Nat) : getN [] k = none := rfl

mutual
/-- Is told of in full, and names no chunk. -/
def SV.st : SV → Bool
  | .v _ => true
  | .agg xs => stL xs
  | .tup xs => stL xs
  | .sl _ xs => stL xs
  | .iptr xs _ => stL xs
  | .clo _ xs => stL xs
  | .any => false
  | .gd _ _ => false
  | .own _ _ _ => false
  | .ptr _ _ => false
  | .mp _ => false
  | .it _ => false
def stL : List SV → Bool
  | [] => true
  | x :: xs => x.st && stL xs
end
mutual
theorem st_cl : ∀ {s : SV}, s.st = true → s.cl = true
  | .v _, _ => rfl
  | .agg xs, h => stL_clL (xs := xs) h
  | .tup xs, h => stL_clL (xs := xs) h
  | .sl _ xs, h => stL_clL (xs := xs) h
  | .iptr xs _, h => stL_clL (xs := xs) h
  | .clo _ xs, h => stL_clL (xs := xs) h
theorem stL_clL : ∀ {xs : List SV}, stL xs = true → clL xs = true
  | [], _ => rfl
  | x :: xs, h => by
    simp only [stL, Bool.and_eq_true] at h
    simp only [clL, Bool.and_eq_true]
    exact ⟨st_cl h.1, stL_clL h.2⟩
end

mutual
def leS (hp hp' : Hp) (σ : List (Nat × Nat)) (frz : List Nat) : SV → SV → Prop
  | s, s' => match s' with
    | .any => True
    | .own k' o' n' => match s with
      | .own k o n => getN σ k' = some k ∧ o = o' ∧ n = n' ∧ (getH hp' k').live = true
      | .v x => x = .slice none 0 0 ∧ o' = 0 ∧ n' = 0 ∧ (getH hp' k').live = true ∧ getN σ k' = none
      | _ => False
    | .ptr k' o' => match s with
      | .ptr k o => getN σ k' = some k ∧ o = o' ∧ (getH hp' k').live = true
      | _ => False
    | .mp k' => match s with
      | .mp k => getN σ k' = some k ∧ (getH hp' k').live = true
      | _ => False
    | .it k' => match s with
      | .it k => getN σ k' = some k ∧ (getH hp' k').live = true
      | _ => False
    | .agg ys => match s with
      | .agg xs => (stL ys = true ∧ xs = ys) ∨ leL hp hp' σ frz xs ys
      | _ => False
    | .tup ys => match s with
      | .tup xs => leL hp hp' σ frz xs ys
      | _ => False
    | .clo f' ys => match s with
      | .clo f xs => f = f' ∧ leL hp hp' σ frz xs ys
      | _ => False
    | .sl n' cs' => match s with
      | .own k o n => n = n' ∧ k ∈ frz ∧ ∃ e cs q, getH hp k = .row e cs ∧ clL cs = true ∧ (n = 0 → q = 0) ∧ cs' = appCells cs o q
      | .v x => x = .slice none 0 0 ∧ n' = 0 ∧ cs' = []
      | .sl n cs => n = n' ∧ cs = cs' ∧ clL cs = true
      | _ => False
    | .iptr cs' o' => match s with
      | .ptr k o => o = o' ∧ k ∈ frz ∧ ∃ e, getH hp k = .row e cs' ∧ clL cs' = true
      | .iptr cs o => cs = cs' ∧ o = o' ∧ clL cs = true
      | _ => False
    | .v y => s = .v y
    | .gd g y => s = .gd g y ∧ y.cl = true
def leL (hp hp' : Hp) (σ : List (Nat × Nat)) (frz : List Nat) : List SV → List SV → Prop
  | xs, ys => match ys with
    | [] => xs = []
    | y :: ys => match xs with
      | x :: xs => leS hp hp' σ frz x y ∧ leL hp hp' σ frz xs ys
      | [] => False
end

theorem leL_get {hp hp' : Hp} {σ : List (Nat × Nat)} {frz : List Nat} : ∀ {ys xs : List SV}, leL hp hp' σ frz xs ys → xs.length = ys.length ∧ ∀ (i : Nat) (x y : SV), xs[i]? = some x → ys[i]? = some y → leS hp hp' σ frz x y
  | [], xs, h => by simp only [leL] at h; subst h; exact ⟨rfl, fun i x y hx => by simp at hx⟩
  | y :: ys, [], h => by simp [leL] at h
  | y :: ys, x :: xs, h => by
    simp only [leL] at h
    obtain ⟨h1, h2⟩ := leL_get h.2
    refine ⟨by simp [h1], fun i a b ha hb => ?_⟩
    cases i with
    | zero => simp at ha hb; subst ha; subst hb; exact h.1
    | succ i => exact h2 i a b (by simpa using ha) (by simpa using hb)

theorem leS_sound {hp hp' : Hp} {σ : List (Nat × Nat)} {frz : List Nat} : ∀ {s' s : SV}, leS hp hp' σ frz s s' → LeS P (getH hp) (getH hp') (getN σ) (· ∈ frz) s s' := by
  have lst : ∀ (n : Nat) {s' s : SV}, SizeOf.sizeOf s' < n → leS hp hp' σ frz s s' → LeS P (getH hp) (getH hp') (getN σ) (· ∈ frz) s s' := by
    intro n
    induction n with
    | zero => intro s' s h; omega
    | succ n ih =>
      intro s' s hsz h
      have sub : ∀ {ys xs : List SV}, SizeOf.sizeOf ys < n → leL hp hp' σ frz xs ys → xs.length = ys.length ∧ ∀ (i : Nat) (x y : SV), xs[i]? = some x → ys[i]? = some y → LeS P (getH hp) (getH hp') (getN σ) (· ∈ frz) x y := by
        intro ys xs hys hl
        obtain ⟨h1, h2⟩ := leL_get hl
        refine ⟨h1, fun i x y hx hy => ih ?_ (h2 i x y hx hy)⟩
        have := List.sizeOf_lt_of_mem (List.mem_of_getElem? hy)
        omega
      unfold leS at h
      cases s' with
      | any => exact .any
      | v y => simp only at h; subst h; exact .cl rfl
      | gd g y => simp only at h; obtain ⟨rfl, h2⟩ := h; exact .cl h2
      | own k' o' n' =>
        cases s <;> simp only at h <;> try exact h.elim
        · obtain ⟨rfl, rfl, rfl, h, hs⟩ := h; exact .absent h hs
        · obtain ⟨h1, rfl, rfl, h2⟩ := h; exact .own h1 h2
      | ptr k' o' =>
        cases s <;> simp only at h <;> try exact h.elim
        obtain ⟨h1, rfl, h2⟩ := h; exact .ptr h1 h2
      | mp k' =>
        cases s <;> simp only at h <;> try exact h.elim
        exact .mp h.1 h.2
      | it k' =>
        cases s <;> simp only at h <;> try exact h.elim
        exact .it h.1 h.2
      | agg ys =>
        cases s <;> simp only at h <;> try exact h.elim
        rename_i xs
        rcases h with ⟨hst, h⟩ | h
        · subst h; exact .cl (stL_clL (xs := xs) hst)
        · obtain ⟨h1, h2⟩ := sub (by simp at hsz; omega) h
          exact .agg h1 h2
      | tup ys =>
        cases s <;> simp only at h <;> try exact h.elim
        obtain ⟨h1, h2⟩ := sub (by simp at hsz; omega) h
        exact .tup h1 h2
      | clo f ys =>
        cases s <;> simp only at h <;> try exact h.elim
        obtain ⟨rfl, h⟩ := h
        obtain ⟨h1, h2⟩ := sub (by simp at hsz; omega) h
        exact .clo h1 h2
      | sl n' cs' =>
        cases s <;> simp only at h <;> try exact h.elim
        · obtain ⟨rfl, rfl, rfl⟩ := h; exact .nilsl
        · obtain ⟨rfl, rfl, h⟩ := h; exact .cl h
        · obtain ⟨rfl, h1, e, cs, q, h2, h3, h4, rfl⟩ := h; exact .frz h2 h1 h3 q h4
      | iptr cs' o' =>
        cases s <;> simp only at h <;> try exact h.elim
        · obtain ⟨rfl, h1, e, h2, h3⟩ := h; exact .fptr h2 h1 h3
        · obtain ⟨rfl, rfl, h⟩ := h; exact .cl h
  exact fun {s' s} h => lst (SizeOf.sizeOf s' + 1) (by omega) h

def leF (hp hp' : Hp) (σ : List (Nat × Nat)) (frz : List Nat) (fr : Fr) : Fr → Prop
  | [] => True
  | p :: r => leS hp hp' σ frz (getF fr p.1) p.2 ∧ leF hp hp' σ frz fr r
theorem leF_sound {hp hp' : Hp} {σ : List (Nat × Nat)} {frz : List Nat} {fr : Fr} : ∀ {fr' : Fr}, leF hp hp' σ frz fr fr' → ∀ d, LeS P (getH hp) (getH hp') (getN σ) (· ∈ frz) (getF fr d) (getF fr' d)
  | [], _, d => .any
  | p :: r, h, d => by
    simp only [getF]
    by_cases hd : p.1 = d
    · subst hd; simp only [beq_self_eq_true, cond_true]; exact leS_sound h.1
    · rw [show (p.1 == d) = false from by simpa using hd, cond_false]; exact leF_sound h.2 d

def leM (hp hp' : Hp) (σ : List (Nat × Nat)) (frz : List Nat) : List (Value × SV) → List (Value × SV) → Prop
  | [], [] => True
  | a :: r, b :: s => a.1 = b.1 ∧ leS hp hp' σ frz a.2 b.2 ∧ leM hp hp' σ frz r s
  | _, _ => False
theorem leM_get {hp hp' : Hp} {σ : List (Nat × Nat)} {frz : List Nat} : ∀ {ys xs : List (Value × SV)}, leM hp hp' σ frz xs ys → xs.length = ys.length ∧ ∀ (i : Nat) (x y : Value × SV), xs[i]? = some x → ys[i]? = some y → x.1 = y.1 ∧ leS hp hp' σ frz x.2 y.2
  | [], [], h => ⟨rfl, fun i x y hx => by simp at hx⟩
  | [], _ :: _, h => h.elim
  | y :: ys, [], h => h.elim
  | y :: ys, x :: xs, h => by
    obtain ⟨h1, h2⟩ := leM_get h.2.2
    refine ⟨by simp [h1], fun i a b ha hb => ?_⟩
    cases i with
    | zero => simp at ha hb; subst ha; subst hb; exact ⟨h.1, h.2.1⟩
    | succ i => exact h2 i a b (by simpa using ha) (by simpa using hb)
def stM : List (Value × SV) → Bool
  | [] => true
  | p :: r => p.2.st && stM r
theorem stM_get : ∀ {es : List (Value × SV)}, stM es = true → ∀ (i : Nat) (x : Value × SV), es[i]? = some x → x.2.st = true
  | [], _, i, x, h => by simp at h
  | y :: ys, hc, i, x, h => by
    simp only [stM, Bool.and_eq_true] at hc
    cases i with
    | zero => simp at h; subst h; exact hc.1
    | succ i => exact stM_get hc.2 i x (by simpa using h)

def leC (hp hp' : Hp) (σ : List (Nat × Nat)) (frz : List Nat) (k' : Nat) : Chunk → Prop
  | .unborn => True
  | .dead => True
  | .row e cs' => match getN σ k' with
    | none => cs' = []
    | some k => match getH hp k with
      | .row e2 cs => e2 = e ∧ ((stL cs' = true ∧ cs = cs') ∨ leL hp hp' σ frz cs cs' ∨ (stL cs' = true ∧ cs' <+: cs))
      | _ => False
  | .map es' => match getN σ k' with
    | none => False
    | some k => match getH hp k with
      | .map es => bif stM es' then es = es' else leM hp hp' σ frz es es'
      | _ => False
  | .obj s pos => match getN σ k' with
    | none => False
    | some k => getH hp k = .obj s pos
/-- For all that are told of. -/
def leH (hp hp' : Hp) (σ : List (Nat × Nat)) (frz : List Nat) : Hp → Prop
  | [] => True
  | p :: r => leC hp hp' σ frz p.1 p.2 ∧ leH hp hp' σ frz r
theorem leC_sound {hp hp' : Hp} {σ : List (Nat × Nat)} {frz : List Nat} {k' : Nat} {c : Chunk} (h : leC hp hp' σ frz k' c) : ChLe P (getH hp) (getH hp') (getN σ) (· ∈ frz) k' c := by
  cases c with
  | unborn => trivial
  | dead => trivial
  | row e cs' =>
    simp only [leC] at h
    simp only [ChLe]
    cases hn : getN σ k' with
    | none => rw [hn] at h; exact .inl ⟨rfl, h⟩
    | some k =>
      rw [hn] at h
      simp only at h
      cases hk : getH hp k with
      | row e2 cs =>
        rw [hk] at h
        simp only at h
        obtain ⟨rfl, h⟩ := h
        rcases h with ⟨hst, h⟩ | h | ⟨hst, t, h⟩
        · subst h
          exact .inr ⟨k, cs, rfl, hk, Nat.le_refl _, fun i x y hx hy => by rw [hx] at hy; cases hy; exact .cl (clL_get (stL_clL hst) i x hx)⟩
        · obtain ⟨h1, h2⟩ := leL_get h
          exact .inr ⟨k, cs, rfl, hk, Nat.le_of_eq h1.symm, fun i x y hx hy => leS_sound (h2 i x y hx hy)⟩
        · subst h
          refine .inr ⟨k, cs' ++ t, rfl, hk, by simp, fun i x y hx hy => ?_⟩
          rw [List.getElem?_append_left (List.getElem?_eq_some_iff.1 hy).1, hy] at hx
          cases hx
          exact .cl (clL_get (stL_clL hst) i x hy)
      | _ => rw [hk] at h; exact h.elim
  | map es' =>
    simp only [leC] at h
    simp only [ChLe]
    cases hn : getN σ k' with
    | none => rw [hn] at h; exact h.elim
    | some k =>
      rw [hn] at h
      simp only at h
      cases hk : getH hp k with
      | map es =>
        rw [hk] at h
        simp only at h
        cases hst : stM es' with
        | true =>
          rw [hst] at h; simp only [cond_true] at h; subst h
          exact ⟨k, es, rfl, hk, rfl, fun i x y hx hy => by rw [hx] at hy; cases hy; exact ⟨rfl, .cl (st_cl (stM_get hst i x hx))⟩⟩
        | false =>
          rw [hst] at h; simp only [cond_false] at h
          obtain ⟨h1, h2⟩ := leM_get h
          exact ⟨k, es, rfl, hk, h1, fun i x y hx hy => ⟨(h2 i x y hx hy).1, leS_sound (h2 i x y hx hy).2⟩⟩
      | _ => rw [hk] at h; exact h.elim
  | obj s pos =>
    simp only [leC] at h
    simp only [ChLe]
    cases hn : getN σ k' with
    | none => rw [hn] at h; exact h.elim
    | some k => rw [hn] at h; exact ⟨k, rfl, h⟩

def nodupN : List (Nat × Nat) → Bool
  | [] => true
  | p :: r => r.all (fun q => !(q.2 == p.2)) && nodupN r
theorem getN_mem {σ : List (Nat × Nat)} {k j : Nat} (h : getN σ k = some j) : (k, j) ∈ σ := by
  induction σ with
  | nil => cases h
  | cons p r ih =>
    simp only [getN] at h
    by_cases hp : p.1 = k
    · rw [show (p.1 == k) = true from by simpa using hp] at h; cases h; subst hp; exact List.mem_cons_self ..
    · rw [show (p.1 == k) = false from by simpa using hp] at h; exact List.mem_cons_of_mem _ (ih h)
theorem nodupN_inj : ∀ {σ : List (Nat × Nat)}, nodupN σ = true → ∀ k1 k2 j, getN σ k1 = some j → getN σ k2 = some j → k1 = k2
  | [], _, k1, k2, j, h, _ => by cases h
  | p :: r, hn, k1, k2, j, h1, h2 => by
    simp only [nodupN, Bool.and_eq_true, List.all_eq_true] at hn
    simp only [getN] at h1 h2
    by_cases e1 : p.1 = k1
    · by_cases e2 : p.1 = k2
      · omega
      · rw [show (p.1 == k1) = true from by simpa using e1] at h1
        rw [show (p.1 == k2) = false from by simpa using e2] at h2
        cases h1
        have := hn.1 _ (getN_mem h2)
        simp at this
    · rw [show (p.1 == k1) = false from by simpa using e1] at h1
      by_cases e2 : p.1 = k2
      · rw [show (p.1 == k2) = true from by simpa using e2] at h2
        cases h2
        have := hn.1 _ (getN_mem h1)
        simp at this
      · rw [show (p.1 == k2) = false from by simpa using e2] at h2
        exact nodupN_inj hn.2 k1 k2 j h1 h2
def liveK (hp' : Hp) (k : Nat) : Bool := (getH hp' k).live
/-- What a map of names must be. -/
def okN (m : Nat) (σ : List (Nat × Nat)) (frz : List Nat) : Bool := nodupN σ && σ.all (fun p => !frz.contains p.2 && (Nat.ble m p.1 || p.1 == p.2))
def okH (m nx' : Nat) (σ : List (Nat × Nat)) : Hp → Bool
  | [] => true
  | p :: r => Nat.blt p.1 nx' && (Nat.ble m p.1 || !p.2.live || (getN σ p.1).isSome) && okH m nx' σ r

theorem sub_mk {hp hp' : Hp} {σ : List (Nat × Nat)} {frz : List Nat} {m : Nat} (h2 : leH hp hp' σ frz hp') (h3 : okN m σ frz = true) : Sub P (getH hp) (getH hp') (getN σ) (· ∈ frz) := by
  simp only [okN, Bool.and_eq_true, List.all_eq_true] at h3
  refine ⟨fun k' => ?_, fun k1 k2 k _ _ => nodupN_inj h3.1 k1 k2 k, fun k hk k' _ hs => ?_⟩
  · have gen : ∀ (l : Hp), leH hp hp' σ frz l → ChLe P (getH hp) (getH hp') (getN σ) (· ∈ frz) k' (getH l k') := by
      intro l
      induction l with
      | nil => exact fun _ => trivial
      | cons p r ih =>
        intro hl
        simp only [getH]
        by_cases hp : p.1 = k'
        · subst hp; simp only [beq_self_eq_true, cond_true]; exact leC_sound hl.1
        · rw [show (p.1 == k') = false from by simpa using hp, cond_false]; exact ih hl.2
    exact gen hp' h2
  · have := (h3.2 _ (getN_mem hs)).1
    simp at this
    exact this hk
theorem okH_fresh {m nx' : Nat} {σ : List (Nat × Nat)} : ∀ {l : Hp}, okH m nx' σ l = true → ∀ k, nx' ≤ k → getH l k = .unborn
  | [], _, k, _ => rfl
  | p :: r, h, k, hk => by
    simp only [okH, Bool.and_eq_true] at h
    have hlt : p.1 < nx' := by simpa [Nat.blt_eq] using h.1.1
    simp only [getH]
    rw [show (p.1 == k) = false from by simp; omega, cond_false]
    exact okH_fresh h.2 k hk
theorem okH_kept {m nx' : Nat} {σ : List (Nat × Nat)} (hσ : ∀ p ∈ σ, Nat.ble m p.1 = true ∨ p.1 = p.2) : ∀ {l : Hp}, okH m nx' σ l = true → ∀ k, k < m → (getH l k).live = true → getN σ k = some k
  | [], _, k, _, hl => by cases hl
  | p :: r, h, k, hk, hl => by
    simp only [okH, Bool.and_eq_true] at h
    simp only [getH] at hl
    by_cases hp : p.1 = k
    · subst hp
      simp only [beq_self_eq_true, cond_true] at hl
      have h2 := h.1.2
      rw [hl] at h2
      have hble : Nat.ble m p.1 = false := by cases hb : Nat.ble m p.1 with
        | false => rfl
        | true => have := Nat.le_of_ble_eq_true hb; omega
      rw [hble] at h2
      simp only [Bool.not_true, Bool.or_false, Bool.false_or, Option.isSome_iff_exists] at h2
      obtain ⟨j, hj⟩ := h2
      rcases hσ _ (getN_mem hj) with h3 | h3
      · rw [hble] at h3; cases h3
      · simp only at h3; rw [← h3] at hj; exact hj
    · rw [show (p.1 == k) = false from by simpa using hp, cond_false] at hl
      exact okH_kept hσ h.2 k hk hl

/-- LESS IS KNOWN, by looking. -/
theorem leSt_mk {m : Nat} {fr fr' : Fr} {hp hp' : Hp} {nx' : Nat} (σ : List (Nat × Nat)) (frz : List Nat) (h1 : leF hp hp' σ frz fr fr') (h2 : leH hp hp' σ frz hp') (h3 : okN m σ frz = true) (h4 : okH m nx' σ hp' = true) (h5 : m ≤ nx') : LeSt P m fr hp fr' hp' nx' :=
  ⟨⟨getN σ, frz, sub_mk h2 h3, fun k hk hl => okH_kept (fun p hp => by
    simp only [okN, Bool.and_eq_true, List.all_eq_true] at h3
    have := (h3.2 p hp).2
    simpa using this) h4 k hk hl, leF_sound h1⟩, okH_fresh h4, h5⟩

/-- The end of a function. -/
theorem ret_mk {m : Nat} {x : SV} {hp : Hp} {Post : SV → Hp → Nat → Prop} (x' : SV) (hp' : Hp) (nx' : Nat) (σ : List (Nat × Nat)) (frz : List Nat) (hpost : Post x' hp' nx') (h1 : leS hp hp' σ frz x x') (h2 : leH hp hp' σ frz hp') (h3 : okN m σ frz = true) (h4 : okH m nx' σ hp' = true) (h5 : m ≤ nx') : RetW P m Post x hp :=
  ⟨x', hp', nx', hpost, leSt_mk σ frz ⟨h1, trivial⟩ h2 h3 h4 h5⟩

/-- A loop. -/
theorem loop_mk {m N : Nat} {c : Code} {Q : SPost} {fr : Fr} {hp : Hp} {nx : Nat} {S : Type} (fr0 : S → Fr) (hp0 : S → Hp) (nx0 : S → Nat) (I : S → Prop) (μ : S → Nat) (s0 : S) (hI : I s0) (h0 : LeSt P m fr hp (fr0 s0) (hp0 s0) (nx0 s0))
    (h : ∀ (s : S) (R : SPost), I s → (∀ fr' hp' nx' s', I s' → μ s' < μ s → LeSt P m fr' hp' (fr0 s') (hp0 s') (nx0 s') → R .normal fr' hp' nx') → (∀ id, R (.exit id) = Q (.exit id)) → R .ret = Q .ret → Swp P m N c R (fr0 s) (hp0 s) (nx0 s)) : Swp P m N (.loop c) Q fr hp nx := by
  refine ⟨0, S, fr0, hp0, nx0, I, μ, ⟨s0, hI, h0⟩, fun s hs => ?_⟩
  exact h s _ hs (fun fr' hp' nx' s' h1 h2 h3 => ⟨s', h1, h2, h3⟩) (fun _ => rfl) rfl

mutual
theorem ren_cl {τ : Nat → Nat} : ∀ {s : SV}, s.cl = true → renS τ s = s
  | .any, _ => rfl
  | .v _, _ => rfl
  | .agg xs, h => by rw [renS, renL_cl (xs := xs) h]
  | .tup xs, h => by rw [renS, renL_cl (xs := xs) h]
  | .sl _ xs, h => by rw [renS, renL_cl (xs := xs) h]
  | .iptr xs _, h => by rw [renS, renL_cl (xs := xs) h]
  | .clo _ xs, h => by rw [renS, renL_cl (xs := xs) h]
  | .gd _ x, h => by rw [renS, ren_cl (s := x) h]
theorem renL_cl {τ : Nat → Nat} : ∀ {xs : List SV}, clL xs = true → renL τ xs = xs
  | [], _ => rfl
  | x :: xs, h => by
    simp only [clL, Bool.and_eq_true] at h
    rw [renL, ren_cl h.1, renL_cl h.2]
end

def okC (m : Nat) (hin : Hp) (σ : List (Nat × Nat)) : Bool := σ.all fun p => Nat.blt p.1 m && liveK hin p.1

/-- A CALL, by a contract: what is handed over (σ), what is lent (bor). -/
theorem call_mk {f : FuncId} {args : List SV} {dst : Option Tmp} {ops : Array Oper} {rest : List Oper} {fr : Fr} {hp : Hp} {nx : Nat} {K : Fr → Hp → Nat → Prop} {args' : List SV} {hin : Hp} {m : Nat} {Post : SV → Hp → Nat → Prop} (spec : SpecW P f args' hin m Post)
    (σ : List (Nat × Nat)) (bor : List Nat) (hne : ∃ r h n, Post r h n) (h1 : leL hp hin σ bor args args') (h2 : leH hp hin σ bor hin) (h3 : okN 0 σ bor = true) (h4 : okH 0 m σ hin = true) (h5 : okC m hin σ = true)
    (h : ∀ res hp' nx', Post res hp' nx' → wfH hp' = true ∧ (bor = [] ∨ (res.nim = true ∧ nimH hp' = true)) ∧ runOps P ops rest (putF dst (renS (bck (getN σ) nx) res) fr) (back (getN σ) nx m hp' ++ hp) (nx + nx') K) : CallAt P f args dst ops rest fr hp nx K := by
  obtain ⟨l1, l2⟩ := leL_get h1
  have hok : ∀ k j, getN σ k = some j → k < m ∧ liveK hin k = true := fun k j hk => by
    simp only [okC, List.all_eq_true, Bool.and_eq_true] at h5
    obtain ⟨h6, h7⟩ := h5 _ (getN_mem hk)
    exact ⟨by simpa [Nat.blt_eq] using h6, h7⟩
  refine ⟨args', hin, m, Post, getN σ, bor, spec, sub_mk h2 h3, fun k hk => ⟨?_, okH_fresh h4 k hk⟩, ?_, fun k j hk => (hok k j hk).2, l1, fun i x y hx hy => leS_sound (l2 i x y hx hy), hne, (fun h => by cases h), h⟩
  · cases hn : getN σ k with
    | none => rfl
    | some j => have := (hok k j hn).1; omega
  · simp only [okN, Bool.and_eq_true] at h3
    exact nodupN_inj h3.1

/-- A call that is given nothing but plain values and gives such back. -/
theorem call_0 {f : FuncId} {args : List SV} {dst : Option Tmp} {ops : Array Oper} {rest : List Oper} {fr : Fr} {hp : Hp} {nx : Nat} {K : Fr → Hp → Nat → Prop} {x : SV} (spec : SpecW P f args [] 0 (fun r h n => r = x ∧ h = [] ∧ n = 0)) (ha : clL args = true) (hx : x.cl = true)
    (h : runOps P ops rest (putF dst x fr) hp nx K) : CallAt P f args dst ops rest fr hp nx K := by
  refine ⟨args, [], 0, _, fun _ => none, [], spec, sub_nil, fun k _ => ⟨rfl, rfl⟩, (fun _ _ _ h => by cases h), (fun _ _ h => by cases h), rfl, fun i y z hy hz => ?_, ⟨x, [], 0, rfl, rfl, rfl⟩, (fun h => by cases h), ?_⟩
  · rw [hy] at hz; cases hz; exact .cl (clL_get ha i y hy)
  · rintro res hp' nx' ⟨rfl, rfl, rfl⟩
    refine ⟨rfl, .inl rfl, ?_⟩
    rw [ren_cl hx]
    exact h

/-- One that makes new things. -/
theorem call_new {f : FuncId} {args : List SV} {dst : Option Tmp} {ops : Array Oper} {rest : List Oper} {fr : Fr} {hp : Hp} {nx : Nat} {K : Fr → Hp → Nat → Prop} {x : SV} {hp' : Hp} {nx' : Nat} (spec : SpecW P f args [] 0 (fun r h n => r = x ∧ h = hp' ∧ n = nx')) (ha : clL args = true) (hw : wfH hp' = true)
    (h : runOps P ops rest (putF dst (renS (nx + ·) x) fr) (hp'.map (fun p => (nx + p.1, renC (nx + ·) p.2)) ++ hp) (nx + nx') K) : CallAt P f args dst ops rest fr hp nx K := by
  refine ⟨args, [], 0, _, fun _ => none, [], spec, sub_nil, fun k _ => ⟨rfl, rfl⟩, (fun _ _ _ h => by cases h), (fun _ _ h => by cases h), rfl, fun i y z hy hz => ?_, ⟨x, hp', nx', rfl, rfl, rfl⟩, (fun h => by cases h), ?_⟩
  · rw [hy] at hz; cases hz; exact .cl (clL_get ha i y hy)
  · rintro res h2 n2 ⟨rfl, rfl, rfl⟩
    refine ⟨hw, .inl rfl, ?_⟩
    have e : back (fun _ => none) nx 0 h2 = h2.map (fun p => (nx + p.1, renC (nx + ·) p.2)) := by simp [back, bck]; exact fun _ _ _ => rfl
    rw [e]
    exact h

/-- Whole numbers in cells. -/
def iv (xs : List Int) : List SV := xs.map fun x => .v (.int .i64 x)
theorem iv_length (xs : List Int) : (iv xs).length = xs.length := by simp [iv]
theorem clL_iv (xs : List Int) : clL (iv xs) = true := clL_map _ (fun _ => rfl) xs
theorem stL_iv (xs : List Int) : stL (iv xs) = true := by
  induction xs with
  | nil => rfl
  | cons x xs ih => simp only [iv, List.map_cons, stL, SV.st, Bool.true_and]; exact ih
theorem iv_getD (xs : List Int) (i : Nat) (h : i < xs.length) : (iv xs).getD i .any = .v (.int .i64 (xs.getD i 0)) := by
  simp [iv, List.getD_eq_getElem?_getD, List.getElem?_map, List.getElem?_eq_getElem h]
theorem iv_oneS (xs : List Int) : (iv xs).all oneS = true := by simp [iv, oneS, Value.oneCell']
theorem iv_app (xs ys : List Int) : iv xs ++ iv ys = iv (xs ++ ys) := by simp [iv]
theorem iv_cons (x : Int) (xs : List Int) : .v (.int .i64 x) :: iv xs = iv (x :: xs) := rfl
theorem iv_nil : iv [] = [] := rfl
theorem iv_drop (xs : List Int) (n : Nat) : (iv xs).drop n = iv (xs.drop n) := by simp [iv, List.map_drop]
theorem iv_take (xs : List Int) (n : Nat) : (iv xs).take n = iv (xs.take n) := by simp [iv, List.map_take]
theorem renL_iv (τ : Nat → Nat) (xs : List Int) : renL τ (iv xs) = iv xs := renL_cl (clL_iv xs)
theorem appCells_whole (cs : List SV) (n : Nat) (h : n = cs.length) : appCells cs 0 n = cs := by subst h; simp [appCells]
theorem appCells_iv (xs : List Int) (o n : Nat) : appCells (iv xs) o n = iv ((xs.drop o).take n) := by simp only [appCells, iv_drop, iv_take]
end Go.Sx
namespace Go.Sx
/-- A contract that gives one plain value back. -/
abbrev FR (P : Program) (f : FuncId) (args : List SV) (x : SV) : Prop := SpecW P f args [] 0 (fun r h n => r = x ∧ h = [] ∧ n = 0)
theorem ret_eq {P : Program} {x y : SV} {hp : Hp} (h : x.cl = true) (e : x = y) : RetW P 0 (fun r h n => r = y ∧ h = [] ∧ n = 0) x hp := by subst e; exact ret_cl h
abbrev iS (n : Int) : SV := .v (.int .i64 n)
abbrev bS (b : Bool) : SV := .v (.bool b)
end Go.Sx
namespace Go.Sx
theorem wrap64 {n : Int} (h : -9223372036854775808 ≤ n) (g : n ≤ 9223372036854775807) : IntKind.i64.wrap n = n := by
  simp only [IntKind.wrap, IntKind.bits, IntKind.signed, if_true]
  simp
  omega
end Go.Sx
namespace Go.Sx
/-- As call_0, in a drawn region. -/
theorem callE_0 {P : Program} {f : FuncId} {args : List SV} {dst : Option Tmp} {ops : Array Oper} {rest : List Oper} {fr : Fr} {hp : Hp} {nx : Nat} {acc : List Nms} {K : Fr → Hp → Nat → Prop} {x : SV} (spec : SpecW P f args [] 0 (fun r h n => r = x ∧ h = [] ∧ n = 0)) (ha : clL args = true) (hx : x.cl = true)
    (h : runE P ops rest (putF dst x fr) hp (nx + 1) (acc ++ [⟨[], [], nx, nx⟩]) K) : CallE P f args dst ops rest fr hp nx acc K := by
  refine ⟨args, [], 0, _, fun _ => none, [], spec, sub_nil, fun k _ => ⟨rfl, rfl⟩, (fun _ _ _ h => by cases h), (fun _ _ h => by cases h), rfl, fun i y z hy hz => ?_, ⟨x, [], 0, rfl, rfl, rfl⟩, (fun _ => ?_), ?_⟩
  · rw [hy] at hz; cases hz; exact .cl (clL_get ha i y hy)
  · rintro r1 h1 n1 r2 h2 n2 ⟨rfl, rfl, rfl⟩ ⟨rfl, rfl, rfl⟩; exact ⟨rfl, rfl, rfl⟩
  · rintro res hp' nx' ⟨rfl, rfl, rfl⟩
    refine ⟨rfl, .inl rfl, ?_⟩
    rw [ren_cl hx]
    exact h
end Go.Sx
