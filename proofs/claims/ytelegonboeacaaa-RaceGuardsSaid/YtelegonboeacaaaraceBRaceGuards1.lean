/-
 Lemmas, put together: QA, QB, QC, raceP, raceP2.
 No conditions.
-/
import Derived.Test.YtelegonboeacaaaraceA3
import Derived.Test.YtelegonboeacaaaraceG
set_option linter.unusedSimpArgs false
set_option linter.unusedVariables false
section
namespace Go.Sx
open Go
set_option linter.unusedVariables false
theorem wrap_id {x : Int} (h1 : -9223372036854775808 ≤ x) (h2 : x ≤ 9223372036854775807) : IntKind.i64.wrap x = x := by
 simp only [IntKind.wrap, IntKind.bits, IntKind.signed, if_true]
 simp
 omega
theorem wrap_n1 (i : Nat) (h : i < 4611686018427387904) : IntKind.i64.wrap ((i : Int) + 1) = ((i + 1 : Nat) : Int) := by
 rw [wrap_id (by omega) (by omega)]; rfl
theorem loopO_inv {S ρ : Type} {step : S → Option (S ⊕ ρ)} (I : S → Prop) (mu : S → Nat) (Post : ρ → Prop)
  (hs : ∀ s, I s → (∃ s', step s = some (.inl s') ∧ I s' ∧ mu s' < mu s) ∨ (∃ r, step s = some (.inr r) ∧ Post r)) {s0 : S} (h0 : I s0) : ∃ r, loopO step s0 = some r ∧ Post r := by
 have gen : ∀ (n : Nat) (s : S), mu s ≤ n → I s → ∃ r, loopO step s = some r ∧ Post r := by
  intro n
  induction n with
  | zero =>
   intro s hm hi
   rcases hs s hi with ⟨s', _, _, h3⟩ | ⟨r, h1, h2⟩
   ·omega
   ·exact ⟨r, loopO_inr h1, h2⟩
  | succ n ih =>
   intro s hm hi
   rcases hs s hi with ⟨s', h1, h2, h3⟩ | ⟨r, h1, h2⟩
   ·rw [loopO_inl h1]; exact ih s' (by omega) h2
   ·exact ⟨r, loopO_inr h1, h2⟩
 exact gen _ s0 (Nat.le_refl _) h0
def firstAt {β : Type} (bad : Nat → Option β) : Nat → Option β
 | 0 => none
 | n + 1 => (firstAt bad n).or (bad n)
theorem firstAt_none {β : Type} {f : Nat → Option β} : ∀ (n : Nat), firstAt f n = none ↔ ∀ i, i < n → f i = none
 | 0 => by simp [firstAt]
 | n + 1 => by
  simp only [firstAt, Option.or_eq_none_iff, firstAt_none n]
  constructor
  ·rintro ⟨h1, h2⟩ i hi
   by_cases h : i = n
   ·subst h; exact h2
   ·exact h1 i (by omega)
  ·exact fun h => ⟨fun i hi => h i (by omega), h n (by omega)⟩
theorem firstAt_some {β : Type} {f : Nat → Option β} {b : β} : ∀ (n : Nat), firstAt f n = some b → ∃ i, i < n ∧ f i = some b ∧ ∀ j, j < i → f j = none
 | 0, h => by simp [firstAt] at h
 | n + 1, h => by
  simp only [firstAt] at h
  cases hf : firstAt f n with
  | some c =>
   rw [hf] at h
   obtain ⟨i, h1, h2, h3⟩ := firstAt_some n hf
   simp only [Option.some_or] at h
   exact ⟨i, by omega, by rw [h2, h], h3⟩
  | none =>
   rw [hf] at h
   simp only [Option.none_or] at h
   exact ⟨n, by omega, h, fun j hj => (firstAt_none n).1 hf j hj⟩
theorem loopO_find {S ρ : Type} {step : S → Option (S ⊕ ρ)} (E : Nat → S) (bad : Nat → Option ρ) (rest : Option ρ) (n : Nat)
  (h1 : ∀ i, i < n → bad i = none → step (E i) = some (.inl (E (i + 1)))) (h2 : ∀ i r, i < n → bad i = some r → step (E i) = some (.inr r)) (h3 : (∀ i, i < n → bad i = none) → step (E n) = rest.map .inr) :
  loopO step (E 0) = match firstAt bad n with
   | some r => some r
   | none => rest := by
 have walk : ∀ k, k ≤ n → (∀ i, i < k → bad i = none) → loopO step (E 0) = loopO step (E k) := by
  intro k
  induction k with
  | zero => exact fun _ _ => rfl
  | succ k ih =>
   intro hk hb
   rw [ih (by omega) fun i hi => hb i (by omega), loopO_inl (h1 k (by omega) (hb k (by omega)))]
 cases hf : firstAt bad n with
 | none =>
  have hb := (firstAt_none n).1 hf
  rw [walk n (Nat.le_refl _) hb, loopO_out (h3 hb)]
 | some r =>
  obtain ⟨i, g1, g2, g3⟩ := firstAt_some n hf
  rw [walk i (by omega) g3, loopO_inr (h2 i r g1 g2)]
theorem ix_get {α : Type} [Enc α] {xs : List α} {i : Nat} (h : i < xs.length) : ix xs ((i : Nat) : Int) = xs[i] := by
 simp [ix, List.getD_eq_getElem?_getD, h]
theorem cut_take {α : Type} (xs : List α) (i : Nat) : cut xs 0 ((i : Nat) : Int) = xs.take i := by simp [cut]
theorem list_eq_iff {α : Type} {a b : List α} (h : a.length = b.length) : a = b ↔ ∀ i (h1 : i < a.length) (h2 : i < b.length), a[i] = b[i] :=
 ⟨fun e => by subst e; exact fun _ _ _ => rfl, fun g => List.ext_getElem h g⟩
theorem miGet_set (m : List (Int × Int)) (a v k : Int) : miGet (miSet m a v) k = if k = a then v else miGet m k := by
 induction m with
 | nil =>
  by_cases h : k = a
  ·subst h; simp [miSet, miGet]
  ·simp [miSet, miGet, h]
 | cons p r ih =>
  simp only [miSet]
  cases ha : (a == p.1) with
  | true =>
   have : a = p.1 := by simpa using ha
   subst this
   by_cases h : k = p.1
   ·subst h; simp [miGet]
   ·simp [miGet, h]
  | false =>
   have hap : a ≠ p.1 := by simpa using ha
   simp only [cond_false]
   by_cases h : k = p.1
   ·subst h
    rw [if_neg (fun e => hap e.symm)]
    simp [miGet]
   ·have e : ∀ (m : List (Int × Int)), miGet (p :: m) k = miGet m k := fun m => by
     simp [miGet, List.find?_cons, show (k == p.1) = false from by simpa using h]
    rw [e, e, ih]
theorem ints_gen {step : Int → Option (Int ⊕ Bool)} (a b : List Int) (hl : a.length = b.length) (hn : a.length < 4611686018427387904)
  (h : ∀ i, step i = (bif (decide (i < ((a.length : Nat) : Int))) then (bif ((decide ((0 : Int) ≤ i)) && (decide (i < ((a.length : Nat) : Int)))) then (bif ((decide ((0 : Int) ≤ i)) && (decide (i < ((b.length : Nat) : Int)))) then (bif ((ix a i) != (ix b i)) then (Option.map Sum.inr (some (false))) else (some (Sum.inl ((IntKind.i64.wrap (i + 1)))))) else none) else none) else (Option.map Sum.inr (some (true))))) :
  loopO step 0 = some (decide (a = b)) := by
 have := loopO_find (step := step) (fun i => ((i : Nat) : Int)) (fun i => if a[i]? = b[i]? then none else some false) (some true) a.length (fun i hi hb => ?_) (fun i r hi hb => ?_) (fun _ => ?_)
 ·rw [show ((0 : Nat) : Int) = 0 from rfl] at this
  rw [this]
  cases hf : firstAt (fun i => if a[i]? = b[i]? then none else some false) a.length with
  | none =>
   have := (firstAt_none _).1 hf
   have e : a = b := (list_eq_iff hl).2 fun i h1 h2 => by
    have := this i h1
    simpa [h1, h2] using this
   simp [e]
  | some r =>
   obtain ⟨i, h1, h2, _⟩ := firstAt_some _ hf
   have : a ≠ b := fun e => by subst e; simp at h2
   split at h2
   ·cases h2
   ·cases h2; simp [this]
 ·rw [h]
  have hi2 : i < b.length := by omega
  have e : a[i] = b[i] := by simpa [hi, hi2] using hb
  simp [hi, hi2, ix_get hi, ix_get hi2, e, wrap_n1 i (by omega), Bool.cond_eq_ite]
 ·rw [h]
  have hi2 : i < b.length := by omega
  have e : ¬ a[i] = b[i] ∧ false = r := by simpa [hi, hi2] using hb
  simp [hi, hi2, ix_get hi, ix_get hi2, e.1, ← e.2, Bool.cond_eq_ite]
 ·rw [h]; simp
theorem index_gen {step : Int → Option (Int ⊕ Int)} (l : List Int) (n : Int) (hn : l.length < 4611686018427387904)
  (h : ∀ i, step i = (bif (decide (i < ((l.length : Nat) : Int))) then (bif ((decide ((0 : Int) ≤ i)) && (decide (i < ((l.length : Nat) : Int)))) then (bif (n == (ix l i)) then (Option.map Sum.inr (some (i))) else (some (Sum.inl ((IntKind.i64.wrap (i + 1)))))) else none) else (Option.map Sum.inr (some ((-1)))))) :
  ∃ r, loopO step 0 = some r ∧ (n ∈ l → ∃ i : Nat, r = i ∧ l[i]? = some n ∧ ∀ j < i, l[j]? ≠ some n) ∧ (n ∉ l → r = -1) := by
 have := loopO_find (step := step) (fun i => ((i : Nat) : Int)) (fun i => if l[i]? = some n then some (i : Int) else none) (some (-1)) l.length (fun i hi hb => ?_) (fun i r hi hb => ?_) (fun _ => ?_)
 ·rw [show ((0 : Nat) : Int) = 0 from rfl] at this
  rw [this]
  cases hf : firstAt (fun i => if l[i]? = some n then some (i : Int) else none) l.length with
  | none =>
   have := (firstAt_none _).1 hf
   have e : n ∉ l := fun hm => by
    obtain ⟨i, hi, e⟩ := List.getElem_of_mem hm
    have := this i hi
    simp [hi, e] at this
   exact ⟨_, rfl, fun h => absurd h e, fun _ => rfl⟩
  | some r =>
   obtain ⟨i, h1, h2, h3⟩ := firstAt_some _ hf
   split at h2
   ·rename_i he
    cases h2
    have hm : n ∈ l := List.mem_of_getElem? he
    refine ⟨_, rfl, fun _ => ⟨i, rfl, he, fun j hj hh => ?_⟩, fun h => absurd hm h⟩
    have := h3 j hj
    simp [hh] at this
   ·cases h2
 ·rw [h]
  have e : ¬ l[i] = n := by simpa [hi] using hb
  have e' : ¬ n = l[i] := fun h => e h.symm
  simp [hi, ix_get hi, e', wrap_n1 i (by omega), Bool.cond_eq_ite]
 ·rw [h]
  have e : l[i] = n ∧ (i : Int) = r := by simpa [hi] using hb
  simp [hi, ix_get hi, e.1, ← e.2, Bool.cond_eq_ite]
 ·rw [h]; simp
def firstIf (p : Nat → Bool) (n : Nat) : Option Nat := firstAt (fun i => bif p i then some i else none) n
theorem firstIf_none {p : Nat → Bool} {n : Nat} : firstIf p n = none ↔ ∀ i, i < n → p i = false := by
 unfold firstIf
 rw [firstAt_none]
 constructor
 ·intro h i hi
  have := h i hi
  cases hp : p i with
  | false => rfl
  | true => rw [hp] at this; cases this
 ·intro h i hi
  rw [h i hi]; rfl
theorem firstIf_some {p : Nat → Bool} {n i : Nat} (h : firstIf p n = some i) : i < n ∧ p i = true ∧ ∀ j, j < i → p j = false := by
 obtain ⟨k, h1, h2, h3⟩ := firstAt_some _ h
 cases hp : p k with
 | false => rw [hp] at h2; cases h2
 | true =>
  rw [hp] at h2; cases h2
  refine ⟨h1, hp, fun j hj => ?_⟩
  have := h3 j hj
  cases hq : p j with
  | false => rfl
  | true => rw [hq] at this; cases this
theorem loopO_if {S ρ : Type} {step : S → Option (S ⊕ ρ)} (E : Nat → S) (p : Nat → Bool) (R : Nat → Option ρ) (rest : Option ρ) (n : Nat)
  (h1 : ∀ i, i < n → p i = false → step (E i) = some (.inl (E (i + 1)))) (h2 : ∀ i, i < n → p i = true → step (E i) = (R i).map .inr) (h3 : (∀ i, i < n → p i = false) → step (E n) = rest.map .inr) :
  loopO step (E 0) = match firstIf p n with
   | some i => R i
   | none => rest := by
 have walk : ∀ k, k ≤ n → (∀ i, i < k → p i = false) → loopO step (E 0) = loopO step (E k) := by
  intro k
  induction k with
  | zero => exact fun _ _ => rfl
  | succ k ih =>
   intro hk hb
   rw [ih (by omega) fun i hi => hb i (by omega), loopO_inl (h1 k (by omega) (hb k (by omega)))]
 cases hf : firstIf p n with
 | none =>
  have hb := firstIf_none.1 hf
  rw [walk n (Nat.le_refl _) hb, loopO_out (h3 hb)]
 | some i =>
  obtain ⟨g1, g2, g3⟩ := firstIf_some hf
  rw [walk i (by omega) g3, loopO_out (h2 i g1 g2)]
end Go.Sx
end

section
namespace Go.Sx
variable {α : Type}
end Go.Sx
end

section
namespace Go.Sx
def toldOr {S ρ : Type} (o : Option ρ) (s : S) : Option (S ⊕ ρ) := match o with
 | some r => some (.inr r)
 | none => some (.inl s)
@[simp] theorem toldOr_some {S ρ : Type} (r : ρ) (s : S) : toldOr (some r) s = some (.inr r) := rfl
@[simp] theorem toldOr_none {S ρ : Type} (s : S) : toldOr (none : Option ρ) s = some (.inl s) := rfl
theorem loopO_findP {S ρ : Type} {step : S → Option (S ⊕ ρ)} (E : Nat → S) (bad : Nat → Option ρ) (d : ρ) (n : Nat)
  (h1 : ∀ i, i < n → (∀ j, j < i → bad j = none) → step (E i) = toldOr (bad i) (E (i + 1)))
  (h3 : (∀ i, i < n → bad i = none) → step (E n) = some (.inr d)) : loopO step (E 0) = some ((firstAt bad n).getD d) := by
 have walk : ∀ k, k ≤ n → (∀ i, i < k → bad i = none) → loopO step (E 0) = loopO step (E k) := by
  intro k
  induction k with
  | zero => exact fun _ _ => rfl
  | succ k ih =>
   intro hk hb
   have := h1 k (by omega) fun i hi => hb i (by omega)
   rw [hb k (by omega), toldOr_none] at this
   rw [ih (by omega) fun i hi => hb i (by omega), loopO_inl this]
 cases hf : firstAt bad n with
 | none =>
  have hb := (firstAt_none n).1 hf
  rw [walk n (Nat.le_refl _) hb, loopO_inr (h3 hb)]; rfl
 | some r =>
  obtain ⟨i, g1, g2, g3⟩ := firstAt_some n hf
  have := h1 i g1 g3
  rw [g2, toldOr_some] at this
  rw [walk i (by omega) g3, loopO_inr this]; rfl
theorem loopO_up {A S ρ : Type} {step : S → Option (S ⊕ ρ)} (n : Nat) (E : Nat → A → S) (I : Nat → A → Prop) (F : Nat → A → Option ρ)
  (hend : ∀ a, I n a → step (E n a) = (F n a).map .inr)
  (hstep : ∀ i a, i < n → I i a → (∃ a', step (E i a) = some (.inl (E (i + 1) a')) ∧ I (i + 1) a' ∧ F i a = F (i + 1) a') ∨ step (E i a) = (F i a).map .inr)
  (a0 : A) (h0 : I 0 a0) : loopO step (E 0 a0) = F 0 a0 := by
 have gen : ∀ (d i : Nat) (a : A), i + d = n → I i a → loopO step (E i a) = F i a := by
  intro d
  induction d with
  | zero => intro i a hi ha; rw [Nat.add_zero] at hi; subst hi; exact loopO_out (hend a ha)
  | succ d ih =>
   intro i a hi ha
   rcases hstep i a (by omega) ha with ⟨a', h1, h2, h3⟩ | h1
   ·rw [loopO_inl h1, h3]; exact ih (i + 1) a' (by omega) h2
   ·exact loopO_out h1
 exact gen n 0 a0 (by omega) h0
theorem cut_wipe {α : Type} [Inhabited α] (l : List α) (i : Nat) (h : i ≤ l.length) : cut (wipe l (i : Int) ((l.length : Nat) : Int)) (0 : Int) (i : Int) = l.take i := by
 rw [cut_take, wipe, putL]
 simp only [Int.toNat_natCast]
 rw [List.append_assoc, List.take_append_of_le_length (by simp <;> omega), List.take_of_length_le (by simp <;> omega)]
end Go.Sx
end

section
namespace Go.Proofs.Ytelegonboeacaaa
open Go Go.Sx
set_option linter.unusedVariables false
set_option linter.unusedSimpArgs false
structure EvOk (np : Nat) (e : GEvent) : Prop where
 task : 1 ≤ e.Task ∧ e.Task ≤ 64
 op : 8 ≤ e.Op ∧ e.Op ≤ 22
 obj : 0 ≤ e.Obj ∧ e.Obj ≤ 20
 pipe : e.Op = 14 ∨ e.Op = 15 ∨ e.Op = 16 → e.Obj < ((np : Nat) : Int)
 go : e.Op = 11 → 1 ≤ e.Value ∧ e.Value ≤ 64
def CapsOk (caps : List Int) : Prop := ∀ i, (h : i < caps.length) → 0 ≤ caps[i] ∧ caps[i] ≤ 100
def badP (p : List Int) (i : Nat) : Option Fault := if ix p (i : Int) < 0 ∨ 100 < ix p (i : Int) then some ⟨8, (i : Int)⟩ else none
def badE (np : Nat) (e : GEvent) (i : Int) : Option Fault :=
 if e.Task < 1 ∨ 64 < e.Task then some ⟨3, i⟩
 else if e.Op < 8 ∨ 22 < e.Op then some ⟨4, i⟩
 else if e.Obj < 0 ∨ 20 < e.Obj ∨ ((e.Op = 14 ∨ e.Op = 15 ∨ e.Op = 16) ∧ (np : Int) ≤ e.Obj) then some ⟨5, i⟩
 else if e.Op = 11 ∧ (e.Value < 1 ∨ 64 < e.Value) then some ⟨5, i⟩ else none
def checkF (t : List GEvent) (p : List Int) : Fault :=
 if 2000 < t.length ∨ 20 < p.length then ⟨2, 0⟩
 else (firstAt (badP p) p.length).getD ((firstAt (fun i => badE p.length (ix t (i : Int)) (i : Int)) t.length).getD ⟨0, 0⟩)
theorem bcond {α : Type} {p : Prop} [Decidable p] {b : Bool} (h : b = true ↔ p) (x y : α) : (bif b then x else y) = if p then x else y := by
 by_cases hp : p
 ·rw [if_pos hp, h.2 hp]; rfl
 ·rw [if_neg hp]
  cases b with
  | false => rfl
  | true => exact absurd (h.1 rfl) hp
theorem check_l1 (t : List GEvent) (p : List Int) (ht : t.length ≤ 2000) : loopO (order_Check_l1 t p) 0 = some ((firstAt (fun i => badE p.length (ix t (i : Int)) (i : Int)) t.length).getD ⟨0, 0⟩) := by
 refine loopO_findP (fun i => ((i : Nat) : Int)) _ _ t.length (fun i hi _ => ?_) fun _ => ?_
 ·unfold order_Check_l1 badE
  try simp only
  rw [decide_eq_true (show ((i : Nat) : Int) < ((t.length : Nat) : Int) by omega), decide_eq_true (show (0 : Int) ≤ ((i : Nat) : Int) by omega)]
  simp only [cond_true, Bool.and_self, order_fault, Option.bind_some, Option.map_some]
  generalize ix t ((i : Nat) : Int) = e
  rw [bcond (p := e.Task < 1 ∨ 64 < e.Task) (by simp), bcond (p := e.Op < 8 ∨ 22 < e.Op) (by simp),
   bcond (p := e.Obj < 0 ∨ 20 < e.Obj ∨ ((e.Op = 14 ∨ e.Op = 15 ∨ e.Op = 16) ∧ (p.length : Int) ≤ e.Obj)) (by
    by_cases h1 : e.Op = 14 <;> by_cases h2 : e.Op = 15 <;> by_cases h3 : e.Op = 16 <;> simp [h1, h2, h3]),
   bcond (p := e.Op = 11 ∧ (e.Value < 1 ∨ 64 < e.Value)) (by simp), wrap_n1 i (by omega)]
  split
  ·rfl
  split
  ·rfl
  split
  ·rfl
  split
  ·rfl
  ·rfl
 ·unfold order_Check_l1
  rw [decide_eq_false (show ¬ ((t.length : Nat) : Int) < ((t.length : Nat) : Int) by omega)]
  rfl
theorem check_eq (t : List GEvent) (p : List Int) : order_Check t p = some (checkF t p) := by
 unfold order_Check checkF
 rw [bcond (p := 2000 < t.length ∨ 20 < p.length) (by simp; omega)]
 by_cases h : 2000 < t.length ∨ 20 < p.length
 ·rw [if_pos h, if_pos h]; rfl
 ·rw [if_neg h, if_neg h]
  refine loopO_findP (fun i => ((i : Nat) : Int)) (badP p) _ p.length (fun i hi _ => ?_) fun _ => ?_
  ·unfold order_Check_l2 badP
   try simp only
   rw [decide_eq_true (show ((i : Nat) : Int) < ((p.length : Nat) : Int) by omega), decide_eq_true (show (0 : Int) ≤ ((i : Nat) : Int) by omega)]
   simp only [cond_true, Bool.and_self, order_fault, Option.bind_some, Option.map_some]
   rw [bcond (p := ix p (i : Int) < 0 ∨ 100 < ix p (i : Int)) (by simp), wrap_n1 i (by omega)]
   split
   ·rfl
   ·rfl
  ·unfold order_Check_l2
   rw [decide_eq_false (show ¬ ((p.length : Nat) : Int) < ((p.length : Nat) : Int) by omega), check_l1 t p (by omega)]
   rfl
theorem ref_l1 (t : List GEvent) (p : List Int) (ht : t.length ≤ 2000) : loopO (taskmillref_TraceFault_l1 t p) 0 = some ((firstAt (fun i => badE p.length (ix t (i : Int)) (i : Int)) t.length).getD ⟨0, 0⟩) := by
 refine loopO_findP (fun i => ((i : Nat) : Int)) _ _ t.length (fun i hi _ => ?_) fun _ => ?_
 ·unfold taskmillref_TraceFault_l1 badE
  try simp only
  rw [decide_eq_true (show ((i : Nat) : Int) < ((t.length : Nat) : Int) by omega), decide_eq_true (show (0 : Int) ≤ ((i : Nat) : Int) by omega)]
  simp only [cond_true, Bool.and_self, taskmillref_F, Option.bind_some, Option.map_some]
  generalize ix t ((i : Nat) : Int) = e
  rw [bcond (p := e.Task < 1 ∨ 64 < e.Task) (by simp), bcond (p := e.Op < 8 ∨ 22 < e.Op) (by simp),
   bcond (p := e.Obj < 0 ∨ 20 < e.Obj ∨ ((e.Op = 14 ∨ e.Op = 15 ∨ e.Op = 16) ∧ (p.length : Int) ≤ e.Obj)) (by simp),
   bcond (p := e.Op = 11 ∧ (e.Value < 1 ∨ 64 < e.Value)) (by simp), wrap_n1 i (by omega)]
  split
  ·rfl
  split
  ·rfl
  split
  ·rfl
  split
  ·rfl
  ·rfl
 ·unfold taskmillref_TraceFault_l1
  rw [decide_eq_false (show ¬ ((t.length : Nat) : Int) < ((t.length : Nat) : Int) by omega)]
  rfl
theorem ref_eq (t : List GEvent) (p : List Int) : taskmillref_TraceFault t p = some (checkF t p) := by
 unfold taskmillref_TraceFault checkF
 rw [bcond (p := 2000 < t.length ∨ 20 < p.length) (by simp; omega)]
 by_cases h : 2000 < t.length ∨ 20 < p.length
 ·rw [if_pos h, if_pos h]; rfl
 ·rw [if_neg h, if_neg h]
  refine loopO_findP (fun i => ((i : Nat) : Int)) (badP p) _ p.length (fun i hi _ => ?_) fun _ => ?_
  ·unfold taskmillref_TraceFault_l2 badP
   try simp only
   rw [decide_eq_true (show ((i : Nat) : Int) < ((p.length : Nat) : Int) by omega), decide_eq_true (show (0 : Int) ≤ ((i : Nat) : Int) by omega)]
   simp only [cond_true, Bool.and_self, Bool.or_true, taskmillref_F, Option.bind_some, Option.map_some]
   rw [bcond (p := ix p (i : Int) < 0 ∨ 100 < ix p (i : Int)) (by simp), wrap_n1 i (by omega)]
   split
   ·rfl
   ·rfl
  ·unfold taskmillref_TraceFault_l2
   rw [decide_eq_false (show ¬ ((p.length : Nat) : Int) < ((p.length : Nat) : Int) by omega), ref_l1 t p (by omega)]
   rfl
structure TrOk (t : List GEvent) (p : List Int) : Prop where
 n : t.length ≤ 2000
 np : p.length ≤ 20
 caps : CapsOk p
 ev : ∀ i, (h : i < t.length) → EvOk p.length t[i]
theorem badE_none {np : Nat} {e : GEvent} {i : Int} (h : badE np e i = none) : EvOk np e := by
 unfold badE at h
 split at h
 ·cases h
 ·split at h
  ·cases h
  ·split at h
   ·cases h
   ·split at h
    ·cases h
    ·rename_i h1 h2 h3 h4
     exact ⟨by omega, by omega, by omega, fun h5 => by
      by_cases h6 : e.Obj < (np : Int)
      ·exact h6
      ·exact absurd (.inr (.inr ⟨h5, by omega⟩)) h3, fun h5 => by
      by_cases h6 : 1 ≤ e.Value ∧ e.Value ≤ 64
      ·exact h6
      ·exact absurd ⟨h5, by omega⟩ h4⟩
theorem badE_code {np : Nat} {e : GEvent} {i : Int} {f : Fault} (h : badE np e i = some f) : f.Code ≠ 0 := by
 unfold badE at h
 split at h
 ·cases h; simp
 ·split at h
  ·cases h; simp
  ·split at h
   ·cases h; simp
   ·split at h
    ·cases h; simp
    ·cases h
theorem check_ok {t : List GEvent} {p : List Int} (h : (checkF t p).Code = 0) : TrOk t p ∧ checkF t p = ⟨0, 0⟩ := by
 unfold checkF at h ⊢
 by_cases h0 : 2000 < t.length ∨ 20 < p.length
 ·rw [if_pos h0] at h; simp at h
 ·rw [if_neg h0] at h ⊢
  cases h1 : firstAt (badP p) p.length with
  | some f =>
   obtain ⟨i, a1, a2, a3⟩ := firstAt_some _ h1
   rw [h1] at h
   simp only [Option.getD_some] at h
   unfold badP at a2
   split at a2
   ·cases a2; simp at h
   ·cases a2
  | none =>
   have b1 := (firstAt_none _).1 h1
   rw [h1] at h
   simp only [Option.getD_none] at h ⊢
   cases h2 : firstAt (fun i => badE p.length (ix t (i : Int)) (i : Int)) t.length with
   | some f =>
    obtain ⟨i, a1, a2, a3⟩ := firstAt_some _ h2
    rw [h2] at h
    exact absurd h (badE_code a2)
   | none =>
    have b2 := (firstAt_none _).1 h2
    refine ⟨⟨by omega, by omega, fun i hi => ?_, fun i hi => ?_⟩, rfl⟩
    ·have := b1 i hi
     unfold badP at this
     rw [ix_get hi] at this
     split at this
     ·cases this
     ·rename_i hh; omega
    ·have := badE_none (b2 i hi)
     rwa [ix_get hi] at this
theorem meGet_set {K : Type} [DecidableEq K] (m : List (K × Int)) (k k' : K) (v : Int) : meGet (meSet m k v) k' = if k' = k then v else meGet m k' := by
 induction m with
 | nil =>
  unfold meSet meGet
  rw [List.find?_cons]
  by_cases h : k' = k
  ·subst h; simp
  ·rw [if_neg h, show (k' == k) = false by simpa using h]
 | cons p r ih =>
  unfold meSet
  by_cases h : k = p.1
  ·rw [show (k == p.1) = true by simpa using h, cond_true]
   unfold meGet
   rw [List.find?_cons, List.find?_cons]
   by_cases h2 : k' = k
   ·subst h2; simp
   ·have h3 : ¬ k' = p.1 := fun e => h2 (e.trans h.symm)
    rw [if_neg h2, show (k' == k) = false by simpa using h2, show (k' == p.1) = false by simpa using h3]
  ·rw [show (k == p.1) = false by simpa using h, cond_false]
   unfold meGet at ih ⊢
   rw [List.find?_cons, List.find?_cons]
   by_cases h2 : k' = p.1
   ·have h3 : ¬ k' = k := fun e => h (e.symm.trans h2)
    rw [show (k' == p.1) = true by simpa using h2, if_neg h3]
   ·rw [show (k' == p.1) = false by simpa using h2]
    exact ih
theorem del_gen2 {α : Type} [Enc α] (l : List α) (keep : α → Bool) {step : Int × Int × List α → Option ((Int × Int × List α) ⊕ (List α))}
  (h1 : ∀ (i j : Nat) (c : List α), i < j → j < c.length → c.length = l.length → keep (ix c (j : Int)) = false → step ((i : Int), (j : Int), c) = some (.inl ((i : Int), ((j + 1 : Nat) : Int), c)))
  (h2 : ∀ (i j : Nat) (c : List α), i < j → j < c.length → c.length = l.length → keep (ix c (j : Int)) = true → step ((i : Int), (j : Int), c) = some (.inl (((i + 1 : Nat) : Int), ((j + 1 : Nat) : Int), c.set i (ix c (j : Int)))))
  (h3 : ∀ (i : Nat) (c : List α), i ≤ c.length → c.length = l.length → step ((i : Int), ((c.length : Nat) : Int), c) = some (.inr (cut (wipe c (i : Int) ((c.length : Nat) : Int)) (0 : Int) (i : Int))))
  (n : Nat) (hn : n < l.length) (hk : keep l[n] = false) (hk2 : ∀ x ∈ l.take n, keep x = true) : loopO step ((n : Int), ((n + 1 : Nat) : Int), l) = some (l.filter keep) := by
 have htake : (l.take (n + 1)).filter keep = l.take n := by
  rw [List.take_succ_eq_append_getElem hn, List.filter_append, List.filter_eq_self.2 hk2]
  simp [hk]
 obtain ⟨r, hr, rfl⟩ := loopO_inv (step := step) (fun s => ∃ (i j : Nat) (c : List α), s = ((i : Int), (j : Int), c) ∧ c.length = l.length ∧ i < j ∧ j ≤ l.length ∧ c.take i = (l.take j).filter keep ∧ c.drop j = l.drop j) (fun s => l.length - s.2.1.toNat) (fun r => r = l.filter keep) (fun s hs => by
  obtain ⟨i, j, c, rfl, hcl, hij, hjl, ht, hd⟩ := hs
  by_cases hj : j < l.length
  ·left
   have hcj : ix c (j : Int) = l[j] := by
    rw [ix_get (by omega)]
    have h1 : c[j]? = l[j]? := by
     have := congrArg (fun x => x[0]?) hd
     simpa [List.getElem?_drop] using this
    rw [List.getElem?_eq_getElem (by omega), List.getElem?_eq_getElem hj] at h1
    exact Option.some.inj h1
   have hdrop : ∀ m, j < m → c.drop m = l.drop m := fun m hm => by
    have := congrArg (fun x => x.drop (m - j)) hd
    simp only [List.drop_drop] at this
    rwa [show j + (m - j) = m by omega] at this
   cases hkj : keep l[j] with
   | false =>
    refine ⟨((i : Int), ((j + 1 : Nat) : Int), c), h1 i j c hij (by omega) hcl (by rw [hcj]; exact hkj), ⟨i, j + 1, c, rfl, hcl, by omega, by omega, ?_, hdrop _ (by omega)⟩, by simp only [Int.toNat_natCast]; omega⟩
    rw [List.take_succ_eq_append_getElem hj, List.filter_append, ← ht]
    simp [hkj]
   | true =>
    refine ⟨(((i + 1 : Nat) : Int), ((j + 1 : Nat) : Int), c.set i (ix c (j : Int))), h2 i j c hij (by omega) hcl (by rw [hcj]; exact hkj), ⟨i + 1, j + 1, c.set i (ix c (j : Int)), rfl, by simpa using hcl, by omega, by omega, ?_, ?_⟩, by simp only [Int.toNat_natCast]; omega⟩
    ·rw [List.take_succ_eq_append_getElem hj, List.filter_append, ← ht, List.take_succ_eq_append_getElem (by simp; omega), List.take_set_of_le (by omega), hcj]
     simp [hkj]
    ·rw [List.drop_set_of_lt (by omega)]
     exact hdrop _ (by omega)
  ·right
   have hjl' : j = c.length := by omega
   subst hjl'
   refine ⟨_, h3 i c (by omega) hcl, ?_⟩
   rw [cut_wipe c i (by omega), ht, hcl, List.take_length]) (s0 := ((n : Int), ((n + 1 : Nat) : Int), l)) ⟨n, n + 1, l, rfl, rfl, by omega, by omega, htake.symm, rfl⟩
 exact hr
theorem contains_eq (l : List Int) (n : Int) (hn : l.length < 4611686018427387904) : slices_Contains_int l n = some (decide (n ∈ l)) := by
 unfold slices_Contains_int slices_Index_int
 obtain ⟨r, h1, h2, h3⟩ := index_gen l n hn (fun i => rfl : ∀ i, slices_Index_int_l1 l n i = _)
 rw [h1]
 by_cases h : n ∈ l
 ·obtain ⟨i, rfl, _⟩ := h2 h
  simp [h]
 ·rw [h3 h]; simp [h]
theorem sx {α : Type} {xs : List α} {i : Nat} (h : i < xs.length) : decide (((i : Nat) : Int) < ((xs.length : Nat) : Int)) = true := decide_eq_true (by omega)
theorem t2 (i : Nat) : decide ((0 : Int) ≤ ((i : Nat) : Int)) = true := decide_eq_true (by omega)
theorem cl_eq (l : Int) (f : List Int) (hf : f.length ≤ 100) : race_Guards_1 l f = some (!decide (l ∈ f)) := by
 unfold race_Guards_1
 rw [contains_eq f l (by omega)]; rfl
theorem del_eq (c f : List Int) (hn : c.length ≤ 100) (hf : f.length ≤ 100) : slices_DeleteFunc_int_2 c f = some (c.filter (fun x => decide (x ∈ f))) := by
 have hstep : ∀ i : Nat, i < c.length → slices_IndexFunc_int_l1 c f (i : Int) = bif (!decide (ix c (i : Int) ∈ f)) then some (.inr (i : Int)) else some (.inl ((i + 1 : Nat) : Int)) := fun i hi => by
  simp only [slices_IndexFunc_int_l1, sx hi, t2, cond_true, Bool.and_true, cl_eq _ f hf, Option.bind_some, wrap_n1 i (show i < 4611686018427387904 by omega), Option.map_some]
 have hidx := loopO_if (step := slices_IndexFunc_int_l1 c f) (fun i => ((i : Nat) : Int)) (fun i => !decide (ix c (i : Int) ∈ f)) (fun i => some (i : Int)) (some (-1)) c.length (fun i hi hp => by rw [hstep i hi, hp]; rfl) (fun i hi hp => by rw [hstep i hi, hp]; rfl) (fun _ => by simp [slices_IndexFunc_int_l1])
 unfold slices_DeleteFunc_int_2 slices_IndexFunc_int
 rw [show ((0 : Nat) : Int) = 0 from rfl] at hidx
 rw [hidx]
 cases hf2 : firstIf (fun i => !decide (ix c (i : Int) ∈ f)) c.length with
 | none =>
  have := firstIf_none.1 hf2
  simp only [Option.bind_some, show ((-1 : Int) == -1) = true from rfl, cond_true]
  rw [List.filter_eq_self.2 fun x hx => ?_]
  obtain ⟨i, hi, rfl⟩ := List.getElem_of_mem hx
  have := this i hi
  rw [ix_get hi] at this
  simpa using this
 | some n =>
  obtain ⟨g1, g2, g3⟩ := firstIf_some hf2
  have e0 : (((n : Nat) : Int) == -1) = false := by simp
  simp only [Option.bind_some, e0, cond_false]
  rw [wrap_n1 n (by omega)]
  rw [ix_get g1] at g2
  refine del_gen2 c (fun x => decide (x ∈ f)) (fun i j d hij hj hd hk => ?_) (fun i j d hij hj hd hk => ?_) (fun i d hi hd => ?_) n g1 (by simpa using g2) (fun x hx => ?_)
  ·simp only [slices_DeleteFunc_int_2_l1, sx hj, t2, cond_true, Bool.and_true, cl_eq _ f hf, Option.bind_some, hk, Bool.not_false, Bool.not_true, cond_false, slices_DeleteFunc_int_2_j1, wrap_n1 j (show j < 4611686018427387904 by omega)]
  ·simp only [slices_DeleteFunc_int_2_l1, sx hj, sx (show i < d.length by omega), t2, cond_true, Bool.and_true, cl_eq _ f hf, Option.bind_some, hk, Bool.not_true, Bool.not_false, slices_DeleteFunc_int_2_j1, wrap_n1 j (show j < 4611686018427387904 by omega), wrap_n1 i (show i < 4611686018427387904 by omega), Int.toNat_natCast]
  ·have hwl : (wipe d (i : Int) ((d.length : Nat) : Int)).length = d.length := wipe_len (by omega)
   simp only [slices_DeleteFunc_int_2_l1, decide_eq_false (show ¬ ((d.length : Nat) : Int) < ((d.length : Nat) : Int) by omega), cond_false, t2, decide_eq_true (show ((i : Nat) : Int) ≤ ((d.length : Nat) : Int) by omega), hwl, Bool.and_true, cond_true, Option.map_some]
  ·obtain ⟨i, hi, rfl⟩ := List.mem_take_iff_getElem.1 hx
   have := g3 i (by omega)
   rw [ix_get (by omega)] at this
   simpa using this
def hc (t : List GEvent) (a l : Int) : Nat → Int
 | 0 => 0
 | n + 1 => if (ix t (n : Int)).Task = a ∧ (ix t (n : Int)).Obj = l then
   if (ix t (n : Int)).Op = 17 then hc t a l n + 1
   else if (ix t (n : Int)).Op = 18 ∧ 0 < hc t a l n then hc t a l n - 1 else hc t a l n
  else hc t a l n
theorem hc_le (t : List GEvent) (a l : Int) : ∀ n : Nat, 0 ≤ hc t a l n ∧ hc t a l n ≤ (n : Int)
 | 0 => ⟨Int.le_refl _, Int.le_refl _⟩
 | n + 1 => by
  have := hc_le t a l n
  unfold hc
  split
  ·split
   ·omega
   ·split
    ·omega
    ·omega
  ·omega
def acc (t : List GEvent) (n : Nat) : Bool := (ix t (n : Int)).Op == 12 || (ix t (n : Int)).Op == 13
def cel (t : List GEvent) : Nat → Nat
 | 0 => 0
 | n + 1 => if acc t n then max (cel t n) ((ix t (n : Int)).Obj.toNat + 1) else cel t n
def hb (t : List GEvent) (c l : Int) : Nat → Bool
 | 0 => true
 | n + 1 => if acc t n = true ∧ (ix t (n : Int)).Obj = c then hb t c l n && decide (0 < hc t (ix t (n : Int)).Task l n) else hb t c l n
def sb (t : List GEvent) (c : Int) : Nat → Bool
 | 0 => false
 | n + 1 => if acc t n = true ∧ (ix t (n : Int)).Obj = c then true else sb t c n
theorem hb_new (t : List GEvent) (c l : Int) : ∀ n : Nat, sb t c n = false → hb t c l n = true
 | 0, _ => rfl
 | n + 1, h => by
  unfold sb at h; unfold hb
  split at h
  ·cases h
  ·rename_i h1; rw [if_neg h1]; exact hb_new t c l n h
theorem sb_hi (t : List GEvent) (c : Nat) : ∀ n : Nat, (∀ i, i < n → 0 ≤ (ix t (i : Int)).Obj) → cel t n ≤ c → sb t (c : Int) n = false
 | 0, _, _ => rfl
 | n + 1, hv, h => by
  have h0 := hv n (by omega)
  unfold cel at h; unfold sb
  split at h
  ·rename_i ha
   rw [if_neg (fun hh => by omega)]
   exact sb_hi t c n (fun i hi => hv i (by omega)) (by omega)
  ·rename_i ha
   rw [if_neg (fun hh => ha hh.1)]
   exact sb_hi t c n (fun i hi => hv i (by omega)) h
def locks : List Int := (List.range 21).map fun k => ((k : Nat) : Int)
def G (t : List GEvent) (c : Int) (n : Nat) : List Int := if sb t c n = true then locks.filter (fun l => hb t c l n) else []
def held (t : List GEvent) (n : Nat) : List Int := locks.filter (fun l => decide (0 < hc t (ix t (n : Int)).Task l n))
theorem locks_le (p : Int → Bool) : (locks.filter p).length ≤ 21 := by
 have := List.length_filter_le p locks
 have e : locks.length = 21 := rfl
 omega
theorem G_le (t : List GEvent) (c : Int) (n : Nat) : (G t c n).length ≤ 21 := by
 unfold G
 split
 ·exact locks_le _
 ·exact Nat.zero_le _
def outG (t : List GEvent) (n : Nat) : List (List Int) := (List.range (cel t n)).map fun c => G t ((c : Nat) : Int) n
theorem cel_le (t : List GEvent) : ∀ n : Nat, (∀ i, i < n → (ix t (i : Int)).Obj ≤ 20) → cel t n ≤ 21
 | 0, _ => Nat.zero_le _
 | n + 1, h => by
  have h0 := h n (by omega)
  have h1 := cel_le t n (fun i hi => h i (by omega))
  unfold cel
  split
  ·omega
  ·exact h1
end Go.Proofs.Ytelegonboeacaaa
end

section
namespace Go.Proofs.Ytelegonboeacaaa
open Go Go.Sx
set_option linter.unusedVariables false
set_option linter.unusedSimpArgs false
theorem held_loop {σ : Type} (p : Int → Bool) {step : Int × List Int → Option ((Int × List Int) ⊕ σ)} (R : Option σ)
  (h1 : ∀ (i : Nat) (l : List Int), i < 21 → l.length ≤ 21 → step ((i : Int), l) = some (.inl (((i + 1 : Nat) : Int), if p (i : Int) = true then l ++ [(i : Int)] else l)))
  (h2 : step (21, locks.filter p) = R.map .inr) : loopO step (0, []) = R := by
 refine loopO_up (A := Unit) 21 (fun i _ => ((i : Int), ((List.range i).map fun k => ((k : Nat) : Int)).filter p)) (fun _ _ => True) (fun _ _ => R) (fun _ _ => h2) (fun i _ hi _ => .inl ⟨(), ?_, trivial, rfl⟩) () trivial
 rw [h1 i _ hi (by
  have := List.length_filter_le p ((List.range i).map fun k => ((k : Nat) : Int))
  rw [List.length_map, List.length_range] at this; omega)]
 rw [List.range_succ, List.map_append, List.filter_append]
 cases hp : p (i : Int) with
 | true => simp [hp]
 | false => simp [hp]
theorem grow_loop {σ : Type} (m : Nat) (hm : m ≤ 1000) {step : List (List Int) → Option (List (List Int) ⊕ σ)} (R : Option σ)
  (h1 : ∀ l : List (List Int), l.length < m → step l = some (.inl (l ++ [[]])))
  (o : List (List Int)) (ho : o.length ≤ m) (h2 : step (o ++ List.replicate (m - o.length) []) = R.map .inr) : loopO step o = R := by
 have := loopO_up (A := Unit) (step := step) (m - o.length) (fun i _ => o ++ List.replicate i []) (fun _ _ => True) (fun _ _ => R) (fun _ _ => h2) (fun i _ hi _ => .inl ⟨(), ?_, trivial, rfl⟩) () trivial
 ·simpa using this
 ·rw [h1 _ (by simp; omega), List.append_assoc]
  congr 3
  rw [List.replicate_succ']
theorem outG_grow (t : List GEvent) (n m : Nat) (hm : cel t n ≤ m) (hv : ∀ i, i < n → 0 ≤ (ix t (i : Int)).Obj) : outG t n ++ List.replicate (m - (outG t n).length) [] = (List.range m).map fun c => G t ((c : Nat) : Int) n := by
 have hl : (outG t n).length = cel t n := by simp [outG]
 apply List.ext_getElem
 ·simp [hl]; omega
 intro i g1 g2
 have g3 : i < m := by simpa using g2
 rw [List.getElem_map, List.getElem_range]
 by_cases h : i < cel t n
 ·rw [List.getElem_append_left (by omega)]
  unfold outG
  rw [List.getElem_map, List.getElem_range]
 ·rw [List.getElem_append_right (by omega), List.getElem_replicate]
  unfold G
  rw [sb_hi t i n hv (by omega)]
  rfl
structure St (t : List GEvent) (n : Nat) (a : List (hold × Int) × List (Int × Int)) : Prop where
 m : ∀ x l, meGet a.1 ⟨x, l⟩ = hc t x l n
 s : ∀ c, miGet a.2 c = if sb t c n = true then 1 else 0
theorem outG_same {t : List GEvent} {n : Nat} (h : acc t n = false) : outG t (n + 1) = outG t n ∧ cel t (n + 1) = cel t n := by
 have h1 : cel t (n + 1) = cel t n := by
  show (if acc t n = true then _ else _) = _
  rw [h]; rfl
 refine ⟨?_, h1⟩
 unfold outG
 rw [h1]
 apply List.map_congr_left
 intro c _
 have h2 : sb t c (n + 1) = sb t c n := by
  show (if acc t n = true ∧ _ then _ else _) = _
  rw [h]; simp
 have h3 : ∀ l, hb t c l (n + 1) = hb t c l n := fun l => by
  show (if acc t n = true ∧ _ then _ else _) = _
  rw [h]; simp
 unfold G
 simp only [h2, h3]
theorem St_same {t : List GEvent} {n : Nat} {a : List (hold × Int) × List (Int × Int)} (h : acc t n = false) (hs : ∀ c, miGet a.2 c = if sb t c n = true then 1 else 0) : ∀ c, miGet a.2 c = if sb t c (n + 1) = true then 1 else 0 := fun c => by
 have h2 : sb t c (n + 1) = sb t c n := by
  show (if acc t n = true ∧ _ then _ else _) = _
  rw [h]; simp
 rw [h2]; exact hs c
theorem G_next {t : List GEvent} {n : Nat} (h : acc t n = true) (c : Int) : G t c (n + 1) = if c = (ix t (n : Int)).Obj then (if sb t c n = true then (G t c n).filter (fun x => decide (x ∈ held t n)) else held t n) else G t c n := by
 by_cases hcc : c = (ix t (n : Int)).Obj
 ·rw [if_pos hcc]
  have h2 : sb t c (n + 1) = true := by
   show (if acc t n = true ∧ _ then _ else _) = _
   rw [if_pos ⟨h, hcc.symm⟩]
  have h3 : ∀ l, hb t c l (n + 1) = (hb t c l n && decide (0 < hc t (ix t (n : Int)).Task l n)) := fun l => by
   show (if acc t n = true ∧ _ then _ else _) = _
   rw [if_pos ⟨h, hcc.symm⟩]
  unfold G
  rw [h2]
  simp only [h3, if_true]
  by_cases hs : sb t c n = true
  ·rw [hs]
   simp only [if_true]
   rw [List.filter_filter]
   apply List.filter_congr
   intro x hx
   unfold held
   simp only [List.mem_filter, hx, true_and, decide_eq_true_eq]
   rw [Bool.and_comm]
  ·have hs' : sb t c n = false := by simpa using hs
   rw [hs']
   simp only [Bool.false_eq_true, if_false]
   unfold held
   apply List.filter_congr
   intro x hx
   rw [hb_new t c x n hs', Bool.true_and]
 ·rw [if_neg hcc]
  have h2 : sb t c (n + 1) = sb t c n := by
   show (if acc t n = true ∧ _ then _ else _) = _
   rw [if_neg (fun hh => hcc hh.2.symm)]
  have h3 : ∀ l, hb t c l (n + 1) = hb t c l n := fun l => by
   show (if acc t n = true ∧ _ then _ else _) = _
   rw [if_neg (fun hh => hcc hh.2.symm)]
  unfold G
  simp only [h2, h3]
theorem guards_step {t : List GEvent} {p : List Int} (h : TrOk t p) {n : Nat} (hn : n < t.length) (a : List (hold × Int) × List (Int × Int)) (ha : St t n a) :
  ∃ a', race_Guards_l3 t (((cel t n : Nat) : Int), ((n : Nat) : Int), a.1, outG t n, a.2) = some (.inl (((cel t (n + 1) : Nat) : Int), ((n + 1 : Nat) : Int), a'.1, outG t (n + 1), a'.2)) ∧ St t (n + 1) a' := by
 obtain ⟨m, s⟩ := a
 have hT := h.n
 have hv : ∀ i, i < t.length → EvOk p.length (ix t (i : Int)) := fun i hi => by rw [ix_get hi]; exact h.ev i hi
 have he := hv n hn
 have hc0 : ∀ x l, 0 ≤ hc t x l n ∧ hc t x l n ≤ (n : Int) := fun x l => hc_le t x l n
 have hcel : cel t n ≤ 21 := cel_le t n fun i hi => (hv i (by omega)).obj.2
 unfold race_Guards_l3
 try simp only
 rw [decide_eq_true (show ((n : Nat) : Int) < ((t.length : Nat) : Int) by omega), t2]
 simp only [cond_true, Bool.and_self]
 by_cases h17 : (ix t (n : Int)).Op = 17
 ·rw [show ((ix t (n : Int)).Op == 17) = true by simpa using h17, cond_true]
  have hac : acc t n = false := by unfold acc; rw [h17]; rfl
  obtain ⟨e1, e2⟩ := outG_same hac
  refine ⟨(meSet m ⟨(ix t (n : Int)).Task, (ix t (n : Int)).Obj⟩ (hc t (ix t (n : Int)).Task (ix t (n : Int)).Obj n + 1), s), ?_, ⟨fun x l => ?_, St_same (a := (m, s)) hac ha.s⟩⟩
  ·unfold race_Guards_j1
   have hm := ha.m (ix t (n : Int)).Task (ix t (n : Int)).Obj
   simp only at hm
   have := hc0 (ix t (n : Int)).Task (ix t (n : Int)).Obj
   rw [e1, e2, wrap_n1 n (by omega), hm, wrap_id (by omega) (by omega)]
  ·simp only
   rw [meGet_set, ha.m x l]
   show _ = if (ix t (n : Int)).Task = x ∧ (ix t (n : Int)).Obj = l then _ else _
   by_cases hk : (ix t (n : Int)).Task = x ∧ (ix t (n : Int)).Obj = l
   ·obtain ⟨rfl, rfl⟩ := hk
    simp [h17]
   ·rw [if_neg hk, if_neg (fun hh => hk (by injection hh with q1 q2; exact ⟨q1.symm, q2.symm⟩))]
 rw [show ((ix t (n : Int)).Op == 17) = false by simpa using h17, cond_false]
 by_cases h18 : (ix t (n : Int)).Op = 18
 ·rw [show ((ix t (n : Int)).Op == 18) = true by simpa using h18, cond_true]
  have hac : acc t n = false := by unfold acc; rw [h18]; rfl
  obtain ⟨e1, e2⟩ := outG_same hac
  refine ⟨(meSet m ⟨(ix t (n : Int)).Task, (ix t (n : Int)).Obj⟩ (max (0 : Int) (hc t (ix t (n : Int)).Task (ix t (n : Int)).Obj n - 1)), s), ?_, ⟨fun x l => ?_, St_same (a := (m, s)) hac ha.s⟩⟩
  ·unfold race_Guards_j1
   have hm := ha.m (ix t (n : Int)).Task (ix t (n : Int)).Obj
   simp only at hm
   have := hc0 (ix t (n : Int)).Task (ix t (n : Int)).Obj
   rw [e1, e2, wrap_n1 n (by omega), hm, wrap_id (by omega) (by omega)]
  ·simp only
   rw [meGet_set, ha.m x l]
   show _ = if (ix t (n : Int)).Task = x ∧ (ix t (n : Int)).Obj = l then _ else _
   by_cases hk : (ix t (n : Int)).Task = x ∧ (ix t (n : Int)).Obj = l
   ·obtain ⟨rfl, rfl⟩ := hk
    have := hc0 (ix t (n : Int)).Task (ix t (n : Int)).Obj
    simp only [h17, h18, if_true, and_self, true_and, if_false, show ¬ (18 : Int) = 17 by decide]
    split <;> omega
   ·rw [if_neg hk, if_neg (fun hh => hk (by injection hh with q1 q2; exact ⟨q1.symm, q2.symm⟩))]
 rw [show ((ix t (n : Int)).Op == 18) = false by simpa using h18, cond_false]
 have hsame : ∀ x l, hc t x l (n + 1) = hc t x l n := fun x l => by
  show (if (ix t (n : Int)).Task = x ∧ (ix t (n : Int)).Obj = l then _ else _) = _
  by_cases hq : (ix t (n : Int)).Task = x ∧ (ix t (n : Int)).Obj = l
  ·rw [if_pos hq, if_neg h17, if_neg (fun hh => h18 hh.1)]
  ·rw [if_neg hq]
 show ∃ a', ((some (acc t n)).bind fun r1405 => _) = _ ∧ _
 rw [Option.bind_some]
 cases hac : acc t n with
 | false =>
  rw [cond_false]
  obtain ⟨e1, e2⟩ := outG_same hac
  refine ⟨(m, s), ?_, ⟨fun x l => by rw [hsame]; exact ha.m x l, St_same (a := (m, s)) hac ha.s⟩⟩
  unfold race_Guards_j1
  rw [e1, e2, wrap_n1 n (by omega)]
 | true =>
  rw [cond_true]
  obtain ⟨k, hk⟩ : ∃ k : Nat, (ix t (n : Int)).Obj = ((k : Nat) : Int) := ⟨(ix t (n : Int)).Obj.toNat, by have := he.obj; omega⟩
  have hk20 : k ≤ 20 := by have := he.obj; omega
  have hc1 : cel t (n + 1) = max (cel t n) (k + 1) := by
   show (if acc t n = true then _ else _) = _
   rw [if_pos hac, hk, Int.toNat_natCast]
  have hmax : max (((cel t n : Nat) : Int)) (IntKind.i64.wrap (((k : Nat) : Int) + 1)) = ((cel t (n + 1) : Nat) : Int) := by
   rw [hc1, wrap_n1 k (by omega)]; omega
  have hlen : (outG t n).length = cel t n := by simp [outG]
  have hgrow := outG_grow t n (cel t (n + 1)) (by omega) (fun i hi => (hv i (by omega)).obj.1)
  have hHl : (held t n).length ≤ 100 := by have := locks_le (fun l => decide (0 < hc t (ix t (n : Int)).Task l n)); unfold held; omega
  have hset : ∀ X, X = (if sb t ((k : Nat) : Int) n = true then (G t ((k : Nat) : Int) n).filter (fun x => decide (x ∈ held t n)) else held t n) →
    ((List.range (cel t (n + 1))).map fun c => G t ((c : Nat) : Int) n).set k X = outG t (n + 1) := fun X hX => by
   apply List.ext_getElem
   ·simp [outG]
   intro i g1 g2
   have er : (outG t (n + 1))[i] = G t ((i : Nat) : Int) (n + 1) := by simp [outG]
   rw [er, List.getElem_set, List.getElem_map, List.getElem_range, G_next hac]
   by_cases hik : k = i
   ·subst hik
    rw [if_pos rfl, hk, if_pos rfl, hX]
   ·rw [if_neg hik, hk, if_neg (by omega)]
  have hkl : k < ((List.range (cel t (n + 1))).map fun c => G t ((c : Nat) : Int) n).length := by simp; omega
  have hsb : ∀ c, sb t c (n + 1) = if c = ((k : Nat) : Int) then true else sb t c n := fun c => by
   show (if acc t n = true ∧ _ then _ else _) = _
   rw [hk]
   by_cases hck : c = ((k : Nat) : Int)
   ·rw [if_pos ⟨hac, hck.symm⟩, if_pos hck]
   ·rw [if_neg (fun hh => hck hh.2.symm), if_neg hck]
  refine ⟨(m, if sb t ((k : Nat) : Int) n = true then s else miSet s ((k : Nat) : Int) 1), ?_, ⟨fun x l => by rw [hsame]; exact ha.m x l, fun c => ?_⟩⟩
  ·refine grow_loop (cel t (n + 1)) (by omega) _ (fun l hl => ?_) (outG t n) (by omega) ?_
   ·unfold race_Guards_l2
    rw [hk, hmax, decide_eq_true (show ((l.length : Nat) : Int) < ((cel t (n + 1) : Nat) : Int) by omega), cond_true, decide_eq_true (by rw [List.length_append]; simp; omega), cond_true]
   ·rw [hgrow]
    generalize ho : ((List.range (cel t (n + 1))).map fun c => G t ((c : Nat) : Int) n) = o at hset hkl ⊢
    have hol : o.length = cel t (n + 1) := by rw [← ho]; simp
    have hok : ixD o ((k : Nat) : Int) = G t ((k : Nat) : Int) n := by
     rw [ixD_nat, List.getD_eq_getElem?_getD, List.getElem?_eq_getElem hkl]
     subst ho; simp
    unfold race_Guards_l2
    rw [hk, hmax, decide_eq_false (show ¬ ((o.length : Nat) : Int) < ((cel t (n + 1) : Nat) : Int) by omega), cond_false]
    refine congrArg (Option.map Sum.inr) (held_loop (fun l => decide (0 < hc t (ix t (n : Int)).Task l n)) _ (fun i l hi hl => ?_) ?_)
    ·unfold race_Guards_l1 race_Guards_j2
     try simp only
     rw [decide_eq_true (show ((i : Nat) : Int) < 21 by omega), cond_true]
     have hm := ha.m (ix t (n : Int)).Task ((i : Nat) : Int)
     simp only at hm
     rw [hm, decide_eq_true (show (l ++ ([((i : Nat) : Int)] : List Int)).length * 8 ≤ 140737488355328 by rw [List.length_append]; simp; omega), wrap_n1 i (by omega), cond_true]
     cases hp : decide (0 < hc t (ix t (n : Int)).Task ((i : Nat) : Int) n) with
     | true => rw [cond_true, if_pos rfl]
     | false => rw [cond_false, if_neg (by simp)]
    ·unfold race_Guards_l1
     try simp only
     rw [decide_eq_false (show ¬ (21 : Int) < 21 by omega), cond_false, hk, hmax]
     refine congrArg (Option.map Sum.inr) ?_
     have hms := ha.s ((k : Nat) : Int)
     simp only at hms
     rw [hms, t2, decide_eq_true (show ((k : Nat) : Int) < ((o.length : Nat) : Int) by omega), Bool.and_self, cond_true, cond_true, hok]
     unfold race_Guards_j1
     rw [wrap_n1 n (by omega), Int.toNat_natCast]
     by_cases hs : sb t ((k : Nat) : Int) n = true
     ·rw [if_pos hs, if_pos hs, show ((1 : Int) == 0) = false from rfl, cond_false]
      change ((slices_DeleteFunc_int_2 (G t ((k : Nat) : Int) n) (held t n)).bind _) = _
      rw [del_eq _ _ (by have := G_le t ((k : Nat) : Int) n; omega) hHl, Option.bind_some, cond_true, hset _ (by rw [if_pos hs])]
     ·rw [if_neg hs, if_neg hs, show ((0 : Int) == 0) = true from rfl, cond_true]
      rw [hset _ (by rw [if_neg hs]; rfl)]
  ·simp only
   have hms := ha.s c
   simp only at hms
   rw [hsb]
   by_cases hs : sb t ((k : Nat) : Int) n = true
   ·rw [if_pos hs, hms]
    by_cases hck : c = ((k : Nat) : Int)
    ·subst hck; rw [if_pos hs]; simp
    ·rw [if_neg hck]
   ·rw [if_neg hs, miGet_set, hms]
    by_cases hck : c = ((k : Nat) : Int)
    ·rw [if_pos hck, if_pos hck]; simp
    ·rw [if_neg hck, if_neg hck]
theorem guards_eq {t : List GEvent} {p : List Int} (h : (checkF t p).Code = 0) : race_Guards t p = some (⟨0, 0⟩, outG t t.length) := by
 obtain ⟨h1, h2⟩ := check_ok h
 unfold race_Guards
 rw [check_eq, h2]
 simp only [Option.bind_some, bne_self_eq_false, cond_false]
 refine loopO_up (A := List (hold × Int) × List (Int × Int)) t.length (fun i a => (((cel t i : Nat) : Int), ((i : Nat) : Int), a.1, outG t i, a.2)) (fun i a => St t i a) (fun _ _ => some ((⟨0, 0⟩ : Fault), outG t t.length)) (fun a _ => ?_) (fun i a hi ha => .inl ?_) ([], []) ⟨fun _ _ => rfl, fun _ => rfl⟩
 ·unfold race_Guards_l3
  try simp only
  rw [decide_eq_false (show ¬ ((t.length : Nat) : Int) < ((t.length : Nat) : Int) by omega)]
  rfl
 ·obtain ⟨a', g1, g2⟩ := guards_step h1 hi a ha
  exact ⟨a', g1, g2, rfl⟩
theorem guards_bad {t : List GEvent} {p : List Int} (h : (checkF t p).Code ≠ 0) : race_Guards t p = some (checkF t p, []) := by
 unfold race_Guards
 rw [check_eq]
 simp only [Option.bind_some]
 rw [show ((checkF t p).Code != 0) = true by simpa using h]; rfl
theorem holds_eq {t : List GEvent} (hT : t.length ≤ 2000) {n : Nat} (hn : n < t.length) (l : Int) : taskmillref_Holds t (n : Int) l = some (hc t (ix t (n : Int)).Task l n) := by
 unfold taskmillref_Holds
 refine loopO_up (A := Unit) n (fun i _ => (hc t (ix t (n : Int)).Task l i, ((i : Nat) : Int))) (fun _ _ => True) (fun _ _ => some (hc t (ix t (n : Int)).Task l n)) (fun _ _ => ?_) (fun i _ hi _ => .inl ⟨(), ?_, trivial, rfl⟩) () trivial
 ·unfold taskmillref_Holds_l1
  try simp only
  rw [decide_eq_false (show ¬ ((n : Nat) : Int) < ((n : Nat) : Int) by omega)]
  rfl
 ·unfold taskmillref_Holds_l1 taskmillref_Holds_j2 taskmillref_Holds_j1
  try simp only
  have hh := hc_le t (ix t (n : Int)).Task l i
  rw [decide_eq_true (show ((i : Nat) : Int) < ((n : Nat) : Int) by omega), sx (show i < t.length by omega), sx hn, t2, t2, wrap_n1 i (by omega)]
  simp only [cond_true, Bool.and_self, Bool.or_true]
  show _ = some (Sum.inl ((if (ix t (i : Int)).Task = (ix t (n : Int)).Task ∧ (ix t (i : Int)).Obj = l then
   if (ix t (i : Int)).Op = 17 then hc t (ix t (n : Int)).Task l i + 1
   else if (ix t (i : Int)).Op = 18 ∧ 0 < hc t (ix t (n : Int)).Task l i then hc t (ix t (n : Int)).Task l i - 1 else hc t (ix t (n : Int)).Task l i
   else hc t (ix t (n : Int)).Task l i), ((i + 1 : Nat) : Int)))
  rw [bcond (p := ¬ ((ix t (i : Int)).Task = (ix t (n : Int)).Task ∧ (ix t (i : Int)).Obj = l)) (by
   by_cases q1 : (ix t (i : Int)).Task = (ix t (n : Int)).Task <;> by_cases q2 : (ix t (i : Int)).Obj = l <;> simp [q1, q2])]
  by_cases hk : (ix t (i : Int)).Task = (ix t (n : Int)).Task ∧ (ix t (i : Int)).Obj = l
  ·rw [if_neg (by simpa using hk), if_pos hk]
   by_cases h17 : (ix t (i : Int)).Op = 17
   ·rw [if_pos h17, h17]
    simp only [beq_self_eq_true, cond_true, show ((17 : Int) == 18) = false from rfl, Bool.false_and, cond_false]
    rw [wrap_id (by omega) (by omega)]
   ·rw [if_neg h17, show ((ix t (i : Int)).Op == 17) = false by simpa using h17, cond_false]
    rw [bcond (p := (ix t (i : Int)).Op = 18 ∧ 0 < hc t (ix t (n : Int)).Task l i) (by simp)]
    rw [wrap_id (x := hc t (ix t (n : Int)).Task l i - 1) (by omega) (by omega)]
    split
    ·rfl
    ·rfl
  ·rw [if_pos hk, if_neg hk]
theorem law_l1 {t : List GEvent} {p : List Int} (h : TrOk t p) (cs : Int) (o : List (List Int)) (c : Nat) (l : Nat) (hl : l ≤ 20) (w : List Int) (hw : w.length ≤ 21) :
  loopO (taskmilllaw_RaceGuards_l1 t cs o (c : Int) (l : Int) w) (true, false, 0) = some (.inl (((l + 1 : Nat) : Int), if (hb t (c : Int) (l : Int) t.length && sb t (c : Int) t.length) = true then w ++ [(l : Int)] else w)) := by
 have hT := h.n
 refine loopO_up (A := Unit) t.length (fun i _ => (hb t (c : Int) (l : Int) i, sb t (c : Int) i, ((i : Nat) : Int))) (fun _ _ => True) (fun _ _ => some (Sum.inl (((l + 1 : Nat) : Int), if (hb t (c : Int) (l : Int) t.length && sb t (c : Int) t.length) = true then w ++ [(l : Int)] else w))) (fun _ _ => ?_) (fun i _ hi _ => .inl ⟨(), ?_, trivial, rfl⟩) () trivial
 ·unfold taskmilllaw_RaceGuards_l1 taskmilllaw_RaceGuards_j3
  try simp only
  rw [decide_eq_false (show ¬ ((t.length : Nat) : Int) < ((t.length : Nat) : Int) by omega), cond_false, decide_eq_true (show (w ++ ([((l : Nat) : Int)] : List Int)).length * 8 ≤ 140737488355328 by rw [List.length_append]; simp; omega), cond_true, wrap_n1 l (by omega)]
  cases hq : (hb t (c : Int) (l : Int) t.length && sb t (c : Int) t.length) with
  | true => rfl
  | false => rfl
 ·unfold taskmilllaw_RaceGuards_l1
  try simp only
  rw [sx hi, t2, cond_true, Bool.and_self, cond_true]
  show ((some (acc t i)).bind _) = some (Sum.inl ((if acc t i = true ∧ (ix t (i : Int)).Obj = (c : Int) then (hb t (c : Int) (l : Int) i && decide (0 < hc t (ix t (i : Int)).Task (l : Int) i)) else hb t (c : Int) (l : Int) i), (if acc t i = true ∧ (ix t (i : Int)).Obj = (c : Int) then true else sb t (c : Int) i), ((i + 1 : Nat) : Int)))
  rw [Option.bind_some]
  cases hac : acc t i with
  | false =>
   rw [cond_false, if_neg (by simp), if_neg (by simp)]
   unfold taskmilllaw_RaceGuards_j5 taskmilllaw_RaceGuards_j4
   rw [cond_false, wrap_n1 i (by omega)]
  | true =>
   rw [cond_true, cond_true]
   unfold taskmilllaw_RaceGuards_j5 taskmilllaw_RaceGuards_j4
   rw [holds_eq hT hi, Option.bind_some, wrap_n1 i (by omega)]
   by_cases hk : (ix t (i : Int)).Obj = (c : Int)
   ·rw [show ((ix t (i : Int)).Obj == (c : Int)) = true by simpa using hk, cond_true, if_pos ⟨rfl, hk⟩, if_pos ⟨rfl, hk⟩]
    cases hb t (c : Int) (l : Int) i with
    | true => rfl
    | false => rfl
   ·rw [show ((ix t (i : Int)).Obj == (c : Int)) = false by simpa using hk, cond_false, if_neg (fun hh => hk hh.2), if_neg (fun hh => hk hh.2)]
theorem ints_eq (a b : List Int) (h : a = b) (hn : a.length ≤ 100) : taskmillref_Ints a b = some true := by
 subst h
 unfold taskmillref_Ints
 rw [bne_self_eq_false, cond_false, ints_gen a a rfl (by omega) (fun i => rfl : ∀ i, taskmillref_Ints_l1 a a i = _)]
 simp
theorem law_l2 {t : List GEvent} {p : List Int} (h : TrOk t p) (cs : Int) (c : Nat) (hc : c < cel t t.length) :
  loopO (taskmilllaw_RaceGuards_l2 t cs (outG t t.length) (c : Int)) (0, []) = some (.inl ((c + 1 : Nat) : Int)) := by
 have hT := h.n
 have hv : ∀ i, i < t.length → EvOk p.length (ix t (i : Int)) := fun i hi => by rw [ix_get hi]; exact h.ev i hi
 have hcel : cel t t.length ≤ 21 := cel_le t _ fun i hi => (hv i hi).obj.2
 refine held_loop (fun l => hb t (c : Int) l t.length && sb t (c : Int) t.length) _ (fun i l hi hl => ?_) ?_
 ·unfold taskmilllaw_RaceGuards_l2
  try simp only
  rw [decide_eq_true (show ((i : Nat) : Int) ≤ 20 by omega), cond_true]
  exact law_l1 h cs _ c i (by omega) l hl
 ·unfold taskmilllaw_RaceGuards_l2
  try simp only
  have hlen : (outG t t.length).length = cel t t.length := by simp [outG]
  rw [decide_eq_false (show ¬ (21 : Int) ≤ 20 by omega), cond_false, t2, decide_eq_true (show ((c : Nat) : Int) < (((outG t t.length).length : Nat) : Int) by omega), Bool.and_self, cond_true]
  have e : ixD (outG t t.length) ((c : Nat) : Int) = G t (c : Int) t.length := by
   rw [ixD_nat, List.getD_eq_getElem?_getD, List.getElem?_eq_getElem (by omega)]
   simp [outG]
  rw [e, ints_eq _ _ ?_ (by have := G_le t (c : Int) t.length; omega), Option.bind_some, Bool.not_true, cond_false, wrap_n1 c (by omega)]
  unfold G
  cases hs : sb t (c : Int) t.length with
  | true => simp
  | false => simp
theorem guards_law (t : List GEvent) (pipes : List Int) : taskmilllaw_RaceGuards t pipes = some true := by
 unfold taskmilllaw_RaceGuards taskmilllaw_raceBegun
 rw [Option.bind_some, Bool.not_true, cond_false]
 by_cases h0 : 300 < t.length ∨ 100 < pipes.length
 ·have : (decide ((300 : Int) < ((t.length : Nat) : Int)) || decide ((100 : Int) < ((pipes.length : Nat) : Int))) = true := by simp; omega
  rw [this, cond_true]
 have : (decide ((300 : Int) < ((t.length : Nat) : Int)) || decide ((100 : Int) < ((pipes.length : Nat) : Int))) = false := by simp; omega
 rw [this, cond_false]
 unfold taskmilllaw_ownTrace taskmilllaw_own
 rw [decide_eq_true (show t.length * 32 ≤ 140737488355328 by omega), decide_eq_true (show pipes.length * 8 ≤ 140737488355328 by omega), cond_true, cond_true, Option.bind_some, Option.bind_some, ref_eq]
 by_cases hk : (checkF t pipes).Code = 0
 ·obtain ⟨h1, h2⟩ := check_ok hk
  rw [guards_eq hk, h2]
  simp only [Option.bind_some, beq_self_eq_true, Bool.and_self, Bool.not_true, cond_false, bne_self_eq_false]
  have hT := h1.n
  have hv : ∀ i, i < t.length → EvOk pipes.length (ix t (i : Int)) := fun i hi => by rw [ix_get hi]; exact h1.ev i hi
  have hcel : cel t t.length ≤ 21 := cel_le t _ fun i hi => (hv i hi).obj.2
  refine loopO_up (A := Unit) t.length (fun i _ => (((cel t i : Nat) : Int), ((i : Nat) : Int), outG t t.length)) (fun _ _ => True) (fun _ _ => some true) (fun _ _ => ?_) (fun i _ hi _ => .inl ⟨(), ?_, trivial, rfl⟩) () trivial
  ·unfold taskmilllaw_RaceGuards_l4
   try simp only
   have hlen : (outG t t.length).length = cel t t.length := by simp [outG]
   rw [decide_eq_false (show ¬ ((t.length : Nat) : Int) < ((t.length : Nat) : Int) by omega), cond_false, hlen, bne_self_eq_false, cond_false]
   refine congrArg (Option.map Sum.inr) ?_
   refine loopO_up (A := Unit) (cel t t.length) (fun i _ => ((i : Nat) : Int)) (fun _ _ => True) (fun _ _ => some true) (fun _ _ => ?_) (fun c _ hc _ => .inl ⟨(), ?_, trivial, rfl⟩) () trivial
   ·unfold taskmilllaw_RaceGuards_l3
    rw [decide_eq_false (by omega)]; rfl
   ·unfold taskmilllaw_RaceGuards_l3
    rw [decide_eq_true (by omega), cond_true]
    exact law_l2 h1 _ c hc
  ·unfold taskmilllaw_RaceGuards_l4
   try simp only
   have he := hv i hi
   have hci : cel t i ≤ 21 := cel_le t _ fun j hj => (hv j (by omega)).obj.2
   rw [sx hi, t2, cond_true, Bool.and_self, cond_true]
   show ((some (acc t i)).bind _) = some (Sum.inl ((((if acc t i = true then max (cel t i) ((ix t (i : Int)).Obj.toNat + 1) else cel t i : Nat)) : Int), ((i + 1 : Nat) : Int), outG t t.length))
   rw [Option.bind_some]
   have ho := he.obj
   cases hac : acc t i with
   | false =>
    rw [cond_false, if_neg (by simp)]
    unfold taskmilllaw_RaceGuards_j2 taskmilllaw_RaceGuards_j1
    rw [cond_false, wrap_n1 i (by omega)]
   | true =>
    rw [cond_true, cond_true, if_pos rfl]
    unfold taskmilllaw_RaceGuards_j2 taskmilllaw_RaceGuards_j1
    rw [wrap_n1 i (by omega), sx hi, t2, Bool.and_self, cond_true, wrap_id (x := (ix t (i : Int)).Obj + 1) (by omega) (by omega)]
    by_cases hq : ((cel t i : Nat) : Int) < (ix t (i : Int)).Obj + 1
    ·rw [decide_eq_true hq, cond_true, show (ix t (i : Int)).Obj + 1 = ((max (cel t i) ((ix t (i : Int)).Obj.toNat + 1) : Nat) : Int) by omega]
    ·rw [decide_eq_false hq, cond_false, show max (cel t i) ((ix t (i : Int)).Obj.toNat + 1) = cel t i by omega]
 ·rw [guards_bad hk]
  simp only [Option.bind_some, beq_self_eq_true, Bool.and_self, Bool.not_true, cond_false]
  rw [show ((checkF t pipes).Code != 0) = true by simpa using hk]
  rfl
end Go.Proofs.Ytelegonboeacaaa
end
