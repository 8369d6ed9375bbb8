/-
 Lemmas, put together: QA, QB, QC, pickP, pickP2, pickP3, pickP4, pickP5, pickP6, pickP7, pickP8, pickP9, pickP10, pickP11, pickP12.
 No conditions.
-/
import Derived.Test.YtcpmhpobhnakeaapickA3
import Derived.Test.YtcpmhpobhnakeaapickG
set_option linter.unusedSimpArgs false
set_option linter.unusedVariables false
section
namespace Go.Sx
open Go
set_option linter.unusedVariables false
theorem wrap_id {x : Int} (h1 : -9223372036854775808 ≤ x) (h2 : x ≤ 9223372036854775807) : IntKind.i64.wrap x = x := by
 simp only [IntKind.wrap, IntKind.bits, IntKind.signed, if_true]
 simp
 omega
theorem wrap_n1 (i : Nat) (h : i < 4611686018427387904) : IntKind.i64.wrap ((i : Int) + 1) = ((i + 1 : Nat) : Int) := by
 rw [wrap_id (by omega) (by omega)]; rfl
theorem loopO_inv {S ρ : Type} {step : S → Option (S ⊕ ρ)} (I : S → Prop) (mu : S → Nat) (Post : ρ → Prop)
  (hs : ∀ s, I s → (∃ s', step s = some (.inl s') ∧ I s' ∧ mu s' < mu s) ∨ (∃ r, step s = some (.inr r) ∧ Post r)) {s0 : S} (h0 : I s0) : ∃ r, loopO step s0 = some r ∧ Post r := by
 have gen : ∀ (n : Nat) (s : S), mu s ≤ n → I s → ∃ r, loopO step s = some r ∧ Post r := by
  intro n
  induction n with
  | zero =>
   intro s hm hi
   rcases hs s hi with ⟨s', _, _, h3⟩ | ⟨r, h1, h2⟩
   ·omega
   ·exact ⟨r, loopO_inr h1, h2⟩
  | succ n ih =>
   intro s hm hi
   rcases hs s hi with ⟨s', h1, h2, h3⟩ | ⟨r, h1, h2⟩
   ·rw [loopO_inl h1]; exact ih s' (by omega) h2
   ·exact ⟨r, loopO_inr h1, h2⟩
 exact gen _ s0 (Nat.le_refl _) h0
def firstAt {β : Type} (bad : Nat → Option β) : Nat → Option β
 | 0 => none
 | n + 1 => (firstAt bad n).or (bad n)
theorem firstAt_congr {β : Type} {f g : Nat → Option β} : ∀ (n : Nat), (∀ i, i < n → f i = g i) → firstAt f n = firstAt g n
 | 0, _ => rfl
 | n + 1, h => by simp only [firstAt]; rw [firstAt_congr n fun i hi => h i (by omega), h n (by omega)]
theorem firstAt_none {β : Type} {f : Nat → Option β} : ∀ (n : Nat), firstAt f n = none ↔ ∀ i, i < n → f i = none
 | 0 => by simp [firstAt]
 | n + 1 => by
  simp only [firstAt, Option.or_eq_none_iff, firstAt_none n]
  constructor
  ·rintro ⟨h1, h2⟩ i hi
   by_cases h : i = n
   ·subst h; exact h2
   ·exact h1 i (by omega)
  ·exact fun h => ⟨fun i hi => h i (by omega), h n (by omega)⟩
theorem firstAt_some {β : Type} {f : Nat → Option β} {b : β} : ∀ (n : Nat), firstAt f n = some b → ∃ i, i < n ∧ f i = some b ∧ ∀ j, j < i → f j = none
 | 0, h => by simp [firstAt] at h
 | n + 1, h => by
  simp only [firstAt] at h
  cases hf : firstAt f n with
  | some c =>
   rw [hf] at h
   obtain ⟨i, h1, h2, h3⟩ := firstAt_some n hf
   simp only [Option.some_or] at h
   exact ⟨i, by omega, by rw [h2, h], h3⟩
  | none =>
   rw [hf] at h
   simp only [Option.none_or] at h
   exact ⟨n, by omega, h, fun j hj => (firstAt_none n).1 hf j hj⟩
theorem firstAt_at {β : Type} {f : Nat → Option β} {b : β} {n i : Nat} (hi : i < n) (h : f i = some b) (hj : ∀ j, j < i → f j = none) : firstAt f n = some b := by
 cases hf : firstAt f n with
 | none => rw [(firstAt_none n).1 hf i hi] at h; cases h
 | some c =>
  obtain ⟨k, h1, h2, h3⟩ := firstAt_some n hf
  by_cases hki : k < i
  ·rw [hj k hki] at h2; cases h2
  ·by_cases hik : i < k
   ·rw [h3 i hik] at h; cases h
   ·have : k = i := by omega
    subst this; rw [h] at h2; exact h2.symm
theorem loopO_find {S ρ : Type} {step : S → Option (S ⊕ ρ)} (E : Nat → S) (bad : Nat → Option ρ) (rest : Option ρ) (n : Nat)
  (h1 : ∀ i, i < n → bad i = none → step (E i) = some (.inl (E (i + 1)))) (h2 : ∀ i r, i < n → bad i = some r → step (E i) = some (.inr r)) (h3 : (∀ i, i < n → bad i = none) → step (E n) = rest.map .inr) :
  loopO step (E 0) = match firstAt bad n with
   | some r => some r
   | none => rest := by
 have walk : ∀ k, k ≤ n → (∀ i, i < k → bad i = none) → loopO step (E 0) = loopO step (E k) := by
  intro k
  induction k with
  | zero => exact fun _ _ => rfl
  | succ k ih =>
   intro hk hb
   rw [ih (by omega) fun i hi => hb i (by omega), loopO_inl (h1 k (by omega) (hb k (by omega)))]
 cases hf : firstAt bad n with
 | none =>
  have hb := (firstAt_none n).1 hf
  rw [walk n (Nat.le_refl _) hb, loopO_out (h3 hb)]
 | some r =>
  obtain ⟨i, g1, g2, g3⟩ := firstAt_some n hf
  rw [walk i (by omega) g3, loopO_inr (h2 i r g1 g2)]
theorem loopO_findD {S ρ : Type} {step : S → Option (S ⊕ ρ)} (E : Nat → S) (bad : Nat → Option ρ) (d : ρ) (n : Nat)
  (h1 : ∀ i, i < n → bad i = none → step (E i) = some (.inl (E (i + 1)))) (h2 : ∀ i r, i < n → bad i = some r → step (E i) = some (.inr r)) (h3 : (∀ i, i < n → bad i = none) → step (E n) = some (.inr d)) :
  loopO step (E 0) = some ((firstAt bad n).getD d) := by
 rw [loopO_find E bad (some d) n h1 h2 (fun h => by rw [h3 h]; rfl)]
 cases firstAt bad n <;> rfl
theorem loopO_all {S ρ : Type} {step : S → Option (S ⊕ ρ)} (E : Nat → S) (rest : Option ρ) (n : Nat)
  (h1 : ∀ i, i < n → step (E i) = some (.inl (E (i + 1)))) (h3 : step (E n) = rest.map .inr) : loopO step (E 0) = rest := by
 have := loopO_find E (fun _ => none) rest n (fun i hi _ => h1 i hi) (fun i r _ h => by cases h) (fun _ => h3)
 rw [this, (firstAt_none n).2 fun _ _ => rfl]
theorem ix_get {α : Type} [Enc α] {xs : List α} {i : Nat} (h : i < xs.length) : ix xs ((i : Nat) : Int) = xs[i] := by
 simp [ix, List.getD_eq_getElem?_getD, h]
theorem cut_take {α : Type} (xs : List α) (i : Nat) : cut xs 0 ((i : Nat) : Int) = xs.take i := by simp [cut]
theorem cut_drop {α : Type} (xs : List α) (i : Nat) : cut xs ((i : Nat) : Int) ((xs.length : Nat) : Int) = xs.drop i := by
 simp only [cut, Int.toNat_natCast]
 rw [List.take_of_length_le]; simp
theorem cut_drop' {α : Type} (xs : List α) {n : Int} {i : Nat} (h : n = (i : Int)) : cut xs n ((xs.length : Nat) : Int) = xs.drop i := by subst h; exact cut_drop xs i
theorem list_eq_iff {α : Type} {a b : List α} (h : a.length = b.length) : a = b ↔ ∀ i (h1 : i < a.length) (h2 : i < b.length), a[i] = b[i] :=
 ⟨fun e => by subst e; exact fun _ _ _ => rfl, fun g => List.ext_getElem h g⟩
theorem miGet_set (m : List (Int × Int)) (a v k : Int) : miGet (miSet m a v) k = if k = a then v else miGet m k := by
 induction m with
 | nil =>
  by_cases h : k = a
  ·subst h; simp [miSet, miGet]
  ·simp [miSet, miGet, h]
 | cons p r ih =>
  simp only [miSet]
  cases ha : (a == p.1) with
  | true =>
   have : a = p.1 := by simpa using ha
   subst this
   by_cases h : k = p.1
   ·subst h; simp [miGet]
   ·simp [miGet, h]
  | false =>
   have hap : a ≠ p.1 := by simpa using ha
   simp only [cond_false]
   by_cases h : k = p.1
   ·subst h
    rw [if_neg (fun e => hap e.symm)]
    simp [miGet]
   ·have e : ∀ (m : List (Int × Int)), miGet (p :: m) k = miGet m k := fun m => by
     simp [miGet, List.find?_cons, show (k == p.1) = false from by simpa using h]
    rw [e, e, ih]
def setAll (m : List (Int × Int)) (l : List Int) : List (Int × Int) := l.foldl (fun m x => miSet m x 1) m
theorem miGet_setAll (l : List Int) : ∀ (m : List (Int × Int)) (k : Int), miGet (setAll m l) k = if k ∈ l then 1 else miGet m k := by
 induction l with
 | nil => intro m k; simp [setAll]
 | cons a l ih =>
  intro m k
  show miGet (setAll (miSet m a 1) l) k = _
  rw [ih, miGet_set]
  by_cases h1 : k ∈ l
  ·simp [h1]
  ·by_cases h2 : k = a
   ·subst h2; simp
   ·simp [h1, h2]
theorem miGet_nil (k : Int) : miGet [] k = 0 := rfl
theorem ints_gen {step : Int → Option (Int ⊕ Bool)} (a b : List Int) (hl : a.length = b.length) (hn : a.length < 4611686018427387904)
  (h : ∀ i, step i = (bif (decide (i < ((a.length : Nat) : Int))) then (bif ((decide ((0 : Int) ≤ i)) && (decide (i < ((a.length : Nat) : Int)))) then (bif ((decide ((0 : Int) ≤ i)) && (decide (i < ((b.length : Nat) : Int)))) then (bif ((ix a i) != (ix b i)) then (Option.map Sum.inr (some (false))) else (some (Sum.inl ((IntKind.i64.wrap (i + 1)))))) else none) else none) else (Option.map Sum.inr (some (true))))) :
  loopO step 0 = some (decide (a = b)) := by
 have := loopO_find (step := step) (fun i => ((i : Nat) : Int)) (fun i => if a[i]? = b[i]? then none else some false) (some true) a.length (fun i hi hb => ?_) (fun i r hi hb => ?_) (fun _ => ?_)
 ·rw [show ((0 : Nat) : Int) = 0 from rfl] at this
  rw [this]
  cases hf : firstAt (fun i => if a[i]? = b[i]? then none else some false) a.length with
  | none =>
   have := (firstAt_none _).1 hf
   have e : a = b := (list_eq_iff hl).2 fun i h1 h2 => by
    have := this i h1
    simpa [h1, h2] using this
   simp [e]
  | some r =>
   obtain ⟨i, h1, h2, _⟩ := firstAt_some _ hf
   have : a ≠ b := fun e => by subst e; simp at h2
   split at h2
   ·cases h2
   ·cases h2; simp [this]
 ·rw [h]
  have hi2 : i < b.length := by omega
  have e : a[i] = b[i] := by simpa [hi, hi2] using hb
  simp [hi, hi2, ix_get hi, ix_get hi2, e, wrap_n1 i (by omega), Bool.cond_eq_ite]
 ·rw [h]
  have hi2 : i < b.length := by omega
  have e : ¬ a[i] = b[i] ∧ false = r := by simpa [hi, hi2] using hb
  simp [hi, hi2, ix_get hi, ix_get hi2, e.1, ← e.2, Bool.cond_eq_ite]
 ·rw [h]; simp
theorem has_gen {step : Int → Option (Int ⊕ Bool)} (l : List Int) (n : Int) (hn : l.length < 4611686018427387904)
  (h : ∀ i, step i = (bif (decide (i < ((l.length : Nat) : Int))) then (bif ((decide ((0 : Int) ≤ i)) && (decide (i < ((l.length : Nat) : Int)))) then (bif ((ix l i) == n) then (Option.map Sum.inr (some (true))) else (some (Sum.inl ((IntKind.i64.wrap (i + 1)))))) else none) else (Option.map Sum.inr (some (false))))) :
  loopO step 0 = some (decide (n ∈ l)) := by
 have := loopO_find (step := step) (fun i => ((i : Nat) : Int)) (fun i => if l[i]? = some n then some true else none) (some false) l.length (fun i hi hb => ?_) (fun i r hi hb => ?_) (fun _ => ?_)
 ·rw [show ((0 : Nat) : Int) = 0 from rfl] at this
  rw [this]
  cases hf : firstAt (fun i => if l[i]? = some n then some true else none) l.length with
  | none =>
   have := (firstAt_none _).1 hf
   have e : n ∉ l := fun hm => by
    obtain ⟨i, hi, e⟩ := List.getElem_of_mem hm
    have := this i hi
    simp [hi, e] at this
   simp [e]
  | some r =>
   obtain ⟨i, h1, h2, _⟩ := firstAt_some _ hf
   split at h2
   ·rename_i he
    cases h2
    have : n ∈ l := List.mem_of_getElem? he
    simp [this]
   ·cases h2
 ·rw [h]
  have e : ¬ l[i] = n := by simpa [hi] using hb
  simp [hi, ix_get hi, e, wrap_n1 i (by omega), Bool.cond_eq_ite]
 ·rw [h]
  have e : l[i] = n ∧ true = r := by simpa [hi] using hb
  simp [hi, ix_get hi, e.1, ← e.2, Bool.cond_eq_ite]
 ·rw [h]; simp
def firstIf (p : Nat → Bool) (n : Nat) : Option Nat := firstAt (fun i => bif p i then some i else none) n
theorem firstIf_none {p : Nat → Bool} {n : Nat} : firstIf p n = none ↔ ∀ i, i < n → p i = false := by
 unfold firstIf
 rw [firstAt_none]
 constructor
 ·intro h i hi
  have := h i hi
  cases hp : p i with
  | false => rfl
  | true => rw [hp] at this; cases this
 ·intro h i hi
  rw [h i hi]; rfl
theorem firstIf_some {p : Nat → Bool} {n i : Nat} (h : firstIf p n = some i) : i < n ∧ p i = true ∧ ∀ j, j < i → p j = false := by
 obtain ⟨k, h1, h2, h3⟩ := firstAt_some _ h
 cases hp : p k with
 | false => rw [hp] at h2; cases h2
 | true =>
  rw [hp] at h2; cases h2
  refine ⟨h1, hp, fun j hj => ?_⟩
  have := h3 j hj
  cases hq : p j with
  | false => rfl
  | true => rw [hq] at this; cases this
theorem loopO_if {S ρ : Type} {step : S → Option (S ⊕ ρ)} (E : Nat → S) (p : Nat → Bool) (R : Nat → Option ρ) (rest : Option ρ) (n : Nat)
  (h1 : ∀ i, i < n → p i = false → step (E i) = some (.inl (E (i + 1)))) (h2 : ∀ i, i < n → p i = true → step (E i) = (R i).map .inr) (h3 : (∀ i, i < n → p i = false) → step (E n) = rest.map .inr) :
  loopO step (E 0) = match firstIf p n with
   | some i => R i
   | none => rest := by
 have walk : ∀ k, k ≤ n → (∀ i, i < k → p i = false) → loopO step (E 0) = loopO step (E k) := by
  intro k
  induction k with
  | zero => exact fun _ _ => rfl
  | succ k ih =>
   intro hk hb
   rw [ih (by omega) fun i hi => hb i (by omega), loopO_inl (h1 k (by omega) (hb k (by omega)))]
 cases hf : firstIf p n with
 | none =>
  have hb := firstIf_none.1 hf
  rw [walk n (Nat.le_refl _) hb, loopO_out (h3 hb)]
 | some i =>
  obtain ⟨g1, g2, g3⟩ := firstIf_some hf
  rw [walk i (by omega) g3, loopO_out (h2 i g1 g2)]
end Go.Sx
end

section
namespace Go.Sx
variable {α : Type}
end Go.Sx
end

section
namespace Go.Sx
def toldOr {S ρ : Type} (o : Option ρ) (s : S) : Option (S ⊕ ρ) := match o with
 | some r => some (.inr r)
 | none => some (.inl s)
@[simp] theorem toldOr_some {S ρ : Type} (r : ρ) (s : S) : toldOr (some r) s = some (.inr r) := rfl
@[simp] theorem toldOr_none {S ρ : Type} (s : S) : toldOr (none : Option ρ) s = some (.inl s) := rfl
theorem loopO_findP {S ρ : Type} {step : S → Option (S ⊕ ρ)} (E : Nat → S) (bad : Nat → Option ρ) (d : ρ) (n : Nat)
  (h1 : ∀ i, i < n → (∀ j, j < i → bad j = none) → step (E i) = toldOr (bad i) (E (i + 1)))
  (h3 : (∀ i, i < n → bad i = none) → step (E n) = some (.inr d)) : loopO step (E 0) = some ((firstAt bad n).getD d) := by
 have walk : ∀ k, k ≤ n → (∀ i, i < k → bad i = none) → loopO step (E 0) = loopO step (E k) := by
  intro k
  induction k with
  | zero => exact fun _ _ => rfl
  | succ k ih =>
   intro hk hb
   have := h1 k (by omega) fun i hi => hb i (by omega)
   rw [hb k (by omega), toldOr_none] at this
   rw [ih (by omega) fun i hi => hb i (by omega), loopO_inl this]
 cases hf : firstAt bad n with
 | none =>
  have hb := (firstAt_none n).1 hf
  rw [walk n (Nat.le_refl _) hb, loopO_inr (h3 hb)]; rfl
 | some r =>
  obtain ⟨i, g1, g2, g3⟩ := firstAt_some n hf
  have := h1 i g1 g3
  rw [g2, toldOr_some] at this
  rw [walk i (by omega) g3, loopO_inr this]; rfl
theorem loopO_up {A S ρ : Type} {step : S → Option (S ⊕ ρ)} (n : Nat) (E : Nat → A → S) (I : Nat → A → Prop) (F : Nat → A → Option ρ)
  (hend : ∀ a, I n a → step (E n a) = (F n a).map .inr)
  (hstep : ∀ i a, i < n → I i a → (∃ a', step (E i a) = some (.inl (E (i + 1) a')) ∧ I (i + 1) a' ∧ F i a = F (i + 1) a') ∨ step (E i a) = (F i a).map .inr)
  (a0 : A) (h0 : I 0 a0) : loopO step (E 0 a0) = F 0 a0 := by
 have gen : ∀ (d i : Nat) (a : A), i + d = n → I i a → loopO step (E i a) = F i a := by
  intro d
  induction d with
  | zero => intro i a hi ha; rw [Nat.add_zero] at hi; subst hi; exact loopO_out (hend a ha)
  | succ d ih =>
   intro i a hi ha
   rcases hstep i a (by omega) ha with ⟨a', h1, h2, h3⟩ | h1
   ·rw [loopO_inl h1, h3]; exact ih (i + 1) a' (by omega) h2
   ·exact loopO_out h1
 exact gen n 0 a0 (by omega) h0
theorem cut_wipe {α : Type} [Inhabited α] (l : List α) (i : Nat) (h : i ≤ l.length) : cut (wipe l (i : Int) ((l.length : Nat) : Int)) (0 : Int) (i : Int) = l.take i := by
 rw [cut_take, wipe, putL]
 simp only [Int.toNat_natCast]
 rw [List.append_assoc, List.take_append_of_le_length (by simp <;> omega), List.take_of_length_le (by simp <;> omega)]
end Go.Sx
end

section
namespace Go.Proofs.Ytcpmhpobhnakeaa
open Go Go.Sx
theorem clone_eq (s : List Int) (h : s.length ≤ 10000000) : slices_Clone_int s = some s := by
 have : s.length * 8 ≤ 140737488355328 := by omega
 simp [slices_Clone_int, this]
theorem ints_eq (a b : List Int) (hn : a.length < 4611686018427387904) : taskmillref_Ints a b = some (decide (a = b)) := by
 unfold taskmillref_Ints
 by_cases hl : a.length = b.length
 ·have := ints_gen a b hl hn (fun i => rfl : ∀ i, taskmillref_Ints_l1 a b i = _)
  simp [hl] at this ⊢
  exact this
 ·have : a ≠ b := fun e => hl (by rw [e])
  have h2 : ((a.length : Int) != (b.length : Int)) = true := by simp; omega
  simp [h2, this]
theorem nodup_take {α : Type} {l : List α} (h : l.Nodup) {i : Nat} (hi : i < l.length) : l[i] ∉ l.take i := fun hm => by
 obtain ⟨j, hj, he⟩ := List.mem_take_iff_getElem.1 hm
 have := List.nodup_iff_pairwise_ne.1 h
 rw [List.pairwise_iff_getElem] at this
 exact this j i (by omega) hi (by omega) he
@[simp] theorem F_eq (c a : Int) : taskmillref_F c a = some ⟨c, a⟩ := rfl
@[simp] theorem fault_eq (c a : Int) : pipe_fault c a = some ⟨c, a⟩ := rfl
def tasksOf (l : List GPost) : List Int := l.map (·.Task)
theorem cloneP_eq (s : List GPost) (h : s.length ≤ 1000000) : slices_Clone_Post s = some s := by
 have : s.length * 24 ≤ 140737488355328 := by omega
 simp [slices_Clone_Post, this]
def isTask (l : List GPost) (t : Int) (i : Nat) : Bool := decide ((tasksOf l)[i]? = some t)
theorem is_at {l : List GPost} {t : Int} {i : Nat} (h : i < l.length) : isTask l t i = decide (l[i].Task = t) := by simp [isTask, tasksOf, h]
def inLine (l : List GPost) (t : Int) : Int := match firstIf (isTask l t) l.length with
 | some i => (i : Int)
 | none => -1
theorem inLine_nonneg (l : List GPost) (t : Int) : decide (0 ≤ inLine l t) = decide (t ∈ tasksOf l) := by
 unfold inLine
 rw [Bool.eq_iff_iff]
 simp only [decide_eq_true_eq]
 cases hf : firstIf (isTask l t) l.length with
 | some i =>
  obtain ⟨h1, h2, _⟩ := firstIf_some hf
  rw [is_at h1] at h2
  simp only [decide_eq_true_eq] at h2
  exact ⟨fun _ => List.mem_map.2 ⟨_, List.getElem_mem h1, h2⟩, fun _ => by simp⟩
 | none =>
  have h := firstIf_none.1 hf
  refine ⟨fun h => by have h : (0 : Int) ≤ -1 := h; omega, fun hm => ?_⟩
  obtain ⟨w, h1, h2⟩ := List.mem_map.1 hm
  obtain ⟨i, hi, rfl⟩ := List.getElem_of_mem h1
  have := h i hi
  rw [is_at hi] at this
  simp [h2] at this
theorem containsP_eq (l : List GPost) (t : Int) (h : l.length ≤ 1000000) : slices_ContainsFunc_Post l t = some (decide (t ∈ tasksOf l)) := by
 unfold slices_ContainsFunc_Post slices_IndexFunc_Post
 have := loopO_if (step := slices_IndexFunc_Post_l1 l t) (fun i => ((i : Nat) : Int)) (isTask l t) (fun i => some (i : Int)) (some (-1)) l.length (fun i hi hp => ?_) (fun i hi hp => ?_) (fun _ => ?_)
 ·rw [show ((0 : Nat) : Int) = 0 from rfl] at this
  rw [this, ← inLine_nonneg]
  unfold inLine
  cases firstIf (isTask l t) l.length <;> rfl
 ·rw [is_at hi] at hp
  simp only [decide_eq_false_iff_not] at hp
  simp [slices_IndexFunc_Post_l1, pipe_Waits_1, ix_get hi, hi, hp, wrap_n1 i (by omega), Bool.cond_eq_ite]
 ·rw [is_at hi] at hp
  simp only [decide_eq_true_eq] at hp
  simp [slices_IndexFunc_Post_l1, pipe_Waits_1, ix_get hi, hi, hp]
 ·simp [slices_IndexFunc_Post_l1]
theorem waits_eq (p : Pipe) (t : Int) (h1 : p.Senders.length ≤ 1000000) (h2 : p.Getters.length ≤ 1000000) : pipe_Waits p t = some (decide (t ∈ tasksOf p.Senders ∨ t ∈ tasksOf p.Getters)) := by
 unfold pipe_Waits pipe_Waits_j1
 rw [containsP_eq _ _ h1]
 simp only [Option.bind_some, containsP_eq _ _ h2]
 by_cases h : t ∈ tasksOf p.Senders <;> simp [h]
theorem if_task (l : List GPost) (t : Int) : (firstIf (isTask l t) l.length).isSome = decide (t ∈ tasksOf l) := by
 rw [← inLine_nonneg]
 unfold inLine
 cases firstIf (isTask l t) l.length with
 | none => rfl
 | some i => simp
theorem waitsAt1_eq (p : Pipe) (t : Int) (h : p.Getters.length ≤ 1000000) : loopO (taskmillref_WaitsAt_l1 p t) 0 = some (decide (t ∈ tasksOf p.Getters)) := by
 have := loopO_if (step := taskmillref_WaitsAt_l1 p t) (fun i => ((i : Nat) : Int)) (isTask p.Getters t) (fun _ => some true) (some false) p.Getters.length (fun i hi hp => ?_) (fun i hi hp => ?_) (fun _ => ?_)
 ·rw [show ((0 : Nat) : Int) = 0 from rfl] at this
  rw [this, ← if_task]
  cases firstIf (isTask p.Getters t) p.Getters.length <;> rfl
 ·rw [is_at hi] at hp
  simp only [decide_eq_false_iff_not] at hp
  simp [taskmillref_WaitsAt_l1, ix_get hi, hi, hp, wrap_n1 i (by omega), Bool.cond_eq_ite]
 ·rw [is_at hi] at hp
  simp only [decide_eq_true_eq] at hp
  simp [taskmillref_WaitsAt_l1, ix_get hi, hi, hp]
 ·simp [taskmillref_WaitsAt_l1]
theorem waitsAt_eq (p : Pipe) (t : Int) (h1 : p.Senders.length ≤ 1000000) (h2 : p.Getters.length ≤ 1000000) : taskmillref_WaitsAt p t = some (decide (t ∈ tasksOf p.Senders ∨ t ∈ tasksOf p.Getters)) := by
 unfold taskmillref_WaitsAt
 have := loopO_if (step := taskmillref_WaitsAt_l2 p t) (fun i => ((i : Nat) : Int)) (isTask p.Senders t) (fun _ => some true) (some (decide (t ∈ tasksOf p.Getters))) p.Senders.length (fun i hi hp => ?_) (fun i hi hp => ?_) (fun _ => ?_)
 ·rw [show ((0 : Nat) : Int) = 0 from rfl] at this
  have hi := if_task p.Senders t
  rw [this]
  cases hf : firstIf (isTask p.Senders t) p.Senders.length with
  | none => rw [hf] at hi; have hi : false = _ := hi; simp at hi; simp [hi]
  | some i => rw [hf] at hi; have hi : true = _ := hi; simp at hi; simp [hi]
 ·rw [is_at hi] at hp
  simp only [decide_eq_false_iff_not] at hp
  simp [taskmillref_WaitsAt_l2, ix_get hi, hi, hp, wrap_n1 i (by omega), Bool.cond_eq_ite]
 ·rw [is_at hi] at hp
  simp only [decide_eq_true_eq] at hp
  simp [taskmillref_WaitsAt_l2, ix_get hi, hi, hp]
 ·simp [taskmillref_WaitsAt_l2, waitsAt1_eq p t h2]
theorem sameP_eq (a b : List GPost) (hn : a.length < 4611686018427387904) : taskmillref_SamePosts a b = some (decide (a = b)) := by
 unfold taskmillref_SamePosts
 by_cases hl : a.length = b.length
 ·have e : (((a.length : Nat) : Int) != ((b.length : Nat) : Int)) = false := by simp [hl]
  rw [e, cond_false]
  have we : ∀ x y : GPost, ((x.Task == y.Task) && ((x.Case == y.Case) && ((x.Value == y.Value) && true))) = decide (x = y) := fun x y => by
   obtain ⟨a, b, c⟩ := x
   obtain ⟨d, e, f⟩ := y
   rw [Bool.eq_iff_iff]; simp
  have := loopO_if (step := taskmillref_SamePosts_l1 a b) (fun i => ((i : Nat) : Int)) (fun i => !decide (a[i]? = b[i]?)) (fun i => some false) (some true) a.length (fun i hi hp => ?_) (fun i hi hp => ?_) (fun _ => ?_)
  ·rw [show ((0 : Nat) : Int) = 0 from rfl] at this
   rw [this]
   cases hf : firstIf (fun i => !decide (a[i]? = b[i]?)) a.length with
   | none =>
    have := firstIf_none.1 hf
    have e : a = b := (list_eq_iff hl).2 fun i h1 h2 => by
     have := this i h1
     simpa [h1, h2] using this
    simp [e]
   | some i =>
    obtain ⟨_, h2, _⟩ := firstIf_some hf
    have : a ≠ b := fun e => by subst e; simp at h2
    simp [this]
  ·have hi2 : i < b.length := by omega
   have e : a[i] = b[i] := by simpa [hi, hi2] using hp
   simp only [taskmillref_SamePosts_l1, ix_get hi, ix_get hi2, we]
   simp [hi, hi2, e, wrap_n1 i (by omega)]
  ·have hi2 : i < b.length := by omega
   have e : ¬ a[i] = b[i] := by simpa [hi, hi2] using hp
   simp only [taskmillref_SamePosts_l1, ix_get hi, ix_get hi2, we]
   simp [hi, hi2, e]
  ·simp [taskmillref_SamePosts_l1]
 ·have : a ≠ b := fun e => hl (by rw [e])
  have h2 : (((a.length : Nat) : Int) != ((b.length : Nat) : Int)) = true := by simp; omega
  simp [h2, this]
theorem sameK_eq (a b : List GWake) (hn : a.length < 4611686018427387904) : taskmillref_SameWakes a b = some (decide (a = b)) := by
 unfold taskmillref_SameWakes
 by_cases hl : a.length = b.length
 ·have e : (((a.length : Nat) : Int) != ((b.length : Nat) : Int)) = false := by simp [hl]
  rw [e, cond_false]
  have we : ∀ x y : GWake, ((x.Task == y.Task) && ((x.Case == y.Case) && ((x.Value == y.Value) && ((x.Ok == y.Ok) && ((x.Panic == y.Panic) && true))))) = decide (x = y) := fun x y => by
   obtain ⟨a, b, c, a2, a3⟩ := x
   obtain ⟨d, e, f, b2, b3⟩ := y
   rw [Bool.eq_iff_iff]; simp
  have := loopO_if (step := taskmillref_SameWakes_l1 a b) (fun i => ((i : Nat) : Int)) (fun i => !decide (a[i]? = b[i]?)) (fun i => some false) (some true) a.length (fun i hi hp => ?_) (fun i hi hp => ?_) (fun _ => ?_)
  ·rw [show ((0 : Nat) : Int) = 0 from rfl] at this
   rw [this]
   cases hf : firstIf (fun i => !decide (a[i]? = b[i]?)) a.length with
   | none =>
    have := firstIf_none.1 hf
    have e : a = b := (list_eq_iff hl).2 fun i h1 h2 => by
     have := this i h1
     simpa [h1, h2] using this
    simp [e]
   | some i =>
    obtain ⟨_, h2, _⟩ := firstIf_some hf
    have : a ≠ b := fun e => by subst e; simp at h2
    simp [this]
  ·have hi2 : i < b.length := by omega
   have e : a[i] = b[i] := by simpa [hi, hi2] using hp
   simp only [taskmillref_SameWakes_l1, ix_get hi, ix_get hi2, we]
   simp [hi, hi2, e, wrap_n1 i (by omega)]
  ·have hi2 : i < b.length := by omega
   have e : ¬ a[i] = b[i] := by simpa [hi, hi2] using hp
   simp only [taskmillref_SameWakes_l1, ix_get hi, ix_get hi2, we]
   simp [hi, hi2, e]
  ·simp [taskmillref_SameWakes_l1]
 ·have : a ≠ b := fun e => hl (by rw [e])
  have h2 : (((a.length : Nat) : Int) != ((b.length : Nat) : Int)) = true := by simp; omega
  simp [h2, this]
theorem firstAt_add {β : Type} (f : Nat → Option β) (n : Nat) : ∀ m, firstAt f (n + m) = (firstAt f n).or (firstAt (fun i => f (n + i)) m)
 | 0 => by simp [firstAt]
 | m + 1 => by
  show (firstAt f (n + m)).or (f (n + m)) = _
  rw [firstAt_add f n m]
  simp only [firstAt]
  cases firstAt f n <;> simp
theorem firstAt_map {β γ : Type} (f : Nat → Option β) (g : β → γ) : ∀ n, firstAt (fun i => (f i).map g) n = (firstAt f n).map g
 | 0 => rfl
 | n + 1 => by
  simp only [firstAt]
  rw [firstAt_map f g n]
  cases firstAt f n <;> simp
def lb (l : List GPost) (i : Nat) : Option Int := match l[i]? with
 | none => none
 | some x => if x.Task < 1 ∨ x.Case < 0 then some 3 else if x.Task ∈ tasksOf (l.take i) then some 10 else none
def pb (seen : List Int) (l : List GPost) (i : Nat) : Option Int := match l[i]? with
 | none => none
 | some x => if x.Task < 1 ∨ x.Case < 0 then some 3 else if x.Task ∈ seen ++ tasksOf (l.take i) then some 10 else none
theorem lb_left (s g : List GPost) {i : Nat} (h : i < s.length) : lb (s ++ g) i = pb [] s i := by
 have e : (s ++ g).take i = s.take i := by rw [List.take_append_of_le_length (by omega)]
 simp only [lb, pb, List.getElem?_append_left h, e, List.nil_append]
theorem lb_right (s g : List GPost) (i : Nat) : lb (s ++ g) (s.length + i) = pb (tasksOf s) g i := by
 have e : (s ++ g).take (s.length + i) = s ++ g.take i := by rw [List.take_append, List.take_of_length_le (by omega)]; simp
 have e2 : tasksOf (s ++ g.take i) = tasksOf s ++ tasksOf (g.take i) := by simp [tasksOf]
 simp only [lb, pb, List.getElem?_append_right (Nat.le_add_right ..), Nat.add_sub_cancel_left, e, e2]
theorem has_tasks (l : List Int) (x : Int) : decide (0 < miGet (setAll [] l) x) = decide (x ∈ l) := by
 rw [Bool.eq_iff_iff, miGet_setAll, miGet_nil]
 by_cases hm : x ∈ l <;> simp [hm]
theorem tasks_snoc (seen : List Int) (l : List GPost) (i : Nat) (h : i < l.length) : setAll [] (seen ++ tasksOf (l.take (i + 1))) = miSet (setAll [] (seen ++ tasksOf (l.take i))) l[i].Task 1 := by
 have e : tasksOf (l.take (i + 1)) = tasksOf (l.take i) ++ [l[i].Task] := by
  rw [List.take_succ_eq_append_getElem h]
  simp only [tasksOf, List.map_append, List.map_cons, List.map_nil]
 rw [e, ← List.append_assoc, setAll, List.foldl_append]; rfl
theorem posts_eq (l : List GPost) (seen : List Int) (h : l.length ≤ 1000000) : ∃ m, pipe_posts l (setAll [] seen) = some ((firstAt (pb seen l) l.length).getD 0, m) ∧ (firstAt (pb seen l) l.length = none → m = setAll [] (seen ++ tasksOf l)) := by
 unfold pipe_posts
 have := loopO_find (step := pipe_posts_l1 l) (fun i => (((i : Nat) : Int), setAll [] (seen ++ tasksOf (l.take i)))) (fun i => (pb seen l i).map fun c => (c, setAll [] (seen ++ tasksOf (l.take i)))) (some (0, setAll [] (seen ++ tasksOf l))) l.length (fun i hi hb => ?_) (fun i r hi hb => ?_) (fun _ => ?_)
 ·have e0 : setAll [] (seen ++ tasksOf (l.take 0)) = setAll [] seen := by simp [tasksOf]
  rw [e0, show ((0 : Nat) : Int) = 0 from rfl] at this
  rw [this]
  cases hf : firstAt (fun i => (pb seen l i).map fun c => (c, setAll [] (seen ++ tasksOf (l.take i)))) l.length with
  | some r =>
   obtain ⟨i, hi, hb, hbef⟩ := firstAt_some _ hf
   simp only [Option.map_eq_some_iff] at hb
   obtain ⟨c, hc, rfl⟩ := hb
   have hx : firstAt (pb seen l) l.length = some c := firstAt_at hi hc fun j hj => by simpa using hbef j hj
   rw [hx]
   exact ⟨_, rfl, fun h => by cases h⟩
  | none =>
   have h := (firstAt_none _).1 hf
   have hx : firstAt (pb seen l) l.length = none := (firstAt_none _).2 fun i hi => by simpa using h i hi
   rw [hx]
   exact ⟨_, rfl, fun _ => rfl⟩
 ·simp only [Option.map_eq_none_iff, pb, List.getElem?_eq_getElem hi] at hb
  split at hb
  ·cases hb
  ·rename_i hx
   split at hb
   ·cases hb
   ·rename_i hy
    have hx' : (decide (l[i].Task < 1) || decide (l[i].Case < 0)) = false := by simp at hx ⊢; omega
    simp only [pipe_posts_l1, ix_get hi, hx', has_tasks, hy, tasks_snoc seen l i hi]
    simp [hi, wrap_n1 i (by omega)]
 ·simp only [Option.map_eq_some_iff, pb, List.getElem?_eq_getElem hi] at hb
  obtain ⟨c, hc, rfl⟩ := hb
  split at hc
  ·rename_i hx
   cases hc
   have hx' : (decide (l[i].Task < 1) || decide (l[i].Case < 0)) = true := by simpa using hx
   simp only [pipe_posts_l1, ix_get hi, hx']
   simp [hi]
  ·rename_i hx
   have hx' : (decide (l[i].Task < 1) || decide (l[i].Case < 0)) = false := by simp at hx ⊢; omega
   split at hc
   ·rename_i hy
    cases hc
    simp only [pipe_posts_l1, ix_get hi, hx', has_tasks, hy]
    simp [hi]
   ·cases hc
 ·simp [pipe_posts_l1]
def gbad (l : List GPost) (i : Nat) : Option Fault := match l[i]? with
 | none => none
 | some x => if x.Value ≠ 0 then some ⟨5, 2⟩ else none
def gv (p : Pipe) : Fault := (firstAt (gbad p.Getters) p.Getters.length).getD ⟨0, 0⟩
def pfault (p : Pipe) : Option Fault := ((firstAt (pb [] p.Senders) p.Senders.length).map fun c => ⟨c, 1⟩).or ((firstAt (pb (tasksOf p.Senders) p.Getters) p.Getters.length).map fun c => ⟨c, 2⟩)
def total (p : Pipe) : Nat := p.Items.length + p.Senders.length + p.Getters.length
def badP (p : Pipe) : Prop := (p.Senders ≠ [] ∧ (p.Closed = true ∨ (p.Items.length : Int) < p.Cap ∨ p.Getters ≠ [])) ∨ (p.Getters ≠ [] ∧ (p.Closed = true ∨ p.Items ≠ []))
instance (p : Pipe) : Decidable (badP p) := by unfold badP; infer_instance
def pipeF (p : Pipe) : Fault := if 5000 < total p then ⟨2, 0⟩ else if p.Cap < 0 ∨ 1000 < p.Cap then ⟨3, 0⟩ else if p.Cap < (p.Items.length : Int) then ⟨8, 0⟩ else if badP p then ⟨5, 0⟩ else (pfault p).getD (gv p)
theorem gv_check (p : Pipe) (h : p.Getters.length ≤ 1000000) : loopO (pipe_Check_l1 p) 0 = some (gv p) := by
 refine loopO_findD (step := pipe_Check_l1 p) (fun i => ((i : Nat) : Int)) (gbad p.Getters) ⟨0, 0⟩ p.Getters.length (fun i hi hb => ?_) (fun i r hi hb => ?_) (fun _ => ?_)
 ·simp only [gbad, List.getElem?_eq_getElem hi] at hb
  split at hb
  ·cases hb
  ·rename_i hx
   have hx' : (p.Getters[i].Value != 0) = false := by simpa using hx
   simp only [pipe_Check_l1, ix_get hi, hx']
   simp [hi, wrap_n1 i (by omega)]
 ·simp only [gbad, List.getElem?_eq_getElem hi] at hb
  split at hb
  ·rename_i hx
   cases hb
   have hx' : (p.Getters[i].Value != 0) = true := by simpa using hx
   simp only [pipe_Check_l1, ix_get hi, hx']
   simp [hi]
  ·cases hb
 ·simp [pipe_Check_l1]
theorem gv_ref (p : Pipe) (h : p.Getters.length ≤ 1000000) : loopO (taskmillref_PipeFault_l2 p) 0 = some (gv p) := by
 refine loopO_findD (step := taskmillref_PipeFault_l2 p) (fun i => ((i : Nat) : Int)) (gbad p.Getters) ⟨0, 0⟩ p.Getters.length (fun i hi hb => ?_) (fun i r hi hb => ?_) (fun _ => ?_)
 ·simp only [gbad, List.getElem?_eq_getElem hi] at hb
  split at hb
  ·cases hb
  ·rename_i hx
   have hx' : (p.Getters[i].Value != 0) = false := by simpa using hx
   simp only [taskmillref_PipeFault_l2, ix_get hi, hx']
   simp [hi, wrap_n1 i (by omega)]
 ·simp only [gbad, List.getElem?_eq_getElem hi] at hb
  split at hb
  ·rename_i hx
   cases hb
   have hx' : (p.Getters[i].Value != 0) = true := by simpa using hx
   simp only [taskmillref_PipeFault_l2, ix_get hi, hx']
   simp [hi]
  ·cases hb
 ·simp [taskmillref_PipeFault_l2]
theorem sum_len (p : Pipe) (h : total p ≤ 4611686018427387904) : IntKind.i64.wrap (IntKind.i64.wrap (((p.Items.length : Nat) : Int) + ((p.Senders.length : Nat) : Int)) + ((p.Getters.length : Nat) : Int)) = ((total p : Nat) : Int) := by
 unfold total at *
 rw [wrap_id (x := ((p.Items.length : Nat) : Int) + ((p.Senders.length : Nat) : Int)) (by omega) (by omega), wrap_id (by omega) (by omega)]
 omega
theorem pos_ne {α : Type} (l : List α) : decide ((0 : Int) < ((l.length : Nat) : Int)) = decide (l ≠ []) := by rw [Bool.eq_iff_iff]; simp [List.length_pos_iff]
theorem check_eq (p : Pipe) (ht : total p ≤ 1000000) : pipe_Check p = some (pipeF p) := by
 unfold pipe_Check pipeF
 have ht' := ht
 unfold total at ht'
 rw [sum_len p (by omega)]
 by_cases h1 : 5000 < total p
 ·have : (5000 : Int) < ((total p : Nat) : Int) := by omega
  simp [h1, this]
 ·have h1' : ¬ (5000 : Int) < ((total p : Nat) : Int) := by omega
  by_cases h2 : p.Cap < 0 ∨ 1000 < p.Cap
  ·have h2' : (decide (p.Cap < 0) || decide (1000 < p.Cap)) = true := by simpa using h2
   simp [h1, h1', h2, h2']
  ·have h2' : (decide (p.Cap < 0) || decide (1000 < p.Cap)) = false := by simp at h2 ⊢; omega
   by_cases h3 : p.Cap < (p.Items.length : Int)
   ·simp [h1, h1', h2, h2', h3]
   ·have hb : (bif (decide ((0 : Int) < ((p.Senders.length : Nat) : Int))) then (p.Closed || ((decide (((p.Items.length : Nat) : Int) < p.Cap)) || ((decide ((0 : Int) < ((p.Getters.length : Nat) : Int))) || ((decide ((0 : Int) < ((p.Getters.length : Nat) : Int))) && (p.Closed || (decide ((0 : Int) < ((p.Items.length : Nat) : Int)))))))) else ((decide ((0 : Int) < ((p.Getters.length : Nat) : Int))) && (p.Closed || (decide ((0 : Int) < ((p.Items.length : Nat) : Int)))))) = decide (badP p) := by
     rw [pos_ne, pos_ne, pos_ne]
     unfold badP
     by_cases a1 : p.Senders = [] <;> by_cases a2 : p.Getters = [] <;> by_cases a3 : p.Items = [] <;> by_cases a4 : p.Closed = true <;> simp [a1, a2, a3, a4]
    simp only [h1, h1', h2, h2', h3, hb, decide_false, cond_false, if_false]
    by_cases h4 : badP p
    ·simp [h4]
    ·simp only [h4, decide_false, cond_false, if_false]
     obtain ⟨m1, e1, f1⟩ := posts_eq p.Senders [] (by omega)
     have e0 : setAll [] ([] : List Int) = [] := rfl
     rw [e0] at e1
     rw [e1]
     simp only [Option.bind_some]
     unfold pfault
     have key : ∀ l seen, firstAt (pb seen l) l.length = none ∨ ∃ c, firstAt (pb seen l) l.length = some c ∧ c ≠ 0 := fun l seen => by
      cases hf : firstAt (pb seen l) l.length with
      | none => left; rfl
      | some c =>
       right
       refine ⟨c, rfl, ?_⟩
       obtain ⟨i, hi, hb, _⟩ := firstAt_some _ hf
       simp only [pb, List.getElem?_eq_getElem hi] at hb
       split at hb
       ·cases hb; decide
       ·split at hb
        ·cases hb; decide
        ·cases hb
     rcases key p.Senders [] with hs | ⟨c, hs, hc⟩
     ·have hm := f1 hs
      rw [List.nil_append] at hm
      subst hm
      obtain ⟨m2, e2, _⟩ := posts_eq p.Getters (tasksOf p.Senders) (by omega)
      rw [hs, e2]
      rcases key p.Getters (tasksOf p.Senders) with hg | ⟨c, hg, hc⟩
      ·simp [hg, gv_check p (by omega)]
      ·have hc' : (c != 0) = true := by simpa using hc
       simp [hg, hc']
     ·have hc' : (c != 0) = true := by simpa using hc
      simp [hs, hc']
theorem inner_eq (p : Pipe) (i : Nat) (xat : Int) (hi : i < (p.Senders ++ p.Getters).length) (hl : (p.Senders ++ p.Getters).length ≤ 1000000) : loopO (taskmillref_PipeFault_l1 p (i : Int) xat) 0 = if (p.Senders ++ p.Getters)[i].Task ∈ tasksOf ((p.Senders ++ p.Getters).take i) then some (.inr ⟨10, xat⟩) else some (.inl ((i + 1 : Nat) : Int)) := by
 have hw := wrap_n1 i (by omega)
 unfold taskmillref_PipeFault_l1
 generalize p.Senders ++ p.Getters = L at *
 have := loopO_if (step := fun k21 => (bif (decide (k21 < (i : Int))) then (bif ((decide ((0 : Int) ≤ k21)) && (decide (k21 < ((L.length : Nat) : Int)))) then (bif ((decide ((0 : Int) ≤ (i : Int))) && (decide ((i : Int) < ((L.length : Nat) : Int)))) then (bif ((ix L k21).Task == (ix L (i : Int)).Task) then ((taskmillref_F 10 xat).bind fun r1242 => (Option.map Sum.inr (Option.map Sum.inr (some (r1242))))) else (some (Sum.inl ((IntKind.i64.wrap (k21 + 1)))))) else none) else none) else (Option.map Sum.inr (some (Sum.inl ((IntKind.i64.wrap ((i : Int) + 1)))))))) (fun k => ((k : Nat) : Int)) (isTask L L[i].Task) (fun _ => some (.inr (⟨10, xat⟩ : Fault))) (some (.inl ((i + 1 : Nat) : Int))) i (fun k hk hp => ?_) (fun k hk hp => ?_) (fun _ => ?_)
 ·rw [show ((0 : Nat) : Int) = 0 from rfl] at this
  rw [this]
  cases hf : firstIf (isTask L L[i].Task) i with
  | some k =>
   obtain ⟨h1, h2, _⟩ := firstIf_some hf
   rw [is_at (by omega)] at h2
   simp only [decide_eq_true_eq] at h2
   have hkl : k < L.length := by omega
   have hkm : k < min i L.length := by omega
   have hm : L[i].Task ∈ tasksOf (L.take i) := List.mem_map.2 ⟨L[k], List.mem_take_iff_getElem.2 ⟨k, hkm, rfl⟩, h2⟩
   simp only [hm, if_true]
  | none =>
   have h := firstIf_none.1 hf
   have hm : L[i].Task ∉ tasksOf (L.take i) := fun hm => by
    obtain ⟨w, h1, h2⟩ := List.mem_map.1 hm
    obtain ⟨k, hk, rfl⟩ := List.mem_take_iff_getElem.1 h1
    have := h k (by omega)
    rw [is_at (by omega)] at this
    simp [h2] at this
   simp only [hm, if_false]
 ·rw [is_at (by omega)] at hp
  simp only [decide_eq_false_iff_not] at hp
  have hk' : k < L.length := by omega
  have hki : (k : Int) < (i : Int) := by omega
  simp [ix_get hk', ix_get hi, hki, hk', hi, hp, wrap_n1 k (by omega), Bool.cond_eq_ite]
 ·rw [is_at (by omega)] at hp
  simp only [decide_eq_true_eq] at hp
  have hk' : k < L.length := by omega
  have hki : (k : Int) < (i : Int) := by omega
  simp [ix_get hk', ix_get hi, hki, hk', hi, hp]
 ·simp [hw]
theorem refPipe_eq (p : Pipe) (ht : total p ≤ 1000000) : taskmillref_PipeFault p = some (pipeF p) := by
 unfold taskmillref_PipeFault pipeF
 have ht' := ht
 unfold total at ht'
 rw [sum_len p (by omega)]
 by_cases h1 : 5000 < total p
 ·have : (5000 : Int) < ((total p : Nat) : Int) := by omega
  simp [h1, this]
 ·have h1' : ¬ (5000 : Int) < ((total p : Nat) : Int) := by omega
  by_cases h2 : p.Cap < 0 ∨ 1000 < p.Cap
  ·have h2' : (decide (p.Cap < 0) || decide (1000 < p.Cap)) = true := by simpa using h2
   simp [h1, h1', h2, h2']
  ·have h2' : (decide (p.Cap < 0) || decide (1000 < p.Cap)) = false := by simp at h2 ⊢; omega
   by_cases h3 : p.Cap < (p.Items.length : Int)
   ·simp [h1, h1', h2, h2', h3]
   ·have hne : (((p.Items.length : Nat) : Int) != p.Cap) = decide ((p.Items.length : Int) < p.Cap) := by rw [Bool.eq_iff_iff]; simp; omega
    simp only [h1, h1', h2, h2', h3, hne, pos_ne, decide_false, cond_false, if_false]
    have j2 : ¬ badP p → taskmillref_PipeFault_j2 p = some (if badP p then ⟨5, 0⟩ else (pfault p).getD (gv p)) := by
     intro h4
     rw [if_neg h4]
     unfold taskmillref_PipeFault_j2
     have b1 : p.Senders.length * 24 ≤ 140737488355328 := by omega
     have b2 : (p.Senders ++ p.Getters).length * 24 ≤ 140737488355328 := by rw [List.length_append]; omega
     have hlen : (p.Senders ++ p.Getters).length ≤ 1000000 := by rw [List.length_append]; omega
     simp only [b1, b2, decide_true, cond_true]
     have hj : ∀ (i : Nat) (hi : i < (p.Senders ++ p.Getters).length) (xat : Int), taskmillref_PipeFault_j1 p (i : Int) xat = match lb (p.Senders ++ p.Getters) i with | some c => some (.inr ⟨c, xat⟩) | none => some (.inl ((i + 1 : Nat) : Int)) := by
      intro i hi xat
      unfold taskmillref_PipeFault_j1
      rw [inner_eq p i xat hi hlen]
      simp only [ix_get hi, lb, List.getElem?_eq_getElem hi]
      have hi' : decide ((i : Int) < (((p.Senders ++ p.Getters).length : Nat) : Int)) = true := by simp only [decide_eq_true_eq]; omega
      have h0 : decide ((0 : Int) ≤ (i : Int)) = true := by simp
      rw [hi', h0]
      by_cases hx : (p.Senders ++ p.Getters)[i].Task < 1 ∨ (p.Senders ++ p.Getters)[i].Case < 0
      ·have hx' : (decide ((p.Senders ++ p.Getters)[i].Task < 1) || decide ((p.Senders ++ p.Getters)[i].Case < 0)) = true := by simpa using hx
       simp only [hx', if_pos hx, Bool.and_self, Bool.or_true, cond_true, F_eq, Option.bind_some]
       rfl
      ·have hx' : (decide ((p.Senders ++ p.Getters)[i].Task < 1) || decide ((p.Senders ++ p.Getters)[i].Case < 0)) = false := by rw [← Bool.not_eq_true]; simpa using hx
       simp only [hx', if_neg hx, Bool.and_self, Bool.or_true, cond_true, cond_false]
       split <;> simp_all
     have key := loopO_find (step := taskmillref_PipeFault_l3 p) (fun i => ((i : Nat) : Int)) (fun i => (lb (p.Senders ++ p.Getters) i).map fun c => (⟨c, if p.Senders.length ≤ i then 2 else 1⟩ : Fault)) (some (gv p)) (p.Senders ++ p.Getters).length (fun i hi hb => ?_) (fun i r hi hb => ?_) (fun _ => ?_)
     ·rw [show ((0 : Nat) : Int) = 0 from rfl] at key
      rw [key]
      have e : firstAt (fun i => (lb (p.Senders ++ p.Getters) i).map fun c => (⟨c, if p.Senders.length ≤ i then 2 else 1⟩ : Fault)) (p.Senders ++ p.Getters).length = pfault p := by
       rw [List.length_append, firstAt_add]
       unfold pfault
       congr 1
       ·rw [← firstAt_map]
        refine firstAt_congr _ fun i hi => ?_
        rw [lb_left _ _ hi, if_neg (by omega)]
       ·rw [← firstAt_map]
        refine firstAt_congr _ fun i hi => ?_
        rw [lb_right, if_pos (by omega)]
      rw [e]
      cases pfault p <;> rfl
     ·simp only [Option.map_eq_none_iff] at hb
      have c1 : decide ((i : Int) < (((p.Senders ++ p.Getters).length : Nat) : Int)) = true := by simp only [decide_eq_true_eq]; omega
      simp only [taskmillref_PipeFault_l3, c1, cond_true, hj i hi, hb]
      cases decide (((p.Senders.length : Nat) : Int) ≤ (i : Int)) <;> rfl
     ·simp only [Option.map_eq_some_iff] at hb
      obtain ⟨c, hc, rfl⟩ := hb
      have c1 : decide ((i : Int) < (((p.Senders ++ p.Getters).length : Nat) : Int)) = true := by simp only [decide_eq_true_eq]; omega
      simp only [taskmillref_PipeFault_l3, c1, cond_true, hj i hi, hc]
      by_cases hs : p.Senders.length ≤ i
      ·have hs' : ((p.Senders.length : Nat) : Int) ≤ (i : Int) := by omega
       simp [hs]
      ·have hs' : ¬ ((p.Senders.length : Nat) : Int) ≤ (i : Int) := by omega
       simp [hs]
     ·simp only [taskmillref_PipeFault_l3, Int.lt_irrefl, decide_false, cond_false, gv_ref p (by omega)]
    unfold taskmillref_PipeFault_j3
    simp only [pos_ne]
    have hB : decide (badP p) = ((decide (p.Senders ≠ []) && (p.Closed || (decide ((p.Items.length : Int) < p.Cap) || decide (p.Getters ≠ [])))) || (decide (p.Getters ≠ []) && (p.Closed || decide (p.Items ≠ [])))) := by
     unfold badP
     rw [Bool.eq_iff_iff]
     simp only [decide_eq_true_eq, Bool.or_eq_true, Bool.and_eq_true]
     exact decide_eq_true_iff
    by_cases h4 : badP p
    ·rw [if_pos h4, F_eq]
     rw [decide_eq_true h4] at hB
     revert hB
     generalize decide (p.Senders ≠ []) = b1
     generalize decide (p.Getters ≠ []) = b2
     generalize decide (p.Items ≠ []) = b3
     generalize decide ((p.Items.length : Int) < p.Cap) = b4
     generalize p.Closed = b5
     intro hB
     cases b1 <;> cases b2 <;> cases b3 <;> cases b4 <;> cases b5 <;> first | rfl | (exact absurd hB (by decide))
    ·rw [j2 h4, if_neg h4, F_eq]
     rw [decide_eq_false h4] at hB
     revert hB
     generalize decide (p.Senders ≠ []) = b1
     generalize decide (p.Getters ≠ []) = b2
     generalize decide (p.Items ≠ []) = b3
     generalize decide ((p.Items.length : Int) < p.Cap) = b4
     generalize p.Closed = b5
     intro hB
     cases b1 <;> cases b2 <;> cases b3 <;> cases b4 <;> cases b5 <;> first | rfl | (exact absurd hB (by decide))
theorem tot_eq (n : Nat) : (((n : Nat) : Int) == 5000) = decide (n = 5000) := by rw [Bool.eq_iff_iff]; simp; omega
def noA : Answer := ⟨false, false, false, 0, 0, []⟩
def putR (p : Pipe) (x : GPost) : Pipe × Answer :=
 if p.Closed = true then (p, ⟨true, true, false, 0, x.Case, []⟩)
 else match p.Getters with
  | g :: t => (⟨p.Cap, p.Items, p.Closed, p.Senders, t⟩, ⟨true, false, false, 0, x.Case, [⟨g.Task, g.Case, x.Value, true, false⟩]⟩)
  | [] => if (p.Items.length : Int) < p.Cap then (⟨p.Cap, p.Items ++ [x.Value], p.Closed, p.Senders, p.Getters⟩, ⟨true, false, false, 0, x.Case, []⟩) else (p, noA)
theorem cut_tail {α : Type} (w : α) (t : List α) : cut (w :: t) 1 (((w :: t).length : Nat) : Int) = t := by
 have := cut_drop' (w :: t) (n := 1) (i := 1) rfl
 simpa using this
theorem copy_eq (p : Pipe) (ht : total p ≤ 1000000) : pipe_Copy p = some (p.Cap, p.Closed, p.Items, p.Senders, p.Getters) := by
 unfold total at ht
 unfold pipe_Copy
 rw [clone_eq _ (by omega), cloneP_eq _ (by omega), cloneP_eq _ (by omega)]; rfl
theorem samePipe_eq (a b : Pipe) (h : total a ≤ 1000000) : taskmillref_SamePipe a b = some (decide (a = b)) := by
 obtain ⟨c, i, cl, s, g⟩ := a
 obtain ⟨c', i', cl', s', g'⟩ := b
 unfold total at h
 simp only at h
 unfold taskmillref_SamePipe taskmillref_SamePipe_j1
 simp only [ints_eq i i' (by omega), sameP_eq s s' (by omega), sameP_eq g g' (by omega)]
 by_cases h1 : c = c' <;> by_cases h2 : cl = cl' <;> by_cases h3 : i = i' <;> by_cases h4 : s = s' <;> simp [h1, h2, h3, h4, Bool.cond_eq_ite]
theorem sameAnswer_eq (a b : Answer) (h : a.Wakes.length ≤ 1000000) : taskmillref_SameAnswer a b = some (decide (a = b)) := by
 obtain ⟨d, p, o, v, c, w⟩ := a
 obtain ⟨d', p', o', v', c', w'⟩ := b
 simp only at h
 unfold taskmillref_SameAnswer taskmillref_SameAnswer_j1
 simp only [sameK_eq w w' (by omega)]
 by_cases h1 : d = d' <;> by_cases h2 : p = p' <;> by_cases h3 : o = o' <;> by_cases h4 : v = v' <;> by_cases h5 : c = c' <;> simp [h1, h2, h3, h4, h5, Bool.cond_eq_ite]
def gotI (p : Pipe) : List Int := match p.Senders with
 | s :: _ => p.Items ++ [s.Value]
 | [] => p.Items
def gotK (p : Pipe) : List GWake := match p.Senders with
 | s :: _ => [⟨s.Task, s.Case, 0, false, false⟩]
 | [] => []
def gotR (p : Pipe) (x : GPost) : Pipe × Answer := match gotI p with
 | v :: r => (⟨p.Cap, r, p.Closed, p.Senders.drop 1, p.Getters⟩, ⟨true, false, true, v, x.Case, gotK p⟩)
 | [] => if p.Closed = true then (p, ⟨true, false, false, 0, x.Case, []⟩) else (p, noA)
theorem pipe_eta (p : Pipe) : Pipe.mk p.Cap p.Items p.Closed p.Senders p.Getters = p := rfl
theorem vast_eq (p : Pipe) (h : total p ≤ 4611686018427387904) : taskmilllaw_vastPipe p = some (decide (6000 < total p ∨ 800 < p.Senders.length + p.Getters.length)) := by
 unfold taskmilllaw_vastPipe
 rw [sum_len p h]
 unfold total at h
 rw [wrap_id (x := ((p.Senders.length : Nat) : Int) + ((p.Getters.length : Nat) : Int)) (by omega) (by omega)]
 congr 1
 rw [Bool.eq_iff_iff]
 simp only [Bool.or_eq_true, decide_eq_true_eq]
 omega
theorem put_total (p : Pipe) (x : GPost) : total (putR p x).1 ≤ total p + 1 := by
 unfold putR
 split
 ·dsimp only; omega
 ·split
  ·rename_i g t hg
   unfold total
   rw [hg]
   simp only [List.length_cons]; omega
  ·split
   ·unfold total
    simp only [List.length_append, List.length_singleton]; omega
   ·dsimp only; omega
theorem got_total (p : Pipe) (x : GPost) : total (gotR p x).1 ≤ total p := by
 have hi : (gotI p).length + (p.Senders.drop 1).length ≤ p.Items.length + p.Senders.length := by
  unfold gotI
  cases p.Senders <;> simp; omega
 unfold gotR
 split
 ·rename_i v r hg
  rw [hg] at hi
  simp only [List.length_cons] at hi
  unfold total
  dsimp only; omega
 ·split <;> (dsimp only; omega)
theorem got_wakes (p : Pipe) (x : GPost) : (gotR p x).2.Wakes.length ≤ 1 := by
 unfold gotR gotK
 split
 ·cases p.Senders <;> simp
 ·split <;> simp [noA]
end Go.Proofs.Ytcpmhpobhnakeaa
end

section
namespace Go.Proofs.Ytcpmhpobhnakeaa
open Go Go.Sx
structure OkP (p : Pipe) : Prop where
 tot : total p ≤ 5000
 cap : 0 ≤ p.Cap ∧ p.Cap ≤ 1000
 it : (p.Items.length : Int) ≤ p.Cap
 nb : ¬ badP p
 ps : ∀ x ∈ p.Senders ++ p.Getters, 1 ≤ x.Task ∧ 0 ≤ x.Case
 nd : (tasksOf (p.Senders ++ p.Getters)).Nodup
 gv : ∀ x ∈ p.Getters, x.Value = 0
theorem nodup_of_take {l : List Int} (h : ∀ i (hi : i < l.length), l[i] ∉ l.take i) : l.Nodup := by
 rw [List.nodup_iff_pairwise_ne, List.pairwise_iff_getElem]
 intro i j hi hj hij he
 exact h j hj (he ▸ List.mem_take_iff_getElem.2 ⟨i, by omega, rfl⟩)
theorem pb_none (seen : List Int) (l : List GPost) : firstAt (pb seen l) l.length = none ↔ (∀ x ∈ l, 1 ≤ x.Task ∧ 0 ≤ x.Case) ∧ (tasksOf l).Nodup ∧ ∀ x ∈ l, x.Task ∉ seen := by
 rw [firstAt_none]
 have key : ∀ i (hi : i < l.length), pb seen l i = none ↔ (1 ≤ l[i].Task ∧ 0 ≤ l[i].Case) ∧ l[i].Task ∉ seen ∧ l[i].Task ∉ tasksOf (l.take i) := by
  intro i hi
  simp only [pb, List.getElem?_eq_getElem hi]
  by_cases h1 : l[i].Task < 1 ∨ l[i].Case < 0
  ·rw [if_pos h1]
   exact ⟨(fun h => by cases h), (fun h => by omega)⟩
  ·rw [if_neg h1]
   by_cases h2 : l[i].Task ∈ seen ++ tasksOf (l.take i)
   ·rw [if_pos h2]
    refine ⟨(fun h => by cases h), fun h => ?_⟩
    rcases List.mem_append.1 h2 with h3 | h3
    ·exact absurd h3 h.2.1
    ·exact absurd h3 h.2.2
   ·rw [if_neg h2]
    simp only [List.mem_append, not_or] at h2
    exact ⟨fun _ => ⟨by omega, h2⟩, fun _ => rfl⟩
 constructor
 ·intro h
  refine ⟨fun x hx => ?_, nodup_of_take fun i hi => ?_, fun x hx => ?_⟩
  ·obtain ⟨i, hi, rfl⟩ := List.getElem_of_mem hx
   exact ((key i hi).1 (h i hi)).1
  ·have hi' : i < l.length := by simpa [tasksOf] using hi
   have := ((key i hi').1 (h i hi')).2.2
   simpa [tasksOf, List.map_take] using this
  ·obtain ⟨i, hi, rfl⟩ := List.getElem_of_mem hx
   exact ((key i hi).1 (h i hi)).2.1
 ·rintro ⟨h1, h2, h3⟩ i hi
  refine (key i hi).2 ⟨h1 _ (List.getElem_mem hi), h3 _ (List.getElem_mem hi), ?_⟩
  have := nodup_take h2 (i := i) (by simpa [tasksOf] using hi)
  simpa [tasksOf, List.map_take] using this
theorem gbad_none (l : List GPost) : firstAt (gbad l) l.length = none ↔ ∀ x ∈ l, x.Value = 0 := by
 rw [firstAt_none]
 constructor
 ·intro h x hx
  obtain ⟨i, hi, rfl⟩ := List.getElem_of_mem hx
  have := h i hi
  simp only [gbad, List.getElem?_eq_getElem hi] at this
  split at this
  ·cases this
  ·rename_i hh; simpa using hh
 ·intro h i hi
  simp only [gbad, List.getElem?_eq_getElem hi]
  rw [if_neg (by have := h _ (List.getElem_mem hi); simpa using this)]
theorem nd_split (p : Pipe) : (tasksOf (p.Senders ++ p.Getters)).Nodup ↔ (tasksOf p.Senders).Nodup ∧ (tasksOf p.Getters).Nodup ∧ ∀ x ∈ p.Getters, x.Task ∉ tasksOf p.Senders := by
 simp only [tasksOf, List.map_append]
 rw [List.nodup_append]
 constructor
 ·rintro ⟨h1, h2, h3⟩
  exact ⟨h1, h2, fun x hx hm => h3 _ hm _ (List.mem_map.2 ⟨x, hx, rfl⟩) rfl⟩
 ·rintro ⟨h1, h2, h3⟩
  refine ⟨h1, h2, fun a ha b hb e => ?_⟩
  obtain ⟨x, hx, rfl⟩ := List.mem_map.1 hb
  exact h3 x hx (e ▸ ha)
theorem pipeF_of {p : Pipe} (ok : OkP p) : pipeF p = ⟨0, 0⟩ := by
 obtain ⟨h1, h2, h3, h4, h5, h6, h7⟩ := ok
 rw [nd_split] at h6
 unfold pipeF
 rw [if_neg (by omega), if_neg (by omega), if_neg (by omega), if_neg h4]
 unfold pfault
 rw [(pb_none [] p.Senders).2 ⟨fun x hx => h5 x (List.mem_append_left _ hx), h6.1, fun _ _ => by simp⟩, (pb_none (tasksOf p.Senders) p.Getters).2 ⟨fun x hx => h5 x (List.mem_append_right _ hx), h6.2.1, h6.2.2⟩]
 unfold gv
 rw [(gbad_none p.Getters).2 h7]
 rfl
theorem ok_of {p : Pipe} (h : (pipeF p).Code = 0) : OkP p := by
 unfold pipeF at h
 split at h
 ·simp at h
 ·split at h
  ·simp at h
  ·split at h
   ·simp at h
   ·split at h
    ·simp at h
    ·rename_i h1 h2 h3 h4
     unfold pfault at h
     have code : ∀ seen l c, firstAt (pb seen l) l.length = some c → c ≠ 0 := fun seen l c hf => by
      obtain ⟨i, hi, hb, _⟩ := firstAt_some _ hf
      simp only [pb, List.getElem?_eq_getElem hi] at hb
      split at hb
      ·cases hb; decide
      ·split at hb
       ·cases hb; decide
       ·cases hb
     cases hs : firstAt (pb [] p.Senders) p.Senders.length with
     | some c => rw [hs] at h; exact absurd h (code _ _ _ hs)
     | none =>
      cases hg : firstAt (pb (tasksOf p.Senders) p.Getters) p.Getters.length with
      | some c => rw [hs, hg] at h; exact absurd h (code _ _ _ hg)
      | none =>
       rw [hs, hg] at h
       obtain ⟨a1, a2, _⟩ := (pb_none _ _).1 hs
       obtain ⟨b1, b2, b3⟩ := (pb_none _ _).1 hg
       refine ⟨by omega, by omega, by omega, h4, fun x hx => ?_, (nd_split p).2 ⟨a2, b2, b3⟩, ?_⟩
       ·rcases List.mem_append.1 hx with hx | hx
        ·exact a1 x hx
        ·exact b1 x hx
       ·rw [← gbad_none]
        cases hv : firstAt (gbad p.Getters) p.Getters.length with
        | none => rfl
        | some f =>
         simp only [gv, hv] at h
         obtain ⟨i, hi, hb, _⟩ := firstAt_some _ hv
         simp only [gbad, List.getElem?_eq_getElem hi] at hb
         split at hb
         ·cases hb; simp at h
         ·cases hb
def keep (t : Int) (x : GPost) : Bool := !(x.Task == t)
theorem index_eq (l : List GPost) (t : Int) (h : l.length ≤ 1000000) : slices_IndexFunc_Post_1 l t = some (inLine l t) := by
 unfold slices_IndexFunc_Post_1
 have := loopO_if (step := slices_IndexFunc_Post_1_l1 l t) (fun i => ((i : Nat) : Int)) (isTask l t) (fun i => some (i : Int)) (some (-1)) l.length (fun i hi hp => ?_) (fun i hi hp => ?_) (fun _ => ?_)
 ·rw [show ((0 : Nat) : Int) = 0 from rfl] at this
  rw [this]
  unfold inLine
  cases firstIf (isTask l t) l.length <;> rfl
 ·rw [is_at hi] at hp
  simp only [decide_eq_false_iff_not] at hp
  simp [slices_IndexFunc_Post_1_l1, pipe_Without_1, ix_get hi, hi, hp, wrap_n1 i (by omega), Bool.cond_eq_ite]
 ·rw [is_at hi] at hp
  simp only [decide_eq_true_eq] at hp
  simp [slices_IndexFunc_Post_1_l1, pipe_Without_1, ix_get hi, hi, hp]
 ·simp [slices_IndexFunc_Post_1_l1]
theorem cut_wipe {α : Type} [Inhabited α] (l : List α) (i : Nat) (h : i ≤ l.length) : cut (wipe l (i : Int) ((l.length : Nat) : Int)) (0 : Int) (i : Int) = l.take i := by
 rw [cut_take, wipe, putL]
 simp only [Int.toNat_natCast]
 rw [List.append_assoc, List.take_append_of_le_length (by simp <;> omega), List.take_of_length_le (by simp <;> omega)]
theorem delete_eq (l : List GPost) (t : Int) (hl : l.length ≤ 1000000) : slices_DeleteFunc_Post_2 l t = some (l.filter (keep t), t) := by
 unfold slices_DeleteFunc_Post_2
 rw [index_eq l t hl]
 simp only [Option.bind_some]
 unfold inLine
 cases hf : firstIf (isTask l t) l.length with
 | none =>
  have hn := firstIf_none.1 hf
  have : l.filter (keep t) = l := by
   rw [List.filter_eq_self]
   intro x hx
   obtain ⟨i, hi, rfl⟩ := List.getElem_of_mem hx
   have := hn i hi
   rw [is_at hi] at this
   simpa [keep] using this
  rw [this]; rfl
 | some n =>
  obtain ⟨hn, h1, h2⟩ := firstIf_some hf
  have e0 : (((n : Nat) : Int) == -1) = false := by simp
  simp only [e0, cond_false]
  rw [wrap_n1 n (by omega)]
  have htake : (l.take (n + 1)).filter (keep t) = l.take n := by
   rw [List.take_succ_eq_append_getElem hn, List.filter_append]
   rw [is_at hn] at h1
   have hk : keep t l[n] = false := by simpa [keep] using h1
   have : (l.take n).filter (keep t) = l.take n := by
    rw [List.filter_eq_self]
    intro x hx
    obtain ⟨i, hi, rfl⟩ := List.mem_take_iff_getElem.1 hx
    have := h2 i (by omega)
    rw [is_at (by omega)] at this
    simpa [keep] using this
   rw [this]; simp [hk]
  obtain ⟨r, hr, rfl⟩ := loopO_inv (step := slices_DeleteFunc_Post_2_l1 t) (fun s => ∃ (i j : Nat) (c : List GPost), s = ((i : Int), (j : Int), c) ∧ c.length = l.length ∧ i < j ∧ j ≤ l.length ∧ c.take i = (l.take j).filter (keep t) ∧ c.drop j = l.drop j) (fun s => l.length - s.2.1.toNat) (fun r => r = (l.filter (keep t), t)) (fun s hs => by
   obtain ⟨i, j, c, rfl, hcl, hij, hjl, ht, hd⟩ := hs
   by_cases hj : j < l.length
   ·left
    have d1 : decide ((j : Int) < ((c.length : Nat) : Int)) = true := by simp; omega
    have d00 : ∀ m : Nat, decide ((0 : Int) ≤ (m : Int)) = true := fun m => by simp
    have d3 : decide ((i : Int) < ((c.length : Nat) : Int)) = true := by simp; omega
    have hcj : c[j]'(by omega) = l[j] := by
     have h1 : c[j]? = l[j]? := by
      have := congrArg (fun x => x[0]?) hd
      simpa [List.getElem?_drop] using this
     rw [List.getElem?_eq_getElem (by omega), List.getElem?_eq_getElem hj] at h1
     exact Option.some.inj h1
    have hdrop : ∀ m, j < m → c.drop m = l.drop m := fun m hm => by
     have := congrArg (fun x => x.drop (m - j)) hd
     simp only [List.drop_drop] at this
     rwa [show j + (m - j) = m by omega] at this
    by_cases hk : l[j].Task = t
    ·refine ⟨((i : Int), ((j + 1 : Nat) : Int), c), ?_, ⟨i, j + 1, c, rfl, hcl, by omega, by omega, ?_, hdrop _ (by omega)⟩, by simp only [Int.toNat_natCast]; omega⟩
     ·simp only [slices_DeleteFunc_Post_2_l1, d00, Bool.and_self, cond_true, d1, ix_get (show j < c.length by omega), hcj, pipe_Without_1, Option.bind_some, hk, beq_self_eq_true, Bool.not_true, cond_false, slices_DeleteFunc_Post_2_j1]
      rw [wrap_n1 j (by omega)]
     ·rw [List.take_succ_eq_append_getElem hj, List.filter_append, ← ht]
      simp [keep, hk]
    ·have hk' : (l[j].Task == t) = false := by simpa using hk
     refine ⟨(((i + 1 : Nat) : Int), ((j + 1 : Nat) : Int), c.set i l[j]), ?_, ⟨i + 1, j + 1, c.set i l[j], rfl, by simpa using hcl, by omega, by omega, ?_, ?_⟩, by simp only [Int.toNat_natCast]; omega⟩
     ·simp only [slices_DeleteFunc_Post_2_l1, d00, Bool.and_self, d3, cond_true, d1, ix_get (show j < c.length by omega), hcj, pipe_Without_1, Option.bind_some, hk', Bool.not_false, slices_DeleteFunc_Post_2_j1, Int.toNat_natCast]
      rw [wrap_n1 j (by omega), wrap_n1 i (by omega)]
     ·rw [List.take_succ_eq_append_getElem hj, List.filter_append, ← ht, List.take_succ_eq_append_getElem (by simp; omega), List.take_set_of_le (by omega)]
      have hx2 : keep t l[j] = true := by simpa [keep] using hk
      simp [hx2]
     ·rw [List.drop_set_of_lt (by omega)]
      exact hdrop _ (by omega)
   ·right
    have hjl' : j = l.length := by omega
    subst hjl'
    have d1 : decide (((l.length : Nat) : Int) < ((c.length : Nat) : Int)) = false := by simp; omega
    have d3 : (decide ((0 : Int) ≤ (i : Int)) && decide ((i : Int) ≤ ((c.length : Nat) : Int))) = true := by simp; omega
    have hwl : (wipe c (i : Int) ((c.length : Nat) : Int)).length = c.length := wipe_len (by omega)
    refine ⟨_, ?_, rfl⟩
    simp only [slices_DeleteFunc_Post_2_l1, d1, cond_false, d3, hwl, cond_true]
    rw [cut_wipe c i (by omega), ht, List.take_length]; rfl) (s0 := ((n : Int), ((n + 1 : Nat) : Int), l)) ⟨n, n + 1, l, rfl, rfl, by omega, by omega, htake.symm, rfl⟩
  exact hr
end Go.Proofs.Ytcpmhpobhnakeaa
end

section
namespace Go.Proofs.Ytcpmhpobhnakeaa
open Go Go.Sx
set_option linter.unusedVariables false
set_option linter.unusedSimpArgs false
abbrev Hub := List Pipe
structure Sm (l : Hub) : Prop where
 len : l.length ≤ 1000
 tot : ∀ p ∈ l, total p ≤ 1000000
theorem lt_n {i n : Nat} (h : i < n) : decide ((i : Int) < (n : Int)) = true := by simp; omega
theorem nlt_n (n : Nat) : decide ((n : Int) < (n : Int)) = false := by simp
theorem ge_n (i : Nat) : decide ((0 : Int) ≤ (i : Int)) = true := by simp
theorem ix_mem {α : Type} [Enc α] {l : List α} {j : Int} (hj : 0 ≤ j ∧ j < (l.length : Int)) : ix l j ∈ l := by
 have : ix l ((j.toNat : Nat) : Int) = l[j.toNat]'(by omega) := ix_get (by omega)
 rw [show ((j.toNat : Nat) : Int) = j from by omega] at this
 rw [this]; exact List.getElem_mem _
theorem ix_set {α : Type} [Enc α] {l : List α} {i j : Int} (hi : 0 ≤ i ∧ i < (l.length : Int)) (hj : 0 ≤ j) (v : α) : ix (l.set i.toNat v) j = if i = j then v else ix l j := by
 unfold ix
 rw [List.getD_eq_getElem?_getD, List.getD_eq_getElem?_getD]
 by_cases h : i = j
 ·subst h; rw [List.getElem?_set_self (by omega), if_pos rfl]; rfl
 ·rw [List.getElem?_set_ne (by omega), if_neg h]
theorem set_ix {α : Type} [Enc α] {l : List α} {i : Int} (hi : 0 ≤ i ∧ i < (l.length : Int)) : l.set i.toNat (ix l i) = l := by
 have : ix l ((i.toNat : Nat) : Int) = l[i.toNat]'(by omega) := ix_get (by omega)
 rw [show ((i.toNat : Nat) : Int) = i from by omega] at this
 rw [this, List.set_getElem_self]
def badH (l : Hub) (i : Nat) : Option Fault := match l[i]? with
 | some p => bif (pipeF p).Code != 0 then some ⟨(pipeF p).Code, (i : Int)⟩ else none
 | none => none
def hubF (l : Hub) : Fault := bif decide ((20 : Int) < (l.length : Int)) then ⟨2, 0⟩ else (firstAt (badH l) l.length).getD ⟨0, 0⟩
theorem told_bif {S ρ : Type} (c : Bool) (r : ρ) (s : S) : (bif c then some (Sum.inr r) else some (Sum.inl s)) = toldOr (bif c then some r else none) s := by cases c <;> rfl
theorem check_hub (l : Hub) (hs : Sm l) : pick_Check l = some (hubF l) := by
 unfold pick_Check hubF
 cases decide ((20 : Int) < (l.length : Int)) with
 | true => rfl
 | false =>
  rw [cond_false, cond_false]
  have hl := hs.len
  refine loopO_findP (step := pick_Check_l1 l) (fun i => ((i : Nat) : Int)) (badH l) ⟨0, 0⟩ l.length (fun i hi _ => ?_) (fun _ => ?_)
  ·unfold pick_Check_l1
   rw [lt_n hi, ge_n, ix_get hi, check_eq _ (hs.tot _ (List.getElem_mem hi)), wrap_n1 i (by omega)]
   simp only [badH, List.getElem?_eq_getElem hi, Bool.and_self, cond_true, Option.bind_some]
   exact told_bif _ _ _
  ·unfold pick_Check_l1
   rw [nlt_n]; rfl
theorem ref_hub (l : Hub) (hs : Sm l) : taskmillref_HubFault l = some (hubF l) := by
 unfold taskmillref_HubFault hubF
 cases decide ((20 : Int) < (l.length : Int)) with
 | true => rfl
 | false =>
  rw [cond_false, cond_false]
  have hl := hs.len
  refine loopO_findP (step := taskmillref_HubFault_l1 l) (fun i => ((i : Nat) : Int)) (badH l) ⟨0, 0⟩ l.length (fun i hi _ => ?_) (fun _ => ?_)
  ·unfold taskmillref_HubFault_l1
   rw [lt_n hi, ge_n, ix_get hi, refPipe_eq _ (hs.tot _ (List.getElem_mem hi)), wrap_n1 i (by omega)]
   simp only [badH, List.getElem?_eq_getElem hi, Bool.and_self, cond_true, Option.bind_some]
   exact told_bif _ _ _
  ·unfold taskmillref_HubFault_l1
   rw [nlt_n]; rfl
structure OkH (l : Hub) : Prop where
 len : l.length ≤ 20
 ok : ∀ p ∈ l, OkP p
theorem hubF_of {l : Hub} (h : OkH l) : hubF l = ⟨0, 0⟩ := by
 have h1 := h.len
 unfold hubF
 rw [show decide ((20 : Int) < (l.length : Int)) = false from by simp; omega, cond_false, (firstAt_none _).2 fun i hi => ?_]
 ·rfl
 ·simp only [badH, List.getElem?_eq_getElem hi, pipeF_of (h.ok _ (List.getElem_mem hi))]; rfl
theorem okH_of {l : Hub} (h : (hubF l).Code = 0) : OkH l := by
 unfold hubF at h
 cases h1 : decide ((20 : Int) < (l.length : Int)) with
 | true => rw [h1] at h; simp at h
 | false =>
  rw [h1, cond_false] at h
  simp only [decide_eq_false_iff_not] at h1
  refine ⟨by omega, fun p hp => ?_⟩
  obtain ⟨i, hi, rfl⟩ := List.getElem_of_mem hp
  cases hf : firstAt (badH l) l.length with
  | none =>
   have := (firstAt_none _).1 hf i hi
   simp only [badH, List.getElem?_eq_getElem hi] at this
   cases hc : (pipeF l[i]).Code != 0 with
   | true => rw [hc] at this; cases this
   | false => exact ok_of (by simpa using hc)
  | some f =>
   rw [hf] at h
   obtain ⟨j, hj, hb, _⟩ := firstAt_some _ hf
   simp only [badH, List.getElem?_eq_getElem hj] at hb
   cases hc : (pipeF l[j]).Code != 0 with
   | true => rw [hc] at hb; cases hb; simp at hc h; exact absurd h hc
   | false => rw [hc] at hb; cases hb
theorem OkH.sm {l : Hub} (h : OkH l) : Sm l := ⟨by have := h.len; omega, fun p hp => by have := (h.ok p hp).tot; omega⟩
theorem copied_eq (l : Hub) (hs : Sm l) : pick_copied l = some l := by
 unfold pick_copied
 have hl := hs.len
 refine Eq.trans ?_ (loopO_all (step := pick_copied_l1 l) (fun i => (((i : Nat) : Int), l.take i)) (some l) l.length (fun i hi => ?_) ?_)
 ·rfl
 ·unfold pick_copied_l1
  dsimp only
  have e : l.take i ++ [l[i]] = l.take (i + 1) := by rw [List.take_succ_eq_append_getElem hi]
  have hb : decide ((l.take (i + 1)).length * 88 ≤ 140737488355328) = true := by rw [decide_eq_true_eq, List.length_take]; omega
  rw [lt_n hi, ge_n, ix_get hi, copy_eq _ (hs.tot _ (List.getElem_mem hi)), wrap_n1 i (by omega)]
  simp only [Bool.and_self, cond_true, Option.bind_some, pipe_eta, e, hb]
 ·unfold pick_copied_l1
  dsimp only
  rw [nlt_n, List.take_length]; rfl
def at' (p : Pipe) (t : Int) : Bool := decide (t ∈ tasksOf p.Senders ∨ t ∈ tasksOf p.Getters)
def inHub (l : Hub) (t : Int) : Bool := l.any fun p => at' p t
def waitAt (l : Hub) (t : Int) (i : Nat) : Bool := match l[i]? with
 | some p => at' p t
 | none => false
theorem any_first (l : Hub) (t : Int) : inHub l t = (firstIf (waitAt l t) l.length).isSome := by
 rw [Bool.eq_iff_iff]
 unfold inHub
 rw [List.any_eq_true]
 constructor
 ·rintro ⟨p, hp, h⟩
  obtain ⟨i, hi, rfl⟩ := List.getElem_of_mem hp
  cases hf : firstIf (waitAt l t) l.length with
  | some j => rfl
  | none =>
   have := firstIf_none.1 hf i hi
   simp only [waitAt, List.getElem?_eq_getElem hi] at this
   rw [h] at this; cases this
 ·intro h
  cases hf : firstIf (waitAt l t) l.length with
  | none => rw [hf] at h; cases h
  | some j =>
   obtain ⟨h1, h2, _⟩ := firstIf_some hf
   simp only [waitAt, List.getElem?_eq_getElem h1] at h2
   exact ⟨_, List.getElem_mem h1, h2⟩
theorem waitAt_eq {l : Hub} {t : Int} {i : Nat} (hi : i < l.length) : waitAt l t i = at' l[i] t := by simp [waitAt, hi]
theorem waits_hub (l : Hub) (t : Int) (hs : Sm l) : pick_hub_waits l t = some (inHub l t) := by
 unfold pick_hub_waits slices_ContainsFunc_Pipe slices_IndexFunc_Pipe
 have hl := hs.len
 have key : ∀ i (hi : i < l.length), pick_hub_waits_1 l[i] t = some (at' l[i] t) := fun i hi => by
  have := hs.tot _ (List.getElem_mem hi)
  unfold total at this
  unfold pick_hub_waits_1
  rw [waits_eq _ _ (by omega) (by omega)]; rfl
 have := loopO_if (step := slices_IndexFunc_Pipe_l1 l t) (fun i => ((i : Nat) : Int)) (waitAt l t) (fun i => some (i : Int)) (some (-1)) l.length (fun i hi hp => ?_) (fun i hi hp => ?_) (fun _ => ?_)
 ·rw [show ((0 : Nat) : Int) = 0 from rfl] at this
  rw [this, any_first]
  cases firstIf (waitAt l t) l.length with
  | none => rfl
  | some i => simp
 ·rw [waitAt_eq hi] at hp
  unfold slices_IndexFunc_Pipe_l1
  rw [lt_n hi, ge_n, ix_get hi, key i hi, hp, wrap_n1 i (by omega)]; rfl
 ·rw [waitAt_eq hi] at hp
  unfold slices_IndexFunc_Pipe_l1
  rw [lt_n hi, ge_n, ix_get hi, key i hi, hp]; rfl
 ·unfold slices_IndexFunc_Pipe_l1
  rw [nlt_n]; rfl
theorem waits_in (l : Hub) (t : Int) (hs : Sm l) : taskmillref_WaitsIn l t = some (inHub l t) := by
 unfold taskmillref_WaitsIn
 have hl := hs.len
 have key : ∀ i (hi : i < l.length), taskmillref_WaitsAt l[i] t = some (at' l[i] t) := fun i hi => by
  have := hs.tot _ (List.getElem_mem hi)
  unfold total at this
  rw [waitsAt_eq _ _ (by omega) (by omega)]; rfl
 have := loopO_if (step := taskmillref_WaitsIn_l1 l t) (fun i => ((i : Nat) : Int)) (waitAt l t) (fun i => some true) (some false) l.length (fun i hi hp => ?_) (fun i hi hp => ?_) (fun _ => ?_)
 ·rw [show ((0 : Nat) : Int) = 0 from rfl] at this
  rw [this, any_first]
  cases firstIf (waitAt l t) l.length with
  | none => rfl
  | some i => rfl
 ·rw [waitAt_eq hi] at hp
  unfold taskmillref_WaitsIn_l1
  rw [lt_n hi, ge_n, ix_get hi, key i hi, hp, wrap_n1 i (by omega)]; rfl
 ·rw [waitAt_eq hi] at hp
  unfold taskmillref_WaitsIn_l1
  rw [lt_n hi, ge_n, ix_get hi, key i hi, hp]; rfl
 ·unfold taskmillref_WaitsIn_l1
  rw [nlt_n]; rfl
def gonP (t : Int) (p : Pipe) : Pipe := { p with Senders := p.Senders.filter (keep t), Getters := p.Getters.filter (keep t) }
theorem gonP_total (t : Int) (p : Pipe) : total (gonP t p) ≤ total p := by
 have h1 := List.length_filter_le (keep t) p.Senders
 have h2 := List.length_filter_le (keep t) p.Getters
 unfold total gonP
 dsimp only; omega
theorem without_eq (l : Hub) (i : Nat) (hi : i < l.length) (t : Int) (hs : total l[i] ≤ 1000000) : pipe_Without (i : Int) t l = some (l.set i (gonP t l[i])) := by
 have hs' := hs
 unfold total at hs'
 unfold pipe_Without
 rw [show decide ((0 : Int) ≤ (i : Int) ∧ (i : Int) < ((l.length : Nat) : Int)) = true from by simp; omega, cond_true, ixD_pos (by omega), ix_get hi, delete_eq _ _ (by omega), Option.bind_some]
 dsimp only
 rw [delete_eq _ _ (by omega), Option.bind_some]
 dsimp only
 rw [show ((i : Int)).toNat = i from rfl, ixD_pos (by omega), ix_get (by simpa using hi), List.getElem_set_self, List.set_set]
 rfl
def gonH (t : Int) (l : Hub) : Hub := l.map (gonP t)
theorem gonH_sm {t : Int} {l : Hub} (h : Sm l) : Sm (gonH t l) := ⟨by unfold gonH; rw [List.length_map]; exact h.len, fun p hp => by
 obtain ⟨q, hq, rfl⟩ := List.mem_map.1 hp
 exact Nat.le_trans (gonP_total t q) (h.tot q hq)⟩
theorem wake_in (ws : List GWake) (k : Nat) (hk : k < ws.length) (hw : ws.length ≤ 1000000) (l : Hub) (hs : Sm l) : loopO (pick_hub_wake_1_l1 ws (k : Int) l) (0, l) = some (.inl (((k + 1 : Nat) : Int), gonH ws[k].Task l)) := by
 have hl := hs.len
 refine Eq.trans ?_ (loopO_all (step := pick_hub_wake_1_l1 ws (k : Int) l) (fun i => (((i : Nat) : Int), (l.take i).map (gonP ws[k].Task) ++ l.drop i)) (some (.inl (((k + 1 : Nat) : Int), gonH ws[k].Task l))) l.length (fun i hi => ?_) ?_)
 ·rfl
 ·unfold pick_hub_wake_1_l1
  dsimp only
  have hlen : ((l.take i).map (gonP ws[k].Task) ++ l.drop i).length = l.length := by simp; omega
  have hi2 : i < ((l.take i).map (gonP ws[k].Task) ++ l.drop i).length := by omega
  have hget : ((l.take i).map (gonP ws[k].Task) ++ l.drop i)[i] = l[i] := by
   rw [List.getElem_append_right (by simp; omega)]
   simp [Nat.min_eq_left (Nat.le_of_lt hi)]
  have hwo := without_eq _ i hi2 ws[k].Task (by rw [hget]; exact hs.tot _ (List.getElem_mem hi))
  rw [hget] at hwo
  have e2 : ((l.take i).map (gonP ws[k].Task) ++ l.drop i).set i (gonP ws[k].Task l[i]) = (l.take (i + 1)).map (gonP ws[k].Task) ++ l.drop (i + 1) := by
   rw [List.set_append_right _ _ (by simp; omega), List.take_succ_eq_append_getElem hi, List.map_append, List.append_assoc]
   congr 1
   rw [show i - ((l.take i).map (gonP ws[k].Task)).length = 0 from by simp; omega, List.drop_eq_getElem_cons hi]
   rfl
  rw [lt_n hi, ge_n, hlen, lt_n hi, ix_get hk, hwo, wrap_n1 i (by omega), e2]
  have hlen2 : ((l.take (i + 1)).map (gonP ws[k].Task) ++ l.drop (i + 1)).length = l.length := by simp; omega
  simp only [Bool.and_self, cond_true, Option.bind_some, hlen2, decide_true]
 ·unfold pick_hub_wake_1_l1
  dsimp only
  rw [nlt_n, List.take_length, List.drop_length, List.append_nil, wrap_n1 k (by omega)]; rfl
def wakeH (ws : List GWake) (l : Hub) : Hub := ws.foldl (fun l w => gonH w.Task l) l
theorem wakeH_sm : ∀ {ws : List GWake} {l : Hub}, Sm l → Sm (wakeH ws l)
 | [], l, h => h
 | w :: ws, l, h => wakeH_sm (ws := ws) (gonH_sm h)
theorem wakeH_len : ∀ (ws : List GWake) (l : Hub), (wakeH ws l).length = l.length
 | [], l => rfl
 | w :: ws, l => by
  show (wakeH ws (gonH w.Task l)).length = _
  rw [wakeH_len ws]; simp [gonH]
theorem wake_eq (l : Hub) (hs : Sm l) (ws : List GWake) (hw : ws.length ≤ 1000000) : pick_hub_wake_1 l ws = some (wakeH ws l, ws) := by
 unfold pick_hub_wake_1
 refine loopO_up (step := pick_hub_wake_1_l2 ws) ws.length (fun i (l : Hub) => (((i : Nat) : Int), l)) (fun _ l => Sm l) (fun i l => some (wakeH (ws.drop i) l, ws)) (fun l hl => ?_) (fun i l hi hl => ?_) l hs
 ·unfold pick_hub_wake_1_l2
  dsimp only
  rw [nlt_n, List.drop_length]; rfl
 ·left
  refine ⟨gonH ws[i].Task l, ?_, gonH_sm hl, by rw [List.drop_eq_getElem_cons hi]; rfl⟩
  unfold pick_hub_wake_1_l2
  dsimp only
  rw [lt_n hi, ge_n, wake_in ws i hi hw l hl]; rfl
theorem sameHub_eq (a b : Hub) (hs : Sm a) : taskmillref_SameHub a b = some (decide (a = b)) := by
 have hl0 := hs.len
 unfold taskmillref_SameHub
 by_cases hl : a.length = b.length
 ·have e : (((a.length : Nat) : Int) != ((b.length : Nat) : Int)) = false := by simp [hl]
  rw [e, cond_false]
  have := loopO_if (step := taskmillref_SameHub_l1 a b) (fun i => ((i : Nat) : Int)) (fun i => decide (a[i]? ≠ b[i]?)) (fun _ => some false) (some true) a.length (fun i hi hp => ?_) (fun i hi hp => ?_) (fun _ => ?_)
  ·rw [show ((0 : Nat) : Int) = 0 from rfl] at this
   rw [this]
   cases hf : firstIf (fun i => decide (a[i]? ≠ b[i]?)) a.length with
   | none =>
    have h2 := firstIf_none.1 hf
    have : a = b := List.ext_getElem? fun i => by
     by_cases hi : i < a.length
     ·simpa using h2 i hi
     ·rw [List.getElem?_eq_none (by omega), List.getElem?_eq_none (by omega)]
    simp [this]
   | some i =>
    obtain ⟨h1, h2, _⟩ := firstIf_some hf
    have : a ≠ b := fun e => by subst e; simp at h2
    simp [this]
  ·have hj : i < b.length := by omega
   unfold taskmillref_SameHub_l1
   simp only [List.getElem?_eq_getElem hi, List.getElem?_eq_getElem hj] at hp
   rw [lt_n hi, ge_n, lt_n hj, ix_get hi, ix_get hj, samePipe_eq _ _ (hs.tot _ (List.getElem_mem hi)), wrap_n1 i (by omega)]
   have : a[i] = b[i] := by simpa using hp
   simp [this]
  ·have hj : i < b.length := by omega
   unfold taskmillref_SameHub_l1
   simp only [List.getElem?_eq_getElem hi, List.getElem?_eq_getElem hj] at hp
   rw [lt_n hi, ge_n, lt_n hj, ix_get hi, ix_get hj, samePipe_eq _ _ (hs.tot _ (List.getElem_mem hi))]
   have : a[i] ≠ b[i] := by simpa using hp
   simp [this]
  ·unfold taskmillref_SameHub_l1
   rw [nlt_n]; rfl
 ·have : a ≠ b := fun e => hl (by rw [e])
  have h2 : (((a.length : Nat) : Int) != ((b.length : Nat) : Int)) = true := by simp; omega
  rw [h2, cond_true, decide_eq_false this]
end Go.Proofs.Ytcpmhpobhnakeaa
end

section
namespace Go.Proofs.Ytcpmhpobhnakeaa
open Go Go.Sx
set_option linter.unusedVariables false
set_option linter.unusedSimpArgs false
theorem ixD_at {l : Hub} {i : Nat} (hi : i < l.length) : ixD l (i : Int) = l[i] := by rw [ixD_pos (by omega), ix_get hi]
theorem ixD_set (l : Hub) (i : Nat) (hi : i < l.length) (y : Pipe) : ixD (l.set i y) (i : Int) = y := by
 rw [ixD_at (by simpa using hi), List.getElem_set_self]
theorem in_t {l : Hub} {i : Nat} (hi : i < l.length) : decide ((0 : Int) ≤ (i : Int) ∧ (i : Int) < ((l.length : Nat) : Int)) = true := by simp; omega
abbrev Out := Bool × Bool × Bool × Int × Int × List GWake × Hub
def outA (a : Answer) (l : Hub) : Out := (a.Done, a.Panic, a.Ok, a.Value, a.Case, a.Wakes, l)
theorem put_hub (l : Hub) (i : Nat) (hi : i < l.length) (x : GPost) (ht : total l[i] ≤ 1000000) : pipe_Put (i : Int) x l = some (outA (putR l[i] x).2 (l.set i (putR l[i] x).1)) := by
 unfold pipe_Put
 rw [in_t hi, cond_true, ixD_at hi]
 have hself : l.set i l[i] = l := List.set_getElem_self _
 generalize hp : l[i] = p at *
 unfold total at ht
 unfold putR
 by_cases hc : p.Closed = true
 ·simp [hc, outA, hself]
 ·have hc' : p.Closed = false := by simpa using hc
  cases hg : p.Getters with
  | cons g t =>
   have hct := cut_tail g t
   have hl : (0 : Int) < (((g :: t).length : Nat) : Int) := by rw [List.length_cons]; omega
   have hl1 : (1 : Int) ≤ (((g :: t).length : Nat) : Int) := by rw [List.length_cons]; omega
   simp only [hc', hl, hl1, hct, cond_false, cond_true, decide_true, Bool.false_eq_true, if_false]
   simp [ix, outA]
  | nil =>
   have hb : (p.Items.length + 1) * 8 ≤ 140737488355328 := by omega
   by_cases hi2 : (p.Items.length : Int) < p.Cap
   ·simp [hc', hi2, hb, noA, hg, outA]
   ·simp [hc', hi2, hb, noA, hg, outA, hself]
theorem got_hub (l : Hub) (i : Nat) (hi : i < l.length) (x : GPost) (ht : total l[i] ≤ 1000000) : pipe_Got (i : Int) x l = some (outA (gotR l[i] x).2 (l.set i (gotR l[i] x).1)) := by
 unfold pipe_Got
 rw [in_t hi, cond_true, ixD_at hi]
 have hself : l.set i l[i] = l := List.set_getElem_self _
 have j1 : ∀ (q : Pipe) (wk : List GWake) (hq : q.Closed = l[i].Closed) (hsn : q.Senders = l[i].Senders.drop 1) (hgt : q.Getters = l[i].Getters) (hcp : q.Cap = l[i].Cap) (hit : q.Items = gotI l[i]) (hwk : wk = gotK l[i]) (hne : gotI l[i] = [] → q = l[i]),
   pipe_Got_j1 (i : Int) x (l.set i q) wk = some (outA (gotR l[i] x).2 (l.set i (gotR l[i] x).1)) := by
  intro q wk hq hsn hgt hcp hit hwk hne
  unfold pipe_Got_j1 gotR
  have hlen : (l.set i q).length = l.length := List.length_set
  rw [hlen, lt_n hi, ge_n, Bool.and_self, cond_true, ixD_set l i hi q, hit, hwk]
  cases hI : gotI l[i] with
  | nil =>
   have hqe := hne hI
   subst hqe
   rw [show decide ((0 : Int) < ((([] : List Int).length : Nat) : Int)) = false from rfl, cond_false]
   cases hc : l[i].Closed <;> simp [hc, outA, noA, hself]
  | cons v r =>
   have hl : decide ((0 : Int) < (((v :: r).length : Nat) : Int)) = true := by rw [List.length_cons]; simp
   have hl1 : decide ((1 : Int) ≤ (((v :: r).length : Nat) : Int)) = true := by rw [List.length_cons]; simp; omega
   rw [hl, hl1, cut_tail]
   simp only [cond_true, outA]
   rw [show ((i : Int)).toNat = i from rfl, List.set_set, hq, hsn, hgt, hcp]
   rfl
 cases hs : l[i].Senders with
 | nil =>
  rw [show decide ((0 : Int) < ((([] : List GPost).length : Nat) : Int)) = false from rfl, cond_false]
  have := j1 l[i] [] rfl (by rw [hs]; rfl) rfl rfl (by unfold gotI; rw [hs]) (by unfold gotK; rw [hs]) (fun _ => rfl)
  rw [hself] at this
  exact this
 | cons g t =>
  have hct := cut_tail g t
  have hl : decide ((0 : Int) < (((g :: t).length : Nat) : Int)) = true := by rw [List.length_cons]; simp
  have hl1 : decide ((1 : Int) ≤ (((g :: t).length : Nat) : Int)) = true := by rw [List.length_cons]; simp; omega
  have h0 : ix (g :: t) (0 : Int) = g := rfl
  unfold total at ht
  rw [hl, hl1, hct, h0]
  simp only [cond_true]
  rw [show ((i : Int)).toNat = i from rfl, ixD_set l i hi, List.set_set]
  have hb : decide ((l[i].Items ++ ([g.Value] : List Int)).length * 8 ≤ 140737488355328) = true := by rw [decide_eq_true_eq]; simp; omega
  dsimp only
  rw [hb, cond_true]
  refine j1 _ _ rfl (by rw [hs]; rfl) rfl rfl (by unfold gotI; rw [hs]) (by unfold gotK; rw [hs]) (fun h => ?_)
  unfold gotI at h
  rw [hs] at h
  simp at h
theorem put_not {p : Pipe} {x : GPost} (h : (putR p x).2.Done = false) : putR p x = (p, noA) := by
 unfold putR at h ⊢
 split
 ·rename_i hc; rw [if_pos hc] at h; cases h
 ·rename_i hc
  rw [if_neg hc] at h
  split
  ·rename_i g t hg; rw [hg] at h; cases h
  ·rename_i hg
   rw [hg] at h
   dsimp only at h
   split
   ·rename_i hi; rw [if_pos hi] at h; cases h
   ·rfl
theorem got_not {p : Pipe} {x : GPost} (h : (gotR p x).2.Done = false) : gotR p x = (p, noA) := by
 unfold gotR at h ⊢
 split
 ·rename_i v r hv; rw [hv] at h; cases h
 ·rename_i hv
  rw [hv] at h
  dsimp only at h
  split
  ·rename_i hc; rw [if_pos hc] at h; cases h
  ·rfl
def caseR (p : Pipe) (c : GCase) (x : GPost) : Pipe × Answer := bif c.Send then putR p x else gotR p x
theorem case_not {p : Pipe} {c : GCase} {x : GPost} (h : (caseR p c x).2.Done = false) : caseR p c x = (p, noA) := by
 unfold caseR at h ⊢
 cases hs : c.Send with
 | true => rw [hs] at h; exact put_not h
 | false => rw [hs] at h; exact got_not h
theorem case_total (p : Pipe) (c : GCase) (x : GPost) : total (caseR p c x).1 ≤ total p + 1 := by
 unfold caseR
 cases c.Send with
 | true => exact put_total p x
 | false => exact Nat.le_trans (got_total p x) (by omega)
theorem put_wakes (p : Pipe) (x : GPost) : (putR p x).2.Wakes.length ≤ 1 := by
 unfold putR
 split
 ·simp
 ·split
  ·simp
  ·split <;> simp [noA]
theorem case_wakes (p : Pipe) (c : GCase) (x : GPost) : (caseR p c x).2.Wakes.length ≤ 1 := by
 unfold caseR
 cases c.Send with
 | true => exact put_wakes p x
 | false => exact got_wakes p x
def onceR (task k : Int) (c : GCase) (l : Hub) : Answer × Hub := bif decide (c.Pipe < 0) then (noA, l) else ((caseR (ix l c.Pipe) c ⟨task, k, c.Value⟩).2, l.set c.Pipe.toNat (caseR (ix l c.Pipe) c ⟨task, k, c.Value⟩).1)
theorem once_not {task k : Int} {c : GCase} {l : Hub} (hc : c.Pipe < (l.length : Int)) (h : (onceR task k c l).1.Done = false) : onceR task k c l = (noA, l) := by
 unfold onceR at h ⊢
 cases h0 : decide (c.Pipe < 0) with
 | true => rfl
 | false =>
  rw [h0, cond_false] at h
  simp only [decide_eq_false_iff_not] at h0
  rw [cond_false, case_not h, set_ix ⟨by omega, hc⟩]
theorem once_eq (task k : Int) (c : GCase) (l : Hub) (hs : Sm l) (hc : c.Pipe < (l.length : Int)) : pick_hub_once_1 task k c l = some (outA (onceR task k c l).1 (onceR task k c l).2) := by
 unfold pick_hub_once_1 onceR
 cases h0 : decide (c.Pipe < 0) with
 | true => rfl
 | false =>
  simp only [decide_eq_false_iff_not] at h0
  obtain ⟨i, hi⟩ : ∃ i : Nat, c.Pipe = (i : Int) := ⟨c.Pipe.toNat, by omega⟩
  have hil : i < l.length := by omega
  have ht := hs.tot _ (List.getElem_mem hil)
  rw [cond_false, cond_false, hi, lt_n hil, ge_n, ix_get hil, Int.toNat_natCast]
  unfold caseR
  cases hsd : c.Send with
  | true =>
   simp only [cond_true, Bool.and_self]
   rw [put_hub l i hil _ ht]; rfl
  | false =>
   simp only [cond_true, cond_false, Bool.and_self]
   rw [got_hub l i hil _ ht]; rfl
theorem once_sm {task k : Int} {c : GCase} {l : Hub} (h : OkH l) : Sm (onceR task k c l).2 := by
 unfold onceR
 have h1 := h.len
 cases h0 : decide (c.Pipe < 0) with
 | true => exact h.sm
 | false =>
  rw [cond_false]
  simp only [decide_eq_false_iff_not] at h0
  refine ⟨by rw [List.length_set]; omega, fun p hp => ?_⟩
  by_cases hc : c.Pipe < (l.length : Int)
  ·rcases List.mem_or_eq_of_mem_set hp with hp | rfl
   ·exact h.sm.tot p hp
   ·have := case_total (ix l c.Pipe) c ⟨task, k, c.Value⟩
    have := (h.ok _ (ix_mem ⟨by omega, hc⟩)).tot
    omega
  ·rw [List.set_eq_of_length_le (by omega)] at hp
   exact h.sm.tot p hp
theorem once_wakes (task k : Int) (c : GCase) (l : Hub) : (onceR task k c l).1.Wakes.length ≤ 1 := by
 unfold onceR
 cases decide (c.Pipe < 0) with
 | true => exact Nat.zero_le _
 | false => exact case_wakes _ _ _
end Go.Proofs.Ytcpmhpobhnakeaa
end

section
namespace Go.Proofs.Ytcpmhpobhnakeaa
open Go Go.Sx
set_option linter.unusedVariables false
set_option linter.unusedSimpArgs false
theorem loopO_findE {S ρ : Type} {step : S → Option (S ⊕ ρ)} (E : Nat → S) (bad : Nat → Option ρ) (rest : Option ρ) (n : Nat)
  (h1 : ∀ i, i < n → bad i = none → step (E i) = some (.inl (E (i + 1)))) (h2 : ∀ i r, i < n → bad i = some r → step (E i) = some (.inr r)) (h3 : (∀ i, i < n → bad i = none) → step (E n) = rest.map .inr) :
  loopO step (E 0) = (firstAt bad n).elim rest some := by
 rw [loopO_find E bad rest n h1 h2 h3]
 cases firstAt bad n <;> rfl
theorem sort_iff (order : List Int) : (∀ i : Nat, i < order.length → (sortI order)[i]? = some (i : Int)) ↔ (∀ x ∈ order, 0 ≤ x ∧ x < (order.length : Int)) ∧ order.Nodup := by
 have hperm : (sortI order).Perm order := List.mergeSort_perm _ _
 have hlen := sortI_len order
 have hsort : (sortI order).Pairwise (fun x y => decide (x ≤ y) = true) := List.pairwise_mergeSort (fun a b c h1 h2 => by simp at *; omega) (fun a b => by simp; omega) order
 constructor
 ·intro h
  have e : sortI order = (List.range order.length).map fun (i : Nat) => (i : Int) := List.ext_getElem? fun i => by
   by_cases hi : i < order.length
   ·rw [h i hi]; simp [hi]
   ·rw [List.getElem?_eq_none (by omega), List.getElem?_eq_none (by simp; omega)]
  rw [e] at hperm
  refine ⟨fun x hx => ?_, hperm.nodup_iff.1 ?_⟩
  ·have := hperm.symm.subset hx
   obtain ⟨i, hi, rfl⟩ := List.mem_map.1 this
   have := List.mem_range.1 hi
   omega
  ·rw [List.nodup_iff_pairwise_ne, List.pairwise_map]
   exact (List.nodup_iff_pairwise_ne.1 List.nodup_range).imp fun h he => h (by omega)
 ·rintro ⟨h1, h2⟩
  have hnd : (sortI order).Nodup := hperm.nodup_iff.2 h2
  have hb : ∀ i (hi : i < (sortI order).length), 0 ≤ (sortI order)[i] ∧ (sortI order)[i] < (order.length : Int) := fun i hi => h1 _ (hperm.subset (List.getElem_mem hi))
  have hlt : ∀ i (hi : i + 1 < (sortI order).length), (sortI order)[i] < (sortI order)[i + 1] := fun i hi => by
   have a1 := List.pairwise_iff_getElem.1 hsort i (i + 1) (by omega) hi (by omega)
   have a2 := List.pairwise_iff_getElem.1 (List.nodup_iff_pairwise_ne.1 hnd) i (i + 1) (by omega) hi (by omega)
   simp only [decide_eq_true_eq] at a1
   omega
  have lo : ∀ i (hi : i < (sortI order).length), (i : Int) ≤ (sortI order)[i] := by
   intro i
   induction i with
   | zero => intro hi; exact (hb 0 hi).1
   | succ i ih => intro hi; have := ih (by omega); have := hlt i hi; omega
  have hi' : ∀ d i (hi : i < (sortI order).length), i + d + 1 = order.length → (sortI order)[i] ≤ (i : Int) := by
   intro d
   induction d with
   | zero => intro i hi he; have := (hb i hi).2; omega
   | succ d ih => intro i hi he; have := ih (i + 1) (by omega) (by omega); have := hlt i (by omega); omega
  intro i hi
  have hi2 : i < (sortI order).length := by omega
  rw [List.getElem?_eq_getElem hi2]
  have := lo i hi2
  have := hi' (order.length - i - 1) i hi2 (by omega)
  congr 1; omega
def pipesOf (cs : List GCase) : List Int := (cs.map (·.Pipe)).filter fun x => decide (0 ≤ x)
def badC (l : Hub) (cases : List GCase) (i : Nat) : Option Fault := match cases[i]? with
 | some c => bif decide (c.Pipe < -1) || decide ((l.length : Int) ≤ c.Pipe) then some ⟨3, (i : Int)⟩ else bif decide (c.Pipe ∈ pipesOf (cases.take i)) then some ⟨10, (i : Int)⟩
   else bif !c.Send && (c.Value != 0) then some ⟨5, (i : Int)⟩ else bif decide (0 ≤ c.Pipe) && decide (total (ix l c.Pipe) = 5000) then some ⟨9, (i : Int)⟩ else none
 | none => none
def orderOk (order : List Int) (n : Nat) : Bool := decide (order.length = n ∧ (∀ x ∈ order, 0 ≤ x ∧ x < (n : Int)) ∧ order.Nodup)
def lookF (l : Hub) (task : Int) (cases : List GCase) (order : List Int) : Fault :=
 bif decide (task < 1) then ⟨3, -1⟩ else bif inHub l task then ⟨10, -1⟩ else bif decide ((20 : Int) < (cases.length : Int)) then ⟨2, -1⟩
 else (firstAt (badC l cases) cases.length).getD (bif orderOk order cases.length then ⟨0, 0⟩ else ⟨8, -1⟩)
theorem pipes_snoc (cs : List GCase) (i : Nat) (h : i < cs.length) : pipesOf (cs.take (i + 1)) = bif decide (0 ≤ cs[i].Pipe) then pipesOf (cs.take i) ++ [cs[i].Pipe] else pipesOf (cs.take i) := by
 unfold pipesOf
 rw [List.take_succ_eq_append_getElem h, List.map_append, List.filter_append]
 cases hd : decide ((0 : Int) ≤ cs[i].Pipe) <;> simp [hd]
theorem set_snoc (m : List Int) (x : Int) : setAll [] (m ++ [x]) = miSet (setAll [] m) x 1 := by unfold setAll; rw [List.foldl_append]; rfl
theorem tot_sum (p : Pipe) (h : total p ≤ 1000000) : (IntKind.i64.wrap (IntKind.i64.wrap (((p.Items.length : Nat) : Int) + ((p.Senders.length : Nat) : Int)) + ((p.Getters.length : Nat) : Int)) == 5000) = decide (total p = 5000) := by
 rw [sum_len p (by omega), tot_eq]
theorem look_order (cases : List GCase) (order : List Int) (ho : order.length ≤ 2000000) (hc : cases.length ≤ 1000000) : loopO (pick_hub_look_l1 cases order) (((sortI order).length : Int), 0, sortI order) = some (bif orderOk order cases.length then ⟨0, 0⟩ else ⟨8, -1⟩) := by
 have hlen := sortI_len order
 have := loopO_if (step := pick_hub_look_l1 cases order) (fun i => ((((sortI order).length : Nat) : Int), ((i : Nat) : Int), sortI order)) (fun i => decide ((sortI order)[i]? ≠ some (i : Int))) (fun _ => some ⟨8, -1⟩) (some (bif (((order.length : Nat) : Int) != ((cases.length : Nat) : Int)) then ⟨8, -1⟩ else ⟨0, 0⟩)) (sortI order).length (fun i hi hp => ?_) (fun i hi hp => ?_) (fun _ => ?_)
 ·refine Eq.trans this ?_
  have key := sort_iff order
  cases hf : firstIf (fun i => decide ((sortI order)[i]? ≠ some (i : Int))) (sortI order).length with
  | none =>
   have hn := firstIf_none.1 hf
   have h2 := key.1 fun i hi => by simpa using hn i (by omega)
   dsimp only
   by_cases he : order.length = cases.length
   ·have : orderOk order cases.length = true := by
     unfold orderOk; rw [decide_eq_true_eq]; exact ⟨he, by rw [← he]; exact h2.1, h2.2⟩
    rw [this, show (((order.length : Nat) : Int) != ((cases.length : Nat) : Int)) = false from by simp [he]]; rfl
   ·have : orderOk order cases.length = false := by
     unfold orderOk; rw [decide_eq_false_iff_not]; exact fun h => he h.1
    rw [this, show (((order.length : Nat) : Int) != ((cases.length : Nat) : Int)) = true from by simp; omega]; rfl
  | some i =>
   obtain ⟨g1, g2, _⟩ := firstIf_some hf
   have : orderOk order cases.length = false := by
    unfold orderOk; rw [decide_eq_false_iff_not]
    rintro ⟨a1, a2, a3⟩
    have := key.2 ⟨by rw [a1]; exact a2, a3⟩ i (by omega)
    simp [this] at g2
   rw [this]; rfl
 ·unfold pick_hub_look_l1
  dsimp only
  rw [List.getElem?_eq_getElem hi] at hp
  have he : (sortI order)[i] = (i : Int) := by simpa using hp
  rw [lt_n hi, ge_n, ix_get hi, he, wrap_n1 i (by omega)]
  simp
 ·unfold pick_hub_look_l1
  dsimp only
  rw [List.getElem?_eq_getElem hi] at hp
  have he : (sortI order)[i] ≠ (i : Int) := by simpa using hp
  rw [lt_n hi, ge_n, ix_get hi, show ((i : Int) != (sortI order)[i]) = true from by simp; exact fun h => he h.symm]
  rfl
 ·unfold pick_hub_look_l1
  dsimp only
  rw [nlt_n]
  cases ((order.length : Nat) : Int) != ((cases.length : Nat) : Int) <;> rfl
theorem look_eq (l : Hub) (task : Int) (cases : List GCase) (order : List Int) (hs : Sm l) (ho : order.length ≤ 2000000) : pick_hub_look l task cases order = some (lookF l task cases order) := by
 unfold pick_hub_look lookF
 cases decide (task < 1) with
 | true => rfl
 | false =>
 rw [cond_false, cond_false, waits_hub l task hs, Option.bind_some]
 cases inHub l task with
 | true => rfl
 | false =>
 rw [cond_false, cond_false]
 by_cases h20 : (20 : Int) < (cases.length : Int)
 ·rw [decide_eq_true h20]; rfl
 rw [decide_eq_false h20, cond_false, cond_false]
 have hl := hs.len
 have := loopO_findE (step := pick_hub_look_l2 l cases order) (fun i => (((i : Nat) : Int), setAll [] (pipesOf (cases.take i)))) (badC l cases) (some (bif orderOk order cases.length then ⟨0, 0⟩ else ⟨8, -1⟩)) cases.length (fun i hi hb => ?_) (fun i r hi hb => ?_) (fun _ => ?_)
 ·refine Eq.trans this ?_
  cases firstAt (badC l cases) cases.length <;> rfl
 all_goals try (
  unfold pick_hub_look_l2
  dsimp only
  simp only [badC, List.getElem?_eq_getElem hi] at hb
  rw [lt_n hi, ge_n, ix_get hi, has_tasks]
  simp only [Bool.and_self, cond_true])
 ·cases h1 : decide (cases[i].Pipe < -1) || decide ((l.length : Int) ≤ cases[i].Pipe) with
  | true => rw [h1] at hb; cases hb
  | false =>
   rw [h1, cond_false] at hb
   cases h2 : decide (cases[i].Pipe ∈ pipesOf (cases.take i)) with
   | true => rw [h2] at hb; cases hb
   | false =>
    rw [h2, cond_false] at hb
    cases h3 : (!cases[i].Send && (cases[i].Value != 0)) with
    | true => rw [h3] at hb; cases hb
    | false =>
     rw [h3, cond_false] at hb
     simp only [cond_false]
     have hps := pipes_snoc cases i hi
     unfold pick_hub_look_j1
     cases h4 : decide ((0 : Int) ≤ cases[i].Pipe) with
     | false => rw [h4, cond_false] at hps; rw [cond_false, hps, wrap_n1 i (by omega)]
     | true =>
      rw [h4] at hb hps
      rw [cond_true] at hps
      simp only [Bool.or_eq_false_iff, decide_eq_false_iff_not, decide_eq_true_eq] at h1 h4
      have h5 : decide (cases[i].Pipe < ((l.length : Nat) : Int)) = true := by simp; omega
      rw [h5, tot_sum _ (hs.tot _ (ix_mem ⟨h4, by omega⟩))]
      cases h6 : decide (total (ix l cases[i].Pipe) = 5000) with
      | true => rw [h6] at hb; cases hb
      | false => simp only [Bool.and_self, cond_true, cond_false]; rw [hps, set_snoc, wrap_n1 i (by omega)]
 ·cases h1 : decide (cases[i].Pipe < -1) || decide ((l.length : Int) ≤ cases[i].Pipe) with
  | true => rw [h1] at hb; cases hb; rfl
  | false =>
   rw [h1, cond_false] at hb
   cases h2 : decide (cases[i].Pipe ∈ pipesOf (cases.take i)) with
   | true => rw [h2] at hb; cases hb; rfl
   | false =>
    rw [h2, cond_false] at hb
    cases h3 : (!cases[i].Send && (cases[i].Value != 0)) with
    | true => rw [h3] at hb; cases hb; rfl
    | false =>
     rw [h3, cond_false] at hb
     simp only [cond_false]
     cases h4 : decide ((0 : Int) ≤ cases[i].Pipe) with
     | false => rw [h4] at hb; cases hb
     | true =>
      rw [h4] at hb
      simp only [Bool.or_eq_false_iff, decide_eq_false_iff_not, decide_eq_true_eq] at h1 h4
      have h5 : decide (cases[i].Pipe < ((l.length : Nat) : Int)) = true := by simp; omega
      rw [h5, tot_sum _ (hs.tot _ (ix_mem ⟨h4, by omega⟩))]
      cases h6 : decide (total (ix l cases[i].Pipe) = 5000) with
      | true => rw [h6] at hb; cases hb; rfl
      | false => rw [h6] at hb; cases hb
 ·unfold pick_hub_look_l2
  dsimp only
  rw [nlt_n, cond_false, clone_eq order (by omega), Option.bind_some]
  have e : slices_Sort_int order = some (sortI order) := by
   unfold slices_Sort_int
   rw [decide_eq_true (show order.length < 4611686018427387904 by omega)]; rfl
  rw [e, Option.bind_some, sortI_len, decide_eq_true rfl, cond_true]
  have := look_order cases order ho (by omega)
  rw [sortI_len] at this
  rw [this]
theorem has_eq (l : List Int) (n : Int) (hn : l.length < 4611686018427387904) : taskmillref_Has l n = some (decide (n ∈ l)) := has_gen l n hn fun i => rfl
def dupAt (cases : List GCase) (i k : Nat) : Bool := match cases[i]?, cases[k]? with
 | some c, some d => decide (0 ≤ c.Pipe) && (d.Pipe == c.Pipe)
 | _, _ => false
theorem dup_iff (cases : List GCase) (i : Nat) (hi : i < cases.length) : (firstIf (dupAt cases i) i).isSome = decide (cases[i].Pipe ∈ pipesOf (cases.take i)) := by
 have mem : cases[i].Pipe ∈ pipesOf (cases.take i) ↔ ∃ k, ∃ h : k < i, 0 ≤ cases[i].Pipe ∧ cases[k].Pipe = cases[i].Pipe := by
  unfold pipesOf
  rw [List.mem_filter, List.mem_map]
  constructor
  ·rintro ⟨⟨c, hc, he⟩, h0⟩
   obtain ⟨k, hk, rfl⟩ := List.mem_take_iff_getElem.1 hc
   exact ⟨k, by omega, by simpa using h0, he⟩
  ·rintro ⟨k, hk, h0, he⟩
   exact ⟨⟨cases[k], List.mem_take_iff_getElem.2 ⟨k, by omega, rfl⟩, he⟩, by simpa using h0⟩
 rw [Bool.eq_iff_iff, decide_eq_true_eq, mem]
 constructor
 ·intro h
  cases hf : firstIf (dupAt cases i) i with
  | none => rw [hf] at h; cases h
  | some k =>
   obtain ⟨g1, g2, _⟩ := firstIf_some hf
   simp only [dupAt, List.getElem?_eq_getElem hi, List.getElem?_eq_getElem (show k < cases.length by omega), Bool.and_eq_true, decide_eq_true_eq, beq_iff_eq] at g2
   exact ⟨k, g1, g2.1, g2.2⟩
 ·rintro ⟨k, hk, h0, he⟩
  cases hf : firstIf (dupAt cases i) i with
  | some _ => rfl
  | none =>
   have := firstIf_none.1 hf k hk
   simp [dupAt, hi, show k < cases.length by omega, h0, he] at this
def toldOr' {ρ : Type} (o : Option ρ) (s : Int) : Int ⊕ ρ := match o with
 | some r => .inr r
 | none => .inl s
theorem ref_case (l : Hub) (cases : List GCase) (order : List Int) (hs : Sm l) (hc : cases.length ≤ 1000000) (i : Nat) (hi : i < cases.length) (h1 : (decide (cases[i].Pipe < -1) || decide ((l.length : Int) ≤ cases[i].Pipe)) = false) :
  loopO (taskmillref_CasesFault_l1 l cases order (i : Int)) 0 = some (toldOr' (badC l cases i) (((i + 1 : Nat) : Int))) := by
 have hl := hs.len
 have := loopO_if (step := taskmillref_CasesFault_l1 l cases order (i : Int)) (fun k => ((k : Nat) : Int)) (dupAt cases i) (fun _ => some (.inr ⟨10, (i : Int)⟩)) (some (toldOr' (bif !cases[i].Send && (cases[i].Value != 0) then some ⟨5, (i : Int)⟩ else bif decide (0 ≤ cases[i].Pipe) && decide (total (ix l cases[i].Pipe) = 5000) then some ⟨9, (i : Int)⟩ else none) (((i + 1 : Nat) : Int)))) i (fun k hk hp => ?_) (fun k hk hp => ?_) (fun _ => ?_)
 ·refine Eq.trans this ?_
  have hd := dup_iff cases i hi
  simp only [badC, List.getElem?_eq_getElem hi, h1, cond_false]
  cases hf : firstIf (dupAt cases i) i with
  | none => rw [hf] at hd; rw [← hd]; rfl
  | some k => rw [hf] at hd; rw [← hd]; rfl
 ·have hkl : k < cases.length := by omega
  simp only [dupAt, List.getElem?_eq_getElem hi, List.getElem?_eq_getElem hkl] at hp
  unfold taskmillref_CasesFault_l1
  rw [lt_n hk, ge_n, lt_n hkl, ix_get hi, ix_get hkl, hp, wrap_n1 k (by omega)]
  simp
 ·have hkl : k < cases.length := by omega
  simp only [dupAt, List.getElem?_eq_getElem hi, List.getElem?_eq_getElem hkl] at hp
  unfold taskmillref_CasesFault_l1
  rw [lt_n hk, ge_n, lt_n hkl, ix_get hi, ix_get hkl, hp]
  simp [F_eq]
 ·unfold taskmillref_CasesFault_l1
  rw [nlt_n, ix_get hi]
  simp only [cond_false]
  simp only [Bool.or_eq_false_iff, decide_eq_false_iff_not] at h1
  cases (!cases[i].Send && (cases[i].Value != 0)) with
  | true => rfl
  | false =>
   simp only [cond_false]
   cases h4 : decide ((0 : Int) ≤ cases[i].Pipe) with
   | false => simp [toldOr', wrap_n1 i (by omega)]
   | true =>
    simp only [decide_eq_true_eq] at h4
    have h5 : decide (cases[i].Pipe < ((l.length : Nat) : Int)) = true := by simp; omega
    rw [h5, tot_sum _ (hs.tot _ (ix_mem ⟨h4, by omega⟩))]
    cases decide (total (ix l cases[i].Pipe) = 5000) <;> simp [toldOr', F_eq, wrap_n1 i (by omega)]
def badI (cases : List GCase) (order : List Int) (i : Nat) : Bool := match order[i]? with
 | some x => decide (x < 0) || (decide ((cases.length : Int) ≤ x) || decide (x ∈ order.take i))
 | none => false
theorem badI_none (cases : List GCase) (order : List Int) (he : order.length = cases.length) : (firstIf (badI cases order) order.length).isNone = orderOk order cases.length := by
 rw [Bool.eq_iff_iff]
 unfold orderOk
 rw [decide_eq_true_eq]
 constructor
 ·intro h
  cases hf : firstIf (badI cases order) order.length with
  | some i => rw [hf] at h; cases h
  | none =>
   have hn := firstIf_none.1 hf
   have key : ∀ i (hi : i < order.length), (0 ≤ order[i] ∧ order[i] < (cases.length : Int)) ∧ order[i] ∉ order.take i := fun i hi => by
    have := hn i hi
    simp only [badI, List.getElem?_eq_getElem hi, Bool.or_eq_false_iff, decide_eq_false_iff_not] at this
    exact ⟨⟨by omega, by omega⟩, this.2.2⟩
   refine ⟨he, fun x hx => ?_, nodup_of_take fun i hi => (key i hi).2⟩
   obtain ⟨i, hi, rfl⟩ := List.getElem_of_mem hx
   exact (key i hi).1
 ·rintro ⟨_, h1, h2⟩
  cases hf : firstIf (badI cases order) order.length with
  | none => rfl
  | some i =>
   obtain ⟨g1, g2, _⟩ := firstIf_some hf
   simp only [badI, List.getElem?_eq_getElem g1, Bool.or_eq_true, decide_eq_true_eq] at g2
   have := h1 _ (List.getElem_mem g1)
   rcases g2 with g2 | g2 | g2
   ·omega
   ·omega
   ·exact absurd g2 (nodup_take h2 g1)
theorem ref_order (cases : List GCase) (order : List Int) (ho : order.length ≤ 2000000) (he : order.length = cases.length) : loopO (taskmillref_CasesFault_l2 cases order) 0 = some (bif orderOk order cases.length then ⟨0, 0⟩ else ⟨8, -1⟩) := by
 have := loopO_if (step := taskmillref_CasesFault_l2 cases order) (fun i => ((i : Nat) : Int)) (badI cases order) (fun _ => some ⟨8, -1⟩) (some ⟨0, 0⟩) order.length (fun i hi hp => ?_) (fun i hi hp => ?_) (fun _ => ?_)
 ·refine Eq.trans this ?_
  rw [← badI_none cases order he]
  cases firstIf (badI cases order) order.length <;> rfl
 all_goals try (
  unfold taskmillref_CasesFault_l2
  simp only [badI, List.getElem?_eq_getElem hi] at hp
  rw [lt_n hi, ge_n, ix_get hi, show decide ((i : Int) ≤ ((order.length : Nat) : Int)) = true from by simp; omega, cut_take, has_eq _ _ (by simp; omega)])
 ·simp only [Bool.or_eq_false_iff] at hp
  rw [hp.1, hp.2.1, hp.2.2]
  simp [taskmillref_CasesFault_j1, wrap_n1 i (by omega)]
 ·cases h1 : decide (order[i] < 0) with
  | true => rfl
  | false =>
   rw [h1, Bool.false_or] at hp
   cases h2 : decide ((cases.length : Int) ≤ order[i]) with
   | true => rfl
   | false =>
    rw [h2, Bool.false_or] at hp
    rw [hp]; rfl
 ·unfold taskmillref_CasesFault_l2
  rw [nlt_n]; rfl
def casesF (l : Hub) (task : Int) (cases : List GCase) (order : List Int) : Fault := bif (hubF l).Code != 0 then hubF l else lookF l task cases order
theorem cases_eq (l : Hub) (task : Int) (cases : List GCase) (order : List Int) (hs : Sm l) (ho : order.length ≤ 2000000) : taskmillref_CasesFault l task cases order = some (casesF l task cases order) := by
 unfold taskmillref_CasesFault casesF lookF
 rw [ref_hub l hs, Option.bind_some]
 cases (hubF l).Code != 0 with
 | true => rfl
 | false =>
 rw [cond_false, cond_false]
 cases decide (task < 1) with
 | true => rfl
 | false =>
 rw [cond_false, cond_false, waits_in l task hs, Option.bind_some]
 cases inHub l task with
 | true => rfl
 | false =>
 rw [cond_false, cond_false]
 by_cases h20 : (20 : Int) < (cases.length : Int)
 ·rw [decide_eq_true h20]; rfl
 rw [decide_eq_false h20, cond_false, cond_false]
 have hl := hs.len
 have := loopO_findE (step := taskmillref_CasesFault_l3 l cases order) (fun i => ((i : Nat) : Int)) (badC l cases) (some (bif orderOk order cases.length then ⟨0, 0⟩ else ⟨8, -1⟩)) cases.length (fun i hi hb => ?_) (fun i r hi hb => ?_) (fun _ => ?_)
 ·refine Eq.trans this ?_
  cases firstAt (badC l cases) cases.length <;> rfl
 ·unfold taskmillref_CasesFault_l3
  rw [lt_n hi, ge_n, ix_get hi]
  simp only [Bool.and_self, cond_true]
  cases h1 : decide (cases[i].Pipe < -1) || decide ((l.length : Int) ≤ cases[i].Pipe) with
  | true => simp [badC, hi, h1] at hb
  | false => rw [cond_false, ref_case l cases order hs (by omega) i hi h1, hb]; rfl
 ·unfold taskmillref_CasesFault_l3
  rw [lt_n hi, ge_n, ix_get hi]
  simp only [Bool.and_self, cond_true]
  cases h1 : decide (cases[i].Pipe < -1) || decide ((l.length : Int) ≤ cases[i].Pipe) with
  | true => simp [badC, hi, h1] at hb; subst hb; rfl
  | false => rw [cond_false, ref_case l cases order hs (by omega) i hi h1, hb]; rfl
 ·unfold taskmillref_CasesFault_l3
  rw [nlt_n, cond_false]
  by_cases he : order.length = cases.length
  ·rw [show (((order.length : Nat) : Int) != ((cases.length : Nat) : Int)) = false from by simp [he], cond_false, ref_order cases order ho he]
  ·rw [show (((order.length : Nat) : Int) != ((cases.length : Nat) : Int)) = true from by simp; omega, cond_true]
   have : orderOk order cases.length = false := by
    unfold orderOk; rw [decide_eq_false_iff_not]; exact fun h => he h.1
   rw [this]; rfl
structure Looked (l : Hub) (task : Int) (cases : List GCase) (order : List Int) : Prop where
 tk : 1 ≤ task
 free : inHub l task = false
 len : cases.length ≤ 20
 olen : order.length = cases.length
 rng : ∀ x ∈ order, 0 ≤ x ∧ x < (cases.length : Int)
 nd : order.Nodup
 cs : ∀ i (hi : i < cases.length), (-1 ≤ cases[i].Pipe ∧ cases[i].Pipe < (l.length : Int)) ∧ cases[i].Pipe ∉ pipesOf (cases.take i) ∧ (cases[i].Send = false → cases[i].Value = 0) ∧ (0 ≤ cases[i].Pipe → total (ix l cases[i].Pipe) ≠ 5000)
theorem look_of {l : Hub} {task : Int} {cases : List GCase} {order : List Int} (h : (lookF l task cases order).Code = 0) : Looked l task cases order ∧ lookF l task cases order = ⟨0, 0⟩ := by
 unfold lookF at h ⊢
 cases h1 : decide (task < 1) with
 | true => rw [h1] at h; cases h
 | false =>
 rw [h1, cond_false] at h
 cases h2 : inHub l task with
 | true => rw [h2] at h; cases h
 | false =>
 rw [h2, cond_false] at h
 cases h3 : decide ((20 : Int) < (cases.length : Int)) with
 | true => rw [h3] at h; cases h
 | false =>
 rw [h3, cond_false] at h
 simp only [cond_false]
 simp only [decide_eq_false_iff_not] at h1 h3
 have bad0 : ∀ i r, badC l cases i = some r → r.Code ≠ 0 := fun i r hb => by
  unfold badC at hb
  split at hb
  ·rename_i c _
   cases e1 : decide (c.Pipe < -1) || decide ((l.length : Int) ≤ c.Pipe) with
   | true => rw [e1] at hb; cases hb; exact (by decide : (3 : Int) ≠ 0)
   | false =>
    rw [e1, cond_false] at hb
    cases e2 : decide (c.Pipe ∈ pipesOf (cases.take i)) with
    | true => rw [e2] at hb; cases hb; exact (by decide : (10 : Int) ≠ 0)
    | false =>
     rw [e2, cond_false] at hb
     cases e3 : (!c.Send && (c.Value != 0)) with
     | true => rw [e3] at hb; cases hb; exact (by decide : (5 : Int) ≠ 0)
     | false =>
      rw [e3, cond_false] at hb
      cases e4 : decide (0 ≤ c.Pipe) && decide (total (ix l c.Pipe) = 5000) with
      | true => rw [e4] at hb; cases hb; exact (by decide : (9 : Int) ≠ 0)
      | false => rw [e4] at hb; cases hb
  ·cases hb
 cases hf : firstAt (badC l cases) cases.length with
 | some r =>
  rw [hf] at h
  obtain ⟨i, _, hb, _⟩ := firstAt_some _ hf
  exact absurd h (bad0 i r hb)
 | none =>
  rw [hf] at h
  cases ho : orderOk order cases.length with
  | false => rw [ho] at h; simp at h
  | true =>
   refine ⟨?_, rfl⟩
   unfold orderOk at ho
   rw [decide_eq_true_eq] at ho
   refine ⟨by omega, h2, by omega, ho.1, ho.2.1, ho.2.2, fun i hi => ?_⟩
   have := (firstAt_none _).1 hf i hi
   simp only [badC, List.getElem?_eq_getElem hi] at this
   cases e1 : decide (cases[i].Pipe < -1) || decide ((l.length : Int) ≤ cases[i].Pipe) with
   | true => rw [e1] at this; cases this
   | false =>
    rw [e1, cond_false] at this
    cases e2 : decide (cases[i].Pipe ∈ pipesOf (cases.take i)) with
    | true => rw [e2] at this; cases this
    | false =>
     rw [e2, cond_false] at this
     cases e3 : (!cases[i].Send && (cases[i].Value != 0)) with
     | true => rw [e3] at this; cases this
     | false =>
      rw [e3, cond_false] at this
      cases e4 : decide (0 ≤ cases[i].Pipe) && decide (total (ix l cases[i].Pipe) = 5000) with
      | true => rw [e4] at this; cases this
      | false =>
       simp only [Bool.or_eq_false_iff, decide_eq_false_iff_not] at e1 e2
       refine ⟨⟨by omega, by omega⟩, e2, fun hsd => ?_, fun h0 ht => ?_⟩
       ·rw [hsd] at e3; simpa using e3
       ·simp [h0, ht] at e4
end Go.Proofs.Ytcpmhpobhnakeaa
end

section
namespace Go.Proofs.Ytcpmhpobhnakeaa
open Go Go.Sx
set_option linter.unusedVariables false
set_option linter.unusedSimpArgs false
def waitP (task k : Int) (c : GCase) (p : Pipe) : Pipe := bif c.Send then { p with Senders := p.Senders ++ [⟨task, k, c.Value⟩] } else { p with Getters := p.Getters ++ [⟨task, k, c.Value⟩] }
def waitS (task k : Int) (c : GCase) (l : Hub) : Hub := bif decide (c.Pipe < 0) then l else l.set c.Pipe.toNat (waitP task k c (ix l c.Pipe))
def waitF (task : Int) : Nat → List GCase → Hub → Hub
 | _, [], l => l
 | k, c :: cs, l => waitF task (k + 1) cs (waitS task (k : Int) c l)
def tryF (l : Hub) (task : Int) (cases : List GCase) (order : List Int) (i : Nat) : Option (Answer × Hub) := match order[i]? with
 | some k => bif (onceR task k (ix cases k) l).1.Done then some ((onceR task k (ix cases k) l).1, wakeH (onceR task k (ix cases k) l).1.Wakes (onceR task k (ix cases k) l).2) else none
 | none => none
def doR (l : Hub) (task : Int) (cases : List GCase) (order : List Int) (d : Bool) : Answer × Hub :=
 (firstAt (tryF l task cases order) order.length).getD (bif d then (⟨true, false, false, 0, -1, []⟩, l) else (noA, waitF task 0 cases l))
structure Wt (n : Nat) (l : Hub) (j : Nat) : Prop where
 len : l.length = n
 tot : ∀ p ∈ l, total p ≤ 6000 + j
theorem Wt.step {n j : Nat} {l : Hub} (h : Wt n l j) (hn : n ≤ 20) {task k : Int} {c : GCase} (hc : c.Pipe < (n : Int)) : Wt n (waitS task k c l) (j + 1) := by
 unfold waitS
 cases h0 : decide (c.Pipe < 0) with
 | true => exact ⟨h.len, fun p hp => by have := h.tot p hp; omega⟩
 | false =>
  simp only [decide_eq_false_iff_not] at h0
  refine ⟨by rw [cond_false, List.length_set]; exact h.len, fun p hp => ?_⟩
  rw [cond_false] at hp
  rcases List.mem_or_eq_of_mem_set hp with hp | rfl
  ·have := h.tot p hp; omega
  ·have := h.tot _ (ix_mem (l := l) (j := c.Pipe) ⟨by omega, by rw [h.len]; exact hc⟩)
   unfold waitP
   cases c.Send <;> (unfold total at this ⊢; simp only [cond_true, cond_false, List.length_append, List.length_singleton]; omega)
theorem wait_pick (task : Int) (cases : List GCase) (l : Hub) (hl : OkH l) (hk : cases.length ≤ 20) (hc : ∀ i (hi : i < cases.length), cases[i].Pipe < (l.length : Int)) : loopO (pick_Pick_l1 task cases) (0, l) = some (false, false, false, 0, 0, ⟨0, 0⟩, waitF task 0 cases l, []) := by
 have h20 := hl.len
 refine loopO_up (step := pick_Pick_l1 task cases) cases.length (fun i (m : Hub) => (((i : Nat) : Int), m)) (fun i m => Wt l.length m i) (fun i m => some (false, false, false, 0, 0, ⟨0, 0⟩, waitF task i (cases.drop i) m, [])) (fun m hm => ?_) (fun i m hi hm => ?_) l ⟨rfl, fun p hp => by have := (hl.ok p hp).tot; omega⟩
 ·unfold pick_Pick_l1
  dsimp only
  rw [nlt_n, List.drop_length]; rfl
 ·left
  refine ⟨waitS task (i : Int) cases[i] m, ?_, hm.step h20 (hc i hi), by rw [List.drop_eq_getElem_cons hi]; rfl⟩
  unfold pick_Pick_l1
  dsimp only
  rw [lt_n hi, ge_n, ix_get hi]
  unfold waitS pick_Pick_j1
  cases h0 : decide (cases[i].Pipe < 0) with
  | true => rw [wrap_n1 i (by omega)]; rfl
  | false =>
   simp only [decide_eq_false_iff_not] at h0
   have h1 := hc i hi
   have ht := hm.tot _ (ix_mem (l := m) (j := cases[i].Pipe) ⟨by omega, by rw [hm.len]; exact h1⟩)
   unfold total at ht
   have hml := hm.len
   rw [show decide ((0 : Int) ≤ cases[i].Pipe) = true from by simp; omega, show decide (cases[i].Pipe < ((m.length : Nat) : Int)) = true from by rw [hml]; simpa using h1, wrap_n1 i (by omega), ixD_pos (by omega)]
   unfold waitP
   cases cases[i].Send with
   | true => rw [show decide (((ix m cases[i].Pipe).Senders ++ ([⟨task, (i : Int), cases[i].Value⟩] : List GPost)).length * 24 ≤ 140737488355328) = true from by rw [decide_eq_true_eq]; simp; omega]; rfl
   | false => rw [show decide (((ix m cases[i].Pipe).Getters ++ ([⟨task, (i : Int), cases[i].Value⟩] : List GPost)).length * 24 ≤ 140737488355328) = true from by rw [decide_eq_true_eq]; simp; omega]; rfl
abbrev PickOut := Bool × Bool × Bool × Int × Int × Fault × Hub × List GWake
def outP (a : Answer) (f : Fault) (l : Hub) : PickOut := (a.Done, a.Panic, a.Ok, a.Value, a.Case, f, l, a.Wakes)
theorem do_pick (l : Hub) (task : Int) (cases : List GCase) (order : List Int) (d : Bool) (hl : OkH l) (hL : Looked l task cases order) : loopO (pick_Pick_l2 task cases order d) (0, l) = some (outP (doR l task cases order d).1 ⟨0, 0⟩ (doR l task cases order d).2) := by
 have h20 := hl.len
 have hol := hL.olen
 have hcl := hL.len
 have hc : ∀ i (hi : i < cases.length), cases[i].Pipe < (l.length : Int) := fun i hi => (hL.cs i hi).1.2
 have := loopO_findE (step := pick_Pick_l2 task cases order d) (fun i => (((i : Nat) : Int), l)) (fun i => (tryF l task cases order i).map fun r => outP r.1 ⟨0, 0⟩ r.2) (some (outP (bif d then (⟨true, false, false, 0, -1, []⟩, l) else (noA, waitF task 0 cases l)).1 ⟨0, 0⟩ (bif d then (⟨true, false, false, 0, -1, []⟩, l) else (noA, waitF task 0 cases l)).2)) order.length (fun i hi hb => ?_) (fun i r hi hb => ?_) (fun _ => ?_)
 ·refine Eq.trans this ?_
  unfold doR
  rw [firstAt_map]
  cases firstAt (tryF l task cases order) order.length <;> rfl
 all_goals try (
  unfold pick_Pick_l2
  dsimp only
  obtain ⟨r1, r2⟩ := hL.rng _ (List.getElem_mem hi)
  obtain ⟨k, hk⟩ : ∃ k : Nat, order[i] = (k : Int) := ⟨order[i].toNat, by omega⟩
  have hkl : k < cases.length := by omega
  simp only [tryF, List.getElem?_eq_getElem hi, hk, ix_get hkl] at hb
  have hcp := hc k hkl
  have hsm := once_sm (task := task) (k := (k : Int)) (c := cases[k]) hl
  have hwk := once_wakes task (k : Int) cases[k] l
  have hln : (onceR task (k : Int) cases[k] l).2.length = l.length := by
   unfold onceR
   cases decide (cases[k].Pipe < 0) <;> simp
  rw [lt_n hi, ge_n, ix_get hi, hk, lt_n hkl, ge_n, ix_get hkl, once_eq _ _ _ _ hl.sm hcp]
  simp only [Bool.and_self, cond_true, Option.bind_some, outA, hln, decide_true])
 ·cases hd : (onceR task (k : Int) cases[k] l).1.Done with
  | true => rw [hd] at hb; cases hb
  | false =>
   rw [once_not hcp hd, cond_false, wrap_n1 i (by omega)]
 ·cases hd : (onceR task (k : Int) cases[k] l).1.Done with
  | false => rw [hd] at hb; cases hb
  | true =>
   rw [hd] at hb
   simp only [cond_true, Option.map_some, Option.some.injEq] at hb
   subst hb
   rw [cond_true, wake_eq _ hsm _ (by omega)]
   simp only [Option.bind_some, wakeH_len, hln, decide_true, cond_true, outP, hd]
   rfl
 ·unfold pick_Pick_l2
  dsimp only
  rw [nlt_n, cond_false]
  cases d with
  | true => rfl
  | false => rw [cond_false, wait_pick task cases l hl hcl hc]; rfl
def pickR (l : Hub) (task : Int) (cases : List GCase) (order : List Int) (d : Bool) : Answer × Fault × Hub :=
 bif (casesF l task cases order).Code != 0 then (noA, casesF l task cases order, []) else ((doR l task cases order d).1, ⟨0, 0⟩, (doR l task cases order d).2)
theorem cases_of {l : Hub} {task : Int} {cases : List GCase} {order : List Int} (h : (casesF l task cases order).Code = 0) : OkH l ∧ Looked l task cases order ∧ casesF l task cases order = ⟨0, 0⟩ := by
 unfold casesF at h ⊢
 cases hc : (hubF l).Code != 0 with
 | true => rw [hc] at h; simp at hc; exact absurd h hc
 | false =>
  rw [hc, cond_false] at h
  obtain ⟨h1, h2⟩ := look_of h
  exact ⟨okH_of (by simpa using hc), h1, by rw [cond_false]; exact h2⟩
theorem pick_eq (l : Hub) (task : Int) (cases : List GCase) (order : List Int) (d : Bool) (hs : Sm l) (ho : order.length ≤ 2000000) : pick_Pick l task cases order d = some (outP (pickR l task cases order d).1 (pickR l task cases order d).2.1 (pickR l task cases order d).2.2) := by
 unfold pick_Pick pickR
 rw [check_hub l hs, Option.bind_some]
 cases hc : (hubF l).Code != 0 with
 | true =>
  have e : casesF l task cases order = hubF l := by unfold casesF; rw [hc]; rfl
  rw [e, hc]; rfl
 | false =>
  rw [cond_false, copied_eq l hs, Option.bind_some, look_eq l task cases order hs ho, Option.bind_some]
  have e : casesF l task cases order = lookF l task cases order := by unfold casesF; rw [hc]; rfl
  rw [e]
  cases hk : (lookF l task cases order).Code != 0 with
  | true => rfl
  | false =>
   obtain ⟨a, b, c⟩ := cases_of (l := l) (task := task) (cases := cases) (order := order) (by rw [e]; simpa using hk)
   rw [cond_false, cond_false, do_pick l task cases order d a b]
theorem begun_eq : taskmilllaw_pickBegun = some true := by
 unfold taskmilllaw_pickBegun
 have hs : Sm [⟨1, [], false, [], []⟩, ⟨1, [], false, [], []⟩] := ⟨by decide, by decide⟩
 rw [pick_eq _ _ _ _ _ hs (by decide)]
 have e : pickR [⟨1, [], false, [], []⟩, ⟨1, [], false, [], []⟩] 1 [⟨0, false, 0⟩, ⟨1, true, 5⟩] [0, 1] false = (⟨true, false, false, 0, 1, []⟩, ⟨0, 0⟩, [⟨1, [], false, [], []⟩, ⟨1, [5], false, [], []⟩]) := by decide
 rw [e]
 show (taskmillref_Ints [5] [5]).bind _ = _
 rw [ints_eq _ _ (by decide)]
 rfl
structure Fit (l : Hub) : Prop where
 len : l.length ≤ 1048576
 tot : ∀ p ∈ l, total p ≤ 4611686018427387904
def vastAt (l : Hub) (i : Nat) : Bool := match l[i]? with
 | some p => decide (6000 < total p ∨ 800 < p.Senders.length + p.Getters.length)
 | none => false
theorem vastHub_ex (l : Hub) (hf : Fit l) : ∃ b, taskmilllaw_vastHub l = some b ∧ (b = false → Sm l ∧ l.length ≤ 100) := by
 unfold taskmilllaw_vastHub
 have hl := hf.len
 have := loopO_if (step := taskmilllaw_vastHub_l1 l) (fun i => ((i : Nat) : Int)) (vastAt l) (fun _ => some true) (some (decide ((100 : Int) < (l.length : Int)))) l.length (fun i hi hp => ?_) (fun i hi hp => ?_) (fun _ => ?_)
 ·rw [show ((0 : Nat) : Int) = 0 from rfl] at this
  rw [this]
  cases hv : firstIf (vastAt l) l.length with
  | some i => exact ⟨true, rfl, fun h => by cases h⟩
  | none =>
   have hn := firstIf_none.1 hv
   refine ⟨_, rfl, fun h => ?_⟩
   simp only [decide_eq_false_iff_not] at h
   refine ⟨⟨by omega, fun p hp => ?_⟩, by omega⟩
   obtain ⟨i, hi, rfl⟩ := List.getElem_of_mem hp
   have := hn i hi
   simp only [vastAt, List.getElem?_eq_getElem hi, decide_eq_false_iff_not] at this
   omega
 all_goals try (
  unfold taskmilllaw_vastHub_l1
  simp only [vastAt, List.getElem?_eq_getElem hi] at hp
  rw [lt_n hi, ge_n, ix_get hi, vast_eq _ (hf.tot _ (List.getElem_mem hi)), hp])
 ·rw [wrap_n1 i (by omega)]; rfl
 ·rfl
 ·unfold taskmilllaw_vastHub_l1
  rw [nlt_n]; rfl
theorem do_wakes (l : Hub) (task : Int) (cases : List GCase) (order : List Int) (d : Bool) : (doR l task cases order d).1.Wakes.length ≤ 1 := by
 unfold doR
 cases hf : firstAt (tryF l task cases order) order.length with
 | none => cases d <;> simp [noA]
 | some r =>
  obtain ⟨i, _, hb, _⟩ := firstAt_some _ hf
  unfold tryF at hb
  split at hb
  ·rename_i k _
   cases hd : (onceR task k (ix cases k) l).1.Done with
   | false => rw [hd] at hb; cases hb
   | true => rw [hd] at hb; cases hb; exact once_wakes _ _ _ _
  ·cases hb
theorem waitF_wt (task : Int) (n : Nat) (hn : n ≤ 20) : ∀ (cs : List GCase) (k : Nat) (l : Hub) (j : Nat), Wt n l j → (∀ c ∈ cs, c.Pipe < (n : Int)) → Wt n (waitF task k cs l) (j + cs.length)
 | [], k, l, j, h, _ => h
 | c :: cs, k, l, j, h, hc => by
  have := waitF_wt task n hn cs (k + 1) _ (j + 1) (h.step hn (task := task) (k := (k : Int)) (hc c (by simp))) (fun c hc' => hc c (by simp [hc']))
  rw [List.length_cons, show j + (cs.length + 1) = j + 1 + cs.length from by omega]
  exact this
theorem do_sm (l : Hub) (task : Int) (cases : List GCase) (order : List Int) (d : Bool) (hl : OkH l) (hL : Looked l task cases order) : Sm (doR l task cases order d).2 := by
 have h20 := hl.len
 have hcl := hL.len
 unfold doR
 cases hf : firstAt (tryF l task cases order) order.length with
 | none =>
  cases d with
  | true => exact hl.sm
  | false =>
   have := waitF_wt task l.length h20 cases 0 l 0 ⟨rfl, fun p hp => by have := (hl.ok p hp).tot; omega⟩ (fun c hc => by
    obtain ⟨i, hi, rfl⟩ := List.getElem_of_mem hc
    exact (hL.cs i hi).1.2)
   exact ⟨by show (waitF task 0 cases l).length ≤ _; rw [this.len]; omega, fun p hp => by have := this.tot p hp; omega⟩
 | some r =>
  obtain ⟨i, _, hb, _⟩ := firstAt_some _ hf
  unfold tryF at hb
  split at hb
  ·rename_i k _
   cases hd : (onceR task k (ix cases k) l).1.Done with
   | false => rw [hd] at hb; cases hb
   | true => rw [hd] at hb; cases hb; exact wakeH_sm (once_sm hl)
  ·cases hb
end Go.Proofs.Ytcpmhpobhnakeaa
end

section
namespace Go.Proofs.Ytcpmhpobhnakeaa
open Go Go.Sx
set_option linter.unusedVariables false
set_option linter.unusedSimpArgs false
end Go.Proofs.Ytcpmhpobhnakeaa
end

section
namespace Go.Proofs.Ytcpmhpobhnakeaa
open Go Go.Sx
set_option linter.unusedVariables false
set_option linter.unusedSimpArgs false
theorem badC_none {l : Hub} {cases : List GCase} (h : ∀ i (hi : i < cases.length), (-1 ≤ cases[i].Pipe ∧ cases[i].Pipe < (l.length : Int)) ∧ cases[i].Pipe ∉ pipesOf (cases.take i) ∧ (cases[i].Send = false → cases[i].Value = 0) ∧ (0 ≤ cases[i].Pipe → total (ix l cases[i].Pipe) ≠ 5000)) : firstAt (badC l cases) cases.length = none := by
 refine (firstAt_none _).2 fun i hi => ?_
 obtain ⟨⟨h1, h2⟩, h3, h4, h5⟩ := h i hi
 simp only [badC, List.getElem?_eq_getElem hi]
 rw [show (decide (cases[i].Pipe < -1) || decide ((l.length : Int) ≤ cases[i].Pipe)) = false from by simp; omega, cond_false, decide_eq_false h3, cond_false]
 rw [show (!cases[i].Send && (cases[i].Value != 0)) = false from by
  cases hs : cases[i].Send with
  | true => rfl
  | false => simp [h4 hs], cond_false]
 rw [show (decide (0 ≤ cases[i].Pipe) && decide (total (ix l cases[i].Pipe) = 5000)) = false from by
  cases hd : decide (0 ≤ cases[i].Pipe) with
  | false => rfl
  | true => simp only [decide_eq_true_eq] at hd; simp [h5 hd]]
 rfl
theorem look_good {l : Hub} {task : Int} {cases : List GCase} {order : List Int} (hL : Looked l task cases order) : lookF l task cases order = ⟨0, 0⟩ := by
 unfold lookF
 have h1 := hL.tk
 have h3 := hL.len
 rw [decide_eq_false (show ¬ task < 1 by omega), cond_false, hL.free, cond_false, decide_eq_false (show ¬ (20 : Int) < (cases.length : Int) by omega), cond_false, badC_none hL.cs]
 rw [show orderOk order cases.length = true from by unfold orderOk; rw [decide_eq_true_eq]; exact ⟨hL.olen, hL.rng, hL.nd⟩]
 rfl
theorem cases_good {l : Hub} {task : Int} {cases : List GCase} {order : List Int} (hl : OkH l) (hL : Looked l task cases order) : casesF l task cases order = ⟨0, 0⟩ := by
 unfold casesF
 rw [hubF_of hl]
 exact look_good hL
theorem Looked.other {l : Hub} {task : Int} {cases : List GCase} {order o2 : List Int} (hL : Looked l task cases order) (h1 : o2.length = cases.length) (h2 : ∀ x ∈ o2, 0 ≤ x ∧ x < (cases.length : Int)) (h3 : o2.Nodup) : Looked l task cases o2 :=
 ⟨hL.tk, hL.free, hL.len, h1, h2, h3, hL.cs⟩
theorem has_all {o : List Int} {n : Nat} (h1 : o.length = n) (h2 : ∀ x ∈ o, 0 ≤ x ∧ x < (n : Int)) (h3 : o.Nodup) {k : Int} (hk : 0 ≤ k) (hkn : k < (n : Int)) : k ∈ o := by
 have hs := (sort_iff o).2 ⟨by rw [h1]; exact h2, h3⟩ k.toNat (by omega)
 have : k ∈ sortI o := by
  have := List.mem_of_getElem? hs
  rwa [show ((k.toNat : Nat) : Int) = k from by omega] at this
 exact (List.mergeSort_perm _ _).subset this
def upTo (n : Nat) : List Int := (List.range n).map fun (i : Nat) => (i : Int)
theorem upTo_succ (n : Nat) : upTo (n + 1) = upTo n ++ [(n : Int)] := by unfold upTo; rw [List.range_succ, List.map_append]; rfl
theorem upTo_len (n : Nat) : (upTo n).length = n := by simp [upTo]
theorem upTo_mem {n : Nat} {x : Int} : x ∈ upTo n ↔ 0 ≤ x ∧ x < (n : Int) := by
 unfold upTo
 rw [List.mem_map]
 constructor
 ·rintro ⟨i, hi, rfl⟩; have := List.mem_range.1 hi; omega
 ·rintro ⟨h0, h1⟩; exact ⟨x.toNat, List.mem_range.2 (by omega), by omega⟩
theorem upTo_nd (n : Nat) : (upTo n).Nodup := by
 unfold upTo
 rw [List.nodup_iff_pairwise_ne, List.pairwise_map]
 exact (List.nodup_iff_pairwise_ne.1 List.nodup_range).imp fun h he => h (by omega)
def readyL (l : Hub) (task : Int) (cases : List GCase) (n : Nat) : List Int := (upTo n).filter fun k => (onceR task k (ix cases k) l).1.Done
theorem ready_succ (l : Hub) (task : Int) (cases : List GCase) (n : Nat) : readyL l task cases (n + 1) = bif (onceR task (n : Int) (ix cases (n : Int)) l).1.Done then readyL l task cases n ++ [(n : Int)] else readyL l task cases n := by
 unfold readyL
 rw [upTo_succ, List.filter_append]
 cases h : (onceR task (n : Int) (ix cases (n : Int)) l).1.Done <;> simp [h]
theorem ready_len (l : Hub) (task : Int) (cases : List GCase) (n : Nat) : (readyL l task cases n).length ≤ n := by
 have := List.length_filter_le (fun k => (onceR task k (ix cases k) l).1.Done) (upTo n)
 rw [upTo_len] at this; exact this
def readyR (l : Hub) (task : Int) (cases : List GCase) : Fault × List Int := bif (casesF l task cases (upTo cases.length)).Code != 0 then (casesF l task cases (upTo cases.length), []) else (⟨0, 0⟩, readyL l task cases cases.length)
theorem order_l2 (l : Hub) (task : Int) (cases : List GCase) (hc : cases.length ≤ 1000000) : loopO (pick_Ready_l2 l task cases) (0, []) = ((pick_hub_look l task cases (upTo cases.length)).bind fun r5917 => (bif (r5917.Code != 0) then (some (r5917, [])) else (loopO (pick_Ready_l1 l task cases) (0, [])))) := by
 refine Eq.trans ?_ (loopO_all (step := pick_Ready_l2 l task cases) (fun i => (((i : Nat) : Int), upTo i)) _ cases.length (fun i hi => ?_) ?_)
 ·rfl
 ·unfold pick_Ready_l2
  dsimp only
  rw [lt_n hi, wrap_n1 i (by omega), ← upTo_succ, upTo_len, decide_eq_true (show (i + 1) * 8 ≤ 140737488355328 by omega)]; rfl
 ·unfold pick_Ready_l2
  dsimp only
  rw [nlt_n]; rfl
theorem ready_l1 (l : Hub) (task : Int) (cases : List GCase) (hl : OkH l) (hk : cases.length ≤ 20) (hc : ∀ i (hi : i < cases.length), cases[i].Pipe < (l.length : Int)) : loopO (pick_Ready_l1 l task cases) (0, []) = some (⟨0, 0⟩, readyL l task cases cases.length) := by
 refine Eq.trans ?_ (loopO_all (step := pick_Ready_l1 l task cases) (fun i => (((i : Nat) : Int), readyL l task cases i)) (some (⟨0, 0⟩, readyL l task cases cases.length)) cases.length (fun i hi => ?_) ?_)
 ·rfl
 ·unfold pick_Ready_l1
  dsimp only
  have hcp := hc i hi
  have hlen := ready_len l task cases i
  rw [lt_n hi, ge_n, copied_eq l hl.sm, ix_get hi]
  simp only [Bool.and_self, cond_true, Option.bind_some]
  rw [once_eq _ _ _ _ hl.sm hcp]
  simp only [Option.bind_some, outA]
  have hs := ready_succ l task cases i
  rw [ix_get hi] at hs
  unfold pick_Ready_j1
  cases hd : (onceR task (i : Int) cases[i] l).1.Done with
  | true => rw [hd, cond_true] at hs; rw [cond_true, ← hs, decide_eq_true (show (readyL l task cases (i + 1)).length * 8 ≤ 140737488355328 by have := ready_len l task cases (i + 1); omega), wrap_n1 i (by omega)]; rfl
  | false => rw [hd, cond_false] at hs; rw [cond_false, hs, wrap_n1 i (by omega)]
 ·unfold pick_Ready_l1
  dsimp only
  rw [nlt_n]; rfl
theorem ready_eq (l : Hub) (task : Int) (cases : List GCase) (hs : Sm l) (hc : cases.length ≤ 1000000) : pick_Ready l task cases = some (readyR l task cases) := by
 unfold pick_Ready readyR
 rw [check_hub l hs, Option.bind_some]
 cases hh : (hubF l).Code != 0 with
 | true =>
  have e : casesF l task cases (upTo cases.length) = hubF l := by unfold casesF; rw [hh]; rfl
  rw [e, hh]; rfl
 | false =>
  have e : casesF l task cases (upTo cases.length) = lookF l task cases (upTo cases.length) := by unfold casesF; rw [hh]; rfl
  rw [cond_false, order_l2 l task cases hc, look_eq l task cases _ hs (by rw [upTo_len]; exact Nat.le_trans hc (by omega)), Option.bind_some, e]
  cases hk : (lookF l task cases (upTo cases.length)).Code != 0 with
  | true => rfl
  | false =>
   obtain ⟨a, b, c⟩ := cases_of (l := l) (task := task) (cases := cases) (order := upTo cases.length) (by rw [e]; simpa using hk)
   rw [cond_false, cond_false, ready_l1 l task cases a b.len fun i hi => (b.cs i hi).1.2]
theorem do_none {l : Hub} {task : Int} {cases : List GCase} {order : List Int} (hL : Looked l task cases order) (h : readyL l task cases cases.length = []) : doR l task cases order false = (noA, waitF task 0 cases l) := by
 unfold doR
 rw [(firstAt_none _).2 fun i hi => ?_]
 ·rfl
 ·unfold tryF
  rw [List.getElem?_eq_getElem hi]
  dsimp only
  have hm := hL.rng _ (List.getElem_mem hi)
  have : order[i] ∉ readyL l task cases cases.length := by rw [h]; simp
  unfold readyL at this
  rw [List.mem_filter] at this
  cases hd : (onceR task order[i] (ix cases order[i]) l).1.Done with
  | false => rfl
  | true => exact absurd ⟨upTo_mem.2 hm, hd⟩ this
theorem do_some {l : Hub} {task : Int} {cases : List GCase} {order : List Int} {d : Bool} (hL : Looked l task cases order) {r : Answer × Hub} (h : doR l task cases order d = r) (hd : r.1.Done = true) (hd0 : d = false) : ∃ k ∈ readyL l task cases cases.length, r = ((onceR task k (ix cases k) l).1, wakeH (onceR task k (ix cases k) l).1.Wakes (onceR task k (ix cases k) l).2) := by
 subst h
 unfold doR at hd ⊢
 cases hf : firstAt (tryF l task cases order) order.length with
 | none => rw [hf, hd0] at hd; cases hd
 | some r =>
  obtain ⟨i, hi, hb, _⟩ := firstAt_some _ hf
  unfold tryF at hb
  rw [List.getElem?_eq_getElem hi] at hb
  dsimp only at hb
  have hm := hL.rng _ (List.getElem_mem hi)
  cases hdd : (onceR task order[i] (ix cases order[i]) l).1.Done with
  | false => rw [hdd] at hb; cases hb
  | true =>
   rw [hdd] at hb
   cases hb
   exact ⟨order[i], by unfold readyL; exact List.mem_filter.2 ⟨upTo_mem.2 hm, hdd⟩, rfl⟩
theorem do_ready {l : Hub} {task : Int} {cases : List GCase} {order : List Int} {d : Bool} (hL : Looked l task cases order) (h : readyL l task cases cases.length ≠ []) : (doR l task cases order d).1.Done = true := by
 obtain ⟨k, hk⟩ := List.exists_mem_of_ne_nil _ h
 unfold readyL at hk
 obtain ⟨h1, h2⟩ := List.mem_filter.1 hk
 obtain ⟨a1, a2⟩ := upTo_mem.1 h1
 have hm := has_all hL.olen hL.rng hL.nd a1 a2
 obtain ⟨i, hi, rfl⟩ := List.getElem_of_mem hm
 unfold doR
 cases hf : firstAt (tryF l task cases order) order.length with
 | none =>
  have := (firstAt_none _).1 hf i hi
  unfold tryF at this
  rw [List.getElem?_eq_getElem hi] at this
  dsimp only at this
  rw [h2] at this; cases this
 | some r =>
  obtain ⟨j, hj, hb, _⟩ := firstAt_some _ hf
  unfold tryF at hb
  rw [List.getElem?_eq_getElem hj] at hb
  dsimp only at hb
  cases hdd : (onceR task order[j] (ix cases order[j]) l).1.Done with
  | false => rw [hdd] at hb; cases hb
  | true => rw [hdd] at hb; cases hb; exact hdd
theorem pickSure_true (l : Hub) (task : Int) (cases : List GCase) (a b : List Int) (hf : Fit l) : taskmilllaw_PickSure l task cases a b = some true := by
 unfold taskmilllaw_PickSure
 rw [begun_eq]
 obtain ⟨v, hv, hsm⟩ := vastHub_ex l hf
 simp only [Option.bind_some, Bool.not_true, cond_false, hv]
 cases v with
 | true => rfl
 | false =>
 obtain ⟨hs, h100⟩ := hsm rfl
 rw [cond_false]
 by_cases h1 : (20 : Int) < (cases.length : Int)
 ·rw [decide_eq_true h1]; rfl
 rw [decide_eq_false h1, cond_false]
 by_cases h2 : (20 : Int) < (a.length : Int)
 ·rw [decide_eq_true h2]; rfl
 rw [decide_eq_false h2, cond_false]
 by_cases h3 : (20 : Int) < (b.length : Int)
 ·rw [decide_eq_true h3]; rfl
 rw [decide_eq_false h3, cond_false, cases_eq l task cases a hs (by omega), Option.bind_some]
 cases ha : (casesF l task cases a).Code != 0 with
 | true => rfl
 | false =>
 rw [cond_false, cases_eq l task cases b hs (by omega), Option.bind_some]
 cases hb : (casesF l task cases b).Code != 0 with
 | true => rfl
 | false =>
 obtain ⟨hl, La, ea⟩ := cases_of (l := l) (task := task) (cases := cases) (order := a) (by simpa using ha)
 obtain ⟨_, Lb, eb⟩ := cases_of (l := l) (task := task) (cases := cases) (order := b) (by simpa using hb)
 have Lu : Looked l task cases (upTo cases.length) := La.other (upTo_len _) (fun x hx => upTo_mem.1 hx) (upTo_nd _)
 have eu := cases_good hl Lu
 unfold taskmilllaw_PickSure_j2
 rw [cond_false, ready_eq l task cases hs (by omega), Option.bind_some]
 have er : readyR l task cases = (⟨0, 0⟩, readyL l task cases cases.length) := by unfold readyR; rw [eu]; rfl
 rw [er]
 dsimp only
 rw [show ((0 : Int) != 0) = false from rfl, cond_false]
 by_cases hr : (1 : Int) < (((readyL l task cases cases.length).length : Nat) : Int)
 ·rw [decide_eq_true hr]; rfl
 rw [decide_eq_false hr, cond_false, pick_eq l task cases a false hs (by omega), pick_eq l task cases b false hs (by omega)]
 simp only [Option.bind_some]
 have same : doR l task cases a false = doR l task cases b false := by
  cases hR : readyL l task cases cases.length with
  | nil => rw [do_none La hR, do_none Lb hR]
  | cons k t =>
   have hne : readyL l task cases cases.length ≠ [] := by rw [hR]; simp
   obtain ⟨k1, m1, e1⟩ := do_some La (d := false) rfl (do_ready La hne) rfl
   obtain ⟨k2, m2, e2⟩ := do_some Lb (d := false) rfl (do_ready Lb hne) rfl
   rw [hR] at m1 m2 hr
   have ht : t = [] := by
    cases t with
    | nil => rfl
    | cons _ _ => simp at hr; omega
   subst ht
   simp only [List.mem_singleton] at m1 m2
   rw [e1, e2, m1, m2]
 have pa : pickR l task cases a false = ((doR l task cases a false).1, ⟨0, 0⟩, (doR l task cases a false).2) := by unfold pickR; rw [ea]; rfl
 have pb : pickR l task cases b false = ((doR l task cases a false).1, ⟨0, 0⟩, (doR l task cases a false).2) := by unfold pickR; rw [eb, ← same]; rfl
 rw [pa, pb]
 unfold outP
 dsimp only
 have hw := do_wakes l task cases a false
 rw [show ((0 : Int) == 0) = true from rfl, cond_true, cond_true, sameHub_eq _ _ (do_sm l task cases a false hl La), Option.bind_some, sameAnswer_eq _ _ (by dsimp only; omega)]
 simp [taskmilllaw_PickSure_j1]
end Go.Proofs.Ytcpmhpobhnakeaa
end

section
namespace Go.Proofs.Ytcpmhpobhnakeaa
open Go Go.Sx
set_option linter.unusedVariables false
set_option linter.unusedSimpArgs false
end Go.Proofs.Ytcpmhpobhnakeaa
end

section
namespace Go.Proofs.Ytcpmhpobhnakeaa
open Go Go.Sx
set_option linter.unusedVariables false
set_option linter.unusedSimpArgs false
def inS (l : Hub) (j : Int) (send : Bool) (x : GPost) : Prop := x ∈ bif send then (ix l j).Senders else (ix l j).Getters
theorem OkH.at {l : Hub} (h : OkH l) {j : Int} (h0 : 0 ≤ j) (h1 : j < (l.length : Int)) : OkP (ix l j) := h.ok _ (ix_mem ⟨h0, h1⟩)
structure Went (l l' : Hub) (ws : List GWake) : Prop where
 ok : OkH l'
 len : l'.length = l.length
 mem : ∀ j : Int, 0 ≤ j → j < (l.length : Int) → ∀ send x, inS l' j send x ↔ inS l j send x ∧ ∀ w ∈ ws, x.Task ≠ w.Task
 src : ∀ w ∈ ws, ∃ j : Int, 0 ≤ j ∧ j < (l.length : Int) ∧ ∃ send x, inS l j send x ∧ x.Task = w.Task
 nd : (ws.map (·.Task)).Nodup
structure Put (l0 l : Hub) (task : Int) (cases : List GCase) (k : Nat) : Prop where
 ok : OkH l
 len : l.length = l0.length
 rest : ∀ i (hi : i < cases.length), k ≤ i → 0 ≤ cases[i].Pipe → ix l cases[i].Pipe = ix l0 cases[i].Pipe
 old : ∀ j : Int, 0 ≤ j → j < (l0.length : Int) → ∀ send x, inS l0 j send x → inS l j send x
 new : ∀ j : Int, 0 ≤ j → j < (l0.length : Int) → ∀ send x, inS l j send x → inS l0 j send x ∨ x.Task = task
 has : ∀ i (hi : i < cases.length), i < k → 0 ≤ cases[i].Pipe → inS l cases[i].Pipe cases[i].Send ⟨task, (i : Int), cases[i].Value⟩
end Go.Proofs.Ytcpmhpobhnakeaa
end

section
namespace Go.Proofs.Ytcpmhpobhnakeaa
open Go Go.Sx
set_option linter.unusedVariables false
set_option linter.unusedSimpArgs false
structure Inv (n m : Nat) (l : Hub) (w : List Bool) (ch : List (List GCase)) (i : Nat) : Prop where
 ok : OkH l
 len : l.length = m
 wl : w.length = n + 1
 cl : ch.length = n + 1
 sound : ∀ j : Int, 0 ≤ j → j < (m : Int) → ∀ send x, inS l j send x → 1 ≤ x.Task ∧ x.Task ≤ (i : Int) ∧ ix w x.Task = true
 wait : ∀ t : Int, 0 ≤ t → t ≤ (n : Int) → ix w t = true → (1 ≤ t ∧ t ≤ (i : Int) ∧ (ix ch t).length ≤ 20) ∧ ∀ k (hk : k < (ix ch t).length), (ix ch t)[k].Pipe < (m : Int) ∧ (0 ≤ (ix ch t)[k].Pipe → ∃ v, inS l (ix ch t)[k].Pipe (ix ch t)[k].Send ⟨t, (k : Int), v⟩)
theorem Inv.next {n m : Nat} {l : Hub} {w : List Bool} {ch : List (List GCase)} {i : Nat} (h : Inv n m l w ch i) : Inv n m l w ch (i + 1) :=
 ⟨h.ok, h.len, h.wl, h.cl, fun j a b s x hx => by have := h.sound j a b s x hx; exact ⟨this.1, by omega, this.2.2⟩, fun t a b hw => by
  obtain ⟨⟨c1, c2, c3⟩, c4⟩ := h.wait t a b hw
  exact ⟨⟨c1, by omega, c3⟩, c4⟩⟩
theorem Inv.comes {n m : Nat} {l l' : Hub} {w : List Bool} {ch : List (List GCase)} {i : Nat} (h : Inv n m l w ch i) (hin : i < n) {cases : List GCase} (hk : cases.length ≤ 20) (hc : ∀ k (hk : k < cases.length), cases[k].Pipe < (l.length : Int)) (hp : Put l l' ((i + 1 : Nat) : Int) cases cases.length) : Inv n m l' (w.set (i + 1) true) (ch.set (i + 1) cases) (i + 1) := by
 have hwr : (0 : Int) ≤ ((i + 1 : Nat) : Int) ∧ ((i + 1 : Nat) : Int) < (w.length : Int) := by rw [h.wl]; omega
 have hcr : (0 : Int) ≤ ((i + 1 : Nat) : Int) ∧ ((i + 1 : Nat) : Int) < (ch.length : Int) := by rw [h.cl]; omega
 have hw : ∀ t : Int, 0 ≤ t → ix (w.set (i + 1) true) t = if ((i + 1 : Nat) : Int) = t then true else ix w t := fun t h0 => by
  have := ix_set hwr h0 true
  rwa [Int.toNat_natCast] at this
 have hch : ∀ t : Int, 0 ≤ t → ix (ch.set (i + 1) cases) t = if ((i + 1 : Nat) : Int) = t then cases else ix ch t := fun t h0 => by
  have := ix_set hcr h0 cases
  rwa [Int.toNat_natCast] at this
 refine ⟨hp.ok, by rw [hp.len]; exact h.len, by rw [List.length_set]; exact h.wl, by rw [List.length_set]; exact h.cl, fun j a b s x hx => ?_, fun t a b ht => ?_⟩
 ·rcases hp.new j a (by rw [h.len]; exact b) s x hx with hx | hx
  ·obtain ⟨c1, c2, c3⟩ := h.sound j a b s x hx
   exact ⟨c1, by omega, by rw [hw _ (by omega), if_neg (by omega)]; exact c3⟩
  ·rw [hx, hw _ (by omega), if_pos rfl]
   exact ⟨by omega, by omega, rfl⟩
 ·rw [hch t a]
  by_cases e : ((i + 1 : Nat) : Int) = t
  ·subst e
   simp only [if_pos]
   refine ⟨⟨by omega, by omega, hk⟩, fun k hkk => ⟨by rw [← h.len]; exact hc k hkk, fun h0 => ⟨_, hp.has k hkk hkk h0⟩⟩⟩
  ·simp only [if_neg e]
   rw [hw t a, if_neg e] at ht
   obtain ⟨⟨c1, c2, c4⟩, c3⟩ := h.wait t a b ht
   refine ⟨⟨c1, by omega, c4⟩, fun k hkk => ⟨(c3 k hkk).1, fun h0 => ?_⟩⟩
   obtain ⟨v, hv⟩ := (c3 k hkk).2 h0
   exact ⟨v, hp.old _ h0 (by rw [h.len]; exact (c3 k hkk).1) _ _ hv⟩
theorem Inv.free {n m : Nat} {l : Hub} {w : List Bool} {ch : List (List GCase)} {i : Nat} (h : Inv n m l w ch i) {t : Int} (ht : ix w t = false) : inHub l t = false := by
 unfold inHub
 rw [List.any_eq_false]
 intro p hp ha
 obtain ⟨j, hj, rfl⟩ := List.getElem_of_mem hp
 unfold at' at ha
 rw [decide_eq_true_eq] at ha
 have hjm : (j : Int) < (m : Int) := by rw [← h.len]; omega
 have get : ∀ send x, inS l (j : Int) send x → x.Task = t → False := fun send x hx he => by
  have := (h.sound (j : Int) (by omega) hjm send x hx).2.2
  rw [he, ht] at this; cases this
 rcases ha with ha | ha
 ·obtain ⟨x, hx, he⟩ := List.mem_map.1 ha
  exact get true x (by unfold inS; rw [ix_get hj]; exact hx) he
 ·obtain ⟨x, hx, he⟩ := List.mem_map.1 ha
  exact get false x (by unfold inS; rw [ix_get hj]; exact hx) he
end Go.Proofs.Ytcpmhpobhnakeaa
end

section
namespace Go.Proofs.Ytcpmhpobhnakeaa
open Go Go.Sx
set_option linter.unusedVariables false
set_option linter.unusedSimpArgs false
structure Lens (p : Pipe) : Prop where
 i : p.Items.length ≤ 9223372036854775807
 s : p.Senders.length ≤ 9223372036854775807
 g : p.Getters.length ≤ 9223372036854775807
theorem vast_big (p : Pipe) (hl : Lens p) (h : ¬ total p ≤ 1000000) : ∃ b, taskmilllaw_vastPipe p = some b ∧ (b = false → ∃ w, taskmillref_PipeFault p = some w ∧ w.Code ≠ 0) := by
 by_cases hs : total p ≤ 4611686018427387904
 ·exact ⟨_, vast_eq p hs, fun hb => by simp at hb; omega⟩
 ·obtain ⟨h1, h2, h3⟩ := hl
  refine ⟨_, rfl, fun hb => ?_⟩
  unfold taskmillref_PipeFault
  simp only [Bool.or_eq_false_iff, decide_eq_false_iff_not] at hb
  obtain ⟨hb1, hb2⟩ := hb
  by_cases c1 : (5000 : Int) < IntKind.i64.wrap (IntKind.i64.wrap (((p.Items.length : Nat) : Int) + ((p.Senders.length : Nat) : Int)) + ((p.Getters.length : Nat) : Int))
  ·simp [c1]
  ·simp only [c1, decide_false, cond_false]
   by_cases c2 : p.Cap < 0 ∨ 1000 < p.Cap
   ·have : (decide (p.Cap < 0) || decide (1000 < p.Cap)) = true := by simpa using c2
    simp [this]
   ·have : (decide (p.Cap < 0) || decide (1000 < p.Cap)) = false := by simp at c2 ⊢; omega
    simp only [this, cond_false]
    by_cases c3 : p.Cap < (p.Items.length : Int)
    ·simp [c3]
    ·simp only [c3, decide_false, cond_false]
     unfold total at hs
     -- both lines are there: else their lengths' sum tells that the pipe is vast
     have hsg : 0 < p.Senders.length ∧ 0 < p.Getters.length := by
      refine ⟨Nat.pos_of_ne_zero fun e => ?_, Nat.pos_of_ne_zero fun e => ?_⟩
      ·rw [e] at hb2 hs
       rw [wrap_id (by omega) (by omega)] at hb2
       omega
      ·rw [e] at hb2 hs
       rw [wrap_id (by omega) (by omega)] at hb2
       omega
     have d1 : decide ((0 : Int) < ((p.Senders.length : Nat) : Int)) = true := by simp; omega
     have d2 : decide ((0 : Int) < ((p.Getters.length : Nat) : Int)) = true := by simp; omega
     simp only [d1, d2, cond_true]
     cases p.Closed <;> cases (((p.Items.length : Nat) : Int) != p.Cap) <;> simp
structure LensH (l : Hub) : Prop where
 n : l.length ≤ 9223372036854775807
 p : ∀ p ∈ l, Lens p
noncomputable def vb (p : Pipe) : Bool := (taskmilllaw_vastPipe p).getD true
theorem vb_eq (p : Pipe) : taskmilllaw_vastPipe p = some (vb p) := rfl
def Or' (p : Pipe) : Prop := total p ≤ 1000000 ∨ ∃ w, taskmillref_PipeFault p = some w ∧ w.Code ≠ 0
theorem vb_or (p : Pipe) (hl : Lens p) (h : vb p = false) : Or' p := by
 by_cases ht : total p ≤ 1000000
 ·exact .inl ht
 ·obtain ⟨b, h1, h2⟩ := vast_big p hl ht
  rw [vb_eq] at h1
  cases h1
  exact .inr (h2 h)
noncomputable def vbAt (l : Hub) (i : Nat) : Bool := match l[i]? with
 | some p => vb p
 | none => false
theorem vastHub_any (l : Hub) (hl : LensH l) : ∃ b, taskmilllaw_vastHub l = some b ∧ (b = false → l.length ≤ 100 ∧ ∀ p ∈ l, Or' p) := by
 unfold taskmilllaw_vastHub
 have hn := hl.n
 have := loopO_if (step := taskmilllaw_vastHub_l1 l) (fun i => ((i : Nat) : Int)) (vbAt l) (fun _ => some true) (some (decide ((100 : Int) < (l.length : Int)))) l.length (fun i hi hp => ?_) (fun i hi hp => ?_) (fun _ => ?_)
 ·rw [show ((0 : Nat) : Int) = 0 from rfl] at this
  rw [this]
  cases hv : firstIf (vbAt l) l.length with
  | some i => exact ⟨true, rfl, fun h => by cases h⟩
  | none =>
   have hnn := firstIf_none.1 hv
   refine ⟨_, rfl, fun h => ?_⟩
   simp only [decide_eq_false_iff_not] at h
   refine ⟨by omega, fun p hp => ?_⟩
   obtain ⟨i, hi, rfl⟩ := List.getElem_of_mem hp
   have := hnn i hi
   simp only [vbAt, List.getElem?_eq_getElem hi] at this
   exact vb_or _ (hl.p _ (List.getElem_mem hi)) this
 all_goals try (
  unfold taskmilllaw_vastHub_l1
  simp only [vbAt, List.getElem?_eq_getElem hi] at hp
  rw [lt_n hi, ge_n, ix_get hi, vb_eq, hp])
 ·rw [wrap_id (by omega) (by omega)]; rfl
 ·rfl
 ·unfold taskmilllaw_vastHub_l1
  rw [nlt_n]; rfl
noncomputable def pf (p : Pipe) : Fault := (taskmillref_PipeFault p).getD ⟨0, 0⟩
theorem pf_eq {p : Pipe} (h : Or' p) : taskmillref_PipeFault p = some (pf p) := by
 unfold pf
 rcases h with h | ⟨w, h, _⟩
 ·rw [refPipe_eq p h]; rfl
 ·rw [h]; rfl
noncomputable def badX (l : Hub) (i : Nat) : Option Fault := match l[i]? with
 | some p => bif (pf p).Code != 0 then some ⟨(pf p).Code, (i : Int)⟩ else none
 | none => none
theorem hub_fault (l : Hub) (h100 : l.length ≤ 100) (ho : ∀ p ∈ l, Or' p) (hb : ∃ p ∈ l, ¬ total p ≤ 1000000) : ∃ w, taskmillref_HubFault l = some w ∧ w.Code ≠ 0 := by
 unfold taskmillref_HubFault
 cases decide ((20 : Int) < (l.length : Int)) with
 | true => exact ⟨⟨2, 0⟩, rfl, (by decide : (2 : Int) ≠ 0)⟩
 | false =>
  rw [cond_false]
  have := loopO_findP (step := taskmillref_HubFault_l1 l) (fun i => ((i : Nat) : Int)) (badX l) ⟨0, 0⟩ l.length (fun i hi _ => ?_) (fun _ => ?_)
  ·refine ⟨_, this, ?_⟩
   obtain ⟨p, hp, hpb⟩ := hb
   obtain ⟨i, hi, rfl⟩ := List.getElem_of_mem hp
   have hw : ∃ w, taskmillref_PipeFault l[i] = some w ∧ w.Code ≠ 0 := by
    rcases ho _ hp with h | h
    ·exact absurd h hpb
    ·exact h
   obtain ⟨w, h1, h2⟩ := hw
   have hpf : pf l[i] = w := by unfold pf; rw [h1]; rfl
   cases hf : firstAt (badX l) l.length with
   | none =>
    have := (firstAt_none _).1 hf i hi
    simp only [badX, List.getElem?_eq_getElem hi, hpf] at this
    rw [show (w.Code != 0) = true from by simpa using h2] at this
    cases this
   | some f =>
    obtain ⟨j, hj, hbj, _⟩ := firstAt_some _ hf
    simp only [badX, List.getElem?_eq_getElem hj] at hbj
    cases hc : (pf l[j]).Code != 0 with
    | false => rw [hc] at hbj; cases hbj
    | true => rw [hc] at hbj; cases hbj; simpa using hc
  ·unfold taskmillref_HubFault_l1
   rw [lt_n hi, ge_n, ix_get hi, pf_eq (ho _ (List.getElem_mem hi)), wrap_n1 i (by omega)]
   simp only [badX, List.getElem?_eq_getElem hi, Bool.and_self, cond_true, Option.bind_some]
   exact told_bif _ _ _
  ·unfold taskmillref_HubFault_l1
   rw [nlt_n]; rfl
theorem pickSure_all (l : Hub) (task : Int) (cases : List GCase) (a b : List Int) (hl : LensH l) : taskmilllaw_PickSure l task cases a b = some true := by
 by_cases hfit : Fit l
 ·exact pickSure_true l task cases a b hfit
 ·unfold taskmilllaw_PickSure
  rw [begun_eq]
  obtain ⟨v, hv, hsm⟩ := vastHub_any l hl
  simp only [Option.bind_some, Bool.not_true, cond_false, hv]
  cases v with
  | true => rfl
  | false =>
  obtain ⟨h100, ho⟩ := hsm rfl
  have hbad : ∃ p ∈ l, ¬ total p ≤ 1000000 := Classical.byContradiction fun hn => hfit ⟨by omega, fun p hp => Classical.byContradiction fun hpn => hn ⟨p, hp, by omega⟩⟩
  obtain ⟨w, e1, e2⟩ := hub_fault l h100 ho hbad
  have ec : ∀ o, taskmillref_CasesFault l task cases o = some w := fun o => by
   unfold taskmillref_CasesFault
   rw [e1, Option.bind_some, show (w.Code != 0) = true from by simpa using e2]; rfl
  rw [cond_false]
  by_cases h1 : (20 : Int) < (cases.length : Int)
  ·rw [decide_eq_true h1]; rfl
  rw [decide_eq_false h1, cond_false]
  by_cases h2 : (20 : Int) < (a.length : Int)
  ·rw [decide_eq_true h2]; rfl
  rw [decide_eq_false h2, cond_false]
  by_cases h3 : (20 : Int) < (b.length : Int)
  ·rw [decide_eq_true h3]; rfl
  rw [decide_eq_false h3, cond_false, ec, Option.bind_some, show (w.Code != 0) = true from by simpa using e2]
  rfl
end Go.Proofs.Ytcpmhpobhnakeaa
end
