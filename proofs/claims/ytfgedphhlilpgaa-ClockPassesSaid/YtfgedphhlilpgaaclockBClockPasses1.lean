/-
  Lemmas, put together: PA, PB, PC, clockP, clockP2, clockP3, clockP4, clockP5.
  No conditions.
-/
import Derived.Test.YtfgedphhlilpgaaclockA3
import Derived.Test.YtfgedphhlilpgaaclockG
set_option linter.unusedSimpArgs false
set_option linter.unusedVariables false
section
namespace Go.Sx
open Go
set_option linter.unusedVariables false
theorem wrap_id {x : Int} (h1 : -9223372036854775808 ≤ x) (h2 : x ≤ 9223372036854775807) : IntKind.i64.wrap x = x := by
  simp only [IntKind.wrap, IntKind.bits, IntKind.signed, if_true]
  simp
  omega
theorem wf64 {x : Int} (h : (Lit.int .i64 x).wf = true) : -9223372036854775808 ≤ x ∧ x ≤ 9223372036854775807 := by
  simpa [Lit.wf, IntKind.min, IntKind.max, IntKind.signed, IntKind.bits] using h
theorem wrap_n1 (i : Nat) (h : i < 4611686018427387904) : IntKind.i64.wrap ((i : Int) + 1) = ((i + 1 : Nat) : Int) := by
  rw [wrap_id (by omega) (by omega)]; rfl
/-- A loop that ends. -/
theorem loopO_inv {S ρ : Type} {step : S → Option (S ⊕ ρ)} (I : S → Prop) (mu : S → Nat) (Post : ρ → Prop)
    (hs : ∀ s, I s → (∃ s', step s = some (.inl s') ∧ I s' ∧ mu s' < mu s) ∨ (∃ r, step s = some (.inr r) ∧ Post r)) {s0 : S} (h0 : I s0) : ∃ r, loopO step s0 = some r ∧ Post r := by
  have gen : ∀ (n : Nat) (s : S), mu s ≤ n → I s → ∃ r, loopO step s = some r ∧ Post r := by
    intro n
    induction n with
    | zero =>
      intro s hm hi
      rcases hs s hi with ⟨s', _, _, h3⟩ | ⟨r, h1, h2⟩
      · omega
      · exact ⟨r, loopO_inr h1, h2⟩
    | succ n ih =>
      intro s hm hi
      rcases hs s hi with ⟨s', h1, h2, h3⟩ | ⟨r, h1, h2⟩
      · rw [loopO_inl h1]; exact ih s' (by omega) h2
      · exact ⟨r, loopO_inr h1, h2⟩
  exact gen _ s0 (Nat.le_refl _) h0
/-- A loop, and what comes of it from each state on. -/
theorem loopO_eqv {S ρ : Type} {step : S → Option (S ⊕ ρ)} (F : S → Option ρ) (I : S → Prop) (mu : S → Nat)
    (hs : ∀ s, I s → (∃ s', step s = some (.inl s') ∧ I s' ∧ mu s' < mu s ∧ F s = F s') ∨ step s = (F s).map .inr) {s0 : S} (h0 : I s0) : loopO step s0 = F s0 := by
  have gen : ∀ (n : Nat) (s : S), mu s ≤ n → I s → loopO step s = F s := by
    intro n
    induction n with
    | zero =>
      intro s hm hi
      rcases hs s hi with ⟨s', _, _, h3, _⟩ | h1
      · omega
      · exact loopO_out h1
    | succ n ih =>
      intro s hm hi
      rcases hs s hi with ⟨s', h1, h2, h3, h4⟩ | h1
      · rw [loopO_inl h1, h4]; exact ih s' (by omega) h2
      · exact loopO_out h1
  exact gen _ s0 (Nat.le_refl _) h0
/-- What the first place tells at which something is told. -/
def firstAt {β : Type} (bad : Nat → Option β) : Nat → Option β
  | 0 => none
  | n + 1 => (firstAt bad n).or (bad n)
theorem firstAt_congr {β : Type} {f g : Nat → Option β} : ∀ (n : Nat), (∀ i, i < n → f i = g i) → firstAt f n = firstAt g n
  | 0, _ => rfl
  | n + 1, h => by simp only [firstAt]; rw [firstAt_congr n fun i hi => h i (by omega), h n (by omega)]
theorem firstAt_none {β : Type} {f : Nat → Option β} : ∀ (n : Nat), firstAt f n = none ↔ ∀ i, i < n → f i = none
  | 0 => by simp [firstAt]
  | n + 1 => by
    simp only [firstAt, Option.or_eq_none_iff, firstAt_none n]
    constructor
    · rintro ⟨h1, h2⟩ i hi
      by_cases h : i = n
      · subst h; exact h2
      · exact h1 i (by omega)
    · exact fun h => ⟨fun i hi => h i (by omega), h n (by omega)⟩
theorem firstAt_some {β : Type} {f : Nat → Option β} {b : β} : ∀ (n : Nat), firstAt f n = some b → ∃ i, i < n ∧ f i = some b ∧ ∀ j, j < i → f j = none
  | 0, h => by simp [firstAt] at h
  | n + 1, h => by
    simp only [firstAt] at h
    cases hf : firstAt f n with
    | some c =>
      rw [hf] at h
      obtain ⟨i, h1, h2, h3⟩ := firstAt_some n hf
      simp only [Option.some_or] at h
      exact ⟨i, by omega, by rw [h2, h], h3⟩
    | none =>
      rw [hf] at h
      simp only [Option.none_or] at h
      exact ⟨n, by omega, h, fun j hj => (firstAt_none n).1 hf j hj⟩
theorem firstAt_at {β : Type} {f : Nat → Option β} {b : β} {n i : Nat} (hi : i < n) (h : f i = some b) (hj : ∀ j, j < i → f j = none) : firstAt f n = some b := by
  cases hf : firstAt f n with
  | none => rw [(firstAt_none n).1 hf i hi] at h; cases h
  | some c =>
    obtain ⟨k, h1, h2, h3⟩ := firstAt_some n hf
    by_cases hki : k < i
    · rw [hj k hki] at h2; cases h2
    · by_cases hik : i < k
      · rw [h3 i hik] at h; cases h
      · have : k = i := by omega
        subst this; rw [h] at h2; exact h2.symm
/-- A loop whose state is known at each place: it stops at the first place at which something is told. -/
theorem loopO_find {S ρ : Type} {step : S → Option (S ⊕ ρ)} (E : Nat → S) (bad : Nat → Option ρ) (rest : Option ρ) (n : Nat)
    (h1 : ∀ i, i < n → bad i = none → step (E i) = some (.inl (E (i + 1)))) (h2 : ∀ i r, i < n → bad i = some r → step (E i) = some (.inr r)) (h3 : (∀ i, i < n → bad i = none) → step (E n) = rest.map .inr) :
    loopO step (E 0) = match firstAt bad n with
      | some r => some r
      | none => rest := by
  have walk : ∀ k, k ≤ n → (∀ i, i < k → bad i = none) → loopO step (E 0) = loopO step (E k) := by
    intro k
    induction k with
    | zero => exact fun _ _ => rfl
    | succ k ih =>
      intro hk hb
      rw [ih (by omega) fun i hi => hb i (by omega), loopO_inl (h1 k (by omega) (hb k (by omega)))]
  cases hf : firstAt bad n with
  | none =>
    have hb := (firstAt_none n).1 hf
    rw [walk n (Nat.le_refl _) hb, loopO_out (h3 hb)]
  | some r =>
    obtain ⟨i, g1, g2, g3⟩ := firstAt_some n hf
    rw [walk i (by omega) g3, loopO_inr (h2 i r g1 g2)]
/-- .. and something is told at the end. -/
theorem loopO_findD {S ρ : Type} {step : S → Option (S ⊕ ρ)} (E : Nat → S) (bad : Nat → Option ρ) (d : ρ) (n : Nat)
    (h1 : ∀ i, i < n → bad i = none → step (E i) = some (.inl (E (i + 1)))) (h2 : ∀ i r, i < n → bad i = some r → step (E i) = some (.inr r)) (h3 : (∀ i, i < n → bad i = none) → step (E n) = some (.inr d)) :
    loopO step (E 0) = some ((firstAt bad n).getD d) := by
  rw [loopO_find E bad (some d) n h1 h2 (fun h => by rw [h3 h]; rfl)]
  cases firstAt bad n <;> rfl
/-- .. what is told is asked for ahead of the next step. -/
theorem loopO_find2 {S ρ β : Type} {step : S → Option (S ⊕ ρ)} (E : Nat → S) (T : Nat → β → S) (bad : Nat → Option β) (rest : Option β → Option ρ) (n : Nat)
    (h1 : ∀ i, i < n → bad i = none → step (E i) = some (.inl (E (i + 1)))) (h2 : ∀ i x, i < n → bad i = some x → step (E i) = some (.inl (T i x))) (h3 : ∀ i x, i < n → bad i = some x → step (T i x) = (rest (some x)).map .inr) (h4 : (∀ i, i < n → bad i = none) → step (E n) = (rest none).map .inr) :
    loopO step (E 0) = rest (firstAt bad n) := by
  have walk : ∀ k, k ≤ n → (∀ i, i < k → bad i = none) → loopO step (E 0) = loopO step (E k) := by
    intro k
    induction k with
    | zero => exact fun _ _ => rfl
    | succ k ih =>
      intro hk hb
      rw [ih (by omega) fun i hi => hb i (by omega), loopO_inl (h1 k (by omega) (hb k (by omega)))]
  cases hf : firstAt bad n with
  | none =>
    have hb := (firstAt_none n).1 hf
    rw [walk n (Nat.le_refl _) hb, loopO_out (h4 hb)]
  | some x =>
    obtain ⟨i, g1, g2, g3⟩ := firstAt_some n hf
    rw [walk i (by omega) g3, loopO_inl (h2 i x g1 g2), loopO_out (h3 i x g1 g2)]
/-- A loop that goes through all places. -/
theorem loopO_all {S ρ : Type} {step : S → Option (S ⊕ ρ)} (E : Nat → S) (rest : Option ρ) (n : Nat)
    (h1 : ∀ i, i < n → step (E i) = some (.inl (E (i + 1)))) (h3 : step (E n) = rest.map .inr) : loopO step (E 0) = rest := by
  have := loopO_find E (fun _ => none) rest n (fun i hi _ => h1 i hi) (fun i r _ h => by cases h) (fun _ => h3)
  rw [this, (firstAt_none n).2 fun _ _ => rfl]
theorem ix_get {α : Type} [Enc α] {xs : List α} {i : Nat} (h : i < xs.length) : ix xs ((i : Nat) : Int) = xs[i] := by
  simp [ix, List.getD_eq_getElem?_getD, h]
theorem cut_take {α : Type} (xs : List α) (i : Nat) : cut xs 0 ((i : Nat) : Int) = xs.take i := by simp [cut]
theorem cut_drop {α : Type} (xs : List α) (i : Nat) : cut xs ((i : Nat) : Int) ((xs.length : Nat) : Int) = xs.drop i := by
  simp only [cut, Int.toNat_natCast]
  rw [List.take_of_length_le]; simp
theorem cut_take' {α : Type} (xs : List α) {n : Int} {i : Nat} (h : n = (i : Int)) : cut xs 0 n = xs.take i := by subst h; exact cut_take xs i
theorem cut_drop' {α : Type} (xs : List α) {n : Int} {i : Nat} (h : n = (i : Int)) : cut xs n ((xs.length : Nat) : Int) = xs.drop i := by subst h; exact cut_drop xs i
/-- Lists of as many numbers are the same, or differ at a place. -/
theorem list_eq_iff {α : Type} {a b : List α} (h : a.length = b.length) : a = b ↔ ∀ i (h1 : i < a.length) (h2 : i < b.length), a[i] = b[i] :=
  ⟨fun e => by subst e; exact fun _ _ _ => rfl, fun g => List.ext_getElem h g⟩
/-! ### Maps that tell who is there -/
theorem miGet_set (m : List (Int × Int)) (a v k : Int) : miGet (miSet m a v) k = if k = a then v else miGet m k := by
  induction m with
  | nil =>
    by_cases h : k = a
    · subst h; simp [miSet, miGet]
    · simp [miSet, miGet, h]
  | cons p r ih =>
    simp only [miSet]
    cases ha : (a == p.1) with
    | true =>
      have : a = p.1 := by simpa using ha
      subst this
      by_cases h : k = p.1
      · subst h; simp [miGet]
      · simp [miGet, h]
    | false =>
      have hap : a ≠ p.1 := by simpa using ha
      simp only [cond_false]
      by_cases h : k = p.1
      · subst h
        rw [if_neg (fun e => hap e.symm)]
        simp [miGet]
      · have e : ∀ (m : List (Int × Int)), miGet (p :: m) k = miGet m k := fun m => by
          simp [miGet, List.find?_cons, show (k == p.1) = false from by simpa using h]
        rw [e, e, ih]
def setAll (m : List (Int × Int)) (l : List Int) : List (Int × Int) := l.foldl (fun m x => miSet m x 1) m
theorem miGet_setAll (l : List Int) : ∀ (m : List (Int × Int)) (k : Int), miGet (setAll m l) k = if k ∈ l then 1 else miGet m k := by
  induction l with
  | nil => intro m k; simp [setAll]
  | cons a l ih =>
    intro m k
    show miGet (setAll (miSet m a 1) l) k = _
    rw [ih, miGet_set]
    by_cases h1 : k ∈ l
    · simp [h1]
    · by_cases h2 : k = a
      · subst h2; simp
      · simp [h1, h2]
theorem setAll_snoc (m : List (Int × Int)) (l : List Int) (i : Nat) (h : i < l.length) : setAll m (l.take (i + 1)) = miSet (setAll m (l.take i)) l[i] 1 := by
  rw [setAll, List.take_succ_eq_append_getElem h, List.foldl_append]; rfl
theorem miGet_nil (k : Int) : miGet [] k = 0 := rfl
/-! ### Functions that many seats have -/
/-- Are two lists of as many numbers the same? -/
theorem ints_gen {step : Int → Option (Int ⊕ Bool)} (a b : List Int) (hl : a.length = b.length) (hn : a.length < 4611686018427387904)
    (h : ∀ i, step i = (bif (decide (i < ((a.length : Nat) : Int))) then (bif ((decide ((0 : Int) ≤ i)) && (decide (i < ((a.length : Nat) : Int)))) then (bif ((decide ((0 : Int) ≤ i)) && (decide (i < ((b.length : Nat) : Int)))) then (bif ((ix a i) != (ix b i)) then (Option.map Sum.inr (some (false))) else (some (Sum.inl ((IntKind.i64.wrap (i + 1)))))) else none) else none) else (Option.map Sum.inr (some (true))))) :
    loopO step 0 = some (decide (a = b)) := by
  have := loopO_find (step := step) (fun i => ((i : Nat) : Int)) (fun i => if a[i]? = b[i]? then none else some false) (some true) a.length (fun i hi hb => ?_) (fun i r hi hb => ?_) (fun _ => ?_)
  · rw [show ((0 : Nat) : Int) = 0 from rfl] at this
    rw [this]
    cases hf : firstAt (fun i => if a[i]? = b[i]? then none else some false) a.length with
    | none =>
      have := (firstAt_none _).1 hf
      have e : a = b := (list_eq_iff hl).2 fun i h1 h2 => by
        have := this i h1
        simpa [h1, h2] using this
      simp [e]
    | some r =>
      obtain ⟨i, h1, h2, _⟩ := firstAt_some _ hf
      have : a ≠ b := fun e => by subst e; simp at h2
      split at h2
      · cases h2
      · cases h2; simp [this]
  · rw [h]
    have hi2 : i < b.length := by omega
    have e : a[i] = b[i] := by simpa [hi, hi2] using hb
    simp [hi, hi2, ix_get hi, ix_get hi2, e, wrap_n1 i (by omega), Bool.cond_eq_ite]
  · rw [h]
    have hi2 : i < b.length := by omega
    have e : ¬ a[i] = b[i] ∧ false = r := by simpa [hi, hi2] using hb
    simp [hi, hi2, ix_get hi, ix_get hi2, e.1, ← e.2, Bool.cond_eq_ite]
  · rw [h]; simp
/-- Is a number in a list? -/
theorem has_gen {step : Int → Option (Int ⊕ Bool)} (l : List Int) (n : Int) (hn : l.length < 4611686018427387904)
    (h : ∀ i, step i = (bif (decide (i < ((l.length : Nat) : Int))) then (bif ((decide ((0 : Int) ≤ i)) && (decide (i < ((l.length : Nat) : Int)))) then (bif ((ix l i) == n) then (Option.map Sum.inr (some (true))) else (some (Sum.inl ((IntKind.i64.wrap (i + 1)))))) else none) else (Option.map Sum.inr (some (false))))) :
    loopO step 0 = some (decide (n ∈ l)) := by
  have := loopO_find (step := step) (fun i => ((i : Nat) : Int)) (fun i => if l[i]? = some n then some true else none) (some false) l.length (fun i hi hb => ?_) (fun i r hi hb => ?_) (fun _ => ?_)
  · rw [show ((0 : Nat) : Int) = 0 from rfl] at this
    rw [this]
    cases hf : firstAt (fun i => if l[i]? = some n then some true else none) l.length with
    | none =>
      have := (firstAt_none _).1 hf
      have e : n ∉ l := fun hm => by
        obtain ⟨i, hi, e⟩ := List.getElem_of_mem hm
        have := this i hi
        simp [hi, e] at this
      simp [e]
    | some r =>
      obtain ⟨i, h1, h2, _⟩ := firstAt_some _ hf
      split at h2
      · rename_i he
        cases h2
        have : n ∈ l := List.mem_of_getElem? he
        simp [this]
      · cases h2
  · rw [h]
    have e : ¬ l[i] = n := by simpa [hi] using hb
    simp [hi, ix_get hi, e, wrap_n1 i (by omega), Bool.cond_eq_ite]
  · rw [h]
    have e : l[i] = n ∧ true = r := by simpa [hi] using hb
    simp [hi, ix_get hi, e.1, ← e.2, Bool.cond_eq_ite]
  · rw [h]; simp
/-- The place of a number in a list. -/
theorem index_gen {step : Int → Option (Int ⊕ Int)} (l : List Int) (n : Int) (hn : l.length < 4611686018427387904)
    (h : ∀ i, step i = (bif (decide (i < ((l.length : Nat) : Int))) then (bif ((decide ((0 : Int) ≤ i)) && (decide (i < ((l.length : Nat) : Int)))) then (bif (n == (ix l i)) then (Option.map Sum.inr (some (i))) else (some (Sum.inl ((IntKind.i64.wrap (i + 1)))))) else none) else (Option.map Sum.inr (some ((-1)))))) :
    ∃ r, loopO step 0 = some r ∧ (n ∈ l → ∃ i : Nat, r = i ∧ l[i]? = some n ∧ ∀ j < i, l[j]? ≠ some n) ∧ (n ∉ l → r = -1) := by
  have := loopO_find (step := step) (fun i => ((i : Nat) : Int)) (fun i => if l[i]? = some n then some (i : Int) else none) (some (-1)) l.length (fun i hi hb => ?_) (fun i r hi hb => ?_) (fun _ => ?_)
  · rw [show ((0 : Nat) : Int) = 0 from rfl] at this
    rw [this]
    cases hf : firstAt (fun i => if l[i]? = some n then some (i : Int) else none) l.length with
    | none =>
      have := (firstAt_none _).1 hf
      have e : n ∉ l := fun hm => by
        obtain ⟨i, hi, e⟩ := List.getElem_of_mem hm
        have := this i hi
        simp [hi, e] at this
      exact ⟨_, rfl, fun h => absurd h e, fun _ => rfl⟩
    | some r =>
      obtain ⟨i, h1, h2, h3⟩ := firstAt_some _ hf
      split at h2
      · rename_i he
        cases h2
        have hm : n ∈ l := List.mem_of_getElem? he
        refine ⟨_, rfl, fun _ => ⟨i, rfl, he, fun j hj hh => ?_⟩, fun h => absurd hm h⟩
        have := h3 j hj
        simp [hh] at this
      · cases h2
  · rw [h]
    have e : ¬ l[i] = n := by simpa [hi] using hb
    have e' : ¬ n = l[i] := fun h => e h.symm
    simp [hi, ix_get hi, e', wrap_n1 i (by omega), Bool.cond_eq_ite]
  · rw [h]
    have e : l[i] = n ∧ (i : Int) = r := by simpa [hi] using hb
    simp [hi, ix_get hi, e.1, ← e.2, Bool.cond_eq_ite]
  · rw [h]; simp
/-- The first place at which a test holds. -/
def firstIf (p : Nat → Bool) (n : Nat) : Option Nat := firstAt (fun i => bif p i then some i else none) n
theorem firstIf_none {p : Nat → Bool} {n : Nat} : firstIf p n = none ↔ ∀ i, i < n → p i = false := by
  unfold firstIf
  rw [firstAt_none]
  constructor
  · intro h i hi
    have := h i hi
    cases hp : p i with
    | false => rfl
    | true => rw [hp] at this; cases this
  · intro h i hi
    rw [h i hi]; rfl
theorem firstIf_some {p : Nat → Bool} {n i : Nat} (h : firstIf p n = some i) : i < n ∧ p i = true ∧ ∀ j, j < i → p j = false := by
  obtain ⟨k, h1, h2, h3⟩ := firstAt_some _ h
  cases hp : p k with
  | false => rw [hp] at h2; cases h2
  | true =>
    rw [hp] at h2; cases h2
    refine ⟨h1, hp, fun j hj => ?_⟩
    have := h3 j hj
    cases hq : p j with
    | false => rfl
    | true => rw [hq] at this; cases this
theorem firstIf_congr {p q : Nat → Bool} (n : Nat) (h : ∀ i, i < n → p i = q i) : firstIf p n = firstIf q n :=
  firstAt_congr n fun i hi => by rw [h i hi]
theorem loopO_if {S ρ : Type} {step : S → Option (S ⊕ ρ)} (E : Nat → S) (p : Nat → Bool) (R : Nat → Option ρ) (rest : Option ρ) (n : Nat)
    (h1 : ∀ i, i < n → p i = false → step (E i) = some (.inl (E (i + 1)))) (h2 : ∀ i, i < n → p i = true → step (E i) = (R i).map .inr) (h3 : (∀ i, i < n → p i = false) → step (E n) = rest.map .inr) :
    loopO step (E 0) = match firstIf p n with
      | some i => R i
      | none => rest := by
  have walk : ∀ k, k ≤ n → (∀ i, i < k → p i = false) → loopO step (E 0) = loopO step (E k) := by
    intro k
    induction k with
    | zero => exact fun _ _ => rfl
    | succ k ih =>
      intro hk hb
      rw [ih (by omega) fun i hi => hb i (by omega), loopO_inl (h1 k (by omega) (hb k (by omega)))]
  cases hf : firstIf p n with
  | none =>
    have hb := firstIf_none.1 hf
    rw [walk n (Nat.le_refl _) hb, loopO_out (h3 hb)]
  | some i =>
    obtain ⟨g1, g2, g3⟩ := firstIf_some hf
    rw [walk i (by omega) g3, loopO_out (h2 i g1 g2)]
/-- .. where the test sets what is asked for ahead of the next step. -/
theorem loopO_if2 {S ρ : Type} {step : S → Option (S ⊕ ρ)} (E : Nat → S) (T : Nat → S) (p : Nat → Bool) (R : Nat → Option ρ) (rest : Option ρ) (n : Nat)
    (h1 : ∀ i, i < n → p i = false → step (E i) = some (.inl (E (i + 1)))) (h2 : ∀ i, i < n → p i = true → step (E i) = some (.inl (T i))) (h2' : ∀ i, i < n → firstIf p n = some i → step (T i) = (R i).map .inr) (h3 : (∀ i, i < n → p i = false) → step (E n) = rest.map .inr) :
    loopO step (E 0) = match firstIf p n with
      | some i => R i
      | none => rest := by
  have walk : ∀ k, k ≤ n → (∀ i, i < k → p i = false) → loopO step (E 0) = loopO step (E k) := by
    intro k
    induction k with
    | zero => exact fun _ _ => rfl
    | succ k ih =>
      intro hk hb
      rw [ih (by omega) fun i hi => hb i (by omega), loopO_inl (h1 k (by omega) (hb k (by omega)))]
  cases hf : firstIf p n with
  | none =>
    have hb := firstIf_none.1 hf
    rw [walk n (Nat.le_refl _) hb, loopO_out (h3 hb)]
  | some i =>
    obtain ⟨g1, g2, g3⟩ := firstIf_some hf
    rw [walk i (by omega) g3, loopO_inl (h2 i g1 g2), loopO_out (h2' i g1 hf)]
end Go.Sx
end

section
namespace Go.Sx
variable {α : Type}
def delAt (l : List α) (i j : Nat) : List α := l.take i ++ l.drop j
/-- slices.Delete. -/
theorem del_lists [Inhabited α] (l : List α) (i j : Nat) (hi : i ≤ j) (hj : j ≤ l.length) (a : Int) (ha : a = ((i + (l.length - j) : Nat) : Int)) :
    cut (wipe (putL l (cut l (j : Int) ((l.length : Nat) : Int)) ((i : Int)).toNat) a ((l.length : Nat) : Int)) 0 ((i : Int) + (((cut l (j : Int) ((l.length : Nat) : Int)).length : Nat) : Int)) = delAt l i j := by
  subst ha
  rw [cut_drop]
  have e : ((i : Int) + (((l.drop j).length : Nat) : Int)) = ((i + (l.length - j) : Nat) : Int) := by simp
  rw [e, cut_take, wipe, putL]
  simp only [Int.toNat_natCast]
  rw [List.append_assoc, List.take_append_of_le_length (by simp [putL]; omega), List.take_of_length_le (by simp; omega)]
  unfold putL delAt
  rw [List.take_append_of_le_length (by simp; omega), List.take_of_length_le (by simp; omega)]
theorem delAt_len (l : List α) (i j : Nat) (hi : i ≤ j) (hj : j ≤ l.length) : (delAt l i j).length = l.length - (j - i) := by simp [delAt]; omega
end Go.Sx
end

section
namespace Go.Sx
def toldOr {S ρ : Type} (o : Option ρ) (s : S) : Option (S ⊕ ρ) := match o with
  | some r => some (.inr r)
  | none => some (.inl s)
@[simp] theorem toldOr_some {S ρ : Type} (r : ρ) (s : S) : toldOr (some r) s = some (.inr r) := rfl
@[simp] theorem toldOr_none {S ρ : Type} (s : S) : toldOr (none : Option ρ) s = some (.inl s) := rfl
/-- As 'loopO_findD'; at each place all ahead of it is known. -/
theorem loopO_findP {S ρ : Type} {step : S → Option (S ⊕ ρ)} (E : Nat → S) (bad : Nat → Option ρ) (d : ρ) (n : Nat)
    (h1 : ∀ i, i < n → (∀ j, j < i → bad j = none) → step (E i) = toldOr (bad i) (E (i + 1)))
    (h3 : (∀ i, i < n → bad i = none) → step (E n) = some (.inr d)) : loopO step (E 0) = some ((firstAt bad n).getD d) := by
  have walk : ∀ k, k ≤ n → (∀ i, i < k → bad i = none) → loopO step (E 0) = loopO step (E k) := by
    intro k
    induction k with
    | zero => exact fun _ _ => rfl
    | succ k ih =>
      intro hk hb
      have := h1 k (by omega) fun i hi => hb i (by omega)
      rw [hb k (by omega), toldOr_none] at this
      rw [ih (by omega) fun i hi => hb i (by omega), loopO_inl this]
  cases hf : firstAt bad n with
  | none =>
    have hb := (firstAt_none n).1 hf
    rw [walk n (Nat.le_refl _) hb, loopO_inr (h3 hb)]; rfl
  | some r =>
    obtain ⟨i, g1, g2, g3⟩ := firstAt_some n hf
    have := h1 i g1 g3
    rw [g2, toldOr_some] at this
    rw [walk i (by omega) g3, loopO_inr this]; rfl
theorem nodup_snoc {α : Type} {l : List α} {x : α} : (l ++ [x]).Nodup ↔ l.Nodup ∧ x ∉ l := by
  rw [List.nodup_append]
  constructor
  · rintro ⟨h1, _, h3⟩
    exact ⟨h1, fun h => h3 x h x (by simp) rfl⟩
  · rintro ⟨h1, h2⟩
    exact ⟨h1, by simp, fun a ha b hb e => by simp at hb; subst hb; subst e; exact h2 ha⟩
theorem nodup_grow {α : Type} (had ts : List α) (h0 : had.Nodup) : (had ++ ts).Nodup ↔ ∀ k (h : k < ts.length), ts[k] ∉ had ++ ts.take k := by
  have hs : ∀ k (h : k < ts.length), had ++ ts.take (k + 1) = had ++ ts.take k ++ [ts[k]] := fun k h => by
    rw [List.take_succ_eq_append_getElem h, List.append_assoc]
  constructor
  · intro h k hk
    have : (had ++ ts.take (k + 1)).Nodup := (List.Sublist.append (List.Sublist.refl had) (List.take_sublist (k + 1) ts)).nodup h
    rw [hs k hk, nodup_snoc] at this
    exact this.2
  · intro h
    have gen : ∀ k, k ≤ ts.length → (had ++ ts.take k).Nodup := by
      intro k
      induction k with
      | zero => simpa using h0
      | succ k ih =>
        intro hk
        rw [hs k (by omega), nodup_snoc]
        exact ⟨ih (by omega), h k (by omega)⟩
    have := gen ts.length (Nat.le_refl _)
    rwa [List.take_length] at this
/-- What holds of neighbours holds of all. -/
theorem pairwise_next {α : Type} (R : α → α → Prop) (ht : ∀ a b c, R a b → R b c → R a c) (l : List α) : l.Pairwise R ↔ ∀ i (h : i + 1 < l.length), R l[i] l[i + 1] := by
  rw [List.pairwise_iff_getElem]
  constructor
  · exact fun h i hi => h i (i + 1) (by omega) hi (by omega)
  · intro h i j hi hj hij
    have gen : ∀ d (hd : i + d + 1 < l.length), R l[i] l[i + d + 1] := by
      intro d
      induction d with
      | zero => exact fun hd => h i hd
      | succ d ih =>
        intro hd
        exact ht _ _ _ (ih (by omega)) (h (i + d + 1) hd)
    have := gen (j - i - 1) (by omega)
    have e : i + (j - i - 1) + 1 = j := by omega
    simpa only [e] using this
/-- A loop that counts up, and what comes of it from each place on. -/
theorem loopO_up {A S ρ : Type} {step : S → Option (S ⊕ ρ)} (n : Nat) (E : Nat → A → S) (I : Nat → A → Prop) (F : Nat → A → Option ρ)
    (hend : ∀ a, I n a → step (E n a) = (F n a).map .inr)
    (hstep : ∀ i a, i < n → I i a → (∃ a', step (E i a) = some (.inl (E (i + 1) a')) ∧ I (i + 1) a' ∧ F i a = F (i + 1) a') ∨ step (E i a) = (F i a).map .inr)
    (a0 : A) (h0 : I 0 a0) : loopO step (E 0 a0) = F 0 a0 := by
  have gen : ∀ (d i : Nat) (a : A), i + d = n → I i a → loopO step (E i a) = F i a := by
    intro d
    induction d with
    | zero => intro i a hi ha; rw [Nat.add_zero] at hi; subst hi; exact loopO_out (hend a ha)
    | succ d ih =>
      intro i a hi ha
      rcases hstep i a (by omega) ha with ⟨a', h1, h2, h3⟩ | h1
      · rw [loopO_inl h1, h3]; exact ih (i + 1) a' (by omega) h2
      · exact loopO_out h1
  exact gen n 0 a0 (by omega) h0
theorem drop_at {α : Type} {l : List α} {i : Nat} (h : i < l.length) : l.drop i = l[i] :: l.drop (i + 1) := List.drop_eq_getElem_cons h
/-- The middle of a binary search. -/
theorem mid_eq (i j : Nat) (h : i + j < 4611686018427387904) : IntKind.i64.wrap (Int.fdiv (IntKind.u64.wrap (IntKind.i64.wrap ((i : Int) + (j : Int)))) (2 ^ (min ((1 : Int)).toNat (IntKind.u64).bits))) = (((i + j) / 2 : Nat) : Int) := by
  rw [wrap_id (x := (i : Int) + j) (by omega) (by omega)]
  have e : IntKind.u64.wrap ((i : Int) + j) = (i : Int) + j := by
    simp only [IntKind.wrap, IntKind.bits, IntKind.signed]
    simp
    omega
  rw [e, show (2 : Int) ^ (min ((1 : Int)).toNat (IntKind.u64).bits) = 2 from rfl, Int.fdiv_eq_ediv_of_nonneg _ (by omega)]
  rw [wrap_id (by omega) (by omega)]
  omega
theorem bs_gen {ρ : Type} {step : Int × Int → Option ((Int × Int) ⊕ ρ)} (n : Nat) (lt : Nat → Bool) (R : Nat → Option ρ) (hm : ∀ a b, a < b → b < n → lt b = true → lt a = true)
    (h1 : ∀ i j : Nat, i < j → j ≤ n → step ((i : Int), (j : Int)) = if lt ((i + j) / 2) then some (.inl ((((i + j) / 2 + 1 : Nat) : Int), (j : Int))) else some (.inl ((i : Int), (((i + j) / 2 : Nat) : Int))))
    (h2 : ∀ i : Nat, i ≤ n → (∀ k, k < i → lt k = true) → (∀ k, i ≤ k → k < n → lt k = false) → step ((i : Int), (i : Int)) = (R i).map .inr) :
    ∃ i, i ≤ n ∧ (∀ k, k < i → lt k = true) ∧ (∀ k, i ≤ k → k < n → lt k = false) ∧ loopO step (0, (n : Int)) = R i := by
  have gen : ∀ (d i j : Nat), j - i ≤ d → i ≤ j → j ≤ n → (∀ k, k < i → lt k = true) → (∀ k, j ≤ k → k < n → lt k = false) →
      ∃ q, q ≤ n ∧ (∀ k, k < q → lt k = true) ∧ (∀ k, q ≤ k → k < n → lt k = false) ∧ loopO step ((i : Int), (j : Int)) = R q := by
    intro d
    induction d with
    | zero =>
      intro i j hd hij hj ha hb
      have : i = j := by omega
      subst this
      exact ⟨i, hj, ha, hb, loopO_out (h2 i hj ha hb)⟩
    | succ d ih =>
      intro i j hd hij hj ha hb
      by_cases he : i = j
      · subst he
        exact ⟨i, hj, ha, hb, loopO_out (h2 i hj ha hb)⟩
      · have hs := h1 i j (by omega) hj
        have hmid : i ≤ (i + j) / 2 ∧ (i + j) / 2 < j := by omega
        cases hl : lt ((i + j) / 2) with
        | true =>
          rw [hl, if_pos rfl] at hs
          rw [loopO_inl hs]
          refine ih _ j (by omega) (by omega) hj (fun k hk => ?_) hb
          by_cases hk2 : k = (i + j) / 2
          · rw [hk2]; exact hl
          · exact hm k ((i + j) / 2) (by omega) (by omega) hl
        | false =>
          rw [hl, if_neg (by simp)] at hs
          rw [loopO_inl hs]
          refine ih i _ (by omega) (by omega) (by omega) ha (fun k hk hkn => ?_)
          cases hk3 : lt k with
          | false => rfl
          | true =>
            by_cases hk2 : k = (i + j) / 2
            · rw [hk2, hl] at hk3; cases hk3
            · have := hm ((i + j) / 2) k (by omega) hkn hk3
              rw [hl] at this; cases this
  exact gen n 0 n (by omega) (Nat.zero_le _) (Nat.le_refl _) (fun k hk => absurd hk (Nat.not_lt_zero k)) (fun k hk hkn => by omega)
theorem cut_wipe {α : Type} [Inhabited α] (l : List α) (i : Nat) (h : i ≤ l.length) : cut (wipe l (i : Int) ((l.length : Nat) : Int)) (0 : Int) (i : Int) = l.take i := by
  rw [cut_take, wipe, putL]
  simp only [Int.toNat_natCast]
  rw [List.append_assoc, List.take_append_of_le_length (by simp <;> omega), List.take_of_length_le (by simp <;> omega)]
/-- slices.DeleteFunc, from the first place on that goes. -/
theorem del_gen {α C : Type} [Enc α] (l : List α) (t : C) (keep : α → Bool) {step : Int × Int × List α × C → Option ((Int × Int × List α × C) ⊕ (List α × C))}
    (h1 : ∀ (i j : Nat) (c : List α), i < j → j < c.length → c.length = l.length → keep (ix c (j : Int)) = false → step ((i : Int), (j : Int), c, t) = some (.inl ((i : Int), ((j + 1 : Nat) : Int), c, t)))
    (h2 : ∀ (i j : Nat) (c : List α), i < j → j < c.length → c.length = l.length → keep (ix c (j : Int)) = true → step ((i : Int), (j : Int), c, t) = some (.inl (((i + 1 : Nat) : Int), ((j + 1 : Nat) : Int), c.set i (ix c (j : Int)), t)))
    (h3 : ∀ (i : Nat) (c : List α), i ≤ c.length → c.length = l.length → step ((i : Int), ((c.length : Nat) : Int), c, t) = some (.inr (cut (wipe c (i : Int) ((c.length : Nat) : Int)) (0 : Int) (i : Int), t)))
    (n : Nat) (hn : n < l.length) (hk : keep l[n] = false) (hk2 : ∀ x ∈ l.take n, keep x = true) : loopO step ((n : Int), ((n + 1 : Nat) : Int), l, t) = some (l.filter keep, t) := by
  have htake : (l.take (n + 1)).filter keep = l.take n := by
    rw [List.take_succ_eq_append_getElem hn, List.filter_append, List.filter_eq_self.2 hk2]
    simp [hk]
  obtain ⟨r, hr, rfl⟩ := loopO_inv (step := step) (fun s => ∃ (i j : Nat) (c : List α), s = ((i : Int), (j : Int), c, t) ∧ c.length = l.length ∧ i < j ∧ j ≤ l.length ∧ c.take i = (l.take j).filter keep ∧ c.drop j = l.drop j) (fun s => l.length - s.2.1.toNat) (fun r => r = (l.filter keep, t)) (fun s hs => by
    obtain ⟨i, j, c, rfl, hcl, hij, hjl, ht, hd⟩ := hs
    by_cases hj : j < l.length
    · left
      have hcj : ix c (j : Int) = l[j] := by
        rw [ix_get (by omega)]
        have h1 : c[j]? = l[j]? := by
          have := congrArg (fun x => x[0]?) hd
          simpa [List.getElem?_drop] using this
        rw [List.getElem?_eq_getElem (by omega), List.getElem?_eq_getElem hj] at h1
        exact Option.some.inj h1
      have hdrop : ∀ m, j < m → c.drop m = l.drop m := fun m hm => by
        have := congrArg (fun x => x.drop (m - j)) hd
        simp only [List.drop_drop] at this
        rwa [show j + (m - j) = m by omega] at this
      cases hkj : keep l[j] with
      | false =>
        refine ⟨((i : Int), ((j + 1 : Nat) : Int), c, t), h1 i j c hij (by omega) hcl (by rw [hcj]; exact hkj), ⟨i, j + 1, c, rfl, hcl, by omega, by omega, ?_, hdrop _ (by omega)⟩, by simp only [Int.toNat_natCast]; omega⟩
        rw [List.take_succ_eq_append_getElem hj, List.filter_append, ← ht]
        simp [hkj]
      | true =>
        refine ⟨(((i + 1 : Nat) : Int), ((j + 1 : Nat) : Int), c.set i (ix c (j : Int)), t), h2 i j c hij (by omega) hcl (by rw [hcj]; exact hkj), ⟨i + 1, j + 1, c.set i (ix c (j : Int)), rfl, by simpa using hcl, by omega, by omega, ?_, ?_⟩, by simp only [Int.toNat_natCast]; omega⟩
        · rw [List.take_succ_eq_append_getElem hj, List.filter_append, ← ht, List.take_succ_eq_append_getElem (by simp; omega), List.take_set_of_le (by omega), hcj]
          simp [hkj]
        · rw [List.drop_set_of_lt (by omega)]
          exact hdrop _ (by omega)
    · right
      have hjl' : j = c.length := by omega
      subst hjl'
      refine ⟨_, h3 i c (by omega) hcl, ?_⟩
      rw [cut_wipe c i (by omega), ht, hcl, List.take_length]) (s0 := ((n : Int), ((n + 1 : Nat) : Int), l, t)) ⟨n, n + 1, l, rfl, rfl, by omega, by omega, htake.symm, rfl⟩
  exact hr
end Go.Sx
end

section
namespace Go.Proofs.Ytfgedphhlilpgaa
open Go Go.Sx
set_option linter.unusedVariables false
set_option linter.unusedSimpArgs false
theorem cmp_eq (x y : Int) : cmp_Compare_int x y = some (if x < y then -1 else if y < x then 1 else 0) := by
  simp only [cmp_Compare_int, cmp_isNaN_int, bne_self_eq_false, Option.bind_some, cond_false]
  by_cases h1 : x < y
  · simp [h1]
  · by_cases h2 : y < x
    · simp [h1, h2]
    · simp [h1, h2]
theorem or_eq (a b : Int) : cmp_Or_int [a, b] = some (if a ≠ 0 then a else b) := by
  have s0 : cmp_Or_int_l1 [a, b] 0 = bif a != 0 then some (.inr a) else some (.inl 1) := rfl
  have s1 : cmp_Or_int_l1 [a, b] 1 = bif b != 0 then some (.inr b) else some (.inl 2) := rfl
  have s2 : cmp_Or_int_l1 [a, b] 2 = some (.inr 0) := rfl
  unfold cmp_Or_int
  by_cases h : a = 0
  · have e : (a != 0) = false := by simp [h]
    rw [e, cond_false] at s0
    rw [loopO_inl s0, if_neg (by simpa using h)]
    by_cases h2 : b = 0
    · have e : (b != 0) = false := by simp [h2]
      rw [e, cond_false] at s1
      rw [loopO_inl s1, loopO_inr s2, h2]
    · have e : (b != 0) = true := by simpa using h2
      rw [e, cond_true] at s1
      rw [loopO_inr s1]
  · have e : (a != 0) = true := by simpa using h
    rw [e, cond_true] at s0
    rw [loopO_inr s0, if_pos h]
def lt (a b : Alarm) : Prop := a.When < b.When ∨ (a.When = b.When ∧ a.Seq < b.Seq)
instance (a b : Alarm) : Decidable (lt a b) := by unfold lt; infer_instance
theorem lt_trans {a b c : Alarm} (h1 : lt a b) (h2 : lt b c) : lt a c := by unfold lt at *; omega
def ordI (a b : Alarm) : Int := if lt a b then -1 else if lt b a then 1 else 0
theorem order_eq (a b : Alarm) : clock_order a b = some (ordI a b) := by
  unfold clock_order
  rw [cmp_eq, Option.bind_some, cmp_eq, Option.bind_some, or_eq, Option.bind_some]
  congr 1
  unfold ordI lt
  repeat' split
  all_goals omega
theorem ord_pos (a b : Alarm) : decide (0 < ordI a b) = decide (lt b a) := by
  rw [decide_eq_decide]
  unfold ordI
  have : ¬ (lt a b ∧ lt b a) := by unfold lt; omega
  repeat' split
  all_goals simp_all
theorem ord_neg (a b : Alarm) : decide (ordI a b < 0) = decide (lt a b) := by
  rw [decide_eq_decide]
  unfold ordI
  repeat' split
  all_goals simp_all
theorem later_eq (a b : Alarm) : taskmillref_Later a b = some (decide (lt b a)) := by
  unfold taskmillref_Later
  congr 1
  by_cases h : lt b a
  · rw [decide_eq_true h]
    unfold lt at h
    rw [Bool.or_eq_true, Bool.and_eq_true, decide_eq_true_eq, decide_eq_true_eq, beq_iff_eq]
    omega
  · rw [decide_eq_false h]
    unfold lt at h
    rw [Bool.or_eq_false_iff, Bool.and_eq_false_iff, decide_eq_false_iff_not, decide_eq_false_iff_not, beq_eq_false_iff_ne]
    omega
def A (l : List Alarm) (i : Nat) : Alarm := ix l (i : Int)
theorem A_get {l : List Alarm} {i : Nat} (h : i < l.length) : A l i = l[i] := ix_get h
theorem A_mem {l : List Alarm} {i : Nat} (h : i < l.length) : A l i ∈ l := by rw [A_get h]; exact List.getElem_mem h
section
variable {α : Type} {l : List α} {i : Nat}
theorem t1 (h : i < l.length) : decide (((i : Nat) : Int) < ((l.length : Nat) : Int)) = true := decide_eq_true (by omega)
theorem t2 : decide ((0 : Int) ≤ ((i : Nat) : Int)) = true := decide_eq_true (by omega)
theorem t0 : decide (((l.length : Nat) : Int) < ((l.length : Nat) : Int)) = false := decide_eq_false (by omega)
theorem drop_A {l : List Alarm} {i : Nat} (h : i < l.length) : l.drop i = A l i :: l.drop (i + 1) := by rw [A_get h]; exact drop_at h
theorem take_A {l : List Alarm} {i : Nat} (h : i < l.length) : l.take i ++ [A l i] = l.take (i + 1) := by rw [List.take_succ_eq_append_getElem h, A_get h]
end
def inR (c : Clock) (a : Alarm) : Prop := ¬ (a.Id < 1 ∨ a.When ≤ c.Now ∨ 2000000000 < a.When ∨ a.Period < 0 ∨ 1000000000 < a.Period ∨ a.Seq < 0 ∨ c.Next ≤ a.Seq)
instance (c : Clock) (a : Alarm) : Decidable (inR c a) := by unfold inR; infer_instance
def idsOf (l : List Alarm) : List Int := l.map (·.Id)
def seqsOf (l : List Alarm) : List Int := l.map (·.Seq)
def badA (c : Clock) (i : Nat) : Option Fault :=
  if ¬ inR c (A c.List i) then some ⟨3, ((i + 1 : Nat) : Int)⟩ else if (A c.List i).Id ∈ idsOf (c.List.take i) ∨ (A c.List i).Seq ∈ seqsOf (c.List.take i) then some ⟨10, ((i + 1 : Nat) : Int)⟩
  else if 0 < i ∧ lt (A c.List i) (A c.List (i - 1)) then some ⟨5, ((i + 1 : Nat) : Int)⟩ else none
def clockF (c : Clock) : Fault := if 5000 < c.List.length then ⟨2, 0⟩ else if c.Now < 0 ∨ c.Next < 0 ∨ 1000000000 < c.Now ∨ 1000000000 < c.Next then ⟨3, 0⟩ else (firstAt (badA c) c.List.length).getD ⟨0, 0⟩
theorem range_b (c : Clock) (a : Alarm) : ((decide (a.Id < 1)) || ((decide (a.When ≤ c.Now)) || ((decide ((2000000000 : Int) < a.When)) || ((decide (a.Period < 0)) || ((decide ((1000000000 : Int) < a.Period)) || ((decide (a.Seq < 0)) || (decide (c.Next ≤ a.Seq)))))))) = decide (¬ inR c a) := by
  unfold inR
  rw [Bool.eq_iff_iff]
  simp only [Bool.or_eq_true, decide_eq_true_eq, Decidable.not_not]
theorem setAll_take (m : List (Int × Int)) (l : List Alarm) (f : Alarm → Int) {i : Nat} (h : i < l.length) : setAll m ((l.take (i + 1)).map f) = miSet (setAll m ((l.take i).map f)) (f (A l i)) 1 := by
  rw [List.take_succ_eq_append_getElem h, List.map_append, setAll, List.foldl_append, A_get h]; rfl
theorem check_eq (c : Clock) : clock_Check c = some (clockF c) := by
  unfold clock_Check clockF
  by_cases h : 5000 < c.List.length
  · rw [if_pos h, decide_eq_true (by omega), cond_true]; rfl
  · rw [if_neg h, decide_eq_false (by omega), cond_false]
    by_cases h2 : c.Now < 0 ∨ c.Next < 0 ∨ 1000000000 < c.Now ∨ 1000000000 < c.Next
    · have : ((decide ((min c.Now c.Next) < 0)) || (decide ((1000000000 : Int) < (max c.Now c.Next)))) = true := by
        simp only [Bool.or_eq_true, decide_eq_true_eq]; omega
      rw [if_pos h2, this, cond_true]; rfl
    · have : ((decide ((min c.Now c.Next) < 0)) || (decide ((1000000000 : Int) < (max c.Now c.Next)))) = false := by
        simp only [Bool.or_eq_false_iff, decide_eq_false_iff_not]; omega
      rw [if_neg h2, this, cond_false]
      refine loopO_findP (step := clock_Check_l1 c) (fun i => ((i : Int), setAll [] (idsOf (c.List.take i)), setAll [] (seqsOf (c.List.take i)))) (badA c) ⟨0, 0⟩ c.List.length (fun i hi _ => ?_) (fun _ => ?_)
      · have hA : ix c.List (i : Int) = A c.List i := rfl
        have hw := wrap_n1 i (show i < 4611686018427387904 by omega)
        simp only [clock_Check_l1, t1 hi, t2, Bool.and_true, cond_true, hA, range_b, hw]
        unfold badA
        by_cases h3 : inR c (A c.List i)
        · rw [if_neg (by simpa using h3), decide_eq_false (by simpa using h3), cond_false]
          have e1 : miGet (setAll [] (idsOf (c.List.take i))) (A c.List i).Id = if (A c.List i).Id ∈ idsOf (c.List.take i) then 1 else 0 := by rw [miGet_setAll]; rfl
          have e2 : miGet (setAll [] (seqsOf (c.List.take i))) (A c.List i).Seq = if (A c.List i).Seq ∈ seqsOf (c.List.take i) then 1 else 0 := by rw [miGet_setAll]; rfl
          rw [e1, e2]
          by_cases h4 : (A c.List i).Id ∈ idsOf (c.List.take i) ∨ (A c.List i).Seq ∈ seqsOf (c.List.take i)
          · have : decide ((0 : Int) < IntKind.i64.wrap ((if (A c.List i).Id ∈ idsOf (c.List.take i) then 1 else 0) + (if (A c.List i).Seq ∈ seqsOf (c.List.take i) then 1 else 0))) = true := by
              refine decide_eq_true ?_
              rcases h4 with h4 | h4
              · rw [if_pos h4]; split <;> decide
              · rw [if_pos h4]; split <;> decide
            rw [if_pos h4, this, cond_true]; rfl
          · have h4' := not_or.1 h4
            rw [if_neg h4, if_neg h4'.1, if_neg h4'.2, show decide ((0 : Int) < IntKind.i64.wrap (0 + 0)) = false from rfl, cond_false]
            have e3 := setAll_take [] c.List (·.Id) hi
            have e4 := setAll_take [] c.List (·.Seq) hi
            have e5 : ∀ (b : Bool), clock_Check_j1 c (i : Int) (setAll [] (idsOf (c.List.take i))) (setAll [] (seqsOf (c.List.take i))) b = toldOr (bif b then some ⟨5, ((i + 1 : Nat) : Int)⟩ else none) (((i + 1 : Nat) : Int), setAll [] (idsOf (c.List.take (i + 1))), setAll [] (seqsOf (c.List.take (i + 1)))) := fun b => by
              unfold clock_Check_j1 idsOf seqsOf
              rw [hw, e3, e4]
              cases b <;> rfl
            by_cases h0 : 0 < i
            · have hm : ix c.List ((i - 1 : Nat) : Int) = A c.List (i - 1) := rfl
              have hpi : IntKind.i64.wrap ((i : Int) - 1) = ((i - 1 : Nat) : Int) := by rw [wrap_id (by omega) (by omega)]; omega
              simp only [decide_eq_true (show (0 : Int) < (i : Int) by omega), cond_true, hpi, hm, t2, t1 (show i - 1 < c.List.length by omega), Bool.and_true, order_eq, Option.bind_some, ord_pos, e5]
              by_cases h5 : lt (A c.List i) (A c.List (i - 1))
              · rw [if_pos ⟨h0, h5⟩, decide_eq_true h5]; rfl
              · rw [if_neg (by rintro ⟨_, h⟩; exact h5 h), decide_eq_false h5]; rfl
            · rw [decide_eq_false (show ¬ (0 : Int) < (i : Int) by omega), cond_false, e5, if_neg (by rintro ⟨h, _⟩; exact h0 h)]; rfl
        · rw [if_pos h3, decide_eq_true h3]; rfl
      · simp only [clock_Check_l1, t0, cond_false]; rfl
theorem fault_eq (c : Clock) : taskmillref_ClockFault c = some (clockF c) := by
  unfold taskmillref_ClockFault clockF
  by_cases h : 5000 < c.List.length
  · rw [if_pos h, decide_eq_true (by omega), cond_true]; rfl
  · rw [if_neg h, decide_eq_false (by omega), cond_false]
    by_cases h2 : c.Now < 0 ∨ c.Next < 0 ∨ 1000000000 < c.Now ∨ 1000000000 < c.Next
    · have : ((decide (c.Now < 0)) || ((decide ((1000000000 : Int) < c.Now)) || ((decide (c.Next < 0)) || (decide ((1000000000 : Int) < c.Next))))) = true := by
        simp only [Bool.or_eq_true, decide_eq_true_eq]; omega
      rw [if_pos h2, this, cond_true]; rfl
    · have : ((decide (c.Now < 0)) || ((decide ((1000000000 : Int) < c.Now)) || ((decide (c.Next < 0)) || (decide ((1000000000 : Int) < c.Next))))) = false := by
        simp only [Bool.or_eq_false_iff, decide_eq_false_iff_not]; omega
      rw [if_neg h2, this, cond_false]
      refine loopO_findP (step := taskmillref_ClockFault_l2 c) (fun i => (i : Int)) (badA c) ⟨0, 0⟩ c.List.length (fun i hi _ => ?_) (fun _ => ?_)
      · have hA : ∀ k : Nat, ix c.List (k : Int) = A c.List k := fun k => rfl
        have hw := wrap_n1 i (show i < 4611686018427387904 by omega)
        simp only [taskmillref_ClockFault_l2, t1 hi, t2, Bool.and_true, cond_true, hA, range_b, hw]
        unfold badA
        by_cases h3 : inR c (A c.List i)
        · rw [if_neg (by simpa using h3), decide_eq_false (by simpa using h3), cond_false]
          have e5 : ∀ (b : Bool), taskmillref_ClockFault_j1 c (i : Int) b = toldOr (bif b then some ⟨5, ((i + 1 : Nat) : Int)⟩ else none) ((i + 1 : Nat) : Int) := fun b => by
            unfold taskmillref_ClockFault_j1
            rw [hw]
            cases b <;> rfl
          have := loopO_if (step := taskmillref_ClockFault_l1 c (i : Int)) (fun k => (k : Int)) (fun k => ((A c.List k).Id == (A c.List i).Id) || ((A c.List k).Seq == (A c.List i).Seq)) (fun _ => some (.inr ⟨10, ((i + 1 : Nat) : Int)⟩)) (toldOr (if 0 < i ∧ lt (A c.List i) (A c.List (i - 1)) then some ⟨5, ((i + 1 : Nat) : Int)⟩ else none) ((i + 1 : Nat) : Int)) i
            (fun k hk hp => by
              simp only [taskmillref_ClockFault_l1, decide_eq_true (show (k : Int) < (i : Int) by omega), cond_true, t2, t1 (show k < c.List.length by omega), Bool.and_true, Bool.or_true, hA, hp, cond_false, wrap_n1 k (show k < 4611686018427387904 by omega)])
            (fun k hk hp => by
              simp only [taskmillref_ClockFault_l1, decide_eq_true (show (k : Int) < (i : Int) by omega), cond_true, t2, t1 (show k < c.List.length by omega), Bool.and_true, Bool.or_true, hA, hp, hw, taskmillref_F, Option.bind_some, Option.map_some])
            (fun _ => by
              by_cases h0 : 0 < i
              · have hpi : IntKind.i64.wrap ((i : Int) - 1) = ((i - 1 : Nat) : Int) := by rw [wrap_id (by omega) (by omega)]; omega
                simp only [taskmillref_ClockFault_l1, decide_eq_false (show ¬ (i : Int) < (i : Int) by omega), cond_false, decide_eq_true (show (0 : Int) < (i : Int) by omega), cond_true, hpi, hA, t2, t1 (show i - 1 < c.List.length by omega), Bool.and_true, later_eq, Option.bind_some, e5]
                by_cases h5 : lt (A c.List i) (A c.List (i - 1))
                · rw [if_pos ⟨h0, h5⟩, decide_eq_true h5]; rfl
                · rw [if_neg (by rintro ⟨_, h⟩; exact h5 h), decide_eq_false h5]; rfl
              · simp only [taskmillref_ClockFault_l1, decide_eq_false (show ¬ (i : Int) < (i : Int) by omega), cond_false, decide_eq_false (show ¬ (0 : Int) < (i : Int) by omega), e5]
                rw [if_neg (by rintro ⟨h, _⟩; exact h0 h)])
          rw [show ((0 : Nat) : Int) = 0 from rfl] at this
          rw [this]
          have hiff : ((A c.List i).Id ∈ idsOf (c.List.take i) ∨ (A c.List i).Seq ∈ seqsOf (c.List.take i)) ↔ ∃ k, k < i ∧ ((A c.List k).Id == (A c.List i).Id || (A c.List k).Seq == (A c.List i).Seq) = true := by
            unfold idsOf seqsOf
            simp only [List.mem_map, Bool.or_eq_true, beq_iff_eq]
            constructor
            · rintro (⟨x, hx, he⟩ | ⟨x, hx, he⟩)
              all_goals
                obtain ⟨k, hk, rfl⟩ := List.mem_take_iff_getElem.1 hx
                refine ⟨k, by omega, ?_⟩
                rw [A_get (show k < c.List.length by omega)]
              · exact .inl he
              · exact .inr he
            · rintro ⟨k, hk, he⟩
              have hmem : A c.List k ∈ c.List.take i := by
                rw [A_get (by omega)]
                exact List.mem_take_iff_getElem.2 ⟨k, by omega, rfl⟩
              rcases he with he | he
              · exact .inl ⟨_, hmem, he⟩
              · exact .inr ⟨_, hmem, he⟩
          cases hf : firstIf (fun k => ((A c.List k).Id == (A c.List i).Id) || ((A c.List k).Seq == (A c.List i).Seq)) i with
          | some k =>
            obtain ⟨g1, g2, _⟩ := firstIf_some hf
            simp only [if_pos (hiff.2 ⟨k, g1, g2⟩)]; rfl
          | none =>
            have := firstIf_none.1 hf
            have hn : ¬ ((A c.List i).Id ∈ idsOf (c.List.take i) ∨ (A c.List i).Seq ∈ seqsOf (c.List.take i)) := fun h => by
              obtain ⟨k, h1, h2⟩ := hiff.1 h
              rw [this k h1] at h2; cases h2
            simp only [if_neg hn]
        · rw [if_pos h3, decide_eq_true h3]; rfl
      · simp only [taskmillref_ClockFault_l2, t0, cond_false]; rfl
end Go.Proofs.Ytfgedphhlilpgaa
end

section
namespace Go.Proofs.Ytfgedphhlilpgaa
open Go Go.Sx
set_option linter.unusedVariables false
set_option linter.unusedSimpArgs false
structure OkA (now next : Int) (a : Alarm) : Prop where
  id : 1 ≤ a.Id
  late : now < a.When
  when : a.When ≤ 2000000000
  per0 : 0 ≤ a.Period
  per1 : a.Period ≤ 1000000000
  seq0 : 0 ≤ a.Seq
  seq1 : a.Seq < next
structure OkL (now next : Int) (l : List Alarm) : Prop where
  all : ∀ a ∈ l, OkA now next a
  ids : (idsOf l).Nodup
  seqs : (seqsOf l).Nodup
  srt : l.Pairwise lt
structure Ok (c : Clock) : Prop where
  len : c.List.length ≤ 5000
  now0 : 0 ≤ c.Now
  now1 : c.Now ≤ 1000000000
  nxt0 : 0 ≤ c.Next
  nxt1 : c.Next ≤ 1000000000
  l : OkL c.Now c.Next c.List
theorem inR_iff (c : Clock) (a : Alarm) : inR c a ↔ OkA c.Now c.Next a := by
  unfold inR
  constructor
  · intro h
    simp only [not_or] at h
    obtain ⟨h1, h2, h3, h4, h5, h6, h7⟩ := h
    exact ⟨by omega, by omega, by omega, by omega, by omega, by omega, by omega⟩
  · rintro ⟨h1, h2, h3, h4, h5, h6, h7⟩
    omega
theorem code_pos {c : Clock} {i : Nat} {f : Fault} (h : badA c i = some f) : f.Code ≠ 0 := by
  unfold badA at h
  split at h
  · cases h; simp
  · split at h
    · cases h; simp
    · split at h
      · cases h; simp
      · cases h
theorem nodup_map_take {l : List Alarm} (f : Alarm → Int) : (l.map f).Nodup ↔ ∀ i, i < l.length → f (A l i) ∉ (l.take i).map f := by
  have := nodup_grow [] (l.map f) List.nodup_nil
  rw [List.nil_append] at this
  rw [this]
  simp only [List.length_map, List.getElem_map, List.nil_append, ← List.map_take]
  constructor
  · intro h i hi; rw [A_get hi]; exact h i hi
  · intro h i hi; have := h i hi; rwa [A_get hi] at this
theorem clock_code (c : Clock) : (clockF c).Code = 0 ↔ Ok c := by
  unfold clockF
  by_cases h : 5000 < c.List.length
  · rw [if_pos h]
    simp only [show ((2 : Int) = 0) = False from by simp, false_iff]
    exact fun ho => by have := ho.len; omega
  rw [if_neg h]
  by_cases h2 : c.Now < 0 ∨ c.Next < 0 ∨ 1000000000 < c.Now ∨ 1000000000 < c.Next
  · rw [if_pos h2]
    simp only [show ((3 : Int) = 0) = False from by simp, false_iff]
    rintro ⟨_, h3, h4, h5, h6, _⟩
    omega
  rw [if_neg h2]
  have hsrt : (seqsOf c.List).Nodup → ((c.List.Pairwise lt) ↔ ∀ i, i < c.List.length → ¬ (0 < i ∧ lt (A c.List i) (A c.List (i - 1)))) := fun hs => by
    rw [pairwise_next lt (fun a b d h1 h2 => lt_trans h1 h2)]
    constructor
    · intro h i hi ⟨h0, hl⟩
      obtain ⟨j, rfl⟩ : ∃ j, i = j + 1 := ⟨i - 1, by omega⟩
      have := h j hi
      rw [A_get hi, Nat.add_sub_cancel, A_get (by omega)] at hl
      unfold lt at *; omega
    · intro h i hi
      have h1 := h (i + 1) hi
      rw [A_get hi, Nat.add_sub_cancel, A_get (by omega)] at h1
      have h3 : c.List[i].Seq ≠ c.List[i + 1].Seq := fun e => by
        have := List.nodup_iff_pairwise_ne.1 hs
        rw [List.pairwise_iff_getElem] at this
        have := this i (i + 1) (by simp [seqsOf]; omega) (by simp [seqsOf]; omega) (by omega)
        simp [seqsOf] at this
        exact this e
      have h4 : ¬ lt c.List[i + 1] c.List[i] := fun hl => h1 ⟨by omega, hl⟩
      unfold lt at *
      omega
  constructor
  · intro hc
    have hb : ∀ i, i < c.List.length → badA c i = none := by
      cases hf : firstAt (badA c) c.List.length with
      | none => exact (firstAt_none _).1 hf
      | some f =>
        rw [hf] at hc
        obtain ⟨i, g1, g2, _⟩ := firstAt_some _ hf
        exact absurd hc (code_pos g2)
    have hall : ∀ i, i < c.List.length → inR c (A c.List i) ∧ ((A c.List i).Id ∉ idsOf (c.List.take i) ∧ (A c.List i).Seq ∉ seqsOf (c.List.take i)) ∧ ¬ (0 < i ∧ lt (A c.List i) (A c.List (i - 1))) := fun i hi => by
      have := hb i hi
      unfold badA at this
      split at this
      · cases this
      · rename_i h1
        split at this
        · cases this
        · rename_i h3
          split at this
          · cases this
          · rename_i h4
            exact ⟨Decidable.not_not.1 h1, not_or.1 h3, h4⟩
    have hseqs : (seqsOf c.List).Nodup := (nodup_map_take _).2 fun i hi => (hall i hi).2.1.2
    refine ⟨by omega, by omega, by omega, by omega, by omega, ⟨fun a ha => ?_, (nodup_map_take _).2 fun i hi => (hall i hi).2.1.1, hseqs, (hsrt hseqs).2 fun i hi => (hall i hi).2.2⟩⟩
    obtain ⟨i, hi, rfl⟩ := List.getElem_of_mem ha
    have := (hall i hi).1
    rw [inR_iff, A_get hi] at this
    exact this
  · rintro ⟨_, h3, h4, h5, h6, ⟨g1, g2, g3, g4⟩⟩
    have hb : ∀ i, i < c.List.length → badA c i = none := fun i hi => by
      unfold badA
      rw [if_neg (by rw [Decidable.not_not, inR_iff]; exact g1 _ (A_mem hi)), if_neg (show ¬ ((A c.List i).Id ∈ idsOf (c.List.take i) ∨ (A c.List i).Seq ∈ seqsOf (c.List.take i)) from not_or.2 ⟨(nodup_map_take _).1 g2 i hi, (nodup_map_take _).1 g3 i hi⟩), if_neg ((hsrt g3).1 g4 i hi)]
    rw [(firstAt_none _).2 hb]; rfl
theorem clock_ok {c : Clock} (h : Ok c) : clockF c = ⟨0, 0⟩ := by
  have hc := (clock_code c).2 h
  unfold clockF at hc ⊢
  split at hc
  · cases hc
  · rename_i h1
    split at hc
    · cases hc
    · rename_i h2
      rw [if_neg h1, if_neg h2]
      cases hf : firstAt (badA c) c.List.length with
      | none => rfl
      | some f =>
        rw [hf] at hc
        obtain ⟨i, g1, g2, _⟩ := firstAt_some _ hf
        exact absurd hc (code_pos g2)
/-! ### An alarm in its place -/
def insA (l : List Alarm) (a : Alarm) : List Alarm := l.filter (fun x => decide (lt x a)) ++ a :: l.filter (fun x => decide (¬ lt x a))
theorem srt_lt {l : List Alarm} (hs : l.Pairwise lt) {i j : Nat} (h : i < j) (hj : j < l.length) : lt (A l i) (A l j) := by
  rw [A_get hj, A_get (by omega)]
  exact List.pairwise_iff_getElem.1 hs i j (by omega) hj h
theorem filter_none {p : Alarm → Bool} {l : List Alarm} (h : ∀ w ∈ l, p w = false) : l.filter p = [] := List.filter_eq_nil_iff.2 fun w hw => by simp [h w hw]
theorem filter_all {p : Alarm → Bool} {l : List Alarm} (h : ∀ w ∈ l, p w = true) : l.filter p = l := List.filter_eq_self.2 h
theorem ins_at {l : List Alarm} {a : Alarm} {i : Nat} (hi : i ≤ l.length) (h1 : ∀ k, k < i → lt (A l k) a) (h2 : ∀ k, i ≤ k → k < l.length → ¬ lt (A l k) a) : insA l a = l.take i ++ a :: l.drop i := by
  have e1 : l.filter (fun x => decide (lt x a)) = l.take i := by
    conv => lhs; rw [← List.take_append_drop i l, List.filter_append]
    rw [filter_all fun w hw => ?_, filter_none fun w hw => ?_, List.append_nil]
    · obtain ⟨k, hk, rfl⟩ := List.mem_drop_iff_getElem.1 hw
      have := h2 (i + k) (by omega) (by omega)
      rw [A_get (by omega)] at this
      simpa using this
    · obtain ⟨k, hk, rfl⟩ := List.mem_take_iff_getElem.1 hw
      have := h1 k (by omega)
      rw [A_get (by omega)] at this
      simpa using this
  have e2 : l.filter (fun x => decide (¬ lt x a)) = l.drop i := by
    conv => lhs; rw [← List.take_append_drop i l, List.filter_append]
    rw [filter_none fun w hw => ?_, filter_all fun w hw => ?_, List.nil_append]
    · obtain ⟨k, hk, rfl⟩ := List.mem_drop_iff_getElem.1 hw
      have := h2 (i + k) (by omega) (by omega)
      rw [A_get (by omega)] at this
      simpa using this
    · obtain ⟨k, hk, rfl⟩ := List.mem_take_iff_getElem.1 hw
      have := h1 k (by omega)
      rw [A_get (by omega)] at this
      simpa using this
  unfold insA
  rw [e1, e2]
def named (a : Alarm) (s : Int) : Alarm := ⟨a.Id, a.When, a.Period, s⟩
theorem put_eq (a : Alarm) (now next : Int) (l : List Alarm) (hn : l.length ≤ 2000000) (hs : l.Pairwise lt) : clock_put a now next l = some (now, IntKind.i64.wrap (next + 1), insA l (named a next)) := by
  have hb := bs_gen (step := slices_BinarySearchFunc_Alarm_l1 l (named a next)) l.length (fun k => decide (lt (A l k) (named a next))) (fun i => some ((i : Int), decide (i < l.length ∧ ordI (A l i) (named a next) = 0)))
    (fun p q h1 h2 h3 => by have := srt_lt hs h1 h2; simp only [decide_eq_true_eq] at h3 ⊢; exact lt_trans this h3)
    (fun i j hij hj => by
      have hmid : (i + j) / 2 < l.length := by omega
      have hA : ix l (((i + j) / 2 : Nat) : Int) = A l ((i + j) / 2) := rfl
      simp only [slices_BinarySearchFunc_Alarm_l1, decide_eq_true (show (i : Int) < (j : Int) by omega), cond_true, mid_eq i j (by omega), t1 hmid, t2, Bool.and_true, hA, order_eq, Option.bind_some, ord_neg]
      by_cases h : lt (A l ((i + j) / 2)) (named a next)
      · rw [decide_eq_true h, wrap_n1 _ (by omega)]; rfl
      · rw [decide_eq_false h]; rfl)
    (fun i hi hlo hhi => by
      by_cases h : i < l.length
      · have hA : ix l (i : Int) = A l i := rfl
        simp only [slices_BinarySearchFunc_Alarm_l1, decide_eq_false (show ¬ (i : Int) < (i : Int) by omega), cond_false, t1 h, t2, cond_true, Bool.and_true, hA, order_eq, Option.bind_some, slices_BinarySearchFunc_Alarm_j1]
        congr 3
        rw [Bool.eq_iff_iff]
        simp [h]
      · simp only [slices_BinarySearchFunc_Alarm_l1, decide_eq_false (show ¬ (i : Int) < (i : Int) by omega), cond_false, decide_eq_false (show ¬ ((i : Nat) : Int) < ((l.length : Nat) : Int) by omega), slices_BinarySearchFunc_Alarm_j1]
        simp [h])
  obtain ⟨i, h1, h2, h3, h4⟩ := hb
  have hins := ins_at (a := named a next) h1 (fun k hk => by simpa using h2 k hk) (fun k hk hkn => by simpa using h3 k hk hkn)
  unfold clock_put slices_BinarySearchFunc_Alarm
  have e : (Alarm.mk a.Id a.When a.Period next) = named a next := rfl
  have k1 : (0 : Int) ≤ (i : Int) ∧ (i : Int) ≤ ((l.length : Nat) : Int) ∧ [named a next].length = 1 ∧ (l.length + 1) * 32 ≤ 140737488355328 := ⟨by omega, by omega, rfl, by omega⟩
  have e2 : insL l (i : Int) [named a next] = l.take i ++ named a next :: l.drop i := by unfold insL; simp
  rw [e, h4]
  simp only [Option.bind_some, slices_Insert_Alarm, decide_eq_true k1, cond_true, e2, hins]
theorem with_eq (c : Clock) (a : Alarm) (hn : c.List.length ≤ 2000000) (hs : c.List.Pairwise lt) (hq : ∀ x ∈ c.List, x.Seq < c.Next) : taskmillref_WithAlarm c a = some (c.Now, IntKind.i64.wrap (c.Next + 1), insA c.List (named a c.Next)) := by
  have hlater : ∀ x ∈ c.List, lt (named a c.Next) x ↔ ¬ lt x (named a c.Next) := fun x hx => by
    have := hq x hx
    unfold lt named
    simp only
    omega
  -- from a place on: put already, or not
  have gen : ∀ i, i ≤ c.List.length → (∀ k, k < i → lt (A c.List k) (named a c.Next)) → ∃ j, i ≤ j ∧ j ≤ c.List.length ∧ (∀ k, k < j → lt (A c.List k) (named a c.Next)) ∧ (∀ k, j ≤ k → k < c.List.length → ¬ lt (A c.List k) (named a c.Next)) := by
    intro i hi hlo
    have : ∀ d i, i + d = c.List.length → (∀ k, k < i → lt (A c.List k) (named a c.Next)) → ∃ j, i ≤ j ∧ j ≤ c.List.length ∧ (∀ k, k < j → lt (A c.List k) (named a c.Next)) ∧ (∀ k, j ≤ k → k < c.List.length → ¬ lt (A c.List k) (named a c.Next)) := by
      intro d
      induction d with
      | zero => exact fun i hi hlo => ⟨i, Nat.le_refl _, by omega, hlo, fun k h1 h2 => by omega⟩
      | succ d ih =>
        intro i hi hlo
        by_cases h : lt (A c.List i) (named a c.Next)
        · obtain ⟨j, h1, h2, h3, h4⟩ := ih (i + 1) (by omega) fun k hk => by
            by_cases he : k = i
            · rw [he]; exact h
            · exact hlo k (by omega)
          exact ⟨j, by omega, h2, h3, h4⟩
        · refine ⟨i, Nat.le_refl _, by omega, hlo, fun k h1 h2 hl => ?_⟩
          by_cases he : k = i
          · rw [he] at hl; exact h hl
          · exact h (lt_trans (srt_lt hs (show i < k by omega) h2) hl)
    exact this (c.List.length - i) i (by omega) hlo
  obtain ⟨j, _, hj, hlo, hhi⟩ := gen 0 (Nat.zero_le _) fun k hk => absurd hk (Nat.not_lt_zero k)
  have hins := ins_at hj hlo hhi
  have e : (Alarm.mk a.Id a.When a.Period c.Next) = named a c.Next := rfl
  have hA : ∀ k : Nat, ix c.List (k : Int) = A c.List k := fun k => rfl
  have := loopO_up (step := taskmillref_WithAlarm_l1 c a) c.List.length (fun i (p : Bool × List Alarm) => (p.1, (i : Int), p.2)) (fun i p => (i ≤ j ∧ p = (false, c.List.take i)) ∨ (j < i ∧ p = (true, c.List.take j ++ named a c.Next :: (c.List.drop j).take (i - j)))) (fun _ _ => some (c.Now, IntKind.i64.wrap (c.Next + 1), insA c.List (named a c.Next)))
    (fun p hp => by
      rcases hp with ⟨h1, rfl⟩ | ⟨h1, rfl⟩
      · have hjn : j = c.List.length := by omega
        have k : (c.List.take c.List.length ++ [named a c.Next]).length * 32 ≤ 140737488355328 := by simp; omega
        simp only [taskmillref_WithAlarm_l1, t0, cond_false, Bool.not_false, cond_true, e, decide_eq_true k, taskmillref_WithAlarm_j3, hins, Option.map_some]
        rw [hjn, List.drop_length]
      · simp only [taskmillref_WithAlarm_l1, t0, cond_false, Bool.not_true, taskmillref_WithAlarm_j3, hins, Option.map_some]
        rw [show (c.List.drop j).take (c.List.length - j) = c.List.drop j from List.take_of_length_le (by simp)])
    (fun i p hi hp => by
      left
      rcases hp with ⟨h1, rfl⟩ | ⟨h1, rfl⟩
      · by_cases hij : i < j
        · have k : (c.List.take (i + 1)).length * 32 ≤ 140737488355328 := by rw [List.length_take]; omega
          have hnl : ¬ lt (named a c.Next) (A c.List i) := fun h => (hlater _ (A_mem hi)).1 h (hlo i hij)
          refine ⟨(false, c.List.take (i + 1)), ?_, .inl ⟨by omega, rfl⟩, rfl⟩
          simp only [taskmillref_WithAlarm_l1, t1 hi, t2, Bool.and_true, Bool.not_false, cond_true, hA, e, later_eq, Option.bind_some, decide_eq_false hnl, taskmillref_WithAlarm_j2, cond_false, taskmillref_WithAlarm_j1, take_A hi, decide_eq_true k, wrap_n1 i (show i < 4611686018427387904 by omega)]
        · have hij' : i = j := by omega
          subst hij'
          have k1 : (c.List.take i ++ [named a c.Next]).length * 32 ≤ 140737488355328 := by simp; omega
          have k2 : (c.List.take i ++ [named a c.Next] ++ [A c.List i]).length * 32 ≤ 140737488355328 := by simp; omega
          have hl := (hlater _ (A_mem hi)).2 (hhi i (Nat.le_refl _) hi)
          refine ⟨(true, c.List.take i ++ [named a c.Next] ++ [A c.List i]), ?_, .inr ⟨by omega, ?_⟩, rfl⟩
          · simp only [taskmillref_WithAlarm_l1, t1 hi, t2, Bool.and_true, Bool.not_false, cond_true, hA, e, later_eq, Option.bind_some, decide_eq_true hl, taskmillref_WithAlarm_j2, decide_eq_true k1, taskmillref_WithAlarm_j1, decide_eq_true k2, wrap_n1 i (show i < 4611686018427387904 by omega)]
          · rw [drop_A hi, show i + 1 - i = 1 by omega]; simp
      · have hd : (c.List.drop j).take (i - j) ++ [A c.List i] = (c.List.drop j).take (i + 1 - j) := by
          rw [show i + 1 - j = i - j + 1 by omega, List.take_succ_eq_append_getElem (by simp; omega), A_get hi]
          simp only [List.getElem_drop]
          congr 3; congr 1; omega
        have hd2 : (c.List.take j ++ named a c.Next :: (c.List.drop j).take (i - j)) ++ [A c.List i] = c.List.take j ++ named a c.Next :: (c.List.drop j).take (i + 1 - j) := by rw [← hd]; simp
        have k : (c.List.take j ++ named a c.Next :: (c.List.drop j).take (i + 1 - j)).length * 32 ≤ 140737488355328 := by simp; omega
        refine ⟨(true, c.List.take j ++ named a c.Next :: (c.List.drop j).take (i + 1 - j)), ?_, .inr ⟨by omega, rfl⟩, rfl⟩
        simp only [taskmillref_WithAlarm_l1, t1 hi, t2, Bool.and_true, Bool.not_true, cond_true, cond_false, taskmillref_WithAlarm_j2, hA, taskmillref_WithAlarm_j1, hd2, decide_eq_true k, wrap_n1 i (show i < 4611686018427387904 by omega)]) (false, []) (.inl ⟨Nat.zero_le _, rfl⟩)
  exact this
end Go.Proofs.Ytfgedphhlilpgaa
end

section
namespace Go.Proofs.Ytfgedphhlilpgaa
open Go Go.Sx
set_option linter.unusedVariables false
set_option linter.unusedSimpArgs false
theorem ins_perm (l : List Alarm) (a : Alarm) : (insA l a).Perm (a :: l) := by
  unfold insA
  refine List.perm_middle.trans (List.Perm.cons _ ?_)
  have := List.filter_append_perm (fun x => decide (lt x a)) l
  have e : (fun x => decide (¬ lt x a)) = fun x => !decide (lt x a) := by funext x; simp
  rw [e]; exact this
theorem ins_len (l : List Alarm) (a : Alarm) : (insA l a).length = l.length + 1 := (ins_perm l a).length_eq
theorem OkL.ins {now next : Int} {l : List Alarm} (h : OkL now next l) (a : Alarm) (ha : OkA now (next + 1) a) (hs : a.Seq = next) (hid : a.Id ∉ idsOf l) : OkL now (next + 1) (insA l a) := by
  have hp := ins_perm l a
  have hseq : a.Seq ∉ seqsOf l := fun hm => by
    obtain ⟨x, hx, he⟩ := List.mem_map.1 hm
    have := (h.all x hx).seq1
    omega
  refine ⟨fun x hx => ?_, ?_, ?_, ?_⟩
  · rcases List.mem_cons.1 (hp.mem_iff.1 hx) with rfl | hx
    · exact ha
    · obtain ⟨h1, h2, h3, h4, h5, h6, h7⟩ := h.all x hx
      exact ⟨h1, h2, h3, h4, h5, h6, by omega⟩
  · exact (hp.map _).nodup_iff.2 (List.nodup_cons.2 ⟨hid, h.ids⟩)
  · exact (hp.map _).nodup_iff.2 (List.nodup_cons.2 ⟨hseq, h.seqs⟩)
  · unfold insA
    rw [List.pairwise_append, List.pairwise_cons]
    have hgt : ∀ x ∈ l, ¬ lt x a → lt a x := fun x hx hn => by
      have := (h.all x hx).seq1
      unfold lt at *; omega
    refine ⟨h.srt.filter _, ⟨fun x hx => ?_, h.srt.filter _⟩, fun x hx y hy => ?_⟩
    · obtain ⟨h1, h2⟩ := List.mem_filter.1 hx
      exact hgt x h1 (by simpa using h2)
    · obtain ⟨h1, h2⟩ := List.mem_filter.1 hx
      have h2 : lt x a := by simpa using h2
      rcases List.mem_cons.1 hy with rfl | hy
      · exact h2
      · obtain ⟨h3, h4⟩ := List.mem_filter.1 hy
        exact lt_trans h2 (hgt y h3 (by simpa using h4))
theorem OkL.sub {now next : Int} {l r : List Alarm} (h : OkL now next l) (hs : r.Sublist l) : OkL now next r :=
  ⟨fun a ha => h.all a (hs.subset ha), (hs.map _).nodup h.ids, (hs.map _).nodup h.seqs, h.srt.sublist hs⟩
def less (l : List Alarm) (id : Int) : List Alarm := l.filter fun a => decide (a.Id ≠ id)
theorem less_not (l : List Alarm) (id : Int) : id ∉ idsOf (less l id) := fun h => by
  obtain ⟨x, hx, he⟩ := List.mem_map.1 h
  have := (List.mem_filter.1 hx).2
  simp at this; exact this he
theorem no_eq (c : Clock) (id : Int) (hn : c.List.length ≤ 2000000) : taskmillref_NoAlarm c id = some (c.Now, c.Next, decide (id ∈ idsOf c.List), less c.List id) := by
  have hA : ∀ k : Nat, ix c.List (k : Int) = A c.List k := fun k => rfl
  have := loopO_up (step := taskmillref_NoAlarm_l1 c id) c.List.length (fun i (_ : Unit) => (decide (id ∈ idsOf (c.List.take i)), (i : Int), less (c.List.take i) id)) (fun _ _ => True) (fun _ _ => some (c.Now, c.Next, decide (id ∈ idsOf c.List), less c.List id))
    (fun _ _ => by simp only [taskmillref_NoAlarm_l1, t0, cond_false, List.take_length, Option.map_some]) (fun i _ hi _ => by
      refine .inl ⟨(), ?_, trivial, rfl⟩
      have hw := wrap_n1 i (show i < 4611686018427387904 by omega)
      have e1 : id ∈ idsOf (c.List.take (i + 1)) ↔ id ∈ idsOf (c.List.take i) ∨ (A c.List i).Id = id := by
        unfold idsOf
        rw [← take_A hi, List.map_append]; simp [eq_comm]
      have e2 : less (c.List.take (i + 1)) id = if (A c.List i).Id = id then less (c.List.take i) id else less (c.List.take i) id ++ [A c.List i] := by
        unfold less
        rw [← take_A hi, List.filter_append]
        split
        · rename_i h; simp [h]
        · rename_i h; simp [h]
      have hl : (less (c.List.take i) id).length ≤ i := Nat.le_trans (List.length_filter_le _ _) (by rw [List.length_take]; omega)
      by_cases h : (A c.List i).Id = id
      · have h' : ((A c.List i).Id == id) = true := by simpa using h
        rw [e2, if_pos h, decide_eq_true (e1.2 (.inr h))]
        simp only [taskmillref_NoAlarm_l1, t1 hi, t2, Bool.and_true, cond_true, hA, h', taskmillref_NoAlarm_j1, hw]
      · have h' : ((A c.List i).Id == id) = false := by simpa using h
        have k : (less (c.List.take i) id ++ [A c.List i]).length * 32 ≤ 140737488355328 := by simp; omega
        rw [e2, if_neg h, show decide (id ∈ idsOf (c.List.take (i + 1))) = decide (id ∈ idsOf (c.List.take i)) from decide_eq_decide.2 (e1.trans (by simp [h]))]
        simp only [taskmillref_NoAlarm_l1, t1 hi, t2, Bool.and_true, cond_true, cond_false, hA, h', taskmillref_NoAlarm_j1, hw, decide_eq_true k]) () trivial
  exact this
/-- Where an alarm is: its place, or -1. -/
theorem find_eq (c : Clock) (id : Int) (hn : c.List.length ≤ 2000000) (hd : (idsOf c.List).Nodup) :
    ∃ r : Int, clock_find c id = some r ∧ decide (0 ≤ r) = decide (id ∈ idsOf c.List) ∧ (0 ≤ r → slices_Delete_Alarm_1 r (IntKind.i64.wrap (r + 1)) c.List = some (less c.List id)) ∧ (¬ 0 ≤ r → less c.List id = c.List) := by
  have hA : ∀ k : Nat, ix c.List (k : Int) = A c.List k := fun k => rfl
  have hstep : ∀ i : Nat, i < c.List.length → slices_IndexFunc_Alarm_l1 c.List ((i : Int), id) = bif ((A c.List i).Id == id) then some (.inr ((i : Int), id)) else some (.inl (((i + 1 : Nat) : Int), id)) := fun i hi => by
    simp only [slices_IndexFunc_Alarm_l1, t1 hi, t2, hA, cond_true, Bool.and_true, clock_find_1, Option.bind_some, wrap_n1 i (show i < 4611686018427387904 by omega), Option.map_some]
  have hidx := loopO_if (step := slices_IndexFunc_Alarm_l1 c.List) (fun i => (((i : Nat) : Int), id)) (fun i => (A c.List i).Id == id) (fun i => some ((i : Int), id)) (some (-1, id)) c.List.length (fun i hi hp => by rw [hstep i hi, hp]; rfl) (fun i hi hp => by rw [hstep i hi, hp]; rfl) (fun _ => by simp [slices_IndexFunc_Alarm_l1])
  unfold clock_find slices_IndexFunc_Alarm
  rw [show ((0 : Nat) : Int) = 0 from rfl] at hidx
  rw [hidx]
  cases hf : firstIf (fun i => (A c.List i).Id == id) c.List.length with
  | none =>
    have hn := firstIf_none.1 hf
    have hno : ∀ a ∈ c.List, a.Id ≠ id := fun a ha he => by
      obtain ⟨i, hi, rfl⟩ := List.getElem_of_mem ha
      have := hn i hi
      rw [A_get hi] at this
      simp [he] at this
    have hm : id ∉ idsOf c.List := fun h => by
      obtain ⟨a, ha, he⟩ := List.mem_map.1 h
      exact hno a ha he
    refine ⟨-1, rfl, by rw [decide_eq_false hm]; rfl, fun h => by omega, fun _ => ?_⟩
    exact filter_all fun a ha => by simpa using hno a ha
  | some i =>
    obtain ⟨g1, g2, g3⟩ := firstIf_some hf
    have g2' : (A c.List i).Id = id := by simpa using g2
    refine ⟨i, rfl, ?_, fun _ => ?_, fun h => by omega⟩
    · have hm : id ∈ idsOf c.List := List.mem_map.2 ⟨_, A_mem g1, g2'⟩
      rw [t2, decide_eq_true hm]
    · have hdel : delAt c.List i (i + 1) = less c.List id := by
        unfold delAt less
        conv => rhs; rw [← List.take_append_drop i c.List, drop_A g1, List.filter_append, List.filter_cons_of_neg (by simp [g2'])]
        rw [filter_all fun w hw => ?_, filter_all fun w hw => ?_]
        · obtain ⟨k, hk, rfl⟩ := List.mem_drop_iff_getElem.1 hw
          have := List.nodup_iff_pairwise_ne.1 hd
          rw [List.pairwise_iff_getElem] at this
          have := this i (i + 1 + k) (by simp [idsOf]; omega) (by simp [idsOf]; omega) (by omega)
          simp only [idsOf, List.getElem_map, ← A_get g1, g2'] at this
          simp; exact fun e => this e.symm
        · obtain ⟨k, hk, rfl⟩ := List.mem_take_iff_getElem.1 hw
          have := g3 k (by omega)
          rw [A_get (by omega)] at this
          simpa using this
      have hw := wrap_n1 i (show i < 4611686018427387904 by omega)
      have d1 : decide (((i : Nat) : Int) ≤ ((i + 1 : Nat) : Int)) = true := decide_eq_true (by omega)
      have d2 : decide (((i + 1 : Nat) : Int) ≤ ((c.List.length : Nat) : Int)) = true := decide_eq_true (by omega)
      have d3 : decide (((i : Nat) : Int) ≤ ((c.List.length : Nat) : Int)) = true := decide_eq_true (by omega)
      have d4 : (((i : Nat) : Int) == ((i + 1 : Nat) : Int)) = false := by simp; omega
      have hl1 : (cut c.List (0 : Int) (i : Int)).length = i := by rw [cut_take, List.length_take]; omega
      have hl2 : (cut c.List ((i + 1 : Nat) : Int) ((c.List.length : Nat) : Int)).length = c.List.length - (i + 1) := by rw [cut_drop, List.length_drop]
      simp only [slices_Delete_Alarm_1, hw, t2, d1, d2, d3, d4, Bool.and_true, cond_true, cond_false]
      rw [hl1, hl2, ← hdel]
      have := del_lists c.List i (i + 1) (by omega) (by omega) ((i + (c.List.length - (i + 1)) : Nat) : Int) rfl
      rw [hl2] at this
      rw [this]
/-! ### The answers -/
def noC : Int × Int × Bool × Fault × List Alarm := (0, 0, false, ⟨0, 0⟩, [])
def badArgs (id after period : Int) : Prop := id < 1 ∨ after < 1 ∨ 1000000000 < after ∨ period < 0 ∨ 1000000000 < period
instance (id after period : Int) : Decidable (badArgs id after period) := by unfold badArgs; infer_instance
theorem badArgs_b (id after period : Int) : ((decide (id < 1)) || ((decide (after < 1)) || ((decide ((1000000000 : Int) < after)) || ((decide (period < 0)) || (decide ((1000000000 : Int) < period)))))) = decide (badArgs id after period) := by
  rw [Bool.eq_iff_iff, decide_eq_true_eq (p := badArgs id after period)]
  unfold badArgs
  simp only [Bool.or_eq_true, decide_eq_true_eq]
def setR (c : Clock) (id after period : Int) : Int × Int × Bool × Fault × List Alarm :=
  if badArgs id after period then (0, 0, false, ⟨3, -1⟩, []) else if (less c.List id).length = 5000 ∨ c.Next = 1000000000 then (0, 0, false, ⟨9, 0⟩, [])
  else (c.Now, c.Next + 1, decide (id ∈ idsOf c.List), ⟨0, 0⟩, insA (less c.List id) ⟨id, c.Now + after, period, c.Next⟩)
theorem less_sub (l : List Alarm) (id : Int) : (less l id).Sublist l := List.filter_sublist
theorem clone_eq (s : List Alarm) (h : s.length ≤ 10000000) : slices_Clone_Alarm s = some s := by
  have : s.length * 32 ≤ 140737488355328 := by omega
  simp [slices_Clone_Alarm, this]
theorem set_eq (c : Clock) (id after period : Int) : clock_Set c id after period = some (if (clockF c).Code ≠ 0 then (0, 0, false, clockF c, []) else setR c id after period) := by
  unfold clock_Set
  rw [check_eq, Option.bind_some]
  by_cases hc : (clockF c).Code = 0
  · have h := (clock_code c).1 hc
    have hl := h.len
    have e0 : ((clockF c).Code != 0) = false := by simp [hc]
    rw [e0, cond_false, if_neg (by simpa using hc), badArgs_b]
    unfold setR
    by_cases hb : badArgs id after period
    · rw [decide_eq_true hb, if_pos hb]; rfl
    · rw [decide_eq_false hb, if_neg hb, cond_false]
      have hb' := hb
      unfold badArgs at hb'
      obtain ⟨r, h1, h2, h3, h4⟩ := find_eq c id (by omega) h.l.ids
      have hlen := (less_sub c.List id).length_le
      have fin : clock_Set_j1 c id after period r c.Now c.Next (less c.List id) = some (if (less c.List id).length = 5000 ∨ c.Next = 1000000000 then (0, 0, false, ⟨9, 0⟩, []) else (c.Now, c.Next + 1, decide (id ∈ idsOf c.List), ⟨0, 0⟩, insA (less c.List id) ⟨id, c.Now + after, period, c.Next⟩)) := by
        unfold clock_Set_j1
        by_cases hq : (less c.List id).length = 5000 ∨ c.Next = 1000000000
        · have : (((((less c.List id).length : Nat) : Int) == 5000) || (c.Next == 1000000000)) = true := by
            simp only [Bool.or_eq_true, beq_iff_eq]; omega
          rw [if_pos hq, this]; rfl
        · have : (((((less c.List id).length : Nat) : Int) == 5000) || (c.Next == 1000000000)) = false := by
            simp only [Bool.or_eq_false_iff, beq_eq_false_iff_ne]; omega
          have hn0 := h.nxt0; have hn1 := h.nxt1; have hw0 := h.now0; have hw1 := h.now1
          rw [if_neg hq, this, cond_false, put_eq _ _ _ _ (by omega) (h.l.sub (less_sub _ _)).srt, Option.bind_some]
          rw [wrap_id (x := c.Next + 1) (by omega) (by omega), h2]
          simp only [named, wrap_id (x := c.Now + after) (by omega) (by omega)]
      have hc2 : clock_find (Clock.mk c.Now c.Next c.List) id = some r := h1
      simp only [clock_copied, clone_eq c.List (by omega), Option.bind_some, hc2]
      by_cases hr : 0 ≤ r
      · rw [decide_eq_true hr, cond_true, h3 hr, Option.bind_some]; exact fin
      · rw [decide_eq_false hr, cond_false]
        rw [h4 hr] at fin ⊢
        exact fin
  · have e0 : ((clockF c).Code != 0) = true := by simpa using hc
    rw [e0, cond_true, if_pos hc]
theorem stop_eq (c : Clock) (id : Int) : clock_Stop c id = some (if (clockF c).Code ≠ 0 then (0, 0, false, clockF c, []) else (c.Now, c.Next, decide (id ∈ idsOf c.List), ⟨0, 0⟩, less c.List id)) := by
  unfold clock_Stop
  rw [check_eq, Option.bind_some]
  by_cases hc : (clockF c).Code = 0
  · have h := (clock_code c).1 hc
    have hl := h.len
    have e0 : ((clockF c).Code != 0) = false := by simp [hc]
    rw [e0, cond_false, if_neg (by simpa using hc)]
    obtain ⟨r, h1, h2, h3, h4⟩ := find_eq c id (by omega) h.l.ids
    have hc2 : clock_find (Clock.mk c.Now c.Next c.List) id = some r := h1
    simp only [clock_copied, clone_eq c.List (by omega), Option.bind_some, hc2]
    by_cases hr : 0 ≤ r
    · rw [decide_eq_true hr, cond_true, h3 hr, Option.bind_some]; unfold clock_Stop_j1; rw [h2]
    · rw [decide_eq_false hr, cond_false]; unfold clock_Stop_j1; rw [h2, h4 hr]
  · have e0 : ((clockF c).Code != 0) = true := by simpa using hc
    rw [e0, cond_true, if_pos hc]
theorem soon_eq (c : Clock) : clock_Soon c = some (if (clockF c).Code ≠ 0 then (0, clockF c) else if c.List = [] then (0, ⟨6, 0⟩) else ((A c.List 0).When - c.Now, ⟨0, 0⟩)) := by
  unfold clock_Soon
  rw [check_eq, Option.bind_some]
  by_cases hc : (clockF c).Code = 0
  · have h := (clock_code c).1 hc
    have e0 : ((clockF c).Code != 0) = false := by simp [hc]
    rw [e0, cond_false, if_neg (by simpa using hc)]
    by_cases hl : c.List = []
    · simp [hl, clock_fault]
    · have hp := List.length_pos_iff.2 hl
      have e1 : (((c.List.length : Nat) : Int) == 0) = false := by simp; omega
      have hA : ix c.List (0 : Int) = A c.List 0 := rfl
      have ha := h.l.all _ (A_mem hp)
      have h1 := ha.late; have h2 := ha.when; have h3 := h.now0
      rw [e1, cond_false, if_neg hl, decide_eq_true (show (0 : Int) < ((c.List.length : Nat) : Int) by omega), cond_true, hA, wrap_id (by omega) (by omega)]
  · have e0 : ((clockF c).Code != 0) = true := by simpa using hc
    rw [e0, cond_true, if_pos hc]
theorem same_eq (a b : Clock) (hn : a.List.length ≤ 2000000) : taskmillref_SameClock a b = some (decide (a = b)) := by
  have hline : ∀ x y : Clock, x = y ↔ x.Now = y.Now ∧ x.Next = y.Next ∧ x.List = y.List := fun x y => by cases x; cases y; simp
  unfold taskmillref_SameClock
  by_cases h1 : a.Now = b.Now ∧ a.Next = b.Next ∧ a.List.length = b.List.length
  · obtain ⟨h1, h2, hl⟩ := h1
    have e0 : ((a.Now != b.Now) || ((a.Next != b.Next) || (((a.List.length : Nat) : Int) != ((b.List.length : Nat) : Int)))) = false := by simp [h1, h2, hl]
    rw [e0, cond_false]
    have := loopO_up (step := taskmillref_SameClock_l1 a b) a.List.length (fun i (_ : Unit) => (i : Int)) (fun _ _ => True) (fun i _ => some (decide (a.List.drop i = b.List.drop i)))
      (fun _ _ => by
        have : a.List.drop a.List.length = b.List.drop a.List.length := by rw [List.drop_length, hl, List.drop_length]
        simp only [taskmillref_SameClock_l1, t0, cond_false, this, decide_true]) (fun i _ hi _ => by
        have hi2 : i < b.List.length := by omega
        have hA : ix a.List (i : Int) = A a.List i := rfl
        have hB : ix b.List (i : Int) = A b.List i := rfl
        have hd : decide (a.List.drop i = b.List.drop i) = (decide (A a.List i = A b.List i) && decide (a.List.drop (i + 1) = b.List.drop (i + 1))) := by
          rw [drop_A hi, drop_A hi2, Bool.eq_iff_iff]; simp
        have he : (((A a.List i).Id == (A b.List i).Id) && (((A a.List i).When == (A b.List i).When) && (((A a.List i).Period == (A b.List i).Period) && (((A a.List i).Seq == (A b.List i).Seq) && true)))) = decide (A a.List i = A b.List i) := by
          rw [Bool.eq_iff_iff]
          cases A a.List i; cases A b.List i
          simp
        by_cases h4 : A a.List i = A b.List i
        · refine .inl ⟨(), ?_, trivial, ?_⟩
          · simp only [taskmillref_SameClock_l1, t1 hi, t1 hi2, t2, hA, hB, cond_true, Bool.and_true, wrap_n1 i (show i < 4611686018427387904 by omega)]
            rw [Bool.and_true] at he
            rw [he, decide_eq_true h4]; rfl
          · rw [hd, decide_eq_true h4, Bool.true_and]
        · right
          simp only [taskmillref_SameClock_l1, t1 hi, t1 hi2, t2, hA, hB, cond_true, Bool.and_true]
          rw [Bool.and_true] at he
          rw [he, decide_eq_false h4, hd, decide_eq_false h4]; rfl) () trivial
    have e : decide (a.List = b.List) = decide (a = b) := decide_eq_decide.2 (by rw [hline a b]; simp [h1, h2])
    simp only [List.drop_zero] at this
    rw [e] at this
    exact this
  · have e0 : ((a.Now != b.Now) || ((a.Next != b.Next) || (((a.List.length : Nat) : Int) != ((b.List.length : Nat) : Int)))) = true := by
      simp only [Bool.or_eq_true, bne_iff_ne]; omega
    rw [e0, cond_true, decide_eq_false (fun e => h1 (by rw [e]; simp))]
theorem off_eq (a b : List S43) (hn : a.length ≤ 2000000) : taskmillref_SameOff a b = some (decide (a = b)) := by
  unfold taskmillref_SameOff
  by_cases hl : a.length = b.length
  · have e0 : (((a.length : Nat) : Int) != ((b.length : Nat) : Int)) = false := by simp [hl]
    rw [e0, cond_false]
    have := loopO_up (step := taskmillref_SameOff_l1 a b) a.length (fun i (_ : Unit) => (i : Int)) (fun _ _ => True) (fun i _ => some (decide (a.drop i = b.drop i)))
      (fun _ _ => by
        have : a.drop a.length = b.drop a.length := by rw [List.drop_length, hl, List.drop_length]
        simp only [taskmillref_SameOff_l1, t0, cond_false, this, decide_true]) (fun i _ hi _ => by
        have hi2 : i < b.length := by omega
        have hA : ix a (i : Int) = a[i] := ix_get hi
        have hB : ix b (i : Int) = b[i] := ix_get hi2
        have hd : decide (a.drop i = b.drop i) = (decide (a[i] = b[i]) && decide (a.drop (i + 1) = b.drop (i + 1))) := by
          rw [drop_at hi, drop_at hi2, Bool.eq_iff_iff]; simp only [List.cons.injEq, Bool.and_eq_true, decide_eq_true_eq]
        have he : ((a[i].e0 == b[i].e0) && (a[i].e1 == b[i].e1)) = decide (a[i] = b[i]) := by
          rw [Bool.eq_iff_iff]
          generalize a[i] = x
          generalize b[i] = y
          cases x; cases y
          simp
        by_cases h4 : a[i] = b[i]
        · refine .inl ⟨(), ?_, trivial, ?_⟩
          · simp only [taskmillref_SameOff_l1, t1 hi, t1 hi2, t2, hA, hB, cond_true, Bool.and_true, wrap_n1 i (show i < 4611686018427387904 by omega)]
            rw [he, decide_eq_true h4]; rfl
          · rw [hd, decide_eq_true h4, Bool.true_and]
        · right
          simp only [taskmillref_SameOff_l1, t1 hi, t1 hi2, t2, hA, hB, cond_true, Bool.and_true]
          rw [he, decide_eq_false h4, hd, decide_eq_false h4]; rfl) () trivial
    simpa using this
  · have e0 : (((a.length : Nat) : Int) != ((b.length : Nat) : Int)) = true := by simp; omega
    rw [e0, cond_true, decide_eq_false (fun e => hl (by rw [e]))]
end Go.Proofs.Ytfgedphhlilpgaa
end

section
namespace Go.Proofs.Ytfgedphhlilpgaa
open Go Go.Sx
set_option linter.unusedVariables false
set_option linter.unusedSimpArgs false
/-- What goes off up to a time; none: too much. -/
def passN (e : Int) : Nat → Int → List S43 → List Alarm → Option (Int × List S43 × List Alarm)
  | 0, _, _, _ => none
  | n + 1, next, off, l => match l with
    | [] => some (next, off, [])
    | a :: r => if a.When ≤ e then (if 5000 < off.length + 1 ∨ (0 < a.Period ∧ next = 1000000000) then none
        else if 0 < a.Period then passN e n (next + 1) (off ++ [⟨a.When, a.Id⟩]) (insA r ⟨a.Id, a.When + a.Period, a.Period, next⟩) else passN e n next (off ++ [⟨a.When, a.Id⟩]) r) else some (next, off, a :: r)
theorem OkL.head {now next : Int} {a : Alarm} {r : List Alarm} (h : OkL now next (a :: r)) : OkL now next r := h.sub (List.sublist_cons_self a r)
theorem OkL.round {now next : Int} {a : Alarm} {r : List Alarm} {e : Int} (h : OkL now next (a :: r)) (he : a.When ≤ e) (he2 : e ≤ 1000000000) (hn : 0 ≤ next) (hp : 0 < a.Period) : OkL now (next + 1) (insA r ⟨a.Id, a.When + a.Period, a.Period, next⟩) := by
  obtain ⟨h1, h2, h3, h4, h5, h6, h7⟩ := h.all a (by simp)
  refine h.head.ins _ ⟨h1, by simp only; omega, by simp only; omega, h4, h5, by simp only; omega, by simp only; omega⟩ rfl ?_
  have := h.ids
  simp only [idsOf, List.map_cons, List.nodup_cons] at this
  exact this.1
theorem del1 (a : Alarm) (r : List Alarm) (hl : (a :: r).length ≤ 2000000) : slices_Delete_Alarm_1 0 1 (a :: r) = some r := by
  have hl1 : (cut (a :: r) (0 : Int) (0 : Int)).length = 0 := by
    have := cut_take (a :: r) 0
    rw [show (((0 : Nat) : Int)) = 0 from rfl] at this
    rw [this]; rfl
  have hl2 : (cut (a :: r) (1 : Int) (((a :: r).length : Nat) : Int)) = r := by
    have := cut_drop (a :: r) 1
    rw [show (((1 : Nat) : Int)) = 1 from rfl] at this
    rw [this]; rfl
  have hp : (0 : Int) < (((a :: r).length : Nat) : Int) := by simp
  simp only [slices_Delete_Alarm_1, show decide ((0 : Int) ≤ 0) = true from rfl, show decide ((0 : Int) ≤ 1) = true from rfl, decide_eq_true (show (1 : Int) ≤ (((a :: r).length : Nat) : Int) by omega), decide_eq_true (show (0 : Int) ≤ (((a :: r).length : Nat) : Int) by omega), Bool.and_true, cond_true, show ((0 : Int) == 1) = false from rfl, cond_false]
  rw [hl1]
  have := del_lists (a :: r) 0 1 (by omega) (by simp) ((0 + ((a :: r).length - 1) : Nat) : Int) rfl
  simp only [show (((0 : Nat) : Int)) = 0 from rfl, show (((1 : Nat) : Int)) = 1 from rfl] at this
  have e : (cut (a :: r) (1 : Int) (((a :: r).length : Nat) : Int)).length = (a :: r).length - 1 := by rw [hl2]; simp
  rw [e] at this ⊢
  rw [this]; rfl
theorem pass_loop (c : Clock) (ticks : Int) (h0 : 0 ≤ c.Now) (h1 : 0 ≤ ticks) (h2 : c.Now + ticks ≤ 1000000000) : ∀ (n : Nat) (now next : Int) (off : List S43) (l : List Alarm), n + off.length = 5002 → off.length ≤ 5000 → OkL c.Now next l → 0 ≤ next → next ≤ 1000000000 → l.length ≤ 5000 →
    loopO (clock_Pass_l1 c ticks) (now, next, off, l) = some (match passN (c.Now + ticks) n next off l with | none => (0, 0, ⟨9, 0⟩, [], []) | some (nx, o, r) => (c.Now + ticks, nx, ⟨0, 0⟩, r, o)) := by
  have hw : IntKind.i64.wrap (c.Now + ticks) = c.Now + ticks := wrap_id (by omega) (by omega)
  intro n
  induction n with
  | zero => intro now next off l hn ho; omega
  | succ n ih =>
    intro now next off l hn ho hl hx0 hx1 hlen
    cases l with
    | nil =>
      refine loopO_inr ?_
      simp [clock_Pass_l1, passN, hw]
    | cons a r =>
      have hp : (0 : Int) < (((a :: r).length : Nat) : Int) := by simp
      have hix : ix (a :: r) (0 : Int) = a := rfl
      have ha := hl.all a (by simp)
      by_cases hwhen : a.When ≤ c.Now + ticks
      · have k1 : (off.length + 1) * 16 ≤ 140737488355328 := by omega
        have hol : (off ++ [S43.mk a.When a.Id]).length = off.length + 1 := by simp
        have base : clock_Pass_l1 c ticks (now, next, off, a :: r) = (bif ((decide ((5000 : Int) < ((off.length + 1 : Nat) : Int))) || ((decide ((0 : Int) < a.Period)) && (next == 1000000000))) then ((clock_fault 9 0).bind fun r1037 => (Option.map Sum.inr (some (0, 0, r1037, [], [])))) else (bif (decide ((0 : Int) < a.Period)) then ((clock_put (Alarm.mk a.Id (IntKind.i64.wrap (a.When + a.Period)) a.Period a.Seq) now next r).bind fun r1039 => (some (Sum.inl (r1039.1, r1039.2.1, (off ++ [S43.mk a.When a.Id]), r1039.2.2)))) else (some (Sum.inl (now, next, (off ++ [S43.mk a.When a.Id]), r))))) := by
          simp only [clock_Pass_l1, hix, hw, decide_eq_true hp, Bool.not_true, Bool.false_or, cond_true, Bool.true_and, decide_eq_true hwhen, del1 a r (by omega), Option.bind_some, hol, decide_eq_true k1, cond_true]
        by_cases hq : 5000 < off.length + 1 ∨ (0 < a.Period ∧ next = 1000000000)
        · have : ((decide ((5000 : Int) < ((off.length + 1 : Nat) : Int))) || ((decide ((0 : Int) < a.Period)) && (next == 1000000000))) = true := by
            simp only [Bool.or_eq_true, Bool.and_eq_true, decide_eq_true_eq, beq_iff_eq]; omega
          rw [this, cond_true] at base
          rw [loopO_inr (r := (0, 0, ⟨9, 0⟩, [], [])) (by rw [base]; rfl)]
          simp only [passN, if_pos hwhen, if_pos hq]
        · have : ((decide ((5000 : Int) < ((off.length + 1 : Nat) : Int))) || ((decide ((0 : Int) < a.Period)) && (next == 1000000000))) = false := by
            simp only [Bool.or_eq_false_iff, Bool.and_eq_false_iff, decide_eq_false_iff_not, beq_eq_false_iff_ne]; omega
          rw [this, cond_false] at base
          have hlr : r.length ≤ 5000 := by simp at hlen; omega
          by_cases hper : 0 < a.Period
          · have h3 := ha.when; have h4 := ha.per1; have h5 := ha.late
            rw [decide_eq_true hper, cond_true, put_eq _ _ _ r (by omega) hl.head.srt, Option.bind_some, wrap_id (x := a.When + a.Period) (by omega) (by omega), wrap_id (x := next + 1) (by omega) (by omega)] at base
            rw [loopO_inl base]
            simp only [named]
            rw [ih _ _ _ _ (by simp; omega) (by simp; omega) (hl.round hwhen h2 hx0 hper) (by omega) (by omega) (by rw [ins_len]; simp at hlen; omega)]
            simp only [passN, if_pos hwhen, if_neg hq, if_pos hper]
          · rw [decide_eq_false hper, cond_false] at base
            rw [loopO_inl base, ih _ _ _ _ (by simp; omega) (by simp; omega) hl.head hx0 hx1 hlr]
            simp only [passN, if_pos hwhen, if_neg hq, if_neg hper]
      · refine loopO_inr ?_
        simp only [clock_Pass_l1, hix, hw, decide_eq_true hp, Bool.not_true, Bool.false_or, cond_true, cond_false, Bool.true_and, decide_eq_false hwhen, passN, if_neg hwhen, Option.map_some]
theorem passed_loop (c : Clock) (ticks : Int) (h0 : 0 ≤ c.Now) (h1 : 0 ≤ ticks) (h2 : c.Now + ticks ≤ 1000000000) : ∀ (n : Nat) (now next : Int) (off : List S43) (l : List Alarm), n + off.length = 5002 → off.length ≤ 5000 → OkL c.Now next l → 0 ≤ next → next ≤ 1000000000 → l.length ≤ 5000 →
    ∃ d : Clock, loopO (taskmillref_Passed_l1 c ticks) (⟨now, next, l⟩, off) = some (match passN (c.Now + ticks) n next off l with | none => (d, false, []) | some (nx, o, r) => (⟨c.Now + ticks, nx, r⟩, true, o)) := by
  have hw : IntKind.i64.wrap (c.Now + ticks) = c.Now + ticks := wrap_id (by omega) (by omega)
  intro n
  induction n with
  | zero => intro now next off l hn ho; omega
  | succ n ih =>
    intro now next off l hn ho hl hx0 hx1 hlen
    cases l with
    | nil =>
      refine ⟨c, loopO_inr ?_⟩
      simp [taskmillref_Passed_l1, passN, hw]
    | cons a r =>
      have hp : (0 : Int) < (((a :: r).length : Nat) : Int) := by simp
      have hix : ix (a :: r) (0 : Int) = a := rfl
      have ha := hl.all a (by simp)
      have hcut : cut (a :: r) (1 : Int) (((a :: r).length : Nat) : Int) = r := by
        have := cut_drop (a :: r) 1
        rw [show (((1 : Nat) : Int)) = 1 from rfl] at this
        rw [this]; rfl
      by_cases hwhen : a.When ≤ c.Now + ticks
      · have k1 : (off.length + 1) * 16 ≤ 140737488355328 := by omega
        have hol : (off ++ [S43.mk a.When a.Id]).length = off.length + 1 := by simp
        have base : taskmillref_Passed_l1 c ticks (⟨now, next, a :: r⟩, off) = (bif (decide ((5000 : Int) < ((off.length + 1 : Nat) : Int))) then (Option.map Sum.inr (some (Clock.mk now next r, false, []))) else (bif (decide ((0 : Int) < a.Period)) then (bif (next == 1000000000) then (Option.map Sum.inr (some (Clock.mk now next r, false, []))) else ((taskmillref_WithAlarm (Clock.mk now next r) (Alarm.mk a.Id (IntKind.i64.wrap (a.When + a.Period)) a.Period a.Seq)).bind fun r2253 => (some (Sum.inl (Clock.mk r2253.1 r2253.2.1 r2253.2.2, off ++ [S43.mk a.When a.Id]))))) else (some (Sum.inl (Clock.mk now next r, off ++ [S43.mk a.When a.Id]))))) := by
          simp only [taskmillref_Passed_l1, hix, hw, decide_eq_true hp, Bool.not_true, Bool.false_or, cond_true, Bool.true_and, decide_eq_true hwhen, hol, decide_eq_true k1, hcut, decide_eq_true (show (1 : Int) ≤ (((a :: r).length : Nat) : Int) by omega)]
        have hlr : r.length ≤ 5000 := by simp at hlen; omega
        by_cases hq : 5000 < off.length + 1
        · rw [decide_eq_true (show (5000 : Int) < ((off.length + 1 : Nat) : Int) by omega), cond_true] at base
          refine ⟨⟨now, next, r⟩, ?_⟩
          rw [loopO_inr (r := (⟨now, next, r⟩, false, [])) (by rw [base]; rfl)]
          simp only [passN, if_pos hwhen, if_pos (Or.inl hq : 5000 < off.length + 1 ∨ (0 < a.Period ∧ next = 1000000000))]
        · rw [decide_eq_false (show ¬ (5000 : Int) < ((off.length + 1 : Nat) : Int) by omega), cond_false] at base
          by_cases hper : 0 < a.Period
          · rw [decide_eq_true hper, cond_true] at base
            by_cases hnx : next = 1000000000
            · have e : (next == 1000000000) = true := by simpa using hnx
              rw [e, cond_true] at base
              refine ⟨⟨now, next, r⟩, ?_⟩
              rw [loopO_inr (r := (⟨now, next, r⟩, false, [])) (by rw [base]; rfl)]
              simp only [passN, if_pos hwhen, if_pos (Or.inr ⟨hper, hnx⟩ : 5000 < off.length + 1 ∨ (0 < a.Period ∧ next = 1000000000))]
            · have e : (next == 1000000000) = false := by simpa using hnx
              have h3 := ha.when; have h4 := ha.per1; have h5 := ha.late
              have hwith := with_eq ⟨now, next, r⟩ ⟨a.Id, a.When + a.Period, a.Period, a.Seq⟩ (by show r.length ≤ 2000000; omega) hl.head.srt (fun x hx => (hl.head.all x hx).seq1)
              rw [e, cond_false, wrap_id (x := a.When + a.Period) (by omega) (by omega), hwith, Option.bind_some] at base
              simp only [named, wrap_id (x := next + 1) (by omega) (by omega)] at base
              obtain ⟨d, hd⟩ := ih now (next + 1) (off ++ [S43.mk a.When a.Id]) (insA r ⟨a.Id, a.When + a.Period, a.Period, next⟩) (by simp; omega) (by simp; omega) (hl.round hwhen h2 hx0 hper) (by omega) (by omega) (by rw [ins_len]; simp at hlen; omega)
              refine ⟨d, ?_⟩
              rw [loopO_inl base, hd]
              simp only [passN, if_pos hwhen, if_neg (show ¬ (5000 < off.length + 1 ∨ (0 < a.Period ∧ next = 1000000000)) by omega), if_pos hper]
          · rw [decide_eq_false hper, cond_false] at base
            obtain ⟨d, hd⟩ := ih now next (off ++ [S43.mk a.When a.Id]) r (by simp; omega) (by simp; omega) hl.head hx0 hx1 hlr
            refine ⟨d, ?_⟩
            rw [loopO_inl base, hd]
            simp only [passN, if_pos hwhen, if_neg (show ¬ (5000 < off.length + 1 ∨ (0 < a.Period ∧ next = 1000000000)) by omega), if_neg hper]
      · refine ⟨c, loopO_inr ?_⟩
        simp only [taskmillref_Passed_l1, hix, hw, decide_eq_true hp, Bool.not_true, Bool.false_or, cond_true, cond_false, Bool.true_and, decide_eq_false hwhen, passN, if_neg hwhen, Option.map_some]
/-- What Pass answers for a clock that is fine. -/
def passR (c : Clock) (ticks : Int) : Int × Int × Fault × List Alarm × List S43 :=
  if ticks < 0 ∨ 1000000000 < ticks then (0, 0, ⟨3, -1⟩, [], []) else if 1000000000 < c.Now + ticks then (0, 0, ⟨9, 0⟩, [], [])
  else match passN (c.Now + ticks) 5002 c.Next [] c.List with | none => (0, 0, ⟨9, 0⟩, [], []) | some (nx, o, r) => (c.Now + ticks, nx, ⟨0, 0⟩, r, o)
theorem pass_eq (c : Clock) (ticks : Int) : clock_Pass c ticks = some (if (clockF c).Code ≠ 0 then (0, 0, clockF c, [], []) else passR c ticks) := by
  unfold clock_Pass
  rw [check_eq, Option.bind_some]
  by_cases hc : (clockF c).Code = 0
  · have h := (clock_code c).1 hc
    have e0 : ((clockF c).Code != 0) = false := by simp [hc]
    rw [e0, cond_false, if_neg (by simpa using hc)]
    unfold passR
    by_cases h1 : ticks < 0 ∨ 1000000000 < ticks
    · have : ((decide (ticks < 0)) || (decide ((1000000000 : Int) < ticks))) = true := by simp only [Bool.or_eq_true, decide_eq_true_eq]; exact h1
      rw [if_pos h1, this]; rfl
    · have : ((decide (ticks < 0)) || (decide ((1000000000 : Int) < ticks))) = false := by simp only [Bool.or_eq_false_iff, decide_eq_false_iff_not]; omega
      have hn0 := h.now0; have hn1 := h.now1
      rw [if_neg h1, this, cond_false, wrap_id (x := c.Now + ticks) (by omega) (by omega)]
      by_cases h2 : 1000000000 < c.Now + ticks
      · rw [if_pos h2, decide_eq_true h2]; rfl
      · rw [if_neg h2, decide_eq_false h2, cond_false]
        have hl := h.len
        simp only [clock_copied, clone_eq c.List (by omega), Option.bind_some]
        exact pass_loop c ticks hn0 (by omega) (by omega) 5002 c.Now c.Next [] c.List rfl (by simp) h.l h.nxt0 h.nxt1 hl
  · have e0 : ((clockF c).Code != 0) = true := by simpa using hc
    rw [e0, cond_true, if_pos hc]
theorem passed_eq {c : Clock} (h : Ok c) (ticks : Int) (h1 : 0 ≤ ticks) (h2 : ticks ≤ 1000000000) :
    ∃ d : Clock, taskmillref_Passed c ticks = some (if 1000000000 < c.Now + ticks then (d, false, []) else match passN (c.Now + ticks) 5002 c.Next [] c.List with | none => (d, false, []) | some (nx, o, r) => (⟨c.Now + ticks, nx, r⟩, true, o)) := by
  have hn0 := h.now0; have hn1 := h.now1
  unfold taskmillref_Passed
  rw [wrap_id (x := c.Now + ticks) (by omega) (by omega)]
  by_cases h3 : 1000000000 < c.Now + ticks
  · exact ⟨c, by rw [if_pos h3, decide_eq_true h3]; rfl⟩
  · obtain ⟨d, hd⟩ := passed_loop c ticks hn0 h1 (by omega) 5002 c.Now c.Next [] c.List rfl (by simp) h.l h.nxt0 h.nxt1 h.len
    exact ⟨d, by rw [if_neg h3, decide_eq_false h3, cond_false]; exact hd⟩
theorem begun : taskmilllaw_clockBegun = some true := by
  have h1 : Ok ⟨0, 0, []⟩ := ⟨by simp, by simp, by simp, by simp, by simp, ⟨by simp, by simp [idsOf], by simp [seqsOf], List.Pairwise.nil⟩⟩
  have e1 : clock_Set ⟨0, 0, []⟩ 1 2 3 = some (0, 1, false, ⟨0, 0⟩, [⟨1, 2, 3, 0⟩]) := by
    rw [set_eq, clock_ok h1]; rfl
  have h2 : Ok ⟨0, 1, [⟨1, 2, 3, 0⟩]⟩ := ⟨by simp, by simp, by simp, by simp, by simp, ⟨fun a ha => by
    simp at ha; subst ha; exact ⟨by simp, by simp, by simp, by simp, by simp, by simp, by simp⟩, by simp [idsOf], by simp [seqsOf], by simp⟩⟩
  have e3 : passR ⟨0, 1, [⟨1, 2, 3, 0⟩]⟩ 9 = (9, 4, ⟨0, 0⟩, [⟨1, 11, 3, 3⟩], [⟨2, 1⟩, ⟨5, 1⟩, ⟨8, 1⟩]) := by
    unfold passR
    rw [if_neg (by simp), if_neg (by simp)]
    have gen : ∀ n, passN (0 + 9) (n + 4) 1 [] [⟨1, 2, 3, 0⟩] = some (4, [⟨2, 1⟩, ⟨5, 1⟩, ⟨8, 1⟩], [⟨1, 11, 3, 3⟩]) := fun n => by
      simp [passN, insA]
    have : passN (0 + 9) 5002 1 [] [⟨1, 2, 3, 0⟩] = some (4, [⟨2, 1⟩, ⟨5, 1⟩, ⟨8, 1⟩], [⟨1, 11, 3, 3⟩]) := gen 4998
    rw [show passN ((Clock.mk 0 1 [⟨1, 2, 3, 0⟩]).Now + 9) 5002 (Clock.mk 0 1 [⟨1, 2, 3, 0⟩]).Next [] (Clock.mk 0 1 [⟨1, 2, 3, 0⟩]).List = some (4, [⟨2, 1⟩, ⟨5, 1⟩, ⟨8, 1⟩], [⟨1, 11, 3, 3⟩]) from this]
    rfl
  have e2 : clock_Pass ⟨0, 1, [⟨1, 2, 3, 0⟩]⟩ 9 = some (9, 4, ⟨0, 0⟩, [⟨1, 11, 3, 3⟩], [⟨2, 1⟩, ⟨5, 1⟩, ⟨8, 1⟩]) := by
    rw [pass_eq, clock_ok h2, if_neg (by simp), e3]
  unfold taskmilllaw_clockBegun
  rw [e1, Option.bind_some, e2, Option.bind_some]
  simp only [show ((0 : Int) == 0) = true from rfl, cond_true, off_eq [S43.mk 2 1, S43.mk 5 1, S43.mk 8 1] [S43.mk 2 1, S43.mk 5 1, S43.mk 8 1] (by simp), Option.bind_some, taskmilllaw_clockBegun_j1]
  simp
end Go.Proofs.Ytfgedphhlilpgaa
end

section
namespace Go.Proofs.Ytfgedphhlilpgaa
open Go Go.Sx
set_option linter.unusedVariables false
set_option linter.unusedSimpArgs false
theorem same_fault (f : Fault) : (!((f.Code == f.Code) && ((f.At == f.At) && true))) = false := by simp
theorem own_eq (c : Clock) (h : c.List.length ≤ 2000000) : taskmilllaw_ownClock c = some (c.Now, c.Next, c.List) := by
  have : c.List.length * 32 ≤ 140737488355328 := by omega
  simp [taskmilllaw_ownClock, this]
theorem passN_len (e : Int) : ∀ (n : Nat) (next : Int) (off : List S43) (l : List Alarm) {nx : Int} {o : List S43} {r : List Alarm}, passN e n next off l = some (nx, o, r) → off.length ≤ 5000 → o.length ≤ 5000
  | 0, _, _, _, _, _, _, h, _ => by simp [passN] at h
  | n + 1, next, off, [], nx, o, r, h, ho => by
    simp only [passN, Option.some.injEq, Prod.mk.injEq] at h
    obtain ⟨_, rfl, _⟩ := h; exact ho
  | n + 1, next, off, a :: l, nx, o, r, h, ho => by
    simp only [passN] at h
    split at h
    · split at h
      · cases h
      · rename_i hq
        split at h
        · exact passN_len e n _ _ _ h (by simp; omega)
        · exact passN_len e n _ _ _ h (by simp; omega)
    · simp only [Option.some.injEq, Prod.mk.injEq] at h
      obtain ⟨_, rfl, _⟩ := h; exact ho
/-! ### What lasts through a Pass -/
structure Last (now e next : Int) (l : List Alarm) : Prop where
  okl : OkL now next l
  n0 : 0 ≤ next
  n1 : next ≤ 1000000000
theorem passN_ok (now e : Int) (he : e ≤ 1000000000) : ∀ (n : Nat) (next : Int) (off : List S43) (l : List Alarm) {nx : Int} {o : List S43} {r : List Alarm}, passN e n next off l = some (nx, o, r) → OkL now next l → 0 ≤ next → next ≤ 1000000000 → 0 ≤ now →
    OkL now nx r ∧ 0 ≤ nx ∧ nx ≤ 1000000000 ∧ r.length ≤ l.length ∧ (∀ a ∈ r, e < a.When)
  | 0, _, _, _, _, _, _, h, _, _, _, _ => by simp [passN] at h
  | n + 1, next, off, [], nx, o, r, h, hl, h0, h1, hn => by
    simp only [passN, Option.some.injEq, Prod.mk.injEq] at h
    obtain ⟨rfl, rfl, rfl⟩ := h; exact ⟨hl, h0, h1, Nat.le_refl _, fun a ha => by cases ha⟩
  | n + 1, next, off, a :: l, nx, o, r, h, hl, h0, h1, hn => by
    simp only [passN] at h
    split at h
    · rename_i hw
      split at h
      · cases h
      · rename_i hq
        split at h
        · rename_i hp
          obtain ⟨g1, g2, g3, g4, g5⟩ := passN_ok now e he n _ _ _ h (hl.round hw he h0 hp) (by omega) (by omega) hn
          exact ⟨g1, g2, g3, by rw [ins_len] at g4; simpa using g4, g5⟩
        · obtain ⟨g1, g2, g3, g4, g5⟩ := passN_ok now e he n _ _ _ h hl.head h0 h1 hn
          exact ⟨g1, g2, g3, by simp; omega, g5⟩
    · rename_i hw
      simp only [Option.some.injEq, Prod.mk.injEq] at h
      obtain ⟨rfl, rfl, rfl⟩ := h
      refine ⟨hl, h0, h1, Nat.le_refl _, fun x hx => ?_⟩
      rcases List.mem_cons.1 hx with rfl | hx
      · omega
      · have := (List.pairwise_cons.1 hl.srt).1 x hx
        unfold lt at this; omega
theorem pass_ok {c : Clock} (h : Ok c) {ticks : Int} (h1 : 0 ≤ ticks) (h2 : c.Now + ticks ≤ 1000000000) {nx : Int} {o : List S43} {r : List Alarm} (hN : passN (c.Now + ticks) 5002 c.Next [] c.List = some (nx, o, r)) : Ok ⟨c.Now + ticks, nx, r⟩ := by
  obtain ⟨g1, g2, g3, g4, g5⟩ := passN_ok c.Now _ h2 5002 _ _ _ hN h.l h.nxt0 h.nxt1 h.now0
  have hl := h.len; have h0 := h.now0
  refine ⟨by show r.length ≤ 5000; omega, by show 0 ≤ c.Now + ticks; omega, h2, g2, g3, ⟨fun a ha => ?_, g1.ids, g1.seqs, g1.srt⟩⟩
  obtain ⟨q1, q2, q3, q4, q5, q6, q7⟩ := g1.all a ha
  exact ⟨q1, g5 a ha, q3, q4, q5, q6, q7⟩
/-! ### Halves -/
theorem passN_next (e1 e2 : Int) (he : e1 ≤ e2) : ∀ (n : Nat) (next : Int) (off : List S43) (l : List Alarm) {nx : Int} {o : List S43} {r : List Alarm}, passN e1 n next off l = some (nx, o, r) → n + off.length = 5002 → off.length ≤ 5000 →
    ∃ m, m + o.length = 5002 ∧ o.length ≤ 5000 ∧ passN e2 n next off l = passN e2 m nx o r
  | 0, _, _, _, _, _, _, h, _, _ => by simp [passN] at h
  | n + 1, next, off, [], nx, o, r, h, hn, ho => by
    simp only [passN, Option.some.injEq, Prod.mk.injEq] at h
    obtain ⟨rfl, rfl, rfl⟩ := h; exact ⟨n + 1, hn, ho, rfl⟩
  | n + 1, next, off, a :: l, nx, o, r, h, hn, ho => by
    simp only [passN] at h
    split at h
    · rename_i hw
      split at h
      · cases h
      · rename_i hq
        have e : passN e2 (n + 1) next off (a :: l) = if 0 < a.Period then passN e2 n (next + 1) (off ++ [⟨a.When, a.Id⟩]) (insA l ⟨a.Id, a.When + a.Period, a.Period, next⟩) else passN e2 n next (off ++ [⟨a.When, a.Id⟩]) l := by
          simp only [passN, if_pos (show a.When ≤ e2 by omega), if_neg hq]
        rw [e]
        split at h
        · rename_i hp
          rw [if_pos hp]
          exact passN_next e1 e2 he n _ _ _ h (by simp; omega) (by simp; omega)
        · rename_i hp
          rw [if_neg hp]
          exact passN_next e1 e2 he n _ _ _ h (by simp; omega) (by simp; omega)
    · simp only [Option.some.injEq, Prod.mk.injEq] at h
      obtain ⟨rfl, rfl, rfl⟩ := h; exact ⟨n + 1, hn, ho, rfl⟩
theorem passN_pre (e : Int) (p : List S43) : ∀ (n m : Nat) (next : Int) (off : List S43) (l : List Alarm) {nx : Int} {o : List S43} {r : List Alarm}, passN e n next (p ++ off) l = some (nx, o, r) → n ≤ m →
    ∃ q, passN e m next off l = some (nx, q, r) ∧ o = p ++ q
  | 0, _, _, _, _, _, _, _, h, _ => by simp [passN] at h
  | n + 1, 0, _, _, _, _, _, _, h, hm => by omega
  | n + 1, m + 1, next, off, [], nx, o, r, h, hm => by
    simp only [passN, Option.some.injEq, Prod.mk.injEq] at h
    obtain ⟨rfl, rfl, rfl⟩ := h; exact ⟨off, rfl, rfl⟩
  | n + 1, m + 1, next, off, a :: l, nx, o, r, h, hm => by
    simp only [passN] at h
    split at h
    · rename_i hw
      split at h
      · cases h
      · rename_i hq
        have e : passN e (m + 1) next off (a :: l) = if 0 < a.Period then passN e m (next + 1) (off ++ [⟨a.When, a.Id⟩]) (insA l ⟨a.Id, a.When + a.Period, a.Period, next⟩) else passN e m next (off ++ [⟨a.When, a.Id⟩]) l := by
          simp only [passN, if_pos hw]
          rw [if_neg]
          simp only [List.length_append] at hq
          omega
        rw [e]
        rw [List.append_assoc] at h
        split at h
        · rename_i hp
          rw [if_pos hp]
          exact passN_pre _ p n m _ _ _ h (by omega)
        · rename_i hp
          rw [if_neg hp]
          exact passN_pre _ p n m _ _ _ h (by omega)
    · rename_i hw
      simp only [Option.some.injEq, Prod.mk.injEq] at h
      obtain ⟨rfl, rfl, rfl⟩ := h
      exact ⟨off, by simp only [passN, if_neg hw], rfl⟩
theorem clockPasses (c : Clock) (ticks : Int) : taskmilllaw_ClockPasses c ticks = some true := by
  unfold taskmilllaw_ClockPasses
  rw [begun, Option.bind_some]
  simp only [Bool.not_true, cond_false]
  by_cases h7 : (700 : Int) < ((c.List.length : Nat) : Int)
  · rw [decide_eq_true h7]; rfl
  rw [decide_eq_false h7, cond_false, own_eq c (by omega), Option.bind_some]
  have hp := pass_eq c ticks
  have hp' : clock_Pass (Clock.mk c.Now c.Next c.List) ticks = some (if (clockF c).Code ≠ 0 then (0, 0, clockF c, [], []) else passR c ticks) := hp
  simp only [hp', Option.bind_some, fault_eq]
  have bad : ∀ w : Fault, w.Code ≠ 0 → ∀ d q, taskmilllaw_ClockPasses_j3 0 0 [] w [] w d q = some true := fun w hw d q => by
    have e : (w.Code != 0) = true := by simpa using hw
    unfold taskmilllaw_ClockPasses_j3
    rw [same_fault, cond_false, e, cond_true]
    simp [same_eq, taskmilllaw_ClockPasses_j1]
  by_cases hc : (clockF c).Code = 0
  · have h := (clock_code c).1 hc
    have e0 : ((clockF c).Code == 0) = true := by simp [hc]
    rw [if_neg (by simpa using hc), e0, Bool.true_and]
    unfold passR
    by_cases h1 : ticks < 0 ∨ 1000000000 < ticks
    · have : ((decide (ticks < 0)) || (decide ((1000000000 : Int) < ticks))) = true := by simp only [Bool.or_eq_true, decide_eq_true_eq]; exact h1
      rw [if_pos h1, this]
      exact bad ⟨3, -1⟩ (by simp) ⟨0, 0, []⟩ []
    · have : ((decide (ticks < 0)) || (decide ((1000000000 : Int) < ticks))) = false := by simp only [Bool.or_eq_false_iff, decide_eq_false_iff_not]; omega
      rw [if_neg h1, this, cond_false]
      obtain ⟨d, hd⟩ := passed_eq h ticks (by omega) (by omega)
      unfold taskmilllaw_ClockPasses_j5
      rw [e0, cond_true, hd, Option.bind_some]
      by_cases h2 : 1000000000 < c.Now + ticks
      · rw [if_pos h2, if_pos h2]
        exact bad ⟨9, 0⟩ (by simp) d []
      · rw [if_neg h2, if_neg h2]
        cases hN : passN (c.Now + ticks) 5002 c.Next [] c.List with
        | none => exact bad ⟨9, 0⟩ (by simp) d []
        | some p =>
          obtain ⟨nx, o, r⟩ := p
          have ho := passN_len _ _ _ _ _ hN (by simp)
          simp only [Bool.not_true, cond_false]
          unfold taskmilllaw_ClockPasses_j4 taskmilllaw_ClockPasses_j3
          rw [clock_ok h]
          have hr : r.length ≤ 2000000 := by
            have := (passN_ok c.Now _ (by omega) 5002 _ _ _ hN h.l h.nxt0 h.nxt1 h.now0).2.2.2.1
            omega
          simp only [show (!(((0 : Int) == 0) && (((0 : Int) == 0) && true))) = false from rfl, cond_false, show ((0 : Int) != 0) = false from rfl, same_eq ⟨c.Now + ticks, nx, r⟩ ⟨c.Now + ticks, nx, r⟩ hr, decide_true, Option.bind_some, cond_true, off_eq o o (by omega), taskmilllaw_ClockPasses_j2]
  · have e0 : ((clockF c).Code == 0) = false := by simpa using hc
    rw [if_pos hc, e0, Bool.false_and, cond_false]
    unfold taskmilllaw_ClockPasses_j5
    rw [e0, cond_false]
    exact bad _ hc ⟨0, 0, []⟩ []
end Go.Proofs.Ytfgedphhlilpgaa
end
