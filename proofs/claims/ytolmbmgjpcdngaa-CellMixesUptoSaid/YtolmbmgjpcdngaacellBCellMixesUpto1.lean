/-
  Lemmas, put together: QA, QB, QC, cellP, cellP2, cellP3, cellP4, cellP5.
  No conditions.
-/
import Derived.Test.YtolmbmgjpcdngaacellA3
import Derived.Test.YtolmbmgjpcdngaacellG
set_option linter.unusedSimpArgs false
set_option linter.unusedVariables false
section
namespace Go.Sx
open Go
set_option linter.unusedVariables false
theorem wrap_id {x : Int} (h1 : -9223372036854775808 ≤ x) (h2 : x ≤ 9223372036854775807) : IntKind.i64.wrap x = x := by
  simp only [IntKind.wrap, IntKind.bits, IntKind.signed, if_true]
  simp
  omega
theorem wf64 {x : Int} (h : (Lit.int .i64 x).wf = true) : -9223372036854775808 ≤ x ∧ x ≤ 9223372036854775807 := by
  simpa [Lit.wf, IntKind.min, IntKind.max, IntKind.signed, IntKind.bits] using h
theorem wrap_n1 (i : Nat) (h : i < 4611686018427387904) : IntKind.i64.wrap ((i : Int) + 1) = ((i + 1 : Nat) : Int) := by
  rw [wrap_id (by omega) (by omega)]; rfl
/-- A loop that ends. -/
theorem loopO_inv {S ρ : Type} {step : S → Option (S ⊕ ρ)} (I : S → Prop) (mu : S → Nat) (Post : ρ → Prop)
    (hs : ∀ s, I s → (∃ s', step s = some (.inl s') ∧ I s' ∧ mu s' < mu s) ∨ (∃ r, step s = some (.inr r) ∧ Post r)) {s0 : S} (h0 : I s0) : ∃ r, loopO step s0 = some r ∧ Post r := by
  have gen : ∀ (n : Nat) (s : S), mu s ≤ n → I s → ∃ r, loopO step s = some r ∧ Post r := by
    intro n
    induction n with
    | zero =>
      intro s hm hi
      rcases hs s hi with ⟨s', _, _, h3⟩ | ⟨r, h1, h2⟩
      · omega
      · exact ⟨r, loopO_inr h1, h2⟩
    | succ n ih =>
      intro s hm hi
      rcases hs s hi with ⟨s', h1, h2, h3⟩ | ⟨r, h1, h2⟩
      · rw [loopO_inl h1]; exact ih s' (by omega) h2
      · exact ⟨r, loopO_inr h1, h2⟩
  exact gen _ s0 (Nat.le_refl _) h0
/-- A loop, and what comes of it from each state on. -/
theorem loopO_eqv {S ρ : Type} {step : S → Option (S ⊕ ρ)} (F : S → Option ρ) (I : S → Prop) (mu : S → Nat)
    (hs : ∀ s, I s → (∃ s', step s = some (.inl s') ∧ I s' ∧ mu s' < mu s ∧ F s = F s') ∨ step s = (F s).map .inr) {s0 : S} (h0 : I s0) : loopO step s0 = F s0 := by
  have gen : ∀ (n : Nat) (s : S), mu s ≤ n → I s → loopO step s = F s := by
    intro n
    induction n with
    | zero =>
      intro s hm hi
      rcases hs s hi with ⟨s', _, _, h3, _⟩ | h1
      · omega
      · exact loopO_out h1
    | succ n ih =>
      intro s hm hi
      rcases hs s hi with ⟨s', h1, h2, h3, h4⟩ | h1
      · rw [loopO_inl h1, h4]; exact ih s' (by omega) h2
      · exact loopO_out h1
  exact gen _ s0 (Nat.le_refl _) h0
/-- What the first place tells at which something is told. -/
def firstAt {β : Type} (bad : Nat → Option β) : Nat → Option β
  | 0 => none
  | n + 1 => (firstAt bad n).or (bad n)
theorem firstAt_congr {β : Type} {f g : Nat → Option β} : ∀ (n : Nat), (∀ i, i < n → f i = g i) → firstAt f n = firstAt g n
  | 0, _ => rfl
  | n + 1, h => by simp only [firstAt]; rw [firstAt_congr n fun i hi => h i (by omega), h n (by omega)]
theorem firstAt_none {β : Type} {f : Nat → Option β} : ∀ (n : Nat), firstAt f n = none ↔ ∀ i, i < n → f i = none
  | 0 => by simp [firstAt]
  | n + 1 => by
    simp only [firstAt, Option.or_eq_none_iff, firstAt_none n]
    constructor
    · rintro ⟨h1, h2⟩ i hi
      by_cases h : i = n
      · subst h; exact h2
      · exact h1 i (by omega)
    · exact fun h => ⟨fun i hi => h i (by omega), h n (by omega)⟩
theorem firstAt_some {β : Type} {f : Nat → Option β} {b : β} : ∀ (n : Nat), firstAt f n = some b → ∃ i, i < n ∧ f i = some b ∧ ∀ j, j < i → f j = none
  | 0, h => by simp [firstAt] at h
  | n + 1, h => by
    simp only [firstAt] at h
    cases hf : firstAt f n with
    | some c =>
      rw [hf] at h
      obtain ⟨i, h1, h2, h3⟩ := firstAt_some n hf
      simp only [Option.some_or] at h
      exact ⟨i, by omega, by rw [h2, h], h3⟩
    | none =>
      rw [hf] at h
      simp only [Option.none_or] at h
      exact ⟨n, by omega, h, fun j hj => (firstAt_none n).1 hf j hj⟩
theorem firstAt_at {β : Type} {f : Nat → Option β} {b : β} {n i : Nat} (hi : i < n) (h : f i = some b) (hj : ∀ j, j < i → f j = none) : firstAt f n = some b := by
  cases hf : firstAt f n with
  | none => rw [(firstAt_none n).1 hf i hi] at h; cases h
  | some c =>
    obtain ⟨k, h1, h2, h3⟩ := firstAt_some n hf
    by_cases hki : k < i
    · rw [hj k hki] at h2; cases h2
    · by_cases hik : i < k
      · rw [h3 i hik] at h; cases h
      · have : k = i := by omega
        subst this; rw [h] at h2; exact h2.symm
/-- A loop whose state is known at each place: it stops at the first place at which something is told. -/
theorem loopO_find {S ρ : Type} {step : S → Option (S ⊕ ρ)} (E : Nat → S) (bad : Nat → Option ρ) (rest : Option ρ) (n : Nat)
    (h1 : ∀ i, i < n → bad i = none → step (E i) = some (.inl (E (i + 1)))) (h2 : ∀ i r, i < n → bad i = some r → step (E i) = some (.inr r)) (h3 : (∀ i, i < n → bad i = none) → step (E n) = rest.map .inr) :
    loopO step (E 0) = match firstAt bad n with
      | some r => some r
      | none => rest := by
  have walk : ∀ k, k ≤ n → (∀ i, i < k → bad i = none) → loopO step (E 0) = loopO step (E k) := by
    intro k
    induction k with
    | zero => exact fun _ _ => rfl
    | succ k ih =>
      intro hk hb
      rw [ih (by omega) fun i hi => hb i (by omega), loopO_inl (h1 k (by omega) (hb k (by omega)))]
  cases hf : firstAt bad n with
  | none =>
    have hb := (firstAt_none n).1 hf
    rw [walk n (Nat.le_refl _) hb, loopO_out (h3 hb)]
  | some r =>
    obtain ⟨i, g1, g2, g3⟩ := firstAt_some n hf
    rw [walk i (by omega) g3, loopO_inr (h2 i r g1 g2)]
/-- .. and something is told at the end. -/
theorem loopO_findD {S ρ : Type} {step : S → Option (S ⊕ ρ)} (E : Nat → S) (bad : Nat → Option ρ) (d : ρ) (n : Nat)
    (h1 : ∀ i, i < n → bad i = none → step (E i) = some (.inl (E (i + 1)))) (h2 : ∀ i r, i < n → bad i = some r → step (E i) = some (.inr r)) (h3 : (∀ i, i < n → bad i = none) → step (E n) = some (.inr d)) :
    loopO step (E 0) = some ((firstAt bad n).getD d) := by
  rw [loopO_find E bad (some d) n h1 h2 (fun h => by rw [h3 h]; rfl)]
  cases firstAt bad n <;> rfl
/-- .. what is told is asked for ahead of the next step. -/
theorem loopO_find2 {S ρ β : Type} {step : S → Option (S ⊕ ρ)} (E : Nat → S) (T : Nat → β → S) (bad : Nat → Option β) (rest : Option β → Option ρ) (n : Nat)
    (h1 : ∀ i, i < n → bad i = none → step (E i) = some (.inl (E (i + 1)))) (h2 : ∀ i x, i < n → bad i = some x → step (E i) = some (.inl (T i x))) (h3 : ∀ i x, i < n → bad i = some x → step (T i x) = (rest (some x)).map .inr) (h4 : (∀ i, i < n → bad i = none) → step (E n) = (rest none).map .inr) :
    loopO step (E 0) = rest (firstAt bad n) := by
  have walk : ∀ k, k ≤ n → (∀ i, i < k → bad i = none) → loopO step (E 0) = loopO step (E k) := by
    intro k
    induction k with
    | zero => exact fun _ _ => rfl
    | succ k ih =>
      intro hk hb
      rw [ih (by omega) fun i hi => hb i (by omega), loopO_inl (h1 k (by omega) (hb k (by omega)))]
  cases hf : firstAt bad n with
  | none =>
    have hb := (firstAt_none n).1 hf
    rw [walk n (Nat.le_refl _) hb, loopO_out (h4 hb)]
  | some x =>
    obtain ⟨i, g1, g2, g3⟩ := firstAt_some n hf
    rw [walk i (by omega) g3, loopO_inl (h2 i x g1 g2), loopO_out (h3 i x g1 g2)]
/-- A loop that goes through all places. -/
theorem loopO_all {S ρ : Type} {step : S → Option (S ⊕ ρ)} (E : Nat → S) (rest : Option ρ) (n : Nat)
    (h1 : ∀ i, i < n → step (E i) = some (.inl (E (i + 1)))) (h3 : step (E n) = rest.map .inr) : loopO step (E 0) = rest := by
  have := loopO_find E (fun _ => none) rest n (fun i hi _ => h1 i hi) (fun i r _ h => by cases h) (fun _ => h3)
  rw [this, (firstAt_none n).2 fun _ _ => rfl]
theorem ix_get {α : Type} [Enc α] {xs : List α} {i : Nat} (h : i < xs.length) : ix xs ((i : Nat) : Int) = xs[i] := by
  simp [ix, List.getD_eq_getElem?_getD, h]
theorem cut_take {α : Type} (xs : List α) (i : Nat) : cut xs 0 ((i : Nat) : Int) = xs.take i := by simp [cut]
theorem cut_drop {α : Type} (xs : List α) (i : Nat) : cut xs ((i : Nat) : Int) ((xs.length : Nat) : Int) = xs.drop i := by
  simp only [cut, Int.toNat_natCast]
  rw [List.take_of_length_le]; simp
theorem cut_take' {α : Type} (xs : List α) {n : Int} {i : Nat} (h : n = (i : Int)) : cut xs 0 n = xs.take i := by subst h; exact cut_take xs i
theorem cut_drop' {α : Type} (xs : List α) {n : Int} {i : Nat} (h : n = (i : Int)) : cut xs n ((xs.length : Nat) : Int) = xs.drop i := by subst h; exact cut_drop xs i
/-- Lists of as many numbers are the same, or differ at a place. -/
theorem list_eq_iff {α : Type} {a b : List α} (h : a.length = b.length) : a = b ↔ ∀ i (h1 : i < a.length) (h2 : i < b.length), a[i] = b[i] :=
  ⟨fun e => by subst e; exact fun _ _ _ => rfl, fun g => List.ext_getElem h g⟩
/-! ### Maps that tell who is there -/
theorem miGet_set (m : List (Int × Int)) (a v k : Int) : miGet (miSet m a v) k = if k = a then v else miGet m k := by
  induction m with
  | nil =>
    by_cases h : k = a
    · subst h; simp [miSet, miGet]
    · simp [miSet, miGet, h]
  | cons p r ih =>
    simp only [miSet]
    cases ha : (a == p.1) with
    | true =>
      have : a = p.1 := by simpa using ha
      subst this
      by_cases h : k = p.1
      · subst h; simp [miGet]
      · simp [miGet, h]
    | false =>
      have hap : a ≠ p.1 := by simpa using ha
      simp only [cond_false]
      by_cases h : k = p.1
      · subst h
        rw [if_neg (fun e => hap e.symm)]
        simp [miGet]
      · have e : ∀ (m : List (Int × Int)), miGet (p :: m) k = miGet m k := fun m => by
          simp [miGet, List.find?_cons, show (k == p.1) = false from by simpa using h]
        rw [e, e, ih]
def setAll (m : List (Int × Int)) (l : List Int) : List (Int × Int) := l.foldl (fun m x => miSet m x 1) m
theorem miGet_setAll (l : List Int) : ∀ (m : List (Int × Int)) (k : Int), miGet (setAll m l) k = if k ∈ l then 1 else miGet m k := by
  induction l with
  | nil => intro m k; simp [setAll]
  | cons a l ih =>
    intro m k
    show miGet (setAll (miSet m a 1) l) k = _
    rw [ih, miGet_set]
    by_cases h1 : k ∈ l
    · simp [h1]
    · by_cases h2 : k = a
      · subst h2; simp
      · simp [h1, h2]
theorem setAll_snoc (m : List (Int × Int)) (l : List Int) (i : Nat) (h : i < l.length) : setAll m (l.take (i + 1)) = miSet (setAll m (l.take i)) l[i] 1 := by
  rw [setAll, List.take_succ_eq_append_getElem h, List.foldl_append]; rfl
theorem miGet_nil (k : Int) : miGet [] k = 0 := rfl
/-! ### Functions that many seats have -/
/-- Are two lists of as many numbers the same? -/
theorem ints_gen {step : Int → Option (Int ⊕ Bool)} (a b : List Int) (hl : a.length = b.length) (hn : a.length < 4611686018427387904)
    (h : ∀ i, step i = (bif (decide (i < ((a.length : Nat) : Int))) then (bif ((decide ((0 : Int) ≤ i)) && (decide (i < ((a.length : Nat) : Int)))) then (bif ((decide ((0 : Int) ≤ i)) && (decide (i < ((b.length : Nat) : Int)))) then (bif ((ix a i) != (ix b i)) then (Option.map Sum.inr (some (false))) else (some (Sum.inl ((IntKind.i64.wrap (i + 1)))))) else none) else none) else (Option.map Sum.inr (some (true))))) :
    loopO step 0 = some (decide (a = b)) := by
  have := loopO_find (step := step) (fun i => ((i : Nat) : Int)) (fun i => if a[i]? = b[i]? then none else some false) (some true) a.length (fun i hi hb => ?_) (fun i r hi hb => ?_) (fun _ => ?_)
  · rw [show ((0 : Nat) : Int) = 0 from rfl] at this
    rw [this]
    cases hf : firstAt (fun i => if a[i]? = b[i]? then none else some false) a.length with
    | none =>
      have := (firstAt_none _).1 hf
      have e : a = b := (list_eq_iff hl).2 fun i h1 h2 => by
        have := this i h1
        simpa [h1, h2] using this
      simp [e]
    | some r =>
      obtain ⟨i, h1, h2, _⟩ := firstAt_some _ hf
      have : a ≠ b := fun e => by subst e; simp at h2
      split at h2
      · cases h2
      · cases h2; simp [this]
  · rw [h]
    have hi2 : i < b.length := by omega
    have e : a[i] = b[i] := by simpa [hi, hi2] using hb
    simp [hi, hi2, ix_get hi, ix_get hi2, e, wrap_n1 i (by omega), Bool.cond_eq_ite]
  · rw [h]
    have hi2 : i < b.length := by omega
    have e : ¬ a[i] = b[i] ∧ false = r := by simpa [hi, hi2] using hb
    simp [hi, hi2, ix_get hi, ix_get hi2, e.1, ← e.2, Bool.cond_eq_ite]
  · rw [h]; simp
/-- Is a number in a list? -/
theorem has_gen {step : Int → Option (Int ⊕ Bool)} (l : List Int) (n : Int) (hn : l.length < 4611686018427387904)
    (h : ∀ i, step i = (bif (decide (i < ((l.length : Nat) : Int))) then (bif ((decide ((0 : Int) ≤ i)) && (decide (i < ((l.length : Nat) : Int)))) then (bif ((ix l i) == n) then (Option.map Sum.inr (some (true))) else (some (Sum.inl ((IntKind.i64.wrap (i + 1)))))) else none) else (Option.map Sum.inr (some (false))))) :
    loopO step 0 = some (decide (n ∈ l)) := by
  have := loopO_find (step := step) (fun i => ((i : Nat) : Int)) (fun i => if l[i]? = some n then some true else none) (some false) l.length (fun i hi hb => ?_) (fun i r hi hb => ?_) (fun _ => ?_)
  · rw [show ((0 : Nat) : Int) = 0 from rfl] at this
    rw [this]
    cases hf : firstAt (fun i => if l[i]? = some n then some true else none) l.length with
    | none =>
      have := (firstAt_none _).1 hf
      have e : n ∉ l := fun hm => by
        obtain ⟨i, hi, e⟩ := List.getElem_of_mem hm
        have := this i hi
        simp [hi, e] at this
      simp [e]
    | some r =>
      obtain ⟨i, h1, h2, _⟩ := firstAt_some _ hf
      split at h2
      · rename_i he
        cases h2
        have : n ∈ l := List.mem_of_getElem? he
        simp [this]
      · cases h2
  · rw [h]
    have e : ¬ l[i] = n := by simpa [hi] using hb
    simp [hi, ix_get hi, e, wrap_n1 i (by omega), Bool.cond_eq_ite]
  · rw [h]
    have e : l[i] = n ∧ true = r := by simpa [hi] using hb
    simp [hi, ix_get hi, e.1, ← e.2, Bool.cond_eq_ite]
  · rw [h]; simp
/-- The place of a number in a list. -/
theorem index_gen {step : Int → Option (Int ⊕ Int)} (l : List Int) (n : Int) (hn : l.length < 4611686018427387904)
    (h : ∀ i, step i = (bif (decide (i < ((l.length : Nat) : Int))) then (bif ((decide ((0 : Int) ≤ i)) && (decide (i < ((l.length : Nat) : Int)))) then (bif (n == (ix l i)) then (Option.map Sum.inr (some (i))) else (some (Sum.inl ((IntKind.i64.wrap (i + 1)))))) else none) else (Option.map Sum.inr (some ((-1)))))) :
    ∃ r, loopO step 0 = some r ∧ (n ∈ l → ∃ i : Nat, r = i ∧ l[i]? = some n ∧ ∀ j < i, l[j]? ≠ some n) ∧ (n ∉ l → r = -1) := by
  have := loopO_find (step := step) (fun i => ((i : Nat) : Int)) (fun i => if l[i]? = some n then some (i : Int) else none) (some (-1)) l.length (fun i hi hb => ?_) (fun i r hi hb => ?_) (fun _ => ?_)
  · rw [show ((0 : Nat) : Int) = 0 from rfl] at this
    rw [this]
    cases hf : firstAt (fun i => if l[i]? = some n then some (i : Int) else none) l.length with
    | none =>
      have := (firstAt_none _).1 hf
      have e : n ∉ l := fun hm => by
        obtain ⟨i, hi, e⟩ := List.getElem_of_mem hm
        have := this i hi
        simp [hi, e] at this
      exact ⟨_, rfl, fun h => absurd h e, fun _ => rfl⟩
    | some r =>
      obtain ⟨i, h1, h2, h3⟩ := firstAt_some _ hf
      split at h2
      · rename_i he
        cases h2
        have hm : n ∈ l := List.mem_of_getElem? he
        refine ⟨_, rfl, fun _ => ⟨i, rfl, he, fun j hj hh => ?_⟩, fun h => absurd hm h⟩
        have := h3 j hj
        simp [hh] at this
      · cases h2
  · rw [h]
    have e : ¬ l[i] = n := by simpa [hi] using hb
    have e' : ¬ n = l[i] := fun h => e h.symm
    simp [hi, ix_get hi, e', wrap_n1 i (by omega), Bool.cond_eq_ite]
  · rw [h]
    have e : l[i] = n ∧ (i : Int) = r := by simpa [hi] using hb
    simp [hi, ix_get hi, e.1, ← e.2, Bool.cond_eq_ite]
  · rw [h]; simp
/-- The first place at which a test holds. -/
def firstIf (p : Nat → Bool) (n : Nat) : Option Nat := firstAt (fun i => bif p i then some i else none) n
theorem firstIf_none {p : Nat → Bool} {n : Nat} : firstIf p n = none ↔ ∀ i, i < n → p i = false := by
  unfold firstIf
  rw [firstAt_none]
  constructor
  · intro h i hi
    have := h i hi
    cases hp : p i with
    | false => rfl
    | true => rw [hp] at this; cases this
  · intro h i hi
    rw [h i hi]; rfl
theorem firstIf_some {p : Nat → Bool} {n i : Nat} (h : firstIf p n = some i) : i < n ∧ p i = true ∧ ∀ j, j < i → p j = false := by
  obtain ⟨k, h1, h2, h3⟩ := firstAt_some _ h
  cases hp : p k with
  | false => rw [hp] at h2; cases h2
  | true =>
    rw [hp] at h2; cases h2
    refine ⟨h1, hp, fun j hj => ?_⟩
    have := h3 j hj
    cases hq : p j with
    | false => rfl
    | true => rw [hq] at this; cases this
theorem firstIf_congr {p q : Nat → Bool} (n : Nat) (h : ∀ i, i < n → p i = q i) : firstIf p n = firstIf q n :=
  firstAt_congr n fun i hi => by rw [h i hi]
theorem loopO_if {S ρ : Type} {step : S → Option (S ⊕ ρ)} (E : Nat → S) (p : Nat → Bool) (R : Nat → Option ρ) (rest : Option ρ) (n : Nat)
    (h1 : ∀ i, i < n → p i = false → step (E i) = some (.inl (E (i + 1)))) (h2 : ∀ i, i < n → p i = true → step (E i) = (R i).map .inr) (h3 : (∀ i, i < n → p i = false) → step (E n) = rest.map .inr) :
    loopO step (E 0) = match firstIf p n with
      | some i => R i
      | none => rest := by
  have walk : ∀ k, k ≤ n → (∀ i, i < k → p i = false) → loopO step (E 0) = loopO step (E k) := by
    intro k
    induction k with
    | zero => exact fun _ _ => rfl
    | succ k ih =>
      intro hk hb
      rw [ih (by omega) fun i hi => hb i (by omega), loopO_inl (h1 k (by omega) (hb k (by omega)))]
  cases hf : firstIf p n with
  | none =>
    have hb := firstIf_none.1 hf
    rw [walk n (Nat.le_refl _) hb, loopO_out (h3 hb)]
  | some i =>
    obtain ⟨g1, g2, g3⟩ := firstIf_some hf
    rw [walk i (by omega) g3, loopO_out (h2 i g1 g2)]
/-- .. where the test sets what is asked for ahead of the next step. -/
theorem loopO_if2 {S ρ : Type} {step : S → Option (S ⊕ ρ)} (E : Nat → S) (T : Nat → S) (p : Nat → Bool) (R : Nat → Option ρ) (rest : Option ρ) (n : Nat)
    (h1 : ∀ i, i < n → p i = false → step (E i) = some (.inl (E (i + 1)))) (h2 : ∀ i, i < n → p i = true → step (E i) = some (.inl (T i))) (h2' : ∀ i, i < n → firstIf p n = some i → step (T i) = (R i).map .inr) (h3 : (∀ i, i < n → p i = false) → step (E n) = rest.map .inr) :
    loopO step (E 0) = match firstIf p n with
      | some i => R i
      | none => rest := by
  have walk : ∀ k, k ≤ n → (∀ i, i < k → p i = false) → loopO step (E 0) = loopO step (E k) := by
    intro k
    induction k with
    | zero => exact fun _ _ => rfl
    | succ k ih =>
      intro hk hb
      rw [ih (by omega) fun i hi => hb i (by omega), loopO_inl (h1 k (by omega) (hb k (by omega)))]
  cases hf : firstIf p n with
  | none =>
    have hb := firstIf_none.1 hf
    rw [walk n (Nat.le_refl _) hb, loopO_out (h3 hb)]
  | some i =>
    obtain ⟨g1, g2, g3⟩ := firstIf_some hf
    rw [walk i (by omega) g3, loopO_inl (h2 i g1 g2), loopO_out (h2' i g1 hf)]
end Go.Sx
end

section
namespace Go.Sx
variable {α : Type}
def delAt (l : List α) (i j : Nat) : List α := l.take i ++ l.drop j
/-- slices.Delete. -/
theorem del_lists [Inhabited α] (l : List α) (i j : Nat) (hi : i ≤ j) (hj : j ≤ l.length) (a : Int) (ha : a = ((i + (l.length - j) : Nat) : Int)) :
    cut (wipe (putL l (cut l (j : Int) ((l.length : Nat) : Int)) ((i : Int)).toNat) a ((l.length : Nat) : Int)) 0 ((i : Int) + (((cut l (j : Int) ((l.length : Nat) : Int)).length : Nat) : Int)) = delAt l i j := by
  subst ha
  rw [cut_drop]
  have e : ((i : Int) + (((l.drop j).length : Nat) : Int)) = ((i + (l.length - j) : Nat) : Int) := by simp
  rw [e, cut_take, wipe, putL]
  simp only [Int.toNat_natCast]
  rw [List.append_assoc, List.take_append_of_le_length (by simp [putL]; omega), List.take_of_length_le (by simp; omega)]
  unfold putL delAt
  rw [List.take_append_of_le_length (by simp; omega), List.take_of_length_le (by simp; omega)]
theorem delAt_len (l : List α) (i j : Nat) (hi : i ≤ j) (hj : j ≤ l.length) : (delAt l i j).length = l.length - (j - i) := by simp [delAt]; omega
end Go.Sx
end

section
namespace Go.Sx
def toldOr {S ρ : Type} (o : Option ρ) (s : S) : Option (S ⊕ ρ) := match o with
  | some r => some (.inr r)
  | none => some (.inl s)
@[simp] theorem toldOr_some {S ρ : Type} (r : ρ) (s : S) : toldOr (some r) s = some (.inr r) := rfl
@[simp] theorem toldOr_none {S ρ : Type} (s : S) : toldOr (none : Option ρ) s = some (.inl s) := rfl
/-- As 'loopO_findD'; at each place all ahead of it is known. -/
theorem loopO_findP {S ρ : Type} {step : S → Option (S ⊕ ρ)} (E : Nat → S) (bad : Nat → Option ρ) (d : ρ) (n : Nat)
    (h1 : ∀ i, i < n → (∀ j, j < i → bad j = none) → step (E i) = toldOr (bad i) (E (i + 1)))
    (h3 : (∀ i, i < n → bad i = none) → step (E n) = some (.inr d)) : loopO step (E 0) = some ((firstAt bad n).getD d) := by
  have walk : ∀ k, k ≤ n → (∀ i, i < k → bad i = none) → loopO step (E 0) = loopO step (E k) := by
    intro k
    induction k with
    | zero => exact fun _ _ => rfl
    | succ k ih =>
      intro hk hb
      have := h1 k (by omega) fun i hi => hb i (by omega)
      rw [hb k (by omega), toldOr_none] at this
      rw [ih (by omega) fun i hi => hb i (by omega), loopO_inl this]
  cases hf : firstAt bad n with
  | none =>
    have hb := (firstAt_none n).1 hf
    rw [walk n (Nat.le_refl _) hb, loopO_inr (h3 hb)]; rfl
  | some r =>
    obtain ⟨i, g1, g2, g3⟩ := firstAt_some n hf
    have := h1 i g1 g3
    rw [g2, toldOr_some] at this
    rw [walk i (by omega) g3, loopO_inr this]; rfl
theorem nodup_snoc {α : Type} {l : List α} {x : α} : (l ++ [x]).Nodup ↔ l.Nodup ∧ x ∉ l := by
  rw [List.nodup_append]
  constructor
  · rintro ⟨h1, _, h3⟩
    exact ⟨h1, fun h => h3 x h x (by simp) rfl⟩
  · rintro ⟨h1, h2⟩
    exact ⟨h1, by simp, fun a ha b hb e => by simp at hb; subst hb; subst e; exact h2 ha⟩
theorem nodup_grow {α : Type} (had ts : List α) (h0 : had.Nodup) : (had ++ ts).Nodup ↔ ∀ k (h : k < ts.length), ts[k] ∉ had ++ ts.take k := by
  have hs : ∀ k (h : k < ts.length), had ++ ts.take (k + 1) = had ++ ts.take k ++ [ts[k]] := fun k h => by
    rw [List.take_succ_eq_append_getElem h, List.append_assoc]
  constructor
  · intro h k hk
    have : (had ++ ts.take (k + 1)).Nodup := (List.Sublist.append (List.Sublist.refl had) (List.take_sublist (k + 1) ts)).nodup h
    rw [hs k hk, nodup_snoc] at this
    exact this.2
  · intro h
    have gen : ∀ k, k ≤ ts.length → (had ++ ts.take k).Nodup := by
      intro k
      induction k with
      | zero => simpa using h0
      | succ k ih =>
        intro hk
        rw [hs k (by omega), nodup_snoc]
        exact ⟨ih (by omega), h k (by omega)⟩
    have := gen ts.length (Nat.le_refl _)
    rwa [List.take_length] at this
/-- What holds of neighbours holds of all. -/
theorem pairwise_next {α : Type} (R : α → α → Prop) (ht : ∀ a b c, R a b → R b c → R a c) (l : List α) : l.Pairwise R ↔ ∀ i (h : i + 1 < l.length), R l[i] l[i + 1] := by
  rw [List.pairwise_iff_getElem]
  constructor
  · exact fun h i hi => h i (i + 1) (by omega) hi (by omega)
  · intro h i j hi hj hij
    have gen : ∀ d (hd : i + d + 1 < l.length), R l[i] l[i + d + 1] := by
      intro d
      induction d with
      | zero => exact fun hd => h i hd
      | succ d ih =>
        intro hd
        exact ht _ _ _ (ih (by omega)) (h (i + d + 1) hd)
    have := gen (j - i - 1) (by omega)
    have e : i + (j - i - 1) + 1 = j := by omega
    simpa only [e] using this
/-- A loop that counts up, and what comes of it from each place on. -/
theorem loopO_up {A S ρ : Type} {step : S → Option (S ⊕ ρ)} (n : Nat) (E : Nat → A → S) (I : Nat → A → Prop) (F : Nat → A → Option ρ)
    (hend : ∀ a, I n a → step (E n a) = (F n a).map .inr)
    (hstep : ∀ i a, i < n → I i a → (∃ a', step (E i a) = some (.inl (E (i + 1) a')) ∧ I (i + 1) a' ∧ F i a = F (i + 1) a') ∨ step (E i a) = (F i a).map .inr)
    (a0 : A) (h0 : I 0 a0) : loopO step (E 0 a0) = F 0 a0 := by
  have gen : ∀ (d i : Nat) (a : A), i + d = n → I i a → loopO step (E i a) = F i a := by
    intro d
    induction d with
    | zero => intro i a hi ha; rw [Nat.add_zero] at hi; subst hi; exact loopO_out (hend a ha)
    | succ d ih =>
      intro i a hi ha
      rcases hstep i a (by omega) ha with ⟨a', h1, h2, h3⟩ | h1
      · rw [loopO_inl h1, h3]; exact ih (i + 1) a' (by omega) h2
      · exact loopO_out h1
  exact gen n 0 a0 (by omega) h0
theorem drop_at {α : Type} {l : List α} {i : Nat} (h : i < l.length) : l.drop i = l[i] :: l.drop (i + 1) := List.drop_eq_getElem_cons h
/-- The middle of a binary search. -/
theorem mid_eq (i j : Nat) (h : i + j < 4611686018427387904) : IntKind.i64.wrap (Int.fdiv (IntKind.u64.wrap (IntKind.i64.wrap ((i : Int) + (j : Int)))) (2 ^ (min ((1 : Int)).toNat (IntKind.u64).bits))) = (((i + j) / 2 : Nat) : Int) := by
  rw [wrap_id (x := (i : Int) + j) (by omega) (by omega)]
  have e : IntKind.u64.wrap ((i : Int) + j) = (i : Int) + j := by
    simp only [IntKind.wrap, IntKind.bits, IntKind.signed]
    simp
    omega
  rw [e, show (2 : Int) ^ (min ((1 : Int)).toNat (IntKind.u64).bits) = 2 from rfl, Int.fdiv_eq_ediv_of_nonneg _ (by omega)]
  rw [wrap_id (by omega) (by omega)]
  omega
theorem bs_gen {ρ : Type} {step : Int × Int → Option ((Int × Int) ⊕ ρ)} (n : Nat) (lt : Nat → Bool) (R : Nat → Option ρ) (hm : ∀ a b, a < b → b < n → lt b = true → lt a = true)
    (h1 : ∀ i j : Nat, i < j → j ≤ n → step ((i : Int), (j : Int)) = if lt ((i + j) / 2) then some (.inl ((((i + j) / 2 + 1 : Nat) : Int), (j : Int))) else some (.inl ((i : Int), (((i + j) / 2 : Nat) : Int))))
    (h2 : ∀ i : Nat, i ≤ n → (∀ k, k < i → lt k = true) → (∀ k, i ≤ k → k < n → lt k = false) → step ((i : Int), (i : Int)) = (R i).map .inr) :
    ∃ i, i ≤ n ∧ (∀ k, k < i → lt k = true) ∧ (∀ k, i ≤ k → k < n → lt k = false) ∧ loopO step (0, (n : Int)) = R i := by
  have gen : ∀ (d i j : Nat), j - i ≤ d → i ≤ j → j ≤ n → (∀ k, k < i → lt k = true) → (∀ k, j ≤ k → k < n → lt k = false) →
      ∃ q, q ≤ n ∧ (∀ k, k < q → lt k = true) ∧ (∀ k, q ≤ k → k < n → lt k = false) ∧ loopO step ((i : Int), (j : Int)) = R q := by
    intro d
    induction d with
    | zero =>
      intro i j hd hij hj ha hb
      have : i = j := by omega
      subst this
      exact ⟨i, hj, ha, hb, loopO_out (h2 i hj ha hb)⟩
    | succ d ih =>
      intro i j hd hij hj ha hb
      by_cases he : i = j
      · subst he
        exact ⟨i, hj, ha, hb, loopO_out (h2 i hj ha hb)⟩
      · have hs := h1 i j (by omega) hj
        have hmid : i ≤ (i + j) / 2 ∧ (i + j) / 2 < j := by omega
        cases hl : lt ((i + j) / 2) with
        | true =>
          rw [hl, if_pos rfl] at hs
          rw [loopO_inl hs]
          refine ih _ j (by omega) (by omega) hj (fun k hk => ?_) hb
          by_cases hk2 : k = (i + j) / 2
          · rw [hk2]; exact hl
          · exact hm k ((i + j) / 2) (by omega) (by omega) hl
        | false =>
          rw [hl, if_neg (by simp)] at hs
          rw [loopO_inl hs]
          refine ih i _ (by omega) (by omega) (by omega) ha (fun k hk hkn => ?_)
          cases hk3 : lt k with
          | false => rfl
          | true =>
            by_cases hk2 : k = (i + j) / 2
            · rw [hk2, hl] at hk3; cases hk3
            · have := hm ((i + j) / 2) k (by omega) hkn hk3
              rw [hl] at this; cases this
  exact gen n 0 n (by omega) (Nat.zero_le _) (Nat.le_refl _) (fun k hk => absurd hk (Nat.not_lt_zero k)) (fun k hk hkn => by omega)
theorem cut_wipe {α : Type} [Inhabited α] (l : List α) (i : Nat) (h : i ≤ l.length) : cut (wipe l (i : Int) ((l.length : Nat) : Int)) (0 : Int) (i : Int) = l.take i := by
  rw [cut_take, wipe, putL]
  simp only [Int.toNat_natCast]
  rw [List.append_assoc, List.take_append_of_le_length (by simp <;> omega), List.take_of_length_le (by simp <;> omega)]
/-- slices.DeleteFunc, from the first place on that goes. -/
theorem del_gen {α C : Type} [Enc α] (l : List α) (t : C) (keep : α → Bool) {step : Int × Int × List α × C → Option ((Int × Int × List α × C) ⊕ (List α × C))}
    (h1 : ∀ (i j : Nat) (c : List α), i < j → j < c.length → c.length = l.length → keep (ix c (j : Int)) = false → step ((i : Int), (j : Int), c, t) = some (.inl ((i : Int), ((j + 1 : Nat) : Int), c, t)))
    (h2 : ∀ (i j : Nat) (c : List α), i < j → j < c.length → c.length = l.length → keep (ix c (j : Int)) = true → step ((i : Int), (j : Int), c, t) = some (.inl (((i + 1 : Nat) : Int), ((j + 1 : Nat) : Int), c.set i (ix c (j : Int)), t)))
    (h3 : ∀ (i : Nat) (c : List α), i ≤ c.length → c.length = l.length → step ((i : Int), ((c.length : Nat) : Int), c, t) = some (.inr (cut (wipe c (i : Int) ((c.length : Nat) : Int)) (0 : Int) (i : Int), t)))
    (n : Nat) (hn : n < l.length) (hk : keep l[n] = false) (hk2 : ∀ x ∈ l.take n, keep x = true) : loopO step ((n : Int), ((n + 1 : Nat) : Int), l, t) = some (l.filter keep, t) := by
  have htake : (l.take (n + 1)).filter keep = l.take n := by
    rw [List.take_succ_eq_append_getElem hn, List.filter_append, List.filter_eq_self.2 hk2]
    simp [hk]
  obtain ⟨r, hr, rfl⟩ := loopO_inv (step := step) (fun s => ∃ (i j : Nat) (c : List α), s = ((i : Int), (j : Int), c, t) ∧ c.length = l.length ∧ i < j ∧ j ≤ l.length ∧ c.take i = (l.take j).filter keep ∧ c.drop j = l.drop j) (fun s => l.length - s.2.1.toNat) (fun r => r = (l.filter keep, t)) (fun s hs => by
    obtain ⟨i, j, c, rfl, hcl, hij, hjl, ht, hd⟩ := hs
    by_cases hj : j < l.length
    · left
      have hcj : ix c (j : Int) = l[j] := by
        rw [ix_get (by omega)]
        have h1 : c[j]? = l[j]? := by
          have := congrArg (fun x => x[0]?) hd
          simpa [List.getElem?_drop] using this
        rw [List.getElem?_eq_getElem (by omega), List.getElem?_eq_getElem hj] at h1
        exact Option.some.inj h1
      have hdrop : ∀ m, j < m → c.drop m = l.drop m := fun m hm => by
        have := congrArg (fun x => x.drop (m - j)) hd
        simp only [List.drop_drop] at this
        rwa [show j + (m - j) = m by omega] at this
      cases hkj : keep l[j] with
      | false =>
        refine ⟨((i : Int), ((j + 1 : Nat) : Int), c, t), h1 i j c hij (by omega) hcl (by rw [hcj]; exact hkj), ⟨i, j + 1, c, rfl, hcl, by omega, by omega, ?_, hdrop _ (by omega)⟩, by simp only [Int.toNat_natCast]; omega⟩
        rw [List.take_succ_eq_append_getElem hj, List.filter_append, ← ht]
        simp [hkj]
      | true =>
        refine ⟨(((i + 1 : Nat) : Int), ((j + 1 : Nat) : Int), c.set i (ix c (j : Int)), t), h2 i j c hij (by omega) hcl (by rw [hcj]; exact hkj), ⟨i + 1, j + 1, c.set i (ix c (j : Int)), rfl, by simpa using hcl, by omega, by omega, ?_, ?_⟩, by simp only [Int.toNat_natCast]; omega⟩
        · rw [List.take_succ_eq_append_getElem hj, List.filter_append, ← ht, List.take_succ_eq_append_getElem (by simp; omega), List.take_set_of_le (by omega), hcj]
          simp [hkj]
        · rw [List.drop_set_of_lt (by omega)]
          exact hdrop _ (by omega)
    · right
      have hjl' : j = c.length := by omega
      subst hjl'
      refine ⟨_, h3 i c (by omega) hcl, ?_⟩
      rw [cut_wipe c i (by omega), ht, hcl, List.take_length]) (s0 := ((n : Int), ((n + 1 : Nat) : Int), l, t)) ⟨n, n + 1, l, rfl, rfl, by omega, by omega, htake.symm, rfl⟩
  exact hr
end Go.Sx
end

section
namespace Go.Proofs.Ytolmbmgjpcdngaa
open Go Go.Sx
theorem clone_eq (s : List Int) (h : s.length ≤ 10000000) : slices_Clone_int s = some s := by
  have : s.length * 8 ≤ 140737488355328 := by omega
  simp [slices_Clone_int, this]
theorem own_eq (s : List Int) (h : s.length ≤ 10000000) : taskmilllaw_own s = some s := by
  have : s.length * 8 ≤ 140737488355328 := by omega
  simp [taskmilllaw_own, this]
theorem ownOps_eq (s : List GOp) (h : s.length ≤ 4000000) : taskmilllaw_ownOps s = some s := by
  have : s.length * 32 ≤ 140737488355328 := by omega
  simp [taskmilllaw_ownOps, this]
theorem ints_eq (a b : List Int) (hn : a.length < 4611686018427387904) : taskmillref_Ints a b = some (decide (a = b)) := by
  unfold taskmillref_Ints
  by_cases hl : a.length = b.length
  · have := ints_gen a b hl hn (fun i => rfl : ∀ i, taskmillref_Ints_l1 a b i = _)
    simp [hl] at this ⊢
    exact this
  · have : a ≠ b := fun e => hl (by rw [e])
    have h2 : ((a.length : Int) != (b.length : Int)) = true := by simp; omega
    simp [h2, this]
@[simp] theorem F_eq (c a : Int) : taskmillref_F c a = some ⟨c, a⟩ := rfl
@[simp] theorem fault_eq (c a : Int) : cell_fault c a = some ⟨c, a⟩ := rfl
theorem beq_f {a b : Int} (h : ¬ a = b) : (a == b) = false := by simpa using h
theorem bne_t {a b : Int} (h : ¬ a = b) : (a != b) = true := by simpa using h
/-! ### What is wrong with ops -/
def opCode (n : Int) (o : GOp) : Int :=
  if o.Kind < 1 ∨ 5 < o.Kind then 4 else if (o.Kind = 1 ∧ o.A ≠ 0) ∨ (o.Kind ≠ 5 ∧ o.B ≠ 0) then 5 else if o.At < 0 ∨ n ≤ o.At then 3 else 0
theorem one_eq (o : GOp) (n : Int) : cell_one o n = some (opCode n o) := by
  unfold cell_one cell_one_j2 cell_one_j1 opCode
  have e1 : (bif (decide (o.At < 0) || decide (n ≤ o.At)) then some (3 : Int) else some 0) = some (if o.At < 0 ∨ n ≤ o.At then 3 else 0) := by
    by_cases h1 : o.At < 0 <;> by_cases h2 : n ≤ o.At <;> simp [h1, h2]
  rw [e1]
  generalize (if o.At < 0 ∨ n ≤ o.At then (3 : Int) else 0) = z
  have bn : ∀ x : Int, (x != 0) = !decide (x = 0) := fun x => rfl
  by_cases k1 : o.Kind = 1
  · rw [k1]; by_cases ha : o.A = 0 <;> by_cases hb : o.B = 0 <;> simp [ha, hb, bn]
  by_cases k2 : o.Kind = 2
  · rw [k2]; by_cases hb : o.B = 0 <;> simp [hb, bn]
  by_cases k3 : o.Kind = 3
  · rw [k3]; by_cases hb : o.B = 0 <;> simp [hb, bn]
  by_cases k4 : o.Kind = 4
  · rw [k4]; by_cases hb : o.B = 0 <;> simp [hb, bn]
  by_cases k5 : o.Kind = 5
  · rw [k5]; simp
  · have : o.Kind < 1 ∨ 5 < o.Kind := by omega
    simp [beq_f k1, beq_f k2, beq_f k3, beq_f k4, beq_f k5, this]
def badOp (n : Nat) (ops : List GOp) (i : Nat) : Option Fault := match ops[i]? with
  | some o => if opCode n o = 0 then none else some ⟨opCode n o, i⟩
  | none => none
def chkF (n : Nat) (ops : List GOp) : Fault := if 32 < n ∨ 5000 < ops.length then ⟨2, 0⟩ else (firstAt (badOp n ops) ops.length).getD ⟨0, 0⟩
theorem badOp_at {n : Nat} {ops : List GOp} {i : Nat} (h : i < ops.length) : badOp n ops i = if opCode n ops[i] = 0 then none else some ⟨opCode n ops[i], i⟩ := by simp [badOp, h]
theorem bigs (mem : List Int) (ops : List GOp) : (decide ((32 : Int) < ((mem.length : Nat) : Int)) || decide ((5000 : Int) < ((ops.length : Nat) : Int))) = decide (32 < mem.length ∨ 5000 < ops.length) := by
  rw [Bool.eq_iff_iff]; simp; omega
theorem check_eq (mem : List Int) (ops : List GOp) : cell_Check mem ops = some (chkF mem.length ops) := by
  unfold cell_Check chkF
  rw [bigs]
  by_cases hb : 32 < mem.length ∨ 5000 < ops.length
  · simp [hb]
  · rw [if_neg hb, decide_eq_false hb, cond_false]
    refine loopO_findP (step := cell_Check_l1 mem ops) (fun i => ((i : Nat) : Int)) (badOp mem.length ops) ⟨0, 0⟩ ops.length (fun i hi _ => ?_) (fun _ => ?_)
    · rw [badOp_at hi]
      simp only [cell_Check_l1, ix_get hi, one_eq, Option.bind_some]
      rw [wrap_n1 i (by omega)]
      by_cases h : opCode mem.length ops[i] = 0
      · simp [h, hi]
      · simp [h, hi, bne_t h]
    · simp [cell_Check_l1]
theorem opsFault_eq (mem : List Int) (ops : List GOp) : taskmillref_OpsFault mem ops = some (chkF mem.length ops) := by
  unfold taskmillref_OpsFault chkF
  rw [bigs]
  by_cases hb : 32 < mem.length ∨ 5000 < ops.length
  · simp [hb]
  · rw [if_neg hb, decide_eq_false hb, cond_false]
    refine loopO_findP (step := taskmillref_OpsFault_l1 mem ops) (fun i => ((i : Nat) : Int)) (badOp mem.length ops) ⟨0, 0⟩ ops.length (fun i hi _ => ?_) (fun _ => ?_)
    · rw [badOp_at hi]
      simp only [taskmillref_OpsFault_l1, ix_get hi]
      rw [wrap_n1 i (by omega)]
      generalize ops[i] = o
      have c0 : (decide (((i : Nat) : Int) < ((ops.length : Nat) : Int))) = true := by simp; omega
      simp only [c0, cond_true, Bool.and_true]
      rw [show (decide ((0 : Int) ≤ ((i : Nat) : Int))) = true from by simp, cond_true]
      unfold opCode
      by_cases k : o.Kind < 1 ∨ 5 < o.Kind
      · have : (decide (o.Kind < 1) || decide ((5 : Int) < o.Kind)) = true := by simpa using k
        simp [this, k]
      · have : (decide (o.Kind < 1) || decide ((5 : Int) < o.Kind)) = false := by simpa using k
        rw [this, cond_false, if_neg k]
        have c2 : (bif (o.Kind == 1) then ((o.A != 0) || ((o.Kind != 5) && (o.B != 0))) else ((o.Kind != 5) && (o.B != 0))) = decide ((o.Kind = 1 ∧ o.A ≠ 0) ∨ (o.Kind ≠ 5 ∧ o.B ≠ 0)) := by
          by_cases k1 : o.Kind = 1 <;> by_cases ha : o.A = 0 <;> by_cases hbb : o.B = 0 <;> by_cases k5 : o.Kind = 5 <;> simp [k1, ha, hbb, k5]
        rw [c2]
        by_cases h2 : (o.Kind = 1 ∧ o.A ≠ 0) ∨ (o.Kind ≠ 5 ∧ o.B ≠ 0)
        · rw [decide_eq_true h2, if_pos h2]; simp
        · rw [decide_eq_false h2, if_neg h2, cond_false]
          have c3 : (decide (o.At < 0) || decide (((mem.length : Nat) : Int) ≤ o.At)) = decide (o.At < 0 ∨ ((mem.length : Nat) : Int) ≤ o.At) := by rw [Bool.eq_iff_iff]; simp
          rw [c3]
          by_cases h3 : o.At < 0 ∨ ((mem.length : Nat) : Int) ≤ o.At
          · rw [decide_eq_true h3, if_pos h3]; simp
          · rw [decide_eq_false h3, if_neg h3]; simp
    · simp [taskmillref_OpsFault_l1]
def opOk (n : Nat) (o : GOp) : Prop := opCode n o = 0
theorem opOk_at {n : Nat} {o : GOp} (h : opOk n o) : 1 ≤ o.Kind ∧ o.Kind ≤ 5 ∧ 0 ≤ o.At ∧ o.At < ((n : Nat) : Int) := by
  unfold opOk opCode at h
  split at h
  · cases h
  · split at h
    · cases h
    · split at h
      · cases h
      · omega
/-- Nothing is wrong. -/
def opsOk (n : Nat) (ops : List GOp) : Prop := n ≤ 32 ∧ ops.length ≤ 5000 ∧ ∀ o ∈ ops, opOk n o
theorem chk_zero {n : Nat} {ops : List GOp} : (chkF n ops).Code = 0 ↔ opsOk n ops := by
  unfold chkF opsOk
  by_cases hb : 32 < n ∨ 5000 < ops.length
  · rw [if_pos hb]
    exact ⟨(fun h => by cases h), (fun h => by omega)⟩
  · rw [if_neg hb]
    have h32 : n ≤ 32 := by omega
    have h5 : ops.length ≤ 5000 := by omega
    simp only [h32, h5, true_and]
    cases hf : firstAt (badOp n ops) ops.length with
    | none =>
      have h := (firstAt_none _).1 hf
      refine ⟨fun _ o ho => ?_, fun _ => rfl⟩
      obtain ⟨i, hi, rfl⟩ := List.getElem_of_mem ho
      have := h i hi
      rw [badOp_at hi] at this
      unfold opOk
      by_cases hz : opCode n ops[i] = 0
      · exact hz
      · rw [if_neg hz] at this; cases this
    | some f =>
      obtain ⟨i, hi, hb2, _⟩ := firstAt_some _ hf
      rw [badOp_at hi] at hb2
      by_cases hz : opCode n ops[i] = 0
      · rw [if_pos hz] at hb2; cases hb2
      · rw [if_neg hz] at hb2
        cases hb2
        exact ⟨fun h => absurd h hz, fun h => absurd (h _ (List.getElem_mem hi)) hz⟩
theorem chk_ok {n : Nat} {ops : List GOp} (h : opsOk n ops) : chkF n ops = ⟨0, 0⟩ := by
  unfold chkF
  rw [if_neg (by have := h.1; have := h.2.1; omega)]
  rw [(firstAt_none _).2 fun i hi => by rw [badOp_at hi, if_pos (show opCode n ops[i] = 0 from h.2.2 _ (List.getElem_mem hi))]]
  rfl
/-! ### What ops do -/
def doneF (c : Int) (o : GOp) : Int × Int :=
  if o.Kind = 1 then (c, c) else if o.Kind = 2 then (o.A, 0) else if o.Kind = 3 then (IntKind.i64.wrap (c + o.A), IntKind.i64.wrap (c + o.A)) else if o.Kind = 4 then (o.A, c) else if c = o.A then (o.B, 1) else (c, 0)
theorem done_eq (c : Int) (o : GOp) : taskmillref_Done c o = some (doneF c o) := by
  unfold taskmillref_Done doneF
  by_cases k1 : o.Kind = 1
  · simp [k1]
  by_cases k2 : o.Kind = 2
  · simp [k2]
  by_cases k3 : o.Kind = 3
  · simp [k3]
  by_cases k4 : o.Kind = 4
  · simp [k4]
  by_cases hc : c = o.A
  · simp [k1, k2, k3, k4, hc, beq_f k1, beq_f k2, beq_f k3, beq_f k4]
  · simp [k1, k2, k3, k4, hc, beq_f k1, beq_f k2, beq_f k3, beq_f k4, beq_f hc]
def stepM (m : List Int) (o : GOp) : List Int × Int := (m.set o.At.toNat (doneF (ix m o.At) o).1, (doneF (ix m o.At) o).2)
theorem set_ix (m : List Int) (i : Int) : m.set i.toNat (ix m i) = m := by
  refine List.ext_getElem (by simp) fun j h1 h2 => ?_
  rw [List.getElem_set]
  split
  · rename_i h
    subst h
    simp [ix, h2]
  · rfl
theorem ix_set {m : List Int} {i : Int} (v : Int) (h : 0 ≤ i ∧ i < ((m.length : Nat) : Int)) : ix (m.set i.toNat v) i = v := by
  unfold ix; rw [List.getD_eq_getElem?_getD, List.getElem?_set_self (by omega)]; rfl
theorem ix_set_ne {m : List Int} {i j : Int} (v : Int) (hi : 0 ≤ i) (hj : 0 ≤ j) (h : i ≠ j) : ix (m.set i.toNat v) j = ix m j := by
  unfold ix; rw [List.getD_eq_getElem?_getD, List.getElem?_set_ne (by omega), ← List.getD_eq_getElem?_getD]
theorem do_eq {m : List Int} {o : GOp} (h : opOk m.length o) : cell_Do_1 o m = some ((stepM m o).2, (stepM m o).1) := by
  obtain ⟨h1, h2, h3, h4⟩ := opOk_at h
  have k : 0 ≤ o.At ∧ o.At < ((m.length : Nat) : Int) := ⟨h3, h4⟩
  have kk : (decide ((0 : Int) ≤ o.At) && decide (o.At < ((m.length : Nat) : Int))) = true := by simp [h3, h4]
  have kd : (decide (0 ≤ o.At ∧ o.At < ((m.length : Nat) : Int))) = true := decide_eq_true k
  unfold cell_Do_1 cell_does cell_does_1 cell_does_2 cell_does_3 cell_does_4 cell_does_5 stepM doneF
  simp only [Option.bind_some, kk, kd, cond_true]
  by_cases k1 : o.Kind = 1
  · simp [k1, set_ix]
  by_cases k2 : o.Kind = 2
  · simp [k2]
  by_cases k3 : o.Kind = 3
  · simp [k3, ix_set _ k]
  by_cases k4 : o.Kind = 4
  · simp [k4]
  have k5 : o.Kind = 5 := by omega
  by_cases hc : ix m o.At = o.A
  · simp [k5, hc]
  · have : (ix m o.At != o.A) = true := by simpa using hc
    simp [k5, hc, this, set_ix]
theorem stepM_len (m : List Int) (o : GOp) : (stepM m o).1.length = m.length := by simp [stepM]
def runM (m : List Int) : List GOp → List Int × List Int
  | [] => (m, [])
  | o :: l => ((runM (stepM m o).1 l).1, (stepM m o).2 :: (runM (stepM m o).1 l).2)
theorem runM_app (m : List Int) : ∀ (a b : List GOp), runM m (a ++ b) = ((runM (runM m a).1 b).1, (runM m a).2 ++ (runM (runM m a).1 b).2)
  | [], b => rfl
  | o :: a, b => by simp only [List.cons_append, runM]; rw [runM_app _ a b]
  termination_by a => a.length
theorem runM_len (m : List Int) : ∀ (a : List GOp), (runM m a).1.length = m.length ∧ (runM m a).2.length = a.length
  | [] => ⟨rfl, rfl⟩
  | o :: a => by
    have := runM_len (stepM m o).1 a
    simp only [runM, List.length_cons]
    rw [this.1, this.2, stepM_len]; exact ⟨rfl, rfl⟩
theorem runM_snoc (m : List Int) (a : List GOp) (o : GOp) : runM m (a ++ [o]) = ((stepM (runM m a).1 o).1, (runM m a).2 ++ [(stepM (runM m a).1 o).2]) := by
  rw [runM_app]; rfl
theorem take_snoc {α : Type} {l : List α} {i : Nat} (h : i < l.length) : l.take (i + 1) = l.take i ++ [l[i]] := by
  rw [List.take_add_one, List.getElem?_eq_getElem h]; rfl
theorem run_eq (mem : List Int) (ops : List GOp) : cell_Run mem ops = some (if (chkF mem.length ops).Code = 0 then (⟨0, 0⟩, runM mem ops) else (chkF mem.length ops, [], [])) := by
  unfold cell_Run
  rw [check_eq]
  simp only [Option.bind_some]
  by_cases hc : (chkF mem.length ops).Code = 0
  · have hok := chk_zero.1 hc
    rw [if_pos hc, show ((chkF mem.length ops).Code != 0) = false from by simp [hc], cond_false, clone_eq _ (by have := hok.1; omega)]
    simp only [Option.bind_some]
    have := loopO_all (step := cell_Run_l1 ops) (fun i => (((i : Nat) : Int), (runM mem (ops.take i)).1, (runM mem (ops.take i)).2)) (some (⟨0, 0⟩, runM mem ops)) ops.length (fun i hi => ?_) ?_
    · simpa [runM] using this
    · have hl := runM_len mem (ops.take i)
      have h5 := hok.2.1
      have ho : opOk (runM mem (ops.take i)).1.length ops[i] := by rw [hl.1]; exact hok.2.2 _ (List.getElem_mem hi)
      rw [take_snoc hi, runM_snoc]
      simp only [cell_Run_l1, ix_get hi, do_eq ho, Option.bind_some, stepM_len]
      have hlen : ((runM mem (ops.take i)).2.length + 1) * 8 ≤ 140737488355328 := by
        rw [hl.2, List.length_take]; omega
      simp [hi, hlen, wrap_n1 i (by omega)]
    · simp [cell_Run_l1]
  · rw [if_neg hc, show ((chkF mem.length ops).Code != 0) = true from by simpa using hc, cond_true]
theorem ran_eq {mem : List Int} {ops : List GOp} (h : opsOk mem.length ops) : taskmillref_Ran mem ops = some (runM mem ops) := by
  unfold taskmillref_Ran
  have h32 := h.1
  have h5 := h.2.1
  have : mem.length * 8 ≤ 140737488355328 := by omega
  rw [decide_eq_true this, cond_true]
  have := loopO_all (step := taskmillref_Ran_l1 ops) (fun i => (((i : Nat) : Int), (runM mem (ops.take i)).1, (runM mem (ops.take i)).2)) (some (runM mem ops)) ops.length (fun i hi => ?_) ?_
  · simpa [runM] using this
  · have hl := runM_len mem (ops.take i)
    have ho : opOk (runM mem (ops.take i)).1.length ops[i] := by rw [hl.1]; exact h.2.2 _ (List.getElem_mem hi)
    obtain ⟨_, _, a1, a2⟩ := opOk_at ho
    rw [take_snoc hi, runM_snoc]
    simp only [taskmillref_Ran_l1, ix_get hi, done_eq, Option.bind_some]
    have hlen : ((runM mem (ops.take i)).2.length + 1) * 8 ≤ 140737488355328 := by
      rw [hl.2, List.length_take]; omega
    simp only [decide_eq_true a1, decide_eq_true a2, Bool.and_self, cond_true]
    simp [hi, hlen, wrap_n1 i (by omega), stepM]
  · simp [taskmillref_Ran_l1]
theorem sameOps_eq (a b : List GOp) (hn : a.length < 4611686018427387904) : taskmilllaw_sameOps a b = some (decide (a = b)) := by
  unfold taskmilllaw_sameOps
  by_cases hl : a.length = b.length
  · have e : (((a.length : Nat) : Int) != ((b.length : Nat) : Int)) = false := by simp [hl]
    rw [e, cond_false]
    have we : ∀ x y : GOp, ((x.Kind == y.Kind) && ((x.At == y.At) && ((x.A == y.A) && ((x.B == y.B) && true)))) = decide (x = y) := fun x y => by
      obtain ⟨a, b, c, d⟩ := x
      obtain ⟨a', b', c', d'⟩ := y
      rw [Bool.eq_iff_iff]; simp
    have := loopO_if (step := taskmilllaw_sameOps_l1 a b) (fun i => ((i : Nat) : Int)) (fun i => !decide (a[i]? = b[i]?)) (fun i => some false) (some true) a.length (fun i hi hp => ?_) (fun i hi hp => ?_) (fun _ => ?_)
    · rw [show ((0 : Nat) : Int) = 0 from rfl] at this
      rw [this]
      cases hf : firstIf (fun i => !decide (a[i]? = b[i]?)) a.length with
      | none =>
        have h := firstIf_none.1 hf
        have : a = b := (list_eq_iff hl).2 fun i h1 h2 => by have := h i h1; simpa [h1, h2] using this
        simp [this]
      | some i =>
        obtain ⟨h1, h2, _⟩ := firstIf_some hf
        have : a ≠ b := fun e => by rw [e] at h2; simp at h2
        simp [this]
    · have hi2 : i < b.length := by omega
      simp [hi, hi2] at hp
      simp only [taskmilllaw_sameOps_l1, ix_get hi, ix_get hi2, we]
      simp [hi, hi2, hp, wrap_n1 i (by omega)]
    · have hi2 : i < b.length := by omega
      simp [hi, hi2] at hp
      simp only [taskmilllaw_sameOps_l1, ix_get hi, ix_get hi2, we]
      simp [hi, hi2, hp]
    · simp [taskmilllaw_sameOps_l1]
  · have : a ≠ b := fun e => hl (by rw [e])
    have h2 : ((a.length : Int) != (b.length : Int)) = true := by simp; omega
    simp [h2, this]
end Go.Proofs.Ytolmbmgjpcdngaa
end

section
namespace Go.Proofs.Ytolmbmgjpcdngaa
open Go Go.Sx
theorem begun_eq : taskmilllaw_cellBegun = some true := rfl
theorem fault_same (f : Fault) : ((f.Code == f.Code) && ((f.At == f.At) && true)) = true := by simp
theorem CellRuns_eq (mem : List Int) (ops : List GOp) (h1 : mem.length ≤ 10000000) (h2 : ops.length ≤ 4000000) : taskmilllaw_CellRuns mem ops = some true := by
  unfold taskmilllaw_CellRuns
  simp only [own_eq mem h1, ownOps_eq ops h2, check_eq, run_eq, opsFault_eq, begun_eq, Option.bind_some, Bool.not_true, cond_false, fault_same, ints_eq mem mem (by omega), sameOps_eq ops ops (by omega), decide_true]
  by_cases hc : (chkF mem.length ops).Code = 0
  · have hok := chk_zero.1 hc
    have hl := runM_len mem ops
    have := hok.1
    have := hok.2.1
    rw [chk_ok hok]
    simp [taskmilllaw_CellRuns_j2, ran_eq hok, ints_eq (runM mem ops).1 _ (by omega), ints_eq (runM mem ops).2 _ (by omega), taskmilllaw_CellRuns_j1]
  · rw [if_neg hc]
    simp [taskmilllaw_CellRuns_j2, bne_t hc]
theorem opsOk_app {n : Nat} {a b : List GOp} (h : (a ++ b).length ≤ 5000) (ha : opsOk n a) (hb : opsOk n b) : opsOk n (a ++ b) := ⟨ha.1, h, fun o ho => by
  rcases List.mem_append.1 ho with h | h
  · exact ha.2.2 o h
  · exact hb.2.2 o h⟩
theorem CellHalves_eq (mem : List Int) (a b : List GOp) (hb : b.length ≤ 9223372036854775807) : taskmilllaw_CellHalves mem a b = some true := by
  unfold taskmilllaw_CellHalves
  simp only [begun_eq, Option.bind_some, Bool.not_true, cond_false, run_eq]
  by_cases hc : (chkF mem.length a).Code = 0
  · have hok := chk_zero.1 hc
    have hl := runM_len mem a
    rw [if_pos hc]
    simp only
    rw [show (((⟨0, 0⟩ : Fault).Code != 0)) = false from rfl, Bool.false_or]
    by_cases hw : (5000 : Int) < IntKind.i64.wrap (((a.length : Nat) : Int) + ((b.length : Nat) : Int))
    · rw [decide_eq_true hw, cond_true]
    · rw [decide_eq_false hw, cond_false, hl.1]
      by_cases hd : (chkF mem.length b).Code = 0
      · have hok2 := chk_zero.1 hd
        have hl2 := runM_len (runM mem a).1 b
        have a5 := hok.2.1
        have b5 := hok2.2.1
        have m32 := hok.1
        rw [wrap_id (by omega) (by omega)] at hw
        have hab : opsOk mem.length (a ++ b) := opsOk_app (by rw [List.length_append]; omega) hok hok2
        rw [if_pos hd]
        simp only [Option.bind_some]
        rw [show (((⟨0, 0⟩ : Fault).Code != 0)) = false from rfl, cond_false, ownOps_eq a (by omega)]
        simp only [Option.bind_some]
        have hs : (a ++ b).length * 32 ≤ 140737488355328 := by rw [List.length_append]; omega
        rw [decide_eq_true hs, cond_true, chk_ok hab]
        simp only [Option.bind_some, if_true]
        rw [show (((⟨0, 0⟩ : Fault).Code == 0)) = true from rfl, cond_true, runM_app]
        simp only
        rw [ints_eq _ _ (by rw [hl2.1, hl.1]; omega)]
        simp only [Option.bind_some, decide_true, cond_true]
        rw [own_eq _ (by rw [hl.2]; omega)]
        simp only [Option.bind_some]
        have hs2 : ((runM mem a).2 ++ (runM (runM mem a).1 b).2).length * 8 ≤ 140737488355328 := by rw [List.length_append, hl.2, hl2.2]; omega
        rw [decide_eq_true hs2, cond_true, ints_eq _ _ (by omega)]
        simp [taskmilllaw_CellHalves_j1]
      · rw [if_neg hd]
        simp [opsFault_eq, bne_t hd]
  · rw [if_neg hc]
    simp [bne_t hc]
/-! ### Neighbours change places -/
theorem wrap_add (x y : Int) : IntKind.i64.wrap (IntKind.i64.wrap x + y) = IntKind.i64.wrap (x + y) := by
  simp only [IntKind.wrap, IntKind.bits, IntKind.signed, if_true]
  simp
  omega
theorem set_comm' {m : List Int} {i j : Int} (v w : Int) (hi : 0 ≤ i) (hj : 0 ≤ j) (h : i ≠ j) : (m.set i.toNat v).set j.toNat w = (m.set j.toNat w).set i.toNat v := List.set_comm _ _ (by omega)
theorem step_apart {m : List Int} {a b : GOp} (ha : opOk m.length a) (hb : opOk m.length b) (h : a.At ≠ b.At) : (stepM (stepM m a).1 b).1 = (stepM (stepM m b).1 a).1 ∧ (stepM (stepM m a).1 b).2 = (stepM m b).2 ∧ (stepM (stepM m b).1 a).2 = (stepM m a).2 := by
  obtain ⟨_, _, a1, a2⟩ := opOk_at ha
  obtain ⟨_, _, b1, b2⟩ := opOk_at hb
  have e1 : ∀ v, ix (m.set a.At.toNat v) b.At = ix m b.At := fun v => ix_set_ne v a1 b1 h
  have e2 : ∀ v, ix (m.set b.At.toNat v) a.At = ix m a.At := fun v => ix_set_ne v b1 a1 (Ne.symm h)
  simp only [stepM, e1, e2]
  exact ⟨set_comm' _ _ a1 b1 h, trivial, trivial⟩
theorem step_adds {m : List Int} {a b : GOp} (ha : opOk m.length a) (hb : opOk m.length b) (h : a.At = b.At) (ka : a.Kind = 3) (kb : b.Kind = 3) : (stepM (stepM m a).1 b).1 = (stepM (stepM m b).1 a).1 := by
  obtain ⟨_, _, a1, a2⟩ := opOk_at ha
  simp only [stepM, doneF, ka, kb, ← h]
  rw [ix_set _ ⟨a1, a2⟩, ix_set _ ⟨a1, a2⟩, List.set_set, List.set_set]
  simp only [show ¬ ((3 : Int) = 1) by decide, show ¬ ((3 : Int) = 2) by decide, if_false, if_true]
  rw [wrap_add, wrap_add]
  congr 2
  omega
theorem swap_split {ops : List GOp} {i : Nat} (h : i + 1 < ops.length) : ops = ops.take i ++ ([ops[i], ops[i + 1]] ++ ops.drop (i + 2)) ∧ (ops.set i ops[i + 1]).set (i + 1) ops[i] = ops.take i ++ ([ops[i + 1], ops[i]] ++ ops.drop (i + 2)) := by
  constructor
  · refine List.ext_getElem (by simp <;> omega) fun j h1 h2 => ?_
    rw [List.getElem_append]
    split
    · rw [List.getElem_take]
    · rename_i hj
      simp only [List.length_take] at hj ⊢
      have : min i ops.length = i := by omega
      simp only [this] at hj ⊢
      rw [List.getElem_append]
      split
      · rename_i hj2
        simp only [List.length_cons, List.length_nil] at hj2
        rcases (by omega : j = i ∨ j = i + 1) with rfl | rfl
        · simp
        · simp
      · rename_i hj2
        simp only [List.length_cons, List.length_nil] at hj2 ⊢
        rw [List.getElem_drop]
        congr 1
        omega
  · refine List.ext_getElem (by simp <;> omega) fun j h1 h2 => ?_
    rw [List.getElem_append, List.getElem_set, List.getElem_set]
    split
    · rename_i hj
      rw [dif_neg (by simp only [List.length_take]; omega)]
      simp only [List.length_take]
      subst hj
      have : min i ops.length = i := by omega
      simp [this]
    · split
      · rename_i hj
        subst hj
        rw [dif_neg (by simp only [List.length_take]; omega)]
        simp only [List.length_take]
        have : min i ops.length = i := by omega
        simp [this]
      · rename_i g1 g2
        split
        · rw [List.getElem_take]
        · rename_i hj
          simp only [List.length_take] at hj ⊢
          have : min i ops.length = i := by omega
          simp only [this] at hj ⊢
          rw [List.getElem_append_right (by simp; omega), List.getElem_drop]
          congr 1
          simp
          omega
theorem ix_app_l {a b : List Int} {i : Nat} (h : i < a.length) : ix (a ++ b) ((i : Nat) : Int) = ix a ((i : Nat) : Int) := by
  unfold ix; rw [List.getD_eq_getElem?_getD, List.getElem?_append_left (by omega), ← List.getD_eq_getElem?_getD]
theorem places_two {mem : List Int} {ops : List GOp} {k : Nat} {a b : GOp} (hok : opsOk mem.length ops) (hk : k + 1 < ops.length) (ha : a ∈ ops) (hb : b ∈ ops) (s1 : ops = ops.take k ++ ([a, b] ++ ops.drop (k + 2))) {sw : List GOp} (s2 : sw = ops.take k ++ ([b, a] ++ ops.drop (k + 2))) (hat : ¬ (a.At = b.At ∧ ¬ (a.Kind = 3 ∧ b.Kind = 3))) :
    (runM mem ops).1 = (runM mem sw).1 ∧ (a.At ≠ b.At → ix (runM mem ops).2 ((k : Nat) : Int) = ix (runM mem sw).2 ((k + 1 : Nat) : Int) ∧ ix (runM mem ops).2 ((k + 1 : Nat) : Int) = ix (runM mem sw).2 ((k : Nat) : Int)) := by
  have oa : opOk mem.length a := hok.2.2 _ ha
  have ob : opOk mem.length b := hok.2.2 _ hb
  have lm := runM_len mem (ops.take k)
  have eb : runM mem ops = runM mem (ops.take k ++ ([a, b] ++ ops.drop (k + 2))) := by rw [← s1]
  have ec : runM mem sw = runM mem (ops.take k ++ ([b, a] ++ ops.drop (k + 2))) := by rw [s2]
  rw [runM_app, runM_app] at eb
  rw [runM_app, runM_app] at ec
  have ltk : (runM mem (ops.take k)).2.length = k := by rw [lm.2, List.length_take]; omega
  simp only [runM] at eb ec
  generalize (runM mem (ops.take k)).2 = pre at *
  generalize (runM mem (ops.take k)).1 = m at *
  have oam : opOk m.length a := by rw [lm.1]; exact oa
  have obm : opOk m.length b := by rw [lm.1]; exact ob
  have hfin : (stepM (stepM m a).1 b).1 = (stepM (stepM m b).1 a).1 := by
    by_cases h1 : a.At = b.At
    · have h2 : a.Kind = 3 ∧ b.Kind = 3 := by
        by_cases hh : a.Kind = 3 ∧ b.Kind = 3
        · exact hh
        · exact absurd ⟨h1, hh⟩ hat
      exact step_adds oam obm h1 h2.1 h2.2
    · exact (step_apart oam obm h1).1
  refine ⟨by rw [eb, ec, hfin], fun h1 => ?_⟩
  obtain ⟨_, g2, g3⟩ := step_apart oam obm h1
  have p1 : ix (runM mem ops).2 ((k : Nat) : Int) = (stepM m a).2 := by
    rw [eb]; unfold ix; rw [List.getD_eq_getElem?_getD, List.getElem?_append_right (by omega)]; simp [ltk]
  have p2 : ix (runM mem ops).2 ((k + 1 : Nat) : Int) = (stepM (stepM m a).1 b).2 := by
    rw [eb]; unfold ix; rw [List.getD_eq_getElem?_getD, List.getElem?_append_right (by omega)]; simp [ltk]
  have p3 : ix (runM mem sw).2 ((k : Nat) : Int) = (stepM m b).2 := by
    rw [ec]; unfold ix; rw [List.getD_eq_getElem?_getD, List.getElem?_append_right (by omega)]; simp [ltk]
  have p4 : ix (runM mem sw).2 ((k + 1 : Nat) : Int) = (stepM (stepM m b).1 a).2 := by
    rw [ec]; unfold ix; rw [List.getD_eq_getElem?_getD, List.getElem?_append_right (by omega)]; simp [ltk]
  rw [p1, p2, p3, p4, g2, g3]
  exact ⟨rfl, rfl⟩
theorem CellPlaces_eq (mem : List Int) (ops : List GOp) (i : Int) (h0 : ops.length ≤ 9223372036854775807) : taskmilllaw_CellPlaces mem ops i = some true := by
  unfold taskmilllaw_CellPlaces
  simp only [begun_eq, Option.bind_some, Bool.not_true, cond_false, opsFault_eq]
  by_cases hc : (chkF mem.length ops).Code = 0
  · have hok := chk_zero.1 hc
    have h5 := hok.2.1
    have m32 := hok.1
    rw [show ((chkF mem.length ops).Code != 0) = false from by simp [hc], cond_false]
    by_cases hi : i < 0
    · rw [decide_eq_true hi]; simp [taskmilllaw_CellPlaces_j2]
    · rw [decide_eq_false hi, cond_false, wrap_id (by omega) (by omega)]
      by_cases hi2 : ((ops.length : Nat) : Int) - 1 ≤ i
      · rw [decide_eq_true hi2]; simp [taskmilllaw_CellPlaces_j2]
      · rw [decide_eq_false hi2]
        obtain ⟨k, rfl⟩ : ∃ k : Nat, i = k := ⟨i.toNat, by omega⟩
        have hk : k + 1 < ops.length := by omega
        unfold taskmilllaw_CellPlaces_j2
        rw [cond_false, wrap_n1 k (by omega)]
        simp only [ix_get (show k < ops.length by omega), ix_get hk]
        have d1 : (decide ((0 : Int) ≤ ((k : Nat) : Int)) && decide (((k : Nat) : Int) < ((ops.length : Nat) : Int))) = true := by simp; omega
        have d2 : (decide ((0 : Int) ≤ ((k + 1 : Nat) : Int)) && decide (((k + 1 : Nat) : Int) < ((ops.length : Nat) : Int))) = true := by simp; omega
        rw [d1, d2, cond_true, cond_true, ownOps_eq ops (by omega)]
        simp only [Option.bind_some, List.length_set, d1, d2, cond_true, Int.toNat_natCast]
        obtain ⟨s1, s2⟩ := swap_split hk
        have oa : opOk mem.length ops[k] := hok.2.2 _ (List.getElem_mem _)
        have ob : opOk mem.length ops[k + 1] := hok.2.2 _ (List.getElem_mem _)
        have hokl : opsOk mem.length ((ops.set k ops[k + 1]).set (k + 1) ops[k]) := by
          refine ⟨m32, by simpa using h5, fun o ho => ?_⟩
          rcases List.mem_or_eq_of_mem_set ho with ho | rfl
          · rcases List.mem_or_eq_of_mem_set ho with ho | rfl
            · exact hok.2.2 o ho
            · exact ob
          · exact oa
        rw [run_eq, run_eq, if_pos hc, if_pos (by rw [chk_ok hokl])]
        simp only [Option.bind_some]
        have z0 : ((⟨0, 0⟩ : Fault).Code != 0) = false := rfl
        simp only [z0, cond_false]
        have la := runM_len mem ops
        have lb := runM_len mem ((ops.set k ops[k + 1]).set (k + 1) ops[k])
        have lc : ((ops.set k ops[k + 1]).set (k + 1) ops[k]).length = ops.length := by simp
        have ne0 : (((((runM mem ops).2.length : Nat) : Int)) != (((runM mem ((ops.set k ops[k + 1]).set (k + 1) ops[k])).2.length : Nat) : Int)) = false := by rw [la.2, lb.2, lc]; simp
        have pt := places_two hok hk (List.getElem_mem _) (List.getElem_mem _) s1 s2
        by_cases hat : ops[k].At = ops[k + 1].At ∧ ¬ (ops[k].Kind = 3 ∧ ops[k + 1].Kind = 3)
        · have e : ((ops[k].At == ops[k + 1].At) && (!((ops[k].Kind == 3) && (ops[k + 1].Kind == 3)))) = true := by
            obtain ⟨h1, h2⟩ := hat
            simp only [h1, beq_self_eq_true, Bool.true_and, Bool.not_eq_true', Bool.and_eq_false_imp, beq_iff_eq, beq_eq_false_iff_ne]
            exact fun h3 h4 => h2 ⟨h3, h4⟩
          rw [e, cond_true]
        · have e : ((ops[k].At == ops[k + 1].At) && (!((ops[k].Kind == 3) && (ops[k + 1].Kind == 3)))) = false := by
            by_cases h1 : ops[k].At = ops[k + 1].At
            · have h2 : ops[k].Kind = 3 ∧ ops[k + 1].Kind = 3 := by
                by_cases hh : ops[k].Kind = 3 ∧ ops[k + 1].Kind = 3
                · exact hh
                · exact absurd ⟨h1, hh⟩ hat
              simp [h1, h2.1, h2.2]
            · simp [beq_f h1]
          rw [e, cond_false]
          obtain ⟨hmem, hp⟩ := pt hat
          rw [ne0, cond_false, ints_eq _ _ (by rw [la.1]; omega), hmem]
          simp only [decide_true, Option.bind_some, Bool.not_true]
          unfold taskmilllaw_CellPlaces_j1
          rw [cond_false, wrap_n1 k (by omega)]
          simp only [ix_get (show k < ops.length by omega), ix_get hk, la.2, lb.2, lc]
          rw [d1, d2]
          simp only [Bool.or_true, cond_true]
          by_cases h1 : ops[k].At = ops[k + 1].At
          · simp [h1]
          · obtain ⟨q1, q2⟩ := hp h1
            rw [q1, q2]
            simp
  · simp [bne_t hc, taskmilllaw_CellPlaces_j2]
end Go.Proofs.Ytolmbmgjpcdngaa
end

section
namespace Go.Proofs.Ytolmbmgjpcdngaa
open Go Go.Sx
/-! ### Mixing -/
def mixS (tasks : List (List GOp)) (s : List Int × List (List Int)) (p : Int) : List Int × List (List Int) :=
  if (ixD s.2 p).length < (ix tasks p).length then ((stepM s.1 (ix (ix tasks p) (((ixD s.2 p).length : Nat) : Int))).1, s.2.set p.toNat (ixD s.2 p ++ [(stepM s.1 (ix (ix tasks p) (((ixD s.2 p).length : Nat) : Int))).2])) else s
def tasksOk (n : Nat) (tasks : List (List GOp)) : Prop := tasks.length ≤ 64 ∧ ∀ t ∈ tasks, opsOk n t
def picksOk (n : Nat) (picks : List Int) : Prop := picks.length ≤ 5000 ∧ ∀ p ∈ picks, 0 ≤ p ∧ p < ((n : Nat) : Int)
def mixI (n : Nat) (tasks : List (List GOp)) (s : List Int × List (List Int)) : Prop := s.1.length = n ∧ s.2.length = tasks.length ∧ ∀ i (h : i < tasks.length) (h2 : i < s.2.length), s.2[i].length ≤ tasks[i].length
theorem ix_mem {α : Type} [Enc α] {l : List α} {p : Int} (h : 0 ≤ p ∧ p < ((l.length : Nat) : Int)) : ix l p ∈ l := by
  obtain ⟨k, rfl⟩ : ∃ k : Nat, p = k := ⟨p.toNat, by omega⟩
  rw [ix_get (by omega)]; exact List.getElem_mem _
theorem inr_t {p : Int} {n : Nat} (h : 0 ≤ p ∧ p < ((n : Nat) : Int)) : (decide ((0 : Int) ≤ p) && decide (p < ((n : Nat) : Int))) = true := by simp [h.1, h.2]
theorem mixI_at {n : Nat} {tasks : List (List GOp)} {s : List Int × List (List Int)} (hI : mixI n tasks s) {p : Int} (hp : 0 ≤ p ∧ p < ((tasks.length : Nat) : Int)) : (ixD s.2 p).length ≤ (ix tasks p).length := by
  obtain ⟨k, rfl⟩ : ∃ k : Nat, p = k := ⟨p.toNat, by omega⟩
  have h1 : k < tasks.length := by omega
  have h2 : k < s.2.length := by rw [hI.2.1]; exact h1
  rw [ixD_pos (by omega), ix_get h1, ix_get h2]
  exact hI.2.2 k h1 h2
theorem mixI_step {n : Nat} {tasks : List (List GOp)} {s : List Int × List (List Int)} (hI : mixI n tasks s) {p : Int} (hp : 0 ≤ p ∧ p < ((tasks.length : Nat) : Int)) : mixI n tasks (mixS tasks s p) := by
  unfold mixS
  split
  · rename_i hl
    refine ⟨by rw [stepM_len]; exact hI.1, by rw [List.length_set]; exact hI.2.1, fun i h h2 => ?_⟩
    simp only [List.getElem_set]
    split
    · rename_i he
      subst he
      obtain ⟨k, rfl⟩ : ∃ k : Nat, p = k := ⟨p.toNat, by omega⟩
      simp only [Int.toNat_natCast] at h h2 ⊢
      rw [ix_get h] at hl
      rw [List.length_append, List.length_singleton]
      exact hl
    · exact hI.2.2 i h (by rw [List.length_set] at h2; exact h2)
  · exact hI
theorem mix_loop {n : Nat} {tasks : List (List GOp)} {picks : List Int} (ht : tasksOk n tasks) (hp : picksOk tasks.length picks) (s : List Int × List (List Int)) (hI : mixI n tasks s) : loopO (cell_Mix_l1 tasks picks) (0, s.1, s.2) = some (⟨0, 0⟩, (picks.foldl (mixS tasks) s)) := by
  have := loopO_up (step := cell_Mix_l1 tasks picks) picks.length (fun i (a : List Int × List (List Int)) => (((i : Nat) : Int), a.1, a.2)) (fun i a => mixI n tasks a) (fun i a => some ((⟨0, 0⟩ : Fault), ((picks.drop i).foldl (mixS tasks) a))) ?_ ?_ s hI
  · simpa using this
  · intro a ha
    simp [cell_Mix_l1]
  · intro i a hi ha
    refine Or.inl ⟨mixS tasks a picks[i], ?_, ?_, ?_⟩
    · have hq := hp.2 _ (List.getElem_mem hi)
      have h5 := hp.1
      simp only [cell_Mix_l1, ix_get hi]
      generalize picks[i] = p at *
      have hq2 : 0 ≤ p ∧ p < ((a.2.length : Nat) : Int) := by rw [ha.2.1]; exact hq
      have hi' : (((i : Nat) : Int)) < ((picks.length : Nat) : Int) := by omega
      rw [decide_eq_true hi', cond_true, decide_eq_true (show (0 : Int) ≤ ((i : Nat) : Int) by omega), Bool.and_self, cond_true, inr_t hq2, cond_true, inr_t hq, cond_true]
      unfold cell_Mix_j1
      rw [wrap_n1 i (by omega)]
      have hto := ht.2 _ (ix_mem hq)
      by_cases hl : (ixD a.2 p).length < (ix tasks p).length
      · have hl' : (((ixD a.2 p).length : Nat) : Int) < (((ix tasks p).length : Nat) : Int) := by omega
        have hin : 0 ≤ (((ixD a.2 p).length : Nat) : Int) ∧ (((ixD a.2 p).length : Nat) : Int) < (((ix tasks p).length : Nat) : Int) := ⟨by omega, hl'⟩
        have ho : opOk a.1.length (ix (ix tasks p) (((ixD a.2 p).length : Nat) : Int)) := by rw [ha.1]; exact hto.2.2 _ (ix_mem hin)
        have hs : (ixD a.2 p ++ [(stepM a.1 (ix (ix tasks p) (((ixD a.2 p).length : Nat) : Int))).2]).length * 8 ≤ 140737488355328 := by
          have := hto.2.1
          rw [List.length_append, List.length_singleton]; omega
        rw [decide_eq_true hl', cond_true, cond_true, cond_true, decide_eq_true hin.1, Bool.and_self, cond_true, do_eq ho]
        simp only [Option.bind_some, stepM_len, decide_true, cond_true]
        rw [decide_eq_true hs, cond_true]
        unfold mixS
        rw [if_pos hl]
      · have hl' : ¬ (((ixD a.2 p).length : Nat) : Int) < (((ix tasks p).length : Nat) : Int) := by omega
        rw [decide_eq_false hl', cond_false]
        unfold mixS
        rw [if_neg hl]
    · exact mixI_step ha (hp.2 _ (List.getElem_mem hi))
    · simp only [drop_at hi, List.foldl_cons]
/-! ### What is wrong with tasks and picks -/
def badTask (n : Nat) (tasks : List (List GOp)) (i : Nat) : Option Fault := match tasks[i]? with
  | some t => if (chkF n t).Code = 0 then none else some (chkF n t)
  | none => none
def badPick (n : Nat) (picks : List Int) (i : Nat) : Option Fault := match picks[i]? with
  | some p => if p < 0 ∨ ((n : Nat) : Int) ≤ p then some ⟨3, i⟩ else none
  | none => none
theorem badTask_none {n : Nat} {tasks : List (List GOp)} (h : ∀ i, i < tasks.length → badTask n tasks i = none) : ∀ t ∈ tasks, opsOk n t := fun t ht => by
  obtain ⟨i, hi, rfl⟩ := List.getElem_of_mem ht
  have := h i hi
  simp only [badTask, List.getElem?_eq_getElem hi] at this
  by_cases hz : (chkF n tasks[i]).Code = 0
  · exact chk_zero.1 hz
  · rw [if_neg hz] at this; cases this
theorem badTask_code {n : Nat} {tasks : List (List GOp)} {i : Nat} {f : Fault} (h : badTask n tasks i = some f) : f.Code ≠ 0 := by
  unfold badTask at h
  split at h
  · split at h
    · cases h
    · rename_i hz
      cases h; exact hz
  · cases h
theorem badPick_none {n : Nat} {picks : List Int} (h : ∀ i, i < picks.length → badPick n picks i = none) : ∀ p ∈ picks, 0 ≤ p ∧ p < ((n : Nat) : Int) := fun p hp => by
  obtain ⟨i, hi, rfl⟩ := List.getElem_of_mem hp
  have := h i hi
  simp only [badPick, List.getElem?_eq_getElem hi] at this
  by_cases hz : picks[i] < 0 ∨ ((n : Nat) : Int) ≤ picks[i]
  · rw [if_pos hz] at this; cases this
  · omega
theorem badPick_code {n : Nat} {picks : List Int} {i : Nat} {f : Fault} (h : badPick n picks i = some f) : f = ⟨3, i⟩ := by
  unfold badPick at h
  split at h
  · split at h
    · cases h; rfl
    · cases h
  · cases h
def tasksF (n : Nat) (tasks : List (List GOp)) : Fault := (firstAt (badTask n tasks) tasks.length).getD ⟨0, 0⟩
def mix0 (mem : List Int) (tasks : List (List GOp)) (picks : List Int) : List Int × List (List Int) := picks.foldl (mixS tasks) (mem, List.replicate tasks.length [])
def mixF (n : Nat) (tasks : List (List GOp)) (picks : List Int) : Option Fault :=
  if 64 < tasks.length ∨ 5000 < picks.length then some ⟨2, 0⟩ else match firstAt (badTask n tasks) tasks.length with
    | some f => some f
    | none => firstAt (badPick tasks.length picks) picks.length
theorem mixF_none {n : Nat} {tasks : List (List GOp)} {picks : List Int} (h : mixF n tasks picks = none) : tasksOk n tasks ∧ picksOk tasks.length picks := by
  unfold mixF at h
  split at h
  · cases h
  · split at h
    · cases h
    · rename_i h1 _ h2
      exact ⟨⟨by omega, badTask_none ((firstAt_none _).1 h2)⟩, ⟨by omega, badPick_none ((firstAt_none _).1 h)⟩⟩
theorem mixF_code {n : Nat} {tasks : List (List GOp)} {picks : List Int} {f : Fault} (h : mixF n tasks picks = some f) : f.Code ≠ 0 := by
  unfold mixF at h
  split at h
  · cases h; decide
  · split at h
    · rename_i h2
      cases h
      obtain ⟨i, _, g, _⟩ := firstAt_some _ h2
      exact badTask_code g
    · obtain ⟨i, _, g, _⟩ := firstAt_some _ h
      rw [badPick_code g]; simp
theorem mixF_ok {n : Nat} {tasks : List (List GOp)} {picks : List Int} (ht : tasksOk n tasks) (hp : picksOk tasks.length picks) : mixF n tasks picks = none := by
  unfold mixF
  rw [if_neg (by have := ht.1; have := hp.1; omega), (firstAt_none _).2 fun i hi => ?_]
  · refine (firstAt_none _).2 fun i hi => ?_
    have := hp.2 _ (List.getElem_mem hi)
    simp only [badPick, List.getElem?_eq_getElem hi]
    rw [if_neg (by omega)]
  · simp only [badTask, List.getElem?_eq_getElem hi]
    rw [if_pos (chk_zero.2 (ht.2 _ (List.getElem_mem hi)))]
theorem sizes (tasks : List (List GOp)) (picks : List Int) : (decide ((64 : Int) < ((tasks.length : Nat) : Int)) || decide ((5000 : Int) < ((picks.length : Nat) : Int))) = decide (64 < tasks.length ∨ 5000 < picks.length) := by
  rw [Bool.eq_iff_iff]; simp; omega
theorem mix_eq (mem : List Int) (tasks : List (List GOp)) (picks : List Int) (hm : mem.length ≤ 10000000) : cell_Mix mem tasks picks = some (match mixF mem.length tasks picks with
    | some f => (f, [], [])
    | none => (⟨0, 0⟩, mix0 mem tasks picks)) := by
  unfold cell_Mix mixF
  rw [sizes]
  by_cases hb : 64 < tasks.length ∨ 5000 < picks.length
  · simp [hb]
  · rw [if_neg hb, decide_eq_false hb, cond_false]
    have := loopO_find (step := cell_Mix_l3 mem tasks picks) (fun i => ((i : Nat) : Int)) (fun i => (badTask mem.length tasks i).map fun f => (f, ([] : List Int), ([] : List (List Int)))) (some (match firstAt (badPick tasks.length picks) picks.length with
      | some f => (f, [], [])
      | none => (⟨0, 0⟩, mix0 mem tasks picks))) tasks.length (fun i hi hz => ?_) (fun i r hi hr => ?_) (fun hall => ?_)
    · rw [show ((0 : Nat) : Int) = 0 from rfl] at this
      rw [this]
      cases hf : firstAt (badTask mem.length tasks) tasks.length with
      | none =>
        rw [(firstAt_none _).2 fun i hi => by rw [(firstAt_none _).1 hf i hi]; rfl]
      | some f =>
        obtain ⟨i, g1, g2, g3⟩ := firstAt_some _ hf
        rw [firstAt_at g1 (by rw [g2]; rfl) (fun j hj => by rw [g3 j hj]; rfl)]
    · have hz' : badTask mem.length tasks i = none := by cases hq : badTask mem.length tasks i <;> simp [hq] at hz ⊢
      simp only [badTask, List.getElem?_eq_getElem hi] at hz'
      by_cases hc : (chkF mem.length tasks[i]).Code = 0
      · simp [cell_Mix_l3, ix_get hi, check_eq, hi, hc, wrap_n1 i (by omega)]
      · rw [if_neg hc] at hz'; cases hz'
    · simp only [badTask, List.getElem?_eq_getElem hi] at hr
      by_cases hc : (chkF mem.length tasks[i]).Code = 0
      · rw [if_pos hc] at hr; cases hr
      · rw [if_neg hc] at hr
        cases hr
        simp [cell_Mix_l3, ix_get hi, check_eq, hi, bne_t hc]
    · have hT : tasksOk mem.length tasks := ⟨by omega, badTask_none fun i hi => by
        have := hall i hi
        cases hq : badTask mem.length tasks i <;> simp [hq] at this ⊢⟩
      have e0 : ¬ (((tasks.length : Nat) : Int) < ((tasks.length : Nat) : Int)) := by omega
      simp only [cell_Mix_l3]
      rw [decide_eq_false e0, cond_false]
      congr 1
      have := loopO_find (step := cell_Mix_l2 mem tasks picks) (fun i => ((i : Nat) : Int)) (fun i => (badPick tasks.length picks i).map fun f => (f, ([] : List Int), ([] : List (List Int)))) (some ((⟨0, 0⟩ : Fault), mix0 mem tasks picks)) picks.length (fun i hi hz => ?_) (fun i r hi hr => ?_) (fun hall => ?_)
      · rw [show ((0 : Nat) : Int) = 0 from rfl] at this
        rw [this]
        cases hf : firstAt (badPick tasks.length picks) picks.length with
        | none =>
          rw [(firstAt_none _).2 fun i hi => by rw [(firstAt_none _).1 hf i hi]; rfl]
        | some f =>
          obtain ⟨i, g1, g2, g3⟩ := firstAt_some _ hf
          rw [firstAt_at g1 (by rw [g2]; rfl) (fun j hj => by rw [g3 j hj]; rfl)]
      · have hz' : badPick tasks.length picks i = none := by cases hq : badPick tasks.length picks i <;> simp [hq] at hz ⊢
        simp only [badPick, List.getElem?_eq_getElem hi] at hz'
        by_cases hc : picks[i] < 0 ∨ ((tasks.length : Nat) : Int) ≤ picks[i]
        · rw [if_pos hc] at hz'; cases hz'
        · have hc' : (decide (picks[i] < 0) || decide (((tasks.length : Nat) : Int) ≤ picks[i])) = false := by simpa using hc
          simp [cell_Mix_l2, ix_get hi, hi, hc', wrap_n1 i (by omega)]
      · simp only [badPick, List.getElem?_eq_getElem hi] at hr
        by_cases hc : picks[i] < 0 ∨ ((tasks.length : Nat) : Int) ≤ picks[i]
        · rw [if_pos hc] at hr
          cases hr
          have hc' : (decide (picks[i] < 0) || decide (((tasks.length : Nat) : Int) ≤ picks[i])) = true := by simpa using hc
          simp [cell_Mix_l2, ix_get hi, hi, hc']
        · rw [if_neg hc] at hr; cases hr
      · have hP : picksOk tasks.length picks := ⟨by omega, badPick_none fun i hi => by
          have := hall i hi
          cases hq : badPick tasks.length picks i <;> simp [hq] at this ⊢⟩
        have e0 : ¬ (((picks.length : Nat) : Int) < ((picks.length : Nat) : Int)) := by omega
        have e1 : 0 ≤ ((tasks.length : Nat) : Int) ∧ ((tasks.length : Nat) : Int) ≤ 4611686018427387904 ∧ (24 : Int) * ((tasks.length : Nat) : Int) ≤ 140737488355328 := by omega
        simp only [cell_Mix_l2]
        rw [decide_eq_false e0, cond_false, clone_eq mem hm]
        simp only [Option.bind_some]
        rw [decide_eq_true e1, cond_true, Int.toNat_natCast]
        have := mix_loop hT hP (mem, List.replicate tasks.length []) ⟨rfl, by simp, fun i h h2 => by simp⟩
        rw [show (default : List Int) = [] from rfl, this]
        rfl
end Go.Proofs.Ytolmbmgjpcdngaa
end

section
namespace Go.Proofs.Ytolmbmgjpcdngaa
open Go Go.Sx
def distS (a : List (List Int)) (x : Int × Int) : List (List Int) := a.set x.1.toNat (ixD a x.1 ++ [x.2])
def distF (n : Nat) (whose outs : List Int) : List (List Int) := (whose.zip outs).foldl distS (List.replicate n [])
theorem dist_snoc {n : Nat} {w o : List Int} (h : w.length = o.length) (p x : Int) : distF n (w ++ [p]) (o ++ [x]) = distS (distF n w o) (p, x) := by
  unfold distF
  rw [List.zip_append h, List.foldl_append]; rfl
theorem distS_len (a : List (List Int)) (x : Int × Int) : (distS a x).length = a.length := by simp [distS]
theorem dist_len (n : Nat) (l : List (Int × Int)) : ∀ (a : List (List Int)), a.length = n → (l.foldl distS a).length = n := by
  induction l with
  | nil => exact fun a h => h
  | cons x l ih => exact fun a h => ih _ (by rw [distS_len]; exact h)
theorem distF_len (n : Nat) (w o : List Int) : (distF n w o).length = n := dist_len n _ _ (by simp)
theorem ixD_mem {l : List (List Int)} {p : Int} (h : 0 ≤ p ∧ p < ((l.length : Nat) : Int)) : ixD l p ∈ l := by
  rw [ixD_pos h.1]; exact ix_mem h
/-! ### Mixing, and its order -/
abbrev CS := (List Int × List (List Int)) × (List GOp × List Int)
def cS (tasks : List (List GOp)) (s : CS) (p : Int) : CS :=
  if (ixD s.1.2 p).length < (ix tasks p).length then (mixS tasks s.1 p, (s.2.1 ++ [ix (ix tasks p) (((ixD s.1.2 p).length : Nat) : Int)], s.2.2 ++ [p])) else s
theorem cS_fst (tasks : List (List GOp)) (s : CS) (p : Int) : (cS tasks s p).1 = mixS tasks s.1 p := by
  unfold cS
  split
  · rfl
  · rename_i h
    unfold mixS; rw [if_neg h]
theorem cS_fold (tasks : List (List GOp)) (picks : List Int) : ∀ (s : CS), (picks.foldl (cS tasks) s).1 = picks.foldl (mixS tasks) s.1 := by
  induction picks with
  | nil => exact fun _ => rfl
  | cons p l ih => intro s; rw [List.foldl_cons, List.foldl_cons, ih, cS_fst]
structure CI (mem : List Int) (tasks : List (List GOp)) (k : Nat) (s : CS) : Prop where
  mi : mixI mem.length tasks s.1
  run : s.1.1 = (runM mem s.2.1).1
  dst : s.1.2 = distF tasks.length s.2.2 (runM mem s.2.1).2
  len : s.2.1.length = s.2.2.length
  big : s.2.1.length ≤ k
  ops : ∀ o ∈ s.2.1, opOk mem.length o
  who : ∀ p ∈ s.2.2, 0 ≤ p ∧ p < ((tasks.length : Nat) : Int)
theorem cI_step {mem : List Int} {tasks : List (List GOp)} {k : Nat} {s : CS} (hT : tasksOk mem.length tasks) (h : CI mem tasks k s) {p : Int} (hp : 0 ≤ p ∧ p < ((tasks.length : Nat) : Int)) : CI mem tasks (k + 1) (cS tasks s p) := by
  have hm := mixI_step h.mi hp
  by_cases hl : (ixD s.1.2 p).length < (ix tasks p).length
  · have hin : 0 ≤ (((ixD s.1.2 p).length : Nat) : Int) ∧ (((ixD s.1.2 p).length : Nat) : Int) < (((ix tasks p).length : Nat) : Int) := by omega
    have ho := (hT.2 _ (ix_mem hp)).2.2 _ (ix_mem hin)
    unfold cS
    rw [if_pos hl]
    refine ⟨hm, ?_, ?_, ?_, ?_, ?_, ?_⟩
    · simp only [runM_snoc]
      unfold mixS
      rw [if_pos hl]
      simp only [← h.run]
    · simp only [runM_snoc]
      rw [dist_snoc (by rw [(runM_len _ _).2]; exact h.len.symm), ← h.dst, ← h.run]
      unfold mixS
      rw [if_pos hl]
      rfl
    · simp only [List.length_append, List.length_singleton, h.len]
    · simp only [List.length_append, List.length_singleton]; have := h.big; omega
    · intro o hm
      rcases List.mem_append.1 hm with hm | hm
      · exact h.ops o hm
      · rw [List.mem_singleton.1 hm]; exact ho
    · intro q hm
      rcases List.mem_append.1 hm with hm | hm
      · exact h.who q hm
      · rw [List.mem_singleton.1 hm]; exact hp
  · unfold cS
    rw [if_neg hl]
    exact ⟨h.mi, h.run, h.dst, h.len, by have := h.big; omega, h.ops, h.who⟩
theorem cI_fold {mem : List Int} {tasks : List (List GOp)} (hT : tasksOk mem.length tasks) : ∀ (picks : List Int) (k : Nat) (s : CS), CI mem tasks k s → (∀ p ∈ picks, 0 ≤ p ∧ p < ((tasks.length : Nat) : Int)) → CI mem tasks (k + picks.length) (picks.foldl (cS tasks) s)
  | [], k, s, h, _ => h
  | p :: l, k, s, h, hp => by
    have := cI_fold hT l (k + 1) _ (cI_step hT h (hp p (List.mem_cons_self ..))) fun q hq => hp q (List.mem_cons_of_mem _ hq)
    rw [List.length_cons, show k + (l.length + 1) = k + 1 + l.length from by omega]
    exact this
def c0 (mem : List Int) (tasks : List (List GOp)) : CS := ((mem, List.replicate tasks.length []), ([], []))
theorem cI_0 (mem : List Int) (tasks : List (List GOp)) : CI mem tasks 0 (c0 mem tasks) := ⟨⟨rfl, by simp [c0], fun i h h2 => by simp [c0]⟩, rfl, rfl, rfl, Nat.le_refl _, (fun o h => by cases h), (fun o h => by cases h)⟩
def lens (l : List (List Int)) : List Int := l.map fun x => ((x.length : Nat) : Int)
theorem lens_ix {l : List (List Int)} {p : Int} (h : 0 ≤ p ∧ p < ((l.length : Nat) : Int)) : ix (lens l) p = (((ixD l p).length : Nat) : Int) := by
  obtain ⟨k, rfl⟩ : ∃ k : Nat, p = k := ⟨p.toNat, by omega⟩
  have hk : k < l.length := by omega
  rw [ixD_pos h.1, ix_get hk, ix_get (show k < (lens l).length by simp [lens]; exact hk)]
  simp [lens]
theorem order_eq {mem : List Int} {tasks : List (List GOp)} {picks : List Int} (hT : tasksOk mem.length tasks) (hP : picksOk tasks.length picks) : taskmillref_Order tasks picks = some (picks.foldl (cS tasks) (c0 mem tasks)).2 := by
  unfold taskmillref_Order
  have t64 := hT.1
  have e1 : 0 ≤ ((tasks.length : Nat) : Int) ∧ ((tasks.length : Nat) : Int) ≤ 4611686018427387904 ∧ (8 : Int) * ((tasks.length : Nat) : Int) ≤ 140737488355328 := by omega
  rw [decide_eq_true e1, cond_true, Int.toNat_natCast]
  have := loopO_up (step := taskmillref_Order_l1 tasks picks) picks.length (fun i (a : CS) => (((i : Nat) : Int), lens a.1.2, a.2.1, a.2.2)) (fun i a => CI mem tasks i a) (fun i a => some ((picks.drop i).foldl (cS tasks) a).2) ?_ ?_ (c0 mem tasks) (cI_0 mem tasks)
  · simp only [List.drop_zero] at this
    rw [← this]
    congr 1
    show _ = (((0 : Nat) : Int), lens (List.replicate tasks.length []), [], [])
    simp [lens]
  · intro a ha
    simp [taskmillref_Order_l1]
  · intro i a hi ha
    refine Or.inl ⟨cS tasks a picks[i], ?_, cI_step hT ha (hP.2 _ (List.getElem_mem hi)), by simp only [drop_at hi, List.foldl_cons]⟩
    have hq := hP.2 _ (List.getElem_mem hi)
    have h5 := hP.1
    simp only [taskmillref_Order_l1, ix_get hi]
    generalize picks[i] = p at *
    have hq2 : 0 ≤ p ∧ p < ((a.1.2.length : Nat) : Int) := by rw [ha.mi.2.1]; exact hq
    have hq3 : 0 ≤ p ∧ p < (((lens a.1.2).length : Nat) : Int) := by unfold lens; rw [List.length_map]; exact hq2
    have hi' : (((i : Nat) : Int)) < ((picks.length : Nat) : Int) := by omega
    rw [decide_eq_true hi', cond_true, decide_eq_true (show (0 : Int) ≤ ((i : Nat) : Int) by omega), Bool.and_self, cond_true, inr_t hq3, cond_true, inr_t hq, cond_true, lens_ix hq2]
    unfold taskmillref_Order_j1
    rw [wrap_n1 i (by omega)]
    have hto := hT.2 _ (ix_mem hq)
    have hle := mixI_at ha.mi hq
    by_cases hl : (ixD a.1.2 p).length < (ix tasks p).length
    · have hl' : (((ixD a.1.2 p).length : Nat) : Int) < (((ix tasks p).length : Nat) : Int) := by omega
      have hs1 : (a.2.1 ++ [ix (ix tasks p) (((ixD a.1.2 p).length : Nat) : Int)]).length * 32 ≤ 140737488355328 := by
        have := ha.big
        rw [List.length_append, List.length_singleton]; omega
      have hs2 : (a.2.2 ++ [p]).length * 8 ≤ 140737488355328 := by
        have := ha.big
        have := ha.len
        rw [List.length_append, List.length_singleton]; omega
      rw [decide_eq_true hl', cond_true, cond_true, cond_true, decide_eq_true (show (0 : Int) ≤ (((ixD a.1.2 p).length : Nat) : Int) by omega), Bool.and_self, cond_true, decide_eq_true hs1, cond_true, decide_eq_true hs2, cond_true, cond_true, cond_true]
      have h50 := hto.2.1
      rw [wrap_n1 _ (by omega)]
      unfold cS mixS
      rw [if_pos hl, if_pos hl]
      simp only [lens, List.map_set, List.length_append, List.length_singleton]
    · have hl' : ¬ (((ixD a.1.2 p).length : Nat) : Int) < (((ix tasks p).length : Nat) : Int) := by omega
      rw [decide_eq_false hl', cond_false]
      unfold cS
      rw [if_neg hl]
theorem ran_eq2 {mem : List Int} {ops : List GOp} (hm : mem.length ≤ 10000000) (h5 : ops.length ≤ 5000) (ha : ∀ o ∈ ops, opOk mem.length o) : taskmillref_Ran mem ops = some (runM mem ops) := by
  unfold taskmillref_Ran
  have : mem.length * 8 ≤ 140737488355328 := by omega
  rw [decide_eq_true this, cond_true]
  have := loopO_all (step := taskmillref_Ran_l1 ops) (fun i => (((i : Nat) : Int), (runM mem (ops.take i)).1, (runM mem (ops.take i)).2)) (some (runM mem ops)) ops.length (fun i hi => ?_) ?_
  · simpa [runM] using this
  · have hl := runM_len mem (ops.take i)
    have ho : opOk (runM mem (ops.take i)).1.length ops[i] := by rw [hl.1]; exact ha _ (List.getElem_mem hi)
    obtain ⟨_, _, a1, a2⟩ := opOk_at ho
    rw [take_snoc hi, runM_snoc]
    simp only [taskmillref_Ran_l1, ix_get hi, done_eq, Option.bind_some]
    have hlen : ((runM mem (ops.take i)).2.length + 1) * 8 ≤ 140737488355328 := by
      rw [hl.2, List.length_take]; omega
    simp only [decide_eq_true a1, decide_eq_true a2, Bool.and_self, cond_true]
    simp [hi, hlen, wrap_n1 i (by omega), stepM]
  · simp [taskmillref_Ran_l1]
theorem lists_same (a : List (List Int)) (h1 : a.length ≤ 1000000) (h2 : ∀ x ∈ a, x.length ≤ 1000000) : taskmillref_Lists a a = some true := by
  unfold taskmillref_Lists
  rw [show (((a.length : Nat) : Int) != ((a.length : Nat) : Int)) = false from by simp, cond_false]
  refine loopO_all (step := taskmillref_Lists_l1 a a) (fun i => ((i : Nat) : Int)) (some true) a.length (fun i hi => ?_) ?_
  · have := h2 _ (List.getElem_mem hi)
    simp [taskmillref_Lists_l1, ix_get hi, ints_eq a[i] a[i] (by omega), hi, wrap_n1 i (by omega)]
  · simp [taskmillref_Lists_l1]
theorem tasksFault_eq {mem : List Int} {tasks : List (List GOp)} (ht : tasks.length ≤ 64) : taskmillref_TasksFault mem tasks = some (tasksF mem.length tasks) := by
  unfold taskmillref_TasksFault tasksF
  refine loopO_findP (step := taskmillref_TasksFault_l1 mem tasks) (fun i => ((i : Nat) : Int)) (badTask mem.length tasks) ⟨0, 0⟩ tasks.length (fun i hi _ => ?_) (fun _ => ?_)
  · simp only [badTask, List.getElem?_eq_getElem hi]
    by_cases hc : (chkF mem.length tasks[i]).Code = 0
    · simp [taskmillref_TasksFault_l1, ix_get hi, opsFault_eq, hi, hc, wrap_n1 i (by omega)]
    · simp [taskmillref_TasksFault_l1, ix_get hi, opsFault_eq, hi, hc, bne_t hc]
  · simp [taskmillref_TasksFault_l1]
theorem vast_some (tasks : List (List GOp)) : ∃ b, taskmilllaw_vastTasks tasks = some b := by
  unfold taskmilllaw_vastTasks
  by_cases hb : (1000 : Int) < ((tasks.length : Nat) : Int)
  · rw [decide_eq_true hb, cond_true]; exact ⟨_, rfl⟩
  · rw [decide_eq_false hb, cond_false]
    have := loopO_if (step := taskmilllaw_vastTasks_l1 tasks) (fun i => ((i : Nat) : Int)) (fun i => decide (10000 < (tasks.getD i []).length)) (fun _ => some true) (some false) tasks.length (fun i hi hp => ?_) (fun i hi hp => ?_) (fun _ => ?_)
    · rw [show (0 : Int) = ((0 : Nat) : Int) from rfl, this]
      split <;> exact ⟨_, rfl⟩
    · have hp' : ¬ ((10000 : Int) < ((tasks[i].length : Nat) : Int)) := by simp [hi] at hp; omega
      simp [taskmilllaw_vastTasks_l1, ix_get hi, hi, hp', wrap_n1 i (by omega)]
    · have hp' : ((10000 : Int) < ((tasks[i].length : Nat) : Int)) := by simp [hi] at hp; omega
      simp [taskmilllaw_vastTasks_l1, ix_get hi, hi, hp']
    · simp [taskmilllaw_vastTasks_l1]
/-! ### Mix does what one run does -/
theorem distS_small (k : Nat) {a : List (List Int)} {x : Int × Int} (h : ∀ m ∈ a, m.length ≤ k) : ∀ m ∈ distS a x, m.length ≤ k + 1 := by
  intro m hm
  have hx : (ixD a x.1).length ≤ k := by
    by_cases h0 : 0 ≤ x.1
    · by_cases h1 : x.1 < ((a.length : Nat) : Int)
      · exact h _ (ixD_mem ⟨h0, h1⟩)
      · rw [ixD_pos h0]; unfold ix
        rw [List.getD_eq_getElem?_getD, List.getElem?_eq_none (by omega)]; exact Nat.zero_le _
    · have : ixD a x.1 = [] := by unfold ixD; rw [decide_eq_false h0]; rfl
      rw [this]; exact Nat.zero_le _
  rcases List.mem_or_eq_of_mem_set hm with hm | rfl
  · have := h m hm; omega
  · rw [List.length_append, List.length_singleton]; omega
theorem dist_small (l : List (Int × Int)) : ∀ (a : List (List Int)) (k : Nat), (∀ m ∈ a, m.length ≤ k) → ∀ m ∈ l.foldl distS a, m.length ≤ k + l.length := by
  induction l with
  | nil => exact fun a k h => h
  | cons x l ih =>
    intro a k h m hm
    have := ih _ (k + 1) (distS_small k h) m hm
    rw [List.length_cons]; omega
theorem distF_small (n : Nat) (w o : List Int) : ∀ m ∈ distF n w o, m.length ≤ w.length := fun m hm => by
  have := dist_small (w.zip o) (List.replicate n []) 0 (fun m hm => by rw [List.eq_of_mem_replicate hm]; exact Nat.le_refl _) m hm
  rw [List.length_zip] at this
  omega
theorem mixes_loop {n : Nat} {w outs m : List Int} {ops : List GOp} (h64 : n ≤ 64) (hw : ops.length = w.length) (ho : outs.length = w.length) (h5 : w.length ≤ 5000) (hin : ∀ p ∈ w, 0 ≤ p ∧ p < ((n : Nat) : Int)) (hm : m.length ≤ 10000000) : loopO (taskmilllaw_CellMixes_l1 m (distF n w outs)) (0, ops, w, m, outs, List.replicate n []) = some true := by
  have := loopO_all (step := taskmilllaw_CellMixes_l1 m (distF n w outs)) (fun i => (((i : Nat) : Int), ops, w, m, outs, distF n (w.take i) (outs.take i))) (some true) ops.length (fun i hi => ?_) ?_
  · exact this
  · have hiw : i < w.length := by omega
    have hio : i < outs.length := by omega
    have hq := hin _ (List.getElem_mem hiw)
    simp only [taskmilllaw_CellMixes_l1, ix_get hiw, ix_get hio]
    rw [take_snoc hiw, take_snoc hio, dist_snoc (by rw [List.length_take, List.length_take, ho])]
    have hq2 : 0 ≤ w[i] ∧ w[i] < (((distF n (w.take i) (outs.take i)).length : Nat) : Int) := by rw [distF_len]; exact hq
    have hsm := distF_small n (w.take i) (outs.take i) _ (ixD_mem hq2)
    rw [List.length_take] at hsm
    have hs : (ixD (distF n (w.take i) (outs.take i)) w[i] ++ [outs[i]]).length * 8 ≤ 140737488355328 := by
      rw [List.length_append, List.length_singleton]; omega
    rw [inr_t hq2, decide_eq_true hs]
    simp only [cond_true]
    simp [hi, hiw, hio, wrap_n1 i (by omega), distS]
  · simp only [taskmilllaw_CellMixes_l1]
    rw [List.take_of_length_le (by omega), List.take_of_length_le (by omega), ints_eq m m (by omega), lists_same _ (by rw [distF_len]; omega) (fun x hx => by have := distF_small n w outs x hx; omega)]
    simp [taskmilllaw_CellMixes_j2]
end Go.Proofs.Ytolmbmgjpcdngaa
end

section
namespace Go.Proofs.Ytolmbmgjpcdngaa
open Go Go.Sx
noncomputable def mixK (mem : List Int) (tasks : List (List GOp)) (picks c0 : List Int) (c1 : List (List Int)) (c2 c3 : Fault) : Option Bool :=
  bif (!((c2.Code == c3.Code) && ((c2.At == c3.At) && true))) then (some (false)) else (bif (c3.Code != 0) then (some (((((c0.length : Nat) : Int) == 0) && (((c1.length : Nat) : Int) == 0)))) else ((taskmillref_Order tasks picks).bind fun r2780 => ((taskmillref_Ran mem r2780.1).bind fun r2782 => (bif (decide (0 ≤ ((tasks.length : Nat) : Int) ∧ ((tasks.length : Nat) : Int) ≤ 4611686018427387904 ∧ (24 : Int) * ((tasks.length : Nat) : Int) ≤ 140737488355328)) then (loopO (taskmilllaw_CellMixes_l1 c0 c1) (0, r2780.1, r2780.2, r2782.1, r2782.2, (List.replicate (((tasks.length : Nat) : Int)).toNat (default : (List Int))))) else none))))
theorem mixK_same {mem : List Int} {tasks : List (List GOp)} {picks : List Int} {c : Fault} (h : c.Code ≠ 0) : mixK mem tasks picks [] [] c c = some true := by
  unfold mixK
  rw [fault_same]
  simp [bne_t h]
theorem mixK_run {mem : List Int} {tasks : List (List GOp)} {picks : List Int} (hm : mem.length ≤ 10000000) (hT : tasksOk mem.length tasks) (hP : picksOk tasks.length picks) : mixK mem tasks picks (mix0 mem tasks picks).1 (mix0 mem tasks picks).2 ⟨0, 0⟩ ⟨0, 0⟩ = some true := by
  unfold mixK
  have t64 := hT.1
  have e1 : 0 ≤ ((tasks.length : Nat) : Int) ∧ ((tasks.length : Nat) : Int) ≤ 4611686018427387904 ∧ (24 : Int) * ((tasks.length : Nat) : Int) ≤ 140737488355328 := by omega
  have hI := cI_fold hT picks 0 _ (cI_0 mem tasks) hP.2
  have hf := cS_fold tasks picks (c0 mem tasks)
  rw [order_eq hT hP]
  have h5 := hP.1
  have hb := hI.big
  have he : mix0 mem tasks picks = (picks.foldl (cS tasks) (c0 mem tasks)).1 := hf.symm
  rw [he]
  generalize picks.foldl (cS tasks) (c0 mem tasks) = s at *
  simp only [Option.bind_some]
  rw [ran_eq2 hm (by omega) hI.ops]
  simp only [Option.bind_some]
  rw [decide_eq_true e1, Int.toNat_natCast, hI.run, hI.dst, show (default : List Int) = [] from rfl]
  rw [mixes_loop t64 hI.len (by rw [(runM_len _ _).2]; exact hI.len) (by have := hI.len; omega) hI.who (by rw [(runM_len _ _).1]; exact hm)]
  rfl
theorem mixes_k {mem : List Int} {tasks : List (List GOp)} {picks c0 : List Int} {c1 : List (List Int)} {c2 : Fault} (h5 : picks.length ≤ 5000) : taskmilllaw_CellMixes_j3 mem tasks picks c0 c1 c2 ⟨0, 0⟩ = mixK mem tasks picks c0 c1 c2 ((firstAt (badPick tasks.length picks) picks.length).getD ⟨0, 0⟩) := by
  unfold taskmilllaw_CellMixes_j3
  refine loopO_find2 (step := taskmilllaw_CellMixes_l2 mem tasks picks c0 c1 c2) (fun i => (((i : Nat) : Int), (⟨0, 0⟩ : Fault))) (fun i x => (((i + 1 : Nat) : Int), x)) (badPick tasks.length picks) (fun o => mixK mem tasks picks c0 c1 c2 (o.getD ⟨0, 0⟩)) picks.length (fun i hi hz => ?_) (fun i f hi hr => ?_) (fun i f hi hr => ?_) (fun _ => ?_)
  · simp only [badPick, List.getElem?_eq_getElem hi] at hz
    by_cases hc : picks[i] < 0 ∨ ((tasks.length : Nat) : Int) ≤ picks[i]
    · rw [if_pos hc] at hz; cases hz
    · have hc' : (decide (picks[i] < 0) || decide (((tasks.length : Nat) : Int) ≤ picks[i])) = false := by simpa using hc
      simp [taskmilllaw_CellMixes_l2, taskmilllaw_CellMixes_j1, ix_get hi, hi, hc', wrap_n1 i (by omega)]
  · simp only [badPick, List.getElem?_eq_getElem hi] at hr
    by_cases hc : picks[i] < 0 ∨ ((tasks.length : Nat) : Int) ≤ picks[i]
    · rw [if_pos hc] at hr
      cases hr
      have hc' : (decide (picks[i] < 0) || decide (((tasks.length : Nat) : Int) ≤ picks[i])) = true := by simpa using hc
      simp [taskmilllaw_CellMixes_l2, taskmilllaw_CellMixes_j1, ix_get hi, hi, hc', wrap_n1 i (by omega)]
    · rw [if_neg hc] at hr; cases hr
  · have := badPick_code hr
    subst this
    simp [taskmilllaw_CellMixes_l2, mixK]
  · simp [taskmilllaw_CellMixes_l2, mixK]
theorem mixes_k2 {mem : List Int} {tasks : List (List GOp)} {picks c0 : List Int} {c1 : List (List Int)} {c2 c3 : Fault} (h : c3.Code ≠ 0) : taskmilllaw_CellMixes_j3 mem tasks picks c0 c1 c2 c3 = mixK mem tasks picks c0 c1 c2 c3 := by
  unfold taskmilllaw_CellMixes_j3
  refine loopO_out ?_
  unfold taskmilllaw_CellMixes_l2 mixK
  simp only [beq_f h, Bool.and_false, cond_false]
theorem CellMixes_eq (mem : List Int) (tasks : List (List GOp)) (picks : List Int) (hm : mem.length ≤ 10000000) (hp : picks.length ≤ 10000000) : taskmilllaw_CellMixes mem tasks picks = some true := by
  unfold taskmilllaw_CellMixes
  obtain ⟨b, hb⟩ := vast_some tasks
  simp only [begun_eq, Option.bind_some, Bool.not_true, cond_false, hb]
  cases b with
  | true => rfl
  | false =>
    rw [cond_false, own_eq mem hm, own_eq picks hp]
    simp only [Option.bind_some]
    rw [mix_eq mem tasks picks hm, sizes]
    simp only [Option.bind_some, F_eq]
    by_cases hs : 64 < tasks.length ∨ 5000 < picks.length
    · have : mixF mem.length tasks picks = some ⟨2, 0⟩ := by unfold mixF; rw [if_pos hs]
      rw [decide_eq_true hs, cond_true, this]
      exact (mixes_k2 (c3 := ⟨2, 0⟩) (show (2 : Int) ≠ 0 by decide)).trans (mixK_same (c := ⟨2, 0⟩) (show (2 : Int) ≠ 0 by decide))
    · rw [decide_eq_false hs, cond_false, tasksFault_eq (by omega)]
      simp only [Option.bind_some]
      unfold tasksF
      cases hf : firstAt (badTask mem.length tasks) tasks.length with
      | some f =>
        have hx : mixF mem.length tasks picks = some f := by unfold mixF; rw [if_neg hs, hf]
        rw [hx]
        simp only [Option.getD_some]
        rw [mixes_k2 (mixF_code hx)]
        exact mixK_same (mixF_code hx)
      | none =>
        have hx : mixF mem.length tasks picks = firstAt (badPick tasks.length picks) picks.length := by unfold mixF; rw [if_neg hs, hf]
        rw [hx]
        simp only [Option.getD_none]
        rw [mixes_k (by omega)]
        cases hg : firstAt (badPick tasks.length picks) picks.length with
        | some f => 
          rw [hg] at hx
          exact mixK_same (mixF_code hx)
        | none =>
          rw [hg] at hx
          obtain ⟨hT, hP⟩ := mixF_none hx
          exact mixK_run hm hT hP
end Go.Proofs.Ytolmbmgjpcdngaa
end
