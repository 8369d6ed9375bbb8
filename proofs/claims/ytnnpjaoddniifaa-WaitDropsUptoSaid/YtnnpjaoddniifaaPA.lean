/-
  P, part A: plain lemmas: loops by invariants, numbers that fit, lists by places.
-/
import Derived.Test.YtnnpjaoddniifaaGE
set_option linter.unusedSimpArgs false
set_option linter.unusedVariables false
namespace Go.Sx
open Go
set_option linter.unusedVariables false
theorem wrap_id {x : Int} (h1 : -9223372036854775808 ≤ x) (h2 : x ≤ 9223372036854775807) : IntKind.i64.wrap x = x := by
  simp only [IntKind.wrap, IntKind.bits, IntKind.signed, if_true]
  simp
  omega
theorem wf64 {x : Int} (h : (Lit.int .i64 x).wf = true) : -9223372036854775808 ≤ x ∧ x ≤ 9223372036854775807 := by
  simpa [Lit.wf, IntKind.min, IntKind.max, IntKind.signed, IntKind.bits] using h
theorem wrap_n1 (i : Nat) (h : i < 4611686018427387904) : IntKind.i64.wrap ((i : Int) + 1) = ((i + 1 : Nat) : Int) := by
  rw [wrap_id (by omega) (by omega)]; rfl
/-- A loop that ends. -/
theorem loopO_inv {S ρ : Type} {step : S → Option (S ⊕ ρ)} (I : S → Prop) (mu : S → Nat) (Post : ρ → Prop)
    (hs : ∀ s, I s → (∃ s', step s = some (.inl s') ∧ I s' ∧ mu s' < mu s) ∨ (∃ r, step s = some (.inr r) ∧ Post r)) {s0 : S} (h0 : I s0) : ∃ r, loopO step s0 = some r ∧ Post r := by
  have gen : ∀ (n : Nat) (s : S), mu s ≤ n → I s → ∃ r, loopO step s = some r ∧ Post r := by
    intro n
    induction n with
    | zero =>
      intro s hm hi
      rcases hs s hi with ⟨s', _, _, h3⟩ | ⟨r, h1, h2⟩
      · omega
      · exact ⟨r, loopO_inr h1, h2⟩
    | succ n ih =>
      intro s hm hi
      rcases hs s hi with ⟨s', h1, h2, h3⟩ | ⟨r, h1, h2⟩
      · rw [loopO_inl h1]; exact ih s' (by omega) h2
      · exact ⟨r, loopO_inr h1, h2⟩
  exact gen _ s0 (Nat.le_refl _) h0
/-- A loop, and what comes of it from each state on. -/
theorem loopO_eqv {S ρ : Type} {step : S → Option (S ⊕ ρ)} (F : S → Option ρ) (I : S → Prop) (mu : S → Nat)
    (hs : ∀ s, I s → (∃ s', step s = some (.inl s') ∧ I s' ∧ mu s' < mu s ∧ F s = F s') ∨ step s = (F s).map .inr) {s0 : S} (h0 : I s0) : loopO step s0 = F s0 := by
  have gen : ∀ (n : Nat) (s : S), mu s ≤ n → I s → loopO step s = F s := by
    intro n
    induction n with
    | zero =>
      intro s hm hi
      rcases hs s hi with ⟨s', _, _, h3, _⟩ | h1
      · omega
      · exact loopO_out h1
    | succ n ih =>
      intro s hm hi
      rcases hs s hi with ⟨s', h1, h2, h3, h4⟩ | h1
      · rw [loopO_inl h1, h4]; exact ih s' (by omega) h2
      · exact loopO_out h1
  exact gen _ s0 (Nat.le_refl _) h0
/-- What the first place tells at which something is told. -/
def firstAt {β : Type} (bad : Nat → Option β) : Nat → Option β
  | 0 => none
  | n + 1 => (firstAt bad n).or (bad n)
theorem firstAt_congr {β : Type} {f g : Nat → Option β} : ∀ (n : Nat), (∀ i, i < n → f i = g i) → firstAt f n = firstAt g n
  | 0, _ => rfl
  | n + 1, h => by simp only [firstAt]; rw [firstAt_congr n fun i hi => h i (by omega), h n (by omega)]
theorem firstAt_none {β : Type} {f : Nat → Option β} : ∀ (n : Nat), firstAt f n = none ↔ ∀ i, i < n → f i = none
  | 0 => by simp [firstAt]
  | n + 1 => by
    simp only [firstAt, Option.or_eq_none_iff, firstAt_none n]
    constructor
    · rintro ⟨h1, h2⟩ i hi
      by_cases h : i = n
      · subst h; exact h2
      · exact h1 i (by omega)
    · exact fun h => ⟨fun i hi => h i (by omega), h n (by omega)⟩
theorem firstAt_some {β : Type} {f : Nat → Option β} {b : β} : ∀ (n : Nat), firstAt f n = some b → ∃ i, i < n ∧ f i = some b ∧ ∀ j, j < i → f j = none
  | 0, h => by simp [firstAt] at h
  | n + 1, h => by
    simp only [firstAt] at h
    cases hf : firstAt f n with
    | some c =>
      rw [hf] at h
      obtain ⟨i, h1, h2, h3⟩ := firstAt_some n hf
      simp only [Option.some_or] at h
      exact ⟨i, by omega, by rw [h2, h], h3⟩
    | none =>
      rw [hf] at h
      simp only [Option.none_or] at h
      exact ⟨n, by omega, h, fun j hj => (firstAt_none n).1 hf j hj⟩
theorem firstAt_at {β : Type} {f : Nat → Option β} {b : β} {n i : Nat} (hi : i < n) (h : f i = some b) (hj : ∀ j, j < i → f j = none) : firstAt f n = some b := by
  cases hf : firstAt f n with
  | none => rw [(firstAt_none n).1 hf i hi] at h; cases h
  | some c =>
    obtain ⟨k, h1, h2, h3⟩ := firstAt_some n hf
    by_cases hki : k < i
    · rw [hj k hki] at h2; cases h2
    · by_cases hik : i < k
      · rw [h3 i hik] at h; cases h
      · have : k = i := by omega
        subst this; rw [h] at h2; exact h2.symm
/-- A loop whose state is known at each place: it stops at the first place at which something is told. -/
theorem loopO_find {S ρ : Type} {step : S → Option (S ⊕ ρ)} (E : Nat → S) (bad : Nat → Option ρ) (rest : Option ρ) (n : Nat)
    (h1 : ∀ i, i < n → bad i = none → step (E i) = some (.inl (E (i + 1)))) (h2 : ∀ i r, i < n → bad i = some r → step (E i) = some (.inr r)) (h3 : (∀ i, i < n → bad i = none) → step (E n) = rest.map .inr) :
    loopO step (E 0) = match firstAt bad n with
      | some r => some r
      | none => rest := by
  have walk : ∀ k, k ≤ n → (∀ i, i < k → bad i = none) → loopO step (E 0) = loopO step (E k) := by
    intro k
    induction k with
    | zero => exact fun _ _ => rfl
    | succ k ih =>
      intro hk hb
      rw [ih (by omega) fun i hi => hb i (by omega), loopO_inl (h1 k (by omega) (hb k (by omega)))]
  cases hf : firstAt bad n with
  | none =>
    have hb := (firstAt_none n).1 hf
    rw [walk n (Nat.le_refl _) hb, loopO_out (h3 hb)]
  | some r =>
    obtain ⟨i, g1, g2, g3⟩ := firstAt_some n hf
    rw [walk i (by omega) g3, loopO_inr (h2 i r g1 g2)]
/-- .. and something is told at the end. -/
theorem loopO_findD {S ρ : Type} {step : S → Option (S ⊕ ρ)} (E : Nat → S) (bad : Nat → Option ρ) (d : ρ) (n : Nat)
    (h1 : ∀ i, i < n → bad i = none → step (E i) = some (.inl (E (i + 1)))) (h2 : ∀ i r, i < n → bad i = some r → step (E i) = some (.inr r)) (h3 : (∀ i, i < n → bad i = none) → step (E n) = some (.inr d)) :
    loopO step (E 0) = some ((firstAt bad n).getD d) := by
  rw [loopO_find E bad (some d) n h1 h2 (fun h => by rw [h3 h]; rfl)]
  cases firstAt bad n <;> rfl
/-- .. what is told is asked for ahead of the next step. -/
theorem loopO_find2 {S ρ β : Type} {step : S → Option (S ⊕ ρ)} (E : Nat → S) (T : Nat → β → S) (bad : Nat → Option β) (rest : Option β → Option ρ) (n : Nat)
    (h1 : ∀ i, i < n → bad i = none → step (E i) = some (.inl (E (i + 1)))) (h2 : ∀ i x, i < n → bad i = some x → step (E i) = some (.inl (T i x))) (h3 : ∀ i x, i < n → bad i = some x → step (T i x) = (rest (some x)).map .inr) (h4 : (∀ i, i < n → bad i = none) → step (E n) = (rest none).map .inr) :
    loopO step (E 0) = rest (firstAt bad n) := by
  have walk : ∀ k, k ≤ n → (∀ i, i < k → bad i = none) → loopO step (E 0) = loopO step (E k) := by
    intro k
    induction k with
    | zero => exact fun _ _ => rfl
    | succ k ih =>
      intro hk hb
      rw [ih (by omega) fun i hi => hb i (by omega), loopO_inl (h1 k (by omega) (hb k (by omega)))]
  cases hf : firstAt bad n with
  | none =>
    have hb := (firstAt_none n).1 hf
    rw [walk n (Nat.le_refl _) hb, loopO_out (h4 hb)]
  | some x =>
    obtain ⟨i, g1, g2, g3⟩ := firstAt_some n hf
    rw [walk i (by omega) g3, loopO_inl (h2 i x g1 g2), loopO_out (h3 i x g1 g2)]
/-- A loop that goes through all places. -/
theorem loopO_all {S ρ : Type} {step : S → Option (S ⊕ ρ)} (E : Nat → S) (rest : Option ρ) (n : Nat)
    (h1 : ∀ i, i < n → step (E i) = some (.inl (E (i + 1)))) (h3 : step (E n) = rest.map .inr) : loopO step (E 0) = rest := by
  have := loopO_find E (fun _ => none) rest n (fun i hi _ => h1 i hi) (fun i r _ h => by cases h) (fun _ => h3)
  rw [this, (firstAt_none n).2 fun _ _ => rfl]
theorem ix_get {α : Type} [Enc α] {xs : List α} {i : Nat} (h : i < xs.length) : ix xs ((i : Nat) : Int) = xs[i] := by
  simp [ix, List.getD_eq_getElem?_getD, h]
theorem cut_take {α : Type} (xs : List α) (i : Nat) : cut xs 0 ((i : Nat) : Int) = xs.take i := by simp [cut]
theorem cut_drop {α : Type} (xs : List α) (i : Nat) : cut xs ((i : Nat) : Int) ((xs.length : Nat) : Int) = xs.drop i := by
  simp only [cut, Int.toNat_natCast]
  rw [List.take_of_length_le]; simp
theorem cut_take' {α : Type} (xs : List α) {n : Int} {i : Nat} (h : n = (i : Int)) : cut xs 0 n = xs.take i := by subst h; exact cut_take xs i
theorem cut_drop' {α : Type} (xs : List α) {n : Int} {i : Nat} (h : n = (i : Int)) : cut xs n ((xs.length : Nat) : Int) = xs.drop i := by subst h; exact cut_drop xs i
/-- Lists of as many numbers are the same, or differ at a place. -/
theorem list_eq_iff {α : Type} {a b : List α} (h : a.length = b.length) : a = b ↔ ∀ i (h1 : i < a.length) (h2 : i < b.length), a[i] = b[i] :=
  ⟨fun e => by subst e; exact fun _ _ _ => rfl, fun g => List.ext_getElem h g⟩
/-! ### Maps that tell who is there -/
theorem miGet_set (m : List (Int × Int)) (a v k : Int) : miGet (miSet m a v) k = if k = a then v else miGet m k := by
  induction m with
  | nil =>
    by_cases h : k = a
    · subst h; simp [miSet, miGet]
    · simp [miSet, miGet, h]
  | cons p r ih =>
    simp only [miSet]
    cases ha : (a == p.1) with
    | true =>
      have : a = p.1 := by simpa using ha
      subst this
      by_cases h : k = p.1
      · subst h; simp [miGet]
      · simp [miGet, h]
    | false =>
      have hap : a ≠ p.1 := by simpa using ha
      simp only [cond_false]
      by_cases h : k = p.1
      · subst h
        rw [if_neg (fun e => hap e.symm)]
        simp [miGet]
      · have e : ∀ (m : List (Int × Int)), miGet (p :: m) k = miGet m k := fun m => by
          simp [miGet, List.find?_cons, show (k == p.1) = false from by simpa using h]
        rw [e, e, ih]
def setAll (m : List (Int × Int)) (l : List Int) : List (Int × Int) := l.foldl (fun m x => miSet m x 1) m
theorem miGet_setAll (l : List Int) : ∀ (m : List (Int × Int)) (k : Int), miGet (setAll m l) k = if k ∈ l then 1 else miGet m k := by
  induction l with
  | nil => intro m k; simp [setAll]
  | cons a l ih =>
    intro m k
    show miGet (setAll (miSet m a 1) l) k = _
    rw [ih, miGet_set]
    by_cases h1 : k ∈ l
    · simp [h1]
    · by_cases h2 : k = a
      · subst h2; simp
      · simp [h1, h2]
theorem setAll_snoc (m : List (Int × Int)) (l : List Int) (i : Nat) (h : i < l.length) : setAll m (l.take (i + 1)) = miSet (setAll m (l.take i)) l[i] 1 := by
  rw [setAll, List.take_succ_eq_append_getElem h, List.foldl_append]; rfl
theorem miGet_nil (k : Int) : miGet [] k = 0 := rfl
/-! ### Functions that many seats have -/
/-- Are two lists of as many numbers the same? -/
theorem ints_gen {step : Int → Option (Int ⊕ Bool)} (a b : List Int) (hl : a.length = b.length) (hn : a.length < 4611686018427387904)
    (h : ∀ i, step i = (bif (decide (i < ((a.length : Nat) : Int))) then (bif ((decide ((0 : Int) ≤ i)) && (decide (i < ((a.length : Nat) : Int)))) then (bif ((decide ((0 : Int) ≤ i)) && (decide (i < ((b.length : Nat) : Int)))) then (bif ((ix a i) != (ix b i)) then (Option.map Sum.inr (some (false))) else (some (Sum.inl ((IntKind.i64.wrap (i + 1)))))) else none) else none) else (Option.map Sum.inr (some (true))))) :
    loopO step 0 = some (decide (a = b)) := by
  have := loopO_find (step := step) (fun i => ((i : Nat) : Int)) (fun i => if a[i]? = b[i]? then none else some false) (some true) a.length (fun i hi hb => ?_) (fun i r hi hb => ?_) (fun _ => ?_)
  · rw [show ((0 : Nat) : Int) = 0 from rfl] at this
    rw [this]
    cases hf : firstAt (fun i => if a[i]? = b[i]? then none else some false) a.length with
    | none =>
      have := (firstAt_none _).1 hf
      have e : a = b := (list_eq_iff hl).2 fun i h1 h2 => by
        have := this i h1
        simpa [h1, h2] using this
      simp [e]
    | some r =>
      obtain ⟨i, h1, h2, _⟩ := firstAt_some _ hf
      have : a ≠ b := fun e => by subst e; simp at h2
      split at h2
      · cases h2
      · cases h2; simp [this]
  · rw [h]
    have hi2 : i < b.length := by omega
    have e : a[i] = b[i] := by simpa [hi, hi2] using hb
    simp [hi, hi2, ix_get hi, ix_get hi2, e, wrap_n1 i (by omega), Bool.cond_eq_ite]
  · rw [h]
    have hi2 : i < b.length := by omega
    have e : ¬ a[i] = b[i] ∧ false = r := by simpa [hi, hi2] using hb
    simp [hi, hi2, ix_get hi, ix_get hi2, e.1, ← e.2, Bool.cond_eq_ite]
  · rw [h]; simp
/-- Is a number in a list? -/
theorem has_gen {step : Int → Option (Int ⊕ Bool)} (l : List Int) (n : Int) (hn : l.length < 4611686018427387904)
    (h : ∀ i, step i = (bif (decide (i < ((l.length : Nat) : Int))) then (bif ((decide ((0 : Int) ≤ i)) && (decide (i < ((l.length : Nat) : Int)))) then (bif ((ix l i) == n) then (Option.map Sum.inr (some (true))) else (some (Sum.inl ((IntKind.i64.wrap (i + 1)))))) else none) else (Option.map Sum.inr (some (false))))) :
    loopO step 0 = some (decide (n ∈ l)) := by
  have := loopO_find (step := step) (fun i => ((i : Nat) : Int)) (fun i => if l[i]? = some n then some true else none) (some false) l.length (fun i hi hb => ?_) (fun i r hi hb => ?_) (fun _ => ?_)
  · rw [show ((0 : Nat) : Int) = 0 from rfl] at this
    rw [this]
    cases hf : firstAt (fun i => if l[i]? = some n then some true else none) l.length with
    | none =>
      have := (firstAt_none _).1 hf
      have e : n ∉ l := fun hm => by
        obtain ⟨i, hi, e⟩ := List.getElem_of_mem hm
        have := this i hi
        simp [hi, e] at this
      simp [e]
    | some r =>
      obtain ⟨i, h1, h2, _⟩ := firstAt_some _ hf
      split at h2
      · rename_i he
        cases h2
        have : n ∈ l := List.mem_of_getElem? he
        simp [this]
      · cases h2
  · rw [h]
    have e : ¬ l[i] = n := by simpa [hi] using hb
    simp [hi, ix_get hi, e, wrap_n1 i (by omega), Bool.cond_eq_ite]
  · rw [h]
    have e : l[i] = n ∧ true = r := by simpa [hi] using hb
    simp [hi, ix_get hi, e.1, ← e.2, Bool.cond_eq_ite]
  · rw [h]; simp
/-- The place of a number in a list. -/
theorem index_gen {step : Int → Option (Int ⊕ Int)} (l : List Int) (n : Int) (hn : l.length < 4611686018427387904)
    (h : ∀ i, step i = (bif (decide (i < ((l.length : Nat) : Int))) then (bif ((decide ((0 : Int) ≤ i)) && (decide (i < ((l.length : Nat) : Int)))) then (bif (n == (ix l i)) then (Option.map Sum.inr (some (i))) else (some (Sum.inl ((IntKind.i64.wrap (i + 1)))))) else none) else (Option.map Sum.inr (some ((-1)))))) :
    ∃ r, loopO step 0 = some r ∧ (n ∈ l → ∃ i : Nat, r = i ∧ l[i]? = some n ∧ ∀ j < i, l[j]? ≠ some n) ∧ (n ∉ l → r = -1) := by
  have := loopO_find (step := step) (fun i => ((i : Nat) : Int)) (fun i => if l[i]? = some n then some (i : Int) else none) (some (-1)) l.length (fun i hi hb => ?_) (fun i r hi hb => ?_) (fun _ => ?_)
  · rw [show ((0 : Nat) : Int) = 0 from rfl] at this
    rw [this]
    cases hf : firstAt (fun i => if l[i]? = some n then some (i : Int) else none) l.length with
    | none =>
      have := (firstAt_none _).1 hf
      have e : n ∉ l := fun hm => by
        obtain ⟨i, hi, e⟩ := List.getElem_of_mem hm
        have := this i hi
        simp [hi, e] at this
      exact ⟨_, rfl, fun h => absurd h e, fun _ => rfl⟩
    | some r =>
      obtain ⟨i, h1, h2, h3⟩ := firstAt_some _ hf
      split at h2
      · rename_i he
        cases h2
        have hm : n ∈ l := List.mem_of_getElem? he
        refine ⟨_, rfl, fun _ => ⟨i, rfl, he, fun j hj hh => ?_⟩, fun h => absurd hm h⟩
        have := h3 j hj
        simp [hh] at this
      · cases h2
  · rw [h]
    have e : ¬ l[i] = n := by simpa [hi] using hb
    have e' : ¬ n = l[i] := fun h => e h.symm
    simp [hi, ix_get hi, e', wrap_n1 i (by omega), Bool.cond_eq_ite]
  · rw [h]
    have e : l[i] = n ∧ (i : Int) = r := by simpa [hi] using hb
    simp [hi, ix_get hi, e.1, ← e.2, Bool.cond_eq_ite]
  · rw [h]; simp
/-- The first place at which a test holds. -/
def firstIf (p : Nat → Bool) (n : Nat) : Option Nat := firstAt (fun i => bif p i then some i else none) n
theorem firstIf_none {p : Nat → Bool} {n : Nat} : firstIf p n = none ↔ ∀ i, i < n → p i = false := by
  unfold firstIf
  rw [firstAt_none]
  constructor
  · intro h i hi
    have := h i hi
    cases hp : p i with
    | false => rfl
    | true => rw [hp] at this; cases this
  · intro h i hi
    rw [h i hi]; rfl
theorem firstIf_some {p : Nat → Bool} {n i : Nat} (h : firstIf p n = some i) : i < n ∧ p i = true ∧ ∀ j, j < i → p j = false := by
  obtain ⟨k, h1, h2, h3⟩ := firstAt_some _ h
  cases hp : p k with
  | false => rw [hp] at h2; cases h2
  | true =>
    rw [hp] at h2; cases h2
    refine ⟨h1, hp, fun j hj => ?_⟩
    have := h3 j hj
    cases hq : p j with
    | false => rfl
    | true => rw [hq] at this; cases this
theorem firstIf_congr {p q : Nat → Bool} (n : Nat) (h : ∀ i, i < n → p i = q i) : firstIf p n = firstIf q n :=
  firstAt_congr n fun i hi => by rw [h i hi]
theorem loopO_if {S ρ : Type} {step : S → Option (S ⊕ ρ)} (E : Nat → S) (p : Nat → Bool) (R : Nat → Option ρ) (rest : Option ρ) (n : Nat)
    (h1 : ∀ i, i < n → p i = false → step (E i) = some (.inl (E (i + 1)))) (h2 : ∀ i, i < n → p i = true → step (E i) = (R i).map .inr) (h3 : (∀ i, i < n → p i = false) → step (E n) = rest.map .inr) :
    loopO step (E 0) = match firstIf p n with
      | some i => R i
      | none => rest := by
  have walk : ∀ k, k ≤ n → (∀ i, i < k → p i = false) → loopO step (E 0) = loopO step (E k) := by
    intro k
    induction k with
    | zero => exact fun _ _ => rfl
    | succ k ih =>
      intro hk hb
      rw [ih (by omega) fun i hi => hb i (by omega), loopO_inl (h1 k (by omega) (hb k (by omega)))]
  cases hf : firstIf p n with
  | none =>
    have hb := firstIf_none.1 hf
    rw [walk n (Nat.le_refl _) hb, loopO_out (h3 hb)]
  | some i =>
    obtain ⟨g1, g2, g3⟩ := firstIf_some hf
    rw [walk i (by omega) g3, loopO_out (h2 i g1 g2)]
/-- .. where the test sets what is asked for ahead of the next step. -/
theorem loopO_if2 {S ρ : Type} {step : S → Option (S ⊕ ρ)} (E : Nat → S) (T : Nat → S) (p : Nat → Bool) (R : Nat → Option ρ) (rest : Option ρ) (n : Nat)
    (h1 : ∀ i, i < n → p i = false → step (E i) = some (.inl (E (i + 1)))) (h2 : ∀ i, i < n → p i = true → step (E i) = some (.inl (T i))) (h2' : ∀ i, i < n → firstIf p n = some i → step (T i) = (R i).map .inr) (h3 : (∀ i, i < n → p i = false) → step (E n) = rest.map .inr) :
    loopO step (E 0) = match firstIf p n with
      | some i => R i
      | none => rest := by
  have walk : ∀ k, k ≤ n → (∀ i, i < k → p i = false) → loopO step (E 0) = loopO step (E k) := by
    intro k
    induction k with
    | zero => exact fun _ _ => rfl
    | succ k ih =>
      intro hk hb
      rw [ih (by omega) fun i hi => hb i (by omega), loopO_inl (h1 k (by omega) (hb k (by omega)))]
  cases hf : firstIf p n with
  | none =>
    have hb := firstIf_none.1 hf
    rw [walk n (Nat.le_refl _) hb, loopO_out (h3 hb)]
  | some i =>
    obtain ⟨g1, g2, g3⟩ := firstIf_some hf
    rw [walk i (by omega) g3, loopO_inl (h2 i g1 g2), loopO_out (h2' i g1 hf)]
end Go.Sx
