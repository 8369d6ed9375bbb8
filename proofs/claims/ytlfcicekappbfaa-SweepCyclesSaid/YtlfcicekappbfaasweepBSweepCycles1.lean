/-
  Lemmas, put together: QA, QB, QC, sweepP, sweepP2, sweepP3, sweepP4, sweepP5, sweepP6, sweepP7, sweepP8.
  No conditions.
-/
import Derived.Test.YtlfcicekappbfaasweepA3
import Derived.Test.YtlfcicekappbfaasweepG
set_option linter.unusedSimpArgs false
set_option linter.unusedVariables false
section
namespace Go.Sx
open Go
set_option linter.unusedVariables false
theorem wrap_id {x : Int} (h1 : -9223372036854775808 ≤ x) (h2 : x ≤ 9223372036854775807) : IntKind.i64.wrap x = x := by
  simp only [IntKind.wrap, IntKind.bits, IntKind.signed, if_true]
  simp
  omega
theorem wf64 {x : Int} (h : (Lit.int .i64 x).wf = true) : -9223372036854775808 ≤ x ∧ x ≤ 9223372036854775807 := by
  simpa [Lit.wf, IntKind.min, IntKind.max, IntKind.signed, IntKind.bits] using h
theorem wrap_n1 (i : Nat) (h : i < 4611686018427387904) : IntKind.i64.wrap ((i : Int) + 1) = ((i + 1 : Nat) : Int) := by
  rw [wrap_id (by omega) (by omega)]; rfl
/-- A loop that ends. -/
theorem loopO_inv {S ρ : Type} {step : S → Option (S ⊕ ρ)} (I : S → Prop) (mu : S → Nat) (Post : ρ → Prop)
    (hs : ∀ s, I s → (∃ s', step s = some (.inl s') ∧ I s' ∧ mu s' < mu s) ∨ (∃ r, step s = some (.inr r) ∧ Post r)) {s0 : S} (h0 : I s0) : ∃ r, loopO step s0 = some r ∧ Post r := by
  have gen : ∀ (n : Nat) (s : S), mu s ≤ n → I s → ∃ r, loopO step s = some r ∧ Post r := by
    intro n
    induction n with
    | zero =>
      intro s hm hi
      rcases hs s hi with ⟨s', _, _, h3⟩ | ⟨r, h1, h2⟩
      · omega
      · exact ⟨r, loopO_inr h1, h2⟩
    | succ n ih =>
      intro s hm hi
      rcases hs s hi with ⟨s', h1, h2, h3⟩ | ⟨r, h1, h2⟩
      · rw [loopO_inl h1]; exact ih s' (by omega) h2
      · exact ⟨r, loopO_inr h1, h2⟩
  exact gen _ s0 (Nat.le_refl _) h0
/-- A loop, and what comes of it from each state on. -/
theorem loopO_eqv {S ρ : Type} {step : S → Option (S ⊕ ρ)} (F : S → Option ρ) (I : S → Prop) (mu : S → Nat)
    (hs : ∀ s, I s → (∃ s', step s = some (.inl s') ∧ I s' ∧ mu s' < mu s ∧ F s = F s') ∨ step s = (F s).map .inr) {s0 : S} (h0 : I s0) : loopO step s0 = F s0 := by
  have gen : ∀ (n : Nat) (s : S), mu s ≤ n → I s → loopO step s = F s := by
    intro n
    induction n with
    | zero =>
      intro s hm hi
      rcases hs s hi with ⟨s', _, _, h3, _⟩ | h1
      · omega
      · exact loopO_out h1
    | succ n ih =>
      intro s hm hi
      rcases hs s hi with ⟨s', h1, h2, h3, h4⟩ | h1
      · rw [loopO_inl h1, h4]; exact ih s' (by omega) h2
      · exact loopO_out h1
  exact gen _ s0 (Nat.le_refl _) h0
/-- What the first place tells at which something is told. -/
def firstAt {β : Type} (bad : Nat → Option β) : Nat → Option β
  | 0 => none
  | n + 1 => (firstAt bad n).or (bad n)
theorem firstAt_congr {β : Type} {f g : Nat → Option β} : ∀ (n : Nat), (∀ i, i < n → f i = g i) → firstAt f n = firstAt g n
  | 0, _ => rfl
  | n + 1, h => by simp only [firstAt]; rw [firstAt_congr n fun i hi => h i (by omega), h n (by omega)]
theorem firstAt_none {β : Type} {f : Nat → Option β} : ∀ (n : Nat), firstAt f n = none ↔ ∀ i, i < n → f i = none
  | 0 => by simp [firstAt]
  | n + 1 => by
    simp only [firstAt, Option.or_eq_none_iff, firstAt_none n]
    constructor
    · rintro ⟨h1, h2⟩ i hi
      by_cases h : i = n
      · subst h; exact h2
      · exact h1 i (by omega)
    · exact fun h => ⟨fun i hi => h i (by omega), h n (by omega)⟩
theorem firstAt_some {β : Type} {f : Nat → Option β} {b : β} : ∀ (n : Nat), firstAt f n = some b → ∃ i, i < n ∧ f i = some b ∧ ∀ j, j < i → f j = none
  | 0, h => by simp [firstAt] at h
  | n + 1, h => by
    simp only [firstAt] at h
    cases hf : firstAt f n with
    | some c =>
      rw [hf] at h
      obtain ⟨i, h1, h2, h3⟩ := firstAt_some n hf
      simp only [Option.some_or] at h
      exact ⟨i, by omega, by rw [h2, h], h3⟩
    | none =>
      rw [hf] at h
      simp only [Option.none_or] at h
      exact ⟨n, by omega, h, fun j hj => (firstAt_none n).1 hf j hj⟩
theorem firstAt_at {β : Type} {f : Nat → Option β} {b : β} {n i : Nat} (hi : i < n) (h : f i = some b) (hj : ∀ j, j < i → f j = none) : firstAt f n = some b := by
  cases hf : firstAt f n with
  | none => rw [(firstAt_none n).1 hf i hi] at h; cases h
  | some c =>
    obtain ⟨k, h1, h2, h3⟩ := firstAt_some n hf
    by_cases hki : k < i
    · rw [hj k hki] at h2; cases h2
    · by_cases hik : i < k
      · rw [h3 i hik] at h; cases h
      · have : k = i := by omega
        subst this; rw [h] at h2; exact h2.symm
/-- A loop whose state is known at each place: it stops at the first place at which something is told. -/
theorem loopO_find {S ρ : Type} {step : S → Option (S ⊕ ρ)} (E : Nat → S) (bad : Nat → Option ρ) (rest : Option ρ) (n : Nat)
    (h1 : ∀ i, i < n → bad i = none → step (E i) = some (.inl (E (i + 1)))) (h2 : ∀ i r, i < n → bad i = some r → step (E i) = some (.inr r)) (h3 : (∀ i, i < n → bad i = none) → step (E n) = rest.map .inr) :
    loopO step (E 0) = match firstAt bad n with
      | some r => some r
      | none => rest := by
  have walk : ∀ k, k ≤ n → (∀ i, i < k → bad i = none) → loopO step (E 0) = loopO step (E k) := by
    intro k
    induction k with
    | zero => exact fun _ _ => rfl
    | succ k ih =>
      intro hk hb
      rw [ih (by omega) fun i hi => hb i (by omega), loopO_inl (h1 k (by omega) (hb k (by omega)))]
  cases hf : firstAt bad n with
  | none =>
    have hb := (firstAt_none n).1 hf
    rw [walk n (Nat.le_refl _) hb, loopO_out (h3 hb)]
  | some r =>
    obtain ⟨i, g1, g2, g3⟩ := firstAt_some n hf
    rw [walk i (by omega) g3, loopO_inr (h2 i r g1 g2)]
/-- .. and something is told at the end. -/
theorem loopO_findD {S ρ : Type} {step : S → Option (S ⊕ ρ)} (E : Nat → S) (bad : Nat → Option ρ) (d : ρ) (n : Nat)
    (h1 : ∀ i, i < n → bad i = none → step (E i) = some (.inl (E (i + 1)))) (h2 : ∀ i r, i < n → bad i = some r → step (E i) = some (.inr r)) (h3 : (∀ i, i < n → bad i = none) → step (E n) = some (.inr d)) :
    loopO step (E 0) = some ((firstAt bad n).getD d) := by
  rw [loopO_find E bad (some d) n h1 h2 (fun h => by rw [h3 h]; rfl)]
  cases firstAt bad n <;> rfl
/-- .. what is told is asked for ahead of the next step. -/
theorem loopO_find2 {S ρ β : Type} {step : S → Option (S ⊕ ρ)} (E : Nat → S) (T : Nat → β → S) (bad : Nat → Option β) (rest : Option β → Option ρ) (n : Nat)
    (h1 : ∀ i, i < n → bad i = none → step (E i) = some (.inl (E (i + 1)))) (h2 : ∀ i x, i < n → bad i = some x → step (E i) = some (.inl (T i x))) (h3 : ∀ i x, i < n → bad i = some x → step (T i x) = (rest (some x)).map .inr) (h4 : (∀ i, i < n → bad i = none) → step (E n) = (rest none).map .inr) :
    loopO step (E 0) = rest (firstAt bad n) := by
  have walk : ∀ k, k ≤ n → (∀ i, i < k → bad i = none) → loopO step (E 0) = loopO step (E k) := by
    intro k
    induction k with
    | zero => exact fun _ _ => rfl
    | succ k ih =>
      intro hk hb
      rw [ih (by omega) fun i hi => hb i (by omega), loopO_inl (h1 k (by omega) (hb k (by omega)))]
  cases hf : firstAt bad n with
  | none =>
    have hb := (firstAt_none n).1 hf
    rw [walk n (Nat.le_refl _) hb, loopO_out (h4 hb)]
  | some x =>
    obtain ⟨i, g1, g2, g3⟩ := firstAt_some n hf
    rw [walk i (by omega) g3, loopO_inl (h2 i x g1 g2), loopO_out (h3 i x g1 g2)]
/-- A loop that goes through all places. -/
theorem loopO_all {S ρ : Type} {step : S → Option (S ⊕ ρ)} (E : Nat → S) (rest : Option ρ) (n : Nat)
    (h1 : ∀ i, i < n → step (E i) = some (.inl (E (i + 1)))) (h3 : step (E n) = rest.map .inr) : loopO step (E 0) = rest := by
  have := loopO_find E (fun _ => none) rest n (fun i hi _ => h1 i hi) (fun i r _ h => by cases h) (fun _ => h3)
  rw [this, (firstAt_none n).2 fun _ _ => rfl]
theorem ix_get {α : Type} [Enc α] {xs : List α} {i : Nat} (h : i < xs.length) : ix xs ((i : Nat) : Int) = xs[i] := by
  simp [ix, List.getD_eq_getElem?_getD, h]
theorem cut_take {α : Type} (xs : List α) (i : Nat) : cut xs 0 ((i : Nat) : Int) = xs.take i := by simp [cut]
theorem cut_drop {α : Type} (xs : List α) (i : Nat) : cut xs ((i : Nat) : Int) ((xs.length : Nat) : Int) = xs.drop i := by
  simp only [cut, Int.toNat_natCast]
  rw [List.take_of_length_le]; simp
theorem cut_take' {α : Type} (xs : List α) {n : Int} {i : Nat} (h : n = (i : Int)) : cut xs 0 n = xs.take i := by subst h; exact cut_take xs i
theorem cut_drop' {α : Type} (xs : List α) {n : Int} {i : Nat} (h : n = (i : Int)) : cut xs n ((xs.length : Nat) : Int) = xs.drop i := by subst h; exact cut_drop xs i
/-- Lists of as many numbers are the same, or differ at a place. -/
theorem list_eq_iff {α : Type} {a b : List α} (h : a.length = b.length) : a = b ↔ ∀ i (h1 : i < a.length) (h2 : i < b.length), a[i] = b[i] :=
  ⟨fun e => by subst e; exact fun _ _ _ => rfl, fun g => List.ext_getElem h g⟩
/-! ### Maps that tell who is there -/
theorem miGet_set (m : List (Int × Int)) (a v k : Int) : miGet (miSet m a v) k = if k = a then v else miGet m k := by
  induction m with
  | nil =>
    by_cases h : k = a
    · subst h; simp [miSet, miGet]
    · simp [miSet, miGet, h]
  | cons p r ih =>
    simp only [miSet]
    cases ha : (a == p.1) with
    | true =>
      have : a = p.1 := by simpa using ha
      subst this
      by_cases h : k = p.1
      · subst h; simp [miGet]
      · simp [miGet, h]
    | false =>
      have hap : a ≠ p.1 := by simpa using ha
      simp only [cond_false]
      by_cases h : k = p.1
      · subst h
        rw [if_neg (fun e => hap e.symm)]
        simp [miGet]
      · have e : ∀ (m : List (Int × Int)), miGet (p :: m) k = miGet m k := fun m => by
          simp [miGet, List.find?_cons, show (k == p.1) = false from by simpa using h]
        rw [e, e, ih]
def setAll (m : List (Int × Int)) (l : List Int) : List (Int × Int) := l.foldl (fun m x => miSet m x 1) m
theorem miGet_setAll (l : List Int) : ∀ (m : List (Int × Int)) (k : Int), miGet (setAll m l) k = if k ∈ l then 1 else miGet m k := by
  induction l with
  | nil => intro m k; simp [setAll]
  | cons a l ih =>
    intro m k
    show miGet (setAll (miSet m a 1) l) k = _
    rw [ih, miGet_set]
    by_cases h1 : k ∈ l
    · simp [h1]
    · by_cases h2 : k = a
      · subst h2; simp
      · simp [h1, h2]
theorem setAll_snoc (m : List (Int × Int)) (l : List Int) (i : Nat) (h : i < l.length) : setAll m (l.take (i + 1)) = miSet (setAll m (l.take i)) l[i] 1 := by
  rw [setAll, List.take_succ_eq_append_getElem h, List.foldl_append]; rfl
theorem miGet_nil (k : Int) : miGet [] k = 0 := rfl
/-! ### Functions that many seats have -/
/-- Are two lists of as many numbers the same? -/
theorem ints_gen {step : Int → Option (Int ⊕ Bool)} (a b : List Int) (hl : a.length = b.length) (hn : a.length < 4611686018427387904)
    (h : ∀ i, step i = (bif (decide (i < ((a.length : Nat) : Int))) then (bif ((decide ((0 : Int) ≤ i)) && (decide (i < ((a.length : Nat) : Int)))) then (bif ((decide ((0 : Int) ≤ i)) && (decide (i < ((b.length : Nat) : Int)))) then (bif ((ix a i) != (ix b i)) then (Option.map Sum.inr (some (false))) else (some (Sum.inl ((IntKind.i64.wrap (i + 1)))))) else none) else none) else (Option.map Sum.inr (some (true))))) :
    loopO step 0 = some (decide (a = b)) := by
  have := loopO_find (step := step) (fun i => ((i : Nat) : Int)) (fun i => if a[i]? = b[i]? then none else some false) (some true) a.length (fun i hi hb => ?_) (fun i r hi hb => ?_) (fun _ => ?_)
  · rw [show ((0 : Nat) : Int) = 0 from rfl] at this
    rw [this]
    cases hf : firstAt (fun i => if a[i]? = b[i]? then none else some false) a.length with
    | none =>
      have := (firstAt_none _).1 hf
      have e : a = b := (list_eq_iff hl).2 fun i h1 h2 => by
        have := this i h1
        simpa [h1, h2] using this
      simp [e]
    | some r =>
      obtain ⟨i, h1, h2, _⟩ := firstAt_some _ hf
      have : a ≠ b := fun e => by subst e; simp at h2
      split at h2
      · cases h2
      · cases h2; simp [this]
  · rw [h]
    have hi2 : i < b.length := by omega
    have e : a[i] = b[i] := by simpa [hi, hi2] using hb
    simp [hi, hi2, ix_get hi, ix_get hi2, e, wrap_n1 i (by omega), Bool.cond_eq_ite]
  · rw [h]
    have hi2 : i < b.length := by omega
    have e : ¬ a[i] = b[i] ∧ false = r := by simpa [hi, hi2] using hb
    simp [hi, hi2, ix_get hi, ix_get hi2, e.1, ← e.2, Bool.cond_eq_ite]
  · rw [h]; simp
/-- Is a number in a list? -/
theorem has_gen {step : Int → Option (Int ⊕ Bool)} (l : List Int) (n : Int) (hn : l.length < 4611686018427387904)
    (h : ∀ i, step i = (bif (decide (i < ((l.length : Nat) : Int))) then (bif ((decide ((0 : Int) ≤ i)) && (decide (i < ((l.length : Nat) : Int)))) then (bif ((ix l i) == n) then (Option.map Sum.inr (some (true))) else (some (Sum.inl ((IntKind.i64.wrap (i + 1)))))) else none) else (Option.map Sum.inr (some (false))))) :
    loopO step 0 = some (decide (n ∈ l)) := by
  have := loopO_find (step := step) (fun i => ((i : Nat) : Int)) (fun i => if l[i]? = some n then some true else none) (some false) l.length (fun i hi hb => ?_) (fun i r hi hb => ?_) (fun _ => ?_)
  · rw [show ((0 : Nat) : Int) = 0 from rfl] at this
    rw [this]
    cases hf : firstAt (fun i => if l[i]? = some n then some true else none) l.length with
    | none =>
      have := (firstAt_none _).1 hf
      have e : n ∉ l := fun hm => by
        obtain ⟨i, hi, e⟩ := List.getElem_of_mem hm
        have := this i hi
        simp [hi, e] at this
      simp [e]
    | some r =>
      obtain ⟨i, h1, h2, _⟩ := firstAt_some _ hf
      split at h2
      · rename_i he
        cases h2
        have : n ∈ l := List.mem_of_getElem? he
        simp [this]
      · cases h2
  · rw [h]
    have e : ¬ l[i] = n := by simpa [hi] using hb
    simp [hi, ix_get hi, e, wrap_n1 i (by omega), Bool.cond_eq_ite]
  · rw [h]
    have e : l[i] = n ∧ true = r := by simpa [hi] using hb
    simp [hi, ix_get hi, e.1, ← e.2, Bool.cond_eq_ite]
  · rw [h]; simp
/-- The place of a number in a list. -/
theorem index_gen {step : Int → Option (Int ⊕ Int)} (l : List Int) (n : Int) (hn : l.length < 4611686018427387904)
    (h : ∀ i, step i = (bif (decide (i < ((l.length : Nat) : Int))) then (bif ((decide ((0 : Int) ≤ i)) && (decide (i < ((l.length : Nat) : Int)))) then (bif (n == (ix l i)) then (Option.map Sum.inr (some (i))) else (some (Sum.inl ((IntKind.i64.wrap (i + 1)))))) else none) else (Option.map Sum.inr (some ((-1)))))) :
    ∃ r, loopO step 0 = some r ∧ (n ∈ l → ∃ i : Nat, r = i ∧ l[i]? = some n ∧ ∀ j < i, l[j]? ≠ some n) ∧ (n ∉ l → r = -1) := by
  have := loopO_find (step := step) (fun i => ((i : Nat) : Int)) (fun i => if l[i]? = some n then some (i : Int) else none) (some (-1)) l.length (fun i hi hb => ?_) (fun i r hi hb => ?_) (fun _ => ?_)
  · rw [show ((0 : Nat) : Int) = 0 from rfl] at this
    rw [this]
    cases hf : firstAt (fun i => if l[i]? = some n then some (i : Int) else none) l.length with
    | none =>
      have := (firstAt_none _).1 hf
      have e : n ∉ l := fun hm => by
        obtain ⟨i, hi, e⟩ := List.getElem_of_mem hm
        have := this i hi
        simp [hi, e] at this
      exact ⟨_, rfl, fun h => absurd h e, fun _ => rfl⟩
    | some r =>
      obtain ⟨i, h1, h2, h3⟩ := firstAt_some _ hf
      split at h2
      · rename_i he
        cases h2
        have hm : n ∈ l := List.mem_of_getElem? he
        refine ⟨_, rfl, fun _ => ⟨i, rfl, he, fun j hj hh => ?_⟩, fun h => absurd hm h⟩
        have := h3 j hj
        simp [hh] at this
      · cases h2
  · rw [h]
    have e : ¬ l[i] = n := by simpa [hi] using hb
    have e' : ¬ n = l[i] := fun h => e h.symm
    simp [hi, ix_get hi, e', wrap_n1 i (by omega), Bool.cond_eq_ite]
  · rw [h]
    have e : l[i] = n ∧ (i : Int) = r := by simpa [hi] using hb
    simp [hi, ix_get hi, e.1, ← e.2, Bool.cond_eq_ite]
  · rw [h]; simp
/-- The first place at which a test holds. -/
def firstIf (p : Nat → Bool) (n : Nat) : Option Nat := firstAt (fun i => bif p i then some i else none) n
theorem firstIf_none {p : Nat → Bool} {n : Nat} : firstIf p n = none ↔ ∀ i, i < n → p i = false := by
  unfold firstIf
  rw [firstAt_none]
  constructor
  · intro h i hi
    have := h i hi
    cases hp : p i with
    | false => rfl
    | true => rw [hp] at this; cases this
  · intro h i hi
    rw [h i hi]; rfl
theorem firstIf_some {p : Nat → Bool} {n i : Nat} (h : firstIf p n = some i) : i < n ∧ p i = true ∧ ∀ j, j < i → p j = false := by
  obtain ⟨k, h1, h2, h3⟩ := firstAt_some _ h
  cases hp : p k with
  | false => rw [hp] at h2; cases h2
  | true =>
    rw [hp] at h2; cases h2
    refine ⟨h1, hp, fun j hj => ?_⟩
    have := h3 j hj
    cases hq : p j with
    | false => rfl
    | true => rw [hq] at this; cases this
theorem firstIf_congr {p q : Nat → Bool} (n : Nat) (h : ∀ i, i < n → p i = q i) : firstIf p n = firstIf q n :=
  firstAt_congr n fun i hi => by rw [h i hi]
theorem loopO_if {S ρ : Type} {step : S → Option (S ⊕ ρ)} (E : Nat → S) (p : Nat → Bool) (R : Nat → Option ρ) (rest : Option ρ) (n : Nat)
    (h1 : ∀ i, i < n → p i = false → step (E i) = some (.inl (E (i + 1)))) (h2 : ∀ i, i < n → p i = true → step (E i) = (R i).map .inr) (h3 : (∀ i, i < n → p i = false) → step (E n) = rest.map .inr) :
    loopO step (E 0) = match firstIf p n with
      | some i => R i
      | none => rest := by
  have walk : ∀ k, k ≤ n → (∀ i, i < k → p i = false) → loopO step (E 0) = loopO step (E k) := by
    intro k
    induction k with
    | zero => exact fun _ _ => rfl
    | succ k ih =>
      intro hk hb
      rw [ih (by omega) fun i hi => hb i (by omega), loopO_inl (h1 k (by omega) (hb k (by omega)))]
  cases hf : firstIf p n with
  | none =>
    have hb := firstIf_none.1 hf
    rw [walk n (Nat.le_refl _) hb, loopO_out (h3 hb)]
  | some i =>
    obtain ⟨g1, g2, g3⟩ := firstIf_some hf
    rw [walk i (by omega) g3, loopO_out (h2 i g1 g2)]
/-- .. where the test sets what is asked for ahead of the next step. -/
theorem loopO_if2 {S ρ : Type} {step : S → Option (S ⊕ ρ)} (E : Nat → S) (T : Nat → S) (p : Nat → Bool) (R : Nat → Option ρ) (rest : Option ρ) (n : Nat)
    (h1 : ∀ i, i < n → p i = false → step (E i) = some (.inl (E (i + 1)))) (h2 : ∀ i, i < n → p i = true → step (E i) = some (.inl (T i))) (h2' : ∀ i, i < n → firstIf p n = some i → step (T i) = (R i).map .inr) (h3 : (∀ i, i < n → p i = false) → step (E n) = rest.map .inr) :
    loopO step (E 0) = match firstIf p n with
      | some i => R i
      | none => rest := by
  have walk : ∀ k, k ≤ n → (∀ i, i < k → p i = false) → loopO step (E 0) = loopO step (E k) := by
    intro k
    induction k with
    | zero => exact fun _ _ => rfl
    | succ k ih =>
      intro hk hb
      rw [ih (by omega) fun i hi => hb i (by omega), loopO_inl (h1 k (by omega) (hb k (by omega)))]
  cases hf : firstIf p n with
  | none =>
    have hb := firstIf_none.1 hf
    rw [walk n (Nat.le_refl _) hb, loopO_out (h3 hb)]
  | some i =>
    obtain ⟨g1, g2, g3⟩ := firstIf_some hf
    rw [walk i (by omega) g3, loopO_inl (h2 i g1 g2), loopO_out (h2' i g1 hf)]
end Go.Sx
end

section
namespace Go.Sx
variable {α : Type}
def delAt (l : List α) (i j : Nat) : List α := l.take i ++ l.drop j
/-- slices.Delete. -/
theorem del_lists [Inhabited α] (l : List α) (i j : Nat) (hi : i ≤ j) (hj : j ≤ l.length) (a : Int) (ha : a = ((i + (l.length - j) : Nat) : Int)) :
    cut (wipe (putL l (cut l (j : Int) ((l.length : Nat) : Int)) ((i : Int)).toNat) a ((l.length : Nat) : Int)) 0 ((i : Int) + (((cut l (j : Int) ((l.length : Nat) : Int)).length : Nat) : Int)) = delAt l i j := by
  subst ha
  rw [cut_drop]
  have e : ((i : Int) + (((l.drop j).length : Nat) : Int)) = ((i + (l.length - j) : Nat) : Int) := by simp
  rw [e, cut_take, wipe, putL]
  simp only [Int.toNat_natCast]
  rw [List.append_assoc, List.take_append_of_le_length (by simp [putL]; omega), List.take_of_length_le (by simp; omega)]
  unfold putL delAt
  rw [List.take_append_of_le_length (by simp; omega), List.take_of_length_le (by simp; omega)]
theorem delAt_len (l : List α) (i j : Nat) (hi : i ≤ j) (hj : j ≤ l.length) : (delAt l i j).length = l.length - (j - i) := by simp [delAt]; omega
end Go.Sx
end

section
namespace Go.Sx
def toldOr {S ρ : Type} (o : Option ρ) (s : S) : Option (S ⊕ ρ) := match o with
  | some r => some (.inr r)
  | none => some (.inl s)
@[simp] theorem toldOr_some {S ρ : Type} (r : ρ) (s : S) : toldOr (some r) s = some (.inr r) := rfl
@[simp] theorem toldOr_none {S ρ : Type} (s : S) : toldOr (none : Option ρ) s = some (.inl s) := rfl
/-- As 'loopO_findD'; at each place all ahead of it is known. -/
theorem loopO_findP {S ρ : Type} {step : S → Option (S ⊕ ρ)} (E : Nat → S) (bad : Nat → Option ρ) (d : ρ) (n : Nat)
    (h1 : ∀ i, i < n → (∀ j, j < i → bad j = none) → step (E i) = toldOr (bad i) (E (i + 1)))
    (h3 : (∀ i, i < n → bad i = none) → step (E n) = some (.inr d)) : loopO step (E 0) = some ((firstAt bad n).getD d) := by
  have walk : ∀ k, k ≤ n → (∀ i, i < k → bad i = none) → loopO step (E 0) = loopO step (E k) := by
    intro k
    induction k with
    | zero => exact fun _ _ => rfl
    | succ k ih =>
      intro hk hb
      have := h1 k (by omega) fun i hi => hb i (by omega)
      rw [hb k (by omega), toldOr_none] at this
      rw [ih (by omega) fun i hi => hb i (by omega), loopO_inl this]
  cases hf : firstAt bad n with
  | none =>
    have hb := (firstAt_none n).1 hf
    rw [walk n (Nat.le_refl _) hb, loopO_inr (h3 hb)]; rfl
  | some r =>
    obtain ⟨i, g1, g2, g3⟩ := firstAt_some n hf
    have := h1 i g1 g3
    rw [g2, toldOr_some] at this
    rw [walk i (by omega) g3, loopO_inr this]; rfl
theorem nodup_snoc {α : Type} {l : List α} {x : α} : (l ++ [x]).Nodup ↔ l.Nodup ∧ x ∉ l := by
  rw [List.nodup_append]
  constructor
  · rintro ⟨h1, _, h3⟩
    exact ⟨h1, fun h => h3 x h x (by simp) rfl⟩
  · rintro ⟨h1, h2⟩
    exact ⟨h1, by simp, fun a ha b hb e => by simp at hb; subst hb; subst e; exact h2 ha⟩
theorem nodup_grow {α : Type} (had ts : List α) (h0 : had.Nodup) : (had ++ ts).Nodup ↔ ∀ k (h : k < ts.length), ts[k] ∉ had ++ ts.take k := by
  have hs : ∀ k (h : k < ts.length), had ++ ts.take (k + 1) = had ++ ts.take k ++ [ts[k]] := fun k h => by
    rw [List.take_succ_eq_append_getElem h, List.append_assoc]
  constructor
  · intro h k hk
    have : (had ++ ts.take (k + 1)).Nodup := (List.Sublist.append (List.Sublist.refl had) (List.take_sublist (k + 1) ts)).nodup h
    rw [hs k hk, nodup_snoc] at this
    exact this.2
  · intro h
    have gen : ∀ k, k ≤ ts.length → (had ++ ts.take k).Nodup := by
      intro k
      induction k with
      | zero => simpa using h0
      | succ k ih =>
        intro hk
        rw [hs k (by omega), nodup_snoc]
        exact ⟨ih (by omega), h k (by omega)⟩
    have := gen ts.length (Nat.le_refl _)
    rwa [List.take_length] at this
/-- What holds of neighbours holds of all. -/
theorem pairwise_next {α : Type} (R : α → α → Prop) (ht : ∀ a b c, R a b → R b c → R a c) (l : List α) : l.Pairwise R ↔ ∀ i (h : i + 1 < l.length), R l[i] l[i + 1] := by
  rw [List.pairwise_iff_getElem]
  constructor
  · exact fun h i hi => h i (i + 1) (by omega) hi (by omega)
  · intro h i j hi hj hij
    have gen : ∀ d (hd : i + d + 1 < l.length), R l[i] l[i + d + 1] := by
      intro d
      induction d with
      | zero => exact fun hd => h i hd
      | succ d ih =>
        intro hd
        exact ht _ _ _ (ih (by omega)) (h (i + d + 1) hd)
    have := gen (j - i - 1) (by omega)
    have e : i + (j - i - 1) + 1 = j := by omega
    simpa only [e] using this
/-- A loop that counts up, and what comes of it from each place on. -/
theorem loopO_up {A S ρ : Type} {step : S → Option (S ⊕ ρ)} (n : Nat) (E : Nat → A → S) (I : Nat → A → Prop) (F : Nat → A → Option ρ)
    (hend : ∀ a, I n a → step (E n a) = (F n a).map .inr)
    (hstep : ∀ i a, i < n → I i a → (∃ a', step (E i a) = some (.inl (E (i + 1) a')) ∧ I (i + 1) a' ∧ F i a = F (i + 1) a') ∨ step (E i a) = (F i a).map .inr)
    (a0 : A) (h0 : I 0 a0) : loopO step (E 0 a0) = F 0 a0 := by
  have gen : ∀ (d i : Nat) (a : A), i + d = n → I i a → loopO step (E i a) = F i a := by
    intro d
    induction d with
    | zero => intro i a hi ha; rw [Nat.add_zero] at hi; subst hi; exact loopO_out (hend a ha)
    | succ d ih =>
      intro i a hi ha
      rcases hstep i a (by omega) ha with ⟨a', h1, h2, h3⟩ | h1
      · rw [loopO_inl h1, h3]; exact ih (i + 1) a' (by omega) h2
      · exact loopO_out h1
  exact gen n 0 a0 (by omega) h0
theorem drop_at {α : Type} {l : List α} {i : Nat} (h : i < l.length) : l.drop i = l[i] :: l.drop (i + 1) := List.drop_eq_getElem_cons h
/-- The middle of a binary search. -/
theorem mid_eq (i j : Nat) (h : i + j < 4611686018427387904) : IntKind.i64.wrap (Int.fdiv (IntKind.u64.wrap (IntKind.i64.wrap ((i : Int) + (j : Int)))) (2 ^ (min ((1 : Int)).toNat (IntKind.u64).bits))) = (((i + j) / 2 : Nat) : Int) := by
  rw [wrap_id (x := (i : Int) + j) (by omega) (by omega)]
  have e : IntKind.u64.wrap ((i : Int) + j) = (i : Int) + j := by
    simp only [IntKind.wrap, IntKind.bits, IntKind.signed]
    simp
    omega
  rw [e, show (2 : Int) ^ (min ((1 : Int)).toNat (IntKind.u64).bits) = 2 from rfl, Int.fdiv_eq_ediv_of_nonneg _ (by omega)]
  rw [wrap_id (by omega) (by omega)]
  omega
theorem bs_gen {ρ : Type} {step : Int × Int → Option ((Int × Int) ⊕ ρ)} (n : Nat) (lt : Nat → Bool) (R : Nat → Option ρ) (hm : ∀ a b, a < b → b < n → lt b = true → lt a = true)
    (h1 : ∀ i j : Nat, i < j → j ≤ n → step ((i : Int), (j : Int)) = if lt ((i + j) / 2) then some (.inl ((((i + j) / 2 + 1 : Nat) : Int), (j : Int))) else some (.inl ((i : Int), (((i + j) / 2 : Nat) : Int))))
    (h2 : ∀ i : Nat, i ≤ n → (∀ k, k < i → lt k = true) → (∀ k, i ≤ k → k < n → lt k = false) → step ((i : Int), (i : Int)) = (R i).map .inr) :
    ∃ i, i ≤ n ∧ (∀ k, k < i → lt k = true) ∧ (∀ k, i ≤ k → k < n → lt k = false) ∧ loopO step (0, (n : Int)) = R i := by
  have gen : ∀ (d i j : Nat), j - i ≤ d → i ≤ j → j ≤ n → (∀ k, k < i → lt k = true) → (∀ k, j ≤ k → k < n → lt k = false) →
      ∃ q, q ≤ n ∧ (∀ k, k < q → lt k = true) ∧ (∀ k, q ≤ k → k < n → lt k = false) ∧ loopO step ((i : Int), (j : Int)) = R q := by
    intro d
    induction d with
    | zero =>
      intro i j hd hij hj ha hb
      have : i = j := by omega
      subst this
      exact ⟨i, hj, ha, hb, loopO_out (h2 i hj ha hb)⟩
    | succ d ih =>
      intro i j hd hij hj ha hb
      by_cases he : i = j
      · subst he
        exact ⟨i, hj, ha, hb, loopO_out (h2 i hj ha hb)⟩
      · have hs := h1 i j (by omega) hj
        have hmid : i ≤ (i + j) / 2 ∧ (i + j) / 2 < j := by omega
        cases hl : lt ((i + j) / 2) with
        | true =>
          rw [hl, if_pos rfl] at hs
          rw [loopO_inl hs]
          refine ih _ j (by omega) (by omega) hj (fun k hk => ?_) hb
          by_cases hk2 : k = (i + j) / 2
          · rw [hk2]; exact hl
          · exact hm k ((i + j) / 2) (by omega) (by omega) hl
        | false =>
          rw [hl, if_neg (by simp)] at hs
          rw [loopO_inl hs]
          refine ih i _ (by omega) (by omega) (by omega) ha (fun k hk hkn => ?_)
          cases hk3 : lt k with
          | false => rfl
          | true =>
            by_cases hk2 : k = (i + j) / 2
            · rw [hk2, hl] at hk3; cases hk3
            · have := hm ((i + j) / 2) k (by omega) hkn hk3
              rw [hl] at this; cases this
  exact gen n 0 n (by omega) (Nat.zero_le _) (Nat.le_refl _) (fun k hk => absurd hk (Nat.not_lt_zero k)) (fun k hk hkn => by omega)
theorem cut_wipe {α : Type} [Inhabited α] (l : List α) (i : Nat) (h : i ≤ l.length) : cut (wipe l (i : Int) ((l.length : Nat) : Int)) (0 : Int) (i : Int) = l.take i := by
  rw [cut_take, wipe, putL]
  simp only [Int.toNat_natCast]
  rw [List.append_assoc, List.take_append_of_le_length (by simp <;> omega), List.take_of_length_le (by simp <;> omega)]
/-- slices.DeleteFunc, from the first place on that goes. -/
theorem del_gen {α C : Type} [Enc α] (l : List α) (t : C) (keep : α → Bool) {step : Int × Int × List α × C → Option ((Int × Int × List α × C) ⊕ (List α × C))}
    (h1 : ∀ (i j : Nat) (c : List α), i < j → j < c.length → c.length = l.length → keep (ix c (j : Int)) = false → step ((i : Int), (j : Int), c, t) = some (.inl ((i : Int), ((j + 1 : Nat) : Int), c, t)))
    (h2 : ∀ (i j : Nat) (c : List α), i < j → j < c.length → c.length = l.length → keep (ix c (j : Int)) = true → step ((i : Int), (j : Int), c, t) = some (.inl (((i + 1 : Nat) : Int), ((j + 1 : Nat) : Int), c.set i (ix c (j : Int)), t)))
    (h3 : ∀ (i : Nat) (c : List α), i ≤ c.length → c.length = l.length → step ((i : Int), ((c.length : Nat) : Int), c, t) = some (.inr (cut (wipe c (i : Int) ((c.length : Nat) : Int)) (0 : Int) (i : Int), t)))
    (n : Nat) (hn : n < l.length) (hk : keep l[n] = false) (hk2 : ∀ x ∈ l.take n, keep x = true) : loopO step ((n : Int), ((n + 1 : Nat) : Int), l, t) = some (l.filter keep, t) := by
  have htake : (l.take (n + 1)).filter keep = l.take n := by
    rw [List.take_succ_eq_append_getElem hn, List.filter_append, List.filter_eq_self.2 hk2]
    simp [hk]
  obtain ⟨r, hr, rfl⟩ := loopO_inv (step := step) (fun s => ∃ (i j : Nat) (c : List α), s = ((i : Int), (j : Int), c, t) ∧ c.length = l.length ∧ i < j ∧ j ≤ l.length ∧ c.take i = (l.take j).filter keep ∧ c.drop j = l.drop j) (fun s => l.length - s.2.1.toNat) (fun r => r = (l.filter keep, t)) (fun s hs => by
    obtain ⟨i, j, c, rfl, hcl, hij, hjl, ht, hd⟩ := hs
    by_cases hj : j < l.length
    · left
      have hcj : ix c (j : Int) = l[j] := by
        rw [ix_get (by omega)]
        have h1 : c[j]? = l[j]? := by
          have := congrArg (fun x => x[0]?) hd
          simpa [List.getElem?_drop] using this
        rw [List.getElem?_eq_getElem (by omega), List.getElem?_eq_getElem hj] at h1
        exact Option.some.inj h1
      have hdrop : ∀ m, j < m → c.drop m = l.drop m := fun m hm => by
        have := congrArg (fun x => x.drop (m - j)) hd
        simp only [List.drop_drop] at this
        rwa [show j + (m - j) = m by omega] at this
      cases hkj : keep l[j] with
      | false =>
        refine ⟨((i : Int), ((j + 1 : Nat) : Int), c, t), h1 i j c hij (by omega) hcl (by rw [hcj]; exact hkj), ⟨i, j + 1, c, rfl, hcl, by omega, by omega, ?_, hdrop _ (by omega)⟩, by simp only [Int.toNat_natCast]; omega⟩
        rw [List.take_succ_eq_append_getElem hj, List.filter_append, ← ht]
        simp [hkj]
      | true =>
        refine ⟨(((i + 1 : Nat) : Int), ((j + 1 : Nat) : Int), c.set i (ix c (j : Int)), t), h2 i j c hij (by omega) hcl (by rw [hcj]; exact hkj), ⟨i + 1, j + 1, c.set i (ix c (j : Int)), rfl, by simpa using hcl, by omega, by omega, ?_, ?_⟩, by simp only [Int.toNat_natCast]; omega⟩
        · rw [List.take_succ_eq_append_getElem hj, List.filter_append, ← ht, List.take_succ_eq_append_getElem (by simp; omega), List.take_set_of_le (by omega), hcj]
          simp [hkj]
        · rw [List.drop_set_of_lt (by omega)]
          exact hdrop _ (by omega)
    · right
      have hjl' : j = c.length := by omega
      subst hjl'
      refine ⟨_, h3 i c (by omega) hcl, ?_⟩
      rw [cut_wipe c i (by omega), ht, hcl, List.take_length]) (s0 := ((n : Int), ((n + 1 : Nat) : Int), l, t)) ⟨n, n + 1, l, rfl, rfl, by omega, by omega, htake.symm, rfl⟩
  exact hr
end Go.Sx
end

section
namespace Go.Proofs.Ytlfcicekappbfaa
open Go Go.Sx
set_option linter.unusedVariables false
set_option linter.unusedSimpArgs false
theorem ints_eq (a b : List Int) (hn : a.length < 4611686018427387904) : taskmillref_Ints a b = some (decide (a = b)) := by
  unfold taskmillref_Ints
  by_cases hl : a.length = b.length
  · have := ints_gen a b hl hn (fun i => rfl : ∀ i, taskmillref_Ints_l1 a b i = _)
    simp [hl] at this ⊢
    exact this
  · have : a ≠ b := fun e => hl (by rw [e])
    have h2 : ((a.length : Int) != (b.length : Int)) = true := by simp; omega
    simp [h2, this]
theorem has_eq (l : List Int) (n : Int) (hn : l.length < 4611686018427387904) : taskmillref_Has l n = some (decide (n ∈ l)) := has_gen l n hn fun i => rfl
theorem fault_eq (c a : Int) : sweep_fault c a = some ⟨c, a⟩ := rfl
theorem F_eq (c a : Int) : taskmillref_F c a = some ⟨c, a⟩ := rfl
theorem lt_n {i n : Nat} (h : i < n) : decide ((i : Int) < (n : Int)) = true := by simp; omega
theorem nlt_n (n : Nat) : decide ((n : Int) < (n : Int)) = false := by simp
theorem ge_n (i : Nat) : decide ((0 : Int) ≤ (i : Int)) = true := by simp
/-- Lists of lists. -/
theorem lists_eq (a b : List (List Int)) (hn : a.length < 4611686018427387904) (hs : ∀ x ∈ a, x.length < 4611686018427387904) : taskmillref_Lists a b = some (decide (a = b)) := by
  unfold taskmillref_Lists
  by_cases hl : a.length = b.length
  · have h0 : ((a.length : Int) != (b.length : Int)) = false := by simp [hl]
    rw [h0, cond_false]
    have := loopO_find (step := taskmillref_Lists_l1 a b) (fun i => ((i : Nat) : Int)) (fun i => if a[i]? = b[i]? then none else some false) (some true) a.length (fun i hi hb => ?_) (fun i r hi hb => ?_) (fun _ => ?_)
    · rw [show ((0 : Nat) : Int) = 0 from rfl] at this
      rw [this]
      cases hf : firstAt (fun i => if a[i]? = b[i]? then none else some false) a.length with
      | none =>
        have h := (firstAt_none _).1 hf
        have : a = b := List.ext_getElem? fun i => by
          by_cases hi : i < a.length
          · have := h i hi
            by_cases e : a[i]? = b[i]?
            · exact e
            · simp [e] at this
          · rw [List.getElem?_eq_none (by omega), List.getElem?_eq_none (by omega)]
        simp [this]
      | some r =>
        obtain ⟨i, h1, h2, _⟩ := firstAt_some _ hf
        by_cases e : a[i]? = b[i]?
        · simp [e] at h2
        · have : a ≠ b := fun h => e (by rw [h])
          simp [e] at h2
          simp [this, h2]
    · have e : a[i]? = b[i]? := by by_cases e : a[i]? = b[i]?; exact e; simp [e] at hb
      have hj : i < b.length := by omega
      rw [List.getElem?_eq_getElem hi, List.getElem?_eq_getElem hj] at e
      unfold taskmillref_Lists_l1
      rw [lt_n hi, ge_n, lt_n hj, ix_get hi, ix_get hj, ints_eq _ _ (hs _ (List.getElem_mem hi)), wrap_n1 i (by omega)]
      simp [Option.some.inj e]
    · have e : ¬ a[i]? = b[i]? := fun e => by simp [e] at hb
      have hj : i < b.length := by omega
      rw [List.getElem?_eq_getElem hi, List.getElem?_eq_getElem hj] at e
      have e' : ¬ a[i] = b[i] := fun h => e (by rw [h])
      unfold taskmillref_Lists_l1
      rw [lt_n hi, ge_n, lt_n hj, ix_get hi, ix_get hj, ints_eq _ _ (hs _ (List.getElem_mem hi))]
      have : r = false := by
        rw [if_neg (fun h => e (by rw [← List.getElem?_eq_getElem hi, ← List.getElem?_eq_getElem hj]; exact h))] at hb
        cases hb; rfl
      simp [e', this]
    · unfold taskmillref_Lists_l1
      rw [nlt_n]; rfl
  · have : a ≠ b := fun e => hl (by rw [e])
    have h2 : ((a.length : Int) != (b.length : Int)) = true := by simp; omega
    simp [h2, this]
/-- More than is looked at? -/
structure Small (h : GHeap) : Prop where
  o : h.Objects.length ≤ 1000
  r : h.Roots.length ≤ 1000
  f : ∀ x ∈ h.Objects, x.length ≤ 1000
theorem told_bif {S ρ : Type} (c : Bool) (r : ρ) (s : S) : (bif c then some (Sum.inr r) else some (Sum.inl s)) = toldOr (bif c then some r else none) s := by cases c <;> rfl
theorem firstAt_bif {β : Type} {c : Nat → Bool} {v : Nat → β} {n : Nat} (h : firstAt (fun i => bif c i then some (v i) else none) n = none) : ∀ i, i < n → c i = false := fun i hi => by
  have := (firstAt_none _).1 h i hi
  cases hc : c i with
  | false => rfl
  | true => simp [hc] at this
theorem vast_ex (h : GHeap) (hn : h.Objects.length ≤ 9223372036854775807) : ∃ b, taskmilllaw_vastHeap h = some b ∧ (b = false → Small h) := by
  unfold taskmilllaw_vastHeap
  have := loopO_findP (step := taskmilllaw_vastHeap_l1 h) (fun i => ((i : Nat) : Int)) (fun i => bif decide ((1000 : Int) < ((ix h.Objects i).length : Int)) then some true else none) (decide (1000 < (h.Objects.length : Int)) || decide (1000 < (h.Roots.length : Int))) h.Objects.length (fun i hi _ => ?_) (fun _ => ?_)
  · rw [show ((0 : Nat) : Int) = 0 from rfl] at this
    rw [this]
    cases hf : firstAt (fun i => bif decide ((1000 : Int) < ((ix h.Objects ((i : Nat) : Int)).length : Int)) then some true else none) h.Objects.length with
    | none =>
      have hh := firstAt_bif hf
      refine ⟨_, rfl, fun hb => ?_⟩
      simp only [Option.getD_none, Bool.or_eq_false_iff, decide_eq_false_iff_not] at hb
      refine ⟨by omega, by omega, fun x hx => ?_⟩
      obtain ⟨i, hi, rfl⟩ := List.getElem_of_mem hx
      have := hh i hi
      rw [ix_get hi, decide_eq_false_iff_not] at this
      omega
    | some r =>
      obtain ⟨i, _, h2, _⟩ := firstAt_some _ hf
      refine ⟨r, rfl, fun hb => ?_⟩
      subst hb
      cases hc : decide ((1000 : Int) < ((ix h.Objects ((i : Nat) : Int)).length : Int)) <;> simp [hc] at h2
  · unfold taskmilllaw_vastHeap_l1
    rw [lt_n hi, ge_n, wrap_id (by omega) (by omega), Bool.and_self, cond_true, cond_true]
    exact told_bif _ _ _
  · unfold taskmilllaw_vastHeap_l1
    rw [nlt_n]; rfl
theorem same_eq (a b : GHeap) (ha : Small a) : taskmillref_SameHeap a b = some (decide (a = b)) := by
  have h1 := ha.o; have h2 := ha.r
  unfold taskmillref_SameHeap
  rw [ints_eq _ _ (by omega)]
  obtain ⟨ao, ar⟩ := a
  obtain ⟨bo, br⟩ := b
  by_cases hr : ar = br
  · subst hr
    simp only [decide_true, Option.bind_some, cond_true]
    rw [lists_eq _ _ (by simp at h1 ⊢; omega) (fun x hx => by have := ha.f x hx; omega)]
    simp [taskmillref_SameHeap_j1]
  · simp [hr, taskmillref_SameHeap_j1]
theorem clone_eq (s : List Int) (h : s.length ≤ 1000000) : slices_Clone_int s = some s := by
  have : s.length * 8 ≤ 140737488355328 := by omega
  simp [slices_Clone_int, this]
theorem own_eq (s : List Int) (h : s.length ≤ 1000000) : taskmilllaw_own s = some s := by
  have : s.length * 8 ≤ 140737488355328 := by omega
  simp [taskmilllaw_own, this]
theorem ownHeap_eq (h : GHeap) (hs : Small h) : taskmilllaw_ownHeap h = some (h.Objects, h.Roots) := by
  have h1 := hs.o; have h2 := hs.r
  unfold taskmilllaw_ownHeap
  have := loopO_all (step := taskmilllaw_ownHeap_l1 h) (fun i => (((i : Nat) : Int), h.Objects.take i)) (some (h.Objects, h.Roots)) h.Objects.length (fun i hi => ?_) ?_
  · exact this
  · unfold taskmilllaw_ownHeap_l1
    dsimp only
    rw [lt_n hi, ge_n, ix_get hi, own_eq _ (by have := hs.f _ (List.getElem_mem hi); omega), wrap_n1 i (by omega)]
    have e : h.Objects.take i ++ [h.Objects[i]] = h.Objects.take (i + 1) := by rw [List.take_succ_eq_append_getElem hi]
    have hl : decide ((h.Objects.take (i + 1)).length * 24 ≤ 140737488355328) = true := by
      rw [decide_eq_true_eq, List.length_take]; omega
    simp only [Bool.true_and, cond_true, Option.bind_some, e, hl]
  · unfold taskmilllaw_ownHeap_l1
    dsimp only
    rw [nlt_n, own_eq h.Roots (by omega)]
    simp
/-! ### Faults -/
def badR (h : GHeap) (i : Nat) : Option Fault := bif decide (ix h.Roots i < -1) || decide ((h.Objects.length : Int) ≤ ix h.Roots i) then some ⟨3, i⟩ else none
def badX (h : GHeap) (i k : Nat) : Option Fault := bif decide (ix (ix h.Objects i) k < -1) || decide ((h.Objects.length : Int) ≤ ix (ix h.Objects i) k) then some ⟨5, i⟩ else none
def badO (h : GHeap) (i : Nat) : Option Fault := bif decide ((20 : Int) < ((ix h.Objects i).length : Int)) then some ⟨8, i⟩ else firstAt (badX h i) (ix h.Objects i).length
def checkF (h : GHeap) : Fault := bif decide ((500 : Int) < (h.Objects.length : Int)) || decide ((16 : Int) < (h.Roots.length : Int)) then ⟨2, 0⟩ else (firstAt (badR h) h.Roots.length).getD ((firstAt (badO h) h.Objects.length).getD ⟨0, 0⟩)
theorem firstAt_map {β γ : Type} (F : β → γ) (g : Nat → Option β) : ∀ n, firstAt (fun k => (g k).map F) n = (firstAt g n).map F := by
  intro n
  cases hf : firstAt g n with
  | none => exact (firstAt_none n).2 fun i hi => by rw [(firstAt_none n).1 hf i hi]; rfl
  | some b =>
    obtain ⟨i, h1, h2, h3⟩ := firstAt_some n hf
    exact firstAt_at h1 (by rw [h2]; rfl) fun j hj => by rw [h3 j hj]; rfl
theorem told_map {S ρ : Type} (o : Option ρ) (s : S) : some ((o.map Sum.inr).getD (Sum.inl s)) = toldOr o s := by cases o <;> rfl
theorem check_x (h : GHeap) (hs : Small h) (i : Nat) (hi : i < h.Objects.length) : loopO (sweep_Check_l1 h i) 0 = toldOr (firstAt (badX h i) (ix h.Objects i).length) (((i + 1 : Nat) : Int)) := by
  have hx : (ix h.Objects i).length ≤ 1000 := by rw [ix_get hi]; exact hs.f _ (List.getElem_mem hi)
  have h1 := hs.o
  have := loopO_findP (step := sweep_Check_l1 h i) (fun k => ((k : Nat) : Int)) (fun k => (badX h i k).map Sum.inr) (.inl ((i + 1 : Nat) : Int)) (ix h.Objects i).length (fun k hk _ => ?_) (fun _ => ?_)
  · rw [show ((0 : Nat) : Int) = 0 from rfl] at this
    rw [this, firstAt_map, told_map]
  · unfold sweep_Check_l1 badX
    rw [lt_n hk, ge_n, wrap_n1 k (by omega), Bool.and_self, cond_true, cond_true]
    cases (decide (ix (ix h.Objects i) k < -1) || decide ((h.Objects.length : Int) ≤ ix (ix h.Objects i) k)) <;> rfl
  · unfold sweep_Check_l1
    rw [nlt_n, wrap_n1 i (by omega)]; rfl
theorem check_o (h : GHeap) (hs : Small h) : loopO (sweep_Check_l2 h) 0 = some ((firstAt (badO h) h.Objects.length).getD ⟨0, 0⟩) := by
  have h1 := hs.o
  refine loopO_findP (step := sweep_Check_l2 h) (fun k => ((k : Nat) : Int)) (badO h) ⟨0, 0⟩ h.Objects.length (fun i hi _ => ?_) (fun _ => ?_)
  · unfold sweep_Check_l2 badO
    rw [lt_n hi, ge_n, check_x h hs i hi, Bool.and_self, cond_true, cond_true]
    cases decide ((20 : Int) < ((ix h.Objects i).length : Int)) <;> rfl
  · unfold sweep_Check_l2
    rw [nlt_n]; rfl
theorem check_eq (h : GHeap) (hs : Small h) : sweep_Check h = some (checkF h) := by
  have h2 := hs.r
  unfold sweep_Check checkF
  have := loopO_findP (step := sweep_Check_l3 h) (fun k => ((k : Nat) : Int)) (badR h) ((firstAt (badO h) h.Objects.length).getD ⟨0, 0⟩) h.Roots.length (fun i hi _ => ?_) (fun _ => ?_)
  · rw [show ((0 : Nat) : Int) = 0 from rfl] at this
    rw [this]
    cases (decide ((500 : Int) < (h.Objects.length : Int)) || decide ((16 : Int) < (h.Roots.length : Int))) <;> rfl
  · unfold sweep_Check_l3 badR
    rw [lt_n hi, ge_n, wrap_n1 i (by omega), Bool.and_self, cond_true, cond_true]
    cases (decide (ix h.Roots i < -1) || decide ((h.Objects.length : Int) ≤ ix h.Roots i)) <;> rfl
  · unfold sweep_Check_l3
    rw [nlt_n, check_o h hs]; rfl
theorem href_x (h : GHeap) (hs : Small h) (i : Nat) (hi : i < h.Objects.length) : loopO (taskmillref_HeapsFault_l1 h i) 0 = toldOr (firstAt (badX h i) (ix h.Objects i).length) (((i + 1 : Nat) : Int)) := by
  have hx : (ix h.Objects i).length ≤ 1000 := by rw [ix_get hi]; exact hs.f _ (List.getElem_mem hi)
  have h1 := hs.o
  have := loopO_findP (step := taskmillref_HeapsFault_l1 h i) (fun k => ((k : Nat) : Int)) (fun k => (badX h i k).map Sum.inr) (.inl ((i + 1 : Nat) : Int)) (ix h.Objects i).length (fun k hk _ => ?_) (fun _ => ?_)
  · rw [show ((0 : Nat) : Int) = 0 from rfl] at this
    rw [this, firstAt_map, told_map]
  · unfold taskmillref_HeapsFault_l1 badX
    rw [lt_n hi, lt_n hk, ge_n, ge_n, wrap_n1 k (by omega)]
    cases (decide (ix (ix h.Objects i) k < -1)) <;> cases (decide ((h.Objects.length : Int) ≤ ix (ix h.Objects i) k)) <;> rfl
  · unfold taskmillref_HeapsFault_l1
    rw [lt_n hi, nlt_n, ge_n, wrap_n1 i (by omega)]; rfl
theorem href_o (h : GHeap) (hs : Small h) : loopO (taskmillref_HeapsFault_l2 h) 0 = some ((firstAt (badO h) h.Objects.length).getD ⟨0, 0⟩) := by
  have h1 := hs.o
  refine loopO_findP (step := taskmillref_HeapsFault_l2 h) (fun k => ((k : Nat) : Int)) (badO h) ⟨0, 0⟩ h.Objects.length (fun i hi _ => ?_) (fun _ => ?_)
  · unfold taskmillref_HeapsFault_l2 badO
    rw [lt_n hi, ge_n, href_x h hs i hi, Bool.and_self, cond_true, cond_true]
    cases decide ((20 : Int) < ((ix h.Objects i).length : Int)) <;> rfl
  · unfold taskmillref_HeapsFault_l2
    rw [nlt_n]; rfl
theorem href_eq (h : GHeap) (hs : Small h) : taskmillref_HeapsFault h = some (checkF h) := by
  have h2 := hs.r
  unfold taskmillref_HeapsFault checkF
  have := loopO_findP (step := taskmillref_HeapsFault_l3 h) (fun k => ((k : Nat) : Int)) (badR h) ((firstAt (badO h) h.Objects.length).getD ⟨0, 0⟩) h.Roots.length (fun i hi _ => ?_) (fun _ => ?_)
  · rw [show ((0 : Nat) : Int) = 0 from rfl] at this
    rw [this]
    cases (decide ((500 : Int) < (h.Objects.length : Int)) || decide ((16 : Int) < (h.Roots.length : Int))) <;> rfl
  · unfold taskmillref_HeapsFault_l3 badR
    rw [lt_n hi, ge_n, wrap_n1 i (by omega)]
    cases (decide (ix h.Roots i < -1)) <;> cases (decide ((h.Objects.length : Int) ≤ ix h.Roots i)) <;> rfl
  · unfold taskmillref_HeapsFault_l3
    rw [nlt_n, href_o h hs]; rfl
/-- A heap of which nothing is told. -/
structure Fine (h : GHeap) : Prop where
  o : h.Objects.length ≤ 500
  r : h.Roots.length ≤ 16
  root : ∀ x ∈ h.Roots, -1 ≤ x ∧ x < h.Objects.length
  fld : ∀ l ∈ h.Objects, l.length ≤ 20 ∧ ∀ x ∈ l, -1 ≤ x ∧ x < h.Objects.length
theorem fine_of {h : GHeap} (hc : (checkF h).Code = 0) : Fine h := by
  unfold checkF at hc
  cases h1 : (decide ((500 : Int) < (h.Objects.length : Int)) || decide ((16 : Int) < (h.Roots.length : Int))) with
  | true => rw [h1] at hc; simp at hc
  | false =>
    rw [h1, cond_false] at hc
    simp only [Bool.or_eq_false_iff, decide_eq_false_iff_not] at h1
    cases h2 : firstAt (badR h) h.Roots.length with
    | some f =>
      rw [h2] at hc
      obtain ⟨i, _, h3, _⟩ := firstAt_some _ h2
      unfold badR at h3
      cases hb : (decide (ix h.Roots i < -1) || decide ((h.Objects.length : Int) ≤ ix h.Roots i)) <;> simp [hb] at h3
      subst h3; simp at hc
    | none =>
      rw [h2] at hc
      simp only [Option.getD_none] at hc
      have hr := firstAt_bif h2
      cases h3 : firstAt (badO h) h.Objects.length with
      | some f =>
        rw [h3] at hc
        obtain ⟨i, _, h4, _⟩ := firstAt_some _ h3
        unfold badO at h4
        cases hb : decide ((20 : Int) < ((ix h.Objects i).length : Int)) with
        | true => rw [hb] at h4; simp at h4; subst h4; simp at hc
        | false =>
          rw [hb, cond_false] at h4
          obtain ⟨k, _, h5, _⟩ := firstAt_some _ h4
          unfold badX at h5
          cases hb : (decide (ix (ix h.Objects i) k < -1) || decide ((h.Objects.length : Int) ≤ ix (ix h.Objects i) k)) <;> simp [hb] at h5
          subst h5; simp at hc
      | none =>
        have ho := (firstAt_none _).1 h3
        refine ⟨by omega, by omega, fun x hx => ?_, fun l hl => ?_⟩
        · obtain ⟨i, hi, rfl⟩ := List.getElem_of_mem hx
          have := hr i hi
          rw [ix_get hi] at this
          simp only [Bool.or_eq_false_iff, decide_eq_false_iff_not] at this
          omega
        · obtain ⟨i, hi, rfl⟩ := List.getElem_of_mem hl
          have := ho i hi
          unfold badO at this
          rw [ix_get hi] at this
          cases hb : decide ((20 : Int) < (h.Objects[i].length : Int)) with
          | true => rw [hb] at this; cases this
          | false =>
            rw [hb, cond_false] at this
            rw [decide_eq_false_iff_not] at hb
            have hx := firstAt_bif this
            refine ⟨by omega, fun x hm => ?_⟩
            obtain ⟨k, hk, rfl⟩ := List.getElem_of_mem hm
            have := hx k hk
            rw [ix_get hi, ix_get hk] at this
            simp only [Bool.or_eq_false_iff, decide_eq_false_iff_not] at this
            omega
end Go.Proofs.Ytlfcicekappbfaa
end

section
namespace Go.Proofs.Ytlfcicekappbfaa
open Go Go.Sx
set_option linter.unusedVariables false
set_option linter.unusedSimpArgs false
abbrev Col := List Int × List Int
theorem ix_set {α : Type} [Enc α] {l : List α} {i j : Int} (hi : 0 ≤ i ∧ i < (l.length : Int)) (hj : 0 ≤ j) (v : α) : ix (l.set i.toNat v) j = if i = j then v else ix l j := by
  unfold ix
  rw [List.getD_eq_getElem?_getD, List.getD_eq_getElem?_getD, List.getElem?_set]
  by_cases h : i = j
  · subst h
    rw [if_pos rfl, if_pos (by omega), if_pos rfl]; rfl
  · rw [if_neg (by omega), if_neg h]
theorem ix_app {α : Type} [Enc α] {l : List α} (v : α) {j : Int} (hj : 0 ≤ j ∧ j ≤ (l.length : Int)) : ix (l ++ [v]) j = if j = (l.length : Int) then v else ix l j := by
  unfold ix
  rw [List.getD_eq_getElem?_getD, List.getD_eq_getElem?_getD, List.getElem?_append]
  by_cases h : j = (l.length : Int)
  · subst h; simp
  · rw [if_pos (by omega), if_neg h]
theorem ix_mem {α : Type} [Enc α] {l : List α} {j : Int} (hj : 0 ≤ j ∧ j < (l.length : Int)) : ix l j ∈ l := by
  have : ix l j = l[j.toNat]'(by omega) := by
    have := ix_get (xs := l) (i := j.toNat) (by omega)
    rwa [show ((j.toNat : Nat) : Int) = j from by omega] at this
  rw [this]; exact List.getElem_mem _
theorem mem_ix {α : Type} [Enc α] {l : List α} {x : α} (h : x ∈ l) : ∃ j : Int, 0 ≤ j ∧ j < (l.length : Int) ∧ ix l j = x := by
  obtain ⟨i, hi, rfl⟩ := List.getElem_of_mem h
  exact ⟨i, by omega, by omega, ix_get hi⟩
def shadeO (s : Col) (o : Int) : Col := bif decide ((0 : Int) ≤ o) && (ix s.1 o == 0) then (s.1.set o.toNat 1, s.2 ++ [o]) else s
def shadeL (l : List Int) (s : Col) : Col := l.foldl shadeO s
theorem shadeO_len (s : Col) (o : Int) : (shadeO s o).1.length = s.1.length ∧ (shadeO s o).2.length ≤ s.2.length + 1 := by
  unfold shadeO
  cases decide ((0 : Int) ≤ o) && (ix s.1 o == 0) <;> simp
theorem shadeL_len (l : List Int) : ∀ (s : Col), (shadeL l s).1.length = s.1.length ∧ (shadeL l s).2.length ≤ s.2.length + l.length := by
  induction l with
  | nil => exact fun s => ⟨rfl, Nat.le_refl _⟩
  | cons o l ih =>
    intro s
    obtain ⟨h1, h2⟩ := ih (shadeO s o)
    obtain ⟨h3, h4⟩ := shadeO_len s o
    exact ⟨h1.trans h3, by simp only [List.length_cons]; simp only [shadeL, List.foldl_cons] at h2 ⊢; omega⟩
theorem shadeL_snoc (l : List Int) (o : Int) (s : Col) : shadeL (l ++ [o]) s = shadeO (shadeL l s) o := by simp [shadeL]
theorem shade_gen {C D : Type} {step : Int × List Int × List Int → Option ((Int × List Int × List Int) ⊕ (List Int × C × D × List Int))} (l : List Int) (c3 : D) (c1 : C) (n : Nat)
    (h : ∀ t col line, step (t, col, line) = (bif (decide (t < ((l.length : Nat) : Int))) then (bif ((decide ((0 : Int) ≤ t)) && (decide (t < ((l.length : Nat) : Int)))) then (bif ((!(decide ((0 : Int) ≤ (ix l t)))) || ((decide ((0 : Int) ≤ (ix l t))) && (decide ((ix l t) < ((col.length : Nat) : Int))))) then (bif ((decide ((0 : Int) ≤ (ix l t))) && ((ix col (ix l t)) == 0)) then (bif ((decide ((0 : Int) ≤ (ix l t))) && (decide ((ix l t) < ((col.length : Nat) : Int)))) then (bif (decide ((line ++ ([(ix l t)] : List Int)).length * 8 ≤ 140737488355328)) then some (Sum.inl ((IntKind.i64.wrap (t + 1)), (col.set (ix l t).toNat 1), (line ++ ([(ix l t)] : List Int)))) else none) else none) else some (Sum.inl ((IntKind.i64.wrap (t + 1)), col, line))) else none) else none) else (Option.map Sum.inr (some (line, c1, c3, col)))))
    (hr : ∀ x ∈ l, x < (n : Int)) (s : Col) (hs : s.1.length = n) (hb : s.2.length + l.length ≤ 1000000) : loopO step (0, s.1, s.2) = some ((shadeL l s).2, c1, c3, (shadeL l s).1) := by
  refine loopO_all (step := step) (fun i => (((i : Nat) : Int), (shadeL (l.take i) s).1, (shadeL (l.take i) s).2)) (some ((shadeL l s).2, c1, c3, (shadeL l s).1)) l.length (fun i hi => ?_) ?_
  · try dsimp only
    obtain ⟨h1, h2⟩ := shadeL_len (l.take i) s
    rw [List.take_succ_eq_append_getElem hi, shadeL_snoc]
    rw [h, lt_n hi, ge_n, ix_get hi, wrap_n1 i (by omega)]
    have hx := hr _ (List.getElem_mem hi)
    have hl := List.length_take_le i l
    have e1 : decide (l[i] < (((shadeL (l.take i) s).1.length : Nat) : Int)) = true := by rw [h1, hs]; simpa using hx
    have e2 : decide (((shadeL (l.take i) s).2 ++ [l[i]]).length * 8 ≤ 140737488355328) = true := by
      rw [decide_eq_true_eq, List.length_append]; simp at h2 ⊢; omega
    rw [e1, e2]
    unfold shadeO
    cases decide ((0 : Int) ≤ l[i]) <;> cases (ix (shadeL (l.take i) s).1 l[i] == 0) <;> rfl
  · try dsimp only
    rw [h, nlt_n, List.take_length]; rfl
theorem shade1_eq (line R : List Int) (O : List (List Int)) (col : List Int) (hr : ∀ x ∈ R, x < (col.length : Int)) (hb : line.length + R.length ≤ 1000000) : sweep_cycle_shade_1 line R O col = some ((shadeL R (col, line)).2, O, R, (shadeL R (col, line)).1) :=
  shade_gen R R O col.length (fun _ _ _ => rfl) hr (col, line) rfl hb
theorem shade2_eq (li : Int) (O : List (List Int)) (R col line : List Int) (h0 : 0 ≤ li) (hr : ∀ x ∈ ix O li, x < (col.length : Int)) (hb : line.length + (ix O li).length ≤ 1000000) : sweep_cycle_shade_2 li O R col line = some ((shadeL (ix O li) (col, line)).2, O, R, (shadeL (ix O li) (col, line)).1) := by
  have := shade_gen (step := sweep_cycle_shade_2_l1 li O R) (ixD O li) R O col.length (fun _ _ _ => rfl) (by rw [ixD_pos h0]; exact hr) (col, line) rfl (by rw [ixD_pos h0]; exact hb)
  rw [ixD_pos h0] at this
  exact this
theorem shade3_eq (l : List Int) (O : List (List Int)) (R col line : List Int) (hr : ∀ x ∈ l, x < (col.length : Int)) (hb : line.length + l.length ≤ 1000000) : sweep_cycle_shade_3 l O R col line = some ((shadeL l (col, line)).2, O, R, (shadeL l (col, line)).1) :=
  shade_gen l R O col.length (fun _ _ _ => rfl) hr (col, line) rfl hb
/-! ### Colours, and the line of what is grey -/
structure Ok (n : Nat) (s : Col) : Prop where
  len : s.1.length = n
  cnt : s.2.length = s.1.count 1
  rng : ∀ o ∈ s.2, 0 ≤ o ∧ o < (n : Int) ∧ ix s.1 o = 1
  grey : ∀ o : Int, 0 ≤ o → o < n → ix s.1 o = 1 → o ∈ s.2
  col : ∀ o : Int, 0 ≤ o → o < n → ix s.1 o = 0 ∨ ix s.1 o = 1 ∨ ix s.1 o = 2
  nd : s.2.Nodup
theorem Ok.line {n : Nat} {s : Col} (h : Ok n s) : s.2.length ≤ n := by rw [h.cnt, ← h.len]; exact List.count_le_length
theorem get_ix {l : List Int} {o : Int} (h : 0 ≤ o ∧ o < (l.length : Int)) : l[o.toNat]'(by omega) = ix l o := by
  have := ix_get (xs := l) (i := o.toNat) (by omega)
  rw [show ((o.toNat : Nat) : Int) = o from by omega] at this
  exact this.symm
theorem Ok.shadeO {n : Nat} {s : Col} (h : Ok n s) {o : Int} (ho : o < n) : Ok n (shadeO s o) := by
  unfold Ytlfcicekappbfaa.shadeO
  by_cases h0 : 0 ≤ o
  · by_cases hw : ix s.1 o = 0
    · have hb : (decide ((0 : Int) ≤ o) && (ix s.1 o == 0)) = true := by simp [h0, hw]
      rw [hb, cond_true]
      have hi : 0 ≤ o ∧ o < ((s.1.length : Nat) : Int) := ⟨h0, by rw [h.len]; exact ho⟩
      have hni : o ∉ s.2 := fun hm => by have := (h.rng o hm).2.2; omega
      refine ⟨by rw [List.length_set]; exact h.len, ?_, fun x hx => ?_, fun x h1 h2 h3 => ?_, fun x h1 h2 => ?_, ?_⟩
      · rw [List.length_append, List.length_singleton, h.cnt, List.count_set (by omega), get_ix hi, hw]
        simp
      · rcases List.mem_append.1 hx with hx | hx
        · obtain ⟨a, b, c⟩ := h.rng x hx
          refine ⟨a, b, ?_⟩
          rw [ix_set hi a]
          split
          · rfl
          · exact c
        · simp only [List.mem_singleton] at hx
          subst hx
          exact ⟨h0, ho, by rw [ix_set hi h0, if_pos rfl]⟩
      · rw [ix_set hi h1] at h3
        by_cases he : o = x
        · subst he; simp
        · rw [if_neg he] at h3; exact List.mem_append_left _ (h.grey x h1 h2 h3)
      · rw [ix_set hi h1]
        split
        · exact .inr (.inl rfl)
        · exact h.col x h1 h2
      · exact nodup_snoc.2 ⟨h.nd, hni⟩
    · have hb : (decide ((0 : Int) ≤ o) && (ix s.1 o == 0)) = false := by simp [hw]
      rw [hb]; exact h
  · have hb : (decide ((0 : Int) ≤ o) && (ix s.1 o == 0)) = false := by simp [h0]
    rw [hb]; exact h
theorem Ok.shadeL {n : Nat} : ∀ {l : List Int} {s : Col}, Ok n s → (∀ x ∈ l, x < (n : Int)) → Ok n (shadeL l s)
  | [], s, h, _ => h
  | o :: l, s, h, hl => by
    have := Ok.shadeL (l := l) (h.shadeO (hl o (by simp))) fun x hx => hl x (by simp [hx])
    exact this
/-- What shading turns: white to grey alone. -/
theorem shadeO_ix {n : Nat} {s : Col} (h : s.1.length = n) {o : Int} (ho : o < n) {x : Int} (hx : 0 ≤ x) : ix (shadeO s o).1 x = if x = o ∧ ix s.1 o = 0 then 1 else ix s.1 x := by
  unfold shadeO
  by_cases h0 : 0 ≤ o
  · by_cases hw : ix s.1 o = 0
    · have hb : (decide ((0 : Int) ≤ o) && (ix s.1 o == 0)) = true := by simp [h0, hw]
      rw [hb, cond_true, ix_set ⟨h0, by rw [h]; exact ho⟩ hx]
      by_cases e : o = x
      · subst e; rw [if_pos rfl, if_pos ⟨rfl, hw⟩]
      · rw [if_neg e, if_neg fun h => e h.1.symm]
    · have hb : (decide ((0 : Int) ≤ o) && (ix s.1 o == 0)) = false := by simp [hw]
      rw [hb, if_neg fun h => hw h.2]; rfl
  · have hb : (decide ((0 : Int) ≤ o) && (ix s.1 o == 0)) = false := by simp [h0]
    rw [hb, if_neg fun h => by omega]; rfl
theorem shadeL_ix {n : Nat} : ∀ {l : List Int} {s : Col}, s.1.length = n → (∀ x ∈ l, x < (n : Int)) → ∀ x : Int, 0 ≤ x → ix (shadeL l s).1 x = if x ∈ l ∧ ix s.1 x = 0 then 1 else ix s.1 x
  | [], s, h, _, x, hx => by simp [shadeL]
  | o :: l, s, h, hl, x, hx => by
    have ho := hl o (by simp)
    have e : shadeL (o :: l) s = shadeL l (shadeO s o) := rfl
    rw [e, shadeL_ix (n := n) ((shadeO_len s o).1.trans h) (fun y hy => hl y (by simp [hy])) x hx, shadeO_ix h ho hx]
    by_cases e : x = o
    · subst e
      by_cases hw : ix s.1 x = 0
      · simp [hw]
      · simp [hw]
    · by_cases hw : ix s.1 x = 0
      · simp [e, hw]
      · simp [e, hw]
/-- .. and the line only grows. -/
theorem shadeO_line (s : Col) (o : Int) : ∃ t, (shadeO s o).2 = s.2 ++ t := by
  unfold shadeO
  cases decide ((0 : Int) ≤ o) && (ix s.1 o == 0)
  · exact ⟨[], by simp⟩
  · exact ⟨[o], rfl⟩
def markF (O : List (List Int)) (s : Col) : Col := match s.2 with
  | [] => s
  | o :: r => shadeL (ix O o) (s.1.set o.toNat 2, r)
/-- Objects and registers that are fine. -/
structure Wf (O : List (List Int)) (R : List Int) : Prop where
  o : O.length ≤ 500
  r : R.length ≤ 1000
  root : ∀ x ∈ R, -1 ≤ x ∧ x < (O.length : Int)
  fld : ∀ l ∈ O, l.length ≤ 1000 ∧ ∀ x ∈ l, -1 ≤ x ∧ x < (O.length : Int)
theorem Ok.head {n : Nat} {col r : List Int} {o : Int} (h : Ok n (col, o :: r)) : Ok n (col.set o.toNat 2, r) := by
  obtain ⟨a, b, c⟩ := h.rng o (by simp)
  have hi : 0 ≤ o ∧ o < ((col.length : Nat) : Int) := ⟨a, by have := h.len; simp only at this; omega⟩
  have hnd := List.nodup_cons.1 h.nd
  refine ⟨by simpa using h.len, ?_, fun x hx => ?_, fun x h1 h2 h3 => ?_, fun x h1 h2 => ?_, hnd.2⟩
  · have := h.cnt
    simp only [List.length_cons] at this
    show r.length = (col.set o.toNat 2).count 1
    rw [List.count_set (by omega), get_ix hi, c]
    simp; omega
  · obtain ⟨a', b', c'⟩ := h.rng x (by simp [hx])
    refine ⟨a', b', ?_⟩
    rw [ix_set hi a', if_neg (fun e => hnd.1 (by rw [e]; exact hx))]; exact c'
  · rw [ix_set hi h1] at h3
    by_cases he : o = x
    · rw [if_pos he] at h3; cases h3
    · rw [if_neg he] at h3
      rcases List.mem_cons.1 (h.grey x h1 h2 h3) with e | e
      · exact absurd e.symm he
      · exact e
  · rw [ix_set hi h1]
    split
    · exact .inr (.inr rfl)
    · exact h.col x h1 h2
theorem Wf.fldlt {O : List (List Int)} {R : List Int} (h : Wf O R) {o : Int} (h0 : 0 ≤ o) (h1 : o < (O.length : Int)) : (ix O o).length ≤ 1000 ∧ ∀ x ∈ ix O o, -1 ≤ x ∧ x < (O.length : Int) := h.fld _ (ix_mem ⟨h0, h1⟩)
theorem Ok.markF {O : List (List Int)} {R : List Int} (hw : Wf O R) {s : Col} (h : Ok O.length s) : Ok O.length (markF O s) := by
  obtain ⟨col, line⟩ := s
  cases line with
  | nil => exact h
  | cons o r =>
    obtain ⟨a, b, _⟩ := h.rng o (by simp)
    exact h.head.shadeL fun x hx => ((hw.fldlt a b).2 x hx).2
theorem mark_eq {O : List (List Int)} {R : List Int} (hw : Wf O R) {s : Col} (h : Ok O.length s) : sweep_cycle_mark_1 O R s.1 s.2 = some (!(s.2.isEmpty), (markF O s).2, O, R, (markF O s).1) := by
  obtain ⟨col, line⟩ := s
  unfold sweep_cycle_mark_1
  cases line with
  | nil => rfl
  | cons o r =>
    obtain ⟨a, b, c⟩ := h.rng o (by simp)
    have hlen : col.length = O.length := h.len
    have hline := h.line
    simp only [List.length_cons] at hline
    obtain ⟨f1, f2⟩ := hw.fldlt a b
    have e0 : ix (o :: r) (0 : Int) = o := rfl
    have e1 : ((((o :: r).length : Nat) : Int) == 0) = false := by simp; omega
    have e2 : decide ((0 : Int) < (((o :: r).length : Nat) : Int)) = true := by simp
    have e3 : decide ((1 : Int) ≤ (((o :: r).length : Nat) : Int)) = true := by simp; omega
    have e4 : decide ((0 : Int) ≤ o) = true := by simpa using a
    have e5 : decide (o < ((col.length : Nat) : Int)) = true := by rw [hlen]; simpa using b
    have e6 : decide (o < ((O.length : Nat) : Int)) = true := by simpa using b
    have e7 : cut (o :: r) 1 (((o :: r).length : Nat) : Int) = r := by simp [cut]
    have ho := hw.o
    dsimp only
    rw [e1, e2, e3, e0, e4, e5, e6, e7, shade2_eq o O R _ r a (by rw [List.length_set, hlen]; exact fun x hx => (f2 x hx).2) (by omega)]
    rfl
/-- What is not black yet. -/
def nb (s : Col) : Nat := s.1.length - s.1.count 2
theorem shadeO_nb {n : Nat} {s : Col} (h : Ok n s) {o : Int} (ho : o < n) : (shadeO s o).1.count 2 = s.1.count 2 := by
  unfold shadeO
  by_cases h0 : 0 ≤ o
  · by_cases hw : ix s.1 o = 0
    · have hb : (decide ((0 : Int) ≤ o) && (ix s.1 o == 0)) = true := by simp [h0, hw]
      have hi : 0 ≤ o ∧ o < ((s.1.length : Nat) : Int) := ⟨h0, by rw [h.len]; exact ho⟩
      rw [hb, cond_true, List.count_set (by omega), get_ix hi, hw]
      simp
    · have hb : (decide ((0 : Int) ≤ o) && (ix s.1 o == 0)) = false := by simp [hw]
      rw [hb]; rfl
  · have hb : (decide ((0 : Int) ≤ o) && (ix s.1 o == 0)) = false := by simp [h0]
    rw [hb]; rfl
theorem shadeL_nb {n : Nat} : ∀ {l : List Int} {s : Col}, Ok n s → (∀ x ∈ l, x < (n : Int)) → (shadeL l s).1.count 2 = s.1.count 2
  | [], s, h, _ => rfl
  | o :: l, s, h, hl => by
    have := shadeL_nb (l := l) (h.shadeO (hl o (by simp))) fun x hx => hl x (by simp [hx])
    exact this.trans (shadeO_nb h (hl o (by simp)))
theorem markF_nb {O : List (List Int)} {R : List Int} (hw : Wf O R) {s : Col} (h : Ok O.length s) (hl : s.2 ≠ []) : nb (markF O s) < nb s := by
  obtain ⟨col, line⟩ := s
  cases line with
  | nil => exact absurd rfl hl
  | cons o r =>
    obtain ⟨a, b, c⟩ := h.rng o (by simp)
    have hlen : col.length = O.length := h.len
    have hi : 0 ≤ o ∧ o < ((col.length : Nat) : Int) := ⟨a, by omega⟩
    unfold nb markF
    dsimp only
    rw [(shadeL_len _ _).1, shadeL_nb h.head fun x hx => ((hw.fldlt a b).2 x hx).2]
    dsimp only
    rw [List.length_set, List.count_set (by omega), get_ix hi, c]
    have : col.count 2 < col.length := by
      rcases Nat.lt_or_ge (col.count 2) col.length with h1 | h1
      · exact h1
      · have : col.count 2 = col.length := Nat.le_antisymm List.count_le_length h1
        have := (List.count_eq_length.1 this) _ (ix_mem hi)
        simp only at c
        omega
    simp; omega
def allN (O : List (List Int)) : Nat → Col → Col
  | 0, s => s
  | n + 1, s => match s.2 with
    | [] => s
    | _ :: _ => allN O n (markF O s)
def allF (O : List (List Int)) (s : Col) : Col := allN O (nb s + 1) s
theorem allN_more {O : List (List Int)} {R : List Int} (hw : Wf O R) : ∀ (n m : Nat) (s : Col), Ok O.length s → nb s < n → nb s < m → allN O n s = allN O m s
  | 0, _, _, _, h, _ => by omega
  | _ + 1, 0, _, _, _, h => by omega
  | n + 1, m + 1, s, hs, h1, h2 => by
    unfold allN
    cases hl : s.2 with
    | nil => rfl
    | cons o r =>
      have := markF_nb hw hs (by rw [hl]; simp)
      exact allN_more hw n m _ (hs.markF hw) (by omega) (by omega)
theorem allF_nil {O : List (List Int)} {s : Col} (h : s.2 = []) : allF O s = s := by unfold allF allN; rw [h]
theorem allF_step {O : List (List Int)} {R : List Int} (hw : Wf O R) {s : Col} (hs : Ok O.length s) (h : s.2 ≠ []) : allF O s = allF O (markF O s) := by
  have h1 := markF_nb hw hs h
  unfold allF
  rw [show allN O (nb s + 1) s = allN O (nb s) (markF O s) from by cases hl : s.2 with
    | nil => exact absurd hl h
    | cons o r => conv => lhs; unfold allN
                  rw [hl]]
  exact allN_more hw _ _ _ (hs.markF hw) (by omega) (by omega)
/-- What lasts through all. -/
theorem allF_ind {O : List (List Int)} {R : List Int} (hw : Wf O R) (I : Col → Prop) (hI : ∀ s, Ok O.length s → I s → s.2 ≠ [] → I (markF O s)) : ∀ (n : Nat) (s : Col), nb s ≤ n → Ok O.length s → I s → Ok O.length (allF O s) ∧ I (allF O s) ∧ (allF O s).2 = [] := by
  intro n
  induction n with
  | zero =>
    intro s hn hs hi
    by_cases hl : s.2 = []
    · rw [allF_nil hl]; exact ⟨hs, hi, hl⟩
    · have := markF_nb hw hs hl; omega
  | succ n ih =>
    intro s hn hs hi
    by_cases hl : s.2 = []
    · rw [allF_nil hl]; exact ⟨hs, hi, hl⟩
    · rw [allF_step hw hs hl]
      exact ih _ (by have := markF_nb hw hs hl; omega) (hs.markF hw) (hI s hs hi hl)
theorem all_eq {O : List (List Int)} {R : List Int} (hw : Wf O R) {s : Col} (h : Ok O.length s) : sweep_cycle_all_1 O R s.1 s.2 = some ((allF O s).2, O, R, (allF O s).1) := by
  unfold sweep_cycle_all_1
  refine loopO_eqv (step := sweep_cycle_all_1_l1) (fun t => some ((allF O (t.2.2.1, t.2.2.2)).2, O, R, (allF O (t.2.2.1, t.2.2.2)).1)) (fun t => t.1 = O ∧ t.2.1 = R ∧ Ok O.length (t.2.2.1, t.2.2.2)) (fun t => nb (t.2.2.1, t.2.2.2)) ?_ ⟨rfl, rfl, h⟩
  rintro ⟨O', R', col, line⟩ ⟨h1, h2, h3⟩
  simp only at h1 h2 h3
  subst h1; subst h2
  unfold sweep_cycle_all_1_l1
  dsimp only
  rw [mark_eq hw h3]
  cases line with
  | nil => right; rw [allF_nil rfl]; rfl
  | cons o r =>
    left
    refine ⟨(O', R', (markF O' (col, o :: r)).1, (markF O' (col, o :: r)).2), rfl, ⟨rfl, rfl, h3.markF hw⟩, markF_nb hw h3 (by simp), ?_⟩
    dsimp only
    rw [allF_step hw h3 (by simp)]
end Go.Proofs.Ytlfcicekappbfaa
end

section
namespace Go.Proofs.Ytlfcicekappbfaa
open Go Go.Sx
set_option linter.unusedVariables false
set_option linter.unusedSimpArgs false
theorem Small.of_fine {h : GHeap} (hf : Fine h) : Small h := ⟨by have := hf.o; omega, by have := hf.r; omega, fun x hx => by have := (hf.fld x hx).1; omega⟩
theorem Fine.wf {h : GHeap} (hf : Fine h) : Wf h.Objects h.Roots := ⟨hf.o, by have := hf.r; omega, hf.root, fun l hl => ⟨by have := (hf.fld l hl).1; omega, (hf.fld l hl).2⟩⟩
theorem newCycle_eq (h : GHeap) (hs : Small h) : sweep_newCycle h = some (h.Objects, h.Roots, List.replicate h.Objects.length 0) := by
  have h1 := hs.o; have h2 := hs.r
  unfold sweep_newCycle
  rw [clone_eq _ (by omega)]
  have hd : decide ((0 : Int) ≤ ((h.Objects.length : Nat) : Int) ∧ ((h.Objects.length : Nat) : Int) ≤ 4611686018427387904 ∧ (8 : Int) * ((h.Objects.length : Nat) : Int) ≤ 140737488355328) = true := by
    rw [decide_eq_true_eq]; omega
  rw [Option.bind_some, hd, cond_true]
  have := loopO_all (step := sweep_newCycle_l1 h) (fun i => (((i : Nat) : Int), h.Objects.take i, h.Roots)) (some (h.Objects, h.Roots, List.replicate h.Objects.length 0)) h.Objects.length (fun i hi => ?_) ?_
  · exact this
  · unfold sweep_newCycle_l1
    dsimp only
    rw [lt_n hi, ge_n, ix_get hi, clone_eq _ (by have := hs.f _ (List.getElem_mem hi); omega), wrap_n1 i (by omega)]
    have e : h.Objects.take i ++ [h.Objects[i]] = h.Objects.take (i + 1) := by rw [List.take_succ_eq_append_getElem hi]
    have hl : decide ((h.Objects.take (i + 1)).length * 24 ≤ 140737488355328) = true := by
      rw [decide_eq_true_eq, List.length_take]; omega
    simp only [Bool.true_and, cond_true, Option.bind_some, e, hl]
  · unfold sweep_newCycle_l1
    dsimp only
    rw [nlt_n, List.take_length]; rfl
/-- The numbers at which it is so. -/
def pick (p : Int → Bool) (n : Nat) : List Int := ((List.range n).filter fun (i : Nat) => p (i : Int)).map fun (i : Nat) => (i : Int)
theorem pick_succ (p : Int → Bool) (n : Nat) : pick p (n + 1) = bif p (n : Int) then pick p n ++ [(n : Int)] else pick p n := by
  unfold pick
  rw [List.range_succ, List.filter_append, List.map_append]
  cases h : p (n : Int) <;> simp [h]
theorem pick_len (p : Int → Bool) (n : Nat) : (pick p n).length ≤ n := by
  unfold pick
  rw [List.length_map]
  exact Nat.le_trans (List.length_filter_le _ _) (by simp)
theorem pick_congr {p q : Int → Bool} {n : Nat} (h : ∀ i : Nat, i < n → p i = q i) : pick p n = pick q n := by
  unfold pick
  congr 1
  exact List.filter_congr fun i hi => h i (List.mem_range.1 hi)
theorem mem_pick {p : Int → Bool} {n : Nat} {x : Int} : x ∈ pick p n ↔ 0 ≤ x ∧ x < (n : Int) ∧ p x = true := by
  unfold pick
  simp only [List.mem_map, List.mem_filter, List.mem_range]
  constructor
  · rintro ⟨i, ⟨h1, h2⟩, rfl⟩; exact ⟨by omega, by omega, h2⟩
  · rintro ⟨h1, h2, h3⟩; exact ⟨x.toNat, ⟨by omega, by rw [show ((x.toNat : Nat) : Int) = x from by omega]; exact h3⟩, by omega⟩
def whites (col : List Int) : List Int := pick (fun i => ix col i == 0) col.length
theorem whites_eq (c : cycle) (h : c.colour.length ≤ 1000000) : sweep_cycle_whites c = some (whites c.colour) := by
  unfold sweep_cycle_whites
  refine loopO_all (step := sweep_cycle_whites_l1 c) (fun i => (((i : Nat) : Int), pick (fun i => ix c.colour i == 0) i)) (some (whites c.colour)) c.colour.length (fun i hi => ?_) ?_
  · unfold sweep_cycle_whites_l1
    dsimp only
    have hl := pick_len (fun i => ix c.colour i == 0) i
    have e2 : decide ((pick (fun i => ix c.colour i == 0) i ++ ([((i : Nat) : Int)] : List Int)).length * 8 ≤ 140737488355328) = true := by
      rw [decide_eq_true_eq, List.length_append]; simp; omega
    rw [lt_n hi, ge_n, e2, pick_succ]
    unfold sweep_cycle_whites_j1
    rw [wrap_n1 i (by omega)]
    cases (ix c.colour (i : Int) == 0) <;> rfl
  · unfold sweep_cycle_whites_l1
    dsimp only
    rw [nlt_n]; rfl
theorem not_eq (b : List Bool) (h : b.length ≤ 1000000) : taskmillref_Not b = some (pick (fun i => !(ix b i)) b.length) := by
  unfold taskmillref_Not
  refine loopO_all (step := taskmillref_Not_l1 b) (fun i => (((i : Nat) : Int), pick (fun i => !(ix b i)) i)) (some (pick (fun i => !(ix b i)) b.length)) b.length (fun i hi => ?_) ?_
  · unfold taskmillref_Not_l1
    dsimp only
    have hl := pick_len (fun i => !(ix b i)) i
    have e2 : decide ((pick (fun i => !(ix b i)) i ++ ([((i : Nat) : Int)] : List Int)).length * 8 ≤ 140737488355328) = true := by
      rw [decide_eq_true_eq, List.length_append]; simp; omega
    rw [lt_n hi, ge_n, e2, pick_succ]
    unfold taskmillref_Not_j1
    rw [wrap_n1 i (by omega)]
    cases (ix b (i : Int)) <;> rfl
  · unfold taskmillref_Not_l1
    dsimp only
    rw [nlt_n]; rfl
/-! ### What registers lead to -/
inductive Reach (O : List (List Int)) (R : List Int) : Int → Prop
  | root {x} (h : x ∈ R) (h0 : 0 ≤ x) : Reach O R x
  | step {a x} (h : Reach O R a) (hx : x ∈ ix O a) (h0 : 0 ≤ x) : Reach O R x
theorem Reach.lt {O : List (List Int)} {R : List Int} (hw : Wf O R) {x : Int} (h : Reach O R x) : 0 ≤ x ∧ x < (O.length : Int) := by
  induction h with
  | root h h0 => exact ⟨h0, (hw.root _ h).2⟩
  | step h hx h0 ih => exact ⟨h0, ((hw.fldlt ih.1 ih.2).2 _ hx).2⟩
theorem markF_ix {O : List (List Int)} {R : List Int} (hw : Wf O R) {col r : List Int} {o : Int} (h : Ok O.length (col, o :: r)) {x : Int} (hx : 0 ≤ x) : ix (markF O (col, o :: r)).1 x = if x = o then 2 else if x ∈ ix O o ∧ ix col x = 0 then 1 else ix col x := by
  obtain ⟨a, b, c⟩ := h.rng o (by simp)
  have hlen : col.length = O.length := h.len
  have hi : 0 ≤ o ∧ o < ((col.length : Nat) : Int) := ⟨a, by omega⟩
  unfold markF
  dsimp only
  rw [shadeL_ix (n := O.length) (by simpa using hlen) (fun y hy => ((hw.fldlt a b).2 y hy).2) x hx]
  dsimp only
  rw [ix_set hi hx]
  by_cases e : x = o
  · subst e; simp
  · have e' : ¬ o = x := fun h => e h.symm
    simp only [if_neg e, if_neg e']
/-- While nothing is written: what is not white is reached; black objects lead to nothing white. -/
structure Mark (O : List (List Int)) (R : List Int) (s : Col) : Prop where
  sound : ∀ o : Int, 0 ≤ o → o < (O.length : Int) → ix s.1 o ≠ 0 → Reach O R o
  root : ∀ r ∈ R, 0 ≤ r → ix s.1 r ≠ 0
  black : ∀ o : Int, 0 ≤ o → o < (O.length : Int) → ix s.1 o = 2 → ∀ x ∈ ix O o, 0 ≤ x → ix s.1 x ≠ 0
theorem Mark.step {O : List (List Int)} {R : List Int} (hw : Wf O R) {s : Col} (hs : Ok O.length s) (h : Mark O R s) (hl : s.2 ≠ []) : Mark O R (markF O s) := by
  obtain ⟨col, line⟩ := s
  cases line with
  | nil => exact absurd rfl hl
  | cons o r =>
    obtain ⟨a, b, c⟩ := hs.rng o (by simp)
    simp only at c
    have ro : Reach O R o := h.sound o a b (by simp only; omega)
    refine ⟨fun x h0 h1 h2 => ?_, fun x hx h0 => ?_, fun y h0 h1 h2 x hx hx0 => ?_⟩
    · rw [markF_ix hw hs h0] at h2
      by_cases e : x = o
      · subst e; exact ro
      · rw [if_neg e] at h2
        by_cases e2 : x ∈ ix O o ∧ ix col x = 0
        · exact .step ro e2.1 h0
        · rw [if_neg e2] at h2; exact h.sound x h0 h1 h2
    · rw [markF_ix hw hs h0]
      split
      · decide
      · split
        · decide
        · exact h.root x hx h0
    · rw [markF_ix hw hs h0] at h2
      rw [markF_ix hw hs hx0]
      split
      · decide
      · split
        · decide
        · rename_i n1 n2
          by_cases e : y = o
          · subst e
            exact fun h => n2 ⟨hx, h⟩
          · rw [if_neg e] at h2
            split at h2
            · cases h2
            · exact h.black y h0 h1 h2 x hx hx0
theorem Ok.white (n : Nat) : Ok n (List.replicate n 0, []) := by
  have e : ∀ o : Int, ix (List.replicate n (0 : Int)) o = 0 := fun o => by
    unfold ix
    rw [List.getD_eq_getElem?_getD, List.getElem?_replicate]
    split <;> rfl
  refine ⟨by simp, ?_, (fun o ho => by cases ho), fun o _ _ h => ?_, fun o _ _ => .inl (e o), List.nodup_nil⟩
  · show 0 = (List.replicate n (0 : Int)).count 1
    rw [List.count_replicate]; rfl
  · rw [e] at h; cases h
theorem rep0 (n : Nat) (o : Int) : ix (List.replicate n (0 : Int)) o = 0 := by
  unfold ix
  rw [List.getD_eq_getElem?_getD, List.getElem?_replicate]
  split <;> rfl
/-- The marker's first state. -/
def startF (O : List (List Int)) (R : List Int) : Col := shadeL R (List.replicate O.length 0, [])
theorem start_ok {O : List (List Int)} {R : List Int} (hw : Wf O R) : Ok O.length (startF O R) := (Ok.white _).shadeL fun x hx => (hw.root x hx).2
theorem start_ix {O : List (List Int)} {R : List Int} (hw : Wf O R) {x : Int} (hx : 0 ≤ x) : ix (startF O R).1 x = if x ∈ R then 1 else 0 := by
  unfold startF
  rw [shadeL_ix (n := O.length) (by simp) (fun y hy => (hw.root y hy).2) x hx]
  dsimp only
  rw [rep0]
  simp
theorem start_mark {O : List (List Int)} {R : List Int} (hw : Wf O R) : Mark O R (startF O R) := by
  refine ⟨fun o h0 h1 h2 => ?_, fun r hr h0 => ?_, fun o h0 h1 h2 => ?_⟩
  · rw [start_ix hw h0] at h2
    by_cases h : o ∈ R
    · exact .root h h0
    · rw [if_neg h] at h2; exact absurd rfl h2
  · rw [start_ix hw h0, if_pos hr]; decide
  · rw [start_ix hw h0] at h2
    split at h2 <;> cases h2
/-- At the end of marking what is white is what nothing leads to. -/
theorem Mark.done {O : List (List Int)} {R : List Int} (hw : Wf O R) {s : Col} (hs : Ok O.length s) (h : Mark O R s) (hl : s.2 = []) {o : Int} (h0 : 0 ≤ o) (h1 : o < (O.length : Int)) : ix s.1 o = 0 ↔ ¬ Reach O R o := by
  constructor
  · intro hz hr
    have gen : ∀ x, Reach O R x → ix s.1 x ≠ 0 := fun x hx => by
      induction hx with
      | root h3 h4 => exact h.root _ h3 h4
      | step h3 h4 h5 ih =>
        obtain ⟨a, b⟩ := h3.lt hw
        rcases hs.col _ a b with h6 | h6 | h6
        · exact absurd h6 ih
        · have := hs.grey _ a b h6; rw [hl] at this; cases this
        · exact h.black _ a b h6 _ h4 h5
    exact gen o hr hz
  · intro hn
    by_cases hz : ix s.1 o = 0
    · exact hz
    · exact absurd (h.sound o h0 h1 hz) hn
/-! ### Reached -/
structure PassI (O : List (List Int)) (R : List Int) (cb : List Bool) (ag : Bool) (c : List Bool) : Prop where
  len : c.length = O.length
  mono : ∀ o : Int, 0 ≤ o → ix cb o = true → ix c o = true
  sound : ∀ o : Int, 0 ≤ o → o < (O.length : Int) → ix c o = true → Reach O R o
  same : ag = false → c = cb
  more : ag = true → cb.count true < c.count true
def closedAt (O : List (List Int)) (c : List Bool) (j : Int) : Prop := ix c j = true → ∀ x ∈ ix O j, 0 ≤ x → ix c x = true
theorem reach_l1 {O : List (List Int)} {R : List Int} (hw : Wf O R) (cb : List Bool) (i : Nat) (hi : i < O.length) {ag : Bool} {c : List Bool} (h0 : PassI O R cb ag c) (hc : ag = false → ∀ j : Nat, j < i → closedAt O cb j) :
    ∃ r, loopO (taskmillref_Reached_l1 ⟨O, R⟩ i) (ag, 0, c) = some r ∧ ∃ ag' c', r = .inl (ag', ((i + 1 : Nat) : Int), c') ∧ PassI O R cb ag' c' ∧ (ag' = false → ∀ j : Nat, j < i + 1 → closedAt O cb j) := by
  have ho := hw.o
  obtain ⟨f1, f2⟩ := hw.fldlt (o := (i : Int)) (by omega) (by omega)
  refine loopO_inv (step := taskmillref_Reached_l1 ⟨O, R⟩ i) (fun s => ∃ k : Nat, s.2.1 = (k : Int) ∧ k ≤ (ix O i).length ∧ PassI O R cb s.1 s.2.2 ∧ (s.1 = false → ∀ j : Nat, j < i → closedAt O cb j) ∧ (s.1 = false → ∀ q : Nat, q < k → 0 ≤ ix (ix O i) q → ix cb (ix (ix O i) q) = true)) (fun s => (ix O i).length - s.2.1.toNat)
    (fun r => ∃ ag' c', r = .inl (ag', ((i + 1 : Nat) : Int), c') ∧ PassI O R cb ag' c' ∧ (ag' = false → ∀ j : Nat, j < i + 1 → closedAt O cb j)) ?_ ⟨0, rfl, Nat.zero_le _, h0, hc, (fun _ q hq => by omega)⟩
  rintro ⟨ag, kk, c⟩ ⟨k, hk, hkl, hp, hcl, hq⟩
  simp only at hk hp hcl hq
  subst hk
  have e1 : decide ((i : Int) < ((O.length : Nat) : Int)) = true := lt_n hi
  have e2 : decide ((i : Int) < ((c.length : Nat) : Int)) = true := by rw [hp.len]; exact e1
  unfold taskmillref_Reached_l1
  dsimp only
  rw [e1, e2, ge_n, ge_n]
  by_cases hkn : k < (ix O i).length
  · cases hci : ix c (i : Int) with
    | false =>
      right
      rw [lt_n hkn]
      refine ⟨_, rfl, ag, c, by rw [wrap_n1 i (by omega)], hp, fun hf j hj => ?_⟩
      by_cases e : j = i
      · subst e
        intro h3
        rw [hp.same hf] at hci; rw [hci] at h3; cases h3
      · exact hcl hf j (by omega)
    | true =>
      left
      have hri : Reach O R (i : Int) := hp.sound i (by omega) (by omega) hci
      have hm : ix (ix O i) (k : Int) ∈ ix O i := ix_mem ⟨by omega, by omega⟩
      obtain ⟨g1, g2⟩ := f2 _ hm
      rw [lt_n hkn]
      generalize hx : ix (ix O i) (k : Int) = x at hm g1 g2
      have stay : (0 ≤ x → ix c x = true) → ∃ s', taskmillref_Reached_j2 ⟨O, R⟩ i k ag c = some (.inl s') ∧ (∃ k : Nat, s'.2.1 = (k : Int) ∧ k ≤ (ix O i).length ∧ PassI O R cb s'.1 s'.2.2 ∧ (s'.1 = false → ∀ j : Nat, j < i → closedAt O cb j) ∧ (s'.1 = false → ∀ q : Nat, q < k → 0 ≤ ix (ix O i) q → ix cb (ix (ix O i) q) = true)) ∧ (ix O i).length - s'.2.1.toNat < (ix O i).length - ((k : Nat) : Int).toNat := fun hst => by
        refine ⟨(ag, ((k + 1 : Nat) : Int), c), by unfold taskmillref_Reached_j2; rw [wrap_n1 k (by omega)], ⟨k + 1, rfl, hkn, hp, hcl, fun hf q hqk hq0 => ?_⟩, by simp; omega⟩
        by_cases e : q = k
        · subst e
          have := hst (by rw [← hx]; exact hq0)
          rw [hp.same hf] at this
          rw [hx]; exact this
        · exact hq hf q (by omega) hq0
      by_cases hx0 : 0 ≤ x
      · have e3 : decide ((0 : Int) ≤ x) = true := by simpa using hx0
        have e4 : decide (x < ((c.length : Nat) : Int)) = true := by rw [hp.len]; simpa using g2
        rw [e3, e4]
        cases hcx : ix c x with
        | true => exact stay fun _ => hcx
        | false =>
          have hi2 : 0 ≤ x ∧ x < ((c.length : Nat) : Int) := ⟨hx0, by rw [hp.len]; exact g2⟩
          refine ⟨(true, ((k + 1 : Nat) : Int), c.set x.toNat true), by unfold taskmillref_Reached_j2; rw [wrap_n1 k (by omega)]; rfl, ⟨k + 1, rfl, hkn, ⟨by rw [List.length_set]; exact hp.len, fun o h1 h2 => ?_, fun o h1 h2 h3 => ?_, (fun h => by cases h), fun _ => ?_⟩, (fun h => by cases h), (fun h => by cases h)⟩, by simp; omega⟩
          · rw [ix_set hi2 h1]
            split
            · rfl
            · exact hp.mono o h1 h2
          · rw [ix_set hi2 h1] at h3
            by_cases e : x = o
            · subst e; exact .step hri hm h1
            · rw [if_neg e] at h3; exact hp.sound o h1 h2 h3
          · have hg : c[x.toNat]'(by omega) = false := by
              have := ix_get (xs := c) (i := x.toNat) (by omega)
              rw [show ((x.toNat : Nat) : Int) = x from by omega] at this
              rw [← this]; exact hcx
            have hc1 : (c.set x.toNat true).count true = c.count true + 1 := by rw [List.count_set (by omega), hg]; simp
            show cb.count true < (c.set x.toNat true).count true
            rw [hc1]
            cases hag : ag with
            | true => have := hp.more hag; omega
            | false => rw [hp.same hag]; omega
      · have e3 : decide ((0 : Int) ≤ x) = false := by simpa using hx0
        rw [e3]
        exact stay fun h => absurd h hx0
  · right
    have hkk : k = (ix O i).length := by omega
    subst hkk
    rw [nlt_n]
    refine ⟨_, rfl, ag, c, by rw [wrap_n1 i (by omega)], hp, fun hf j hj => ?_⟩
    by_cases e : j = i
    · subst e
      intro _ x hx hx0
      obtain ⟨q, hq0, hq1, rfl⟩ := mem_ix hx
      have := hq hf q.toNat (by omega)
      rw [show ((q.toNat : Nat) : Int) = q from by omega] at this
      exact this hx0
    · exact hcl hf j (by omega)
theorem reach_l2 {O : List (List Int)} {R : List Int} (hw : Wf O R) (cb : List Bool) (h0 : PassI O R cb false cb) :
    ∃ r, loopO (taskmillref_Reached_l2 ⟨O, R⟩) (false, 0, cb) = some r ∧ ∃ ag' c', r = .inl (ag', c') ∧ PassI O R cb ag' c' ∧ (ag' = false → ∀ j : Nat, j < O.length → closedAt O cb j) := by
  refine loopO_inv (step := taskmillref_Reached_l2 ⟨O, R⟩) (fun s => ∃ i : Nat, s.2.1 = (i : Int) ∧ i ≤ O.length ∧ PassI O R cb s.1 s.2.2 ∧ (s.1 = false → ∀ j : Nat, j < i → closedAt O cb j)) (fun s => O.length - s.2.1.toNat) _ ?_ ⟨0, rfl, Nat.zero_le _, h0, (fun _ j hj => by omega)⟩
  rintro ⟨ag, ii, c⟩ ⟨i, hi, hil, hp, hcl⟩
  simp only at hi hp hcl
  subst hi
  unfold taskmillref_Reached_l2
  dsimp only
  by_cases hin : i < O.length
  · left
    obtain ⟨r, h1, ag', c', rfl, h2, h3⟩ := reach_l1 hw cb i hin hp hcl
    rw [show decide ((i : Int) < ((c.length : Nat) : Int)) = true from by rw [hp.len]; exact lt_n hin, cond_true, h1]
    exact ⟨_, rfl, ⟨i + 1, rfl, hin, h2, h3⟩, by simp; omega⟩
  · right
    have : i = O.length := by omega
    subst this
    rw [show decide (((O.length : Nat) : Int) < ((c.length : Nat) : Int)) = false from by rw [hp.len]; exact nlt_n _, cond_false]
    exact ⟨_, rfl, ag, c, rfl, hp, hcl⟩
theorem reach_eq {O : List (List Int)} {R : List Int} (hw : Wf O R) : ∃ c, taskmillref_Reached ⟨O, R⟩ = some c ∧ c.length = O.length ∧ ∀ o : Int, 0 ≤ o → o < (O.length : Int) → (ix c o = true ↔ Reach O R o) := by
  have ho := hw.o; have hr := hw.r
  unfold taskmillref_Reached
  have hd : decide ((0 : Int) ≤ (((⟨O, R⟩ : GHeap).Objects.length : Nat) : Int) ∧ (((⟨O, R⟩ : GHeap).Objects.length : Nat) : Int) ≤ 4611686018427387904 ∧ (1 : Int) * (((⟨O, R⟩ : GHeap).Objects.length : Nat) : Int) ≤ 140737488355328) = true := by
    rw [decide_eq_true_eq]; dsimp only; omega
  rw [hd, cond_true]
  have repf : ∀ o : Int, ix (List.replicate O.length (default : Bool)) o = false := fun o => by
    unfold ix
    rw [List.getD_eq_getElem?_getD, List.getElem?_replicate]
    split <;> rfl
  refine loopO_inv (step := taskmillref_Reached_l4 ⟨O, R⟩) (fun s => ∃ i : Nat, s.1 = (i : Int) ∧ i ≤ R.length ∧ s.2.length = O.length ∧ (∀ o : Int, 0 ≤ o → o < (O.length : Int) → ix s.2 o = true → Reach O R o) ∧ ∀ q : Nat, q < i → 0 ≤ ix R q → ix s.2 (ix R q) = true) (fun s => R.length - s.1.toNat) _ ?_ ⟨0, rfl, Nat.zero_le _, by simp, (fun o _ _ h => by dsimp only at h; rw [show ((((⟨O, R⟩ : GHeap).Objects.length : Nat) : Int)).toNat = O.length from by simp, repf] at h; cases h), (fun q hq => by omega)⟩
  rintro ⟨ii, c⟩ ⟨i, hi, hil, hlen, hs, hq⟩
  simp only at hi hlen hs hq
  subst hi
  unfold taskmillref_Reached_l4
  dsimp only
  by_cases hin : i < R.length
  · left
    have hm : ix R (i : Int) ∈ R := ix_mem ⟨by omega, by omega⟩
    obtain ⟨g1, g2⟩ := hw.root _ hm
    rw [lt_n hin, ge_n]
    generalize hx : ix R (i : Int) = x at hm g1 g2
    unfold taskmillref_Reached_j1
    rw [wrap_n1 i (by omega)]
    by_cases hx0 : 0 ≤ x
    · have e3 : decide ((0 : Int) ≤ x) = true := by simpa using hx0
      have e4 : decide (x < ((c.length : Nat) : Int)) = true := by rw [hlen]; simpa using g2
      have hi2 : 0 ≤ x ∧ x < ((c.length : Nat) : Int) := ⟨hx0, by rw [hlen]; exact g2⟩
      rw [e3, e4]
      refine ⟨(((i + 1 : Nat) : Int), c.set x.toNat true), rfl, ⟨i + 1, rfl, hin, by rw [List.length_set]; exact hlen, fun o h1 h2 h3 => ?_, fun q hqi hq0 => ?_⟩, by simp; omega⟩
      · rw [ix_set hi2 h1] at h3
        by_cases e : x = o
        · subst e; exact .root hm h1
        · rw [if_neg e] at h3; exact hs o h1 h2 h3
      · rw [ix_set hi2 hq0]
        by_cases e : q = i
        · subst e; rw [if_pos hx.symm]
        · split
          · rfl
          · exact hq q (by omega) hq0
    · have e3 : decide ((0 : Int) ≤ x) = false := by simpa using hx0
      rw [e3]
      refine ⟨(((i + 1 : Nat) : Int), c), rfl, ⟨i + 1, rfl, hin, hlen, hs, fun q hqi hq0 => ?_⟩, by simp; omega⟩
      by_cases e : q = i
      · subst e; rw [hx] at hq0; exact absurd hq0 hx0
      · exact hq q (by omega) hq0
  · right
    have : i = R.length := by omega
    subst this
    rw [nlt_n, cond_false]
    have roots : ∀ r ∈ R, 0 ≤ r → ix c r = true := fun r hr h0 => by
      obtain ⟨q, h1, h2, rfl⟩ := mem_ix hr
      have := hq q.toNat (by omega)
      rw [show ((q.toNat : Nat) : Int) = q from by omega] at this
      exact this h0
    obtain ⟨r, h1, h2, h3⟩ := loopO_inv (step := taskmillref_Reached_l3 ⟨O, R⟩) (fun s => s.2.length = O.length ∧ (∀ o : Int, 0 ≤ o → o < (O.length : Int) → ix s.2 o = true → Reach O R o) ∧ (∀ r ∈ R, 0 ≤ r → ix s.2 r = true) ∧ (s.1 = false → ∀ j : Nat, j < O.length → closedAt O s.2 j)) (fun s => 2 * (O.length - s.2.count true) + s.1.toNat)
      (fun c => c.length = O.length ∧ ∀ o : Int, 0 ≤ o → o < (O.length : Int) → (ix c o = true ↔ Reach O R o)) (by
        rintro ⟨ag, c⟩ ⟨k1, k2, k3, k4⟩
        simp only at k1 k2 k3 k4
        unfold taskmillref_Reached_l3
        dsimp only
        cases ag with
        | true =>
          left
          obtain ⟨r, q1, ag', c', rfl, q2, q3⟩ := reach_l2 hw c ⟨k1, fun _ _ h => h, k2, fun _ => rfl, (fun h => by cases h)⟩
          rw [cond_true, q1]
          have hcl : c.count true ≤ c.length := List.count_le_length
          have hcl2 : c'.count true ≤ c'.length := List.count_le_length
          refine ⟨_, rfl, ⟨q2.len, q2.sound, fun r hr h0 => q2.mono r h0 (k3 r hr h0), fun hf => by simp only at hf ⊢; rw [q2.same hf]; exact q3 hf⟩, ?_⟩
          have hl2 := q2.len
          cases ag' with
          | true => have := q2.more rfl; simp; omega
          | false => have := q2.same rfl; subst this; simp
        | false =>
          right
          refine ⟨c, rfl, k1, fun o h0 h1 => ⟨k2 o h0 h1, fun hr => ?_⟩⟩
          clear h0 h1
          induction hr with
          | root h3 h4 => exact k3 _ h3 h4
          | step h3 h4 h5 ih =>
            obtain ⟨a, b⟩ := h3.lt hw
            rename_i a' x'
            have := k4 rfl a'.toNat (by omega)
            rw [show ((a'.toNat : Nat) : Int) = a' from by omega] at this
            exact this ih _ h4 h5) (s0 := (true, c)) ⟨hlen, hs, roots, (fun h => by cases h)⟩
    exact ⟨r, by rw [h1]; rfl, h2, h3⟩
end Go.Proofs.Ytlfcicekappbfaa
end

section
namespace Go.Proofs.Ytlfcicekappbfaa
open Go Go.Sx
set_option linter.unusedVariables false
set_option linter.unusedSimpArgs false
abbrev LLi := List (List Int)
def regOk (R : List Int) (a : Int) : Bool := decide ((0 : Int) ≤ a) && decide (a < (R.length : Int))
theorem regOk_t {R : List Int} {a : Int} (h : regOk R a = true) : 0 ≤ a ∧ a < (R.length : Int) := by simpa [regOk] using h
theorem regOk_d {R : List Int} {a : Int} (h : regOk R a = true) : decide ((0 : Int) ≤ a) = true ∧ decide (a < (R.length : Int)) = true := by simpa [regOk] using h
def valF (R : List Int) (a : Int) : Int × Bool := bif a == -1 then (-1, true) else bif regOk R a then (ix R a, true) else (0, false)
def slotOk (O : LLi) (R : List Int) (a b : Int) : Bool := regOk R a && (decide ((0 : Int) ≤ ix R a) && (decide ((0 : Int) ≤ b) && decide (b < ((ix O (ix R a)).length : Int))))
def bitE (barrier k : Int) : Bool := (IntKind.i64.wrap (((BitVec.ofInt (IntKind.i64).bits barrier &&& BitVec.ofInt (IntKind.i64).bits k).toNat : Nat) : Int)) != 0
def bits (b : Int) : Prop := 0 ≤ b ∧ b ≤ 3
theorem bit1 {b : Int} (h : bits b) : bitE b 1 = (Int.tmod b 2 == 1) := by
  obtain ⟨h1, h2⟩ := h
  have : b = 0 ∨ b = 1 ∨ b = 2 ∨ b = 3 := by omega
  rcases this with rfl | rfl | rfl | rfl <;> decide
theorem bit2 {b : Int} (h : bits b) : bitE b 2 = decide ((2 : Int) ≤ b) := by
  obtain ⟨h1, h2⟩ := h
  have : b = 0 ∨ b = 1 ∨ b = 2 ∨ b = 3 := by omega
  rcases this with rfl | rfl | rfl | rfl <;> decide
structure Mc where
  O : LLi
  R : List Int
  s : Col
/-- An act: a code, and what is then. -/
def writeF (b : Int) (x : GAct) (m : Mc) : Mc :=
  let o := ix m.R x.A
  let v := (valF m.R x.C).1
  let s1 := bif bitE b 2 then shadeO m.s (ix (ix m.O o) x.B) else m.s
  let s2 := bif bitE b 1 then shadeO s1 v else s1
  ⟨m.O.set o.toNat ((ix m.O o).set x.B.toNat v), m.R, s2⟩
def newF (x : GAct) (m : Mc) : Mc := ⟨m.O ++ [List.replicate x.B.toNat (-1)], m.R.set x.A.toNat (m.O.length : Int), (m.s.1 ++ [2], m.s.2)⟩
def actF (b : Int) (x : GAct) (m : Mc) : Int × Mc :=
  bif x.Op == 1 then (bif slotOk m.O m.R x.A x.B && (valF m.R x.C).2 then (0, writeF b x m) else (3, m))
  else bif x.Op == 2 then (bif slotOk m.O m.R x.C x.B && regOk m.R x.A then (0, ⟨m.O, m.R.set x.A.toNat (ix (ix m.O (ix m.R x.C)) x.B), m.s⟩) else (3, m))
  else bif x.Op == 3 then (bif (valF m.R x.C).2 && (regOk m.R x.A && !(x.B != 0)) then (0, ⟨m.O, m.R.set x.A.toNat (valF m.R x.C).1, m.s⟩) else (3, m))
  else bif x.Op == 4 then (bif regOk m.R x.A && (!(decide (x.B < 0)) && (!(decide ((20 : Int) < x.B)) && !(x.C != 0))) then (bif (m.O.length : Int) == 500 then (9, m) else (0, newF x m)) else (3, m))
  else bif x.Op == 5 then (bif (x.A != 0) || ((x.B != 0) || (x.C != 0)) then (3, m) else (0, ⟨m.O, m.R, markF m.O m.s⟩))
  else (4, m)
theorem reg_eq (c : cycle) (a : Int) : sweep_cycle_register c a = some (regOk c.Heap_Roots a) := rfl
theorem val_eq (c : cycle) (a : Int) : sweep_cycle_value c a = some (valF c.Heap_Roots a) := by
  unfold sweep_cycle_value valF
  cases a == -1 with
  | true => rfl
  | false =>
    rw [cond_false, cond_false, reg_eq, Option.bind_some]
    cases h : regOk c.Heap_Roots a with
    | false => rfl
    | true =>
      obtain ⟨h1, h2⟩ := regOk_d h
      rw [h1, h2]; rfl
theorem slot_eq {O : LLi} {R : List Int} (hw : Wf O R) (a b : Int) (col line : List Int) : sweep_cycle_slot_1 a b O R col line = some (bif slotOk O R a b then (ix R a, b, true, O, R, col, line) else (0, 0, false, O, R, col, line)) := by
  unfold sweep_cycle_slot_1 slotOk
  rw [reg_eq, Option.bind_some]
  cases h : regOk R a with
  | false => rfl
  | true =>
    obtain ⟨h1, h2⟩ := regOk_d h
    obtain ⟨k1, k2⟩ := regOk_t h
    rw [h1, h2]
    unfold sweep_cycle_slot_1_j1
    obtain ⟨g1, g2⟩ := hw.root _ (ix_mem ⟨k1, k2⟩)
    by_cases h0 : 0 ≤ ix R a
    · have e1 : decide (ix R a < 0) = false := by simp; omega
      have e2 : decide ((0 : Int) ≤ ix R a) = true := by simpa using h0
      have e3 : decide (ix R a < ((O.length : Nat) : Int)) = true := by simpa using g2
      rw [h1, h2, e1, e2, e3, ixD_pos h0]
      by_cases hb : 0 ≤ b
      · have e4 : decide (b < 0) = false := by simp; omega
        have e5 : decide ((0 : Int) ≤ b) = true := by simpa using hb
        rw [e4, e5]
        by_cases hl : b < ((ix O (ix R a)).length : Int)
        · have e6 : decide ((((ix O (ix R a)).length : Nat) : Int) ≤ b) = false := by simp; omega
          have e7 : decide (b < (((ix O (ix R a)).length : Nat) : Int)) = true := by simpa using hl
          rw [e6, e7]; rfl
        · have e6 : decide ((((ix O (ix R a)).length : Nat) : Int) ≤ b) = true := by simp; omega
          have e7 : decide (b < (((ix O (ix R a)).length : Nat) : Int)) = false := by simp; omega
          rw [e6, e7]; rfl
      · have e4 : decide (b < 0) = true := by simp; omega
        have e5 : decide ((0 : Int) ≤ b) = false := by simp; omega
        rw [e4, e5]; rfl
    · have e1 : decide (ix R a < 0) = true := by simp; omega
      have e2 : decide ((0 : Int) ≤ ix R a) = false := by simp; omega
      rw [e1, e2]; rfl
theorem slotOk_t {O : LLi} {R : List Int} {a b : Int} (h : slotOk O R a b = true) : (0 ≤ a ∧ a < (R.length : Int)) ∧ 0 ≤ ix R a ∧ 0 ≤ b ∧ b < ((ix O (ix R a)).length : Int) := by
  simp only [slotOk, Bool.and_eq_true, decide_eq_true_eq] at h
  exact ⟨regOk_t h.1, h.2.1, h.2.2.1, h.2.2.2⟩
theorem valF_lt {O : LLi} {R : List Int} (hw : Wf O R) (a : Int) (h : (valF R a).2 = true) : -1 ≤ (valF R a).1 ∧ (valF R a).1 < (O.length : Int) := by
  unfold valF at h ⊢
  cases e : a == -1 with
  | true => simp; omega
  | false =>
    rw [e] at h
    rw [cond_false] at h ⊢
    cases h2 : regOk R a with
    | true => exact hw.root _ (ix_mem (regOk_t h2))
    | false => rw [h2] at h; cases h
structure Good (m : Mc) : Prop where
  wf : Wf m.O m.R
  ok : Ok m.O.length m.s
theorem Good.write {b : Int} {x : GAct} {m : Mc} (h : Good m) (hs : slotOk m.O m.R x.A x.B = true) (hv : (valF m.R x.C).2 = true) : Good (writeF b x m) := by
  obtain ⟨k1, k2, k3, k4⟩ := slotOk_t hs
  obtain ⟨g1, g2⟩ := h.wf.root _ (ix_mem k1)
  obtain ⟨f1, f2⟩ := h.wf.fldlt k2 g2
  obtain ⟨v1, v2⟩ := valF_lt h.wf x.C hv
  refine ⟨⟨by simp [writeF]; exact h.wf.o, h.wf.r, fun y hy => by simp only [writeF, List.length_set]; exact h.wf.root y hy, fun l hl => ?_⟩, ?_⟩
  · simp only [writeF, List.length_set] at hl ⊢
    rcases List.mem_or_eq_of_mem_set hl with hl | rfl
    · exact h.wf.fld l hl
    · refine ⟨by rw [List.length_set]; exact f1, fun y hy => ?_⟩
      rcases List.mem_or_eq_of_mem_set hy with hy | rfl
      · exact f2 y hy
      · exact ⟨v1, v2⟩
  · have e : (writeF b x m).O.length = m.O.length := by simp [writeF]
    rw [e]
    have h1 : Ok m.O.length (bif bitE b 2 then shadeO m.s (ix (ix m.O (ix m.R x.A)) x.B) else m.s) := by
      cases bitE b 2 with
      | true => exact h.ok.shadeO (f2 _ (ix_mem ⟨k3, k4⟩)).2
      | false => exact h.ok
    show Ok m.O.length (bif bitE b 1 then shadeO _ _ else _)
    cases bitE b 1 with
    | true => exact h1.shadeO v2
    | false => exact h1
theorem Good.root {m : Mc} (h : Good m) {a v : Int} (ha : 0 ≤ a ∧ a < (m.R.length : Int)) (hv : -1 ≤ v ∧ v < (m.O.length : Int)) : Good ⟨m.O, m.R.set a.toNat v, m.s⟩ := by
  refine ⟨⟨h.wf.o, by rw [List.length_set]; exact h.wf.r, fun y hy => ?_, h.wf.fld⟩, h.ok⟩
  rcases List.mem_or_eq_of_mem_set hy with hy | rfl
  · exact h.wf.root y hy
  · exact hv
theorem ix_big {l : List Int} {o : Int} (h : (l.length : Int) ≤ o) : ix l o = 0 := by
  unfold ix
  rw [List.getD_eq_getElem?_getD, List.getElem?_eq_none (by omega)]; rfl
theorem Ok.new {n : Nat} {s : Col} (h : Ok n s) : Ok (n + 1) (s.1 ++ [2], s.2) := by
  have hl := h.len
  refine ⟨by simp [hl], by rw [h.cnt]; simp, fun o ho => ?_, fun o h0 h1 h2 => ?_, fun o h0 h1 => ?_, h.nd⟩
  · obtain ⟨a, b, c⟩ := h.rng o ho
    refine ⟨a, by omega, ?_⟩
    rw [ix_app _ ⟨a, by omega⟩, if_neg (by omega)]; exact c
  · rw [ix_app _ ⟨h0, by omega⟩] at h2
    split at h2
    · cases h2
    · exact h.grey o h0 (by omega) h2
  · rw [ix_app _ ⟨h0, by omega⟩]
    split
    · exact .inr (.inr rfl)
    · exact h.col o h0 (by omega)
theorem Good.new {x : GAct} {m : Mc} (h : Good m) (ha : 0 ≤ x.A ∧ x.A < (m.R.length : Int)) (hb : x.B ≤ 20) (h5 : m.O.length ≠ 500) : Good (newF x m) := by
  have ho := h.wf.o
  refine ⟨⟨by simp [newF]; omega, by simp [newF]; exact h.wf.r, fun y hy => ?_, fun l hl => ?_⟩, ?_⟩
  · simp only [newF, List.length_append, List.length_singleton] at hy ⊢
    rcases List.mem_or_eq_of_mem_set hy with hy | rfl
    · have := h.wf.root y hy; omega
    · omega
  · simp only [newF, List.mem_append, List.mem_singleton, List.length_append, List.length_singleton] at hl ⊢
    rcases hl with hl | rfl
    · obtain ⟨a, b⟩ := h.wf.fld l hl
      exact ⟨a, fun y hy => by have := b y hy; omega⟩
    · refine ⟨by rw [List.length_replicate]; omega, fun y hy => ?_⟩
      rw [List.eq_of_mem_replicate hy]; omega
  · have : (newF x m).O.length = m.O.length + 1 := by simp [newF]
    rw [this]; exact h.ok.new
theorem Good.act {b : Int} {x : GAct} {m : Mc} (h : Good m) : Good (actF b x m).2 := by
  unfold actF
  cases x.Op == 1 with
  | true =>
    rw [cond_true]
    cases e : slotOk m.O m.R x.A x.B && (valF m.R x.C).2 with
    | true => simp only [Bool.and_eq_true] at e; exact h.write e.1 e.2
    | false => exact h
  | false =>
  rw [cond_false]
  cases x.Op == 2 with
  | true =>
    rw [cond_true]
    cases e : slotOk m.O m.R x.C x.B && regOk m.R x.A with
    | true =>
      simp only [Bool.and_eq_true] at e
      obtain ⟨k1, k2, k3, k4⟩ := slotOk_t e.1
      obtain ⟨g1, g2⟩ := h.wf.root _ (ix_mem k1)
      exact h.root (regOk_t e.2) ((h.wf.fldlt k2 g2).2 _ (ix_mem ⟨k3, k4⟩))
    | false => exact h
  | false =>
  rw [cond_false]
  cases x.Op == 3 with
  | true =>
    rw [cond_true]
    cases e : (valF m.R x.C).2 && (regOk m.R x.A && !(x.B != 0)) with
    | true => simp only [Bool.and_eq_true] at e; exact h.root (regOk_t e.2.1) (valF_lt h.wf _ e.1)
    | false => exact h
  | false =>
  rw [cond_false]
  cases x.Op == 4 with
  | true =>
    rw [cond_true]
    cases e : regOk m.R x.A && (!(decide (x.B < 0)) && (!(decide ((20 : Int) < x.B)) && !(x.C != 0))) with
    | true =>
      rw [cond_true]
      simp only [Bool.and_eq_true, Bool.not_eq_true', decide_eq_false_iff_not] at e
      cases e5 : (m.O.length : Int) == 500 with
      | true => exact h
      | false => exact h.new (regOk_t e.1) (by omega) (by simp at e5; omega)
    | false => exact h
  | false =>
  rw [cond_false]
  cases x.Op == 5 with
  | true =>
    rw [cond_true]
    cases (x.A != 0) || ((x.B != 0) || (x.C != 0)) with
    | true => exact h
    | false => exact ⟨h.wf, h.ok.markF h.wf⟩
  | false => exact h
/-- The new object's slots. -/
theorem do_l1 {x : GAct} {m : Mc} (hA : regOk m.R x.A = true) (h0 : 0 ≤ x.B) (hB : x.B ≤ 20) (hO : m.O.length ≤ 500) (hc : m.s.1.length ≤ 500) : loopO (sweep_cycle_do_1_l1 x m.O m.R m.s.1 m.s.2) (0, List.replicate x.B.toNat (default : Int)) = some (0, (newF x m).O, (newF x m).s.1, (newF x m).s.2, (newF x m).R) := by
  have fill : ∀ k : Nat, k ≤ x.B.toNat → (List.replicate k (-1 : Int) ++ List.replicate (x.B.toNat - k) (default : Int)).length = x.B.toNat := fun k hk => by simp; omega
  refine loopO_all (step := sweep_cycle_do_1_l1 x m.O m.R m.s.1 m.s.2) (fun k => (((k : Nat) : Int), List.replicate k (-1 : Int) ++ List.replicate (x.B.toNat - k) (default : Int))) (some (0, (newF x m).O, (newF x m).s.1, (newF x m).s.2, (newF x m).R)) x.B.toNat (fun k hk => ?_) ?_
  · unfold sweep_cycle_do_1_l1
    dsimp only
    rw [fill k (by omega), List.length_replicate, lt_n hk, ge_n, wrap_n1 k (by omega)]
    simp only [Bool.and_self, cond_true, Option.some.injEq, Sum.inl.injEq, Prod.mk.injEq, true_and, Int.toNat_natCast]
    rw [List.set_append_right _ _ (by simp), List.length_replicate, Nat.sub_self, show x.B.toNat - k = (x.B.toNat - (k + 1)) + 1 from by omega, List.replicate_succ, List.set_cons_zero, List.replicate_succ', List.append_assoc]
    rfl
  · unfold sweep_cycle_do_1_l1
    dsimp only
    rw [List.length_replicate, nlt_n, cond_false, Nat.sub_self, List.replicate_zero, List.append_nil]
    have e1 : decide ((m.O ++ [List.replicate x.B.toNat (-1 : Int)]).length * 24 ≤ 140737488355328) = true := by rw [decide_eq_true_eq]; simp; omega
    have e2 : decide ((m.s.1 ++ ([2] : List Int)).length * 8 ≤ 140737488355328) = true := by rw [decide_eq_true_eq]; simp; omega
    rw [e1, e2]; rfl
theorem do_eq {b : Int} (x : GAct) {m : Mc} (h : Good m) : sweep_cycle_do_1 x b m.O m.R m.s.1 m.s.2 = some ((actF b x m).1, (actF b x m).2.O, (actF b x m).2.s.1, (actF b x m).2.s.2, (actF b x m).2.R) := by
  have hO := h.wf.o
  have hcl := h.ok.len
  have hln := h.ok.line
  unfold sweep_cycle_do_1 actF
  cases x.Op == 1 with
  | true =>
    rw [cond_true, cond_true, slot_eq h.wf, Option.bind_some]
    cases hs : slotOk m.O m.R x.A x.B with
    | false =>
      simp only [cond_false]
      unfold sweep_cycle_do_1_j3
      rw [val_eq, Option.bind_some]; rfl
    | true =>
      simp only [cond_true, Bool.true_and]
      unfold sweep_cycle_do_1_j3
      rw [val_eq, Option.bind_some]
      cases hv : (valF m.R x.C).2 with
      | false => rfl
      | true =>
        obtain ⟨k1, k2, k3, k4⟩ := slotOk_t hs
        obtain ⟨g1, g2⟩ := h.wf.root _ (ix_mem k1)
        obtain ⟨f1, f2⟩ := h.wf.fldlt k2 g2
        obtain ⟨v1, v2⟩ := valF_lt h.wf x.C hv
        have hold := f2 _ (ix_mem (l := ix m.O (ix m.R x.A)) (j := x.B) ⟨k3, k4⟩)
        have e1 : decide ((0 : Int) ≤ x.B) = true := by simpa using k3
        have e2 : decide (x.B < (((ix m.O (ix m.R x.A)).length : Nat) : Int)) = true := by simpa using k4
        have e3 : decide ((0 : Int) ≤ ix m.R x.A) = true := by simpa using k2
        have e4 : decide (ix m.R x.A < ((m.O.length : Nat) : Int)) = true := by simpa using g2
        have j2 : ∀ s : Col, Ok m.O.length s → sweep_cycle_do_1_j2 b (ix m.R x.A) x.B (valF m.R x.C).1 m.O m.R s.1 s.2 = some (0, m.O.set (ix m.R x.A).toNat ((ix m.O (ix m.R x.A)).set x.B.toNat (valF m.R x.C).1), (bif bitE b 1 then shadeO s (valF m.R x.C).1 else s).1, (bif bitE b 1 then shadeO s (valF m.R x.C).1 else s).2, m.R) := fun s hs => by
          have hsl := hs.len; have hsn := hs.line
          unfold sweep_cycle_do_1_j2
          rw [ixD_pos k2, e1, e2, e3, e4]
          simp only [Bool.and_self, cond_true]
          show (bif bitE b 1 then _ else _) = _
          cases bitE b 1 with
          | false => rfl
          | true =>
            rw [cond_true, shade3_eq _ _ _ _ _ (fun y hy => by rw [List.mem_singleton.1 hy, hsl]; exact v2) (by simp; omega)]
            rfl
        simp only [Bool.not_true, cond_false, cond_true]
        rw [ixD_pos k2, e1, e2]
        show (bif bitE b 2 then _ else _) = _
        cases hb2 : bitE b 2 with
        | false => rw [cond_false, j2 _ h.ok]; unfold writeF; rw [hb2]; rfl
        | true =>
          simp only [Bool.and_self, cond_true]
          rw [shade3_eq _ _ _ _ _ (fun y hy => by rw [List.mem_singleton.1 hy, hcl]; exact hold.2) (by simp; omega), Option.bind_some]
          dsimp only
          rw [j2 _ (h.ok.shadeL fun y hy => by rw [List.mem_singleton.1 hy]; exact hold.2)]
          unfold writeF; rw [hb2]; rfl
  | false =>
  rw [cond_false, cond_false]
  cases x.Op == 2 with
  | true =>
    rw [cond_true, cond_true, slot_eq h.wf, Option.bind_some]
    cases hs : slotOk m.O m.R x.C x.B with
    | false => rfl
    | true =>
      simp only [cond_true, Bool.true_and]
      unfold sweep_cycle_do_1_j4
      rw [cond_true, reg_eq, Option.bind_some]
      cases ha : regOk m.R x.A with
      | false => rfl
      | true =>
        obtain ⟨k1, k2, k3, k4⟩ := slotOk_t hs
        obtain ⟨h1, h2⟩ := regOk_d ha
        have e1 : decide ((0 : Int) ≤ x.B) = true := by simpa using k3
        have e2 : decide (x.B < (((ix m.O (ix m.R x.C)).length : Nat) : Int)) = true := by simpa using k4
        simp only [Bool.not_true, cond_false]
        rw [ixD_pos k2, e1, e2, h1, h2]; rfl
  | false =>
  rw [cond_false, cond_false]
  cases x.Op == 3 with
  | true =>
    rw [cond_true, cond_true, val_eq, Option.bind_some]
    unfold sweep_cycle_do_1_j5
    cases hv : (valF m.R x.C).2 with
    | false => rfl
    | true =>
      simp only [Bool.not_true, cond_false]
      rw [reg_eq, Option.bind_some]
      cases ha : regOk m.R x.A with
      | false => rfl
      | true =>
        obtain ⟨h1, h2⟩ := regOk_d ha
        rw [h1, h2]
        cases x.B != 0 <;> rfl
  | false =>
  rw [cond_false, cond_false]
  cases x.Op == 4 with
  | true =>
    rw [cond_true, cond_true, reg_eq, Option.bind_some]
    unfold sweep_cycle_do_1_j6
    cases ha : regOk m.R x.A with
    | false => rfl
    | true =>
      cases hb : decide (x.B < 0) with
      | true => rfl
      | false =>
        cases hb2 : decide ((20 : Int) < x.B) with
        | true => rfl
        | false =>
          cases x.C != 0 with
          | true => rfl
          | false =>
            simp only [Bool.not_true, Bool.not_false, Bool.and_self, cond_false, cond_true]
            cases h5 : (((m.O.length : Nat) : Int) == 500) with
            | true => rfl
            | false =>
              rw [decide_eq_false_iff_not] at hb hb2
              obtain ⟨h1, h2⟩ := regOk_d ha
              have e1 : decide ((0 : Int) ≤ x.B ∧ x.B ≤ 4611686018427387904 ∧ (8 : Int) * x.B ≤ 140737488355328) = true := by rw [decide_eq_true_eq]; omega
              rw [h1, h2, e1]
              simp only [Bool.and_self, cond_false, cond_true]
              exact do_l1 ha (by omega) (by omega) hO (by omega)
  | false =>
  rw [cond_false, cond_false]
  cases x.Op == 5 with
  | true =>
    rw [cond_true, cond_true]
    cases (x.A != 0) || ((x.B != 0) || (x.C != 0)) with
    | true => rfl
    | false =>
      rw [cond_false, cond_false, mark_eq h.wf h.ok, Option.bind_some]; rfl
  | false => rfl
end Go.Proofs.Ytlfcicekappbfaa
end

section
namespace Go.Proofs.Ytlfcicekappbfaa
open Go Go.Sx
set_option linter.unusedVariables false
set_option linter.unusedSimpArgs false
theorem Small.wfl {h : GHeap} (hs : Small h) : h.Objects.length ≤ 1000 ∧ h.Roots.length ≤ 1000 := ⟨hs.o, hs.r⟩
def lostF (h : GHeap) : Fault × List Int := bif (checkF h).Code != 0 then (checkF h, []) else (⟨0, 0⟩, whites (allF h.Objects (startF h.Objects h.Roots)).1)
theorem code_fine {h : GHeap} (hc : ((checkF h).Code != 0) = false) : Fine h := fine_of (by simpa using hc)
theorem lost_eq (h : GHeap) (hs : Small h) : sweep_Lost h = some (lostF h) := by
  unfold sweep_Lost lostF
  rw [check_eq h hs, Option.bind_some]
  cases hc : (checkF h).Code != 0 with
  | true => rfl
  | false =>
    have hf := code_fine hc
    have hw := hf.wf
    have h1 := hs.o; have h2 := hs.r
    have hso := start_ok hw
    rw [cond_false, cond_false, newCycle_eq h hs, Option.bind_some]
    dsimp only
    rw [shade1_eq [] h.Roots h.Objects _ (fun x hx => by rw [List.length_replicate]; exact (hw.root x hx).2) (by simp; omega), Option.bind_some]
    have := all_eq hw hso
    have hok := allF_ind hw (fun _ => True) (fun _ _ _ _ => trivial) _ (startF h.Objects h.Roots) (Nat.le_refl _) hso trivial
    show (sweep_cycle_all_1 h.Objects h.Roots (startF h.Objects h.Roots).1 (startF h.Objects h.Roots).2).bind _ = _
    rw [this, Option.bind_some]
    dsimp only
    rw [whites_eq _ (by show (allF h.Objects (startF h.Objects h.Roots)).1.length ≤ _; rw [hok.1.len]; omega)]
    rfl
/-- A run of acts. -/
def runF (b : Int) : Nat → List GAct → Mc → Fault ⊕ Mc
  | _, [], m => .inr m
  | i, x :: xs, m => bif (actF b x m).1 != 0 then .inl ⟨(actF b x m).1, (i : Int)⟩ else runF b (i + 1) xs (actF b x m).2
theorem runF_good {b : Int} : ∀ {i : Nat} {xs : List GAct} {m m' : Mc}, Good m → runF b i xs m = .inr m' → Good m'
  | i, [], m, m', h, e => by cases e; exact h
  | i, x :: xs, m, m', h, e => by
    unfold runF at e
    cases hc : (actF b x m).1 != 0 with
    | true => rw [hc] at e; cases e
    | false => rw [hc] at e; exact runF_good h.act e
def endF (b : Int) (m : Mc) : Col := bif b == 1 then allF m.O (shadeL m.R (allF m.O m.s)) else allF m.O m.s
def resF (b : Int) : Fault ⊕ Mc → Fault × LLi × List Int × List Int
  | .inl f => (f, [], [], [])
  | .inr m => (⟨0, 0⟩, m.O, m.R, whites (endF b m).1)
def cycF (h : GHeap) (b : Int) (acts : List GAct) : Fault × LLi × List Int × List Int :=
  bif (checkF h).Code != 0 then (checkF h, [], [], []) else bif decide (b < 0) || decide ((3 : Int) < b) then (⟨4, -1⟩, [], [], []) else bif decide ((5000 : Int) < (acts.length : Int)) then (⟨2, -1⟩, [], [], [])
  else resF b (runF b 0 acts ⟨h.Objects, h.Roots, startF h.Objects h.Roots⟩)
theorem allF_ok {O : LLi} {R : List Int} (hw : Wf O R) {s : Col} (hs : Ok O.length s) : Ok O.length (allF O s) ∧ (allF O s).2 = [] := by
  obtain ⟨h1, _, h2⟩ := allF_ind hw (fun _ => True) (fun _ _ _ _ => trivial) _ s (Nat.le_refl _) hs trivial
  exact ⟨h1, h2⟩
theorem end_ok {b : Int} {m : Mc} (h : Good m) : Ok m.O.length (endF b m) ∧ (endF b m).2 = [] := by
  unfold endF
  cases b == 1 with
  | true => exact allF_ok h.wf ((allF_ok h.wf h.ok).1.shadeL fun x hx => (h.wf.root x hx).2)
  | false => exact allF_ok h.wf h.ok
theorem start_good {h : GHeap} (hf : Fine h) : Good ⟨h.Objects, h.Roots, startF h.Objects h.Roots⟩ := ⟨hf.wf, start_ok hf.wf⟩
theorem cyc_end {b : Int} {m : Mc} (h : Good m) : ((sweep_cycle_all_1 m.O m.R m.s.1 m.s.2).bind fun r1911 => (bif (b == 1) then ((sweep_cycle_shade_1 r1911.1 r1911.2.2.1 r1911.2.1 r1911.2.2.2).bind fun r1930 => ((sweep_cycle_all_1 r1930.2.1 r1930.2.2.1 r1930.2.2.2 r1930.1).bind fun r1938 => (sweep_Cycle_j1 r1938.2.1 r1938.2.2.1 r1938.2.2.2 r1938.1))) else (sweep_Cycle_j1 r1911.2.1 r1911.2.2.1 r1911.2.2.2 r1911.1))) = some (resF b (.inr m)) := by
  have hO := h.wf.o; have hR := h.wf.r
  obtain ⟨a1, a2⟩ := allF_ok h.wf h.ok
  have he := end_ok (b := b) h
  rw [all_eq h.wf h.ok, Option.bind_some]
  have j1 : ∀ s : Col, Ok m.O.length s → sweep_Cycle_j1 m.O m.R s.1 s.2 = some (⟨0, 0⟩, m.O, m.R, whites s.1) := fun s hs => by
    unfold sweep_Cycle_j1
    rw [whites_eq _ (by show s.1.length ≤ _; rw [hs.len]; omega)]; rfl
  unfold resF endF
  cases b == 1 with
  | false => exact j1 _ a1
  | true =>
    have hl := a1.line
    rw [cond_true]
    dsimp only
    rw [shade1_eq _ m.R m.O _ (fun x hx => by rw [a1.len]; exact (h.wf.root x hx).2) (by omega), Option.bind_some]
    have hs2 := a1.shadeL fun x hx => (h.wf.root x hx).2
    show (sweep_cycle_all_1 m.O m.R (shadeL m.R (allF m.O m.s)).1 (shadeL m.R (allF m.O m.s)).2).bind _ = _
    rw [all_eq h.wf hs2, Option.bind_some]
    exact j1 _ (allF_ok h.wf hs2).1
theorem cyc_eq (h : GHeap) (b : Int) (acts : List GAct) (hs : Small h) (ha : acts.length ≤ 1000000) : sweep_Cycle h b acts = some (cycF h b acts) := by
  unfold sweep_Cycle cycF
  rw [check_eq h hs, Option.bind_some]
  cases hc : (checkF h).Code != 0 with
  | true => rfl
  | false =>
    have hf := code_fine hc
    have hw := hf.wf
    have h1 := hs.o; have h2 := hs.r
    rw [cond_false, cond_false]
    cases decide (b < 0) || decide ((3 : Int) < b) with
    | true => rfl
    | false =>
      rw [cond_false, cond_false]
      cases decide ((5000 : Int) < (acts.length : Int)) with
      | true => rfl
      | false =>
        rw [cond_false, cond_false, newCycle_eq h hs, Option.bind_some]
        dsimp only
        rw [shade1_eq [] h.Roots h.Objects _ (fun x hx => by rw [List.length_replicate]; exact (hw.root x hx).2) (by simp; omega), Option.bind_some]
        refine loopO_up (step := sweep_Cycle_l1 b acts) acts.length (fun i (m : Mc) => (((i : Nat) : Int), m.O, m.R, m.s.1, m.s.2)) (fun _ m => Good m) (fun i m => some (resF b (runF b i (acts.drop i) m))) (fun m hm => ?_) (fun i m hi hm => ?_) ⟨h.Objects, h.Roots, startF h.Objects h.Roots⟩ (start_good hf)
        · unfold sweep_Cycle_l1
          dsimp only
          rw [nlt_n, cond_false, cyc_end hm, List.drop_length]; rfl
        · unfold sweep_Cycle_l1
          dsimp only
          rw [lt_n hi, ge_n, ix_get hi, do_eq _ hm, wrap_n1 i (by omega), drop_at hi, show runF b i (acts[i] :: acts.drop (i + 1)) m = (bif (actF b acts[i] m).1 != 0 then .inl ⟨(actF b acts[i] m).1, (i : Int)⟩ else runF b (i + 1) (acts.drop (i + 1)) (actF b acts[i] m).2) from rfl]
          simp only [Bool.and_self, cond_true, Option.bind_some]
          cases hc2 : (actF b acts[i] m).1 != 0 with
          | true => right; rfl
          | false => left; exact ⟨(actF b acts[i] m).2, rfl, hm.act, rfl⟩
/-! ### The laws begin -/
theorem begun_eq : taskmilllaw_sweepBegun = some true := by
  have hs : Small ⟨[[-1], []], [0]⟩ := ⟨by decide, by decide, by decide⟩
  unfold taskmilllaw_sweepBegun
  rw [lost_eq _ hs, cyc_eq _ _ _ hs (by decide)]
  have e1 : lostF ⟨[[-1], []], [0]⟩ = (⟨0, 0⟩, [1]) := by decide
  have e2 : cycF ⟨[[-1], []], [0]⟩ 0 [⟨5, 0, 0, 0⟩] = (⟨0, 0⟩, [[-1], []], [0], [1]) := by decide
  rw [e1, e2]
  simp only [Option.bind_some]
  rw [ints_eq _ _ (by decide)]
  rfl
theorem listAs_eq (l : List Int) (h : GHeap) (hs : Small h) (hl : l.length ≤ 1000000) (hw : (checkF h).Code ≠ 0 → l = []) (hx : (checkF h).Code = 0 → ∃ r, taskmilllaw_SweepLost_1 h = some r ∧ l = r) : taskmilllaw_listAs l (checkF h) (checkF h) h = some true := by
  unfold taskmilllaw_listAs
  have : (!(((checkF h).Code == (checkF h).Code) && (((checkF h).At == (checkF h).At) && true))) = false := by simp
  rw [this, cond_false]
  cases hc : (checkF h).Code != 0 with
  | true => rw [hw (by simpa using hc)]; rfl
  | false =>
    obtain ⟨r, h1, h2⟩ := hx (by simpa using hc)
    subst h2
    rw [cond_false, h1, Option.bind_some, ints_eq _ _ (by omega)]
    simp
theorem lost_set {h : GHeap} (hf : Fine h) : ∃ r, taskmilllaw_SweepLost_1 h = some r ∧ ∀ col : List Int, col.length = h.Objects.length → (∀ o : Int, 0 ≤ o → o < (h.Objects.length : Int) → (ix col o = 0 ↔ ¬ Reach h.Objects h.Roots o)) → whites col = r := by
  have hw := hf.wf
  have ho := hw.o
  obtain ⟨c, h1, h2, h3⟩ := reach_eq hw
  unfold taskmilllaw_SweepLost_1
  rw [show taskmillref_Reached h = some c from h1, Option.bind_some, not_eq _ (by omega)]
  refine ⟨_, rfl, fun col hl hc => ?_⟩
  unfold whites
  rw [hl, h2]
  refine pick_congr fun i hi => ?_
  have e1 := hc (i : Int) (by omega) (by omega)
  have e2 := h3 (i : Int) (by omega) (by omega)
  rw [Bool.eq_iff_iff]
  simp only [beq_iff_eq, Bool.not_eq_true']
  rw [e1, ← e2]
  simp
theorem mark_end {O : LLi} {R : List Int} (hw : Wf O R) {s : Col} (hs : Ok O.length s) (hm : Mark O R s) : ∀ o : Int, 0 ≤ o → o < (O.length : Int) → (ix (allF O s).1 o = 0 ↔ ¬ Reach O R o) := by
  obtain ⟨h1, h2, h3⟩ := allF_ind hw (fun s => Mark O R s) (fun s h1 h2 h3 => h2.step hw h1 h3) _ s (Nat.le_refl _) hs hm
  exact fun o h0 h4 => h2.done hw h1 h3 h0 h4
theorem sweepLost_true (h : GHeap) (hn : h.Objects.length ≤ 9223372036854775807) : taskmilllaw_SweepLost h = some true := by
  unfold taskmilllaw_SweepLost
  rw [begun_eq]
  obtain ⟨b, hb, hsm⟩ := vast_ex h hn
  simp only [Option.bind_some, Bool.not_true, cond_false, hb]
  cases b with
  | true => rfl
  | false =>
    have hs := hsm rfl
    simp only [cond_false]
    rw [ownHeap_eq h hs]
    simp only [Option.bind_some]
    rw [show (GHeap.mk h.Objects h.Roots) = h from rfl, check_eq h hs, lost_eq h hs, href_eq h hs]
    simp only [Option.bind_some]
    have e0 : (!(((checkF h).Code == (checkF h).Code) && (((checkF h).At == (checkF h).At) && true))) = false := by simp
    rw [e0, cond_false, same_eq h h hs]
    simp only [Option.bind_some, decide_true, Bool.not_true]
    unfold taskmilllaw_SweepLost_j1
    have hlen : (lostF h).2.length ≤ 1000000 := by
      unfold lostF
      cases hc : (checkF h).Code != 0 with
      | true => simp
      | false =>
        have hf := code_fine hc
        have hok := (allF_ok hf.wf (start_ok hf.wf)).1
        have := pick_len (fun i => ix (allF h.Objects (startF h.Objects h.Roots)).1 i == 0) (allF h.Objects (startF h.Objects h.Roots)).1.length
        rw [hok.len] at this
        have ho := hf.o
        simp only [cond_false]
        unfold whites
        rw [hok.len]; omega
    have e1 : (lostF h).1 = checkF h := by
      unfold lostF
      cases hc : (checkF h).Code != 0 with
      | true => rfl
      | false =>
        have hz : (checkF h).Code = 0 := by simpa using hc
        rw [cond_false]
        -- a fault of code 0 is none
        unfold checkF at hz ⊢
        cases h1 : (decide ((500 : Int) < (h.Objects.length : Int)) || decide ((16 : Int) < (h.Roots.length : Int))) with
        | true => rw [h1] at hz; simp at hz
        | false =>
          rw [h1, cond_false] at hz
          rw [cond_false]
          have hc' : ((checkF h).Code != 0) = false := hc
          have hf := code_fine hc'
          cases h2 : firstAt (badR h) h.Roots.length with
          | some f =>
            rw [h2] at hz
            obtain ⟨i, _, h3, _⟩ := firstAt_some _ h2
            unfold badR at h3
            cases hb : (decide (ix h.Roots i < -1) || decide ((h.Objects.length : Int) ≤ ix h.Roots i)) <;> simp [hb] at h3
            subst h3; simp at hz
          | none =>
            rw [h2] at hz
            simp only [Option.getD_none] at hz ⊢
            cases h3 : firstAt (badO h) h.Objects.length with
            | none => rfl
            | some f =>
              rw [h3] at hz
              obtain ⟨i, _, h4, _⟩ := firstAt_some _ h3
              unfold badO at h4
              cases hb : decide ((20 : Int) < ((ix h.Objects i).length : Int)) with
              | true => rw [hb] at h4; simp at h4; subst h4; simp at hz
              | false =>
                rw [hb, cond_false] at h4
                obtain ⟨k, _, h5, _⟩ := firstAt_some _ h4
                unfold badX at h5
                cases hb : (decide (ix (ix h.Objects i) k < -1) || decide ((h.Objects.length : Int) ≤ ix (ix h.Objects i) k)) <;> simp [hb] at h5
                subst h5; simp at hz
    rw [cond_false, e1, listAs_eq _ h hs hlen (fun hc => ?_) (fun hc => ?_)]
    · rfl
    · unfold lostF
      rw [show ((checkF h).Code != 0) = true from by simpa using hc]; rfl
    · have hf := fine_of hc
      obtain ⟨r, h1, h2⟩ := lost_set hf
      refine ⟨r, h1, ?_⟩
      unfold lostF
      rw [show ((checkF h).Code != 0) = false from by simpa using hc, cond_false]
      exact h2 _ (allF_ok hf.wf (start_ok hf.wf)).1.len (mark_end hf.wf (start_ok hf.wf) (start_mark hf.wf))
end Go.Proofs.Ytlfcicekappbfaa
end

section
namespace Go.Proofs.Ytlfcicekappbfaa
open Go Go.Sx
set_option linter.unusedVariables false
set_option linter.unusedSimpArgs false
/-! ### A heap that is fine stays so -/
structure Tidy (m : Mc) : Prop where
  r : m.R.length ≤ 16
  f : ∀ l ∈ m.O, l.length ≤ 20
/-- What an act may do, by cases. -/
theorem act_cases {b : Int} {x : GAct} {m : Mc} (P : Mc → Prop) (h0 : P m)
    (hw : slotOk m.O m.R x.A x.B = true → (valF m.R x.C).2 = true → P (writeF b x m))
    (hl : slotOk m.O m.R x.C x.B = true → regOk m.R x.A = true → P ⟨m.O, m.R.set x.A.toNat (ix (ix m.O (ix m.R x.C)) x.B), m.s⟩)
    (hc : (valF m.R x.C).2 = true → regOk m.R x.A = true → P ⟨m.O, m.R.set x.A.toNat (valF m.R x.C).1, m.s⟩)
    (hn : regOk m.R x.A = true → 0 ≤ x.B → x.B ≤ 20 → m.O.length ≠ 500 → P (newF x m))
    (hm : P ⟨m.O, m.R, markF m.O m.s⟩) : P (actF b x m).2 := by
  unfold actF
  cases x.Op == 1 with
  | true =>
    rw [cond_true]
    cases e : slotOk m.O m.R x.A x.B && (valF m.R x.C).2 with
    | true => simp only [Bool.and_eq_true] at e; exact hw e.1 e.2
    | false => exact h0
  | false =>
  rw [cond_false]
  cases x.Op == 2 with
  | true =>
    rw [cond_true]
    cases e : slotOk m.O m.R x.C x.B && regOk m.R x.A with
    | true => simp only [Bool.and_eq_true] at e; exact hl e.1 e.2
    | false => exact h0
  | false =>
  rw [cond_false]
  cases x.Op == 3 with
  | true =>
    rw [cond_true]
    cases e : (valF m.R x.C).2 && (regOk m.R x.A && !(x.B != 0)) with
    | true => simp only [Bool.and_eq_true] at e; exact hc e.1 e.2.1
    | false => exact h0
  | false =>
  rw [cond_false]
  cases x.Op == 4 with
  | true =>
    rw [cond_true]
    cases e : regOk m.R x.A && (!(decide (x.B < 0)) && (!(decide ((20 : Int) < x.B)) && !(x.C != 0))) with
    | true =>
      rw [cond_true]
      simp only [Bool.and_eq_true, Bool.not_eq_true', decide_eq_false_iff_not] at e
      cases e5 : (m.O.length : Int) == 500 with
      | true => exact h0
      | false => exact hn e.1 (by omega) (by omega) (by simp at e5; omega)
    | false => exact h0
  | false =>
  rw [cond_false]
  cases x.Op == 5 with
  | true =>
    rw [cond_true]
    cases (x.A != 0) || ((x.B != 0) || (x.C != 0)) with
    | true => exact h0
    | false => exact hm
  | false => exact h0
theorem ix_mem0 {O : LLi} {o : Int} (h : 0 ≤ o ∧ o < (O.length : Int)) : ix O o ∈ O := ix_mem h
theorem Tidy.act {b : Int} {x : GAct} {m : Mc} (hg : Good m) (h : Tidy m) : Tidy (actF b x m).2 := by
  refine act_cases (b := b) Tidy h (fun h1 h2 => ⟨h.r, fun l hl => ?_⟩) (fun h1 h2 => ⟨by simpa using h.r, h.f⟩) (fun h1 h2 => ⟨by simpa using h.r, h.f⟩) (fun h1 h2 h3 h4 => ⟨by simpa [newF] using h.r, fun l hl => ?_⟩) ⟨h.r, h.f⟩
  · obtain ⟨k1, k2, k3, k4⟩ := slotOk_t h1
    simp only [writeF] at hl
    rcases List.mem_or_eq_of_mem_set hl with hl | rfl
    · exact h.f l hl
    · rw [List.length_set]; exact h.f _ (ix_mem ⟨k2, (hg.wf.root _ (ix_mem k1)).2⟩)
  · simp only [newF, List.mem_append, List.mem_singleton] at hl
    rcases hl with hl | rfl
    · exact h.f l hl
    · rw [List.length_replicate]; omega
theorem runF_ind {b : Int} (I : Mc → Prop) (hI : ∀ m x, Good m → I m → I (actF b x m).2) : ∀ {i : Nat} {xs : List GAct} {m m' : Mc}, Good m → I m → runF b i xs m = .inr m' → I m'
  | i, [], m, m', h, hi, e => by cases e; exact hi
  | i, x :: xs, m, m', h, hi, e => by
    unfold runF at e
    cases hc : (actF b x m).1 != 0 with
    | true => rw [hc] at e; cases e
    | false => rw [hc] at e; exact runF_ind I hI h.act (hI m x h hi) e
theorem act_code (b : Int) (x : GAct) (m : Mc) : (actF b x m).1 = 0 ∨ (actF b x m).1 ≠ 0 := by omega
theorem firstAt_none_of {β : Type} {g : Nat → Option β} {n : Nat} (h : ∀ i, i < n → g i = none) : firstAt g n = none := (firstAt_none _).2 h
theorem check_fine {h : GHeap} (hf : Fine h) : checkF h = ⟨0, 0⟩ := by
  unfold checkF
  have ho := hf.o; have hr := hf.r
  rw [show (decide ((500 : Int) < (h.Objects.length : Int)) || decide ((16 : Int) < (h.Roots.length : Int))) = false from by simp; omega, cond_false]
  rw [firstAt_none_of (g := badR h) (fun i hi => ?_), firstAt_none_of (g := badO h) (fun i hi => ?_)]
  · rfl
  · have hm : ix h.Objects (i : Int) ∈ h.Objects := ix_mem ⟨by omega, by omega⟩
    obtain ⟨f1, f2⟩ := hf.fld _ hm
    unfold badO
    rw [show decide ((20 : Int) < ((ix h.Objects (i : Int)).length : Int)) = false from by simp; omega, cond_false]
    refine firstAt_none_of fun k hk => ?_
    have := f2 _ (ix_mem (l := ix h.Objects (i : Int)) (j := (k : Int)) ⟨by omega, by omega⟩)
    unfold badX
    rw [show (decide (ix (ix h.Objects (i : Int)) (k : Int) < -1) || decide ((h.Objects.length : Int) ≤ ix (ix h.Objects (i : Int)) (k : Int))) = false from by simp; omega]; rfl
  · have := hf.root _ (ix_mem (l := h.Roots) (j := (i : Int)) ⟨by omega, by omega⟩)
    unfold badR
    rw [show (decide (ix h.Roots (i : Int) < -1) || decide ((h.Objects.length : Int) ≤ ix h.Roots (i : Int))) = false from by simp; omega]; rfl
theorem tidy_fine {m : Mc} (hg : Good m) (h : Tidy m) : Fine ⟨m.O, m.R⟩ := ⟨hg.wf.o, h.r, hg.wf.root, fun l hl => ⟨h.f l hl, (hg.wf.fld l hl).2⟩⟩
theorem start_tidy {h : GHeap} (hf : Fine h) : Tidy ⟨h.Objects, h.Roots, startF h.Objects h.Roots⟩ := ⟨hf.r, fun l hl => (hf.fld l hl).1⟩
/-- How a cycle ends. -/
theorem cyc_cases (h : GHeap) (b : Int) (hb : bits b) (acts : List GAct) (ha : acts.length ≤ 5000) : (cycF h b acts).1.Code ≠ 0 ∨ (Fine h ∧ ∃ m, runF b 0 acts ⟨h.Objects, h.Roots, startF h.Objects h.Roots⟩ = .inr m ∧ cycF h b acts = (⟨0, 0⟩, m.O, m.R, whites (endF b m).1)) := by
  have runc : ∀ (i : Nat) (xs : List GAct) (m : Mc) (f : Fault), runF b i xs m = .inl f → f.Code ≠ 0 := by
    intro i xs
    induction xs generalizing i with
    | nil => intro m f e; cases e
    | cons x xs ih =>
      intro m f e
      unfold runF at e
      cases hc : (actF b x m).1 != 0 with
      | true => rw [hc] at e; cases e; simpa using hc
      | false => rw [hc] at e; exact ih _ _ f e
  unfold cycF
  cases hc : (checkF h).Code != 0 with
  | true => left; simpa using hc
  | false =>
    have hf := code_fine hc
    obtain ⟨b1, b2⟩ := hb
    rw [cond_false, show (decide (b < 0) || decide ((3 : Int) < b)) = false from by simp; omega, cond_false, show decide ((5000 : Int) < (acts.length : Int)) = false from by simp; omega, cond_false]
    cases hr : runF b 0 acts ⟨h.Objects, h.Roots, startF h.Objects h.Roots⟩ with
    | inl f => left; exact runc _ _ _ _ hr
    | inr m => right; exact ⟨hf, m, rfl, rfl⟩
/-! ### Colours, as acts turn them -/
theorem shadeO_ix' {O : LLi} {s : Col} (h : Ok O.length s) {o : Int} (ho : o < (O.length : Int)) {x : Int} (hx : 0 ≤ x) : ix (shadeO s o).1 x = if x = o ∧ ix s.1 o = 0 then 1 else ix s.1 x := shadeO_ix h.len ho hx
/-- Shades and marks: what was not white isn't then, what was not black neither, but for what is marked. -/
structure Darker (O : LLi) (s t : Col) : Prop where
  nw : ∀ x : Int, 0 ≤ x → ix s.1 x ≠ 0 → ix t.1 x ≠ 0
  nb : ∀ x : Int, 0 ≤ x → ix s.1 x ≠ 2 → ix t.1 x = 2 → ∀ y ∈ ix O x, 0 ≤ y → ix t.1 y ≠ 0
theorem Darker.shadeO {O : LLi} {s : Col} (h : Ok O.length s) {o : Int} (ho : o < (O.length : Int)) : Darker O s (shadeO s o) := by
  refine ⟨fun x hx h1 => ?_, fun x hx h1 h2 => ?_⟩
  · rw [shadeO_ix' h ho hx]; split
    · decide
    · exact h1
  · rw [shadeO_ix' h ho hx] at h2
    split at h2
    · cases h2
    · exact absurd h2 h1
theorem shade_nw {O : LLi} {s : Col} (h : Ok O.length s) {o : Int} (ho : o < (O.length : Int)) (h0 : 0 ≤ o) : ix (shadeO s o).1 o ≠ 0 := by
  rw [shadeO_ix' h ho h0]
  by_cases hz : ix s.1 o = 0
  · rw [if_pos ⟨rfl, hz⟩]; decide
  · rw [if_neg (fun h => hz h.2)]; exact hz
theorem Darker.mark {O : LLi} {R : List Int} (hw : Wf O R) {s : Col} (h : Ok O.length s) : Darker O s (markF O s) := by
  obtain ⟨col, line⟩ := s
  cases line with
  | nil => exact ⟨fun x hx h1 => h1, fun x hx h1 h2 => absurd h2 h1⟩
  | cons o r =>
    refine ⟨fun x hx h1 => ?_, fun x hx h1 h2 y hy hy0 => ?_⟩
    · rw [markF_ix hw h hx]
      split
      · decide
      · split
        · decide
        · exact h1
    · rw [markF_ix hw h hx] at h2
      split at h2
      · rename_i e; subst e
        rw [markF_ix hw h hy0]
        split
        · decide
        · split
          · decide
          · rename_i h3 h4
            exact fun hz => h4 ⟨hy, hz⟩
      · split at h2
        · cases h2
        · exact absurd h2 h1
/-! ### DIJKSTRA: black objects lead to nothing white -/
def Blk (O : LLi) (s : Col) : Prop := ∀ o : Int, 0 ≤ o → o < (O.length : Int) → ix s.1 o = 2 → ∀ x ∈ ix O o, 0 ≤ x → ix s.1 x ≠ 0
theorem Blk.dark {O : LLi} {s t : Col} (h : Blk O s) (hd : Darker O s t) : Blk O t := fun o h0 h1 h2 x hx hx0 => by
  by_cases e : ix s.1 o = 2
  · exact hd.nw x hx0 (h o h0 h1 e x hx hx0)
  · exact hd.nb o h0 e h2 x hx hx0
/-! ### YUASA: what is protected -/
inductive Prot (O : LLi) (s : Col) : Int → Prop
  | col {x} (h0 : 0 ≤ x) (h : ix s.1 x ≠ 0) : Prot O s x
  | step {a x} (h : Prot O s a) (ha : ix s.1 a ≠ 2) (hx : x ∈ ix O a) (h0 : 0 ≤ x) : Prot O s x
theorem Prot.pos {O : LLi} {s : Col} {x : Int} (h : Prot O s x) : 0 ≤ x := by cases h <;> assumption
theorem Prot.dark {O : LLi} {s t : Col} (hd : Darker O s t) {x : Int} (h : Prot O s x) : Prot O t x := by
  induction h with
  | col h0 h => exact .col h0 (hd.nw _ h0 h)
  | @step a x h ha hx h0 ih =>
    by_cases e : ix t.1 a = 2
    · exact .col h0 (hd.nb _ h.pos ha e _ hx h0)
    · exact .step ih e hx h0
/-- Of protected ones nothing is white at the end. -/
theorem Prot.done {O : LLi} {s : Col} (hw : ∀ l ∈ O, ∀ x ∈ l, x < (O.length : Int)) (hs : Ok O.length s) (hl : s.2 = []) {x : Int} (h : Prot O s x) : ix s.1 x ≠ 0 := by
  have : x < (O.length : Int) → ix s.1 x ≠ 0 := by
    induction h with
    | col h0 h => exact fun _ => h
    | @step a x h ha hx h0 ih =>
      intro _
      by_cases hlt : a < (O.length : Int)
      · rcases hs.col a h.pos hlt with e | e | e
        · exact absurd e (ih hlt)
        · have := hs.grey a h.pos hlt e; rw [hl] at this; cases this
        · exact absurd e ha
      · exfalso
        have : ix O a = [] := by
          unfold ix
          rw [List.getD_eq_getElem?_getD, List.getElem?_eq_none (by omega)]; rfl
        rw [this] at hx; cases hx
  by_cases hlt : x < (O.length : Int)
  · exact this hlt
  · intro hz
    cases h with
    | col h0 h => exact h hz
    | @step a _ h ha hx h0 =>
      by_cases hal : a < (O.length : Int)
      · have := hw _ (ix_mem ⟨h.pos, hal⟩) _ hx
        exact hlt this
      · have : ix O a = [] := by
          unfold ix
          rw [List.getD_eq_getElem?_getD, List.getElem?_eq_none (by omega)]; rfl
        rw [this] at hx; cases hx
/-- Members of a list in which one place is new. -/
theorem mem_set_other {l : List Int} {i : Int} {v x : Int} (hi : 0 ≤ i ∧ i < (l.length : Int)) (hx : x ∈ l) (hn : x ≠ ix l i) : x ∈ l.set i.toNat v := by
  obtain ⟨j, h0, h1, h2⟩ := mem_ix hx
  have : j ≠ i := fun e => hn (by rw [← h2, e])
  have e : ix (l.set i.toNat v) j = x := by rw [ix_set hi h0, if_neg (fun e => this e.symm)]; exact h2
  rw [← e]
  exact ix_mem ⟨h0, by rw [List.length_set]; exact h1⟩
theorem bar2 {b : Int} (h1 : 2 ≤ b) (h2 : b ≤ 3) : bitE b 2 = true := by rw [bit2 ⟨by omega, h2⟩]; simpa using h1
theorem bar1 : bitE 1 1 = true := by decide
theorem bar12 : bitE 1 2 = false := by decide
/-- A write, with the barrier that shades what was there. -/
theorem write_dark {b : Int} (h1 : 2 ≤ b) (h2 : b ≤ 3) {x : GAct} {m : Mc} (hg : Good m) (hs : slotOk m.O m.R x.A x.B = true) (hv : (valF m.R x.C).2 = true) : Darker m.O m.s (writeF b x m).s ∧ (0 ≤ ix (ix m.O (ix m.R x.A)) x.B → ix (writeF b x m).s.1 (ix (ix m.O (ix m.R x.A)) x.B) ≠ 0) := by
  obtain ⟨k1, k2, k3, k4⟩ := slotOk_t hs
  obtain ⟨g1, g2⟩ := hg.wf.root _ (ix_mem k1)
  obtain ⟨f1, f2⟩ := hg.wf.fldlt k2 g2
  obtain ⟨v1, v2⟩ := valF_lt hg.wf x.C hv
  have y2 := (f2 _ (ix_mem ⟨k3, k4⟩)).2
  have d1 := Darker.shadeO hg.ok y2
  have o1 := hg.ok.shadeO y2
  unfold writeF
  dsimp only
  rw [bar2 h1 h2, cond_true]
  cases bitE b 1 with
  | false => exact ⟨d1, fun h0 => shade_nw hg.ok y2 h0⟩
  | true =>
    have d2 := Darker.shadeO o1 v2
    exact ⟨⟨fun z hz h => d2.nw z hz (d1.nw z hz h), fun z hz h h' y hy hy0 => by
      by_cases e : ix (shadeO m.s (ix (ix m.O (ix m.R x.A)) x.B)).1 z = 2
      · exact d2.nw y hy0 (d1.nb z hz h e y hy hy0)
      · exact d2.nb z hz e h' y hy hy0⟩, fun h0 => d2.nw _ h0 (shade_nw hg.ok y2 h0)⟩
theorem Prot.write {b : Int} (h1 : 2 ≤ b) (h2 : b ≤ 3) {x : GAct} {m : Mc} (hg : Good m) (hs : slotOk m.O m.R x.A x.B = true) (hv : (valF m.R x.C).2 = true) {z : Int} (h : Prot m.O m.s z) : Prot (writeF b x m).O (writeF b x m).s z := by
  obtain ⟨k1, k2, k3, k4⟩ := slotOk_t hs
  obtain ⟨g1, g2⟩ := hg.wf.root _ (ix_mem k1)
  obtain ⟨hd, hy⟩ := write_dark h1 h2 hg hs hv
  induction h with
  | col h0 h => exact .col h0 (hd.nw _ h0 h)
  | @step a z h ha hx h0 ih =>
    by_cases e : ix (writeF b x m).s.1 a = 2
    · exact .col h0 (hd.nb _ h.pos ha e _ hx h0)
    · by_cases e1 : ix m.R x.A = a
      · subst e1
        by_cases e2 : z = ix (ix m.O (ix m.R x.A)) x.B
        · subst e2; exact .col h0 (hy h0)
        · refine .step ih e ?_ h0
          show z ∈ ix (m.O.set _ _) _
          rw [ix_set ⟨k2, g2⟩ k2, if_pos rfl]
          exact mem_set_other ⟨k3, k4⟩ hx e2
      · refine .step ih e ?_ h0
        show z ∈ ix (m.O.set _ _) _
        rw [ix_set ⟨k2, g2⟩ h.pos, if_neg e1]; exact hx
theorem ix_ap {α : Type} [Enc α] {l : List α} (v : α) {j : Int} (h0 : 0 ≤ j) (hj : j < (l.length : Int)) : ix (l ++ [v]) j = ix l j := by rw [ix_app _ ⟨h0, by omega⟩, if_neg (by omega)]
theorem ix_none {O : LLi} {a : Int} (h : (O.length : Int) ≤ a) : ix O a = [] := by
  unfold ix
  rw [List.getD_eq_getElem?_getD, List.getElem?_eq_none (by omega)]; rfl
theorem new_col {x : GAct} {m : Mc} (hg : Good m) {z : Int} (h0 : 0 ≤ z) (h : z < (m.O.length : Int)) : ix (newF x m).s.1 z = ix m.s.1 z := by
  show ix (m.s.1 ++ [2]) z = _
  exact ix_ap _ h0 (by rw [hg.ok.len]; exact h)
theorem new_new {x : GAct} {m : Mc} (hg : Good m) : ix (newF x m).s.1 (m.O.length : Int) = 2 := by
  show ix (m.s.1 ++ [2]) _ = _
  rw [ix_app _ ⟨by omega, by rw [hg.ok.len]; omega⟩, if_pos (by rw [hg.ok.len])]
theorem nw_lt {m : Mc} (hg : Good m) {z : Int} (h : ix m.s.1 z ≠ 0) : z < (m.O.length : Int) := by
  refine Decidable.byContradiction fun hn => h (ix_big (by rw [hg.ok.len]; omega))
theorem Prot.new {x : GAct} {m : Mc} (hg : Good m) {z : Int} (h : Prot m.O m.s z) : Prot (newF x m).O (newF x m).s z := by
  induction h with
  | col h0 h => exact .col h0 (by rw [new_col hg h0 (nw_lt hg h)]; exact h)
  | @step a z h ha hx h0 ih =>
    have hal : a < (m.O.length : Int) := Decidable.byContradiction fun hn => by rw [ix_none (by omega)] at hx; cases hx
    refine .step ih (by rw [new_col hg h.pos hal]; exact ha) ?_ h0
    show z ∈ ix (m.O ++ [_]) a
    rw [ix_ap _ h.pos hal]; exact hx
/-- What was protected stays so, whatever is done. -/
theorem Prot.act {b : Int} (h1 : 2 ≤ b) (h2 : b ≤ 3) {x : GAct} {m : Mc} (hg : Good m) {z : Int} (h : Prot m.O m.s z) : Prot (actF b x m).2.O (actF b x m).2.s z :=
  act_cases (b := b) (fun m' => Prot m'.O m'.s z) h (fun hs hv => h.write h1 h2 hg hs hv) (fun _ _ => h) (fun _ _ => h) (fun _ _ _ _ => h.new hg) (h.dark (.mark hg.wf hg.ok))
theorem all_prot {O : LLi} {R : List Int} (hw : Wf O R) {s : Col} (hs : Ok O.length s) {z : Int} (h : Prot O s z) : ix (allF O s).1 z ≠ 0 := by
  obtain ⟨a1, a2, a3⟩ := allF_ind hw (fun s => Prot O s z) (fun s h1 h2 _ => h2.dark (.mark hw h1)) _ s (Nat.le_refl _) hs h
  exact a2.done (fun l hl x hx => ((hw.fld l hl).2 x hx).2) a1 a3
/-- At first all that is reached is protected. -/
theorem start_prot {h : GHeap} (hf : Fine h) {z : Int} (hz : Reach h.Objects h.Roots z) : Prot h.Objects (startF h.Objects h.Roots) z := by
  have hw := hf.wf
  induction hz with
  | root h h0 => exact .col h0 (by rw [start_ix hw h0, if_pos h]; decide)
  | step h hx h0 ih =>
    refine .step ih ?_ hx h0
    rw [start_ix hw ih.pos]
    split <;> decide
/-- Registers and children of what is black are protected. -/
structure Guard (m : Mc) : Prop where
  root : ∀ r ∈ m.R, 0 ≤ r → Prot m.O m.s r
  black : ∀ o : Int, 0 ≤ o → o < (m.O.length : Int) → ix m.s.1 o = 2 → ∀ x ∈ ix m.O o, 0 ≤ x → Prot m.O m.s x
theorem Guard.child {m : Mc} (hg : Good m) (h : Guard m) {a x : Int} (ha : Prot m.O m.s a) (hx : x ∈ ix m.O a) (h0 : 0 ≤ x) : Prot m.O m.s x := by
  by_cases e : ix m.s.1 a = 2
  · exact h.black a ha.pos (nw_lt hg (by rw [e]; decide)) e x hx h0
  · exact .step ha e hx h0
theorem Guard.reach {m : Mc} (hg : Good m) (h : Guard m) {z : Int} (hz : Reach m.O m.R z) : Prot m.O m.s z := by
  induction hz with
  | root h1 h0 => exact h.root _ h1 h0
  | step h1 hx h0 ih => exact h.child hg ih hx h0
theorem Guard.val {m : Mc} (h : Guard m) {c : Int} (h0 : 0 ≤ (valF m.R c).1) (hv : (valF m.R c).2 = true) : Prot m.O m.s (valF m.R c).1 := by
  unfold valF at h0 hv ⊢
  cases e : c == -1 with
  | true => rw [e] at h0; simp at h0
  | false =>
    rw [e, cond_false] at h0 hv
    rw [cond_false]
    cases e2 : regOk m.R c with
    | true => rw [e2, cond_true] at h0; exact h.root _ (ix_mem (regOk_t e2)) h0
    | false => rw [e2] at hv; cases hv
theorem Guard.act {b : Int} (h1 : 2 ≤ b) (h2 : b ≤ 3) {x : GAct} {m : Mc} (hg : Good m) (h : Guard m) : Guard (actF b x m).2 := by
  refine act_cases (b := b) Guard h (fun hs hv => ?_) (fun hs hr => ?_) (fun hv hr => ?_) (fun hr _ _ _ => ?_) ?_
  · obtain ⟨k1, k2, k3, k4⟩ := slotOk_t hs
    obtain ⟨g1, g2⟩ := hg.wf.root _ (ix_mem k1)
    obtain ⟨hd, hy⟩ := write_dark h1 h2 hg hs hv
    refine ⟨fun r hr h0 => (h.root r hr h0).write h1 h2 hg hs hv, fun o h0 hl hb z hz hz0 => ?_⟩
    have hl' : o < (m.O.length : Int) := by simpa [writeF] using hl
    have key : z ∈ ix m.O o → Prot (writeF b x m).O (writeF b x m).s z := fun hz => by
      by_cases e : ix m.s.1 o = 2
      · exact (h.black o h0 hl' e z hz hz0).write h1 h2 hg hs hv
      · exact .col hz0 (hd.nb o h0 e hb z hz hz0)
    have hz' : z ∈ ix (m.O.set (ix m.R x.A).toNat ((ix m.O (ix m.R x.A)).set x.B.toNat (valF m.R x.C).1)) o := hz
    rw [ix_set ⟨k2, g2⟩ h0] at hz'
    split at hz'
    · rename_i e; subst e
      rcases List.mem_or_eq_of_mem_set hz' with hz' | rfl
      · exact key hz'
      · exact (h.val hz0 hv).write h1 h2 hg hs hv
    · exact key hz'
  · obtain ⟨k1, k2, k3, k4⟩ := slotOk_t hs
    refine ⟨fun r hr h0 => ?_, h.black⟩
    rcases List.mem_or_eq_of_mem_set hr with hr | rfl
    · exact h.root r hr h0
    · exact h.child hg (h.root _ (ix_mem k1) k2) (ix_mem ⟨k3, k4⟩) h0
  · refine ⟨fun r hr h0 => ?_, h.black⟩
    rcases List.mem_or_eq_of_mem_set hr with hr | rfl
    · exact h.root r hr h0
    · exact h.val h0 hv
  · refine ⟨fun r hr h0 => ?_, fun o h0 hl hb z hz hz0 => ?_⟩
    · rcases List.mem_or_eq_of_mem_set hr with hr | rfl
      · exact (h.root r hr h0).new hg
      · exact .col h0 (by rw [new_new hg]; decide)
    · have hl' : o ≤ (m.O.length : Int) := by simp [newF] at hl; omega
      have hz' : z ∈ ix (m.O ++ [List.replicate x.B.toNat (-1)]) o := hz
      rw [ix_app _ ⟨h0, hl'⟩] at hz'
      split at hz'
      · have := List.eq_of_mem_replicate hz'; omega
      · rw [new_col hg h0 (by omega)] at hb
        exact (h.black o h0 (by omega) hb z hz' hz0).new hg
  · have hd := Darker.mark hg.wf hg.ok
    refine ⟨fun r hr h0 => (h.root r hr h0).dark hd, fun o h0 hl hb z hz hz0 => ?_⟩
    by_cases e : ix m.s.1 o = 2
    · exact (h.black o h0 hl e z hz hz0).dark hd
    · exact .col hz0 (hd.nb o h0 e hb z hz hz0)
theorem start_guard {h : GHeap} (hf : Fine h) : Guard ⟨h.Objects, h.Roots, startF h.Objects h.Roots⟩ := by
  have hw := hf.wf
  refine ⟨fun r hr h0 => start_prot hf (.root hr h0), fun o h0 hl hb => ?_⟩
  rw [start_ix hw h0] at hb
  split at hb <;> cases hb
/-! ### With barrier 1 -/
theorem Blk.act {x : GAct} {m : Mc} (hg : Good m) (h : Blk m.O m.s) : Blk (actF 1 x m).2.O (actF 1 x m).2.s := by
  refine act_cases (b := 1) (fun m => Blk m.O m.s) h (fun hs hv => ?_) (fun _ _ => h) (fun _ _ => h) (fun hr _ _ _ => ?_) (h.dark (.mark hg.wf hg.ok))
  · obtain ⟨k1, k2, k3, k4⟩ := slotOk_t hs
    obtain ⟨g1, g2⟩ := hg.wf.root _ (ix_mem k1)
    obtain ⟨v1, v2⟩ := valF_lt hg.wf x.C hv
    have e : (writeF 1 x m).s = shadeO m.s (valF m.R x.C).1 := by unfold writeF; rw [bar1, bar12]; rfl
    intro o h0 hl hb z hz hz0
    rw [e] at hb ⊢
    have hl' : o < (m.O.length : Int) := by simpa [writeF] using hl
    have hd := Darker.shadeO hg.ok v2
    have key := h.dark hd o h0 hl' hb z
    have hz' : z ∈ ix (m.O.set (ix m.R x.A).toNat ((ix m.O (ix m.R x.A)).set x.B.toNat (valF m.R x.C).1)) o := hz
    rw [ix_set ⟨k2, g2⟩ h0] at hz'
    split at hz'
    · rename_i e; subst e
      rcases List.mem_or_eq_of_mem_set hz' with hz' | rfl
      · exact key hz' hz0
      · exact shade_nw hg.ok v2 hz0
    · exact key hz' hz0
  · intro o h0 hl hb z hz hz0
    have hl' : o ≤ (m.O.length : Int) := by simp [newF] at hl; omega
    have hz' : z ∈ ix (m.O ++ [List.replicate x.B.toNat (-1)]) o := hz
    rw [ix_app _ ⟨h0, hl'⟩] at hz'
    split at hz'
    · have := List.eq_of_mem_replicate hz'; omega
    · rw [new_col hg h0 (by omega)] at hb
      have h2 := h o h0 (by omega) hb z hz' hz0
      rw [new_col hg hz0 (nw_lt hg h2)]; exact h2
theorem start_blk {h : GHeap} (hf : Fine h) : Blk h.Objects (startF h.Objects h.Roots) := by
  intro o h0 hl hb
  rw [start_ix hf.wf h0] at hb
  split at hb <;> cases hb
/-- What is found white at the end is not reached. -/
theorem end_safe {b : Int} (h1 : 1 ≤ b) (h3 : b ≤ 3) {h : GHeap} (hf : Fine h) {acts : List GAct} {m : Mc} (hr : runF b 0 acts ⟨h.Objects, h.Roots, startF h.Objects h.Roots⟩ = .inr m) {z : Int} (hz : Reach m.O m.R z) : ix (endF b m).1 z ≠ 0 := by
  have hg := runF_good (start_good hf) hr
  have hw := hg.wf
  unfold endF
  by_cases e : b = 1
  · subst e
    rw [show ((1 : Int) == 1) = true from rfl, cond_true]
    have hb := runF_ind (b := 1) (fun m => Blk m.O m.s) (fun m x hg hi => hi.act hg) (start_good hf) (start_blk hf) hr
    obtain ⟨a1, a2, a3⟩ := allF_ind hw (fun s => Blk m.O s) (fun s k1 k2 _ => k2.dark (.mark hw k1)) _ m.s (Nat.le_refl _) hg.ok hb
    have hlt : ∀ x ∈ m.R, x < (m.O.length : Int) := fun x hx => (hw.root x hx).2
    have s1 := a1.shadeL hlt
    have hsh : ∀ x : Int, 0 ≤ x → ix (shadeL m.R (allF m.O m.s)).1 x = if x ∈ m.R ∧ ix (allF m.O m.s).1 x = 0 then 1 else ix (allF m.O m.s).1 x := shadeL_ix a1.len hlt
    have hd : Darker m.O (allF m.O m.s) (shadeL m.R (allF m.O m.s)) := ⟨fun x hx k => by
        rw [hsh x hx]; split
        · decide
        · exact k, fun x hx k1 k2 => by
        rw [hsh x hx] at k2
        split at k2
        · cases k2
        · exact absurd k2 k1⟩
    have hrt : ∀ x ∈ m.R, 0 ≤ x → ix (shadeL m.R (allF m.O m.s)).1 x ≠ 0 := fun x hx h0 => by
      rw [hsh x h0]
      by_cases hz : ix (allF m.O m.s).1 x = 0
      · rw [if_pos ⟨hx, hz⟩]; decide
      · rw [if_neg (fun h => hz h.2)]; exact hz
    obtain ⟨b1, ⟨b2, b2'⟩, b3⟩ := allF_ind hw (fun s => Blk m.O s ∧ ∀ x ∈ m.R, 0 ≤ x → ix s.1 x ≠ 0) (fun s k1 k2 _ => ⟨k2.1.dark (.mark hw k1), fun x hx h0 => (Darker.mark hw k1).nw x h0 (k2.2 x hx h0)⟩) _ _ (Nat.le_refl _) s1 ⟨a2.dark hd, hrt⟩
    induction hz with
    | root hx h0 => exact b2' _ hx h0
    | step hx hy h0 ih =>
      obtain ⟨l1, l2⟩ := hx.lt hw
      rcases b1.col _ l1 l2 with k | k | k
      · exact absurd k ih
      · have := b1.grey _ l1 l2 k; rw [b3] at this; cases this
      · exact b2 _ l1 l2 k _ hy h0
  · have hgd := runF_ind (b := b) Guard (fun m x hg hi => hi.act (by omega) h3 hg) (start_good hf) (start_guard hf) hr
    rw [show (b == 1) = false from by simpa using e, cond_false]
    exact all_prot hw hg.ok (hgd.reach hg hz)
theorem runF_tidy {b : Int} {h : GHeap} (hf : Fine h) {acts : List GAct} {m : Mc} (hr : runF b 0 acts ⟨h.Objects, h.Roots, startF h.Objects h.Roots⟩ = .inr m) : Fine ⟨m.O, m.R⟩ :=
  tidy_fine (runF_good (start_good hf) hr) (runF_ind (b := b) Tidy (fun m x hg hi => hi.act hg) (start_good hf) (start_tidy hf) hr)
theorem white_mem {c : List Int} {z : Int} : z ∈ whites c ↔ 0 ≤ z ∧ z < (c.length : Int) ∧ ix c z = 0 := by
  unfold whites
  rw [mem_pick]
  simp
end Go.Proofs.Ytlfcicekappbfaa
end

section
namespace Go.Proofs.Ytlfcicekappbfaa
open Go Go.Sx
set_option linter.unusedVariables false
set_option linter.unusedSimpArgs false
theorem whites_len (c : List Int) : (whites c).length ≤ c.length := pick_len _ _
theorem ref_fine {O : LLi} {R : List Int} (hf : Fine ⟨O, R⟩) : taskmillref_HeapsFault ⟨O, R⟩ = some ⟨0, 0⟩ := by
  rw [href_eq _ (Small.of_fine hf), check_fine hf]
/-- Each of a list is there, and not in a set. -/
theorem out_loop {step : Int × List Bool → Option ((Int × List Bool) ⊕ Bool)} (l : List Int) (c : List Bool) (rest : Option Bool) (hn : l.length ≤ 1000000)
    (hstep : ∀ i : Nat, i < l.length → (0 ≤ ix l (i : Int) ∧ ix l (i : Int) < (c.length : Int) ∧ ix c (ix l (i : Int)) = false) → step (((i : Nat) : Int), c) = some (.inl (((i + 1 : Nat) : Int), c)))
    (hend : step (((l.length : Nat) : Int), c) = rest.map .inr)
    (h : ∀ z ∈ l, 0 ≤ z ∧ z < (c.length : Int) ∧ ix c z = false) : loopO step (0, c) = rest := by
  have := loopO_all (step := step) (fun i => (((i : Nat) : Int), c)) rest l.length (fun i hi => hstep i hi (h _ (ix_mem ⟨by omega, by omega⟩))) hend
  exact this
theorem safe_loop (l : List Int) (c : List Bool) (hn : l.length ≤ 1000000) (h : ∀ z ∈ l, 0 ≤ z ∧ z < (c.length : Int) ∧ ix c z = false) : loopO (taskmilllaw_SweepSafe_l1 l) (0, c) = some true := by
  refine out_loop l c (some true) hn (fun i hi hz => ?_) ?_ h
  · obtain ⟨z1, z2, z3⟩ := hz
    unfold taskmilllaw_SweepSafe_l1
    dsimp only
    have e1 : decide (ix l (i : Int) < 0) = false := by simp; omega
    have e2 : decide ((0 : Int) ≤ ix l (i : Int)) = true := by simpa using z1
    have e3 : decide (ix l (i : Int) < (c.length : Int)) = true := by simpa using z2
    have e4 : decide ((c.length : Int) ≤ ix l (i : Int)) = false := by simp; omega
    rw [lt_n hi, ge_n, e1, e2, e3, e4, z3, wrap_n1 i (by omega)]
    rfl
  · unfold taskmilllaw_SweepSafe_l1
    dsimp only
    rw [nlt_n]; rfl
theorem sweepSafe_true (h : GHeap) (b : Int) (acts : List GAct) (hn : h.Objects.length ≤ 9223372036854775807) : taskmilllaw_SweepSafe h b acts = some true := by
  unfold taskmilllaw_SweepSafe
  rw [begun_eq]
  obtain ⟨v, hv, hsm⟩ := vast_ex h hn
  simp only [Option.bind_some, Bool.not_true, cond_false, hv]
  cases v with
  | true => rfl
  | false =>
  have hs := hsm rfl
  rw [cond_false]
  by_cases ha : (5000 : Int) < (acts.length : Int)
  · rw [decide_eq_true ha]; rfl
  rw [decide_eq_false ha, cond_false]
  by_cases hb : b < 1
  · rw [decide_eq_true hb]; rfl
  rw [decide_eq_false hb, cond_false]
  by_cases hb3 : (3 : Int) < b
  · rw [decide_eq_true hb3]; rfl
  rw [decide_eq_false hb3]
  unfold taskmilllaw_SweepSafe_j2
  rw [cond_false, cyc_eq h b acts hs (by omega), Option.bind_some]
  rcases cyc_cases h b ⟨by omega, by omega⟩ acts (by omega) with hc | ⟨hf, m, hr, he⟩
  · rw [show ((cycF h b acts).1.Code != 0) = true from by simpa using hc, cond_true]
    unfold taskmilllaw_SweepSafe_j1
    rw [cond_true]
    simpa using hc
  · have hg := runF_good (start_good hf) hr
    have hft := runF_tidy hf hr
    rw [he]
    dsimp only
    rw [show ((0 : Int) != 0) = false from rfl, cond_false, ref_fine hft, Option.bind_some]
    obtain ⟨c, h1, h2, h3⟩ := reach_eq hg.wf
    obtain ⟨o1, o2⟩ := end_ok (b := b) hg
    unfold taskmilllaw_SweepSafe_j1
    rw [show ((0 : Int) != 0) = false from rfl, cond_false, h1, Option.bind_some]
    have hwl := whites_len (endF b m).1
    have ho := hg.wf.o
    refine safe_loop _ c (by rw [o1.len] at hwl; omega) fun z hz => ?_
    obtain ⟨z1, z2, z3⟩ := white_mem.1 hz
    rw [o1.len] at z2
    refine ⟨z1, by rw [h2]; exact z2, ?_⟩
    cases hx : ix c z with
    | false => rfl
    | true => exact absurd z3 (end_safe (by omega) (by omega) hf hr ((h3 z z1 z2).1 hx))
/-! ### Snapshot -/
theorem snap_loop (b : Int) (l : List Int) (O : LLi) (R : List Int) (c : List Bool) (rest : Option Bool) (hn : l.length ≤ 1000000)
    (hrest : (sweep_Cycle (GHeap.mk O R) b []).bind (fun r => (sweep_Lost (GHeap.mk O R)).bind fun r' => (bif (r.1.Code == 0) then (bif (r'.1.Code == 0) then ((taskmillref_Ints r.2.2.2 r'.2).bind fun r7654 => (taskmilllaw_SweepSnapshot_j1 r7654)) else (taskmilllaw_SweepSnapshot_j1 false)) else (taskmilllaw_SweepSnapshot_j1 false))) = rest)
    (h : ∀ z ∈ l, 0 ≤ z ∧ z < (c.length : Int) ∧ ix c z = false) : loopO (taskmilllaw_SweepSnapshot_l1 b l O R) (0, c) = rest := by
  refine out_loop l c rest hn (fun i hi hz => ?_) ?_ h
  · obtain ⟨z1, z2, z3⟩ := hz
    unfold taskmilllaw_SweepSnapshot_l1
    dsimp only
    have e1 : decide (ix l (i : Int) < 0) = false := by simp; omega
    have e2 : decide ((0 : Int) ≤ ix l (i : Int)) = true := by simpa using z1
    have e3 : decide (ix l (i : Int) < (c.length : Int)) = true := by simpa using z2
    have e4 : decide ((c.length : Int) ≤ ix l (i : Int)) = false := by simp; omega
    rw [lt_n hi, ge_n, e1, e2, e3, e4, z3, wrap_n1 i (by omega)]
    rfl
  · unfold taskmilllaw_SweepSnapshot_l1
    dsimp only
    rw [nlt_n, cond_false, ← hrest]
theorem lostF_fine {h : GHeap} (hf : Fine h) : lostF h = (⟨0, 0⟩, whites (allF h.Objects (startF h.Objects h.Roots)).1) := by
  unfold lostF
  rw [check_fine hf]; rfl
theorem cycF_nil {h : GHeap} (hf : Fine h) {b : Int} (h1 : 2 ≤ b) (h3 : b ≤ 3) : cycF h b [] = (⟨0, 0⟩, h.Objects, h.Roots, whites (allF h.Objects (startF h.Objects h.Roots)).1) := by
  unfold cycF
  rw [check_fine hf]
  rw [show ((⟨0, 0⟩ : Fault).Code != 0) = false from rfl, cond_false, show (decide (b < 0) || decide ((3 : Int) < b)) = false from by simp; omega, cond_false]
  show (bif false then _ else resF b (.inr _)) = _
  rw [cond_false]
  unfold resF endF
  rw [show (b == 1) = false from by simp; omega]; rfl
/-- What is there later is old, or not white. -/
structure Young (n : Nat) (m : Mc) : Prop where
  le : n ≤ m.O.length
  nw : ∀ o : Int, (n : Int) ≤ o → o < (m.O.length : Int) → ix m.s.1 o ≠ 0
theorem Young.act {n : Nat} {b : Int} (h1 : 2 ≤ b) (h2 : b ≤ 3) {x : GAct} {m : Mc} (hg : Good m) (h : Young n m) : Young n (actF b x m).2 := by
  refine act_cases (b := b) (Young n) h (fun hs hv => ?_) (fun _ _ => ⟨h.le, h.nw⟩) (fun _ _ => ⟨h.le, h.nw⟩) (fun hr _ _ _ => ?_) ⟨h.le, fun o h0 hl => (Darker.mark hg.wf hg.ok).nw o (by omega) (h.nw o h0 hl)⟩
  · obtain ⟨hd, _⟩ := write_dark h1 h2 hg hs hv
    have e : (writeF b x m).O.length = m.O.length := by simp [writeF]
    exact ⟨by rw [e]; exact h.le, fun o h0 hl => hd.nw o (by omega) (h.nw o h0 (by rw [e] at hl; exact hl))⟩
  · have e : (newF x m).O.length = m.O.length + 1 := by simp [newF]
    refine ⟨by rw [e]; have := h.le; omega, fun o h0 hl => ?_⟩
    rw [e] at hl
    by_cases ho : o = (m.O.length : Int)
    · subst ho; rw [new_new hg]; decide
    · rw [new_col hg (by omega) (by omega)]; exact h.nw o h0 (by omega)
theorem sweepSnapshot_true (h : GHeap) (b : Int) (acts : List GAct) (hn : h.Objects.length ≤ 9223372036854775807) : taskmilllaw_SweepSnapshot h b acts = some true := by
  unfold taskmilllaw_SweepSnapshot
  rw [begun_eq]
  obtain ⟨v, hv, hsm⟩ := vast_ex h hn
  simp only [Option.bind_some, Bool.not_true, cond_false, hv]
  cases v with
  | true => rfl
  | false =>
  have hs := hsm rfl
  rw [cond_false]
  by_cases ha : (5000 : Int) < (acts.length : Int)
  · rw [decide_eq_true ha]; rfl
  rw [decide_eq_false ha, cond_false]
  by_cases hb : b < 2
  · rw [decide_eq_true hb]; rfl
  rw [decide_eq_false hb, cond_false]
  by_cases hb3 : (3 : Int) < b
  · rw [decide_eq_true hb3]; rfl
  rw [decide_eq_false hb3]
  unfold taskmilllaw_SweepSnapshot_j3
  rw [cond_false, cyc_eq h b acts hs (by omega), Option.bind_some]
  rcases cyc_cases h b ⟨by omega, by omega⟩ acts (by omega) with hc | ⟨hf, m, hr, he⟩
  · rw [show ((cycF h b acts).1.Code != 0) = true from by simpa using hc, cond_true]
    unfold taskmilllaw_SweepSnapshot_j2
    rw [cond_true]
    simpa using hc
  · have hg := runF_good (start_good hf) hr
    have hft := runF_tidy hf hr
    rw [he]
    dsimp only
    rw [show ((0 : Int) != 0) = false from rfl, cond_false, ref_fine hft, Option.bind_some]
    obtain ⟨c, h1, h2, h3⟩ := reach_eq hf.wf
    obtain ⟨o1, o2⟩ := end_ok (b := b) hg
    unfold taskmilllaw_SweepSnapshot_j2
    rw [show ((0 : Int) != 0) = false from rfl, cond_false, show taskmillref_Reached h = some c from h1, Option.bind_some]
    have hwl := whites_len (endF b m).1
    have ho := hg.wf.o
    have hend : ∀ z, ix m.s.1 z ≠ 0 ∨ Prot m.O m.s z → 0 ≤ z → ix (endF b m).1 z ≠ 0 := fun z hz hz0 => by
      unfold endF
      rw [show (b == 1) = false from by simp; omega, cond_false]
      rcases hz with hz | hz
      · exact all_prot hg.wf hg.ok (.col hz0 hz)
      · exact all_prot hg.wf hg.ok hz
    refine snap_loop b _ m.O m.R c _ (by rw [o1.len] at hwl; omega) ?_ fun z hz => ?_
    · have hsm2 := Small.of_fine hft
      rw [cyc_eq _ b [] hsm2 (by decide), cycF_nil hft (by omega) (by omega), lost_eq _ hsm2, lostF_fine hft]
      simp only [Option.bind_some]
      have hal := (allF_ok hg.wf (start_ok hg.wf)).1.len
      have hwl2 := whites_len (allF m.O (startF m.O m.R)).1
      rw [ints_eq _ _ (by rw [hal] at hwl2; omega)]
      simp [taskmilllaw_SweepSnapshot_j1]
    · obtain ⟨z1, z2, z3⟩ := white_mem.1 hz
      rw [o1.len] at z2
      have hy := runF_ind (b := b) (Young h.Objects.length) (fun m x hg hi => hi.act (by omega) (by omega) hg) (start_good hf) ⟨Nat.le_refl _, fun o h0 hl => by dsimp only at hl; omega⟩ hr
      have zl : z < (h.Objects.length : Int) := Decidable.byContradiction fun hk => hend z (.inl (hy.nw z (by omega) z2)) z1 z3
      refine ⟨z1, by rw [h2]; exact zl, ?_⟩
      cases hx : ix c z with
      | false => rfl
      | true =>
        have hp := runF_ind (b := b) (fun m => Prot m.O m.s z) (fun m x hg hi => hi.act (by omega) (by omega) hg) (start_good hf) (start_prot hf ((h3 z z1 zl).1 hx)) hr
        exact absurd z3 (hend z (.inr hp) z1)
/-! ### Stopped -/
theorem shadeO_same {s : Col} {o : Int} (h : 0 ≤ o → ix s.1 o ≠ 0) : shadeO s o = s := by
  unfold shadeO
  rw [show (decide ((0 : Int) ≤ o) && (ix s.1 o == 0)) = false from by
    by_cases h0 : 0 ≤ o
    · simp [h h0]
    · simp [h0]]
  rfl
theorem shadeL_same : ∀ {l : List Int} {s : Col}, (∀ x ∈ l, 0 ≤ x → ix s.1 x ≠ 0) → shadeL l s = s
  | [], s, _ => rfl
  | o :: l, s, h => by
    show shadeL l (shadeO s o) = s
    rw [shadeO_same (h o (by simp))]
    exact shadeL_same fun x hx => h x (by simp [hx])
theorem mark_run {O : LLi} {R : List Int} (hw : Wf O R) (b : Int) : ∀ (n i : Nat) (s : Col), Ok O.length s → Mark O R s → ∃ t, runF b i (List.replicate n ⟨5, 0, 0, 0⟩) ⟨O, R, s⟩ = .inr ⟨O, R, t⟩ ∧ Ok O.length t ∧ Mark O R t
  | 0, i, s, hs, hm => ⟨s, rfl, hs, hm⟩
  | n + 1, i, s, hs, hm => by
    have hm' : Mark O R (markF O s) := by
      by_cases hl : s.2 = []
      · have : markF O s = s := by unfold markF; rw [hl]
        rw [this]; exact hm
      · exact hm.step hw hs hl
    obtain ⟨t, h1, h2, h3⟩ := mark_run hw b n (i + 1) _ (hs.markF hw) hm'
    exact ⟨t, h1, h2, h3⟩
theorem stop_end {h : GHeap} (hf : Fine h) (b : Int) (hb : bits b) (n : Nat) (hn : n ≤ 5000) : ∃ t : Col, cycF h b (List.replicate n ⟨5, 0, 0, 0⟩) = (⟨0, 0⟩, h.Objects, h.Roots, whites t.1) ∧ t.1.length = h.Objects.length ∧ ∀ o : Int, 0 ≤ o → o < (h.Objects.length : Int) → (ix t.1 o = 0 ↔ ¬ Reach h.Objects h.Roots o) := by
  have hw := hf.wf
  obtain ⟨s, h1, h2, h3⟩ := mark_run hw b n 0 _ (start_ok hw) (start_mark hw)
  obtain ⟨b1, b2⟩ := hb
  obtain ⟨a1, a2, a3⟩ := allF_ind hw (fun s => Mark h.Objects h.Roots s) (fun s k1 k2 k3 => k2.step hw k1 k3) _ s (Nat.le_refl _) h2 h3
  refine ⟨allF h.Objects s, ?_, a1.len, mark_end hw h2 h3⟩
  unfold cycF
  rw [check_fine hf, show ((⟨0, 0⟩ : Fault).Code != 0) = false from rfl, cond_false, show (decide (b < 0) || decide ((3 : Int) < b)) = false from by simp; omega, cond_false, List.length_replicate, show decide ((5000 : Int) < (n : Int)) = false from by simp; omega, cond_false, h1]
  show (_, _, _, whites (endF b ⟨h.Objects, h.Roots, s⟩).1) = _
  have : endF b ⟨h.Objects, h.Roots, s⟩ = allF h.Objects s := by
    unfold endF
    cases b == 1 with
    | false => rfl
    | true =>
      rw [cond_true]
      dsimp only
      rw [shadeL_same a2.root, allF_nil a3]
  rw [this]
theorem stop_loop (h : GHeap) (b : Int) (n : Nat) (hn : n ≤ 1000) : loopO (taskmilllaw_SweepStopped_l1 h b n) (0, []) = ((sweep_Cycle h b (List.replicate n ⟨5, 0, 0, 0⟩)).bind fun r7757 => (bif (r7757.1.Code == 0) then ((taskmillref_SameHeap (GHeap.mk r7757.2.1 r7757.2.2.1) h).bind fun r7767 => (bif r7767 then ((taskmillref_Reached h).bind fun r7769 => ((taskmillref_Not r7769).bind fun r7770 => ((taskmillref_Ints r7757.2.2.2 r7770).bind fun r7771 => (taskmilllaw_SweepStopped_j1 r7771)))) else (taskmilllaw_SweepStopped_j1 false))) else (taskmilllaw_SweepStopped_j1 false))) := by
  refine Eq.trans ?_ (loopO_all (step := taskmilllaw_SweepStopped_l1 h b n) (fun i => (((i : Nat) : Int), List.replicate i (⟨5, 0, 0, 0⟩ : GAct))) _ n (fun i hi => ?_) ?_)
  · rfl
  · unfold taskmilllaw_SweepStopped_l1
    dsimp only
    rw [lt_n hi, wrap_n1 i (by omega), ← List.replicate_succ', List.length_replicate, show decide ((i + 1) * 32 ≤ 140737488355328) = true from by simp; omega]
    rfl
  · unfold taskmilllaw_SweepStopped_l1
    dsimp only
    rw [nlt_n]; rfl
theorem sweepStopped_true (h : GHeap) (b steps : Int) (hn : h.Objects.length ≤ 9223372036854775807) : taskmilllaw_SweepStopped h b steps = some true := by
  unfold taskmilllaw_SweepStopped
  rw [begun_eq]
  obtain ⟨v, hv, hsm⟩ := vast_ex h hn
  simp only [Option.bind_some, Bool.not_true, cond_false, hv]
  cases v with
  | true => rfl
  | false =>
  have hs := hsm rfl
  rw [cond_false, href_eq h hs, Option.bind_some]
  cases hc : (checkF h).Code != 0 with
  | true => rfl
  | false =>
  have hf := code_fine hc
  rw [cond_false]
  by_cases h0 : b < 0
  · rw [decide_eq_true h0]; rfl
  rw [decide_eq_false h0, cond_false]
  by_cases hb3 : (3 : Int) < b
  · rw [decide_eq_true hb3]; rfl
  rw [decide_eq_false hb3, cond_false]
  by_cases hs0 : steps < 0
  · rw [decide_eq_true hs0]; rfl
  rw [decide_eq_false hs0, cond_false]
  by_cases hs1 : (1000 : Int) < steps
  · rw [decide_eq_true hs1]; rfl
  rw [decide_eq_false hs1]
  unfold taskmilllaw_SweepStopped_j2
  rw [cond_false]
  obtain ⟨n, rfl⟩ : ∃ n : Nat, steps = (n : Int) := ⟨steps.toNat, by omega⟩
  rw [stop_loop h b n (by omega), cyc_eq h b _ hs (by rw [List.length_replicate]; omega), Option.bind_some]
  obtain ⟨t, e1, e2, e3⟩ := stop_end hf b ⟨by omega, by omega⟩ n (by omega)
  rw [e1]
  dsimp only
  obtain ⟨r, l1, l2⟩ := lost_set hf
  have hw := hf.wf
  have hwo := hw.o
  have hwl := whites_len t.1
  rw [show ((0 : Int) == 0) = true from rfl, cond_true, show (GHeap.mk h.Objects h.Roots) = h from rfl, same_eq h h hs, Option.bind_some, show decide (h = h) = true from by simp, cond_true]
  unfold taskmilllaw_SweepLost_1 at l1
  cases hR : taskmillref_Reached h with
  | none => rw [hR] at l1; cases l1
  | some c =>
    rw [hR, Option.bind_some] at l1
    rw [Option.bind_some]
    cases hN : taskmillref_Not c with
    | none => rw [hN] at l1; cases l1
    | some q =>
      rw [hN] at l1
      have hq : q = r := by simpa using l1
      subst hq
      rw [Option.bind_some, l2 t.1 e2 e3, ints_eq _ _ (by rw [← l2 t.1 e2 e3, ]; omega)]
      simp [taskmilllaw_SweepStopped_j1]
end Go.Proofs.Ytlfcicekappbfaa
end

section
namespace Go.Proofs.Ytlfcicekappbfaa
open Go Go.Sx
set_option linter.unusedVariables false
set_option linter.unusedSimpArgs false
/-- Which are black. -/
def bl (col : List Int) : List Bool := col.map (· == 2)
theorem bl_len (col : List Int) : (bl col).length = col.length := by simp [bl]
theorem bl_ix (col : List Int) {o : Int} (h0 : 0 ≤ o) (h : o < (col.length : Int)) : ix (bl col) o = (ix col o == 2) := by
  unfold ix bl
  rw [List.getD_eq_getElem?_getD, List.getD_eq_getElem?_getD, List.getElem?_map, List.getElem?_eq_getElem (by omega : o.toNat < col.length)]
  rfl
theorem bl_set (col : List Int) (k : Nat) (v : Int) : bl (col.set k v) = (bl col).set k (v == 2) := by simp [bl, List.map_set]
theorem bl_grey {col : List Int} {o : Int} (h0 : 0 ≤ o) (h : o < (col.length : Int)) (hz : ix col o ≠ 2) : bl (col.set o.toNat 1) = bl col := by
  rw [bl_set]
  have hk : o.toNat < (bl col).length := by rw [bl_len]; omega
  have e : (bl col)[o.toNat] = false := by
    have h1 := bl_ix col h0 h
    have h2 := ix_get (xs := bl col) (i := o.toNat) hk
    rw [show ((o.toNat : Nat) : Int) = o from by omega] at h2
    rw [← h2, h1]; simpa using hz
  rw [show ((1 : Int) == 2) = (bl col)[o.toNat] from by rw [e]; rfl, List.set_getElem_self]
theorem shade_ref {n : Nat} (hn : n ≤ 500) (O : LLi) (R : List Int) {s : Col} (h : Ok n s) {o : Int} (ho : o < (n : Int)) : taskmillref_Marking_shade_1 o O R (bl s.1) s.2 = some ((shadeO s o).2, O, R, bl (shadeO s o).1) := by
  have hl := h.len
  have hline := h.line
  unfold taskmillref_Marking_shade_1
  by_cases h0 : 0 ≤ o
  · have e1 : decide ((0 : Int) ≤ o) = true := by simpa using h0
    have e2 : decide (o < (((bl s.1).length : Nat) : Int)) = true := by rw [bl_len, hl]; simpa using ho
    rw [e1, e2, Bool.and_self, cond_true, cond_true, bl_ix s.1 h0 (by omega)]
    unfold taskmillref_Marking_shade_1_j1 shadeO
    rw [e1, Bool.true_and]
    rcases h.col o h0 ho with e | e | e
    · have hni : o ∉ s.2 := fun hm => by have := (h.rng o hm).2.2; omega
      rw [e, has_eq _ _ (by omega), show decide (o ∈ s.2) = false from by simpa using hni]
      have e3 : decide ((s.2 ++ ([o] : List Int)).length * 8 ≤ 140737488355328) = true := by rw [decide_eq_true_eq]; simp; omega
      have e4 := bl_grey (col := s.1) h0 (by omega) (by omega)
      simp only [show (!((0 : Int) == 2)) = true from rfl, show ((0 : Int) == 0) = true from rfl, cond_true, Option.bind_some, Bool.not_false, e3, e4]
    · have hm : o ∈ s.2 := h.grey o h0 ho e
      rw [e, has_eq _ _ (by omega), show decide (o ∈ s.2) = true from by simpa using hm]
      rfl
    · rw [e]; rfl
  · have e1 : decide ((0 : Int) ≤ o) = false := by simpa using h0
    rw [e1, cond_false]
    unfold taskmillref_Marking_shade_1_j1 shadeO
    rw [e1]; rfl
theorem drop_ix {α : Type} [Enc α] {xs : List α} {i : Nat} (hi : i < xs.length) : xs.drop i = ix xs (i : Int) :: xs.drop (i + 1) := by rw [ix_get hi]; exact List.drop_eq_getElem_cons hi
theorem roots_ref {n : Nat} (hn : n ≤ 500) (O : LLi) (R : List Int) (hr : ∀ x ∈ R, x < (n : Int)) (hR : R.length ≤ 1000000) {s : Col} (h : Ok n s) : taskmillref_Marking_roots_1 s.2 O R (bl s.1) = some ((shadeL R s).2, O, R, bl (shadeL R s).1) := by
  unfold taskmillref_Marking_roots_1
  refine loopO_up (step := taskmillref_Marking_roots_1_l1) R.length (fun i (s : Col) => (((i : Nat) : Int), O, R, bl s.1, s.2)) (fun _ s => Ok n s) (fun i s => some ((shadeL (R.drop i) s).2, O, R, bl (shadeL (R.drop i) s).1)) (fun s hs => ?_) (fun i s hi hs => ?_) s h
  · unfold taskmillref_Marking_roots_1_l1
    dsimp only
    rw [nlt_n, List.drop_length]; rfl
  · left
    have hx := hr _ (ix_mem (l := R) (j := (i : Int)) ⟨by omega, by omega⟩)
    refine ⟨shadeO s (ix R (i : Int)), ?_, hs.shadeO hx, by rw [drop_ix hi]; rfl⟩
    unfold taskmillref_Marking_roots_1_l1
    dsimp only
    rw [lt_n hi, ge_n, shade_ref hn O R hs hx, wrap_n1 i (by omega)]; rfl
theorem step_ref {O : LLi} {R : List Int} (hw : Wf O R) {s : Col} (h : Ok O.length s) : taskmillref_Marking_step_1 O R (bl s.1) s.2 = some ((markF O s).2, O, R, bl (markF O s).1) := by
  obtain ⟨col, line⟩ := s
  unfold taskmillref_Marking_step_1
  cases line with
  | nil => rfl
  | cons o r =>
    obtain ⟨a, b, c⟩ := h.rng o (by simp)
    have hlen : col.length = O.length := h.len
    have hline := h.line
    simp only [List.length_cons] at hline
    obtain ⟨f1, f2⟩ := hw.fldlt a b
    have e0 : ix (o :: r) (0 : Int) = o := rfl
    have e1 : ((((o :: r).length : Nat) : Int) == 0) = false := by simp; omega
    have e2 : decide ((0 : Int) < (((o :: r).length : Nat) : Int)) = true := by simp
    have e3 : decide ((1 : Int) ≤ (((o :: r).length : Nat) : Int)) = true := by simp; omega
    have e4 : decide ((0 : Int) ≤ o) = true := by simpa using a
    have e5 : decide (o < (((bl col).length : Nat) : Int)) = true := by rw [bl_len, hlen]; simpa using b
    have e6 : decide (o < ((O.length : Nat) : Int)) = true := by simpa using b
    have e7 : cut (o :: r) 1 (((o :: r).length : Nat) : Int) = r := by simp [cut]
    have ho := hw.o
    dsimp only
    rw [e1, e2, e3, e0, e4, e5, e7, Bool.and_self, cond_false, cond_true, cond_true, cond_true, show (bl col).set o.toNat true = bl (col.set o.toNat 2) from by rw [bl_set]; rfl]
    refine loopO_up (step := taskmillref_Marking_step_1_l1 (o :: r)) (ix O o).length (fun i (s : Col) => (((i : Nat) : Int), O, R, bl s.1, s.2)) (fun _ s => Ok O.length s) (fun i s => some ((shadeL ((ix O o).drop i) s).2, O, R, bl (shadeL ((ix O o).drop i) s).1)) (fun s hs => ?_) (fun i s hi hs => ?_) (col.set o.toNat 2, r) h.head
    · unfold taskmillref_Marking_step_1_l1
      dsimp only
      rw [e0, e4, e6, ixD_pos a, nlt_n, List.drop_length]; rfl
    · left
      have hx := (f2 _ (ix_mem (l := ix O o) (j := (i : Int)) ⟨by omega, by omega⟩)).2
      refine ⟨shadeO s (ix (ix O o) (i : Int)), ?_, hs.shadeO hx, by rw [drop_ix hi]; rfl⟩
      unfold taskmillref_Marking_step_1_l1
      dsimp only
      rw [e0, e4, e6, ixD_pos a, lt_n hi, ge_n, shade_ref ho O R hs hx, wrap_n1 i (by omega)]; rfl
theorem valF_two (R : List Int) (c : Int) : (valF R c).2 = (decide ((-1 : Int) ≤ c) && decide (c < (R.length : Int))) := by
  unfold valF
  by_cases h : c = -1
  · subst h; simp; omega
  · rw [show (c == -1) = false from by simpa using h, cond_false]
    unfold regOk
    by_cases h1 : 0 ≤ c
    · rw [decide_eq_true h1, decide_eq_true (show (-1 : Int) ≤ c by omega)]
      simp only [Bool.true_and]
      cases decide (c < (R.length : Int)) <;> rfl
    · rw [decide_eq_false h1, decide_eq_false (show ¬ (-1 : Int) ≤ c by omega)]; rfl
theorem there_eq {O : LLi} {R : List Int} (hw : Wf O R) (a b : Int) (c : List Bool) (l : List Int) : taskmillref_Marking_there ⟨O, R, c, l⟩ a b = some (slotOk O R a b) := by
  unfold taskmillref_Marking_there slotOk regOk
  dsimp only
  cases h : regOk R a with
  | false =>
    rw [show (decide ((0 : Int) ≤ a) && decide (a < (R.length : Int))) = false from h]
    have : ∀ t : Bool, (decide ((0 : Int) ≤ a) && (decide (a < (R.length : Int)) && t)) = false := fun t => by rw [← Bool.and_assoc, show (decide ((0 : Int) ≤ a) && decide (a < (R.length : Int))) = false from h]; rfl
    simp [this]
  | true =>
    rw [show (decide ((0 : Int) ≤ a) && decide (a < (R.length : Int))) = true from h]
    obtain ⟨h1, h2⟩ := regOk_d h
    obtain ⟨g1, g2⟩ := hw.root _ (ix_mem (regOk_t h))
    have e : decide (ix R a < ((O.length : Nat) : Int)) = true := by simpa using g2
    rw [h1, h2, e]
    cases decide ((0 : Int) ≤ ix R a) <;> cases decide ((0 : Int) ≤ b) <;> rfl
theorem act_l1 {x : GAct} {m : Mc} (hA : regOk m.R x.A = true) (h0 : 0 ≤ x.B) (hB : x.B ≤ 20) (hO : m.O.length ≤ 500) (hc : m.s.1.length ≤ 500) : loopO (taskmillref_Marking_act_1_l1 x m.O m.R (bl m.s.1) m.s.2) (0, []) = some (0, (newF x m).O, bl (newF x m).s.1, (newF x m).s.2, (newF x m).R) := by
  obtain ⟨n, hn⟩ : ∃ n : Nat, x.B = (n : Int) := ⟨x.B.toNat, by omega⟩
  refine Eq.trans ?_ (loopO_all (step := taskmillref_Marking_act_1_l1 x m.O m.R (bl m.s.1) m.s.2) (fun k => (((k : Nat) : Int), List.replicate k (-1 : Int))) (some (0, (newF x m).O, bl (newF x m).s.1, (newF x m).s.2, (newF x m).R)) n (fun k hk => ?_) ?_)
  · rfl
  · unfold taskmillref_Marking_act_1_l1
    dsimp only
    rw [hn, lt_n hk, wrap_n1 k (by omega), ← List.replicate_succ', List.length_replicate, show decide ((k + 1) * 8 ≤ 140737488355328) = true from by simp; omega]
    rfl
  · unfold taskmillref_Marking_act_1_l1
    dsimp only
    obtain ⟨h1, h2⟩ := regOk_d hA
    have e1 : decide ((m.O ++ [List.replicate n (-1 : Int)]).length * 24 ≤ 140737488355328) = true := by rw [decide_eq_true_eq]; simp; omega
    have e2 : decide ((bl m.s.1 ++ ([true] : List Bool)).length * 1 ≤ 140737488355328) = true := by rw [decide_eq_true_eq]; simp [bl_len]; omega
    rw [hn, nlt_n, cond_false, h1, h2, e1, e2]
    unfold newF taskmillref_Marking_act_1_j1
    dsimp only
    rw [hn]
    simp [bl]
theorem act_ref {b : Int} (hb : bits b) (x : GAct) {m : Mc} (h : Good m) : taskmillref_Marking_act_1 x b m.O m.R (bl m.s.1) m.s.2 = some ((actF b x m).1, (actF b x m).2.O, bl (actF b x m).2.s.1, (actF b x m).2.s.2, (actF b x m).2.R) := by
  have hO := h.wf.o
  have hcl := h.ok.len
  have hln := h.ok.line
  unfold taskmillref_Marking_act_1 actF
  cases x.Op == 1 with
  | true =>
    rw [cond_true, cond_true, there_eq h.wf, Option.bind_some]
    unfold taskmillref_Marking_act_1_j4
    cases hs : slotOk m.O m.R x.A x.B with
    | false => rfl
    | true =>
      simp only [Bool.not_true, cond_false, Bool.true_and]
      rw [← valF_two]
      cases hv : (valF m.R x.C).2 with
      | false => rfl
      | true =>
        obtain ⟨k1, k2, k3, k4⟩ := slotOk_t hs
        obtain ⟨g1, g2⟩ := h.wf.root _ (ix_mem k1)
        obtain ⟨f1, f2⟩ := h.wf.fldlt k2 g2
        obtain ⟨v1, v2⟩ := valF_lt h.wf x.C hv
        have hold := f2 _ (ix_mem (l := ix m.O (ix m.R x.A)) (j := x.B) ⟨k3, k4⟩)
        have e1 : decide ((0 : Int) ≤ x.B) = true := by simpa using k3
        have e2 : decide (x.B < (((ix m.O (ix m.R x.A)).length : Nat) : Int)) = true := by simpa using k4
        have e3 : decide ((0 : Int) ≤ ix m.R x.A) = true := by simpa using k2
        have e4 : decide (ix m.R x.A < ((m.O.length : Nat) : Int)) = true := by simpa using g2
        have r1 : decide ((0 : Int) ≤ x.A) = true := by simpa using k1.1
        have r2 : decide (x.A < ((m.R.length : Nat) : Int)) = true := by simpa using k1.2
        have j2 : ∀ s : Col, Ok m.O.length s → taskmillref_Marking_act_1_j2 x b m.R (valF m.R x.C).1 m.O m.R (bl s.1) s.2 = some (0, m.O.set (ix m.R x.A).toNat ((ix m.O (ix m.R x.A)).set x.B.toNat (valF m.R x.C).1), bl (bif bitE b 1 then shadeO s (valF m.R x.C).1 else s).1, (bif bitE b 1 then shadeO s (valF m.R x.C).1 else s).2, m.R) := fun s hs => by
          unfold taskmillref_Marking_act_1_j2
          rw [ixD_pos k2, e1, e2, e3, e4, bit1 hb]
          simp only [Bool.and_self, cond_true]
          cases Int.tmod b 2 == 1 with
          | false => rfl
          | true =>
            rw [cond_true, shade_ref hO _ _ hs v2]
            rfl
        have j3 : taskmillref_Marking_act_1_j3 x b m.O m.R (bl m.s.1) m.s.2 (valF m.R x.C).1 = some (0, (writeF b x m).O, bl (writeF b x m).s.1, (writeF b x m).s.2, m.R) := by
          unfold taskmillref_Marking_act_1_j3
          rw [← bit2 hb]
          cases hb2 : bitE b 2 with
          | false => rw [cond_false, j2 _ h.ok]; unfold writeF; rw [hb2]; rfl
          | true =>
            rw [ixD_pos k2, e1, e2, e3, e4]
            simp only [Bool.and_self, cond_true]
            rw [shade_ref hO _ _ h.ok hold.2, Option.bind_some]
            dsimp only
            rw [j2 _ (h.ok.shadeO hold.2)]
            unfold writeF; rw [hb2]; rfl
        simp only [Bool.not_true, cond_false, cond_true, r1, r2, Bool.and_self]
        -- the value
        unfold valF at hv j3
        by_cases hc : x.C = -1
        · rw [show (x.C == -1) = true from by simpa using hc] at j3
          rw [show decide ((0 : Int) ≤ x.C) = false from by simp; omega, cond_false]
          exact j3
        · rw [show (x.C == -1) = false from by simpa using hc, cond_false] at j3 hv
          cases hk : regOk m.R x.C with
          | false => rw [hk] at hv; cases hv
          | true =>
            obtain ⟨c1, c2⟩ := regOk_d hk
            rw [hk] at j3
            rw [c1, c2]
            exact j3
  | false =>
  rw [cond_false, cond_false]
  cases x.Op == 2 with
  | true =>
    rw [cond_true, cond_true, there_eq h.wf, Option.bind_some]
    unfold taskmillref_Marking_act_1_j5
    cases hs : slotOk m.O m.R x.C x.B with
    | false => rfl
    | true =>
      simp only [Bool.not_true, cond_false, Bool.true_and]
      cases ha : regOk m.R x.A with
      | false => rw [show (decide ((0 : Int) ≤ x.A) && decide (x.A < ((m.R.length : Nat) : Int))) = false from ha]; rfl
      | true =>
        rw [show (decide ((0 : Int) ≤ x.A) && decide (x.A < ((m.R.length : Nat) : Int))) = true from ha]
        obtain ⟨k1, k2, k3, k4⟩ := slotOk_t hs
        obtain ⟨g1, g2⟩ := h.wf.root _ (ix_mem k1)
        have e1 : decide ((0 : Int) ≤ x.B) = true := by simpa using k3
        have e2 : decide (x.B < (((ix m.O (ix m.R x.C)).length : Nat) : Int)) = true := by simpa using k4
        have e3 : decide ((0 : Int) ≤ ix m.R x.C) = true := by simpa using k2
        have e4 : decide (ix m.R x.C < ((m.O.length : Nat) : Int)) = true := by simpa using g2
        have r1 : decide ((0 : Int) ≤ x.C) = true := by simpa using k1.1
        have r2 : decide (x.C < ((m.R.length : Nat) : Int)) = true := by simpa using k1.2
        simp only [Bool.not_true, cond_false]
        rw [ixD_pos k2, e1, e2, e3, e4, r1, r2]; rfl
  | false =>
  rw [cond_false, cond_false]
  cases x.Op == 3 with
  | true =>
    rw [cond_true, cond_true, ← valF_two]
    cases ha : regOk m.R x.A with
    | false =>
      rw [show (decide ((0 : Int) ≤ x.A) && decide (x.A < ((m.R.length : Nat) : Int))) = false from ha]
      cases (valF m.R x.C).2 <;> rfl
    | true =>
      rw [show (decide ((0 : Int) ≤ x.A) && decide (x.A < ((m.R.length : Nat) : Int))) = true from ha]
      cases hv : (valF m.R x.C).2 with
      | false => rfl
      | true =>
        cases hB : x.B != 0 with
        | true => rfl
        | false =>
          simp only [Bool.not_true, Bool.or_self, Bool.not_false, Bool.and_self, cond_false, cond_true]
          have j6 : taskmillref_Marking_act_1_j6 x m.O m.R (bl m.s.1) m.s.2 (valF m.R x.C).1 = some (0, m.O, bl m.s.1, m.s.2, m.R.set x.A.toNat (valF m.R x.C).1) := by
            unfold taskmillref_Marking_act_1_j6
            rw [show (decide ((0 : Int) ≤ x.A) && decide (x.A < ((m.R.length : Nat) : Int))) = true from ha]; rfl
          unfold valF at hv j6
          by_cases hc : x.C = -1
          · rw [show (x.C == -1) = true from by simpa using hc] at j6
            rw [show decide ((0 : Int) ≤ x.C) = false from by simp; omega, cond_false]
            unfold valF
            rw [show (x.C == -1) = true from by simpa using hc]
            exact j6
          · rw [show (x.C == -1) = false from by simpa using hc, cond_false] at j6 hv
            cases hk : regOk m.R x.C with
            | false => rw [hk] at hv; cases hv
            | true =>
              obtain ⟨c1, c2⟩ := regOk_d hk
              rw [hk] at j6
              rw [c1, c2]
              unfold valF
              rw [show (x.C == -1) = false from by simpa using hc, hk]
              exact j6
  | false =>
  rw [cond_false, cond_false]
  cases x.Op == 4 with
  | true =>
    rw [cond_true, cond_true]
    cases ha : regOk m.R x.A with
    | false =>
      rw [show (decide ((0 : Int) ≤ x.A) && decide (x.A < ((m.R.length : Nat) : Int))) = false from ha]; rfl
    | true =>
      rw [show (decide ((0 : Int) ≤ x.A) && decide (x.A < ((m.R.length : Nat) : Int))) = true from ha]
      cases hb : decide (x.B < 0) with
      | true => rfl
      | false =>
        cases hb2 : decide ((20 : Int) < x.B) with
        | true => rfl
        | false =>
          cases x.C != 0 with
          | true => rfl
          | false =>
            simp only [Bool.not_true, Bool.not_false, Bool.and_self, Bool.or_self, cond_false, cond_true]
            cases h5 : (((m.O.length : Nat) : Int) == 500) with
            | true => rfl
            | false =>
              rw [decide_eq_false_iff_not] at hb hb2
              simp only [cond_false]
              exact act_l1 ha (by omega) (by omega) hO (by omega)
  | false =>
  rw [cond_false, cond_false]
  cases x.Op == 5 with
  | true =>
    rw [cond_true, cond_true]
    cases (x.A != 0) || ((x.B != 0) || (x.C != 0)) with
    | true => rfl
    | false =>
      rw [cond_false, step_ref h.wf h.ok, Option.bind_some]; rfl
  | false => rfl
theorem not_ref {n : Nat} (hn : n ≤ 500) {s : Col} (h : Ok n s) (hl : s.2 = []) : taskmillref_Not (bl s.1) = some (whites s.1) := by
  have hlen := h.len
  rw [not_eq _ (by rw [bl_len]; omega)]
  unfold whites
  rw [bl_len]
  congr 1
  refine pick_congr fun i hi => ?_
  rw [bl_ix s.1 (by omega) (by omega)]
  rcases h.col (i : Int) (by omega) (by omega) with e | e | e
  · rw [e]; rfl
  · have := h.grey (i : Int) (by omega) (by omega) e; rw [hl] at this; cases this
  · rw [e]; rfl
theorem mark_loop {O : LLi} {R : List Int} (hw : Wf O R) {ρ : Type} {step : LLi × List Int × List Bool × List Int → Option ((LLi × List Int × List Bool × List Int) ⊕ ρ)} (rest : Col → Option ρ)
    (hgo : ∀ s : Col, Ok O.length s → s.2 ≠ [] → step (O, R, bl s.1, s.2) = some (.inl (O, R, bl (markF O s).1, (markF O s).2)))
    (hend : ∀ s : Col, Ok O.length s → s.2 = [] → step (O, R, bl s.1, s.2) = (rest s).map .inr) : ∀ (n : Nat) (s : Col), nb s ≤ n → Ok O.length s → loopO step (O, R, bl s.1, s.2) = rest (allF O s) := by
  intro n
  induction n with
  | zero =>
    intro s hn hs
    by_cases hl : s.2 = []
    · rw [loopO_out (hend s hs hl), allF_nil hl]
    · have := markF_nb hw hs hl; omega
  | succ n ih =>
    intro s hn hs
    by_cases hl : s.2 = []
    · rw [loopO_out (hend s hs hl), allF_nil hl]
    · rw [allF_step hw hs hl, ← ih (markF O s) (by have := markF_nb hw hs hl; omega) (hs.markF hw)]
      exact loopO_inl (hgo s hs hl)
theorem pos_len {l : List Int} (h : l ≠ []) : decide ((0 : Int) < ((l.length : Nat) : Int)) = true := by have := List.length_pos_iff.2 h; simpa using this
theorem cycled_j1 {O : LLi} {R : List Int} (hw : Wf O R) {s : Col} (hs : Ok O.length s) (hl : s.2 = []) : taskmillref_Cycled_j1 O R (bl s.1) s.2 = some (⟨0, 0⟩, O, R, whites s.1) := by
  unfold taskmillref_Cycled_j1
  rw [not_ref hw.o hs hl]; rfl
theorem cycled_l1 {O : LLi} {R : List Int} (hw : Wf O R) {s : Col} (h : Ok O.length s) : loopO taskmillref_Cycled_l1 (O, R, bl s.1, s.2) = some (⟨0, 0⟩, O, R, whites (allF O s).1) := by
  refine mark_loop hw (step := taskmillref_Cycled_l1) (fun s => some (⟨0, 0⟩, O, R, whites s.1)) (fun s hs hl => ?_) (fun s hs hl => ?_) _ s (Nat.le_refl _) h
  · unfold taskmillref_Cycled_l1
    dsimp only
    rw [pos_len hl, cond_true, step_ref hw hs]; rfl
  · unfold taskmillref_Cycled_l1
    dsimp only
    rw [cycled_j1 hw hs hl, hl]; rfl
theorem cycled_l2 (b : Int) {m : Mc} (h : Good m) : loopO (taskmillref_Cycled_l2 b) (m.O, m.R, bl m.s.1, m.s.2) = some (resF b (.inr m)) := by
  have hw := h.wf
  have a2 := allF_ok hw h.ok
  have := mark_loop hw (step := taskmillref_Cycled_l2 b) (fun s => bif b == 1 then some (⟨0, 0⟩, m.O, m.R, whites (allF m.O (shadeL m.R s)).1) else some (⟨0, 0⟩, m.O, m.R, whites s.1)) (fun s hs hl => ?_) (fun s hs hl => ?_) _ m.s (Nat.le_refl _) h.ok
  · rw [this]
    unfold resF endF
    cases b == 1 <;> rfl
  · unfold taskmillref_Cycled_l2
    dsimp only
    rw [pos_len hl, cond_true, step_ref hw hs]; rfl
  · unfold taskmillref_Cycled_l2
    dsimp only
    rw [cycled_j1 hw hs hl, roots_ref hw.o m.O m.R (fun x hx => (hw.root x hx).2) (by have := hw.r; omega) hs, show decide ((0 : Int) < ((s.2.length : Nat) : Int)) = false from by rw [hl]; rfl, cond_false]
    congr 1
    cases b == 1 with
    | false => rfl
    | true => exact cycled_l1 hw (hs.shadeL fun x hx => (hw.root x hx).2)
theorem cycled_l3 {b : Int} (hb : bits b) (acts : List GAct) (ha : acts.length ≤ 1000000) {m : Mc} (h : Good m) : loopO (taskmillref_Cycled_l3 b acts) (0, m.O, m.R, bl m.s.1, m.s.2) = some (resF b (runF b 0 acts m)) := by
  refine loopO_up (step := taskmillref_Cycled_l3 b acts) acts.length (fun i (m : Mc) => (((i : Nat) : Int), m.O, m.R, bl m.s.1, m.s.2)) (fun _ m => Good m) (fun i m => some (resF b (runF b i (acts.drop i) m))) (fun m hm => ?_) (fun i m hi hm => ?_) m h
  · unfold taskmillref_Cycled_l3
    dsimp only
    rw [nlt_n, cond_false, cycled_l2 b hm, List.drop_length]; rfl
  · unfold taskmillref_Cycled_l3
    dsimp only
    rw [lt_n hi, ge_n, ix_get hi, act_ref hb _ hm, wrap_n1 i (by omega), drop_at hi, show runF b i (acts[i] :: acts.drop (i + 1)) m = (bif (actF b acts[i] m).1 != 0 then .inl ⟨(actF b acts[i] m).1, (i : Int)⟩ else runF b (i + 1) (acts.drop (i + 1)) (actF b acts[i] m).2) from rfl]
    simp only [Bool.and_self, cond_true, Option.bind_some]
    cases hc2 : (actF b acts[i] m).1 != 0 with
    | true => right; rfl
    | false => left; exact ⟨(actF b acts[i] m).2, rfl, hm.act, rfl⟩
theorem bl_rep (n : Nat) : bl (List.replicate n 0) = List.replicate n (default : Bool) := by simp [bl]
theorem cycled_eq {h : GHeap} (hf : Fine h) {b : Int} (hb : bits b) (acts : List GAct) (ha : acts.length ≤ 1000000) : taskmillref_Cycled h b acts = some (resF b (runF b 0 acts ⟨h.Objects, h.Roots, startF h.Objects h.Roots⟩)) := by
  have ho := hf.o; have hr := hf.r
  have hw := hf.wf
  unfold taskmillref_Cycled
  rw [show decide (h.Roots.length * 8 ≤ 140737488355328) = true from by simp; omega, cond_true]
  rw [show decide ((0 : Int) ≤ ((h.Objects.length : Nat) : Int) ∧ ((h.Objects.length : Nat) : Int) ≤ 4611686018427387904 ∧ (1 : Int) * ((h.Objects.length : Nat) : Int) ≤ 140737488355328) = true from by rw [decide_eq_true_eq]; omega, cond_true]
  refine Eq.trans ?_ (loopO_all (step := taskmillref_Cycled_l4 h b acts) (fun i => (((i : Nat) : Int), h.Objects.take i)) _ h.Objects.length (fun i hi => ?_) ?_)
  · rfl
  · unfold taskmillref_Cycled_l4
    dsimp only
    have hl := (hf.fld _ (List.getElem_mem hi)).1
    have e : h.Objects.take i ++ [h.Objects[i]] = h.Objects.take (i + 1) := by rw [List.take_succ_eq_append_getElem hi]
    rw [lt_n hi, ge_n, ix_get hi, wrap_n1 i (by omega), e, show decide (h.Objects[i].length * 8 ≤ 140737488355328) = true from by simp; omega]
    have hl2 : decide ((h.Objects.take (i + 1)).length * 24 ≤ 140737488355328) = true := by
      rw [decide_eq_true_eq, List.length_take]; omega
    rw [hl2]; rfl
  · unfold taskmillref_Cycled_l4
    dsimp only
    rw [nlt_n, cond_false, List.take_length, show (((h.Objects.length : Nat) : Int)).toNat = h.Objects.length from by simp, ← bl_rep]
    have := roots_ref ho h.Objects h.Roots (fun x hx => (hw.root x hx).2) (by omega) (Ok.white h.Objects.length)
    dsimp only at this
    rw [this, Option.bind_some]
    dsimp only
    rw [show (shadeL h.Roots (List.replicate h.Objects.length 0, [])) = startF h.Objects h.Roots from rfl]
    exact congrArg _ (cycled_l3 hb acts ha (start_good hf))
/-! ### The law -/
theorem cyc_j4 (h : GHeap) (hs : Small h) (r : Fault × LLi × List Int × List Int) (hr : r.1.Code ≠ 0 → r = (r.1, [], [], [])) (h1 : r.2.1.length ≤ 1000) (h2 : r.2.2.1.length ≤ 1000) (h3 : ∀ x ∈ r.2.1, x.length ≤ 1000) (h4 : r.2.2.2.length ≤ 1000000) (c : Fault) (hc : c = r.1) :
    taskmilllaw_SweepCycles_j4 h h r.2.2.2 r.1 r.2.1 r.2.2.1 c (bif r.1.Code != 0 then [] else r.2.2.2) (bif r.1.Code != 0 then [] else r.2.1) (bif r.1.Code != 0 then [] else r.2.2.1) = some true := by
  subst hc
  unfold taskmilllaw_SweepCycles_j4
  rw [show (!((r.1.Code == r.1.Code) && ((r.1.At == r.1.At) && true))) = false from by simp, cond_false, same_eq h h hs, Option.bind_some, show (!(decide (h = h))) = false from by simp]
  unfold taskmilllaw_SweepCycles_j3
  rw [cond_false]
  cases hk : r.1.Code != 0 with
  | true =>
    have := hr (by simpa using hk)
    rw [this]
    rw [cond_true, same_eq _ _ ⟨by simp, by simp, by simp⟩]
    rfl
  | false =>
    simp only [cond_false]
    rw [same_eq _ _ ⟨h1, h2, h3⟩, Option.bind_some, show decide (GHeap.mk r.2.1 r.2.2.1 = GHeap.mk r.2.1 r.2.2.1) = true from by simp, cond_true, ints_eq _ _ (by omega)]
    simp [taskmilllaw_SweepCycles_j2]
theorem sweepCycles_true (h : GHeap) (b : Int) (acts : List GAct) (hn : h.Objects.length ≤ 9223372036854775807) : taskmilllaw_SweepCycles h b acts = some true := by
  unfold taskmilllaw_SweepCycles
  rw [begun_eq]
  obtain ⟨v, hv, hsm⟩ := vast_ex h hn
  simp only [Option.bind_some, Bool.not_true, cond_false, hv]
  cases v with
  | true => rfl
  | false =>
  have hs := hsm rfl
  rw [cond_false]
  by_cases ha : (6000 : Int) < (acts.length : Int)
  · rw [decide_eq_true ha]; rfl
  rw [decide_eq_false ha]
  unfold taskmilllaw_SweepCycles_j7
  rw [cond_false, ownHeap_eq h hs, Option.bind_some, show decide (acts.length * 32 ≤ 140737488355328) = true from by simp; omega, cond_true]
  dsimp only
  rw [show (GHeap.mk h.Objects h.Roots) = h from rfl, cyc_eq h b acts hs (by omega), href_eq h hs]
  simp only [Option.bind_some]
  cases hc : (checkF h).Code != 0 with
  | true =>
    have he : cycF h b acts = (checkF h, [], [], []) := by unfold cycF; rw [hc]; rfl
    have hz : ((checkF h).Code == 0) = false := by simpa using hc
    rw [he, hz, Bool.false_and, cond_false]
    unfold taskmilllaw_SweepCycles_j6
    rw [hz, Bool.false_and, cond_false]
    unfold taskmilllaw_SweepCycles_j5
    rw [hz, cond_false]
    have := cyc_j4 h hs (checkF h, [], [], []) (fun _ => rfl) (by simp) (by simp) (by simp) (by simp) _ rfl
    dsimp only at this
    rw [hc] at this
    exact this
  | false =>
    have hf := code_fine hc
    have hz : ((checkF h).Code == 0) = true := by simpa using hc
    rw [hz, Bool.true_and]
    cases hb : decide (b < 0) || decide ((3 : Int) < b) with
    | true =>
      have he : cycF h b acts = (⟨4, -1⟩, [], [], []) := by unfold cycF; rw [hc, hb]; rfl
      rw [he, cond_true, F_eq, Option.bind_some]
      exact cyc_j4 h hs (⟨4, -1⟩, [], [], []) (fun _ => rfl) (by simp) (by simp) (by simp) (by simp) _ rfl
    | false =>
      rw [cond_false]
      unfold taskmilllaw_SweepCycles_j6
      rw [hz, Bool.true_and]
      cases hm : decide ((5000 : Int) < (acts.length : Int)) with
      | true =>
        have he : cycF h b acts = (⟨2, -1⟩, [], [], []) := by unfold cycF; rw [hc, hb, hm]; rfl
        rw [he, cond_true, F_eq, Option.bind_some]
        exact cyc_j4 h hs (⟨2, -1⟩, [], [], []) (fun _ => rfl) (by simp) (by simp) (by simp) (by simp) _ rfl
      | false =>
        have he : cycF h b acts = resF b (runF b 0 acts ⟨h.Objects, h.Roots, startF h.Objects h.Roots⟩) := by unfold cycF; rw [hc, hb, hm]; rfl
        have hbb : bits b := by simp at hb; exact ⟨by omega, by omega⟩
        have ha5 : acts.length ≤ 5000 := by simp at hm; omega
        rw [cond_false]
        unfold taskmilllaw_SweepCycles_j5
        rw [hz, cond_true, cycled_eq hf hbb acts (by omega), Option.bind_some, ← he]
        rcases cyc_cases h b hbb acts ha5 with hk | ⟨_, m, hr, hk⟩
        · have hnil : cycF h b acts = ((cycF h b acts).1, [], [], []) := by
            rw [he] at hk ⊢
            cases hr : runF b 0 acts ⟨h.Objects, h.Roots, startF h.Objects h.Roots⟩ with
            | inl f => rfl
            | inr m => rw [hr] at hk; exact absurd rfl hk
          have := cyc_j4 h hs (cycF h b acts) (fun _ => hnil) (by rw [hnil]; simp) (by rw [hnil]; simp) (by rw [hnil]; simp) (by rw [hnil]; simp) _ rfl
          rw [show ((cycF h b acts).1.Code != 0) = true from by simpa using hk] at this
          rw [hnil] at this ⊢
          exact this
        · have hg := runF_good (start_good hf) hr
          have hft := Small.of_fine (runF_tidy hf hr)
          obtain ⟨o1, o2⟩ := end_ok (b := b) hg
          have hwl := whites_len (endF b m).1
          have ho := hg.wf.o
          have := cyc_j4 h hs (⟨0, 0⟩, m.O, m.R, whites (endF b m).1) (fun h => absurd rfl h) hft.o hft.r hft.f (by rw [o1.len] at hwl; exact Nat.le_trans hwl (by omega)) _ rfl
          rw [hk]
          exact this
end Go.Proofs.Ytlfcicekappbfaa
end
