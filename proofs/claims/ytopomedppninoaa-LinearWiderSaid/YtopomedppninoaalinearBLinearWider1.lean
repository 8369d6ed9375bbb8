/-
 Lemmas, put together: QA, QB, QC, linearP, linearP2, linearP3, linearP4, linearP5, linearP6, linearP7, linearP8, linearP9.
 No conditions.
-/
import Derived.Test.YtopomedppninoaalinearA3
import Derived.Test.YtopomedppninoaalinearG
set_option linter.unusedSimpArgs false
set_option linter.unusedVariables false
section
namespace Go.Sx
open Go
set_option linter.unusedVariables false
theorem wrap_id {x : Int} (h1 : -9223372036854775808 ≤ x) (h2 : x ≤ 9223372036854775807) : IntKind.i64.wrap x = x := by
 simp only [IntKind.wrap, IntKind.bits, IntKind.signed, if_true]
 simp
 omega
theorem wrap_n1 (i : Nat) (h : i < 4611686018427387904) : IntKind.i64.wrap ((i : Int) + 1) = ((i + 1 : Nat) : Int) := by
 rw [wrap_id (by omega) (by omega)]; rfl
theorem loopO_inv {S ρ : Type} {step : S → Option (S ⊕ ρ)} (I : S → Prop) (mu : S → Nat) (Post : ρ → Prop)
  (hs : ∀ s, I s → (∃ s', step s = some (.inl s') ∧ I s' ∧ mu s' < mu s) ∨ (∃ r, step s = some (.inr r) ∧ Post r)) {s0 : S} (h0 : I s0) : ∃ r, loopO step s0 = some r ∧ Post r := by
 have gen : ∀ (n : Nat) (s : S), mu s ≤ n → I s → ∃ r, loopO step s = some r ∧ Post r := by
  intro n
  induction n with
  | zero =>
   intro s hm hi
   rcases hs s hi with ⟨s', _, _, h3⟩ | ⟨r, h1, h2⟩
   ·omega
   ·exact ⟨r, loopO_inr h1, h2⟩
  | succ n ih =>
   intro s hm hi
   rcases hs s hi with ⟨s', h1, h2, h3⟩ | ⟨r, h1, h2⟩
   ·rw [loopO_inl h1]; exact ih s' (by omega) h2
   ·exact ⟨r, loopO_inr h1, h2⟩
 exact gen _ s0 (Nat.le_refl _) h0
def firstAt {β : Type} (bad : Nat → Option β) : Nat → Option β
 | 0 => none
 | n + 1 => (firstAt bad n).or (bad n)
theorem firstAt_none {β : Type} {f : Nat → Option β} : ∀ (n : Nat), firstAt f n = none ↔ ∀ i, i < n → f i = none
 | 0 => by simp [firstAt]
 | n + 1 => by
  simp only [firstAt, Option.or_eq_none_iff, firstAt_none n]
  constructor
  ·rintro ⟨h1, h2⟩ i hi
   by_cases h : i = n
   ·subst h; exact h2
   ·exact h1 i (by omega)
  ·exact fun h => ⟨fun i hi => h i (by omega), h n (by omega)⟩
theorem firstAt_some {β : Type} {f : Nat → Option β} {b : β} : ∀ (n : Nat), firstAt f n = some b → ∃ i, i < n ∧ f i = some b ∧ ∀ j, j < i → f j = none
 | 0, h => by simp [firstAt] at h
 | n + 1, h => by
  simp only [firstAt] at h
  cases hf : firstAt f n with
  | some c =>
   rw [hf] at h
   obtain ⟨i, h1, h2, h3⟩ := firstAt_some n hf
   simp only [Option.some_or] at h
   exact ⟨i, by omega, by rw [h2, h], h3⟩
  | none =>
   rw [hf] at h
   simp only [Option.none_or] at h
   exact ⟨n, by omega, h, fun j hj => (firstAt_none n).1 hf j hj⟩
theorem loopO_find {S ρ : Type} {step : S → Option (S ⊕ ρ)} (E : Nat → S) (bad : Nat → Option ρ) (rest : Option ρ) (n : Nat)
  (h1 : ∀ i, i < n → bad i = none → step (E i) = some (.inl (E (i + 1)))) (h2 : ∀ i r, i < n → bad i = some r → step (E i) = some (.inr r)) (h3 : (∀ i, i < n → bad i = none) → step (E n) = rest.map .inr) :
  loopO step (E 0) = match firstAt bad n with
   | some r => some r
   | none => rest := by
 have walk : ∀ k, k ≤ n → (∀ i, i < k → bad i = none) → loopO step (E 0) = loopO step (E k) := by
  intro k
  induction k with
  | zero => exact fun _ _ => rfl
  | succ k ih =>
   intro hk hb
   rw [ih (by omega) fun i hi => hb i (by omega), loopO_inl (h1 k (by omega) (hb k (by omega)))]
 cases hf : firstAt bad n with
 | none =>
  have hb := (firstAt_none n).1 hf
  rw [walk n (Nat.le_refl _) hb, loopO_out (h3 hb)]
 | some r =>
  obtain ⟨i, g1, g2, g3⟩ := firstAt_some n hf
  rw [walk i (by omega) g3, loopO_inr (h2 i r g1 g2)]
theorem loopO_findD {S ρ : Type} {step : S → Option (S ⊕ ρ)} (E : Nat → S) (bad : Nat → Option ρ) (d : ρ) (n : Nat)
  (h1 : ∀ i, i < n → bad i = none → step (E i) = some (.inl (E (i + 1)))) (h2 : ∀ i r, i < n → bad i = some r → step (E i) = some (.inr r)) (h3 : (∀ i, i < n → bad i = none) → step (E n) = some (.inr d)) :
  loopO step (E 0) = some ((firstAt bad n).getD d) := by
 rw [loopO_find E bad (some d) n h1 h2 (fun h => by rw [h3 h]; rfl)]
 cases firstAt bad n <;> rfl
theorem loopO_all {S ρ : Type} {step : S → Option (S ⊕ ρ)} (E : Nat → S) (rest : Option ρ) (n : Nat)
  (h1 : ∀ i, i < n → step (E i) = some (.inl (E (i + 1)))) (h3 : step (E n) = rest.map .inr) : loopO step (E 0) = rest := by
 have := loopO_find E (fun _ => none) rest n (fun i hi _ => h1 i hi) (fun i r _ h => by cases h) (fun _ => h3)
 rw [this, (firstAt_none n).2 fun _ _ => rfl]
theorem ix_get {α : Type} [Enc α] {xs : List α} {i : Nat} (h : i < xs.length) : ix xs ((i : Nat) : Int) = xs[i] := by
 simp [ix, List.getD_eq_getElem?_getD, h]
theorem cut_take {α : Type} (xs : List α) (i : Nat) : cut xs 0 ((i : Nat) : Int) = xs.take i := by simp [cut]
theorem cut_drop {α : Type} (xs : List α) (i : Nat) : cut xs ((i : Nat) : Int) ((xs.length : Nat) : Int) = xs.drop i := by
 simp only [cut, Int.toNat_natCast]
 rw [List.take_of_length_le]; simp
theorem cut_drop' {α : Type} (xs : List α) {n : Int} {i : Nat} (h : n = (i : Int)) : cut xs n ((xs.length : Nat) : Int) = xs.drop i := by subst h; exact cut_drop xs i
theorem list_eq_iff {α : Type} {a b : List α} (h : a.length = b.length) : a = b ↔ ∀ i (h1 : i < a.length) (h2 : i < b.length), a[i] = b[i] :=
 ⟨fun e => by subst e; exact fun _ _ _ => rfl, fun g => List.ext_getElem h g⟩
theorem ints_gen {step : Int → Option (Int ⊕ Bool)} (a b : List Int) (hl : a.length = b.length) (hn : a.length < 4611686018427387904)
  (h : ∀ i, step i = (bif (decide (i < ((a.length : Nat) : Int))) then (bif ((decide ((0 : Int) ≤ i)) && (decide (i < ((a.length : Nat) : Int)))) then (bif ((decide ((0 : Int) ≤ i)) && (decide (i < ((b.length : Nat) : Int)))) then (bif ((ix a i) != (ix b i)) then (Option.map Sum.inr (some (false))) else (some (Sum.inl ((IntKind.i64.wrap (i + 1)))))) else none) else none) else (Option.map Sum.inr (some (true))))) :
  loopO step 0 = some (decide (a = b)) := by
 have := loopO_find (step := step) (fun i => ((i : Nat) : Int)) (fun i => if a[i]? = b[i]? then none else some false) (some true) a.length (fun i hi hb => ?_) (fun i r hi hb => ?_) (fun _ => ?_)
 ·rw [show ((0 : Nat) : Int) = 0 from rfl] at this
  rw [this]
  cases hf : firstAt (fun i => if a[i]? = b[i]? then none else some false) a.length with
  | none =>
   have := (firstAt_none _).1 hf
   have e : a = b := (list_eq_iff hl).2 fun i h1 h2 => by
    have := this i h1
    simpa [h1, h2] using this
   simp [e]
  | some r =>
   obtain ⟨i, h1, h2, _⟩ := firstAt_some _ hf
   have : a ≠ b := fun e => by subst e; simp at h2
   split at h2
   ·cases h2
   ·cases h2; simp [this]
 ·rw [h]
  have hi2 : i < b.length := by omega
  have e : a[i] = b[i] := by simpa [hi, hi2] using hb
  simp [hi, hi2, ix_get hi, ix_get hi2, e, wrap_n1 i (by omega), Bool.cond_eq_ite]
 ·rw [h]
  have hi2 : i < b.length := by omega
  have e : ¬ a[i] = b[i] ∧ false = r := by simpa [hi, hi2] using hb
  simp [hi, hi2, ix_get hi, ix_get hi2, e.1, ← e.2, Bool.cond_eq_ite]
 ·rw [h]; simp
def firstIf (p : Nat → Bool) (n : Nat) : Option Nat := firstAt (fun i => bif p i then some i else none) n
theorem firstIf_none {p : Nat → Bool} {n : Nat} : firstIf p n = none ↔ ∀ i, i < n → p i = false := by
 unfold firstIf
 rw [firstAt_none]
 constructor
 ·intro h i hi
  have := h i hi
  cases hp : p i with
  | false => rfl
  | true => rw [hp] at this; cases this
 ·intro h i hi
  rw [h i hi]; rfl
theorem firstIf_some {p : Nat → Bool} {n i : Nat} (h : firstIf p n = some i) : i < n ∧ p i = true ∧ ∀ j, j < i → p j = false := by
 obtain ⟨k, h1, h2, h3⟩ := firstAt_some _ h
 cases hp : p k with
 | false => rw [hp] at h2; cases h2
 | true =>
  rw [hp] at h2; cases h2
  refine ⟨h1, hp, fun j hj => ?_⟩
  have := h3 j hj
  cases hq : p j with
  | false => rfl
  | true => rw [hq] at this; cases this
theorem loopO_if {S ρ : Type} {step : S → Option (S ⊕ ρ)} (E : Nat → S) (p : Nat → Bool) (R : Nat → Option ρ) (rest : Option ρ) (n : Nat)
  (h1 : ∀ i, i < n → p i = false → step (E i) = some (.inl (E (i + 1)))) (h2 : ∀ i, i < n → p i = true → step (E i) = (R i).map .inr) (h3 : (∀ i, i < n → p i = false) → step (E n) = rest.map .inr) :
  loopO step (E 0) = match firstIf p n with
   | some i => R i
   | none => rest := by
 have walk : ∀ k, k ≤ n → (∀ i, i < k → p i = false) → loopO step (E 0) = loopO step (E k) := by
  intro k
  induction k with
  | zero => exact fun _ _ => rfl
  | succ k ih =>
   intro hk hb
   rw [ih (by omega) fun i hi => hb i (by omega), loopO_inl (h1 k (by omega) (hb k (by omega)))]
 cases hf : firstIf p n with
 | none =>
  have hb := firstIf_none.1 hf
  rw [walk n (Nat.le_refl _) hb, loopO_out (h3 hb)]
 | some i =>
  obtain ⟨g1, g2, g3⟩ := firstIf_some hf
  rw [walk i (by omega) g3, loopO_out (h2 i g1 g2)]
end Go.Sx
end

section
namespace Go.Sx
variable {α : Type}
end Go.Sx
end

section
namespace Go.Sx
def toldOr {S ρ : Type} (o : Option ρ) (s : S) : Option (S ⊕ ρ) := match o with
 | some r => some (.inr r)
 | none => some (.inl s)
@[simp] theorem toldOr_some {S ρ : Type} (r : ρ) (s : S) : toldOr (some r) s = some (.inr r) := rfl
@[simp] theorem toldOr_none {S ρ : Type} (s : S) : toldOr (none : Option ρ) s = some (.inl s) := rfl
theorem loopO_up {A S ρ : Type} {step : S → Option (S ⊕ ρ)} (n : Nat) (E : Nat → A → S) (I : Nat → A → Prop) (F : Nat → A → Option ρ)
  (hend : ∀ a, I n a → step (E n a) = (F n a).map .inr)
  (hstep : ∀ i a, i < n → I i a → (∃ a', step (E i a) = some (.inl (E (i + 1) a')) ∧ I (i + 1) a' ∧ F i a = F (i + 1) a') ∨ step (E i a) = (F i a).map .inr)
  (a0 : A) (h0 : I 0 a0) : loopO step (E 0 a0) = F 0 a0 := by
 have gen : ∀ (d i : Nat) (a : A), i + d = n → I i a → loopO step (E i a) = F i a := by
  intro d
  induction d with
  | zero => intro i a hi ha; rw [Nat.add_zero] at hi; subst hi; exact loopO_out (hend a ha)
  | succ d ih =>
   intro i a hi ha
   rcases hstep i a (by omega) ha with ⟨a', h1, h2, h3⟩ | h1
   ·rw [loopO_inl h1, h3]; exact ih (i + 1) a' (by omega) h2
   ·exact loopO_out h1
 exact gen n 0 a0 (by omega) h0
theorem drop_at {α : Type} {l : List α} {i : Nat} (h : i < l.length) : l.drop i = l[i] :: l.drop (i + 1) := List.drop_eq_getElem_cons h
end Go.Sx
end

section
namespace Go.Proofs.Ytopomedppninoaa
open Go Go.Sx
set_option linter.unusedVariables false
set_option linter.unusedSimpArgs false
theorem bits64 : (IntKind.i64).bits = 64 := rfl
theorem ofInt_nat (n : Nat) : BitVec.ofInt 64 ((n : Nat) : Int) = BitVec.ofNat 64 n := rfl
theorem pow_cast (i : Nat) : (2 : Int) ^ i = ((2 ^ i : Nat) : Int) := by push_cast; first | done | rfl
theorem beqF {a b : Int} (h : ¬ a = b) : (a == b) = false := by simpa using h
theorem bneT {a b : Int} (h : ¬ a = b) : (a != b) = true := by simpa using h
theorem beqT {a b : Int} (h : a = b) : (a == b) = true := by simpa using h
theorem bneF {a b : Int} (h : a = b) : (a != b) = false := by simpa using h
theorem bit_at (D i : Nat) (hD : D < 2 ^ 14) (hi : i ≤ 14) : IntKind.i64.wrap (((BitVec.ofInt (IntKind.i64).bits (Int.fdiv ((D : Nat) : Int) (2 ^ (min (((i : Nat) : Int)).toNat (IntKind.i64).bits))) &&& BitVec.ofInt (IntKind.i64).bits 1).toNat : Nat) : Int) = if D.testBit i then 1 else 0 := by
 rw [bits64, Int.toNat_natCast, Nat.min_eq_left (by omega)]
 have h1 : Int.fdiv ((D : Nat) : Int) (2 ^ i) = ((D / 2 ^ i : Nat) : Int) := by
  rw [Int.fdiv_eq_ediv_of_nonneg _ (Int.le_of_lt (Int.pow_pos (by decide)))]; push_cast; first | done | rfl
 have h2 : D / 2 ^ i < 2 ^ 14 := Nat.lt_of_le_of_lt (Nat.div_le_self _ _) hD
 rw [h1, ofInt_nat, show (BitVec.ofInt 64 1) = BitVec.ofNat 64 1 from rfl, BitVec.toNat_and, BitVec.toNat_ofNat, BitVec.toNat_ofNat, Nat.mod_eq_of_lt (by omega), show 1 % 2 ^ 64 = 1 from rfl, Nat.and_one_is_mod]
 have h3 : D.testBit i = decide (D / 2 ^ i % 2 = 1) := Nat.testBit_eq_decide_div_mod_eq
 rw [h3]
 have h4 : D / 2 ^ i % 2 = 0 ∨ D / 2 ^ i % 2 = 1 := Nat.mod_two_eq_zero_or_one _
 rcases h4 with h4 | h4 <;> rw [h4] <;> rfl
theorem bit_put (D i : Nat) (hD : D < 2 ^ 14) (hi : i < 14) : IntKind.i64.wrap (((BitVec.ofInt (IntKind.i64).bits ((D : Nat) : Int) ||| BitVec.ofInt (IntKind.i64).bits (IntKind.i64.wrap (1 * 2 ^ (min (((i : Nat) : Int)).toNat (IntKind.i64).bits)))).toNat : Nat) : Int) = ((D ||| 2 ^ i : Nat) : Int) := by
 rw [bits64, Int.toNat_natCast, Nat.min_eq_left (by omega), Int.one_mul, pow_cast]
 have h2 : 2 ^ i ≤ 2 ^ 13 := Nat.pow_le_pow_right (by decide) (by omega)
 have h3 : D ||| 2 ^ i < 2 ^ 14 := Nat.or_lt_two_pow hD (by omega)
 generalize 2 ^ i = p at *
 rw [wrap_id (x := ((p : Nat) : Int)) (by omega) (by omega), ofInt_nat, ofInt_nat, BitVec.toNat_or, BitVec.toNat_ofNat, BitVec.toNat_ofNat, Nat.mod_eq_of_lt (by omega), Nat.mod_eq_of_lt (by omega)]
 exact wrap_id (by omega) (by omega)
theorem full_eq (n : Nat) (hn : n ≤ 14) : IntKind.i64.wrap ((IntKind.i64.wrap (1 * 2 ^ (min (((n : Nat) : Int)).toNat (IntKind.i64).bits))) - 1) = ((2 ^ n - 1 : Nat) : Int) := by
 rw [bits64, Int.toNat_natCast, Nat.min_eq_left (by omega), Int.one_mul, pow_cast]
 have h2 : 2 ^ n ≤ 2 ^ 14 := Nat.pow_le_pow_right (by decide) hn
 have h3 : 0 < 2 ^ n := Nat.two_pow_pos n
 generalize 2 ^ n = p at *
 rw [wrap_id (x := ((p : Nat) : Int)) (by omega) (by omega), wrap_id (by omega) (by omega)]
 omega
def qdo (q : List Int) (c : GCall) : List Int × Bool := if c.Kind = 1 then (q ++ [c.Arg], true) else match q with
 | [] => ([], !c.Ok)
 | x :: r => (r, c.Ok && x == c.Ret)
def rdo (r : Int) (c : GCall) : Int × Bool := if c.Kind = 3 then (c.Arg, true) else if c.Kind = 4 then (r, r == c.Ret) else if r = c.Old then (c.Arg, c.Ok) else (r, !c.Ok)
def cdo (n : Int) (c : GCall) : Int × Bool := (IntKind.i64.wrap (n + c.Arg), IntKind.i64.wrap (n + c.Arg) == c.Ret)
theorem q_eq (q : List Int) (c : GCall) (h : q.length ≤ 100) : linear_queue_do q c = some (qdo q c) := by
 unfold linear_queue_do slices_Clone_int qdo
 by_cases h1 : c.Kind = 1
 ·have : (c.Kind == 1) = true := by simpa using h1
  rw [if_pos h1]
  simp only [this, cond_true, List.nil_append, List.length_append, List.length_cons, List.length_nil]
  rw [decide_eq_true (by omega), cond_true, Option.bind_some, decide_eq_true (by omega), cond_true]
 ·have : (c.Kind == 1) = false := by simpa using h1
  rw [if_neg h1]
  simp only [this, cond_false]
  cases q with
  | nil => rfl
  | cons x r =>
   have e : ((((x :: r).length : Nat) : Int) == 0) = false := by simp; omega
   rw [e, cond_false, decide_eq_true (by simp only [List.length_cons]; omega), cond_true, decide_eq_true (by simp only [List.length_cons]; omega)]
   simp only [Bool.or_true, cond_true]
   have e2 : cut (x :: r) 1 (((x :: r).length : Nat) : Int) = r := cut_drop' (x :: r) (i := 1) rfl
   rw [e2]; rfl
theorem r_eq (r : Int) (c : GCall) : linear_register_do r c = some (rdo r c) := by
 unfold linear_register_do rdo
 by_cases h1 : c.Kind = 3
 ·simp [h1]
 ·by_cases h2 : c.Kind = 4
  ·simp [h2]
  ·by_cases h3 : r = c.Old
   ·simp only [beqF h1, beqF h2, beqT h3, if_neg h1, if_neg h2, if_pos h3, cond_true, cond_false]
   ·simp only [beqF h1, beqF h2, beqF h3, if_neg h1, if_neg h2, if_neg h3, cond_true, cond_false]
theorem c_eq (r : Int) (c : GCall) : linear_counter_do r c = some (cdo r c) := rfl
def tdo (there : List Int) (c : GCall) : List Int × Bool := if c.Kind = 1 ∨ c.Kind = 2 then qdo there c else
 let n := there.headD 0
 if c.Kind = 3 then ([c.Arg], true) else if c.Kind = 4 then (there, n == c.Ret) else if c.Kind = 5 then ([IntKind.i64.wrap (n + c.Arg)], IntKind.i64.wrap (n + c.Arg) == c.Ret) else
  if c.Kind = 6 then (if n = c.Old then ([c.Arg], c.Ok) else (there, !c.Ok)) else ([n], true)
theorem qdo_len (q : List Int) (c : GCall) : (qdo q c).1.length ≤ q.length + 1 := by
 unfold qdo
 by_cases h : c.Kind = 1
 ·rw [if_pos h]; simp
 ·rw [if_neg h]
  cases q with
  | nil => simp
  | cons x r => simp only [List.length_cons]; omega
end Go.Proofs.Ytopomedppninoaa
end

section
namespace Go.Proofs.Ytopomedppninoaa
open Go Go.Sx
set_option linter.unusedVariables false
set_option linter.unusedSimpArgs false
noncomputable def fromG_j1 {T : Type} (dop : T → GCall → Option (T × Bool)) (keyf : T → Int → Option place) (t : T) (done : Int) (c0_calls : (List GCall)) (c2 : (List Int)) (c1 : (List (place × Int))) (t39q7 : Int) (c3q12 : place) (xend20 : Int) : Option (((Int × Int × place) ⊕ (Bool × (List GCall) × (List Int) × (List (place × Int))))) := (some (Sum.inl (xend20, (IntKind.i64.wrap (t39q7 + 1)), c3q12)))
noncomputable def fromG_j2 {T : Type} (dop : T → GCall → Option (T × Bool)) (keyf : T → Int → Option place) (t : T) (done : Int) (c0_calls : (List GCall)) (xend18 : Int) (c3q12 : place) (t59q7 : Int) (c0_calls22 : (List GCall)) (c1q22 : (List (place × Int))) (c4q20 : (List Int)) : Option (((Int × (List GCall) × (List (place × Int)) × (List Int)) ⊕ (Bool × (List GCall) × (List Int) × (List (place × Int))))) := (some (Sum.inl ((IntKind.i64.wrap (t59q7 + 1)), c0_calls22, c1q22, c4q20)))
noncomputable def fromG_l1 {T : Type} (dop : T → GCall → Option (T × Bool)) (keyf : T → Int → Option place) (t : T) (done : Int) (c0_calls : (List GCall)) (rcf : T → Int → (List GCall) → (List Int) → (List (place × Int)) → Option (Bool × (List GCall) × (List Int) × (List (place × Int)))) (xend18 : Int) (c3q12 : place) : Int × (List GCall) × (List (place × Int)) × (List Int) → Option (((Int × (List GCall) × (List (place × Int)) × (List Int)) ⊕ (Bool × (List GCall) × (List Int) × (List (place × Int))))) := fun (t59q7, c0_calls20, c1q20, c4q18) => (bif (decide (t59q7 < ((c0_calls.length : Nat) : Int))) then (bif ((decide ((0 : Int) ≤ t59q7)) && (decide (t59q7 < ((c0_calls.length : Nat) : Int)))) then (bif (decide ((0 : Int) ≤ t59q7)) then (bif (((IntKind.i64.wrap (((BitVec.ofInt (IntKind.i64).bits (Int.fdiv done (2 ^ (min (t59q7).toNat (IntKind.i64).bits))) &&& BitVec.ofInt (IntKind.i64).bits 1).toNat : Nat) : Int)) == 1) || (decide (xend18 < (ix c0_calls t59q7).Begin))) then (fromG_j2 dop keyf t done c0_calls xend18 c3q12 t59q7 c0_calls20 c1q20 c4q18) else ((dop t (ix c0_calls t59q7)).bind fun r1100 => (bif r1100.2 then (bif (decide ((c4q18 ++ ([t59q7] : List Int)).length * 8 ≤ 140737488355328)) then (bif (decide ((0 : Int) ≤ t59q7)) then ((rcf r1100.1 (IntKind.i64.wrap (((BitVec.ofInt (IntKind.i64).bits done ||| BitVec.ofInt (IntKind.i64).bits (IntKind.i64.wrap ((1 : Int) * 2 ^ (min (t59q7).toNat (IntKind.i64).bits)))).toNat : Nat) : Int)) c0_calls20 (c4q18 ++ ([t59q7] : List Int)) c1q20).bind fun r1114 => (bif r1114.1 then (Option.map Sum.inr (some (true, r1114.2.1, r1114.2.2.1, r1114.2.2.2))) else (bif ((decide ((0 : Int) ≤ (IntKind.i64.wrap (((r1114.2.2.1.length : Nat) : Int) - 1)))) && (decide ((IntKind.i64.wrap (((r1114.2.2.1.length : Nat) : Int) - 1)) ≤ ((r1114.2.2.1.length : Nat) : Int)))) then (fromG_j2 dop keyf t done c0_calls xend18 c3q12 t59q7 r1114.2.1 r1114.2.2.2 (cut r1114.2.2.1 (0 : Int) (IntKind.i64.wrap (((r1114.2.2.1.length : Nat) : Int) - 1)))) else none))) else none) else none) else (fromG_j2 dop keyf t done c0_calls xend18 c3q12 t59q7 c0_calls20 c1q20 c4q18)))) else none) else none) else (Option.map Sum.inr (some (false, c0_calls20, c4q18, (meSet c1q20 c3q12 1)))))
noncomputable def fromG_l2 {T : Type} (dop : T → GCall → Option (T × Bool)) (keyf : T → Int → Option place) (t : T) (done : Int) (c0_calls : (List GCall)) (c2 : (List Int)) (c1 : (List (place × Int))) (rcf : T → Int → (List GCall) → (List Int) → (List (place × Int)) → Option (Bool × (List GCall) × (List Int) × (List (place × Int)))) : Int × Int × place → Option (((Int × Int × place) ⊕ (Bool × (List GCall) × (List Int) × (List (place × Int))))) := fun (xend18, t39q7, c3q12) => (bif (decide (t39q7 < ((c0_calls.length : Nat) : Int))) then (bif ((decide ((0 : Int) ≤ t39q7)) && (decide (t39q7 < ((c0_calls.length : Nat) : Int)))) then (bif (decide ((0 : Int) ≤ t39q7)) then (bif ((IntKind.i64.wrap (((BitVec.ofInt (IntKind.i64).bits (Int.fdiv done (2 ^ (min (t39q7).toNat (IntKind.i64).bits))) &&& BitVec.ofInt (IntKind.i64).bits 1).toNat : Nat) : Int)) == 0) then (fromG_j1 dop keyf t done c0_calls c2 c1 t39q7 c3q12 (min xend18 (ix c0_calls t39q7).End)) else (fromG_j1 dop keyf t done c0_calls c2 c1 t39q7 c3q12 xend18)) else none) else none) else (Option.map Sum.inr (loopO (fromG_l1 dop keyf t done c0_calls rcf xend18 c3q12) (0, c0_calls, c1, c2))))
noncomputable def fromG_b {T : Type} (dop : T → GCall → Option (T × Bool)) (keyf : T → Int → Option place) (rcf : T → Int → (List GCall) → (List Int) → (List (place × Int)) → Option (Bool × (List GCall) × (List Int) × (List (place × Int)))) (t : T) (done : Int) (c0_calls : (List GCall)) (c2 : (List Int)) (c1 : (List (place × Int))) : Option (Bool × (List GCall) × (List Int) × (List (place × Int))) := (bif (decide ((0 : Int) ≤ ((c0_calls.length : Nat) : Int))) then (bif (done == (IntKind.i64.wrap ((IntKind.i64.wrap ((1 : Int) * 2 ^ (min (((c0_calls.length : Nat) : Int)).toNat (IntKind.i64).bits))) - 1))) then (some (true, c0_calls, c2, c1)) else ((keyf t done).bind fun r817 => (bif (decide ((0 : Int) < (meGet c1 r817))) then (some (false, c0_calls, c2, c1)) else (loopO (fromG_l2 dop keyf t done c0_calls c2 c1 rcf) (1000000001, 0, r817))))) else none)
noncomputable def fromG_n {T : Type} (dop : T → GCall → Option (T × Bool)) (keyf : T → Int → Option place) : Nat → T → Int → (List GCall) → (List Int) → (List (place × Int)) → Option (Bool × (List GCall) × (List Int) × (List (place × Int)))
 | 0 => fun _ _ _ _ _ => none
 | n + 1 => fromG_b dop keyf (fromG_n dop keyf n)
theorem fromQ (n : Nat) : linear_search_from_n n = fromG_n linear_queue_do linear_key n := by
 induction n with
 | zero => rfl
 | succ n ih => rw [linear_search_from_n, fromG_n, ih]; rfl
theorem fromR (n : Nat) : linear_search_from_3_n n = fromG_n linear_register_do linear_key_1 n := by
 induction n with
 | zero => rfl
 | succ n ih => rw [linear_search_from_3_n, fromG_n, ih]; rfl
theorem fromC (n : Nat) : linear_search_from_6_n n = fromG_n linear_counter_do linear_key_2 n := by
 induction n with
 | zero => rfl
 | succ n ih => rw [linear_search_from_6_n, fromG_n, ih]; rfl
end Go.Proofs.Ytopomedppninoaa
end

section
namespace Go.Proofs.Ytopomedppninoaa
open Go Go.Sx
set_option linter.unusedVariables false
set_option linter.unusedSimpArgs false
section
variable {T : Type} (dof : T → GCall → T × Bool) (l : List GCall)
def runs (t : T) : List GCall → Prop
 | [] => True
 | c :: cs => (dof t c).2 = true ∧ runs (dof t c).1 cs
def left (D : Nat) : List Nat := (List.range l.length).filter fun i => !D.testBit i
abbrev cl (i : Nat) : GCall := ix l ((i : Nat) : Int)
def Rb (a b : GCall) : Prop := a.Begin ≤ b.End
def legal (t : T) (D : Nat) (σ : List Nat) : Prop := σ.Perm (left l D) ∧ (σ.map (cl l)).Pairwise Rb ∧ runs dof t (σ.map (cl l))
def Can (t : T) (D : Nat) : Prop := ∃ σ, legal dof l t D σ
variable {l}
theorem left_iff {D i : Nat} : i ∈ left l D ↔ i < l.length ∧ D.testBit i = false := by simp [left]
theorem left_nodup (D : Nat) : (left l D).Nodup := List.Pairwise.filter _ List.nodup_range
theorem testBit_put (D i j : Nat) : (D ||| 2 ^ i).testBit j = (D.testBit j || decide (j = i)) := by
 rw [Nat.testBit_or, Nat.testBit_two_pow]
 congr 1
 rw [decide_eq_decide]; exact eq_comm
theorem left_put {D i : Nat} (h : i ∈ left l D) : (i :: left l (D ||| 2 ^ i)).Perm (left l D) := by
 have e : left l (D ||| 2 ^ i) = (left l D).erase i := by
  rw [List.Nodup.erase_eq_filter (left_nodup D)]
  unfold left
  rw [List.filter_filter]
  apply List.filter_congr
  intro j hj
  rw [testBit_put]
  by_cases h : j = i <;> cases D.testBit j <;> simp [h]
 rw [e]
 exact (List.perm_cons_erase h).symm
theorem left_len {D i : Nat} (h : i ∈ left l D) : (left l (D ||| 2 ^ i)).length + 1 = (left l D).length := by
 have := (left_put h).length_eq
 simpa using this
theorem put_lt {D i : Nat} (hD : D < 2 ^ l.length) (h : i ∈ left l D) : D ||| 2 ^ i < 2 ^ l.length :=
 Nat.or_lt_two_pow hD (Nat.pow_lt_pow_right (by decide) (left_iff.1 h).1)
theorem left_nil {D : Nat} (hD : D < 2 ^ l.length) : left l D = [] ↔ D = 2 ^ l.length - 1 := by
 constructor
 ·intro h
  apply Nat.eq_of_testBit_eq
  intro i
  rw [Nat.testBit_two_pow_sub_one]
  by_cases hi : i < l.length
  ·rw [decide_eq_true hi]
   cases hb : D.testBit i with
   | true => rfl
   | false => have : i ∈ left l D := left_iff.2 ⟨hi, hb⟩; rw [h] at this; cases this
  ·rw [decide_eq_false hi]
   exact Nat.testBit_lt_two_pow (Nat.lt_of_lt_of_le hD (Nat.pow_le_pow_right (by decide) (by omega)))
 ·intro h
  subst h
  apply List.eq_nil_iff_forall_not_mem.2
  intro i hi
  obtain ⟨h1, h2⟩ := left_iff.1 hi
  rw [Nat.testBit_two_pow_sub_one, decide_eq_true h1] at h2; cases h2
variable {dof}
theorem legal_cons {t : T} {D i : Nat} {σ : List Nat} (hi : i ∈ left l D) (hb : ∀ k ∈ left l D, k ≠ i → (cl l i).Begin ≤ (cl l k).End) (ok : (dof t (cl l i)).2 = true) (h : legal dof l (dof t (cl l i)).1 (D ||| 2 ^ i) σ) : legal dof l t D (i :: σ) := by
 obtain ⟨h1, h2, h3⟩ := h
 refine ⟨(List.Perm.cons i h1).trans (left_put hi), ?_, ok, h3⟩
 rw [List.map_cons, List.pairwise_cons]
 refine ⟨fun c hc => ?_, h2⟩
 obtain ⟨k, hk, rfl⟩ := List.mem_map.1 hc
 have hk2 := h1.mem_iff.1 hk
 have hm : k ∈ left l D := (left_put hi).mem_iff.1 (List.mem_cons_of_mem _ hk2)
 refine hb k hm fun e => ?_
 subst e
 have := (left_iff.1 hk2).2
 rw [testBit_put] at this; simp at this
theorem legal_inv {t : T} {D : Nat} {σ : List Nat} (h : legal dof l t D σ) : (left l D = [] ∧ σ = []) ∨ ∃ i σ', σ = i :: σ' ∧ i ∈ left l D ∧ (∀ k ∈ left l D, k ≠ i → (cl l i).Begin ≤ (cl l k).End) ∧ (dof t (cl l i)).2 = true ∧ legal dof l (dof t (cl l i)).1 (D ||| 2 ^ i) σ' := by
 obtain ⟨h1, h2, h3⟩ := h
 cases σ with
 | nil => exact .inl ⟨(List.Perm.nil_eq h1).symm, rfl⟩
 | cons i σ =>
  right
  have hi : i ∈ left l D := h1.mem_iff.1 (by simp)
  rw [List.map_cons, List.pairwise_cons] at h2
  refine ⟨i, σ, rfl, hi, fun k hk hki => ?_, h3.1, ?_, h2.2, h3.2⟩
  ·have := h1.mem_iff.2 hk
   rcases List.mem_cons.1 this with e | e
   ·exact absurd e hki
   ·exact h2.1 _ (List.mem_map_of_mem e)
  ·exact List.Perm.cons_inv (h1.trans (left_put hi).symm)
variable (l) in
def minE (D : Nat) : Nat → Int
 | 0 => 1000000001
 | i + 1 => if D.testBit i then minE D i else min (minE D i) (cl l i).End
theorem minE_le (D : Nat) (b : Int) : ∀ n, b ≤ minE l D n ↔ b ≤ 1000000001 ∧ ∀ k, k < n → D.testBit k = false → b ≤ (cl l k).End
 | 0 => by simp [minE]
 | n + 1 => by
  have ih := minE_le D b n
  unfold minE
  cases hb : D.testBit n with
  | true =>
   simp only [if_true]
   rw [ih]
   refine and_congr Iff.rfl ⟨fun h k hk hkb => ?_, fun h k hk hkb => h k (by omega) hkb⟩
   by_cases hkn : k = n
   ·subst hkn; rw [hb] at hkb; cases hkb
   ·exact h k (by omega) hkb
  | false =>
   simp only [Bool.false_eq_true, if_false]
   rw [Int.le_min, ih]
   constructor
   ·rintro ⟨⟨h1, h2⟩, h3⟩
    refine ⟨h1, fun k hk hkb => ?_⟩
    by_cases hkn : k = n
    ·subst hkn; exact h3
    ·exact h2 k (by omega) hkb
   ·rintro ⟨h1, h2⟩
    exact ⟨⟨h1, fun k hk hkb => h2 k (by omega) hkb⟩, h2 n (by omega) hb⟩
end
structure Thing (T : Type) where
 dop : T → GCall → Option (T × Bool)
 keyf : T → Int → Option place
 dof : T → GCall → T × Bool
 key : T → Int → place
 Inv : T → Nat → Prop
 hdo : ∀ {t k} (c : GCall), Inv t k → k ≤ 14 → dop t c = some (dof t c)
 hst : ∀ {t k} (c : GCall), Inv t k → Inv (dof t c).1 (k + 1)
 hkey : ∀ {t k} (D : Int), Inv t k → k ≤ 14 → keyf t D = some (key t D)
 hinj : ∀ {t t' k k'} {D D' : Int}, Inv t k → k ≤ 14 → Inv t' k' → k' ≤ 14 → key t D = key t' D' → t = t' ∧ D = D'
theorem meGet_set {K : Type} [DecidableEq K] (m : List (K × Int)) (k k' : K) (v : Int) : meGet (meSet m k v) k' = if k' = k then v else meGet m k' := by
 induction m with
 | nil =>
  unfold meSet meGet
  rw [List.find?_cons]
  by_cases h : k' = k
  ·subst h; simp
  ·rw [if_neg h, show (k' == k) = false by simpa using h]
 | cons p r ih =>
  unfold meSet
  by_cases h : k = p.1
  ·rw [show (k == p.1) = true by simpa using h, cond_true]
   unfold meGet
   rw [List.find?_cons, List.find?_cons]
   by_cases h2 : k' = k
   ·subst h2; simp
   ·have h3 : ¬ k' = p.1 := fun e => h2 (e.trans h.symm)
    rw [if_neg h2, show (k' == k) = false by simpa using h2, show (k' == p.1) = false by simpa using h3]
  ·rw [show (k == p.1) = false by simpa using h, cond_false]
   unfold meGet at ih ⊢
   rw [List.find?_cons, List.find?_cons]
   by_cases h2 : k' = p.1
   ·have h3 : ¬ k' = k := fun e => h (e.symm.trans h2)
    rw [show (k' == p.1) = true by simpa using h2, if_neg h3]
   ·rw [show (k' == p.1) = false by simpa using h2]
    exact ih
variable {T : Type} (X : Thing T) {l : List GCall}
def Sound (l : List GCall) (dd : List (place × Int)) : Prop := ∀ t D, D < 2 ^ l.length → X.Inv t (l.length - (left l D).length) → 0 < meGet dd (X.key t ((D : Nat) : Int)) → ¬ Can X.dof l t D
theorem search (hn : l.length ≤ 14) (hv : ∀ i, i < l.length → (cl l i).Begin ≤ (cl l i).End ∧ (cl l i).Begin ≤ 1000000001) : ∀ (m : Nat) (t : T) (D : Nat) (ord : List Int) (dd : List (place × Int)), D < 2 ^ l.length → X.Inv t (l.length - (left l D).length) → Sound X l dd → (left l D).length < m → ord.length + (left l D).length ≤ 14 →
  ∃ r, fromG_n X.dop X.keyf m t ((D : Nat) : Int) l ord dd = some r ∧ r.2.1 = l ∧ ((r.1 = true ∧ ∃ σ, legal X.dof l t D σ ∧ r.2.2.1 = ord ++ σ.map (fun i => ((i : Nat) : Int))) ∨ (r.1 = false ∧ r.2.2.1 = ord ∧ Sound X l r.2.2.2 ∧ ¬ Can X.dof l t D)) := by
 intro m
 induction m with
 | zero => intro t D ord dd _ _ _ h; omega
 | succ m ih =>
  intro t D ord dd hD hI hS hm ho
  have hD14 : D < 2 ^ 14 := Nat.lt_of_lt_of_le hD (Nat.pow_le_pow_right (by decide) hn)
  have hk14 : l.length - (left l D).length ≤ 14 := by omega
  have hll : (left l D).length ≤ l.length := by
   have := List.length_filter_le (fun i => !D.testBit i) (List.range l.length)
   rwa [List.length_range] at this
  show ∃ r, fromG_b X.dop X.keyf (fromG_n X.dop X.keyf m) t ((D : Nat) : Int) l ord dd = some r ∧ _
  unfold fromG_b
  rw [decide_eq_true (Int.natCast_nonneg _), cond_true, full_eq _ hn]
  by_cases hfull : left l D = []
  ·have e := (left_nil hD).1 hfull
   rw [beqT (by rw [e]), cond_true]
   refine ⟨_, rfl, rfl, .inl ⟨rfl, [], ⟨by rw [hfull], List.Pairwise.nil, trivial⟩, by simp⟩⟩
  ·have e : ¬ ((D : Nat) : Int) = ((2 ^ l.length - 1 : Nat) : Int) := fun e => hfull ((left_nil hD).2 (by omega))
   rw [beqF e, cond_false, X.hkey _ hI hk14, Option.bind_some]
   by_cases hd : 0 < meGet dd (X.key t ((D : Nat) : Int))
   ·rw [decide_eq_true hd, cond_true]
    exact ⟨_, rfl, rfl, .inr ⟨rfl, rfl, hS, hS t D hD hI hd⟩⟩
   ·rw [decide_eq_false hd, cond_false]
    -- the first end
    have h2 : loopO (fromG_l2 X.dop X.keyf t ((D : Nat) : Int) l ord dd (fromG_n X.dop X.keyf m)) (1000000001, 0, X.key t ((D : Nat) : Int)) = loopO (fromG_l1 X.dop X.keyf t ((D : Nat) : Int) l (fromG_n X.dop X.keyf m) (minE l D l.length) (X.key t ((D : Nat) : Int))) (0, l, dd, ord) := by
     refine loopO_all (fun i => (minE l D i, ((i : Nat) : Int), X.key t ((D : Nat) : Int))) _ l.length (fun i hi => ?_) ?_
     ·unfold fromG_l2 fromG_j1
      simp only
      rw [decide_eq_true (by omega : ((i : Nat) : Int) < ((l.length : Nat) : Int)), decide_eq_true (Int.natCast_nonneg i), Bool.and_self, cond_true, cond_true, cond_true, bit_at D i hD14 (by omega), wrap_n1 i (by omega)]
      rw [show minE l D (i + 1) = if D.testBit i then minE l D i else min (minE l D i) (cl l i).End from rfl]
      cases D.testBit i <;> rfl
     ·unfold fromG_l2
      simp only
      rw [decide_eq_false (by omega), cond_false]
    rw [h2]
    -- the calls, one after the other
    have h1 := loopO_inv (step := fromG_l1 X.dop X.keyf t ((D : Nat) : Int) l (fromG_n X.dop X.keyf m) (minE l D l.length) (X.key t ((D : Nat) : Int)))
     (fun s => ∃ (i : Nat) (d : List (place × Int)), s = (((i : Nat) : Int), l, d, ord) ∧ i ≤ l.length ∧ Sound X l d ∧ ∀ j, j < i → j ∈ left l D → (∀ k ∈ left l D, k ≠ j → (cl l j).Begin ≤ (cl l k).End) → (X.dof t (cl l j)).2 = true → ¬ Can X.dof l (X.dof t (cl l j)).1 (D ||| 2 ^ j))
     (fun s => l.length - s.1.toNat)
     (fun r => r.2.1 = l ∧ ((r.1 = true ∧ ∃ σ, legal X.dof l t D σ ∧ r.2.2.1 = ord ++ σ.map (fun i => ((i : Nat) : Int))) ∨ (r.1 = false ∧ r.2.2.1 = ord ∧ Sound X l r.2.2.2 ∧ ¬ Can X.dof l t D)))
     (fun s hs => ?_) (s0 := (0, l, dd, ord)) ⟨0, dd, rfl, by omega, hS, fun j hj => by omega⟩
    ·exact h1
    ·obtain ⟨i, d, rfl, hi, hSd, hno⟩ := hs
     unfold fromG_l1
     simp only
     by_cases hil : i < l.length
     ·rw [decide_eq_true (by omega : ((i : Nat) : Int) < ((l.length : Nat) : Int)), decide_eq_true (Int.natCast_nonneg i), Bool.and_self, cond_true, cond_true, cond_true, bit_at D i hD14 (by omega)]
      have hnext : ∀ (d' : List (place × Int)), Sound X l d' → (i ∈ left l D → (∀ k ∈ left l D, k ≠ i → (cl l i).Begin ≤ (cl l k).End) → (X.dof t (cl l i)).2 = true → ¬ Can X.dof l (X.dof t (cl l i)).1 (D ||| 2 ^ i)) →
        (∃ s', fromG_j2 X.dop X.keyf t ((D : Nat) : Int) l (minE l D l.length) (X.key t ((D : Nat) : Int)) ((i : Nat) : Int) l d' ord = some (Sum.inl s') ∧ (∃ (i : Nat) (d : List (place × Int)), s' = (((i : Nat) : Int), l, d, ord) ∧ i ≤ l.length ∧ Sound X l d ∧ ∀ j, j < i → j ∈ left l D → (∀ k ∈ left l D, k ≠ j → (cl l j).Begin ≤ (cl l k).End) → (X.dof t (cl l j)).2 = true → ¬ Can X.dof l (X.dof t (cl l j)).1 (D ||| 2 ^ j)) ∧ l.length - s'.1.toNat < l.length - (((i : Nat) : Int)).toNat) := fun d' hd' hni => by
       unfold fromG_j2
       rw [wrap_n1 i (by omega)]
       refine ⟨_, rfl, ⟨i + 1, d', rfl, hil, hd', fun j hj => ?_⟩, by simp only [Int.toNat_natCast]; omega⟩
       by_cases hji : j = i
       ·subst hji; exact hni
       ·exact hno j (by omega)
      cases hb : D.testBit i with
      | true =>
       simp only [if_true]
       left
       refine hnext d hSd fun hm => ?_
       have := (left_iff.1 hm).2; rw [hb] at this; cases this
      | false =>
       have him : i ∈ left l D := left_iff.2 ⟨hil, hb⟩
       simp only [Bool.false_eq_true, if_false]
       rw [show ((0 : Int) == 1) = false from rfl, Bool.false_or]
       have hbe : minE l D l.length < (cl l i).Begin ↔ ¬ ∀ k ∈ left l D, k ≠ i → (cl l i).Begin ≤ (cl l k).End := by
        rw [← Int.not_le, minE_le]
        apply not_congr
        constructor
        ·rintro ⟨_, h⟩ k hk _
         exact h k (left_iff.1 hk).1 (left_iff.1 hk).2
        ·intro h
         refine ⟨(hv i hil).2, fun k hk hkb => ?_⟩
         by_cases hki : k = i
         ·subst hki; exact (hv k hk).1
         ·exact h k (left_iff.2 ⟨hk, hkb⟩) hki
       by_cases hlt : minE l D l.length < (cl l i).Begin
       ·rw [decide_eq_true hlt, cond_true]
        left
        exact hnext d hSd fun _ h => absurd h (hbe.1 hlt)
       ·have hall : ∀ k ∈ left l D, k ≠ i → (cl l i).Begin ≤ (cl l k).End := Decidable.not_not.1 fun h => hlt (hbe.2 h)
        rw [decide_eq_false hlt, cond_false, X.hdo _ hI hk14, Option.bind_some]
        cases hok : (X.dof t (cl l i)).2 with
        | false =>
         rw [cond_false]
         left
         exact hnext d hSd fun _ _ h => by rw [hok] at h; cases h
        | true =>
         rw [cond_true, decide_eq_true (by simp only [List.length_append, List.length_cons, List.length_nil]; omega), cond_true, cond_true, bit_put D i hD14 (by omega)]
         have hlen := left_len him
         obtain ⟨r, hr, hrl, hrr⟩ := ih (X.dof t (cl l i)).1 (D ||| 2 ^ i) (ord ++ [((i : Nat) : Int)]) d (put_lt hD him) (by
          have := X.hst (cl l i) hI
          rwa [show l.length - (left l D).length + 1 = l.length - (left l (D ||| 2 ^ i)).length by omega] at this) hSd (by omega) (by simp only [List.length_append, List.length_cons, List.length_nil]; omega)
         rw [hr, Option.bind_some]
         rcases hrr with ⟨hr1, σ, hσ, hσo⟩ | ⟨hr1, hro, hrS, hrC⟩
         ·rw [hr1, cond_true]
          right
          refine ⟨_, rfl, hrl, .inl ⟨rfl, i :: σ, legal_cons him hall hok hσ, ?_⟩⟩
          simp only [hσo, List.map_cons, List.append_assoc, List.cons_append, List.nil_append]
         ·rw [hr1, cond_false, hro]
          have hw : IntKind.i64.wrap ((((ord ++ [((i : Nat) : Int)]).length : Nat) : Int) - 1) = ((ord.length : Nat) : Int) := by
           rw [wrap_id (by simp only [List.length_append, List.length_cons, List.length_nil]; omega) (by simp only [List.length_append, List.length_cons, List.length_nil]; omega)]
           simp only [List.length_append, List.length_cons, List.length_nil]; omega
          rw [hw, decide_eq_true (Int.natCast_nonneg _), decide_eq_true (by simp only [List.length_append, List.length_cons, List.length_nil]; omega), Bool.and_self, cond_true, hrl]
          left
          have hc : cut (ord ++ [((i : Nat) : Int)]) 0 ((ord.length : Nat) : Int) = ord := by rw [cut_take]; simp
          rw [hc]
          exact hnext r.2.2.2 hrS fun _ _ _ => hrC
     ·rw [decide_eq_false (by omega), cond_false]
      right
      have hi' : i = l.length := by omega
      have hC : ¬ Can X.dof l t D := fun ⟨σ, hσ⟩ => by
       rcases legal_inv hσ with ⟨h, _⟩ | ⟨j, σ', _, hj, hjb, hjo, hjl⟩
       ·exact hfull h
       ·exact hno j (by rw [hi']; exact (left_iff.1 hj).1) hj hjb hjo ⟨σ', hjl⟩
      refine ⟨_, rfl, rfl, .inr ⟨rfl, rfl, fun t' D' hD' hI' hg => ?_, hC⟩⟩
      rw [meGet_set] at hg
      by_cases hkk : X.key t' ((D' : Nat) : Int) = X.key t ((D : Nat) : Int)
      ·have hll' : (left l D').length ≤ l.length := by
        have := List.length_filter_le (fun i => !D'.testBit i) (List.range l.length)
        rwa [List.length_range] at this
       obtain ⟨e1, e2⟩ := X.hinj hI' (by omega) hI hk14 hkk
       have e3 : D' = D := by omega
       subst e1; subst e3
       exact hC
      ·rw [if_neg hkk] at hg
       exact hSd t' D' hD' hI' hg
end Go.Proofs.Ytopomedppninoaa
end

section
namespace Go.Proofs.Ytopomedppninoaa
open Go Go.Sx
set_option linter.unusedVariables false
set_option linter.unusedSimpArgs false
noncomputable def playG_l1 {T : Type} (dop : T → GCall → Option (T × Bool)) (l : (List GCall)) (order : (List Int)) (done11 : Int) (t13 : T) (t33q11 : Int) : Int → Option (((Int) ⊕ (((Int × T × Int) ⊕ (Fault))))) := fun t57q43 => (bif (decide (t57q43 < ((l.length : Nat) : Int))) then (bif ((decide ((0 : Int) ≤ t57q43)) && (decide (t57q43 < ((l.length : Nat) : Int)))) then (bif (decide ((0 : Int) ≤ t57q43)) then (bif ((!(((IntKind.i64.wrap (((BitVec.ofInt (IntKind.i64).bits (Int.fdiv done11 (2 ^ (min (t57q43).toNat (IntKind.i64).bits))) &&& BitVec.ofInt (IntKind.i64).bits 1).toNat : Nat) : Int)) == 0) && (t57q43 != (ix order t33q11)))) || ((decide ((0 : Int) ≤ (ix order t33q11))) && (decide ((ix order t33q11) < ((l.length : Nat) : Int))))) then (bif (((IntKind.i64.wrap (((BitVec.ofInt (IntKind.i64).bits (Int.fdiv done11 (2 ^ (min (t57q43).toNat (IntKind.i64).bits))) &&& BitVec.ofInt (IntKind.i64).bits 1).toNat : Nat) : Int)) == 0) && ((t57q43 != (ix order t33q11)) && (decide ((ix l t57q43).End < (ix l (ix order t33q11)).Begin)))) then ((linear_fault 11 t33q11).bind fun r7572 => (Option.map Sum.inr (Option.map Sum.inr (some (r7572))))) else (some (Sum.inl ((IntKind.i64.wrap (t57q43 + 1)))))) else none) else none) else none) else (Option.map Sum.inr (bif ((decide ((0 : Int) ≤ (ix order t33q11))) && (decide ((ix order t33q11) < ((l.length : Nat) : Int)))) then ((dop t13 (ix l (ix order t33q11))).bind fun r7579 => (bif (!r7579.2) then ((linear_fault 7 t33q11).bind fun r7583 => (Option.map Sum.inr (some (r7583)))) else (bif (decide ((0 : Int) ≤ (ix order t33q11))) then (some (Sum.inl ((IntKind.i64.wrap (((BitVec.ofInt (IntKind.i64).bits done11 ||| BitVec.ofInt (IntKind.i64).bits (IntKind.i64.wrap ((1 : Int) * 2 ^ (min ((ix order t33q11)).toNat (IntKind.i64).bits)))).toNat : Nat) : Int)), r7579.1, (IntKind.i64.wrap (t33q11 + 1))))) else none))) else none)))
noncomputable def playG_l2 {T : Type} (dop : T → GCall → Option (T × Bool)) (l : (List GCall)) (order : (List Int)) : Int × T × Int → Option (((Int × T × Int) ⊕ (Fault))) := fun (done11, t13, t33q11) => (bif (decide (t33q11 < ((order.length : Nat) : Int))) then (bif ((decide ((0 : Int) ≤ t33q11)) && (decide (t33q11 < ((order.length : Nat) : Int)))) then (bif ((decide ((ix order t33q11) < 0)) || (decide (((l.length : Nat) : Int) ≤ (ix order t33q11)))) then ((linear_fault 3 t33q11).bind fun r7437 => (Option.map Sum.inr (some (r7437)))) else (bif (decide ((0 : Int) ≤ (ix order t33q11))) then (bif ((IntKind.i64.wrap (((BitVec.ofInt (IntKind.i64).bits (Int.fdiv done11 (2 ^ (min ((ix order t33q11)).toNat (IntKind.i64).bits))) &&& BitVec.ofInt (IntKind.i64).bits 1).toNat : Nat) : Int)) == 1) then ((linear_fault 10 t33q11).bind fun r7447 => (Option.map Sum.inr (some (r7447)))) else (loopO (playG_l1 dop l order done11 t13 t33q11) (0))) else none)) else none) else (Option.map Sum.inr (some ((Fault.mk 0 0)))))
section
variable {T : Type} (dof : T → GCall → T × Bool) (l : List GCall) (order : List Int)
def pb (D : Nat) (i : Int) (k : Nat) : Bool := !D.testBit k && (((k : Nat) : Int) != i && decide ((cl l k).End < (ix l i).Begin))
def ordG : Nat → Nat → Nat → T → Fault
 | 0, _, _, _ => ⟨0, 0⟩
 | d + 1, n, D, t =>
  let i := ix order ((n : Nat) : Int)
  if i < 0 ∨ ((l.length : Nat) : Int) ≤ i then ⟨3, ((n : Nat) : Int)⟩ else
  if D.testBit i.toNat then ⟨10, ((n : Nat) : Int)⟩ else
  match firstIf (pb l D i) l.length with
  | some _ => ⟨11, ((n : Nat) : Int)⟩
  | none => if (dof t (ix l i)).2 then ordG d (n + 1) (D ||| 2 ^ i.toNat) (dof t (ix l i)).1 else ⟨7, ((n : Nat) : Int)⟩
end
theorem lt_put {D i n : Nat} (hD : D < 2 ^ n) (hi : i < n) : D ||| 2 ^ i < 2 ^ n := Nat.or_lt_two_pow hD (Nat.pow_lt_pow_right (by decide) hi)
theorem play_eq {T : Type} (X : Thing T) {l : List GCall} (hn : l.length ≤ 14) (order : List Int) (ho : order.length = l.length) (t0 : T) (h0 : X.Inv t0 0) : loopO (playG_l2 X.dop l order) (0, t0, 0) = some (ordG X.dof l order order.length 0 0 t0) := by
 have := loopO_up (A := Nat × T) (step := playG_l2 X.dop l order) order.length (fun n a => (((a.1 : Nat) : Int), a.2, ((n : Nat) : Int))) (fun n a => a.1 < 2 ^ l.length ∧ X.Inv a.2 n ∧ n ≤ order.length) (fun n a => some (ordG X.dof l order (order.length - n) n a.1 a.2))
  (fun a ha => ?_) (fun n a hn' ha => ?_) (0, t0) ⟨Nat.two_pow_pos _, h0, Nat.zero_le _⟩
 ·exact this
 ·unfold playG_l2
  simp only
  rw [decide_eq_false (by omega), cond_false, Nat.sub_self]; rfl
 ·obtain ⟨D, t⟩ := a
  obtain ⟨hD, hI, _⟩ := ha
  simp only at hD hI ⊢
  have hD14 : D < 2 ^ 14 := Nat.lt_of_lt_of_le hD (Nat.pow_le_pow_right (by decide) hn)
  obtain ⟨d, hd⟩ : ∃ d, order.length - n = d + 1 := ⟨order.length - n - 1, by omega⟩
  have hd2 : order.length - (n + 1) = d := by omega
  rw [hd, hd2]
  unfold playG_l2
  simp only
  rw [decide_eq_true (by omega : ((n : Nat) : Int) < ((order.length : Nat) : Int)), decide_eq_true (Int.natCast_nonneg n), Bool.and_self, cond_true, cond_true]
  rw [show ordG X.dof l order (d + 1) n D t = (if ix order ((n : Nat) : Int) < 0 ∨ ((l.length : Nat) : Int) ≤ ix order ((n : Nat) : Int) then ⟨3, ((n : Nat) : Int)⟩ else
   if D.testBit (ix order ((n : Nat) : Int)).toNat then ⟨10, ((n : Nat) : Int)⟩ else
   match firstIf (pb l D (ix order ((n : Nat) : Int))) l.length with
   | some _ => ⟨11, ((n : Nat) : Int)⟩
   | none => if (X.dof t (ix l (ix order ((n : Nat) : Int)))).2 then ordG X.dof l order d (n + 1) (D ||| 2 ^ (ix order ((n : Nat) : Int)).toNat) (X.dof t (ix l (ix order ((n : Nat) : Int)))).1 else ⟨7, ((n : Nat) : Int)⟩ : Fault) from rfl]
  generalize hi : ix order ((n : Nat) : Int) = i
  by_cases h1 : i < 0 ∨ ((l.length : Nat) : Int) ≤ i
  ·right
   rw [if_pos h1]
   have : (decide (i < 0) || decide (((l.length : Nat) : Int) ≤ i)) = true := by simpa using h1
   rw [this, cond_true]; rfl
  ·rw [if_neg h1]
   have h2 : (decide (i < 0) || decide (((l.length : Nat) : Int) ≤ i)) = false := by simp only [Bool.or_eq_false_iff, decide_eq_false_iff_not]; omega
   obtain ⟨j, rfl⟩ : ∃ j : Nat, i = ((j : Nat) : Int) := ⟨i.toNat, by omega⟩
   have hj : j < l.length := by omega
   rw [h2, cond_false, decide_eq_true (Int.natCast_nonneg j), cond_true, bit_at D j hD14 (by omega), Int.toNat_natCast]
   cases hb : D.testBit j with
   | true => right; rfl
   | false =>
    simp only [Bool.false_eq_true, if_false]
    rw [show ((0 : Int) == 1) = false from rfl, cond_false]
    have hloop := loopO_if (step := playG_l1 X.dop l order ((D : Nat) : Int) t ((n : Nat) : Int)) (fun k => ((k : Nat) : Int)) (pb l D ((j : Nat) : Int)) (fun _ => some (Sum.inr (Fault.mk 11 ((n : Nat) : Int)))) (if (X.dof t (cl l j)).2 then some (Sum.inl (((D ||| 2 ^ j : Nat) : Int), (X.dof t (cl l j)).1, ((n + 1 : Nat) : Int))) else some (Sum.inr (Fault.mk 7 ((n : Nat) : Int)))) l.length (fun k hk hp => ?_) (fun k hk hp => ?_) (fun _ => ?_)
    ·rw [show ((0 : Nat) : Int) = 0 from rfl] at hloop
     rw [hloop]
     cases hf : firstIf (pb l D ((j : Nat) : Int)) l.length with
     | some k => right; rfl
     | none =>
      cases hok : (X.dof t (ix l ((j : Nat) : Int))).2 with
      | false => right; simp only [hok, Bool.false_eq_true, if_false]; rfl
      | true =>
       left
       simp only [hok, if_true]
       exact ⟨(D ||| 2 ^ j, (X.dof t (ix l ((j : Nat) : Int))).1), rfl, ⟨lt_put hD hj, X.hst _ hI, by omega⟩, rfl⟩
    ·unfold playG_l1
     try dsimp only
     rw [hi, decide_eq_true (by omega : ((k : Nat) : Int) < ((l.length : Nat) : Int)), decide_eq_true (Int.natCast_nonneg k), Bool.and_self, cond_true, cond_true, cond_true, bit_at D k hD14 (by omega), decide_eq_true (Int.natCast_nonneg j), decide_eq_true (by omega : ((j : Nat) : Int) < ((l.length : Nat) : Int)), Bool.and_self, Bool.or_true, cond_true, wrap_n1 k (by omega)]
     have e : (((if D.testBit k = true then (1 : Int) else 0) == 0) && ((((k : Nat) : Int) != ((j : Nat) : Int)) && decide ((ix l ((k : Nat) : Int)).End < (ix l ((j : Nat) : Int)).Begin))) = pb l D ((j : Nat) : Int) k := by
      unfold pb; cases D.testBit k <;> rfl
     rw [e, hp, cond_false]
    ·unfold playG_l1
     try dsimp only
     rw [hi, decide_eq_true (by omega : ((k : Nat) : Int) < ((l.length : Nat) : Int)), decide_eq_true (Int.natCast_nonneg k), Bool.and_self, cond_true, cond_true, cond_true, bit_at D k hD14 (by omega), decide_eq_true (Int.natCast_nonneg j), decide_eq_true (by omega : ((j : Nat) : Int) < ((l.length : Nat) : Int)), Bool.and_self, Bool.or_true, cond_true]
     have e : (((if D.testBit k = true then (1 : Int) else 0) == 0) && ((((k : Nat) : Int) != ((j : Nat) : Int)) && decide ((ix l ((k : Nat) : Int)).End < (ix l ((j : Nat) : Int)).Begin))) = pb l D ((j : Nat) : Int) k := by
      unfold pb; cases D.testBit k <;> rfl
     rw [e, hp, cond_true]; rfl
    ·unfold playG_l1
     try dsimp only
     rw [hi, decide_eq_false (by omega : ¬ ((l.length : Nat) : Int) < ((l.length : Nat) : Int)), cond_false, decide_eq_true (Int.natCast_nonneg j), decide_eq_true (by omega : ((j : Nat) : Int) < ((l.length : Nat) : Int)), Bool.and_self, cond_true, X.hdo _ hI (by omega), Option.bind_some]
     cases hok : (X.dof t (ix l ((j : Nat) : Int))).2 with
     | false => rfl
     | true =>
      rw [Bool.not_true, cond_false, cond_true, bit_put D j hD14 (by omega), wrap_n1 n (by omega)]
      rfl
end Go.Proofs.Ytopomedppninoaa
end

section
namespace Go.Proofs.Ytopomedppninoaa
open Go Go.Sx
set_option linter.unusedVariables false
set_option linter.unusedSimpArgs false
section
variable {T : Type} {dof : T → GCall → T × Bool} {l : List GCall} {order : List Int}
theorem pb_none {D j : Nat} : firstIf (pb l D ((j : Nat) : Int)) l.length = none ↔ ∀ k ∈ left l D, k ≠ j → (cl l j).Begin ≤ (cl l k).End := by
 rw [firstIf_none]
 constructor
 ·intro h k hk hkj
  obtain ⟨h1, h2⟩ := left_iff.1 hk
  have := h k h1
  unfold pb at this
  rw [h2, bneT (by omega : ¬ ((k : Nat) : Int) = ((j : Nat) : Int))] at this
  simp at this; exact this
 ·intro h k hk
  unfold pb
  cases hb : D.testBit k with
  | true => rfl
  | false =>
   by_cases hkj : k = j
   ·subst hkj; simp
   ·have := h k (left_iff.2 ⟨hk, hb⟩) hkj
    simp; intro _; exact this
theorem legal_of_ordG : ∀ (d n D : Nat) (t : T), order.length = n + d → (left l D).length = d → (ordG dof l order d n D t).Code = 0 → ∃ σ, legal dof l t D σ ∧ order.drop n = σ.map (fun i => ((i : Nat) : Int))
 | 0, n, D, t, ho, hd, h => by
  have : left l D = [] := List.length_eq_zero_iff.1 hd
  exact ⟨[], ⟨by rw [this], List.Pairwise.nil, trivial⟩, by rw [List.drop_eq_nil_of_le (by omega)]; rfl⟩
 | d + 1, n, D, t, ho, hd, h => by
  unfold ordG at h
  have hlt : n < order.length := by omega
  have hdrop : order.drop n = ix order ((n : Nat) : Int) :: order.drop (n + 1) := by rw [drop_at hlt, ix_get hlt]
  simp only at h
  generalize ix order ((n : Nat) : Int) = i at h hdrop
  by_cases h1 : i < 0 ∨ ((l.length : Nat) : Int) ≤ i
  ·rw [if_pos h1] at h; cases h
  ·rw [if_neg h1] at h
   obtain ⟨j, rfl⟩ : ∃ j : Nat, i = ((j : Nat) : Int) := ⟨i.toNat, by omega⟩
   rw [Int.toNat_natCast] at h
   cases hb : D.testBit j with
   | true => rw [hb, if_pos rfl] at h; cases h
   | false =>
    rw [hb] at h
    simp only [Bool.false_eq_true, if_false] at h
    have hj : j ∈ left l D := left_iff.2 ⟨by omega, hb⟩
    cases hf : firstIf (pb l D ((j : Nat) : Int)) l.length with
    | some k => rw [hf] at h; cases h
    | none =>
     rw [hf] at h
     simp only at h
     cases hok : (dof t (ix l ((j : Nat) : Int))).2 with
     | false => rw [hok] at h; simp only [Bool.false_eq_true, if_false] at h; cases h
     | true =>
      rw [hok] at h
      simp only [if_true] at h
      have hlen := left_len hj
      obtain ⟨σ, h3, h4⟩ := legal_of_ordG d (n + 1) _ _ (by omega) (by omega) h
      exact ⟨j :: σ, legal_cons hj (pb_none.1 hf) hok h3, by rw [hdrop, h4]; rfl⟩
theorem ordG_of_legal : ∀ (σ : List Nat) (n D : Nat) (t : T), order.length = n + σ.length → legal dof l t D σ → order.drop n = σ.map (fun i => ((i : Nat) : Int)) → ordG dof l order σ.length n D t = ⟨0, 0⟩
 | [], n, D, t, ho, h, hd => rfl
 | j :: σ, n, D, t, ho, h, hd => by
  rcases legal_inv h with ⟨_, h1⟩ | ⟨i, σ', h1, hi, hb, ok, h2⟩
  ·cases h1
  ·cases h1
   rw [List.length_cons] at ho
   have hlt : n < order.length := by omega
   have hdrop : order.drop n = ix order ((n : Nat) : Int) :: order.drop (n + 1) := by rw [drop_at hlt, ix_get hlt]
   rw [hdrop, List.map_cons] at hd
   obtain ⟨e1, e2⟩ := List.cons.inj hd
   obtain ⟨hj, hjb⟩ := left_iff.1 hi
   rw [List.length_cons]
   unfold ordG
   simp only [e1, Int.toNat_natCast, hjb, Bool.false_eq_true, if_false]
   rw [if_neg (by omega), pb_none.2 hb]
   simp only
   rw [if_pos ok]
   exact ordG_of_legal σ (n + 1) _ _ (by omega) h2 e2
end
end Go.Proofs.Ytopomedppninoaa
end

section
namespace Go.Proofs.Ytopomedppninoaa
open Go Go.Sx
set_option linter.unusedVariables false
set_option linter.unusedSimpArgs false
def kof (k : Int) : Int := if k = 1 ∨ k = 2 then 1 else if k = 3 ∨ k = 4 ∨ k = 6 then 2 else if k = 5 then 3 else 0
theorem of_eq (k : Int) : linear_of k = some (kof k) := by
 unfold linear_of linear_of_j2 linear_of_j1 kof
 by_cases h1 : k = 1
 ·subst h1; rfl
 by_cases h2 : k = 2
 ·subst h2; rfl
 by_cases h3 : k = 3
 ·subst h3; rfl
 by_cases h4 : k = 4
 ·subst h4; rfl
 by_cases h6 : k = 6
 ·subst h6; rfl
 simp only [beqF h1, beqF h2, beqF h3, beqF h4, beqF h6, cond_false, h1, h2, h3, h4, h6, or_self, if_false]
 by_cases h5 : k = 5
 ·subst h5; rfl
 ·simp [h5, beqF h5]
def formB (k : Int) (a o r ok : Bool) : Bool := if k = 1 then o || (ok || r) else if k = 2 then a || (o || (!ok && r)) else if k = 3 then o || (r || ok) else if k = 4 then a || (o || ok) else if k = 5 then o || ok else r
def rangeB (c : GCall) : Bool := decide (c.Begin < 0) || (decide (c.End ≤ c.Begin) || decide ((1000000000 : Int) < c.End))
def callF (kind : Int) (c : GCall) (i : Int) : Option Fault := if kof c.Kind = kind then (if rangeB c then some ⟨3, i⟩ else if formB c.Kind (c.Arg != 0) (c.Old != 0) (c.Ret != 0) c.Ok then some ⟨5, i⟩ else none) else some ⟨4, i⟩
theorem kinds {kind k : Int} (hk : 1 ≤ kind ∧ kind ≤ 3) (h : kof k = kind) : k = 1 ∨ k = 2 ∨ k = 3 ∨ k = 4 ∨ k = 5 ∨ k = 6 := by
 unfold kof at h
 split at h
 ·omega
 ·split at h
  ·omega
  ·split at h
   ·omega
   ·omega
theorem check_step (kind : Int) (hk : 1 ≤ kind ∧ kind ≤ 3) (l : List GCall) (i : Nat) (hi : i < l.length) (hl : l.length < 4611686018427387904) :
  linear_Check_l1 kind l ((i : Nat) : Int) = (match callF kind (cl l i) ((i : Nat) : Int) with | some f => some (Sum.inr f) | none => some (Sum.inl ((i + 1 : Nat) : Int))) := by
 unfold linear_Check_l1 linear_Check_j1 callF
 rw [decide_eq_true (by omega : ((i : Nat) : Int) < ((l.length : Nat) : Int)), decide_eq_true (Int.natCast_nonneg i), Bool.and_self, cond_true, cond_true, of_eq, Option.bind_some, wrap_n1 i (by omega)]
 by_cases h4 : kof (cl l i).Kind = kind
 ·rw [bneF h4, cond_false, if_pos h4]
  have hr : (decide ((cl l i).Begin < 0) || (decide ((cl l i).End ≤ (cl l i).Begin) || decide ((1000000000 : Int) < (cl l i).End))) = rangeB (cl l i) := rfl
  rw [hr]
  cases rangeB (cl l i) with
  | true => rfl
  | false =>
   simp only [cond_false, Bool.false_eq_true, if_false]
   have hks := kinds hk h4
   generalize (cl l i).Kind = k at *
   generalize ((cl l i).Arg != 0) = a
   generalize ((cl l i).Old != 0) = o
   generalize ((cl l i).Ret != 0) = r
   generalize (cl l i).Ok = ok
   rcases hks with rfl | rfl | rfl | rfl | rfl | rfl <;> cases a <;> cases o <;> cases r <;> cases ok <;> rfl
 ·rw [bneT h4, cond_true, if_neg h4]; rfl
def chkF (kind : Int) (l : List GCall) : Fault := if 14 < l.length then ⟨2, 0⟩ else if kind < 1 ∨ 3 < kind then ⟨4, -1⟩ else (firstAt (fun i => callF kind (cl l i) ((i : Nat) : Int)) l.length).getD ⟨0, 0⟩
theorem check_eq (kind : Int) (l : List GCall) : linear_Check kind l = some (chkF kind l) := by
 unfold linear_Check chkF
 by_cases h : 14 < l.length
 ·rw [decide_eq_true (by omega), cond_true, if_pos h]; rfl
 ·rw [decide_eq_false (by omega), cond_false, if_neg h]
  by_cases h2 : kind < 1 ∨ 3 < kind
  ·have : (decide (kind < 1) || decide ((3 : Int) < kind)) = true := by simpa using h2
   rw [this, cond_true, if_pos h2]; rfl
  ·have : (decide (kind < 1) || decide ((3 : Int) < kind)) = false := by simp only [Bool.or_eq_false_iff, decide_eq_false_iff_not]; omega
   rw [this, cond_false, if_neg h2]
   have hs := fun i hi => check_step kind (by omega) l i hi (by omega)
   refine loopO_findD (fun i => ((i : Nat) : Int)) _ _ l.length (fun i hi hb => ?_) (fun i r hi hb => ?_) (fun _ => ?_)
   ·rw [hs i hi]; simp only [hb]
   ·rw [hs i hi]; simp only [hb]
   ·unfold linear_Check_l1; rw [decide_eq_false (by omega), cond_false]; rfl
theorem chk_ok {kind : Int} {l : List GCall} : (chkF kind l).Code = 0 ↔ l.length ≤ 14 ∧ (1 ≤ kind ∧ kind ≤ 3) ∧ ∀ i, i < l.length → callF kind (cl l i) 0 = none := by
 have hcf : ∀ c i, callF kind c i = none ↔ callF kind c 0 = none := fun c i => by
  unfold callF
  split
  ·split
   ·simp
   ·split <;> simp
  ·simp
 unfold chkF
 split
 ·constructor
  ·intro h; cases h
  ·intro h; omega
 ·split
  ·constructor
   ·intro h; cases h
   ·intro h; omega
  ·constructor
   ·intro h
    refine ⟨by omega, by omega, fun i hi => ?_⟩
    cases hf : firstAt (fun i => callF kind (cl l i) ((i : Nat) : Int)) l.length with
    | none => exact (hcf _ _).1 ((firstAt_none _).1 hf i hi)
    | some f =>
     rw [hf] at h
     obtain ⟨j, hj, hfj, _⟩ := firstAt_some _ hf
     simp only [Option.getD_some] at h
     unfold callF at hfj
     split at hfj
     ·split at hfj
      ·cases hfj; cases h
      ·split at hfj <;> cases hfj; cases h
     ·cases hfj; cases h
   ·intro ⟨_, _, h⟩
    rw [(firstAt_none _).2 fun i hi => (hcf _ _).2 (h i hi)]; rfl
theorem callF_ok {kind : Int} {c : GCall} : callF kind c 0 = none ↔ kof c.Kind = kind ∧ rangeB c = false ∧ formB c.Kind (c.Arg != 0) (c.Old != 0) (c.Ret != 0) c.Ok = false := by
 unfold callF
 by_cases h1 : kof c.Kind = kind
 ·rw [if_pos h1]
  cases rangeB c with
  | true => simp
  | false => simp [h1]
 ·rw [if_neg h1]; simp [h1]
theorem range_ok {c : GCall} : rangeB c = false ↔ 0 ≤ c.Begin ∧ c.Begin < c.End ∧ c.End ≤ 1000000000 := by
 unfold rangeB
 simp only [Bool.or_eq_false_iff, decide_eq_false_iff_not]
 omega
theorem put0_inj {a b : List Int} (h1 : a.length ≤ 14) (h2 : b.length ≤ 14) (hl : a.length = b.length) (h : VArr.put0 (default : VArr 14) a = VArr.put0 (default : VArr 14) b) : a = b := by
 have e := congrArg (fun v : VArr 14 => v.l.take a.length) h
 unfold VArr.put0 at e
 simp only [List.take_take, Nat.min_eq_left h1] at e
 rw [List.take_append_of_le_length (Nat.le_refl _), List.take_length, hl, List.take_append_of_le_length (Nat.le_refl _), List.take_length] at e
 exact e
noncomputable def TQ : Thing (List Int) where
 dop := linear_queue_do
 keyf := linear_key
 dof := qdo
 key := fun t D => ⟨D, ((t.length : Nat) : Int), VArr.put0 (default : VArr 14) t⟩
 Inv := fun t k => t.length ≤ k
 hdo := fun c h hk => q_eq _ c (by omega)
 hst := fun c h => Nat.le_trans (qdo_len _ c) (Nat.add_le_add_right h 1)
 hkey := fun D h hk => by unfold linear_key; rw [decide_eq_true (by omega), cond_true]
 hinj := fun h hk h' hk' e => by
  simp only [place.mk.injEq] at e
  obtain ⟨e1, e2, e3⟩ := e
  exact ⟨put0_inj (by omega) (by omega) (by omega) e3, e1⟩
noncomputable def TR : Thing Int where
 dop := linear_register_do
 keyf := linear_key_1
 dof := rdo
 key := fun t D => ⟨D, t, default⟩
 Inv := fun _ _ => True
 hdo := fun c _ _ => r_eq _ c
 hst := fun _ _ => trivial
 hkey := fun _ _ _ => rfl
 hinj := fun _ _ _ _ e => by
  simp only [place.mk.injEq] at e
  exact ⟨e.2.1, e.1⟩
noncomputable def TC : Thing Int where
 dop := linear_counter_do
 keyf := linear_key_2
 dof := cdo
 key := fun t D => ⟨D, t, default⟩
 Inv := fun _ _ => True
 hdo := fun c _ _ => c_eq _ c
 hst := fun _ _ => trivial
 hkey := fun _ _ _ => rfl
 hinj := fun _ _ _ _ e => by
  simp only [place.mk.injEq] at e
  exact ⟨e.2.1, e.1⟩
structure Alike {T : Type} (dof : T → GCall → T × Bool) (ok : GCall → Prop) (rel : T → List Int → Prop) : Prop where
 step : ∀ {t q c}, rel t q → ok c → (dof t c).2 = (tdo q c).2 ∧ rel (dof t c).1 (tdo q c).1
theorem alikeQ : Alike qdo (fun c => c.Kind = 1 ∨ c.Kind = 2) (fun t q => t = q) := ⟨fun {t q c} h hc => by
 subst h; unfold tdo; rw [if_pos hc]; exact ⟨rfl, rfl⟩⟩
theorem alikeR : Alike rdo (fun c => c.Kind = 3 ∨ c.Kind = 4 ∨ c.Kind = 6) (fun t q => t = q.headD 0) := ⟨fun {t q c} h hc => by
 subst h
 generalize hn : q.headD 0 = n
 rcases hc with hc | hc | hc
 ·simp [rdo, tdo, hc]
 ·simp only [rdo, tdo, hc, hn]; simpa using hn.symm
 ·by_cases h5 : n = c.Old
  ·simp only [rdo, tdo, hc, hn, h5]; simp
  ·simp only [rdo, tdo, hc, hn, h5]; simpa using hn.symm⟩
theorem alikeC : Alike cdo (fun c => c.Kind = 5) (fun t q => t = q.headD 0) := ⟨fun {t q c} h hc => by
 subst h
 simp [cdo, tdo, hc]⟩
theorem runs_alike {T : Type} {dof : T → GCall → T × Bool} {ok : GCall → Prop} {rel : T → List Int → Prop} (A : Alike dof ok rel) : ∀ (cs : List GCall) (t : T) (q : List Int), rel t q → (∀ c ∈ cs, ok c) → (runs dof t cs ↔ runs tdo q cs)
 | [], _, _, _, _ => Iff.rfl
 | c :: cs, t, q, h, hc => by
  obtain ⟨h1, h2⟩ := A.step h (hc c (by simp))
  unfold runs
  rw [h1, runs_alike A cs _ _ h2 fun c hc' => hc c (by simp [hc'])]
theorem legal_alike {T : Type} {dof : T → GCall → T × Bool} {ok : GCall → Prop} {rel : T → List Int → Prop} (A : Alike dof ok rel) {l : List GCall} (hl : ∀ i, i < l.length → ok (cl l i)) {t : T} {q : List Int} (h : rel t q) (D : Nat) (σ : List Nat) : legal dof l t D σ ↔ legal tdo l q D σ := by
 unfold legal
 constructor
 ·rintro ⟨h1, h2, h3⟩
  refine ⟨h1, h2, (runs_alike A _ _ _ h fun c hc => ?_).1 h3⟩
  obtain ⟨i, hi, rfl⟩ := List.mem_map.1 hc
  exact hl i (left_iff.1 (h1.mem_iff.1 hi)).1
 ·rintro ⟨h1, h2, h3⟩
  refine ⟨h1, h2, (runs_alike A _ _ _ h fun c hc => ?_).2 h3⟩
  obtain ⟨i, hi, rfl⟩ := List.mem_map.1 hc
  exact hl i (left_iff.1 (h1.mem_iff.1 hi)).1
theorem ordG_alike {T : Type} {dof : T → GCall → T × Bool} {ok : GCall → Prop} {rel : T → List Int → Prop} (A : Alike dof ok rel) {l : List GCall} (hl : ∀ i, i < l.length → ok (cl l i)) (order : List Int) : ∀ (d n D : Nat) (t : T) (q : List Int), rel t q → ordG dof l order d n D t = ordG tdo l order d n D q
 | 0, _, _, _, _, _ => rfl
 | d + 1, n, D, t, q, h => by
  unfold ordG
  simp only
  split
  ·rfl
  ·rename_i h1
   obtain ⟨j, hj⟩ : ∃ j : Nat, ix order ((n : Nat) : Int) = ((j : Nat) : Int) := ⟨(ix order ((n : Nat) : Int)).toNat, by omega⟩
   rw [hj] at h1 ⊢
   obtain ⟨h2, h3⟩ := A.step h (hl j (by omega))
   rw [h2]
   split
   ·rfl
   ·split
    ·rfl
    ·split
     ·exact ordG_alike A hl order d (n + 1) _ _ _ h3
     ·rfl
end Go.Proofs.Ytopomedppninoaa
end

section
namespace Go.Proofs.Ytopomedppninoaa
open Go Go.Sx
set_option linter.unusedVariables false
set_option linter.unusedSimpArgs false
theorem left_zero (l : List GCall) : left l 0 = List.range l.length := by
 unfold left
 rw [List.filter_eq_self]
 intro i _
 simp
theorem find_gen {T : Type} (X : Thing T) {ok : GCall → Prop} {rel : T → List Int → Prop} (A : Alike X.dof ok rel) {kind : Int} {l : List GCall} (hc : (chkF kind l).Code = 0) (hok : ∀ c : GCall, kof c.Kind = kind → ok c) (t : T) (hI : X.Inv t 0) (hrel : rel t []) :
  ∃ r, fromG_n X.dop X.keyf 5000 t 0 l [] [] = some r ∧ r.2.1 = l ∧ ((r.1 = true ∧ ∃ σ, legal tdo l [] 0 σ ∧ r.2.2.1 = σ.map (fun i => ((i : Nat) : Int))) ∨ (r.1 = false ∧ ¬ Can tdo l [] 0)) := by
 obtain ⟨h1, h2, h3⟩ := chk_ok.1 hc
 have hl : ∀ i, i < l.length → ok (cl l i) := fun i hi => hok _ (callF_ok.1 (h3 i hi)).1
 have hll : (left l 0).length = l.length := by rw [left_zero, List.length_range]
 obtain ⟨r, hr, hrl, hrr⟩ := search X (l := l) h1 (fun i hi => by
  have := range_ok.1 (callF_ok.1 (h3 i hi)).2.1
  omega) 5000 t 0 [] [] (Nat.two_pow_pos _) (by rw [hll, Nat.sub_self]; exact hI) (fun t D _ _ h => by simp [meGet] at h) (by omega) (by rw [hll]; simpa using h1)
 refine ⟨r, hr, hrl, ?_⟩
 rcases hrr with ⟨e, σ, hσ, ho⟩ | ⟨e, _, _, hC⟩
 ·exact .inl ⟨e, σ, (legal_alike A hl hrel 0 σ).1 hσ, by simpa using ho⟩
 ·exact .inr ⟨e, fun ⟨σ, hσ⟩ => hC ⟨σ, (legal_alike A hl hrel 0 σ).2 hσ⟩⟩
theorem kof1 {k : Int} (h : kof k = 1) : k = 1 ∨ k = 2 := by
 unfold kof at h; split at h
 ·assumption
 ·split at h
  ·omega
  ·split at h <;> omega
theorem kof2 {k : Int} (h : kof k = 2) : k = 3 ∨ k = 4 ∨ k = 6 := by
 unfold kof at h; split at h
 ·omega
 ·split at h
  ·assumption
  ·split at h <;> omega
theorem kof3 {k : Int} (h : kof k = 3) : k = 5 := by
 unfold kof at h; split at h
 ·omega
 ·split at h
  ·omega
  ·split at h
   ·assumption
   ·omega
theorem find_eq {kind : Int} {l : List GCall} (hc : (chkF kind l).Code = 0) : ∃ r, linear_Find kind l = some r ∧ ((r.1 = ⟨0, 0⟩ ∧ ∃ σ, legal tdo l [] 0 σ ∧ r.2 = σ.map (fun i => ((i : Nat) : Int))) ∨ (r.1 = ⟨6, 0⟩ ∧ r.2 = [] ∧ ¬ Can tdo l [] 0)) := by
 obtain ⟨_, hk, _⟩ := chk_ok.1 hc
 unfold linear_Find
 rw [check_eq, Option.bind_some, bneF hc, cond_false]
 by_cases k1 : kind = 1
 ·subst k1
  obtain ⟨r, hr, hrl, hrr⟩ := find_gen TQ alikeQ hc (fun c h => kof1 h) [] (Nat.le_refl _) rfl
  rw [beqT rfl, cond_true]
  show ∃ r', ((linear_search_from [] 0 l [] []).bind fun r2277 => _) = some r' ∧ _
  unfold linear_search_from
  rw [fromQ, show fromG_n linear_queue_do linear_key 5000 [] 0 l [] [] = some r from hr, Option.bind_some]
  rcases hrr with ⟨e, σ, h1, h2⟩ | ⟨e, h1⟩
  ·rw [e]; exact ⟨_, rfl, .inl ⟨rfl, σ, h1, h2⟩⟩
  ·rw [e]; exact ⟨_, rfl, .inr ⟨rfl, rfl, h1⟩⟩
 ·rw [beqF k1, cond_false]
  by_cases k2 : kind = 2
  ·subst k2
   obtain ⟨r, hr, hrl, hrr⟩ := find_gen TR alikeR hc (fun c h => kof2 h) 0 trivial rfl
   rw [beqT rfl, cond_true]
   show ∃ r', ((linear_search_from_3 0 0 l [] []).bind fun r2277 => _) = some r' ∧ _
   unfold linear_search_from_3
   rw [fromR, show fromG_n linear_register_do linear_key_1 5000 0 0 l [] [] = some r from hr, Option.bind_some]
   rcases hrr with ⟨e, σ, h1, h2⟩ | ⟨e, h1⟩
   ·rw [e]; exact ⟨_, rfl, .inl ⟨rfl, σ, h1, h2⟩⟩
   ·rw [e]; exact ⟨_, rfl, .inr ⟨rfl, rfl, h1⟩⟩
  ·rw [beqF k2, cond_false]
   have k3 : kind = 3 := by omega
   subst k3
   obtain ⟨r, hr, hrl, hrr⟩ := find_gen TC alikeC hc (fun c h => kof3 h) 0 trivial rfl
   show ∃ r', ((linear_search_from_6 0 0 l [] []).bind fun r2277 => _) = some r' ∧ _
   unfold linear_search_from_6
   rw [fromC, show fromG_n linear_counter_do linear_key_2 5000 0 0 l [] [] = some r from hr, Option.bind_some]
   rcases hrr with ⟨e, σ, h1, h2⟩ | ⟨e, h1⟩
   ·rw [e]; exact ⟨_, rfl, .inl ⟨rfl, σ, h1, h2⟩⟩
   ·rw [e]; exact ⟨_, rfl, .inr ⟨rfl, rfl, h1⟩⟩
theorem play_full {kind : Int} {l : List GCall} (hc : (chkF kind l).Code = 0) (order : List Int) : linear_Play kind l order = some (if order.length = l.length then ordG tdo l order order.length 0 0 [] else ⟨8, 0⟩) := by
 obtain ⟨hn, hk, h3⟩ := chk_ok.1 hc
 unfold linear_Play
 rw [check_eq, Option.bind_some, bneF hc, cond_false]
 by_cases ho : order.length = l.length
 ·rw [bneF (by omega), cond_false, if_pos ho]
  by_cases k1 : kind = 1
  ·subst k1
   rw [beqT rfl, cond_true]
   have := play_eq TQ hn order ho [] (Nat.le_refl _)
   have e := ordG_alike alikeQ (fun i hi => kof1 (callF_ok.1 (h3 i hi)).1) order order.length 0 0 [] [] rfl
   exact this.trans (congrArg some e)
  ·rw [beqF k1, cond_false]
   by_cases k2 : kind = 2
   ·subst k2
    rw [beqT rfl, cond_true]
    have := play_eq TR hn order ho 0 trivial
    have e := ordG_alike alikeR (fun i hi => kof2 (callF_ok.1 (h3 i hi)).1) order order.length 0 0 0 [] rfl
    exact this.trans (congrArg some e)
   ·rw [beqF k2, cond_false]
    have k3 : kind = 3 := by omega
    subst k3
    have := play_eq TC hn order ho 0 trivial
    have e := ordG_alike alikeC (fun i hi => kof3 (callF_ok.1 (h3 i hi)).1) order order.length 0 0 0 [] rfl
    exact this.trans (congrArg some e)
 ·rw [bneT (by omega), cond_true, if_neg ho]; rfl
theorem play_no {kind : Int} {l : List GCall} (hc : ¬ (chkF kind l).Code = 0) (order : List Int) : linear_Play kind l order = some (chkF kind l) := by
 unfold linear_Play
 rw [check_eq, Option.bind_some, bneT hc, cond_true]
theorem legal_zero {l : List GCall} {σ : List Nat} (h : legal tdo l [] 0 σ) : ordG tdo l (σ.map fun i => ((i : Nat) : Int)) (σ.map fun i => ((i : Nat) : Int)).length 0 0 [] = ⟨0, 0⟩ := by
 rw [List.length_map]
 exact ordG_of_legal σ 0 0 [] (by simp) h (by simp)
def exL : List GCall := [⟨0, 2, 1, 1, 0, 0, false⟩, ⟨1, 3, 1, 2, 0, 0, false⟩, ⟨4, 5, 2, 0, 0, 2, true⟩]
theorem ex_chk : (chkF 1 exL).Code = 0 := by decide
theorem mem3 {D i : Nat} (h : i ∈ left exL D) : i = 0 ∨ i = 1 ∨ i = 2 := by
 have := (left_iff.1 h).1
 have : exL.length = 3 := rfl
 omega
theorem ex_order : ∀ σ, legal tdo exL [] 0 σ → σ = [1, 0, 2] := by
 intro σ h
 rcases legal_inv h with ⟨h0, _⟩ | ⟨i, σ1, rfl, hi, hb, ok, h1⟩
 ·exact absurd h0 (by decide)
 rcases mem3 hi with rfl | rfl | rfl
 ·-- the first value first: then it is not taken
  rcases legal_inv h1 with ⟨h0, _⟩ | ⟨j, σ2, rfl, hj, hb2, ok2, h2⟩
  ·exact absurd h0 (by decide)
  rcases mem3 hj with rfl | rfl | rfl
  ·exact absurd hj (by decide)
  ·rcases legal_inv h2 with ⟨h0, _⟩ | ⟨k, σ3, rfl, hk, hb3, ok3, h3⟩
   ·exact absurd h0 (by decide)
   rcases mem3 hk with rfl | rfl | rfl
   ·exact absurd hk (by decide)
   ·exact absurd hk (by decide)
   ·exact absurd ok3 (by decide)
  ·exact absurd (hb2 1 (by decide) (by decide)) (by decide)
 ·rcases legal_inv h1 with ⟨h0, _⟩ | ⟨j, σ2, rfl, hj, hb2, ok2, h2⟩
  ·exact absurd h0 (by decide)
  rcases mem3 hj with rfl | rfl | rfl
  ·rcases legal_inv h2 with ⟨h0, _⟩ | ⟨k, σ3, rfl, hk, hb3, ok3, h3⟩
   ·exact absurd h0 (by decide)
   rcases mem3 hk with rfl | rfl | rfl
   ·exact absurd hk (by decide)
   ·exact absurd hk (by decide)
   ·rcases legal_inv h3 with ⟨_, rfl⟩ | ⟨m, σ4, rfl, hm, _⟩
    ·rfl
    ·rcases mem3 hm with rfl | rfl | rfl <;> exact absurd hm (by decide)
  ·exact absurd hj (by decide)
  ·exact absurd (hb2 0 (by decide) (by decide)) (by decide)
 ·exact absurd (hb 0 (by decide) (by decide)) (by decide)
theorem ex_can : Can tdo exL [] 0 := ⟨[1, 0, 2], by decide, by simp only [List.map_cons, List.map_nil, List.pairwise_cons]; exact ⟨fun c hc => by simp only [List.mem_cons, List.not_mem_nil, or_false] at hc; rcases hc with rfl | rfl <;> (unfold Rb; decide), fun c hc => by simp only [List.mem_cons, List.not_mem_nil, or_false] at hc; subst hc; (unfold Rb; decide), fun c hc => by simp at hc, List.Pairwise.nil⟩, by decide, by decide, by decide, trivial⟩
theorem ints_eq (a b : List Int) (hb : a.length < 4611686018427387904) : taskmillref_Ints a b = some (decide (a = b)) := by
 unfold taskmillref_Ints
 by_cases h : a.length = b.length
 ·rw [bneF (by omega), cond_false]
  exact ints_gen a b h hb (fun i => rfl)
 ·rw [bneT (by omega), cond_true]
  have : ¬ a = b := fun e => h (by rw [e])
  rw [decide_eq_false this]
theorem begun_eq : taskmilllaw_linearBegun = some true := by
 unfold taskmilllaw_linearBegun
 rw [show ([(GCall.mk (0 : Int) (2 : Int) (1 : Int) (1 : Int) (0 : Int) (0 : Int) false), (GCall.mk (1 : Int) (3 : Int) (1 : Int) (2 : Int) (0 : Int) (0 : Int) false), (GCall.mk (4 : Int) (5 : Int) (2 : Int) (0 : Int) (0 : Int) (2 : Int) true)] : List GCall) = exL from rfl]
 obtain ⟨r, hr, hrr⟩ := find_eq ex_chk
 rw [hr, Option.bind_some]
 rcases hrr with ⟨e, σ, hσ, ho⟩ | ⟨_, _, hC⟩
 ·rw [e, ho, ex_order σ hσ, beqT rfl, cond_true, ints_eq _ _ (by decide)]; rfl
 ·exact absurd ex_can hC
theorem own_eq (l : List GCall) (h : l.length ≤ 100) : taskmilllaw_ownCalls l = some l := by
 unfold taskmilllaw_ownCalls
 rw [decide_eq_true (by omega), cond_true]
end Go.Proofs.Ytopomedppninoaa
end

section
namespace Go.Proofs.Ytopomedppninoaa
open Go Go.Sx
set_option linter.unusedVariables false
set_option linter.unusedSimpArgs false
end Go.Proofs.Ytopomedppninoaa
end

section
namespace Go.Proofs.Ytopomedppninoaa
open Go Go.Sx
set_option linter.unusedVariables false
set_option linter.unusedSimpArgs false
theorem map_cl (l : List GCall) : (List.range l.length).map (cl l) = l := by
 apply List.ext_getElem (by simp)
 intro i h1 h2
 simp only [List.getElem_map, List.getElem_range]
 exact ix_get h2
def widC (a b : Int) (i : Nat) (c : GCall) : GCall := if i % 2 = 0 then { c with Begin := max 0 (c.Begin - a) } else { c with End := c.End + b }
def widL (a b : Int) (l : List GCall) (n : Nat) : List GCall := (List.range l.length).map fun i => if i < n then widC a b i (cl l i) else cl l i
theorem widL_len (a b : Int) (l : List GCall) (n : Nat) : (widL a b l n).length = l.length := by simp [widL]
theorem widL_at (a b : Int) (l : List GCall) (n i : Nat) (h : i < l.length) : ix (widL a b l n) ((i : Nat) : Int) = if i < n then widC a b i (cl l i) else cl l i := by
 rw [ix_get (by rw [widL_len]; exact h)]
 simp [widL]
theorem widL_set (a b : Int) (l : List GCall) (i : Nat) (h : i < l.length) : (widL a b l i).set i (widC a b i (cl l i)) = widL a b l (i + 1) := by
 apply List.ext_getElem (by simp [widL])
 intro j h1 h2
 rw [List.getElem_set]
 simp only [widL, List.getElem_map, List.getElem_range]
 by_cases hij : i = j
 ·subst hij; rw [if_pos rfl, if_pos (by omega)]
 ·rw [if_neg hij]
  by_cases hj : j < i
  ·rw [if_pos hj, if_pos (by omega)]
  ·rw [if_neg hj, if_neg (by omega)]
theorem widL_zero (a b : Int) (l : List GCall) : widL a b l 0 = l := by
 unfold widL
 conv => rhs; rw [← map_cl l]
 apply List.map_congr_left
 intro i _
 rw [if_neg (by omega)]
theorem tdo_wid (q : List Int) (a b : Int) (i : Nat) (c : GCall) : tdo q (widC a b i c) = tdo q c := by
 unfold widC; split <;> rfl
theorem runs_wid (a b : Int) (f : Nat → GCall) : ∀ (σ : List Nat) (q : List Int), runs tdo q (σ.map fun i => widC a b i (f i)) ↔ runs tdo q (σ.map f)
 | [], q => Iff.rfl
 | i :: σ, q => by
  simp only [List.map_cons, runs, tdo_wid]
  rw [runs_wid a b f σ]
theorem wider_law (kind : Int) (l : List GCall) (order : List Int) (a b : Int) : taskmilllaw_LinearWider kind l order a b = some true := by
 unfold taskmilllaw_LinearWider
 rw [begun_eq, Option.bind_some, Bool.not_true, cond_false]
 by_cases h : 14 < l.length ∨ 100 < order.length ∨ a < 0 ∨ b < 0 ∨ 1000 < a ∨ 1000 < b
 ·have : (decide ((14 : Int) < ((l.length : Nat) : Int)) || (decide ((100 : Int) < ((order.length : Nat) : Int)) || (decide (a < 0) || (decide (b < 0) || (decide ((1000 : Int) < a) || decide ((1000 : Int) < b)))))) = true := by
   simp only [Bool.or_eq_true, decide_eq_true_eq]; omega
  rw [this, cond_true]
 ·have : (decide ((14 : Int) < ((l.length : Nat) : Int)) || (decide ((100 : Int) < ((order.length : Nat) : Int)) || (decide (a < 0) || (decide (b < 0) || (decide ((1000 : Int) < a) || decide ((1000 : Int) < b)))))) = false := by
   simp only [Bool.or_eq_false_iff, decide_eq_false_iff_not]; omega
  rw [this, cond_false]
  by_cases hc : (chkF kind l).Code = 0
  ·obtain ⟨hn, hk, h3⟩ := chk_ok.1 hc
   rw [play_full hc, Option.bind_some]
   by_cases ho : order.length = l.length
   ·rw [if_pos ho]
    by_cases hz : (ordG tdo l order order.length 0 0 []).Code = 0
    ·rw [bneF hz, cond_false, own_eq l (by omega), Option.bind_some]
     obtain ⟨σ, hσ, hord⟩ := legal_of_ordG order.length 0 0 [] (by omega) (by rw [left_zero, List.length_range, ho]) hz
     rw [List.drop_zero] at hord
     have hval : ∀ i, i < l.length → 0 ≤ (cl l i).Begin ∧ (cl l i).Begin < (cl l i).End ∧ (cl l i).End ≤ 1000000000 := fun i hi => range_ok.1 (callF_ok.1 (h3 i hi)).2.1
     have hres : ∃ r, loopO (taskmilllaw_LinearWider_l1 kind order a b) (0, l) = some r ∧ r = true := by
      refine loopO_inv (fun s => ∃ i : Nat, s = (((i : Nat) : Int), widL a b l i) ∧ i ≤ l.length ∧ ∀ j, j < i → j % 2 = 1 → (cl l j).End + b ≤ 1000000000) (fun s => l.length - s.1.toNat) (fun r => r = true) (fun s hs => ?_) ⟨0, by rw [widL_zero]; rfl, Nat.zero_le _, fun j hj => by omega⟩
      obtain ⟨i, rfl, hi, hodd⟩ := hs
      unfold taskmilllaw_LinearWider_l1 taskmilllaw_LinearWider_j1
      dsimp only
      rw [widL_len]
      by_cases hil : i < l.length
      ·obtain ⟨v1, v2, v3⟩ := hval i hil
       have hat := widL_at a b l i i hil
       rw [if_neg (by omega)] at hat
       rw [decide_eq_true (by omega : ((i : Nat) : Int) < ((l.length : Nat) : Int)), cond_true, decide_eq_true (Int.natCast_nonneg i), Bool.and_self, cond_true, cond_true, cond_true, cond_true, Int.toNat_natCast, List.length_set, widL_len, decide_eq_true (by omega : ((i : Nat) : Int) < ((l.length : Nat) : Int)), Bool.and_self, cond_true, cond_true, hat]
       have hset : ∀ c : GCall, ix ((widL a b l i).set i c) ((i : Nat) : Int) = c := fun c => by
        rw [ix_get (by rw [List.length_set, widL_len]; exact hil)]; simp
       rw [hset, hset]
       by_cases hev : i % 2 = 0
       ·have e2 : (Int.tmod ((i : Nat) : Int) 2 == 0) = true := by
         rw [beq_iff_eq, show Int.tmod ((i : Nat) : Int) 2 = ((i % 2 : Nat) : Int) from rfl]; omega
        rw [e2, cond_true]
        left
        have hw : IntKind.i64.wrap ((cl l i).Begin - a) = (cl l i).Begin - a := wrap_id (by omega) (by omega)
        rw [hw]
        have hwid : widC a b i (cl l i) = { cl l i with Begin := max 0 ((cl l i).Begin - a) } := by unfold widC; rw [if_pos hev]
        by_cases hneg : (cl l i).Begin - a < 0
        ·rw [decide_eq_true hneg, cond_true, wrap_n1 i (by omega), List.set_set]
         refine ⟨_, rfl, ⟨i + 1, ?_, hil, fun j hj hjo => ?_⟩, by simp only [Int.toNat_natCast]; omega⟩
         ·rw [← widL_set a b l i hil, hwid, show max 0 ((cl l i).Begin - a) = 0 by omega]
         ·by_cases hji : j = i
          ·omega
          ·exact hodd j (by omega) hjo
        ·rw [decide_eq_false hneg, cond_false, wrap_n1 i (by omega)]
         refine ⟨_, rfl, ⟨i + 1, ?_, hil, fun j hj hjo => ?_⟩, by simp only [Int.toNat_natCast]; omega⟩
         ·rw [← widL_set a b l i hil, hwid, show max 0 ((cl l i).Begin - a) = (cl l i).Begin - a by omega]
         ·by_cases hji : j = i
          ·omega
          ·exact hodd j (by omega) hjo
       ·have e2 : (Int.tmod ((i : Nat) : Int) 2 == 0) = false := by
         rw [beq_eq_false_iff_ne, show Int.tmod ((i : Nat) : Int) 2 = ((i % 2 : Nat) : Int) from rfl]; omega
        rw [e2, cond_false, List.length_set, widL_len, decide_eq_true (by omega : ((i : Nat) : Int) < ((l.length : Nat) : Int)), Bool.and_self, cond_true]
        have hw : IntKind.i64.wrap ((cl l i).End + b) = (cl l i).End + b := wrap_id (by omega) (by omega)
        rw [hw]
        have hwid : widC a b i (cl l i) = { cl l i with End := (cl l i).End + b } := by unfold widC; rw [if_neg hev]
        by_cases hbig : 1000000000 < (cl l i).End + b
        ·rw [decide_eq_true hbig, cond_true]
         right; exact ⟨true, rfl, rfl⟩
        ·rw [decide_eq_false hbig, cond_false, wrap_n1 i (by omega)]
         left
         refine ⟨_, rfl, ⟨i + 1, ?_, hil, fun j hj hjo => ?_⟩, by simp only [Int.toNat_natCast]; omega⟩
         ·rw [← widL_set a b l i hil, hwid]
         ·by_cases hji : j = i
          ·subst hji; omega
          ·exact hodd j (by omega) hjo
      ·have hi' : i = l.length := by omega
       subst hi'
       rw [decide_eq_false (by omega : ¬ ((l.length : Nat) : Int) < ((l.length : Nat) : Int)), cond_false]
       right
       have hat : ∀ i, i < l.length → cl (widL a b l l.length) i = widC a b i (cl l i) := fun i hi => by rw [show cl (widL a b l l.length) i = _ from widL_at a b l l.length i hi, if_pos hi]
       have hcm : (chkF kind (widL a b l l.length)).Code = 0 := by
        refine chk_ok.2 ⟨by rw [widL_len]; exact hn, hk, fun i hi => ?_⟩
        rw [widL_len] at hi
        rw [hat i hi, callF_ok]
        obtain ⟨u1, u2, u3⟩ := callF_ok.1 (h3 i hi)
        obtain ⟨v1, v2, v3⟩ := hval i hi
        unfold widC
        split
        ·rename_i hev
         refine ⟨u1, range_ok.2 ⟨?_, ?_, v3⟩, u3⟩
         ·show 0 ≤ max 0 _; omega
         ·show max 0 _ < (cl l i).End; omega
        ·rename_i hev
         refine ⟨u1, range_ok.2 ⟨v1, ?_, ?_⟩, u3⟩
         ·show (cl l i).Begin < (cl l i).End + b; omega
         ·show (cl l i).End + b ≤ _; exact hodd i hi (by omega)
       have hmem : ∀ i ∈ σ, i < l.length := fun i hi => by
        have := hσ.1.mem_iff.1 hi
        rw [left_zero] at this; exact List.mem_range.1 this
       have hmap : σ.map (cl (widL a b l l.length)) = σ.map fun i => widC a b i (cl l i) := List.map_congr_left fun i hi => hat i (hmem i hi)
       have hleg : legal tdo (widL a b l l.length) [] 0 σ := by
        refine ⟨?_, ?_, ?_⟩
        ·rw [left_zero, widL_len, ← left_zero]; exact hσ.1
        ·rw [hmap]
         have := hσ.2.1
         rw [List.pairwise_map] at this ⊢
         refine this.imp_of_mem fun {i j} hi hj hR => ?_
         have w1 : (widC a b i (cl l i)).Begin ≤ (cl l i).Begin := by
          have := hval i (hmem i hi)
          unfold widC; split
          ·show max 0 _ ≤ _; omega
          ·exact Int.le_refl _
         have w2 : (cl l j).End ≤ (widC a b j (cl l j)).End := by
          unfold widC; split
          ·exact Int.le_refl _
          ·show _ ≤ (cl l j).End + b; omega
         exact Int.le_trans w1 (Int.le_trans hR w2)
        ·rw [hmap, runs_wid]; exact hσ.2.2
       obtain ⟨r2, hr2, hrr2⟩ := find_eq hcm
       rw [hr2, Option.bind_some, play_full hcm, Option.bind_some, if_pos (by rw [widL_len]; exact ho), hord, legal_zero hleg]
       rcases hrr2 with ⟨e2, _⟩ | ⟨_, _, hC⟩
       ·rw [e2]; exact ⟨true, rfl, rfl⟩
       ·exact absurd ⟨σ, hleg⟩ hC
     obtain ⟨r, hr, rfl⟩ := hres
     exact hr
    ·rw [bneT hz, cond_true]
   ·rw [if_neg ho]; rfl
  ·rw [play_no hc, Option.bind_some, bneT hc, cond_true]
end Go.Proofs.Ytopomedppninoaa
end
