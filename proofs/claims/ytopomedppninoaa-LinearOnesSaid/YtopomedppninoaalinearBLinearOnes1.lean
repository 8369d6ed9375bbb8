/-
 Lemmas, put together: QA, QB, QC, linearP, linearP2, linearP3, linearP4, linearP5, linearP6, linearP7, linearP8, linearP9, linearP10.
 No conditions.
-/
import Derived.Test.YtopomedppninoaalinearA3
import Derived.Test.YtopomedppninoaalinearG
set_option linter.unusedSimpArgs false
set_option linter.unusedVariables false
section
namespace Go.Sx
open Go
set_option linter.unusedVariables false
theorem wrap_id {x : Int} (h1 : -9223372036854775808 ≤ x) (h2 : x ≤ 9223372036854775807) : IntKind.i64.wrap x = x := by
 simp only [IntKind.wrap, IntKind.bits, IntKind.signed, if_true]
 simp
 omega
theorem wf64 {x : Int} (h : (Lit.int .i64 x).wf = true) : -9223372036854775808 ≤ x ∧ x ≤ 9223372036854775807 := by
 simpa [Lit.wf, IntKind.min, IntKind.max, IntKind.signed, IntKind.bits] using h
theorem wrap_n1 (i : Nat) (h : i < 4611686018427387904) : IntKind.i64.wrap ((i : Int) + 1) = ((i + 1 : Nat) : Int) := by
 rw [wrap_id (by omega) (by omega)]; rfl
theorem loopO_inv {S ρ : Type} {step : S → Option (S ⊕ ρ)} (I : S → Prop) (mu : S → Nat) (Post : ρ → Prop)
  (hs : ∀ s, I s → (∃ s', step s = some (.inl s') ∧ I s' ∧ mu s' < mu s) ∨ (∃ r, step s = some (.inr r) ∧ Post r)) {s0 : S} (h0 : I s0) : ∃ r, loopO step s0 = some r ∧ Post r := by
 have gen : ∀ (n : Nat) (s : S), mu s ≤ n → I s → ∃ r, loopO step s = some r ∧ Post r := by
  intro n
  induction n with
  | zero =>
   intro s hm hi
   rcases hs s hi with ⟨s', _, _, h3⟩ | ⟨r, h1, h2⟩
   ·omega
   ·exact ⟨r, loopO_inr h1, h2⟩
  | succ n ih =>
   intro s hm hi
   rcases hs s hi with ⟨s', h1, h2, h3⟩ | ⟨r, h1, h2⟩
   ·rw [loopO_inl h1]; exact ih s' (by omega) h2
   ·exact ⟨r, loopO_inr h1, h2⟩
 exact gen _ s0 (Nat.le_refl _) h0
def firstAt {β : Type} (bad : Nat → Option β) : Nat → Option β
 | 0 => none
 | n + 1 => (firstAt bad n).or (bad n)
theorem firstAt_none {β : Type} {f : Nat → Option β} : ∀ (n : Nat), firstAt f n = none ↔ ∀ i, i < n → f i = none
 | 0 => by simp [firstAt]
 | n + 1 => by
  simp only [firstAt, Option.or_eq_none_iff, firstAt_none n]
  constructor
  ·rintro ⟨h1, h2⟩ i hi
   by_cases h : i = n
   ·subst h; exact h2
   ·exact h1 i (by omega)
  ·exact fun h => ⟨fun i hi => h i (by omega), h n (by omega)⟩
theorem firstAt_some {β : Type} {f : Nat → Option β} {b : β} : ∀ (n : Nat), firstAt f n = some b → ∃ i, i < n ∧ f i = some b ∧ ∀ j, j < i → f j = none
 | 0, h => by simp [firstAt] at h
 | n + 1, h => by
  simp only [firstAt] at h
  cases hf : firstAt f n with
  | some c =>
   rw [hf] at h
   obtain ⟨i, h1, h2, h3⟩ := firstAt_some n hf
   simp only [Option.some_or] at h
   exact ⟨i, by omega, by rw [h2, h], h3⟩
  | none =>
   rw [hf] at h
   simp only [Option.none_or] at h
   exact ⟨n, by omega, h, fun j hj => (firstAt_none n).1 hf j hj⟩
theorem loopO_find {S ρ : Type} {step : S → Option (S ⊕ ρ)} (E : Nat → S) (bad : Nat → Option ρ) (rest : Option ρ) (n : Nat)
  (h1 : ∀ i, i < n → bad i = none → step (E i) = some (.inl (E (i + 1)))) (h2 : ∀ i r, i < n → bad i = some r → step (E i) = some (.inr r)) (h3 : (∀ i, i < n → bad i = none) → step (E n) = rest.map .inr) :
  loopO step (E 0) = match firstAt bad n with
   | some r => some r
   | none => rest := by
 have walk : ∀ k, k ≤ n → (∀ i, i < k → bad i = none) → loopO step (E 0) = loopO step (E k) := by
  intro k
  induction k with
  | zero => exact fun _ _ => rfl
  | succ k ih =>
   intro hk hb
   rw [ih (by omega) fun i hi => hb i (by omega), loopO_inl (h1 k (by omega) (hb k (by omega)))]
 cases hf : firstAt bad n with
 | none =>
  have hb := (firstAt_none n).1 hf
  rw [walk n (Nat.le_refl _) hb, loopO_out (h3 hb)]
 | some r =>
  obtain ⟨i, g1, g2, g3⟩ := firstAt_some n hf
  rw [walk i (by omega) g3, loopO_inr (h2 i r g1 g2)]
theorem loopO_findD {S ρ : Type} {step : S → Option (S ⊕ ρ)} (E : Nat → S) (bad : Nat → Option ρ) (d : ρ) (n : Nat)
  (h1 : ∀ i, i < n → bad i = none → step (E i) = some (.inl (E (i + 1)))) (h2 : ∀ i r, i < n → bad i = some r → step (E i) = some (.inr r)) (h3 : (∀ i, i < n → bad i = none) → step (E n) = some (.inr d)) :
  loopO step (E 0) = some ((firstAt bad n).getD d) := by
 rw [loopO_find E bad (some d) n h1 h2 (fun h => by rw [h3 h]; rfl)]
 cases firstAt bad n <;> rfl
theorem loopO_all {S ρ : Type} {step : S → Option (S ⊕ ρ)} (E : Nat → S) (rest : Option ρ) (n : Nat)
  (h1 : ∀ i, i < n → step (E i) = some (.inl (E (i + 1)))) (h3 : step (E n) = rest.map .inr) : loopO step (E 0) = rest := by
 have := loopO_find E (fun _ => none) rest n (fun i hi _ => h1 i hi) (fun i r _ h => by cases h) (fun _ => h3)
 rw [this, (firstAt_none n).2 fun _ _ => rfl]
theorem ix_get {α : Type} [Enc α] {xs : List α} {i : Nat} (h : i < xs.length) : ix xs ((i : Nat) : Int) = xs[i] := by
 simp [ix, List.getD_eq_getElem?_getD, h]
theorem cut_take {α : Type} (xs : List α) (i : Nat) : cut xs 0 ((i : Nat) : Int) = xs.take i := by simp [cut]
theorem cut_drop {α : Type} (xs : List α) (i : Nat) : cut xs ((i : Nat) : Int) ((xs.length : Nat) : Int) = xs.drop i := by
 simp only [cut, Int.toNat_natCast]
 rw [List.take_of_length_le]; simp
theorem cut_drop' {α : Type} (xs : List α) {n : Int} {i : Nat} (h : n = (i : Int)) : cut xs n ((xs.length : Nat) : Int) = xs.drop i := by subst h; exact cut_drop xs i
theorem list_eq_iff {α : Type} {a b : List α} (h : a.length = b.length) : a = b ↔ ∀ i (h1 : i < a.length) (h2 : i < b.length), a[i] = b[i] :=
 ⟨fun e => by subst e; exact fun _ _ _ => rfl, fun g => List.ext_getElem h g⟩
theorem ints_gen {step : Int → Option (Int ⊕ Bool)} (a b : List Int) (hl : a.length = b.length) (hn : a.length < 4611686018427387904)
  (h : ∀ i, step i = (bif (decide (i < ((a.length : Nat) : Int))) then (bif ((decide ((0 : Int) ≤ i)) && (decide (i < ((a.length : Nat) : Int)))) then (bif ((decide ((0 : Int) ≤ i)) && (decide (i < ((b.length : Nat) : Int)))) then (bif ((ix a i) != (ix b i)) then (Option.map Sum.inr (some (false))) else (some (Sum.inl ((IntKind.i64.wrap (i + 1)))))) else none) else none) else (Option.map Sum.inr (some (true))))) :
  loopO step 0 = some (decide (a = b)) := by
 have := loopO_find (step := step) (fun i => ((i : Nat) : Int)) (fun i => if a[i]? = b[i]? then none else some false) (some true) a.length (fun i hi hb => ?_) (fun i r hi hb => ?_) (fun _ => ?_)
 ·rw [show ((0 : Nat) : Int) = 0 from rfl] at this
  rw [this]
  cases hf : firstAt (fun i => if a[i]? = b[i]? then none else some false) a.length with
  | none =>
   have := (firstAt_none _).1 hf
   have e : a = b := (list_eq_iff hl).2 fun i h1 h2 => by
    have := this i h1
    simpa [h1, h2] using this
   simp [e]
  | some r =>
   obtain ⟨i, h1, h2, _⟩ := firstAt_some _ hf
   have : a ≠ b := fun e => by subst e; simp at h2
   split at h2
   ·cases h2
   ·cases h2; simp [this]
 ·rw [h]
  have hi2 : i < b.length := by omega
  have e : a[i] = b[i] := by simpa [hi, hi2] using hb
  simp [hi, hi2, ix_get hi, ix_get hi2, e, wrap_n1 i (by omega), Bool.cond_eq_ite]
 ·rw [h]
  have hi2 : i < b.length := by omega
  have e : ¬ a[i] = b[i] ∧ false = r := by simpa [hi, hi2] using hb
  simp [hi, hi2, ix_get hi, ix_get hi2, e.1, ← e.2, Bool.cond_eq_ite]
 ·rw [h]; simp
end Go.Sx
end

section
namespace Go.Sx
variable {α : Type}
end Go.Sx
end

section
namespace Go.Sx
def toldOr {S ρ : Type} (o : Option ρ) (s : S) : Option (S ⊕ ρ) := match o with
 | some r => some (.inr r)
 | none => some (.inl s)
@[simp] theorem toldOr_some {S ρ : Type} (r : ρ) (s : S) : toldOr (some r) s = some (.inr r) := rfl
@[simp] theorem toldOr_none {S ρ : Type} (s : S) : toldOr (none : Option ρ) s = some (.inl s) := rfl
end Go.Sx
end

section
namespace Go.Proofs.Ytopomedppninoaa
open Go Go.Sx
set_option linter.unusedVariables false
set_option linter.unusedSimpArgs false
theorem bits64 : (IntKind.i64).bits = 64 := rfl
theorem ofInt_nat (n : Nat) : BitVec.ofInt 64 ((n : Nat) : Int) = BitVec.ofNat 64 n := rfl
theorem pow_cast (i : Nat) : (2 : Int) ^ i = ((2 ^ i : Nat) : Int) := by push_cast; first | done | rfl
theorem beqF {a b : Int} (h : ¬ a = b) : (a == b) = false := by simpa using h
theorem bneT {a b : Int} (h : ¬ a = b) : (a != b) = true := by simpa using h
theorem beqT {a b : Int} (h : a = b) : (a == b) = true := by simpa using h
theorem bneF {a b : Int} (h : a = b) : (a != b) = false := by simpa using h
theorem bit_at (D i : Nat) (hD : D < 2 ^ 14) (hi : i ≤ 14) : IntKind.i64.wrap (((BitVec.ofInt (IntKind.i64).bits (Int.fdiv ((D : Nat) : Int) (2 ^ (min (((i : Nat) : Int)).toNat (IntKind.i64).bits))) &&& BitVec.ofInt (IntKind.i64).bits 1).toNat : Nat) : Int) = if D.testBit i then 1 else 0 := by
 rw [bits64, Int.toNat_natCast, Nat.min_eq_left (by omega)]
 have h1 : Int.fdiv ((D : Nat) : Int) (2 ^ i) = ((D / 2 ^ i : Nat) : Int) := by
  rw [Int.fdiv_eq_ediv_of_nonneg _ (Int.le_of_lt (Int.pow_pos (by decide)))]; push_cast; first | done | rfl
 have h2 : D / 2 ^ i < 2 ^ 14 := Nat.lt_of_le_of_lt (Nat.div_le_self _ _) hD
 rw [h1, ofInt_nat, show (BitVec.ofInt 64 1) = BitVec.ofNat 64 1 from rfl, BitVec.toNat_and, BitVec.toNat_ofNat, BitVec.toNat_ofNat, Nat.mod_eq_of_lt (by omega), show 1 % 2 ^ 64 = 1 from rfl, Nat.and_one_is_mod]
 have h3 : D.testBit i = decide (D / 2 ^ i % 2 = 1) := Nat.testBit_eq_decide_div_mod_eq
 rw [h3]
 have h4 : D / 2 ^ i % 2 = 0 ∨ D / 2 ^ i % 2 = 1 := Nat.mod_two_eq_zero_or_one _
 rcases h4 with h4 | h4 <;> rw [h4] <;> rfl
theorem bit_put (D i : Nat) (hD : D < 2 ^ 14) (hi : i < 14) : IntKind.i64.wrap (((BitVec.ofInt (IntKind.i64).bits ((D : Nat) : Int) ||| BitVec.ofInt (IntKind.i64).bits (IntKind.i64.wrap (1 * 2 ^ (min (((i : Nat) : Int)).toNat (IntKind.i64).bits)))).toNat : Nat) : Int) = ((D ||| 2 ^ i : Nat) : Int) := by
 rw [bits64, Int.toNat_natCast, Nat.min_eq_left (by omega), Int.one_mul, pow_cast]
 have h2 : 2 ^ i ≤ 2 ^ 13 := Nat.pow_le_pow_right (by decide) (by omega)
 have h3 : D ||| 2 ^ i < 2 ^ 14 := Nat.or_lt_two_pow hD (by omega)
 generalize 2 ^ i = p at *
 rw [wrap_id (x := ((p : Nat) : Int)) (by omega) (by omega), ofInt_nat, ofInt_nat, BitVec.toNat_or, BitVec.toNat_ofNat, BitVec.toNat_ofNat, Nat.mod_eq_of_lt (by omega), Nat.mod_eq_of_lt (by omega)]
 exact wrap_id (by omega) (by omega)
theorem full_eq (n : Nat) (hn : n ≤ 14) : IntKind.i64.wrap ((IntKind.i64.wrap (1 * 2 ^ (min (((n : Nat) : Int)).toNat (IntKind.i64).bits))) - 1) = ((2 ^ n - 1 : Nat) : Int) := by
 rw [bits64, Int.toNat_natCast, Nat.min_eq_left (by omega), Int.one_mul, pow_cast]
 have h2 : 2 ^ n ≤ 2 ^ 14 := Nat.pow_le_pow_right (by decide) hn
 have h3 : 0 < 2 ^ n := Nat.two_pow_pos n
 generalize 2 ^ n = p at *
 rw [wrap_id (x := ((p : Nat) : Int)) (by omega) (by omega), wrap_id (by omega) (by omega)]
 omega
def qdo (q : List Int) (c : GCall) : List Int × Bool := if c.Kind = 1 then (q ++ [c.Arg], true) else match q with
 | [] => ([], !c.Ok)
 | x :: r => (r, c.Ok && x == c.Ret)
def rdo (r : Int) (c : GCall) : Int × Bool := if c.Kind = 3 then (c.Arg, true) else if c.Kind = 4 then (r, r == c.Ret) else if r = c.Old then (c.Arg, c.Ok) else (r, !c.Ok)
def cdo (n : Int) (c : GCall) : Int × Bool := (IntKind.i64.wrap (n + c.Arg), IntKind.i64.wrap (n + c.Arg) == c.Ret)
theorem q_eq (q : List Int) (c : GCall) (h : q.length ≤ 100) : linear_queue_do q c = some (qdo q c) := by
 unfold linear_queue_do slices_Clone_int qdo
 by_cases h1 : c.Kind = 1
 ·have : (c.Kind == 1) = true := by simpa using h1
  rw [if_pos h1]
  simp only [this, cond_true, List.nil_append, List.length_append, List.length_cons, List.length_nil]
  rw [decide_eq_true (by omega), cond_true, Option.bind_some, decide_eq_true (by omega), cond_true]
 ·have : (c.Kind == 1) = false := by simpa using h1
  rw [if_neg h1]
  simp only [this, cond_false]
  cases q with
  | nil => rfl
  | cons x r =>
   have e : ((((x :: r).length : Nat) : Int) == 0) = false := by simp; omega
   rw [e, cond_false, decide_eq_true (by simp only [List.length_cons]; omega), cond_true, decide_eq_true (by simp only [List.length_cons]; omega)]
   simp only [Bool.or_true, cond_true]
   have e2 : cut (x :: r) 1 (((x :: r).length : Nat) : Int) = r := cut_drop' (x :: r) (i := 1) rfl
   rw [e2]; rfl
theorem r_eq (r : Int) (c : GCall) : linear_register_do r c = some (rdo r c) := by
 unfold linear_register_do rdo
 by_cases h1 : c.Kind = 3
 ·simp [h1]
 ·by_cases h2 : c.Kind = 4
  ·simp [h2]
  ·by_cases h3 : r = c.Old
   ·simp only [beqF h1, beqF h2, beqT h3, if_neg h1, if_neg h2, if_pos h3, cond_true, cond_false]
   ·simp only [beqF h1, beqF h2, beqF h3, if_neg h1, if_neg h2, if_neg h3, cond_true, cond_false]
theorem c_eq (r : Int) (c : GCall) : linear_counter_do r c = some (cdo r c) := rfl
def tdo (there : List Int) (c : GCall) : List Int × Bool := if c.Kind = 1 ∨ c.Kind = 2 then qdo there c else
 let n := there.headD 0
 if c.Kind = 3 then ([c.Arg], true) else if c.Kind = 4 then (there, n == c.Ret) else if c.Kind = 5 then ([IntKind.i64.wrap (n + c.Arg)], IntKind.i64.wrap (n + c.Arg) == c.Ret) else
  if c.Kind = 6 then (if n = c.Old then ([c.Arg], c.Ok) else (there, !c.Ok)) else ([n], true)
theorem t_eq (q : List Int) (c : GCall) (h : q.length ≤ 1000) : taskmillref_Tells q c = some (tdo q c) := by
 unfold taskmillref_Tells tdo
 by_cases h1 : c.Kind = 1
 ·have : (c.Kind == 1) = true := by simpa using h1
  rw [if_pos (.inl h1)]
  unfold qdo
  rw [if_pos h1]
  simp only [this, cond_true, List.length_append, List.length_cons, List.length_nil]
  rw [decide_eq_true (by omega), cond_true, decide_eq_true (by omega), cond_true]
 ·have e1 : (c.Kind == 1) = false := by simpa using h1
  simp only [e1, cond_false]
  by_cases h2 : c.Kind = 2
  ·have e2 : (c.Kind == 2) = true := by simpa using h2
   rw [if_pos (.inr h2)]
   unfold qdo
   rw [if_neg h1]
   simp only [e2, cond_true]
   cases q with
   | nil => rfl
   | cons x r =>
    have e : ((((x :: r).length : Nat) : Int) == 0) = false := by simp; omega
    rw [e, cond_false, decide_eq_true (by simp only [List.length_cons]; omega), cond_true, decide_eq_true (by simp only [List.length_cons]; omega)]
    simp only [Bool.or_true, cond_true]
    have e2 : cut (x :: r) 1 (((x :: r).length : Nat) : Int) = r := cut_drop' (x :: r) (i := 1) rfl
    rw [e2]; rfl
  ·have e2 : (c.Kind == 2) = false := by simpa using h2
   rw [if_neg (by omega)]
   simp only [e2, cond_false]
   have hj : ∀ n, taskmillref_Tells_j2 q c n = some (if c.Kind = 3 then ([c.Arg], true) else if c.Kind = 4 then (q, n == c.Ret) else if c.Kind = 5 then ([IntKind.i64.wrap (n + c.Arg)], IntKind.i64.wrap (n + c.Arg) == c.Ret) else
     if c.Kind = 6 then (if n = c.Old then ([c.Arg], c.Ok) else (q, !c.Ok)) else ([n], true)) := fun n => by
    unfold taskmillref_Tells_j2 taskmillref_Tells_j1
    by_cases h3 : c.Kind = 3
    ·simp [h3]
    ·by_cases h4 : c.Kind = 4
     ·simp [h4]
     ·by_cases h5 : c.Kind = 5
      ·simp [h5]
      ·by_cases h6 : c.Kind = 6
       ·by_cases h7 : n = c.Old
        ·simp [h6, h7]
        ·simp only [beqF h3, beqF h4, beqF h5, beqT h6, bneT h7, if_neg h3, if_neg h4, if_neg h5, if_pos h6, if_neg h7, cond_true, cond_false]
       ·simp only [beqF h3, beqF h4, beqF h5, beqF h6, if_neg h3, if_neg h4, if_neg h5, if_neg h6, cond_true, cond_false]
   cases q with
   | nil => exact hj 0
   | cons x r =>
    rw [decide_eq_true (by simp only [List.length_cons]; omega), cond_true, cond_true]
    exact hj x
theorem qdo_len (q : List Int) (c : GCall) : (qdo q c).1.length ≤ q.length + 1 := by
 unfold qdo
 by_cases h : c.Kind = 1
 ·rw [if_pos h]; simp
 ·rw [if_neg h]
  cases q with
  | nil => simp
  | cons x r => simp only [List.length_cons]; omega
theorem tdo_len (q : List Int) (c : GCall) : (tdo q c).1.length ≤ q.length + 1 := by
 unfold tdo
 split
 ·exact qdo_len q c
 ·simp only
  split
  ·simp
  ·split
   ·simp only; omega
   ·split
    ·simp
    ·split
     ·split
      ·simp
      ·simp only; omega
     ·simp
end Go.Proofs.Ytopomedppninoaa
end

section
namespace Go.Proofs.Ytopomedppninoaa
open Go Go.Sx
set_option linter.unusedVariables false
set_option linter.unusedSimpArgs false
noncomputable def fromG_j1 {T : Type} (dop : T → GCall → Option (T × Bool)) (keyf : T → Int → Option place) (t : T) (done : Int) (c0_calls : (List GCall)) (c2 : (List Int)) (c1 : (List (place × Int))) (t39q7 : Int) (c3q12 : place) (xend20 : Int) : Option (((Int × Int × place) ⊕ (Bool × (List GCall) × (List Int) × (List (place × Int))))) := (some (Sum.inl (xend20, (IntKind.i64.wrap (t39q7 + 1)), c3q12)))
noncomputable def fromG_j2 {T : Type} (dop : T → GCall → Option (T × Bool)) (keyf : T → Int → Option place) (t : T) (done : Int) (c0_calls : (List GCall)) (xend18 : Int) (c3q12 : place) (t59q7 : Int) (c0_calls22 : (List GCall)) (c1q22 : (List (place × Int))) (c4q20 : (List Int)) : Option (((Int × (List GCall) × (List (place × Int)) × (List Int)) ⊕ (Bool × (List GCall) × (List Int) × (List (place × Int))))) := (some (Sum.inl ((IntKind.i64.wrap (t59q7 + 1)), c0_calls22, c1q22, c4q20)))
noncomputable def fromG_l1 {T : Type} (dop : T → GCall → Option (T × Bool)) (keyf : T → Int → Option place) (t : T) (done : Int) (c0_calls : (List GCall)) (rcf : T → Int → (List GCall) → (List Int) → (List (place × Int)) → Option (Bool × (List GCall) × (List Int) × (List (place × Int)))) (xend18 : Int) (c3q12 : place) : Int × (List GCall) × (List (place × Int)) × (List Int) → Option (((Int × (List GCall) × (List (place × Int)) × (List Int)) ⊕ (Bool × (List GCall) × (List Int) × (List (place × Int))))) := fun (t59q7, c0_calls20, c1q20, c4q18) => (bif (decide (t59q7 < ((c0_calls.length : Nat) : Int))) then (bif ((decide ((0 : Int) ≤ t59q7)) && (decide (t59q7 < ((c0_calls.length : Nat) : Int)))) then (bif (decide ((0 : Int) ≤ t59q7)) then (bif (((IntKind.i64.wrap (((BitVec.ofInt (IntKind.i64).bits (Int.fdiv done (2 ^ (min (t59q7).toNat (IntKind.i64).bits))) &&& BitVec.ofInt (IntKind.i64).bits 1).toNat : Nat) : Int)) == 1) || (decide (xend18 < (ix c0_calls t59q7).Begin))) then (fromG_j2 dop keyf t done c0_calls xend18 c3q12 t59q7 c0_calls20 c1q20 c4q18) else ((dop t (ix c0_calls t59q7)).bind fun r1100 => (bif r1100.2 then (bif (decide ((c4q18 ++ ([t59q7] : List Int)).length * 8 ≤ 140737488355328)) then (bif (decide ((0 : Int) ≤ t59q7)) then ((rcf r1100.1 (IntKind.i64.wrap (((BitVec.ofInt (IntKind.i64).bits done ||| BitVec.ofInt (IntKind.i64).bits (IntKind.i64.wrap ((1 : Int) * 2 ^ (min (t59q7).toNat (IntKind.i64).bits)))).toNat : Nat) : Int)) c0_calls20 (c4q18 ++ ([t59q7] : List Int)) c1q20).bind fun r1114 => (bif r1114.1 then (Option.map Sum.inr (some (true, r1114.2.1, r1114.2.2.1, r1114.2.2.2))) else (bif ((decide ((0 : Int) ≤ (IntKind.i64.wrap (((r1114.2.2.1.length : Nat) : Int) - 1)))) && (decide ((IntKind.i64.wrap (((r1114.2.2.1.length : Nat) : Int) - 1)) ≤ ((r1114.2.2.1.length : Nat) : Int)))) then (fromG_j2 dop keyf t done c0_calls xend18 c3q12 t59q7 r1114.2.1 r1114.2.2.2 (cut r1114.2.2.1 (0 : Int) (IntKind.i64.wrap (((r1114.2.2.1.length : Nat) : Int) - 1)))) else none))) else none) else none) else (fromG_j2 dop keyf t done c0_calls xend18 c3q12 t59q7 c0_calls20 c1q20 c4q18)))) else none) else none) else (Option.map Sum.inr (some (false, c0_calls20, c4q18, (meSet c1q20 c3q12 1)))))
noncomputable def fromG_l2 {T : Type} (dop : T → GCall → Option (T × Bool)) (keyf : T → Int → Option place) (t : T) (done : Int) (c0_calls : (List GCall)) (c2 : (List Int)) (c1 : (List (place × Int))) (rcf : T → Int → (List GCall) → (List Int) → (List (place × Int)) → Option (Bool × (List GCall) × (List Int) × (List (place × Int)))) : Int × Int × place → Option (((Int × Int × place) ⊕ (Bool × (List GCall) × (List Int) × (List (place × Int))))) := fun (xend18, t39q7, c3q12) => (bif (decide (t39q7 < ((c0_calls.length : Nat) : Int))) then (bif ((decide ((0 : Int) ≤ t39q7)) && (decide (t39q7 < ((c0_calls.length : Nat) : Int)))) then (bif (decide ((0 : Int) ≤ t39q7)) then (bif ((IntKind.i64.wrap (((BitVec.ofInt (IntKind.i64).bits (Int.fdiv done (2 ^ (min (t39q7).toNat (IntKind.i64).bits))) &&& BitVec.ofInt (IntKind.i64).bits 1).toNat : Nat) : Int)) == 0) then (fromG_j1 dop keyf t done c0_calls c2 c1 t39q7 c3q12 (min xend18 (ix c0_calls t39q7).End)) else (fromG_j1 dop keyf t done c0_calls c2 c1 t39q7 c3q12 xend18)) else none) else none) else (Option.map Sum.inr (loopO (fromG_l1 dop keyf t done c0_calls rcf xend18 c3q12) (0, c0_calls, c1, c2))))
noncomputable def fromG_b {T : Type} (dop : T → GCall → Option (T × Bool)) (keyf : T → Int → Option place) (rcf : T → Int → (List GCall) → (List Int) → (List (place × Int)) → Option (Bool × (List GCall) × (List Int) × (List (place × Int)))) (t : T) (done : Int) (c0_calls : (List GCall)) (c2 : (List Int)) (c1 : (List (place × Int))) : Option (Bool × (List GCall) × (List Int) × (List (place × Int))) := (bif (decide ((0 : Int) ≤ ((c0_calls.length : Nat) : Int))) then (bif (done == (IntKind.i64.wrap ((IntKind.i64.wrap ((1 : Int) * 2 ^ (min (((c0_calls.length : Nat) : Int)).toNat (IntKind.i64).bits))) - 1))) then (some (true, c0_calls, c2, c1)) else ((keyf t done).bind fun r817 => (bif (decide ((0 : Int) < (meGet c1 r817))) then (some (false, c0_calls, c2, c1)) else (loopO (fromG_l2 dop keyf t done c0_calls c2 c1 rcf) (1000000001, 0, r817))))) else none)
noncomputable def fromG_n {T : Type} (dop : T → GCall → Option (T × Bool)) (keyf : T → Int → Option place) : Nat → T → Int → (List GCall) → (List Int) → (List (place × Int)) → Option (Bool × (List GCall) × (List Int) × (List (place × Int)))
 | 0 => fun _ _ _ _ _ => none
 | n + 1 => fromG_b dop keyf (fromG_n dop keyf n)
theorem fromQ (n : Nat) : linear_search_from_n n = fromG_n linear_queue_do linear_key n := by
 induction n with
 | zero => rfl
 | succ n ih => rw [linear_search_from_n, fromG_n, ih]; rfl
theorem fromR (n : Nat) : linear_search_from_3_n n = fromG_n linear_register_do linear_key_1 n := by
 induction n with
 | zero => rfl
 | succ n ih => rw [linear_search_from_3_n, fromG_n, ih]; rfl
theorem fromC (n : Nat) : linear_search_from_6_n n = fromG_n linear_counter_do linear_key_2 n := by
 induction n with
 | zero => rfl
 | succ n ih => rw [linear_search_from_6_n, fromG_n, ih]; rfl
end Go.Proofs.Ytopomedppninoaa
end

section
namespace Go.Proofs.Ytopomedppninoaa
open Go Go.Sx
set_option linter.unusedVariables false
set_option linter.unusedSimpArgs false
section
variable {T : Type} (dof : T → GCall → T × Bool) (l : List GCall)
def runs (t : T) : List GCall → Prop
 | [] => True
 | c :: cs => (dof t c).2 = true ∧ runs (dof t c).1 cs
def left (D : Nat) : List Nat := (List.range l.length).filter fun i => !D.testBit i
abbrev cl (i : Nat) : GCall := ix l ((i : Nat) : Int)
def Rb (a b : GCall) : Prop := a.Begin ≤ b.End
def legal (t : T) (D : Nat) (σ : List Nat) : Prop := σ.Perm (left l D) ∧ (σ.map (cl l)).Pairwise Rb ∧ runs dof t (σ.map (cl l))
def Can (t : T) (D : Nat) : Prop := ∃ σ, legal dof l t D σ
variable {l}
theorem left_iff {D i : Nat} : i ∈ left l D ↔ i < l.length ∧ D.testBit i = false := by simp [left]
theorem left_nodup (D : Nat) : (left l D).Nodup := List.Pairwise.filter _ List.nodup_range
theorem testBit_put (D i j : Nat) : (D ||| 2 ^ i).testBit j = (D.testBit j || decide (j = i)) := by
 rw [Nat.testBit_or, Nat.testBit_two_pow]
 congr 1
 rw [decide_eq_decide]; exact eq_comm
theorem left_put {D i : Nat} (h : i ∈ left l D) : (i :: left l (D ||| 2 ^ i)).Perm (left l D) := by
 have e : left l (D ||| 2 ^ i) = (left l D).erase i := by
  rw [List.Nodup.erase_eq_filter (left_nodup D)]
  unfold left
  rw [List.filter_filter]
  apply List.filter_congr
  intro j hj
  rw [testBit_put]
  by_cases h : j = i <;> cases D.testBit j <;> simp [h]
 rw [e]
 exact (List.perm_cons_erase h).symm
theorem left_len {D i : Nat} (h : i ∈ left l D) : (left l (D ||| 2 ^ i)).length + 1 = (left l D).length := by
 have := (left_put h).length_eq
 simpa using this
theorem put_lt {D i : Nat} (hD : D < 2 ^ l.length) (h : i ∈ left l D) : D ||| 2 ^ i < 2 ^ l.length :=
 Nat.or_lt_two_pow hD (Nat.pow_lt_pow_right (by decide) (left_iff.1 h).1)
theorem left_nil {D : Nat} (hD : D < 2 ^ l.length) : left l D = [] ↔ D = 2 ^ l.length - 1 := by
 constructor
 ·intro h
  apply Nat.eq_of_testBit_eq
  intro i
  rw [Nat.testBit_two_pow_sub_one]
  by_cases hi : i < l.length
  ·rw [decide_eq_true hi]
   cases hb : D.testBit i with
   | true => rfl
   | false => have : i ∈ left l D := left_iff.2 ⟨hi, hb⟩; rw [h] at this; cases this
  ·rw [decide_eq_false hi]
   exact Nat.testBit_lt_two_pow (Nat.lt_of_lt_of_le hD (Nat.pow_le_pow_right (by decide) (by omega)))
 ·intro h
  subst h
  apply List.eq_nil_iff_forall_not_mem.2
  intro i hi
  obtain ⟨h1, h2⟩ := left_iff.1 hi
  rw [Nat.testBit_two_pow_sub_one, decide_eq_true h1] at h2; cases h2
variable {dof}
theorem legal_cons {t : T} {D i : Nat} {σ : List Nat} (hi : i ∈ left l D) (hb : ∀ k ∈ left l D, k ≠ i → (cl l i).Begin ≤ (cl l k).End) (ok : (dof t (cl l i)).2 = true) (h : legal dof l (dof t (cl l i)).1 (D ||| 2 ^ i) σ) : legal dof l t D (i :: σ) := by
 obtain ⟨h1, h2, h3⟩ := h
 refine ⟨(List.Perm.cons i h1).trans (left_put hi), ?_, ok, h3⟩
 rw [List.map_cons, List.pairwise_cons]
 refine ⟨fun c hc => ?_, h2⟩
 obtain ⟨k, hk, rfl⟩ := List.mem_map.1 hc
 have hk2 := h1.mem_iff.1 hk
 have hm : k ∈ left l D := (left_put hi).mem_iff.1 (List.mem_cons_of_mem _ hk2)
 refine hb k hm fun e => ?_
 subst e
 have := (left_iff.1 hk2).2
 rw [testBit_put] at this; simp at this
theorem legal_inv {t : T} {D : Nat} {σ : List Nat} (h : legal dof l t D σ) : (left l D = [] ∧ σ = []) ∨ ∃ i σ', σ = i :: σ' ∧ i ∈ left l D ∧ (∀ k ∈ left l D, k ≠ i → (cl l i).Begin ≤ (cl l k).End) ∧ (dof t (cl l i)).2 = true ∧ legal dof l (dof t (cl l i)).1 (D ||| 2 ^ i) σ' := by
 obtain ⟨h1, h2, h3⟩ := h
 cases σ with
 | nil => exact .inl ⟨(List.Perm.nil_eq h1).symm, rfl⟩
 | cons i σ =>
  right
  have hi : i ∈ left l D := h1.mem_iff.1 (by simp)
  rw [List.map_cons, List.pairwise_cons] at h2
  refine ⟨i, σ, rfl, hi, fun k hk hki => ?_, h3.1, ?_, h2.2, h3.2⟩
  ·have := h1.mem_iff.2 hk
   rcases List.mem_cons.1 this with e | e
   ·exact absurd e hki
   ·exact h2.1 _ (List.mem_map_of_mem e)
  ·exact List.Perm.cons_inv (h1.trans (left_put hi).symm)
variable (l) in
def minE (D : Nat) : Nat → Int
 | 0 => 1000000001
 | i + 1 => if D.testBit i then minE D i else min (minE D i) (cl l i).End
theorem minE_le (D : Nat) (b : Int) : ∀ n, b ≤ minE l D n ↔ b ≤ 1000000001 ∧ ∀ k, k < n → D.testBit k = false → b ≤ (cl l k).End
 | 0 => by simp [minE]
 | n + 1 => by
  have ih := minE_le D b n
  unfold minE
  cases hb : D.testBit n with
  | true =>
   simp only [if_true]
   rw [ih]
   refine and_congr Iff.rfl ⟨fun h k hk hkb => ?_, fun h k hk hkb => h k (by omega) hkb⟩
   by_cases hkn : k = n
   ·subst hkn; rw [hb] at hkb; cases hkb
   ·exact h k (by omega) hkb
  | false =>
   simp only [Bool.false_eq_true, if_false]
   rw [Int.le_min, ih]
   constructor
   ·rintro ⟨⟨h1, h2⟩, h3⟩
    refine ⟨h1, fun k hk hkb => ?_⟩
    by_cases hkn : k = n
    ·subst hkn; exact h3
    ·exact h2 k (by omega) hkb
   ·rintro ⟨h1, h2⟩
    exact ⟨⟨h1, fun k hk hkb => h2 k (by omega) hkb⟩, h2 n (by omega) hb⟩
end
structure Thing (T : Type) where
 dop : T → GCall → Option (T × Bool)
 keyf : T → Int → Option place
 dof : T → GCall → T × Bool
 key : T → Int → place
 Inv : T → Nat → Prop
 hdo : ∀ {t k} (c : GCall), Inv t k → k ≤ 14 → dop t c = some (dof t c)
 hst : ∀ {t k} (c : GCall), Inv t k → Inv (dof t c).1 (k + 1)
 hkey : ∀ {t k} (D : Int), Inv t k → k ≤ 14 → keyf t D = some (key t D)
 hinj : ∀ {t t' k k'} {D D' : Int}, Inv t k → k ≤ 14 → Inv t' k' → k' ≤ 14 → key t D = key t' D' → t = t' ∧ D = D'
theorem meGet_set {K : Type} [DecidableEq K] (m : List (K × Int)) (k k' : K) (v : Int) : meGet (meSet m k v) k' = if k' = k then v else meGet m k' := by
 induction m with
 | nil =>
  unfold meSet meGet
  rw [List.find?_cons]
  by_cases h : k' = k
  ·subst h; simp
  ·rw [if_neg h, show (k' == k) = false by simpa using h]
 | cons p r ih =>
  unfold meSet
  by_cases h : k = p.1
  ·rw [show (k == p.1) = true by simpa using h, cond_true]
   unfold meGet
   rw [List.find?_cons, List.find?_cons]
   by_cases h2 : k' = k
   ·subst h2; simp
   ·have h3 : ¬ k' = p.1 := fun e => h2 (e.trans h.symm)
    rw [if_neg h2, show (k' == k) = false by simpa using h2, show (k' == p.1) = false by simpa using h3]
  ·rw [show (k == p.1) = false by simpa using h, cond_false]
   unfold meGet at ih ⊢
   rw [List.find?_cons, List.find?_cons]
   by_cases h2 : k' = p.1
   ·have h3 : ¬ k' = k := fun e => h (e.symm.trans h2)
    rw [show (k' == p.1) = true by simpa using h2, if_neg h3]
   ·rw [show (k' == p.1) = false by simpa using h2]
    exact ih
variable {T : Type} (X : Thing T) {l : List GCall}
def Sound (l : List GCall) (dd : List (place × Int)) : Prop := ∀ t D, D < 2 ^ l.length → X.Inv t (l.length - (left l D).length) → 0 < meGet dd (X.key t ((D : Nat) : Int)) → ¬ Can X.dof l t D
theorem search (hn : l.length ≤ 14) (hv : ∀ i, i < l.length → (cl l i).Begin ≤ (cl l i).End ∧ (cl l i).Begin ≤ 1000000001) : ∀ (m : Nat) (t : T) (D : Nat) (ord : List Int) (dd : List (place × Int)), D < 2 ^ l.length → X.Inv t (l.length - (left l D).length) → Sound X l dd → (left l D).length < m → ord.length + (left l D).length ≤ 14 →
  ∃ r, fromG_n X.dop X.keyf m t ((D : Nat) : Int) l ord dd = some r ∧ r.2.1 = l ∧ ((r.1 = true ∧ ∃ σ, legal X.dof l t D σ ∧ r.2.2.1 = ord ++ σ.map (fun i => ((i : Nat) : Int))) ∨ (r.1 = false ∧ r.2.2.1 = ord ∧ Sound X l r.2.2.2 ∧ ¬ Can X.dof l t D)) := by
 intro m
 induction m with
 | zero => intro t D ord dd _ _ _ h; omega
 | succ m ih =>
  intro t D ord dd hD hI hS hm ho
  have hD14 : D < 2 ^ 14 := Nat.lt_of_lt_of_le hD (Nat.pow_le_pow_right (by decide) hn)
  have hk14 : l.length - (left l D).length ≤ 14 := by omega
  have hll : (left l D).length ≤ l.length := by
   have := List.length_filter_le (fun i => !D.testBit i) (List.range l.length)
   rwa [List.length_range] at this
  show ∃ r, fromG_b X.dop X.keyf (fromG_n X.dop X.keyf m) t ((D : Nat) : Int) l ord dd = some r ∧ _
  unfold fromG_b
  rw [decide_eq_true (Int.natCast_nonneg _), cond_true, full_eq _ hn]
  by_cases hfull : left l D = []
  ·have e := (left_nil hD).1 hfull
   rw [beqT (by rw [e]), cond_true]
   refine ⟨_, rfl, rfl, .inl ⟨rfl, [], ⟨by rw [hfull], List.Pairwise.nil, trivial⟩, by simp⟩⟩
  ·have e : ¬ ((D : Nat) : Int) = ((2 ^ l.length - 1 : Nat) : Int) := fun e => hfull ((left_nil hD).2 (by omega))
   rw [beqF e, cond_false, X.hkey _ hI hk14, Option.bind_some]
   by_cases hd : 0 < meGet dd (X.key t ((D : Nat) : Int))
   ·rw [decide_eq_true hd, cond_true]
    exact ⟨_, rfl, rfl, .inr ⟨rfl, rfl, hS, hS t D hD hI hd⟩⟩
   ·rw [decide_eq_false hd, cond_false]
    -- the first end
    have h2 : loopO (fromG_l2 X.dop X.keyf t ((D : Nat) : Int) l ord dd (fromG_n X.dop X.keyf m)) (1000000001, 0, X.key t ((D : Nat) : Int)) = loopO (fromG_l1 X.dop X.keyf t ((D : Nat) : Int) l (fromG_n X.dop X.keyf m) (minE l D l.length) (X.key t ((D : Nat) : Int))) (0, l, dd, ord) := by
     refine loopO_all (fun i => (minE l D i, ((i : Nat) : Int), X.key t ((D : Nat) : Int))) _ l.length (fun i hi => ?_) ?_
     ·unfold fromG_l2 fromG_j1
      simp only
      rw [decide_eq_true (by omega : ((i : Nat) : Int) < ((l.length : Nat) : Int)), decide_eq_true (Int.natCast_nonneg i), Bool.and_self, cond_true, cond_true, cond_true, bit_at D i hD14 (by omega), wrap_n1 i (by omega)]
      rw [show minE l D (i + 1) = if D.testBit i then minE l D i else min (minE l D i) (cl l i).End from rfl]
      cases D.testBit i <;> rfl
     ·unfold fromG_l2
      simp only
      rw [decide_eq_false (by omega), cond_false]
    rw [h2]
    -- the calls, one after the other
    have h1 := loopO_inv (step := fromG_l1 X.dop X.keyf t ((D : Nat) : Int) l (fromG_n X.dop X.keyf m) (minE l D l.length) (X.key t ((D : Nat) : Int)))
     (fun s => ∃ (i : Nat) (d : List (place × Int)), s = (((i : Nat) : Int), l, d, ord) ∧ i ≤ l.length ∧ Sound X l d ∧ ∀ j, j < i → j ∈ left l D → (∀ k ∈ left l D, k ≠ j → (cl l j).Begin ≤ (cl l k).End) → (X.dof t (cl l j)).2 = true → ¬ Can X.dof l (X.dof t (cl l j)).1 (D ||| 2 ^ j))
     (fun s => l.length - s.1.toNat)
     (fun r => r.2.1 = l ∧ ((r.1 = true ∧ ∃ σ, legal X.dof l t D σ ∧ r.2.2.1 = ord ++ σ.map (fun i => ((i : Nat) : Int))) ∨ (r.1 = false ∧ r.2.2.1 = ord ∧ Sound X l r.2.2.2 ∧ ¬ Can X.dof l t D)))
     (fun s hs => ?_) (s0 := (0, l, dd, ord)) ⟨0, dd, rfl, by omega, hS, fun j hj => by omega⟩
    ·exact h1
    ·obtain ⟨i, d, rfl, hi, hSd, hno⟩ := hs
     unfold fromG_l1
     simp only
     by_cases hil : i < l.length
     ·rw [decide_eq_true (by omega : ((i : Nat) : Int) < ((l.length : Nat) : Int)), decide_eq_true (Int.natCast_nonneg i), Bool.and_self, cond_true, cond_true, cond_true, bit_at D i hD14 (by omega)]
      have hnext : ∀ (d' : List (place × Int)), Sound X l d' → (i ∈ left l D → (∀ k ∈ left l D, k ≠ i → (cl l i).Begin ≤ (cl l k).End) → (X.dof t (cl l i)).2 = true → ¬ Can X.dof l (X.dof t (cl l i)).1 (D ||| 2 ^ i)) →
        (∃ s', fromG_j2 X.dop X.keyf t ((D : Nat) : Int) l (minE l D l.length) (X.key t ((D : Nat) : Int)) ((i : Nat) : Int) l d' ord = some (Sum.inl s') ∧ (∃ (i : Nat) (d : List (place × Int)), s' = (((i : Nat) : Int), l, d, ord) ∧ i ≤ l.length ∧ Sound X l d ∧ ∀ j, j < i → j ∈ left l D → (∀ k ∈ left l D, k ≠ j → (cl l j).Begin ≤ (cl l k).End) → (X.dof t (cl l j)).2 = true → ¬ Can X.dof l (X.dof t (cl l j)).1 (D ||| 2 ^ j)) ∧ l.length - s'.1.toNat < l.length - (((i : Nat) : Int)).toNat) := fun d' hd' hni => by
       unfold fromG_j2
       rw [wrap_n1 i (by omega)]
       refine ⟨_, rfl, ⟨i + 1, d', rfl, hil, hd', fun j hj => ?_⟩, by simp only [Int.toNat_natCast]; omega⟩
       by_cases hji : j = i
       ·subst hji; exact hni
       ·exact hno j (by omega)
      cases hb : D.testBit i with
      | true =>
       simp only [if_true]
       left
       refine hnext d hSd fun hm => ?_
       have := (left_iff.1 hm).2; rw [hb] at this; cases this
      | false =>
       have him : i ∈ left l D := left_iff.2 ⟨hil, hb⟩
       simp only [Bool.false_eq_true, if_false]
       rw [show ((0 : Int) == 1) = false from rfl, Bool.false_or]
       have hbe : minE l D l.length < (cl l i).Begin ↔ ¬ ∀ k ∈ left l D, k ≠ i → (cl l i).Begin ≤ (cl l k).End := by
        rw [← Int.not_le, minE_le]
        apply not_congr
        constructor
        ·rintro ⟨_, h⟩ k hk _
         exact h k (left_iff.1 hk).1 (left_iff.1 hk).2
        ·intro h
         refine ⟨(hv i hil).2, fun k hk hkb => ?_⟩
         by_cases hki : k = i
         ·subst hki; exact (hv k hk).1
         ·exact h k (left_iff.2 ⟨hk, hkb⟩) hki
       by_cases hlt : minE l D l.length < (cl l i).Begin
       ·rw [decide_eq_true hlt, cond_true]
        left
        exact hnext d hSd fun _ h => absurd h (hbe.1 hlt)
       ·have hall : ∀ k ∈ left l D, k ≠ i → (cl l i).Begin ≤ (cl l k).End := Decidable.not_not.1 fun h => hlt (hbe.2 h)
        rw [decide_eq_false hlt, cond_false, X.hdo _ hI hk14, Option.bind_some]
        cases hok : (X.dof t (cl l i)).2 with
        | false =>
         rw [cond_false]
         left
         exact hnext d hSd fun _ _ h => by rw [hok] at h; cases h
        | true =>
         rw [cond_true, decide_eq_true (by simp only [List.length_append, List.length_cons, List.length_nil]; omega), cond_true, cond_true, bit_put D i hD14 (by omega)]
         have hlen := left_len him
         obtain ⟨r, hr, hrl, hrr⟩ := ih (X.dof t (cl l i)).1 (D ||| 2 ^ i) (ord ++ [((i : Nat) : Int)]) d (put_lt hD him) (by
          have := X.hst (cl l i) hI
          rwa [show l.length - (left l D).length + 1 = l.length - (left l (D ||| 2 ^ i)).length by omega] at this) hSd (by omega) (by simp only [List.length_append, List.length_cons, List.length_nil]; omega)
         rw [hr, Option.bind_some]
         rcases hrr with ⟨hr1, σ, hσ, hσo⟩ | ⟨hr1, hro, hrS, hrC⟩
         ·rw [hr1, cond_true]
          right
          refine ⟨_, rfl, hrl, .inl ⟨rfl, i :: σ, legal_cons him hall hok hσ, ?_⟩⟩
          simp only [hσo, List.map_cons, List.append_assoc, List.cons_append, List.nil_append]
         ·rw [hr1, cond_false, hro]
          have hw : IntKind.i64.wrap ((((ord ++ [((i : Nat) : Int)]).length : Nat) : Int) - 1) = ((ord.length : Nat) : Int) := by
           rw [wrap_id (by simp only [List.length_append, List.length_cons, List.length_nil]; omega) (by simp only [List.length_append, List.length_cons, List.length_nil]; omega)]
           simp only [List.length_append, List.length_cons, List.length_nil]; omega
          rw [hw, decide_eq_true (Int.natCast_nonneg _), decide_eq_true (by simp only [List.length_append, List.length_cons, List.length_nil]; omega), Bool.and_self, cond_true, hrl]
          left
          have hc : cut (ord ++ [((i : Nat) : Int)]) 0 ((ord.length : Nat) : Int) = ord := by rw [cut_take]; simp
          rw [hc]
          exact hnext r.2.2.2 hrS fun _ _ _ => hrC
     ·rw [decide_eq_false (by omega), cond_false]
      right
      have hi' : i = l.length := by omega
      have hC : ¬ Can X.dof l t D := fun ⟨σ, hσ⟩ => by
       rcases legal_inv hσ with ⟨h, _⟩ | ⟨j, σ', _, hj, hjb, hjo, hjl⟩
       ·exact hfull h
       ·exact hno j (by rw [hi']; exact (left_iff.1 hj).1) hj hjb hjo ⟨σ', hjl⟩
      refine ⟨_, rfl, rfl, .inr ⟨rfl, rfl, fun t' D' hD' hI' hg => ?_, hC⟩⟩
      rw [meGet_set] at hg
      by_cases hkk : X.key t' ((D' : Nat) : Int) = X.key t ((D : Nat) : Int)
      ·have hll' : (left l D').length ≤ l.length := by
        have := List.length_filter_le (fun i => !D'.testBit i) (List.range l.length)
        rwa [List.length_range] at this
       obtain ⟨e1, e2⟩ := X.hinj hI' (by omega) hI hk14 hkk
       have e3 : D' = D := by omega
       subst e1; subst e3
       exact hC
      ·rw [if_neg hkk] at hg
       exact hSd t' D' hD' hI' hg
end Go.Proofs.Ytopomedppninoaa
end

section
namespace Go.Proofs.Ytopomedppninoaa
open Go Go.Sx
set_option linter.unusedVariables false
set_option linter.unusedSimpArgs false
section
variable {T : Type} (dof : T → GCall → T × Bool) (l : List GCall) (order : List Int)
end
end Go.Proofs.Ytopomedppninoaa
end

section
namespace Go.Proofs.Ytopomedppninoaa
open Go Go.Sx
set_option linter.unusedVariables false
set_option linter.unusedSimpArgs false
section
variable {T : Type} {dof : T → GCall → T × Bool} {l : List GCall} {order : List Int}
end
end Go.Proofs.Ytopomedppninoaa
end

section
namespace Go.Proofs.Ytopomedppninoaa
open Go Go.Sx
set_option linter.unusedVariables false
set_option linter.unusedSimpArgs false
def kof (k : Int) : Int := if k = 1 ∨ k = 2 then 1 else if k = 3 ∨ k = 4 ∨ k = 6 then 2 else if k = 5 then 3 else 0
theorem of_eq (k : Int) : linear_of k = some (kof k) := by
 unfold linear_of linear_of_j2 linear_of_j1 kof
 by_cases h1 : k = 1
 ·subst h1; rfl
 by_cases h2 : k = 2
 ·subst h2; rfl
 by_cases h3 : k = 3
 ·subst h3; rfl
 by_cases h4 : k = 4
 ·subst h4; rfl
 by_cases h6 : k = 6
 ·subst h6; rfl
 simp only [beqF h1, beqF h2, beqF h3, beqF h4, beqF h6, cond_false, h1, h2, h3, h4, h6, or_self, if_false]
 by_cases h5 : k = 5
 ·subst h5; rfl
 ·simp [h5, beqF h5]
theorem kindOf_eq (k : Int) : taskmillref_KindOf k = some (kof k) := of_eq k
def formB (k : Int) (a o r ok : Bool) : Bool := if k = 1 then o || (ok || r) else if k = 2 then a || (o || (!ok && r)) else if k = 3 then o || (r || ok) else if k = 4 then a || (o || ok) else if k = 5 then o || ok else r
def rangeB (c : GCall) : Bool := decide (c.Begin < 0) || (decide (c.End ≤ c.Begin) || decide ((1000000000 : Int) < c.End))
def callF (kind : Int) (c : GCall) (i : Int) : Option Fault := if kof c.Kind = kind then (if rangeB c then some ⟨3, i⟩ else if formB c.Kind (c.Arg != 0) (c.Old != 0) (c.Ret != 0) c.Ok then some ⟨5, i⟩ else none) else some ⟨4, i⟩
theorem kinds {kind k : Int} (hk : 1 ≤ kind ∧ kind ≤ 3) (h : kof k = kind) : k = 1 ∨ k = 2 ∨ k = 3 ∨ k = 4 ∨ k = 5 ∨ k = 6 := by
 unfold kof at h
 split at h
 ·omega
 ·split at h
  ·omega
  ·split at h
   ·omega
   ·omega
theorem check_step (kind : Int) (hk : 1 ≤ kind ∧ kind ≤ 3) (l : List GCall) (i : Nat) (hi : i < l.length) (hl : l.length < 4611686018427387904) :
  linear_Check_l1 kind l ((i : Nat) : Int) = (match callF kind (cl l i) ((i : Nat) : Int) with | some f => some (Sum.inr f) | none => some (Sum.inl ((i + 1 : Nat) : Int))) := by
 unfold linear_Check_l1 linear_Check_j1 callF
 rw [decide_eq_true (by omega : ((i : Nat) : Int) < ((l.length : Nat) : Int)), decide_eq_true (Int.natCast_nonneg i), Bool.and_self, cond_true, cond_true, of_eq, Option.bind_some, wrap_n1 i (by omega)]
 by_cases h4 : kof (cl l i).Kind = kind
 ·rw [bneF h4, cond_false, if_pos h4]
  have hr : (decide ((cl l i).Begin < 0) || (decide ((cl l i).End ≤ (cl l i).Begin) || decide ((1000000000 : Int) < (cl l i).End))) = rangeB (cl l i) := rfl
  rw [hr]
  cases rangeB (cl l i) with
  | true => rfl
  | false =>
   simp only [cond_false, Bool.false_eq_true, if_false]
   have hks := kinds hk h4
   generalize (cl l i).Kind = k at *
   generalize ((cl l i).Arg != 0) = a
   generalize ((cl l i).Old != 0) = o
   generalize ((cl l i).Ret != 0) = r
   generalize (cl l i).Ok = ok
   rcases hks with rfl | rfl | rfl | rfl | rfl | rfl <;> cases a <;> cases o <;> cases r <;> cases ok <;> rfl
 ·rw [bneT h4, cond_true, if_neg h4]; rfl
theorem calls_step (kind : Int) (hk : 1 ≤ kind ∧ kind ≤ 3) (l : List GCall) (i : Nat) (hi : i < l.length) (hl : l.length < 4611686018427387904) :
  taskmillref_CallsFault_l1 kind l ((i : Nat) : Int) = (match callF kind (cl l i) ((i : Nat) : Int) with | some f => some (Sum.inr f) | none => some (Sum.inl ((i + 1 : Nat) : Int))) := by
 unfold taskmillref_CallsFault_l1 taskmillref_CallsFault_j2 taskmillref_CallsFault_j1 callF
 rw [decide_eq_true (by omega : ((i : Nat) : Int) < ((l.length : Nat) : Int)), decide_eq_true (Int.natCast_nonneg i), Bool.and_self, cond_true, cond_true, kindOf_eq, Option.bind_some, wrap_n1 i (by omega)]
 by_cases h4 : kof (cl l i).Kind = kind
 ·rw [bneF h4, cond_false, if_pos h4]
  have hr : (decide ((cl l i).Begin < 0) || (decide ((cl l i).End ≤ (cl l i).Begin) || decide ((1000000000 : Int) < (cl l i).End))) = rangeB (cl l i) := rfl
  rw [hr]
  cases rangeB (cl l i) with
  | true => rfl
  | false =>
   simp only [cond_false, Bool.false_eq_true, if_false]
   have hks := kinds hk h4
   generalize (cl l i).Kind = k at *
   generalize ((cl l i).Arg != 0) = a
   generalize ((cl l i).Old != 0) = o
   generalize ((cl l i).Ret != 0) = r
   generalize (cl l i).Ok = ok
   rcases hks with rfl | rfl | rfl | rfl | rfl | rfl <;> cases a <;> cases o <;> cases r <;> cases ok <;> rfl
 ·rw [bneT h4, cond_true, if_neg h4]; rfl
def chkF (kind : Int) (l : List GCall) : Fault := if 14 < l.length then ⟨2, 0⟩ else if kind < 1 ∨ 3 < kind then ⟨4, -1⟩ else (firstAt (fun i => callF kind (cl l i) ((i : Nat) : Int)) l.length).getD ⟨0, 0⟩
theorem check_eq (kind : Int) (l : List GCall) : linear_Check kind l = some (chkF kind l) := by
 unfold linear_Check chkF
 by_cases h : 14 < l.length
 ·rw [decide_eq_true (by omega), cond_true, if_pos h]; rfl
 ·rw [decide_eq_false (by omega), cond_false, if_neg h]
  by_cases h2 : kind < 1 ∨ 3 < kind
  ·have : (decide (kind < 1) || decide ((3 : Int) < kind)) = true := by simpa using h2
   rw [this, cond_true, if_pos h2]; rfl
  ·have : (decide (kind < 1) || decide ((3 : Int) < kind)) = false := by simp only [Bool.or_eq_false_iff, decide_eq_false_iff_not]; omega
   rw [this, cond_false, if_neg h2]
   have hs := fun i hi => check_step kind (by omega) l i hi (by omega)
   refine loopO_findD (fun i => ((i : Nat) : Int)) _ _ l.length (fun i hi hb => ?_) (fun i r hi hb => ?_) (fun _ => ?_)
   ·rw [hs i hi]; simp only [hb]
   ·rw [hs i hi]; simp only [hb]
   ·unfold linear_Check_l1; rw [decide_eq_false (by omega), cond_false]; rfl
theorem calls_eq (kind : Int) (l : List GCall) : taskmillref_CallsFault kind l = some (chkF kind l) := by
 unfold taskmillref_CallsFault chkF
 by_cases h : 14 < l.length
 ·rw [decide_eq_true (by omega), cond_true, if_pos h]; rfl
 ·rw [decide_eq_false (by omega), cond_false, if_neg h]
  by_cases h2 : kind < 1 ∨ 3 < kind
  ·have : (decide (kind < 1) || decide ((3 : Int) < kind)) = true := by simpa using h2
   rw [this, cond_true, if_pos h2]; rfl
  ·have : (decide (kind < 1) || decide ((3 : Int) < kind)) = false := by simp only [Bool.or_eq_false_iff, decide_eq_false_iff_not]; omega
   rw [this, cond_false, if_neg h2]
   have hs := fun i hi => calls_step kind (by omega) l i hi (by omega)
   refine loopO_findD (fun i => ((i : Nat) : Int)) _ _ l.length (fun i hi hb => ?_) (fun i r hi hb => ?_) (fun _ => ?_)
   ·rw [hs i hi]; simp only [hb]
   ·rw [hs i hi]; simp only [hb]
   ·unfold taskmillref_CallsFault_l1; rw [decide_eq_false (by omega), cond_false]; rfl
theorem chk_ok {kind : Int} {l : List GCall} : (chkF kind l).Code = 0 ↔ l.length ≤ 14 ∧ (1 ≤ kind ∧ kind ≤ 3) ∧ ∀ i, i < l.length → callF kind (cl l i) 0 = none := by
 have hcf : ∀ c i, callF kind c i = none ↔ callF kind c 0 = none := fun c i => by
  unfold callF
  split
  ·split
   ·simp
   ·split <;> simp
  ·simp
 unfold chkF
 split
 ·constructor
  ·intro h; cases h
  ·intro h; omega
 ·split
  ·constructor
   ·intro h; cases h
   ·intro h; omega
  ·constructor
   ·intro h
    refine ⟨by omega, by omega, fun i hi => ?_⟩
    cases hf : firstAt (fun i => callF kind (cl l i) ((i : Nat) : Int)) l.length with
    | none => exact (hcf _ _).1 ((firstAt_none _).1 hf i hi)
    | some f =>
     rw [hf] at h
     obtain ⟨j, hj, hfj, _⟩ := firstAt_some _ hf
     simp only [Option.getD_some] at h
     unfold callF at hfj
     split at hfj
     ·split at hfj
      ·cases hfj; cases h
      ·split at hfj <;> cases hfj; cases h
     ·cases hfj; cases h
   ·intro ⟨_, _, h⟩
    rw [(firstAt_none _).2 fun i hi => (hcf _ _).2 (h i hi)]; rfl
theorem callF_ok {kind : Int} {c : GCall} : callF kind c 0 = none ↔ kof c.Kind = kind ∧ rangeB c = false ∧ formB c.Kind (c.Arg != 0) (c.Old != 0) (c.Ret != 0) c.Ok = false := by
 unfold callF
 by_cases h1 : kof c.Kind = kind
 ·rw [if_pos h1]
  cases rangeB c with
  | true => simp
  | false => simp [h1]
 ·rw [if_neg h1]; simp [h1]
theorem range_ok {c : GCall} : rangeB c = false ↔ 0 ≤ c.Begin ∧ c.Begin < c.End ∧ c.End ≤ 1000000000 := by
 unfold rangeB
 simp only [Bool.or_eq_false_iff, decide_eq_false_iff_not]
 omega
theorem put0_inj {a b : List Int} (h1 : a.length ≤ 14) (h2 : b.length ≤ 14) (hl : a.length = b.length) (h : VArr.put0 (default : VArr 14) a = VArr.put0 (default : VArr 14) b) : a = b := by
 have e := congrArg (fun v : VArr 14 => v.l.take a.length) h
 unfold VArr.put0 at e
 simp only [List.take_take, Nat.min_eq_left h1] at e
 rw [List.take_append_of_le_length (Nat.le_refl _), List.take_length, hl, List.take_append_of_le_length (Nat.le_refl _), List.take_length] at e
 exact e
noncomputable def TQ : Thing (List Int) where
 dop := linear_queue_do
 keyf := linear_key
 dof := qdo
 key := fun t D => ⟨D, ((t.length : Nat) : Int), VArr.put0 (default : VArr 14) t⟩
 Inv := fun t k => t.length ≤ k
 hdo := fun c h hk => q_eq _ c (by omega)
 hst := fun c h => Nat.le_trans (qdo_len _ c) (Nat.add_le_add_right h 1)
 hkey := fun D h hk => by unfold linear_key; rw [decide_eq_true (by omega), cond_true]
 hinj := fun h hk h' hk' e => by
  simp only [place.mk.injEq] at e
  obtain ⟨e1, e2, e3⟩ := e
  exact ⟨put0_inj (by omega) (by omega) (by omega) e3, e1⟩
noncomputable def TR : Thing Int where
 dop := linear_register_do
 keyf := linear_key_1
 dof := rdo
 key := fun t D => ⟨D, t, default⟩
 Inv := fun _ _ => True
 hdo := fun c _ _ => r_eq _ c
 hst := fun _ _ => trivial
 hkey := fun _ _ _ => rfl
 hinj := fun _ _ _ _ e => by
  simp only [place.mk.injEq] at e
  exact ⟨e.2.1, e.1⟩
noncomputable def TC : Thing Int where
 dop := linear_counter_do
 keyf := linear_key_2
 dof := cdo
 key := fun t D => ⟨D, t, default⟩
 Inv := fun _ _ => True
 hdo := fun c _ _ => c_eq _ c
 hst := fun _ _ => trivial
 hkey := fun _ _ _ => rfl
 hinj := fun _ _ _ _ e => by
  simp only [place.mk.injEq] at e
  exact ⟨e.2.1, e.1⟩
structure Alike {T : Type} (dof : T → GCall → T × Bool) (ok : GCall → Prop) (rel : T → List Int → Prop) : Prop where
 step : ∀ {t q c}, rel t q → ok c → (dof t c).2 = (tdo q c).2 ∧ rel (dof t c).1 (tdo q c).1
theorem alikeQ : Alike qdo (fun c => c.Kind = 1 ∨ c.Kind = 2) (fun t q => t = q) := ⟨fun {t q c} h hc => by
 subst h; unfold tdo; rw [if_pos hc]; exact ⟨rfl, rfl⟩⟩
theorem alikeR : Alike rdo (fun c => c.Kind = 3 ∨ c.Kind = 4 ∨ c.Kind = 6) (fun t q => t = q.headD 0) := ⟨fun {t q c} h hc => by
 subst h
 generalize hn : q.headD 0 = n
 rcases hc with hc | hc | hc
 ·simp [rdo, tdo, hc]
 ·simp only [rdo, tdo, hc, hn]; simpa using hn.symm
 ·by_cases h5 : n = c.Old
  ·simp only [rdo, tdo, hc, hn, h5]; simp
  ·simp only [rdo, tdo, hc, hn, h5]; simpa using hn.symm⟩
theorem alikeC : Alike cdo (fun c => c.Kind = 5) (fun t q => t = q.headD 0) := ⟨fun {t q c} h hc => by
 subst h
 simp [cdo, tdo, hc]⟩
theorem runs_alike {T : Type} {dof : T → GCall → T × Bool} {ok : GCall → Prop} {rel : T → List Int → Prop} (A : Alike dof ok rel) : ∀ (cs : List GCall) (t : T) (q : List Int), rel t q → (∀ c ∈ cs, ok c) → (runs dof t cs ↔ runs tdo q cs)
 | [], _, _, _, _ => Iff.rfl
 | c :: cs, t, q, h, hc => by
  obtain ⟨h1, h2⟩ := A.step h (hc c (by simp))
  unfold runs
  rw [h1, runs_alike A cs _ _ h2 fun c hc' => hc c (by simp [hc'])]
theorem legal_alike {T : Type} {dof : T → GCall → T × Bool} {ok : GCall → Prop} {rel : T → List Int → Prop} (A : Alike dof ok rel) {l : List GCall} (hl : ∀ i, i < l.length → ok (cl l i)) {t : T} {q : List Int} (h : rel t q) (D : Nat) (σ : List Nat) : legal dof l t D σ ↔ legal tdo l q D σ := by
 unfold legal
 constructor
 ·rintro ⟨h1, h2, h3⟩
  refine ⟨h1, h2, (runs_alike A _ _ _ h fun c hc => ?_).1 h3⟩
  obtain ⟨i, hi, rfl⟩ := List.mem_map.1 hc
  exact hl i (left_iff.1 (h1.mem_iff.1 hi)).1
 ·rintro ⟨h1, h2, h3⟩
  refine ⟨h1, h2, (runs_alike A _ _ _ h fun c hc => ?_).2 h3⟩
  obtain ⟨i, hi, rfl⟩ := List.mem_map.1 hc
  exact hl i (left_iff.1 (h1.mem_iff.1 hi)).1
end Go.Proofs.Ytopomedppninoaa
end

section
namespace Go.Proofs.Ytopomedppninoaa
open Go Go.Sx
set_option linter.unusedVariables false
set_option linter.unusedSimpArgs false
theorem left_zero (l : List GCall) : left l 0 = List.range l.length := by
 unfold left
 rw [List.filter_eq_self]
 intro i _
 simp
theorem find_gen {T : Type} (X : Thing T) {ok : GCall → Prop} {rel : T → List Int → Prop} (A : Alike X.dof ok rel) {kind : Int} {l : List GCall} (hc : (chkF kind l).Code = 0) (hok : ∀ c : GCall, kof c.Kind = kind → ok c) (t : T) (hI : X.Inv t 0) (hrel : rel t []) :
  ∃ r, fromG_n X.dop X.keyf 5000 t 0 l [] [] = some r ∧ r.2.1 = l ∧ ((r.1 = true ∧ ∃ σ, legal tdo l [] 0 σ ∧ r.2.2.1 = σ.map (fun i => ((i : Nat) : Int))) ∨ (r.1 = false ∧ ¬ Can tdo l [] 0)) := by
 obtain ⟨h1, h2, h3⟩ := chk_ok.1 hc
 have hl : ∀ i, i < l.length → ok (cl l i) := fun i hi => hok _ (callF_ok.1 (h3 i hi)).1
 have hll : (left l 0).length = l.length := by rw [left_zero, List.length_range]
 obtain ⟨r, hr, hrl, hrr⟩ := search X (l := l) h1 (fun i hi => by
  have := range_ok.1 (callF_ok.1 (h3 i hi)).2.1
  omega) 5000 t 0 [] [] (Nat.two_pow_pos _) (by rw [hll, Nat.sub_self]; exact hI) (fun t D _ _ h => by simp [meGet] at h) (by omega) (by rw [hll]; simpa using h1)
 refine ⟨r, hr, hrl, ?_⟩
 rcases hrr with ⟨e, σ, hσ, ho⟩ | ⟨e, _, _, hC⟩
 ·exact .inl ⟨e, σ, (legal_alike A hl hrel 0 σ).1 hσ, by simpa using ho⟩
 ·exact .inr ⟨e, fun ⟨σ, hσ⟩ => hC ⟨σ, (legal_alike A hl hrel 0 σ).2 hσ⟩⟩
theorem kof1 {k : Int} (h : kof k = 1) : k = 1 ∨ k = 2 := by
 unfold kof at h; split at h
 ·assumption
 ·split at h
  ·omega
  ·split at h <;> omega
theorem kof2 {k : Int} (h : kof k = 2) : k = 3 ∨ k = 4 ∨ k = 6 := by
 unfold kof at h; split at h
 ·omega
 ·split at h
  ·assumption
  ·split at h <;> omega
theorem kof3 {k : Int} (h : kof k = 3) : k = 5 := by
 unfold kof at h; split at h
 ·omega
 ·split at h
  ·omega
  ·split at h
   ·assumption
   ·omega
theorem find_eq {kind : Int} {l : List GCall} (hc : (chkF kind l).Code = 0) : ∃ r, linear_Find kind l = some r ∧ ((r.1 = ⟨0, 0⟩ ∧ ∃ σ, legal tdo l [] 0 σ ∧ r.2 = σ.map (fun i => ((i : Nat) : Int))) ∨ (r.1 = ⟨6, 0⟩ ∧ r.2 = [] ∧ ¬ Can tdo l [] 0)) := by
 obtain ⟨_, hk, _⟩ := chk_ok.1 hc
 unfold linear_Find
 rw [check_eq, Option.bind_some, bneF hc, cond_false]
 by_cases k1 : kind = 1
 ·subst k1
  obtain ⟨r, hr, hrl, hrr⟩ := find_gen TQ alikeQ hc (fun c h => kof1 h) [] (Nat.le_refl _) rfl
  rw [beqT rfl, cond_true]
  show ∃ r', ((linear_search_from [] 0 l [] []).bind fun r2277 => _) = some r' ∧ _
  unfold linear_search_from
  rw [fromQ, show fromG_n linear_queue_do linear_key 5000 [] 0 l [] [] = some r from hr, Option.bind_some]
  rcases hrr with ⟨e, σ, h1, h2⟩ | ⟨e, h1⟩
  ·rw [e]; exact ⟨_, rfl, .inl ⟨rfl, σ, h1, h2⟩⟩
  ·rw [e]; exact ⟨_, rfl, .inr ⟨rfl, rfl, h1⟩⟩
 ·rw [beqF k1, cond_false]
  by_cases k2 : kind = 2
  ·subst k2
   obtain ⟨r, hr, hrl, hrr⟩ := find_gen TR alikeR hc (fun c h => kof2 h) 0 trivial rfl
   rw [beqT rfl, cond_true]
   show ∃ r', ((linear_search_from_3 0 0 l [] []).bind fun r2277 => _) = some r' ∧ _
   unfold linear_search_from_3
   rw [fromR, show fromG_n linear_register_do linear_key_1 5000 0 0 l [] [] = some r from hr, Option.bind_some]
   rcases hrr with ⟨e, σ, h1, h2⟩ | ⟨e, h1⟩
   ·rw [e]; exact ⟨_, rfl, .inl ⟨rfl, σ, h1, h2⟩⟩
   ·rw [e]; exact ⟨_, rfl, .inr ⟨rfl, rfl, h1⟩⟩
  ·rw [beqF k2, cond_false]
   have k3 : kind = 3 := by omega
   subst k3
   obtain ⟨r, hr, hrl, hrr⟩ := find_gen TC alikeC hc (fun c h => kof3 h) 0 trivial rfl
   show ∃ r', ((linear_search_from_6 0 0 l [] []).bind fun r2277 => _) = some r' ∧ _
   unfold linear_search_from_6
   rw [fromC, show fromG_n linear_counter_do linear_key_2 5000 0 0 l [] [] = some r from hr, Option.bind_some]
   rcases hrr with ⟨e, σ, h1, h2⟩ | ⟨e, h1⟩
   ·rw [e]; exact ⟨_, rfl, .inl ⟨rfl, σ, h1, h2⟩⟩
   ·rw [e]; exact ⟨_, rfl, .inr ⟨rfl, rfl, h1⟩⟩
theorem legal_len {l : List GCall} {q : List Int} {σ : List Nat} (h : legal tdo l q 0 σ) : σ.length = l.length := by
 have := h.1.length_eq
 rwa [left_zero, List.length_range] at this
def exL : List GCall := [⟨0, 2, 1, 1, 0, 0, false⟩, ⟨1, 3, 1, 2, 0, 0, false⟩, ⟨4, 5, 2, 0, 0, 2, true⟩]
theorem ex_chk : (chkF 1 exL).Code = 0 := by decide
theorem mem3 {D i : Nat} (h : i ∈ left exL D) : i = 0 ∨ i = 1 ∨ i = 2 := by
 have := (left_iff.1 h).1
 have : exL.length = 3 := rfl
 omega
theorem ex_order : ∀ σ, legal tdo exL [] 0 σ → σ = [1, 0, 2] := by
 intro σ h
 rcases legal_inv h with ⟨h0, _⟩ | ⟨i, σ1, rfl, hi, hb, ok, h1⟩
 ·exact absurd h0 (by decide)
 rcases mem3 hi with rfl | rfl | rfl
 ·-- the first value first: then it is not taken
  rcases legal_inv h1 with ⟨h0, _⟩ | ⟨j, σ2, rfl, hj, hb2, ok2, h2⟩
  ·exact absurd h0 (by decide)
  rcases mem3 hj with rfl | rfl | rfl
  ·exact absurd hj (by decide)
  ·rcases legal_inv h2 with ⟨h0, _⟩ | ⟨k, σ3, rfl, hk, hb3, ok3, h3⟩
   ·exact absurd h0 (by decide)
   rcases mem3 hk with rfl | rfl | rfl
   ·exact absurd hk (by decide)
   ·exact absurd hk (by decide)
   ·exact absurd ok3 (by decide)
  ·exact absurd (hb2 1 (by decide) (by decide)) (by decide)
 ·rcases legal_inv h1 with ⟨h0, _⟩ | ⟨j, σ2, rfl, hj, hb2, ok2, h2⟩
  ·exact absurd h0 (by decide)
  rcases mem3 hj with rfl | rfl | rfl
  ·rcases legal_inv h2 with ⟨h0, _⟩ | ⟨k, σ3, rfl, hk, hb3, ok3, h3⟩
   ·exact absurd h0 (by decide)
   rcases mem3 hk with rfl | rfl | rfl
   ·exact absurd hk (by decide)
   ·exact absurd hk (by decide)
   ·rcases legal_inv h3 with ⟨_, rfl⟩ | ⟨m, σ4, rfl, hm, _⟩
    ·rfl
    ·rcases mem3 hm with rfl | rfl | rfl <;> exact absurd hm (by decide)
  ·exact absurd hj (by decide)
  ·exact absurd (hb2 0 (by decide) (by decide)) (by decide)
 ·exact absurd (hb 0 (by decide) (by decide)) (by decide)
theorem ex_can : Can tdo exL [] 0 := ⟨[1, 0, 2], by decide, by simp only [List.map_cons, List.map_nil, List.pairwise_cons]; exact ⟨fun c hc => by simp only [List.mem_cons, List.not_mem_nil, or_false] at hc; rcases hc with rfl | rfl <;> (unfold Rb; decide), fun c hc => by simp only [List.mem_cons, List.not_mem_nil, or_false] at hc; subst hc; (unfold Rb; decide), fun c hc => by simp at hc, List.Pairwise.nil⟩, by decide, by decide, by decide, trivial⟩
theorem ints_eq (a b : List Int) (hb : a.length < 4611686018427387904) : taskmillref_Ints a b = some (decide (a = b)) := by
 unfold taskmillref_Ints
 by_cases h : a.length = b.length
 ·rw [bneF (by omega), cond_false]
  exact ints_gen a b h hb (fun i => rfl)
 ·rw [bneT (by omega), cond_true]
  have : ¬ a = b := fun e => h (by rw [e])
  rw [decide_eq_false this]
theorem begun_eq : taskmilllaw_linearBegun = some true := by
 unfold taskmilllaw_linearBegun
 rw [show ([(GCall.mk (0 : Int) (2 : Int) (1 : Int) (1 : Int) (0 : Int) (0 : Int) false), (GCall.mk (1 : Int) (3 : Int) (1 : Int) (2 : Int) (0 : Int) (0 : Int) false), (GCall.mk (4 : Int) (5 : Int) (2 : Int) (0 : Int) (0 : Int) (2 : Int) true)] : List GCall) = exL from rfl]
 obtain ⟨r, hr, hrr⟩ := find_eq ex_chk
 rw [hr, Option.bind_some]
 rcases hrr with ⟨e, σ, hσ, ho⟩ | ⟨_, _, hC⟩
 ·rw [e, ho, ex_order σ hσ, beqT rfl, cond_true, ints_eq _ _ (by decide)]; rfl
 ·exact absurd ex_can hC
theorem own_eq (l : List GCall) (h : l.length ≤ 100) : taskmilllaw_ownCalls l = some l := by
 unfold taskmilllaw_ownCalls
 rw [decide_eq_true (by omega), cond_true]
end Go.Proofs.Ytopomedppninoaa
end

section
namespace Go.Proofs.Ytopomedppninoaa
open Go Go.Sx
set_option linter.unusedVariables false
set_option linter.unusedSimpArgs false
end Go.Proofs.Ytopomedppninoaa
end

section
namespace Go.Proofs.Ytopomedppninoaa
open Go Go.Sx
set_option linter.unusedVariables false
set_option linter.unusedSimpArgs false
theorem perm_map {α β : Type} [DecidableEq α] (f : α → β) : ∀ (p : List β) (q : List α), p.Perm (q.map f) → ∃ s : List α, s.Perm q ∧ s.map f = p
 | [], q, h => by
  have := List.Perm.nil_eq h
  cases q with
  | nil => exact ⟨[], .refl _, rfl⟩
  | cons a q => cases this
 | b :: p, q, h => by
  have hb : b ∈ q.map f := h.mem_iff.1 (by simp)
  obtain ⟨a, ha, rfl⟩ := List.mem_map.1 hb
  have h2 := List.perm_cons_erase ha
  have h3 : (f a :: p).Perm (f a :: (q.erase a).map f) := h.trans (by have := h2.map f; simpa using this)
  obtain ⟨s, hs, hm⟩ := perm_map f p _ (List.Perm.cons_inv h3)
  exact ⟨a :: s, (List.Perm.cons a hs).trans h2.symm, by rw [List.map_cons, hm]⟩
theorem map_cl (l : List GCall) : (List.range l.length).map (cl l) = l := by
 apply List.ext_getElem (by simp)
 intro i h1 h2
 simp only [List.getElem_map, List.getElem_range]
 exact ix_get h2
theorem can_of_calls {l : List GCall} (p : List GCall) (h1 : p.Perm l) (h2 : p.Pairwise Rb) (h3 : runs tdo [] p) : Can tdo l [] 0 := by
 obtain ⟨s, hs, hm⟩ := perm_map (cl l) p (List.range l.length) (by rw [map_cl]; exact h1)
 exact ⟨s, by rw [left_zero]; exact hs, by rw [hm]; exact h2, by rw [hm]; exact h3⟩
end Go.Proofs.Ytopomedppninoaa
end

section
namespace Go.Proofs.Ytopomedppninoaa
open Go Go.Sx
set_option linter.unusedVariables false
set_option linter.unusedSimpArgs false
def oneC (q : List Int) (i : Nat) (c : GCall) : GCall :=
 let d : GCall := { c with Begin := 3 * ((i : Nat) : Int), End := 3 * ((i : Nat) : Int) + 1 }
 if c.Kind = 2 then { d with Ok := decide (0 < q.length), Ret := q.headD 0 }
 else if c.Kind = 4 then { d with Ret := q.headD 0 }
 else if c.Kind = 5 then { d with Ret := match q with
  | [] => c.Arg
  | x :: _ => IntKind.i64.wrap (x + c.Arg) }
 else if c.Kind = 6 then { d with Ok := q.headD 0 == c.Old }
 else d
theorem set_ix {L : List GCall} {i : Nat} (c : GCall) (h : i < L.length) : ix (L.set i c) ((i : Nat) : Int) = c := by
 rw [ix_get (by rw [List.length_set]; exact h)]; simp
theorem ones_step (kind : Int) (q : List Int) (i : Nat) (L : List GCall) (h : i < L.length) (hi : i ≤ 14) :
  taskmilllaw_LinearOnes_l2 kind (q, ((i : Nat) : Int), L) = taskmilllaw_LinearOnes_j1 kind q ((i : Nat) : Int) (L.set i (oneC q i (ix L ((i : Nat) : Int)))) := by
 have w1 : IntKind.i64.wrap ((3 : Int) * ((i : Nat) : Int)) = 3 * ((i : Nat) : Int) := wrap_id (by omega) (by omega)
 have w2 : IntKind.i64.wrap (3 * ((i : Nat) : Int) + 1) = 3 * ((i : Nat) : Int) + 1 := wrap_id (by omega) (by omega)
 have hlt : ((i : Nat) : Int) < ((L.length : Nat) : Int) := by omega
 unfold taskmilllaw_LinearOnes_l2 taskmilllaw_LinearOnes_j2
 simp only [List.set_set, List.length_set, set_ix _ h, Int.toNat_natCast, decide_eq_true hlt, decide_eq_true (Int.natCast_nonneg i), Bool.and_self, cond_true, w1, w2]
 generalize ix L ((i : Nat) : Int) = c
 obtain ⟨B, E, K, A, O, R, ok⟩ := c
 unfold oneC
 simp only
 cases q with
 | nil =>
  simp only [List.length_nil, List.headD_nil, decide_eq_false (by decide : ¬ (0 : Int) < ((0 : Nat) : Int)), cond_false, Nat.lt_irrefl, decide_false]
  by_cases h2 : K = 2
  ·subst h2; rfl
  by_cases h4 : K = 4
  ·subst h4; rfl
  by_cases h5 : K = 5
  ·subst h5; rfl
  by_cases h6 : K = 6
  ·subst h6; rfl
  simp only [beqF h2, beqF h4, beqF h5, beqF h6, if_neg h2, if_neg h4, if_neg h5, if_neg h6, cond_false]
 | cons x r =>
  have hx : (0 : Int) < (((x :: r).length : Nat) : Int) := by simp only [List.length_cons]; omega
  have hx2 : 0 < (x :: r).length := by simp
  have hx3 : ix (x :: r) 0 = x := rfl
  simp only [decide_eq_true hx, decide_eq_true hx2, cond_true, hx3, List.headD_cons]
  by_cases h2 : K = 2
  ·subst h2; rfl
  by_cases h4 : K = 4
  ·subst h4; rfl
  by_cases h5 : K = 5
  ·subst h5; rfl
  by_cases h6 : K = 6
  ·subst h6; rfl
  simp only [beqF h2, beqF h4, beqF h5, beqF h6, if_neg h2, if_neg h4, if_neg h5, if_neg h6, cond_false]
def th (l : List GCall) : Nat → List Int
 | 0 => []
 | i + 1 => (tdo (th l i) (oneC (th l i) i (cl l i))).1
def oneL (l : List GCall) (n : Nat) : List GCall := (List.range l.length).map fun i => if i < n then oneC (th l i) i (cl l i) else cl l i
theorem oneL_len (l : List GCall) (n : Nat) : (oneL l n).length = l.length := by simp [oneL]
theorem oneL_at (l : List GCall) (n i : Nat) (h : i < l.length) : ix (oneL l n) ((i : Nat) : Int) = if i < n then oneC (th l i) i (cl l i) else cl l i := by
 rw [ix_get (by rw [oneL_len]; exact h)]
 simp [oneL]
theorem oneL_set (l : List GCall) (i : Nat) (h : i < l.length) : (oneL l i).set i (oneC (th l i) i (cl l i)) = oneL l (i + 1) := by
 apply List.ext_getElem (by simp [oneL])
 intro j h1 h2
 rw [List.getElem_set]
 simp only [oneL, List.getElem_map, List.getElem_range]
 by_cases hij : i = j
 ·subst hij; rw [if_pos rfl, if_pos (by omega)]
 ·rw [if_neg hij]
  by_cases hj : j < i
  ·rw [if_pos hj, if_pos (by omega)]
  ·rw [if_neg hj, if_neg (by omega)]
theorem oneL_zero (l : List GCall) : oneL l 0 = l := by
 unfold oneL
 conv => rhs; rw [← map_cl l]
 apply List.map_congr_left
 intro i _
 rw [if_neg (by omega)]
theorem th_len (l : List GCall) : ∀ i, (th l i).length ≤ i
 | 0 => Nat.le_refl _
 | i + 1 => Nat.le_trans (tdo_len _ _) (by have := th_len l i; omega)
theorem one_fields (q : List Int) (i : Nat) (c : GCall) : (oneC q i c).Kind = c.Kind ∧ (oneC q i c).Begin = 3 * ((i : Nat) : Int) ∧ (oneC q i c).End = 3 * ((i : Nat) : Int) + 1 ∧ (oneC q i c).Arg = c.Arg ∧ (oneC q i c).Old = c.Old := by
 unfold oneC
 simp only
 split
 ·exact ⟨rfl, rfl, rfl, rfl, rfl⟩
 ·split
  ·exact ⟨rfl, rfl, rfl, rfl, rfl⟩
  ·split
   ·exact ⟨rfl, rfl, rfl, rfl, rfl⟩
   ·split <;> exact ⟨rfl, rfl, rfl, rfl, rfl⟩
theorem one_tells (q : List Int) (i : Nat) (c : GCall) (hk : c.Kind = 1 ∨ c.Kind = 2 ∨ c.Kind = 3 ∨ c.Kind = 4 ∨ c.Kind = 5 ∨ c.Kind = 6) (ha : IntKind.i64.wrap c.Arg = c.Arg) : (tdo q (oneC q i c)).2 = true := by
 obtain ⟨B, E, K, A, O, R, ok⟩ := c
 simp only at hk ha
 unfold oneC
 rcases hk with rfl | rfl | rfl | rfl | rfl | rfl
 ·rfl
 ·cases q with
  | nil => rfl
  | cons x r => simp [tdo, qdo]
 ·rfl
 ·simp [tdo]
 ·cases q with
  | nil => simp [tdo, ha]
  | cons x r => simp [tdo]
 ·by_cases h : q.headD 0 = O
  ·simp only [tdo, h]; simp
  ·have h2 := beqF h
   generalize hn : q.headD 0 = n at h h2
   simp only [tdo, hn, h2]
   simp [h]
theorem one_ok {kind : Int} (hk : 1 ≤ kind ∧ kind ≤ 3) (q : List Int) (i : Nat) (hi : i ≤ 14) (c : GCall) (h : callF kind c 0 = none) : callF kind (oneC q i c) 0 = none := by
 obtain ⟨h1, h2, h3⟩ := callF_ok.1 h
 obtain ⟨f1, f2, f3, f4, f5⟩ := one_fields q i c
 rw [callF_ok]
 refine ⟨by rw [f1]; exact h1, range_ok.2 ⟨by rw [f2]; omega, by rw [f2, f3]; omega, by rw [f3]; omega⟩, ?_⟩
 have hks := kinds hk h1
 obtain ⟨B, E, K, A, O, R, ok⟩ := c
 simp only at hks h3
 unfold oneC
 rcases hks with rfl | rfl | rfl | rfl | rfl | rfl
 ·exact h3
 ·simp only [formB] at h3 ⊢
  cases q with
  | nil => simp at h3 ⊢; exact ⟨h3.1, h3.2.1⟩
  | cons x r => simp at h3 ⊢; exact ⟨h3.1, h3.2.1⟩
 ·exact h3
 ·exact h3
 ·exact h3
 ·exact h3
theorem one_runs (l : List GCall) (hk : ∀ i, i < l.length → (tdo (th l i) (oneC (th l i) i (cl l i))).2 = true) : ∀ (d n : Nat), n + d = l.length → runs tdo (th l n) ((List.range' n d).map fun i => oneC (th l i) i (cl l i))
 | 0, n, h => trivial
 | d + 1, n, h => by
  rw [List.range'_succ, List.map_cons]
  exact ⟨hk n (by omega), one_runs l hk d (n + 1) (by omega)⟩
theorem ones_law (kind : Int) (l : List GCall) (hA : ∀ c ∈ l, -9223372036854775808 ≤ c.Arg ∧ c.Arg ≤ 9223372036854775807) : taskmilllaw_LinearOnes kind l = some true := by
 unfold taskmilllaw_LinearOnes taskmilllaw_LinearOnes_j3
 rw [begun_eq, Option.bind_some, Bool.not_true, cond_false]
 by_cases h : 14 < l.length
 ·rw [decide_eq_true (by omega), cond_true, cond_true]
 ·rw [decide_eq_false (by omega), cond_false, calls_eq, Option.bind_some]
  by_cases hc : (chkF kind l).Code = 0
  ·obtain ⟨hn, hk, h3⟩ := chk_ok.1 hc
   rw [bneF hc, cond_false, own_eq l (by omega), Option.bind_some]
   have htell : ∀ i, i < l.length → (tdo (th l i) (oneC (th l i) i (cl l i))).2 = true := fun i hi => by
    refine one_tells _ _ _ (kinds hk (callF_ok.1 (h3 i hi)).1) ?_
    have hm : cl l i ∈ l := by rw [show cl l i = l[i] from ix_get hi]; exact List.getElem_mem hi
    have := hA _ hm
    exact wrap_id this.1 this.2
   have hall := loopO_all (step := taskmilllaw_LinearOnes_l2 kind) (fun i => (th l i, ((i : Nat) : Int), oneL l i)) (some true) l.length (fun i hi => ?_) ?_
   ·rw [oneL_zero] at hall; exact hall
   ·rw [ones_step kind _ i _ (by rw [oneL_len]; exact hi) (by omega), oneL_at l i i hi, if_neg (by omega), oneL_set l i hi]
    unfold taskmilllaw_LinearOnes_j1
    rw [oneL_len, decide_eq_true (Int.natCast_nonneg i), decide_eq_true (by omega : ((i : Nat) : Int) < ((l.length : Nat) : Int)), Bool.and_self, cond_true, oneL_at l (i + 1) i hi, if_pos (by omega), t_eq _ _ (by have := th_len l i; omega), Option.bind_some, htell i hi, Bool.not_true, cond_false, wrap_n1 i (by omega)]
    rfl
   ·unfold taskmilllaw_LinearOnes_l2
    dsimp only
    rw [oneL_len, decide_eq_false (by omega : ¬ ((l.length : Nat) : Int) < ((l.length : Nat) : Int)), cond_false]
    have hat : ∀ i, i < l.length → cl (oneL l l.length) i = oneC (th l i) i (cl l i) := fun i hi => by rw [show cl (oneL l l.length) i = _ from oneL_at l l.length i hi, if_pos hi]
    have hcm : (chkF kind (oneL l l.length)).Code = 0 := by
     refine chk_ok.2 ⟨by rw [oneL_len]; exact hn, hk, fun i hi => ?_⟩
     rw [oneL_len] at hi
     rw [hat i hi]
     exact one_ok hk _ i (by omega) _ (h3 i hi)
    have hmap : oneL l l.length = (List.range' 0 l.length).map fun i => oneC (th l i) i (cl l i) := by
     unfold oneL
     rw [List.range_eq_range']
     apply List.map_congr_left
     intro i hi
     rw [if_pos (by simp at hi; omega)]
    have hcan : Can tdo (oneL l l.length) [] 0 := by
     refine can_of_calls (oneL l l.length) (.refl _) ?_ ?_
     ·rw [hmap, List.pairwise_map, ← List.range_eq_range']
      refine (List.pairwise_lt_range (n := l.length)).imp fun {i j} hij => ?_
      unfold Rb
      rw [(one_fields _ i _).2.1, (one_fields _ j _).2.2.1]
      omega
     ·rw [hmap]
      exact one_runs l htell l.length 0 (by omega)
    obtain ⟨r, hr, hrr⟩ := find_eq hcm
    rw [hr, Option.bind_some]
    rcases hrr with ⟨e, σ, hσ, ho⟩ | ⟨_, _, hC⟩
    ·have hσl := legal_len hσ
     rw [oneL_len] at hσl
     have hsort : σ = List.range l.length := by
      have hp := hσ.1
      rw [left_zero, oneL_len] at hp
      refine List.Perm.eq_of_pairwise (le := fun a b => a ≤ b) (fun a b _ _ h1 h2 => Nat.le_antisymm h1 h2) ?_ List.pairwise_le_range hp
      have hpw := hσ.2.1
      rw [List.pairwise_map] at hpw
      refine hpw.imp_of_mem fun {i j} hi hj hR => ?_
      have hi' := List.mem_range.1 (hp.mem_iff.1 hi)
      have hj' := List.mem_range.1 (hp.mem_iff.1 hj)
      unfold Rb at hR
      rw [hat i hi', hat j hj', (one_fields _ i _).2.1, (one_fields _ j _).2.2.1] at hR
      omega
     rw [e, ho, hsort, bneF rfl, Bool.false_or, List.length_map, List.length_range, bneF rfl, cond_false]
     have hl1 := loopO_all (step := taskmilllaw_LinearOnes_l1) (fun i => (((i : Nat) : Int), (List.range l.length).map fun i => ((i : Nat) : Int))) (some true) l.length (fun i hi => ?_) ?_
     ·rw [show (((0 : Nat) : Int)) = 0 from rfl] at hl1
      rw [hl1]
     ·unfold taskmilllaw_LinearOnes_l1
      dsimp only
      rw [List.length_map, List.length_range, decide_eq_true (Int.natCast_nonneg i), decide_eq_true (by omega : ((i : Nat) : Int) < ((l.length : Nat) : Int)), Bool.and_self, cond_true, cond_true, ix_get (by rw [List.length_map, List.length_range]; exact hi), List.getElem_map, List.getElem_range, bneF rfl, cond_false, wrap_n1 i (by omega)]
     ·unfold taskmilllaw_LinearOnes_l1
      dsimp only
      rw [List.length_map, List.length_range, decide_eq_false (by omega : ¬ ((l.length : Nat) : Int) < ((l.length : Nat) : Int)), cond_false]
    ·exact absurd hcan hC
  ·rw [bneT hc, cond_true]
end Go.Proofs.Ytopomedppninoaa
end
