/-
  What laws of the chapter utfd compute, and lemmas on it.
  No conditions.
-/
import Derived.Test.YtbnhbaehapalnaaDoorutfdP4
import Derived.Lib.DecodeNEq
set_option linter.unusedSimpArgs false
set_option linter.unusedVariables false
namespace Go.Proofs.YtbnhbaehapalnaaDoor
open Go Go.Sx
/-! ### The library's own way of reading a letter -/
theorem by0 (s : ByteArray) (p : Nat) : (s.data.getD p 0).toNat = by' s p := by
  unfold by'
  congr 1
theorem firstB_eq (b : Nat) : firstB b = ((Lib.firstT b : Nat) : Int) := by
  unfold firstB Lib.firstT
  repeat' split
  all_goals first | rfl | omega
theorem first_len : utf8First.length = 256 := by kernel_rfl
theorem first_at (b : Nat) (h : b < 256) : (ix utf8First ((b : Nat) : Int)).v = ((Lib.firstT b : Nat) : Int) := by
  rw [ix_get (by rw [first_len]; exact h)]
  simp [utf8First, firstB_eq]
theorem acc_len : utf8Accept.length = 16 := rfl
theorem acc_at : ∀ i : Nat, i < 16 → (ix utf8Accept ((i : Nat) : Int)).lo = ((Lib.accLo i : Nat) : Int) ∧ (ix utf8Accept ((i : Nat) : Int)).hi = ((Lib.accHi i : Nat) : Int) := by decide +kernel
theorem and7 : ∀ x : Nat, x < 256 → IntKind.u8.wrap (((BitVec.ofInt (IntKind.u8).bits ((x : Nat) : Int) &&& BitVec.ofInt (IntKind.u8).bits 7).toNat : Nat) : Int) = ((x % 8 : Nat) : Int) := by decide +kernel
theorem and15 : ∀ x : Nat, x < 256 → IntKind.u8.wrap (((BitVec.ofInt (IntKind.u8).bits ((x : Nat) : Int) &&& BitVec.ofInt (IntKind.u8).bits 15).toNat : Nat) : Int) = ((x % 16 : Nat) : Int) := by decide +kernel
theorem and31 : ∀ x : Nat, x < 256 → IntKind.u8.wrap (((BitVec.ofInt (IntKind.u8).bits ((x : Nat) : Int) &&& BitVec.ofInt (IntKind.u8).bits 31).toNat : Nat) : Int) = ((x % 32 : Nat) : Int) := by decide +kernel
theorem and63 : ∀ x : Nat, x < 256 → IntKind.u8.wrap (((BitVec.ofInt (IntKind.u8).bits ((x : Nat) : Int) &&& BitVec.ofInt (IntKind.u8).bits 63).toNat : Nat) : Int) = ((x % 64 : Nat) : Int) := by decide +kernel
theorem shr4 : ∀ x : Nat, x < 256 → Int.fdiv ((x : Nat) : Int) (2 ^ (min ((4 : Int)).toNat (IntKind.u8).bits)) = ((x / 16 : Nat) : Int) := by decide +kernel
theorem bad241 : ∀ b : Nat, b < 256 → IntKind.i32.wrap (((BitVec.ofInt (IntKind.i32).bits (IntKind.i32.wrap (((BitVec.ofInt (IntKind.i32).bits (IntKind.i32.wrap ((b : Nat) : Int)) &&& ~~~ BitVec.ofInt (IntKind.i32).bits (Int.fdiv (IntKind.i32.wrap ((IntKind.i32.wrap 241) * 2 ^ (min ((31 : Int)).toNat (IntKind.i32).bits))) (2 ^ (min ((31 : Int)).toNat (IntKind.i32).bits)))).toNat : Nat) : Int)) ||| BitVec.ofInt (IntKind.i32).bits (IntKind.i32.wrap (((BitVec.ofInt (IntKind.i32).bits 65533 &&& BitVec.ofInt (IntKind.i32).bits (Int.fdiv (IntKind.i32.wrap ((IntKind.i32.wrap 241) * 2 ^ (min ((31 : Int)).toNat (IntKind.i32).bits))) (2 ^ (min ((31 : Int)).toNat (IntKind.i32).bits)))).toNat : Nat) : Int))).toNat : Nat) : Int) = 65533 := by decide +kernel
theorem wrap_i32 {x : Int} (h0 : -2147483648 ≤ x) (h1 : x ≤ 2147483647) : IntKind.i32.wrap x = x := by
  simp only [IntKind.wrap, IntKind.bits, IntKind.signed, if_true]
  simp
  omega
theorem or32 (k A B : Nat) (p q : Int) (hp : p = ((A * 2 ^ k : Nat) : Int)) (hq : q = ((B : Nat) : Int)) (hB : B < 2 ^ k) (h : A * 2 ^ k + B < 2147483648) :
    IntKind.i32.wrap (((BitVec.ofInt (IntKind.i32).bits p ||| BitVec.ofInt (IntKind.i32).bits q).toNat : Nat) : Int) = ((A * 2 ^ k + B : Nat) : Int) := by
  subst hp; subst hq
  have e : (BitVec.ofInt (IntKind.i32).bits ((A * 2 ^ k : Nat) : Int) ||| BitVec.ofInt (IntKind.i32).bits ((B : Nat) : Int)).toNat = A * 2 ^ k + B := by
    rw [BitVec.toNat_or, BitVec.toNat_ofInt, BitVec.toNat_ofInt]
    have e1 : (((A * 2 ^ k : Nat) : Int) % ((2 ^ (IntKind.i32).bits : Nat) : Int)).toNat = A * 2 ^ k := by
      have : ((2 ^ (IntKind.i32).bits : Nat) : Int) = 4294967296 := by decide
      rw [this]; omega
    have e2 : (((B : Nat) : Int) % ((2 ^ (IntKind.i32).bits : Nat) : Int)).toNat = B := by
      have : ((2 ^ (IntKind.i32).bits : Nat) : Int) = 4294967296 := by decide
      rw [this]; omega
    rw [e1, e2]
    have := Nat.shiftLeft_add_eq_or_of_lt hB A
    rw [Nat.shiftLeft_eq] at this
    exact this.symm
  rw [e]
  exact wrap_i32 (by omega) (by omega)
theorem sh_i32 (a k : Nat) (K : Int) (hK : min K.toNat (IntKind.i32).bits = k) (h : a * 2 ^ k < 2147483648) (ha : a < 256) : IntKind.i32.wrap ((IntKind.i32.wrap ((a : Nat) : Int)) * 2 ^ (min K.toNat (IntKind.i32).bits)) = ((a * 2 ^ k : Nat) : Int) := by
  have hw : IntKind.i32.wrap ((a : Nat) : Int) = ((a : Nat) : Int) := wrap_i32 (by omega) (by omega)
  rw [hK, hw]
  have e : ((a : Nat) : Int) * 2 ^ k = ((a * 2 ^ k : Nat) : Int) := by simp
  rw [e]
  exact wrap_i32 (by omega) (by omega)
set_option maxHeartbeats 4000000 in
theorem slow_ok (s : ByteArray) (h : 1 ≤ s.size) (hs : s.size ≤ 1000000) (hb : 128 ≤ by' s 0) : utf8_decodeRuneInStringSlow s = some ((((Utf8.decode s 0).1 : Nat) : Int), (((Utf8.decode s 0).2 : Nat) : Int)) := by
  rw [dec_eq s 0]
  have t0 : ((0 : Int)).toNat = 0 := rfl
  have t1 : ((1 : Int)).toNat = 1 := rfl
  have t2 : ((2 : Int)).toNat = 2 := rfl
  have t3 : ((3 : Int)).toNat = 3 := rfl
  have l0 := by_lt s 0
  have l1 := by_lt s 1
  have l2 := by_lt s 2
  have l3 := by_lt s 3
  unfold utf8_decodeRuneInStringSlow
  simp only [t0, t1, t2, t3, by0, Nat.zero_add, Nat.sub_zero]
  generalize by' s 0 = b0 at *
  generalize by' s 1 = b1 at *
  generalize by' s 2 = b2 at *
  generalize by' s 3 = b3 at *
  generalize s.size = n at *
  have c1 : ¬ (((n : Nat) : Int) < 1) := by omega
  have c2 : (0 : Int) < ((n : Nat) : Int) := by omega
  have c3 : (0 : Int) ≤ ((b0 : Nat) : Int) := by omega
  have c4 : ((b0 : Nat) : Int) < ((256 : Nat) : Int) := by omega
  have hx : Lib.firstT b0 = 240 ∨ Lib.firstT b0 = 241 ∨ Lib.firstT b0 = 2 ∨ Lib.firstT b0 = 19 ∨ Lib.firstT b0 = 3 ∨ Lib.firstT b0 = 35 ∨ Lib.firstT b0 = 52 ∨ Lib.firstT b0 = 4 ∨ Lib.firstT b0 = 68 := by
    unfold Lib.firstT
    repeat' split
    all_goals simp
  have hx0 : Lib.firstT b0 ≠ 240 := fun e => by
    unfold Lib.firstT at e
    repeat' split at e
    all_goals omega
  simp only [c1, c2, c3, c4, first_len, first_at b0 l0, decide_true, decide_false, Bool.and_true, cond_true, cond_false]
  by_cases h241 : Lib.firstT b0 = 241
  · rw [Lib.bad_eq n b0 b1 b2 b3 l0 h241, h241]
    have c5 : (240 : Int) ≤ ((241 : Nat) : Int) := by decide
    simp only [c5, decide_true, cond_true]
    have := bad241 b0 l0
    rw [show ((241 : Nat) : Int) = 241 from rfl, this]
    rfl
  · have hlt : Lib.firstT b0 < 240 := by omega
    rw [← Lib.slow_eq n b0 b1 b2 b3 h l1 l2 l3 hlt]
    generalize Lib.firstT b0 = x at *
    have c5 : ¬ ((240 : Int) ≤ ((x : Nat) : Int)) := by omega
    have c6 : (0 : Int) ≤ ((x / 16 : Nat) : Int) := by omega
    have c7 : ((x / 16 : Nat) : Int) < ((16 : Nat) : Int) := by omega
    obtain ⟨a1, a2⟩ := acc_at (x / 16) (by omega)
    have w1 : IntKind.i64.wrap ((x % 8 : Nat) : Int) = ((x % 8 : Nat) : Int) := wrap_id (by omega) (by omega)
    simp only [c5, shr4 x (by omega), c6, c7, acc_len, a1, a2, and7 x (by omega), w1, decide_true, decide_false, Bool.and_true, cond_true, cond_false, and7 b0 l0, and15 b0 l0, and31 b0 l0, and63 b1 l1, and63 b2 l2, and63 b3 l3]
    generalize Lib.accLo (x / 16) = lo at *
    generalize Lib.accHi (x / 16) = hi at *
    have hsz : 2 ≤ x % 8 := by omega
    unfold Lib.slowN
    by_cases d1 : n < x % 8
    · have e1 : ((n : Nat) : Int) < ((x % 8 : Nat) : Int) := by omega
      simp only [e1, decide_true, cond_true]; rw [if_pos d1]; rfl
    · have e1 : ¬ (((n : Nat) : Int) < ((x % 8 : Nat) : Int)) := by omega
      have e2 : (1 : Int) < ((n : Nat) : Int) := by omega
      simp only [e1, e2, decide_true, decide_false, cond_true, cond_false]; rw [if_neg d1]
      by_cases d2 : b1 < lo ∨ hi < b1
      · have e3 : (decide (((b1 : Nat) : Int) < ((lo : Nat) : Int)) || decide (((hi : Nat) : Int) < ((b1 : Nat) : Int))) = true := by
          simp only [Bool.or_eq_true, decide_eq_true_eq]; omega
        simp only [e3, cond_true]; rw [if_pos d2]; rfl
      · have e3 : (decide (((b1 : Nat) : Int) < ((lo : Nat) : Int)) || decide (((hi : Nat) : Int) < ((b1 : Nat) : Int))) = false := by
          simp only [Bool.or_eq_false_iff, decide_eq_false_iff_not]; omega
        simp only [e3, cond_false]; rw [if_neg d2]
        by_cases d3 : x % 8 ≤ 2
        · have e4 : ((x % 8 : Nat) : Int) ≤ 2 := by omega
          simp only [e4, decide_true, cond_true]; rw [if_pos d3]
          rw [or32 6 (b0 % 32) (b1 % 64) _ _ (sh_i32 (b0 % 32) 6 6 (by decide) (by omega) (by omega)) (wrap_i32 (by omega) (by omega)) (by omega) (by omega)]
          rfl
        · have e4 : ¬ (((x % 8 : Nat) : Int) ≤ 2) := by omega
          have e5 : (2 : Int) < ((n : Nat) : Int) := by omega
          simp only [e4, e5, decide_true, decide_false, cond_true, cond_false]; rw [if_neg d3]
          by_cases d4 : b2 < 128 ∨ 191 < b2
          · have e6 : (decide (((b2 : Nat) : Int) < 128) || decide ((191 : Int) < ((b2 : Nat) : Int))) = true := by
              simp only [Bool.or_eq_true, decide_eq_true_eq]; omega
            simp only [e6, cond_true]; rw [if_pos d4]; rfl
          · have e6 : (decide (((b2 : Nat) : Int) < 128) || decide ((191 : Int) < ((b2 : Nat) : Int))) = false := by
              simp only [Bool.or_eq_false_iff, decide_eq_false_iff_not]; omega
            simp only [e6, cond_false]; rw [if_neg d4]
            by_cases d5 : x % 8 ≤ 3
            · have e7 : ((x % 8 : Nat) : Int) ≤ 3 := by omega
              simp only [e7, decide_true, cond_true]; rw [if_pos d5]
              have q1 := or32 12 (b0 % 16) (b1 % 64 * 64) _ _ (sh_i32 (b0 % 16) 12 12 (by decide) (by omega) (by omega)) (sh_i32 (b1 % 64) 6 6 (by decide) (by omega) (by omega)) (by omega) (by omega)
              rw [or32 6 (b0 % 16 * 64 + b1 % 64) (b2 % 64) _ _ (q1.trans (by omega)) (wrap_i32 (by omega) (by omega)) (by omega) (by omega)]
              have : (b0 % 16 * 64 + b1 % 64) * 2 ^ 6 + b2 % 64 = b0 % 16 * 4096 + b1 % 64 * 64 + b2 % 64 := by omega
              rw [this]
              rfl
            · have e7 : ¬ (((x % 8 : Nat) : Int) ≤ 3) := by omega
              have e8 : (3 : Int) < ((n : Nat) : Int) := by omega
              simp only [e7, e8, decide_true, decide_false, cond_true, cond_false]; rw [if_neg d5]
              by_cases d6 : b3 < 128 ∨ 191 < b3
              · have e9 : (decide (((b3 : Nat) : Int) < 128) || decide ((191 : Int) < ((b3 : Nat) : Int))) = true := by
                  simp only [Bool.or_eq_true, decide_eq_true_eq]; omega
                simp only [e9, cond_true]; rw [if_pos d6]; rfl
              · have e9 : (decide (((b3 : Nat) : Int) < 128) || decide ((191 : Int) < ((b3 : Nat) : Int))) = false := by
                  simp only [Bool.or_eq_false_iff, decide_eq_false_iff_not]; omega
                simp only [e9, cond_false]; rw [if_neg d6]
                have q1 := or32 18 (b0 % 8) (b1 % 64 * 4096) _ _ (sh_i32 (b0 % 8) 18 18 (by decide) (by omega) (by omega)) (sh_i32 (b1 % 64) 12 12 (by decide) (by omega) (by omega)) (by omega) (by omega)
                have q2 := or32 12 (b0 % 8 * 64 + b1 % 64) (b2 % 64 * 64) _ _ (q1.trans (by omega)) (sh_i32 (b2 % 64) 6 6 (by decide) (by omega) (by omega)) (by omega) (by omega)
                rw [or32 6 (b0 % 8 * 4096 + b1 % 64 * 64 + b2 % 64) (b3 % 64) _ _ (q2.trans (by omega)) (wrap_i32 (by omega) (by omega)) (by omega) (by omega)]
                have : (b0 % 8 * 4096 + b1 % 64 * 64 + b2 % 64) * 2 ^ 6 + b3 % 64 = b0 % 8 * 262144 + b1 % 64 * 4096 + b2 % 64 * 64 + b3 % 64 := by omega
                rw [this]
                rfl
theorem rune_eq (s : ByteArray) (h : 1 ≤ s.size) (hs : s.size ≤ 1000000) : utf8_DecodeRuneInString s = some ((((Utf8.decode s 0).1 : Nat) : Int), (((Utf8.decode s 0).2 : Nat) : Int)) := by
  unfold utf8_DecodeRuneInString
  have c1 : (0 : Int) < ((s.size : Nat) : Int) := by omega
  have c2 : ¬ s = ByteArray.empty := fun e => by rw [e] at h; exact absurd h (by decide)
  have t0 : ((0 : Int)).toNat = 0 := rfl
  have l0 := by_lt s 0
  simp only [c1, c2, t0, by0, decide_true, decide_false, Bool.or_true, cond_true, Bool.not_false, Bool.true_and]
  by_cases hb : by' s 0 < 128
  · have e : ((by' s 0 : Nat) : Int) < 128 := by omega
    simp only [e, decide_true, cond_true]
    rw [wrap_i32 (by omega) (by omega), dec_eq s 0]
    unfold Lib.decodeN
    rw [if_pos hb]
    rfl
  · have e : ¬ ((by' s 0 : Nat) : Int) < 128 := by omega
    simp only [e, decide_false, cond_false]
    rw [slow_ok s h hs (by omega)]
    rfl
end Go.Proofs.YtbnhbaehapalnaaDoor
