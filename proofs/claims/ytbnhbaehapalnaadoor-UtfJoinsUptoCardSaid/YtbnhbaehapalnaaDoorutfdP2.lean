/-
  What laws of the chapter utfd compute, and lemmas on it.
  No conditions.
-/
import Derived.Test.YtbnhbaehapalnaaDoorutfdP
set_option linter.unusedSimpArgs false
set_option linter.unusedVariables false
namespace Go.Proofs.YtbnhbaehapalnaaDoor
open Go Go.Sx
/-! ### Bytes of letters -/
def isL (n : Int) : Bool := decide ((0 : Int) ≤ n) && (decide (n ≤ 1114111) && (!(decide ((55296 : Int) ≤ n)) || !(decide (n ≤ 57343))))
theorem isL_iff (n : Int) : isL n = true ↔ 0 ≤ n ∧ n ≤ 1114111 ∧ (n < 55296 ∨ 57343 < n) := by
  simp only [isL, Bool.and_eq_true, Bool.or_eq_true, decide_eq_true_eq, Bool.not_eq_true', decide_eq_false_iff_not]; omega
def fixL (n : Int) : Int := if isL n = true then n else 65533
theorem fixL_ok (n : Int) : isL (fixL n) = true := by
  unfold fixL; split
  · assumption
  · decide
def bo (n : Int) : List Int := if n < 128 then [n] else if n < 2048 then [192 + n / 64, 128 + n % 64] else if n < 65536 then [224 + n / 4096, 128 + n / 64 % 64, 128 + n % 64] else [240 + n / 262144, 128 + n / 4096 % 64, 128 + n / 64 % 64, 128 + n % 64]
theorem wrap_u8 {x : Int} (h0 : 0 ≤ x) (h1 : x < 256) : IntKind.u8.wrap x = x := by
  simp [IntKind.wrap, IntKind.bits, IntKind.signed]; omega
theorem bytes_j (n : Int) (h0 : 0 ≤ n) (h1 : n ≤ 1114111) : taskmillref_BytesOf_j1 n = some ((bo n).map Ku8.mk) := by
  have t1 : Int.tdiv n 64 = n / 64 := Int.tdiv_eq_ediv_of_nonneg h0
  have t2 : Int.tdiv n 4096 = n / 4096 := Int.tdiv_eq_ediv_of_nonneg h0
  have t3 : Int.tdiv n 262144 = n / 262144 := Int.tdiv_eq_ediv_of_nonneg h0
  have w1 : IntKind.i64.wrap (n / 64) = n / 64 := wrap_id (by omega) (by omega)
  have w2 : IntKind.i64.wrap (n / 4096) = n / 4096 := wrap_id (by omega) (by omega)
  have w3 : IntKind.i64.wrap (n / 262144) = n / 262144 := wrap_id (by omega) (by omega)
  have m1 : Int.tmod n 64 = n % 64 := Int.tmod_eq_emod_of_nonneg h0
  have m2 : Int.tmod (n / 64) 64 = n / 64 % 64 := Int.tmod_eq_emod_of_nonneg (by omega)
  have m3 : Int.tmod (n / 4096) 64 = n / 4096 % 64 := Int.tmod_eq_emod_of_nonneg (by omega)
  have v1 : IntKind.i64.wrap (192 + n / 64) = 192 + n / 64 := wrap_id (by omega) (by omega)
  have v2 : IntKind.i64.wrap (128 + n % 64) = 128 + n % 64 := wrap_id (by omega) (by omega)
  have v3 : IntKind.i64.wrap (224 + n / 4096) = 224 + n / 4096 := wrap_id (by omega) (by omega)
  have v4 : IntKind.i64.wrap (128 + n / 64 % 64) = 128 + n / 64 % 64 := wrap_id (by omega) (by omega)
  have v5 : IntKind.i64.wrap (240 + n / 262144) = 240 + n / 262144 := wrap_id (by omega) (by omega)
  have v6 : IntKind.i64.wrap (128 + n / 4096 % 64) = 128 + n / 4096 % 64 := wrap_id (by omega) (by omega)
  have u2 : IntKind.u8.wrap (128 + n % 64) = 128 + n % 64 := wrap_u8 (by omega) (by omega)
  have u4 : IntKind.u8.wrap (128 + n / 64 % 64) = 128 + n / 64 % 64 := wrap_u8 (by omega) (by omega)
  have u6 : IntKind.u8.wrap (128 + n / 4096 % 64) = 128 + n / 4096 % 64 := wrap_u8 (by omega) (by omega)
  unfold taskmillref_BytesOf_j1 bo
  simp only [t1, t2, t3, w1, w2, w3, m1, m2, m3, v1, v2, v3, v4, v5, v6, u2, u4, u6]
  by_cases c1 : n < 128
  · have u : IntKind.u8.wrap n = n := wrap_u8 (by omega) (by omega)
    simp [c1, u]
  · by_cases c2 : n < 2048
    · have u : IntKind.u8.wrap (192 + n / 64) = 192 + n / 64 := wrap_u8 (by omega) (by omega)
      simp [c1, c2, u]
    · by_cases c3 : n < 65536
      · have u : IntKind.u8.wrap (224 + n / 4096) = 224 + n / 4096 := wrap_u8 (by omega) (by omega)
        simp [c1, c2, c3, u]
      · have u : IntKind.u8.wrap (240 + n / 262144) = 240 + n / 262144 := wrap_u8 (by omega) (by omega)
        simp [c1, c2, c3, u]
theorem letter_is (n : Int) : taskmillref_IsLetter n = some (isL n) := rfl
theorem bytesOf_eq (n : Int) : taskmillref_BytesOf n = some ((bo (fixL n)).map Ku8.mk) := by
  unfold taskmillref_BytesOf
  rw [letter_is]
  simp only [Option.bind_some]
  unfold fixL
  cases h : isL n with
  | true =>
    have := (isL_iff n).1 h
    rw [Bool.not_true, cond_false, if_pos rfl]; exact bytes_j n this.1 this.2.1
  | false => rw [Bool.not_false, cond_true, if_neg (by simp)]; exact bytes_j 65533 (by omega) (by omega)
theorem bo_range (n : Int) (h : isL n = true) : ∀ x ∈ bo n, 0 ≤ x ∧ x < 256 := by
  have := (isL_iff n).1 h
  intro x hx
  unfold bo at hx
  split at hx
  · simp at hx; omega
  · split at hx
    · simp at hx; omega
    · split at hx <;> simp at hx <;> omega
theorem bo_len (n : Int) : (bo n).length ≤ 4 := by unfold bo; repeat' split
                                                   all_goals simp
def U (l : List Int) : ByteArray := ⟨(l.map fun n => UInt8.ofNat n.toNat).toArray⟩
theorem U_app (a b : List Int) : U (a ++ b) = U a ++ U b := by
  apply ByteArray.ext
  rw [ByteArray.data_append]
  simp [U]
theorem U_size (a : List Int) : (U a).size = a.length := by
  show (U a).data.size = _
  simp [U]
theorem bytL_go : ∀ (l : List Int) (r : ByteArray), l.foldl (fun r n => r.push (UInt8.ofNat n.toNat)) r = r ++ U l
  | [], r => by
    apply ByteArray.ext
    rw [ByteArray.data_append]
    simp [U]
  | n :: l, r => by
    rw [List.foldl_cons, bytL_go l]
    apply ByteArray.ext
    rw [ByteArray.data_append, ByteArray.data_append]
    simp [U, ByteArray.push]
theorem bytL_eq (l : List Int) : bytL l = U l := by
  unfold bytL
  rw [bytL_go]
  apply ByteArray.ext
  rw [ByteArray.data_append]
  simp [U]
theorem U_inj : ∀ {a b : List Int}, (∀ x ∈ a, 0 ≤ x ∧ x < 256) → (∀ x ∈ b, 0 ≤ x ∧ x < 256) → U a = U b → a = b := by
  intro a b ha hb h
  have h2 : (a.map fun n => UInt8.ofNat n.toNat) = b.map fun n => UInt8.ofNat n.toNat := by
    have := congrArg (fun x => x.data.toList) h
    simpa [U] using this
  clear h
  induction a generalizing b with
  | nil => cases b with
    | nil => rfl
    | cons => simp at h2
  | cons x a ih => cases b with
    | nil => simp at h2
    | cons y b =>
      simp only [List.map_cons, List.cons.injEq] at h2
      have hx := ha x (by simp)
      have hy := hb y (by simp)
      have e : x.toNat = y.toNat := by
        have := congrArg UInt8.toNat h2.1
        have a1 : x.toNat < UInt8.size := by show x.toNat < 256; omega
        have a2 : y.toNat < UInt8.size := by show y.toNat < 256; omega
        rw [UInt8.toNat_ofNat_of_lt' a1, UInt8.toNat_ofNat_of_lt' a2] at this
        exact this
      rw [ih (fun z hz => ha z (List.mem_cons_of_mem _ hz)) (fun z hz => hb z (List.mem_cons_of_mem _ hz)) h2.2]
      congr 1
      omega
theorem enc_nat (c : Nat) : (if c < 0x80 then (⟨#[UInt8.ofNat c]⟩ : ByteArray)
  else if c < 0x800 then ⟨#[UInt8.ofNat (0xC0 + c / 64), UInt8.ofNat (0x80 + c % 64)]⟩
  else if c < 0x10000 then ⟨#[UInt8.ofNat (0xE0 + c / 4096), UInt8.ofNat (0x80 + c / 64 % 64), UInt8.ofNat (0x80 + c % 64)]⟩
  else ⟨#[UInt8.ofNat (0xF0 + c / 262144), UInt8.ofNat (0x80 + c / 4096 % 64), UInt8.ofNat (0x80 + c / 64 % 64), UInt8.ofNat (0x80 + c % 64)]⟩) = U (bo (c : Int)) := by
  have e1 : (192 + (c : Int) / 64).toNat = 192 + c / 64 := by omega
  have e2 : (128 + (c : Int) % 64).toNat = 128 + c % 64 := by omega
  have e3 : (224 + (c : Int) / 4096).toNat = 224 + c / 4096 := by omega
  have e4 : (128 + (c : Int) / 64 % 64).toNat = 128 + c / 64 % 64 := by omega
  have e5 : (240 + (c : Int) / 262144).toNat = 240 + c / 262144 := by omega
  have e6 : (128 + (c : Int) / 4096 % 64).toNat = 128 + c / 4096 % 64 := by omega
  unfold bo
  by_cases c1 : c < 128
  · rw [if_pos c1, if_pos (show (c : Int) < 128 by omega)]; simp [U]
  · rw [if_neg c1, if_neg (show ¬ (c : Int) < 128 by omega)]
    by_cases c2 : c < 2048
    · rw [if_pos c2, if_pos (show (c : Int) < 2048 by omega)]; simp only [U, List.map_cons, List.map_nil, e1, e2]
    · rw [if_neg c2, if_neg (show ¬ (c : Int) < 2048 by omega)]
      by_cases c3 : c < 65536
      · rw [if_pos c3, if_pos (show (c : Int) < 65536 by omega)]; simp only [U, List.map_cons, List.map_nil, e3, e4, e2]
      · rw [if_neg c3, if_neg (show ¬ (c : Int) < 65536 by omega)]; simp only [U, List.map_cons, List.map_nil, e5, e6, e4, e2]
theorem encode_eq (n : Int) : Utf8.encode n = U (bo (fixL n)) := by
  have hv : Utf8.valid n = isL n := by
    rw [Bool.eq_iff_iff, isL_iff]
    simp only [Utf8.valid, Bool.or_eq_true, Bool.and_eq_true, decide_eq_true_eq]; omega
  unfold Utf8.encode fixL
  rw [hv]
  cases h : isL n with
  | true =>
    have := (isL_iff n).1 h
    have e : ((n.toNat : Nat) : Int) = n := by omega
    rw [if_pos rfl, if_pos rfl, ← e]
    simp only [Int.toNat_natCast]
    exact enc_nat n.toNat
  | false =>
    simp only [Bool.false_eq_true, if_false]
    exact enc_nat Utf8.runeError
def bf (n : Int) : List Int := bo (fixL n)
theorem encL_go : ∀ (l : List Int) (r : ByteArray), l.foldl (fun r n => r ++ Utf8.encode n) r = r ++ U (l.flatMap bf)
  | [], r => by
    apply ByteArray.ext
    rw [ByteArray.data_append]
    simp [U]
  | n :: l, r => by
    rw [List.foldl_cons, encL_go l, List.flatMap_cons, U_app, encode_eq, ByteArray.append_assoc]; rfl
theorem encL_eq (l : List Int) : encL l = U (l.flatMap bf) := by
  unfold encL
  rw [encL_go]
  apply ByteArray.ext
  rw [ByteArray.data_append]
  simp
theorem bf_len (l : List Int) : (l.flatMap bf).length ≤ 4 * l.length := by
  induction l with
  | nil => simp
  | cons n l ih =>
    have := bo_len (fixL n)
    have e : (bf n).length ≤ 4 := this
    rw [List.flatMap_cons, List.length_append, List.length_cons]; omega
theorem mk_v8 (l : List Int) : (l.map Ku8.mk).map Ku8.v = l := by
  rw [List.map_map]
  exact List.map_id'' (fun _ => rfl) l
theorem mk_v32 (l : List Int) : (l.map Ki32.mk).map Ki32.v = l := by
  rw [List.map_map]
  exact List.map_id'' (fun _ => rfl) l
theorem fix_fix (n : Int) : fixL (fixL n) = fixL n := by
  rw [fixL, if_pos (fixL_ok n)]
theorem bf_fix (l : List Int) : (l.map fixL).flatMap bf = l.flatMap bf := by
  rw [List.flatMap_map]
  congr 1
  funext n
  simp only [bf, fix_fix]
theorem write_eq (l : List Int) (h : l.length ≤ 1000000) : utf_Write l = some (if 5000 < l.length then (ByteArray.empty, ⟨2, 0⟩) else (U (l.flatMap bf), ⟨0, 0⟩)) := by
  unfold utf_Write
  by_cases hs : 5000 < l.length
  · have : decide ((5000 : Int) < ((l.length : Nat) : Int)) = true := by simp; omega
    rw [this, if_pos hs]; rfl
  · have : decide ((5000 : Int) < ((l.length : Nat) : Int)) = false := by simp; omega
    rw [this, if_neg hs]
    have := loopO_all (step := utf_Write_l1 l) (fun i => (((i : Nat) : Int), ((l.take i).map fixL).map Ki32.mk)) (some (U (l.flatMap bf), ⟨0, 0⟩)) l.length (fun i hi => ?_) ?_
    · simpa using this
    · have h1 : ((i : Nat) : Int) < ((l.length : Nat) : Int) := by omega
      have h2 : (0 : Int) ≤ ((i : Nat) : Int) := by omega
      have key : ∀ x, x = fixL l[i] → utf_Write_j1 l i (((l.take i).map fixL).map Ki32.mk) x = some (.inl (((i + 1 : Nat) : Int), ((l.take (i + 1)).map fixL).map Ki32.mk)) := fun x hx => by
        have hr := (isL_iff _).1 (fixL_ok l[i])
        rw [← hx] at hr
        have hw : IntKind.i32.wrap x = x := by
          simp only [IntKind.wrap, IntKind.bits, IntKind.signed, if_true]
          simp
          omega
        have hb : (((l.take i).map fixL).map Ki32.mk ++ [Ki32.mk x]).length * 4 ≤ 140737488355328 := by simp; omega
        simp only [utf_Write_j1, hw, hb, decide_true, cond_true]
        rw [wrap_n1 i (by omega), List.take_succ_eq_append_getElem hi, hx]
        simp only [List.map_append, List.map_cons, List.map_nil]
      simp only [utf_Write_l1, h1, h2, decide_true, Bool.and_true, cond_true, ix_get hi]
      cases hl : isL l[i] with
      | true =>
        have hr := (isL_iff _).1 hl
        have e : (decide (l[i] < 0) || (decide ((1114111 : Int) < l[i]) || (decide ((55296 : Int) ≤ l[i]) && decide (l[i] ≤ 57343)))) = false := by
          simp only [Bool.or_eq_false_iff, Bool.and_eq_false_iff, decide_eq_false_iff_not]; omega
        rw [e]
        exact key _ (by rw [fixL, if_pos hl])
      | false =>
        have hr : ¬ (isL l[i] = true) := by rw [hl]; simp
        rw [isL_iff] at hr
        have e : (decide (l[i] < 0) || (decide ((1114111 : Int) < l[i]) || (decide ((55296 : Int) ≤ l[i]) && decide (l[i] ≤ 57343)))) = true := by
          simp only [Bool.or_eq_true, Bool.and_eq_true, decide_eq_true_eq]; omega
        rw [e]
        exact key _ (by rw [fixL, if_neg (by rw [hl]; simp)])
    · simp only [utf_Write_l1, Int.lt_irrefl, decide_false, cond_false, List.take_length, mk_v32, encL_eq, bf_fix]
end Go.Proofs.YtbnhbaehapalnaaDoor
