/-
  What laws of the chapter utfd compute, and lemmas on it.
  No conditions.
-/
import Derived.Test.YtbnhbaehapalnaaDoorutfdG
import Derived.Test.YtbnhbaehapalnaaDoorPB
import Derived.Lib.DecodeN
set_option linter.unusedSimpArgs false
set_option linter.unusedVariables false
namespace Go.Proofs.YtbnhbaehapalnaaDoor
open Go Go.Sx
/-! ### Letters and their places -/
def wid (s : ByteArray) (p : Nat) : Nat := (Utf8.decode s p).2
def by' (s : ByteArray) (p : Nat) : Nat := (s.get! p).toNat
theorem dec_eq (s : ByteArray) (p : Nat) : Utf8.decode s p = Lib.decodeN (s.size - p) (by' s p) (by' s (p + 1)) (by' s (p + 2)) (by' s (p + 3)) := Lib.decode_at s p
theorem dn_pos (n a b c d : Nat) : 1 ≤ (Lib.decodeN n a b c d).2 := by
  unfold Lib.decodeN
  repeat' split
  all_goals simp
theorem dn_le (n a b c d : Nat) (h : 1 ≤ n) : (Lib.decodeN n a b c d).2 ≤ n := by
  unfold Lib.decodeN
  repeat' split
  all_goals (simp only; omega)
theorem dn_cut (n m a b c d b' c' d' : Nat) (hm : m ≤ n) (hw : (Lib.decodeN n a b c d).2 ≤ m) (h1 : 1 < m → b' = b) (h2 : 2 < m → c' = c) (h3 : 3 < m → d' = d) : Lib.decodeN m a b' c' d' = Lib.decodeN n a b c d := by
  revert hw
  by_cases k1 : 1 < m
  · have e1 := h1 k1; subst e1
    by_cases k2 : 2 < m
    · have e2 := h2 k2; subst e2
      by_cases k3 : 3 < m
      · have e3 := h3 k3; subst e3
        have j1 : 1 < n := by omega
        have j2 : 2 < n := by omega
        have j3 : 3 < n := by omega
        intro _
        simp only [Lib.decodeN, k1, k2, k3, j1, j2, j3, true_and]
      · have j1 : 1 < n := by omega
        have j2 : 2 < n := by omega
        unfold Lib.decodeN
        simp only [k1, k2, k3, j1, j2, true_and, false_and, and_false, if_false]
        repeat' split
        all_goals first | (intro _; rfl) | (intro hw; simp only at hw; exfalso; omega)
    · have j1 : 1 < n := by omega
      unfold Lib.decodeN
      simp only [k1, k2, (show ¬ 3 < m by omega), j1, true_and, false_and, and_false, if_false]
      repeat' split
      all_goals first | (intro _; rfl) | (intro hw; simp only at hw; exfalso; omega)
  · unfold Lib.decodeN
    simp only [k1, (show ¬ 2 < m by omega), (show ¬ 3 < m by omega), false_and, and_false, if_false]
    repeat' split
    all_goals first | (intro _; rfl) | (intro hw; simp only at hw; exfalso; omega)
theorem wid_pos (s : ByteArray) (p : Nat) : 1 ≤ wid s p := by rw [wid, dec_eq]; exact dn_pos ..
theorem wid_le (s : ByteArray) (p : Nat) (h : p < s.size) : p + wid s p ≤ s.size := by
  have := dn_le (s.size - p) (by' s p) (by' s (p + 1)) (by' s (p + 2)) (by' s (p + 3)) (by omega)
  rw [wid, dec_eq]; omega
theorem by_cut (s : ByteArray) (a e k : Nat) (h : a + k < e) (he : e ≤ s.size) : by' (s.extract a e) k = by' s (a + k) := by
  have h1 : k < (s.data.extract a e).size := by rw [Array.size_extract]; have : s.data.size = s.size := rfl; omega
  have h2 : a + k < s.data.size := by have : s.data.size = s.size := rfl; omega
  unfold by'
  congr 1
  show (s.extract a e).data[k]! = s.data[a + k]!
  rw [ByteArray.data_extract, getElem!_pos (s.data.extract a e) k h1, getElem!_pos s.data (a + k) h2, Array.getElem_extract]
theorem size_cut (s : ByteArray) (a e : Nat) (he : e ≤ s.size) : (s.extract a e).size = e - a := by
  rw [ByteArray.size_extract]; omega
/-- A part of a text is read as in the text. -/
theorem dec_cut (s : ByteArray) (a e p : Nat) (hp : a + p < e) (he : e ≤ s.size) (hw : a + p + wid s (a + p) ≤ e) : Utf8.decode (s.extract a e) p = Utf8.decode s (a + p) := by
  rw [wid, dec_eq] at hw
  rw [dec_eq, dec_eq, size_cut s a e he, by_cut s a e p hp he]
  refine dn_cut _ _ _ _ _ _ _ _ _ (by omega) (by omega) (fun h => ?_) (fun h => ?_) (fun h => ?_)
  · rw [by_cut s a e _ (by omega) he]; congr 1
  · rw [by_cut s a e _ (by omega) he]; congr 1
  · rw [by_cut s a e _ (by omega) he]; congr 1
def pos (s : ByteArray) : Nat → Nat
  | 0 => 0
  | i + 1 => pos s i + wid s (pos s i)
theorem pos_lt (s : ByteArray) (i : Nat) : pos s i < pos s (i + 1) := by have := wid_pos s (pos s i); simp only [pos]; omega
theorem pos_mono (s : ByteArray) {i j : Nat} (h : i ≤ j) : pos s i ≤ pos s j := by
  induction h with
  | refl => exact Nat.le_refl _
  | step _ ih => have := pos_lt s; exact Nat.le_trans ih (Nat.le_of_lt (pos_lt s _))
theorem pos_ge (s : ByteArray) (i : Nat) : i ≤ pos s i := by
  induction i with
  | zero => exact Nat.zero_le _
  | succ i ih => have := pos_lt s i; omega
theorem count_ex (s : ByteArray) : ∃ n, n ≤ s.size ∧ pos s n = s.size ∧ ∀ i, i < n → pos s i < s.size := by
  have walk : ∀ k, (∃ n, n ≤ s.size ∧ pos s n = s.size ∧ ∀ i, i < n → pos s i < s.size) ∨ ∀ i, i ≤ k → pos s i < s.size := by
    intro k
    induction k with
    | zero =>
      by_cases h : s.size = 0
      · exact .inl ⟨0, Nat.zero_le _, by simp [pos, h], fun i hi => absurd hi (Nat.not_lt_zero _)⟩
      · exact .inr fun i hi => by have : i = 0 := by omega
                                  subst this; simp only [pos]; omega
    | succ k ih =>
      rcases ih with h | h
      · exact .inl h
      · have hl := wid_le s (pos s k) (h k (Nat.le_refl _))
        by_cases he : pos s (k + 1) < s.size
        · refine .inr fun i hi => ?_
          by_cases hik : i ≤ k
          · exact h i hik
          · have : i = k + 1 := by omega
            subst this; exact he
        · have heq : pos s (k + 1) = s.size := by simp only [pos] at he ⊢; omega
          exact .inl ⟨k + 1, by have := pos_ge s (k + 1); omega, heq, fun i hi => h i (by omega)⟩
  rcases walk s.size with h | h
  · exact h
  · have := h s.size (Nat.le_refl _)
    have := pos_ge s s.size
    omega
noncomputable def count (s : ByteArray) : Nat := (count_ex s).choose
theorem count_le (s : ByteArray) : count s ≤ s.size := (count_ex s).choose_spec.1
theorem count_end (s : ByteArray) : pos s (count s) = s.size := (count_ex s).choose_spec.2.1
theorem count_lt (s : ByteArray) {i : Nat} (h : i < count s) : pos s i < s.size := (count_ex s).choose_spec.2.2 i h
theorem pos_le (s : ByteArray) {i : Nat} (h : i ≤ count s) : pos s i ≤ s.size := by rw [← count_end s]; exact pos_mono s h
def item (s : ByteArray) (i : Nat) : S35 := ⟨((pos s i : Nat) : Int), (((Utf8.decode s (pos s i)).1 : Nat) : Int)⟩
theorem dn_rune (n a b c d : Nat) (h1 : a < 256) : (Lib.decodeN n a b c d).1 < 2097152 := by
  unfold Lib.decodeN
  repeat' split
  all_goals (simp only; omega)
theorem rune_lt (s : ByteArray) (p : Nat) : (Utf8.decode s p).1 < 2097152 := by
  rw [dec_eq]
  exact dn_rune _ _ _ _ _ (by unfold by'; exact UInt8.toNat_lt _)
theorem range_eq (s : ByteArray) (h : s.size ≤ 1000000) : utf_Range s = some (if 20000 < s.size then (⟨2, 0⟩, []) else (⟨0, 0⟩, (List.range (count s)).map (item s))) := by
  unfold utf_Range
  by_cases hs : 20000 < s.size
  · have : decide ((20000 : Int) < ((s.size : Nat) : Int)) = true := by simp; omega
    rw [this, if_pos hs]; rfl
  · have : decide ((20000 : Int) < ((s.size : Nat) : Int)) = false := by simp; omega
    rw [this, if_neg hs]
    have hc := count_le s
    have := loopO_all (step := utf_Range_l1 s) (fun i => ((List.range i).map (item s), pos s i)) (some (⟨0, 0⟩, (List.range (count s)).map (item s))) (count s) (fun i hi => ?_) ?_
    · exact this
    · have hlt := count_lt s hi
      have hb : ((List.range i).map (item s) ++ [(⟨((pos s i : Nat) : Int), (((Utf8.decode s (pos s i)).1 : Nat) : Int)⟩ : S35)]).length * 16 ≤ 140737488355328 := by simp; omega
      have hr := rune_lt s (pos s i)
      have hw : IntKind.i64.wrap (((Utf8.decode s (pos s i)).1 : Nat) : Int) = (((Utf8.decode s (pos s i)).1 : Nat) : Int) := wrap_id (by omega) (by omega)
      simp only [utf_Range_l1, hlt, hw, hb, decide_true, cond_true, List.range_succ, List.map_append, List.map_cons, List.map_nil]
      rfl
    · have hlt : ¬ pos s (count s) < s.size := by rw [count_end]; exact Nat.lt_irrefl _
      simp only [utf_Range_l1, hlt, decide_false, cond_false]
theorem pos_cut (s : ByteArray) (a b : Nat) (h : a ≤ b) (hb : b ≤ count s) : ∀ j, a + j ≤ b → pos s a + pos (s.extract (pos s a) (pos s b)) j = pos s (a + j) := by
  intro j
  induction j with
  | zero => intro _; rfl
  | succ j ih =>
    intro hj
    have ih := ih (by omega)
    have h1 : pos s (a + j) < pos s b := Nat.lt_of_lt_of_le (pos_lt s (a + j)) (pos_mono s (by omega))
    have h2 : pos s (a + j) + wid s (pos s (a + j)) ≤ pos s b := pos_mono s (i := a + j + 1) (by omega)
    have hd := dec_cut s (pos s a) (pos s b) (pos (s.extract (pos s a) (pos s b)) j) (by omega) (pos_le s hb) (by rw [ih]; exact h2)
    have hw : wid (s.extract (pos s a) (pos s b)) (pos (s.extract (pos s a) (pos s b)) j) = wid s (pos s (a + j)) := by
      unfold wid; rw [hd, ih]
    show pos s a + (pos (s.extract (pos s a) (pos s b)) j + wid (s.extract (pos s a) (pos s b)) (pos (s.extract (pos s a) (pos s b)) j)) = pos s (a + j) + wid s (pos s (a + j))
    rw [hw]; omega
theorem count_cut (s : ByteArray) (a b : Nat) (h : a ≤ b) (hb : b ≤ count s) : b - a ≤ count (s.extract (pos s a) (pos s b)) := by
  refine Nat.le_of_not_lt fun hlt => ?_
  have h1 := pos_cut s a b h hb (count (s.extract (pos s a) (pos s b))) (by omega)
  rw [count_end, size_cut s _ _ (pos_le s hb)] at h1
  have h2 : pos s (a + count (s.extract (pos s a) (pos s b))) < pos s b := Nat.lt_of_lt_of_le (pos_lt s _) (pos_mono s (by omega))
  have h3 := pos_mono s h
  omega
theorem begun_r : utf_Range (ByteArray.mk #[195, 164, 255]) = some (⟨0, 0⟩, [⟨0, 228⟩, ⟨2, 65533⟩]) := by
  have : loopO (utf_Range_l1 (ByteArray.mk #[195, 164, 255])) ([], 0) = some (⟨0, 0⟩, [⟨0, 228⟩, ⟨2, 65533⟩]) := loopO_of (n := 3) (by kernel_rfl)
  unfold utf_Range
  rw [this]; rfl
theorem begun_eq : taskmilllaw_utfBegun = some true := by
  unfold taskmilllaw_utfBegun
  rw [begun_r]
  have : loopO (taskmillref_SameOff_l1 [⟨0, 228⟩, ⟨2, 65533⟩] [⟨0, 228⟩, ⟨2, 65533⟩]) 0 = some true := loopO_of (n := 3) (by kernel_rfl)
  simp only [Option.bind_some, taskmillref_SameOff, taskmilllaw_utfBegun_j1]
  rw [this]; rfl
end Go.Proofs.YtbnhbaehapalnaaDoor
