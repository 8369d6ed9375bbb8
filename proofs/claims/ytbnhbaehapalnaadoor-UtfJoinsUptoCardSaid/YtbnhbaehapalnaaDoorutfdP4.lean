/-
  What laws of the chapter utfd compute, and lemmas on it.
  No conditions.
-/
import Derived.Test.YtbnhbaehapalnaaDoorutfdP3
set_option linter.unusedSimpArgs false
set_option linter.unusedVariables false
namespace Go.Proofs.YtbnhbaehapalnaaDoor
open Go Go.Sx
noncomputable def ls (s : ByteArray) : List Int := (List.range (count s)).map fun i => (((Utf8.decode s (pos s i)).1 : Nat) : Int)
theorem runesL_eq (s : ByteArray) : ∀ f i, i ≤ count s → count s - i ≤ f → runesL s f (pos s i) = (ls s).drop i := by
  intro f
  induction f with
  | zero =>
    intro i h1 h2
    have : i = count s := by omega
    subst this
    simp [runesL, ls]
  | succ f ih =>
    intro i h1 h2
    unfold runesL
    by_cases hi : i < count s
    · have hl : i < (ls s).length := by simpa [ls] using hi
      rw [List.drop_eq_getElem_cons hl]
      have hp := count_lt s hi
      simp only [hp, decide_true, cond_true]
      congr 1
      · simp [ls]
      · exact ih (i + 1) hi (by omega)
    · have : i = count s := by omega
      subst this
      rw [count_end]
      simp [ls]
theorem runesOf_eq (s : ByteArray) : runesOf s = ls s := runesL_eq s s.size 0 (Nat.zero_le _) (by have := count_le s; omega)
/-! ### Turned round -/
def half (xs : List Ki32) (k : Nat) : List Ki32 := (List.range xs.length).map fun t => if t < k ∨ xs.length - 1 - t < k then xs.getD (xs.length - 1 - t) default else xs.getD t default
theorem half_at (xs : List Ki32) (k t : Nat) (h : t < xs.length) : (half xs k)[t]'(by simpa [half] using h) = if t < k ∨ xs.length - 1 - t < k then xs.getD (xs.length - 1 - t) default else xs.getD t default := by simp [half]
theorem rev_eq (xs : List Ki32) (hn : xs.length ≤ 1000000) : slices_Reverse_rune_1 xs = some xs.reverse := by
  unfold slices_Reverse_rune_1
  have hw : IntKind.i64.wrap (((xs.length : Nat) : Int) - 1) = ((xs.length : Nat) : Int) - 1 := wrap_id (by omega) (by omega)
  rw [hw]
  have e0 : half xs 0 = xs := by
    apply List.ext_getElem
    · simp [half]
    · intro t h1 h2
      rw [half_at xs 0 t h2]
      simp [h2]
  have e1 : half xs (xs.length / 2) = xs.reverse := by
    apply List.ext_getElem
    · simp [half]
    · intro t h1 h2
      have h3 : t < xs.length := by simpa using h2
      rw [half_at xs _ t h3, List.getElem_reverse]
      split
      · rw [List.getD_eq_getElem?_getD, List.getElem?_eq_getElem (by omega)]; rfl
      · have : t = xs.length - 1 - t := by omega
        rw [List.getD_eq_getElem?_getD, List.getElem?_eq_getElem h3]
        simp only [Option.getD_some]
        congr 1
  have := loopO_all (step := slices_Reverse_rune_1_l1) (fun k => (((k : Nat) : Int), ((xs.length : Nat) : Int) - 1 - ((k : Nat) : Int), half xs k)) (some xs.reverse) (xs.length / 2) (fun k hk => ?_) ?_
  · simpa [e0] using this
  · have hj : ((xs.length : Nat) : Int) - 1 - ((k : Nat) : Int) = ((xs.length - 1 - k : Nat) : Int) := by omega
    have hl : (half xs k).length = xs.length := by simp [half]
    have hk1 : k < (half xs k).length := by omega
    have hk2 : xs.length - 1 - k < (half xs k).length := by omega
    have c1 : ((k : Nat) : Int) < ((xs.length - 1 - k : Nat) : Int) := by omega
    have c2 : (0 : Int) ≤ ((k : Nat) : Int) := by omega
    have c3 : (0 : Int) ≤ ((xs.length - 1 - k : Nat) : Int) := by omega
    have c4 : ((k : Nat) : Int) < (((half xs k).length : Nat) : Int) := by omega
    have c5 : ((xs.length - 1 - k : Nat) : Int) < (((half xs k).length : Nat) : Int) := by omega
    rw [hj]
    simp only [slices_Reverse_rune_1_l1, c1, c2, c3, c4, c5, decide_true, Bool.and_true, cond_true, List.length_set, ix_get hk1, ix_get hk2, Int.toNat_natCast]
    rw [wrap_n1 k (by omega), wrap_id (by omega) (by omega)]
    have e : ((half xs k).set k (half xs k)[xs.length - 1 - k]).set (xs.length - 1 - k) (half xs k)[k] = half xs (k + 1) := by
      apply List.ext_getElem
      · simp [half]
      · intro t h1 h2
        have ht : t < xs.length := by simpa [half] using h2
        rw [half_at xs (k + 1) t ht, List.getElem_set]
        have hkl : k < xs.length := by omega
        split
        · rename_i h
          subst h
          rw [half_at xs k k hkl, if_neg (by omega), if_pos (by omega)]
          congr 1
          omega
        · rename_i h
          rw [List.getElem_set]
          split
          · rename_i h'
            subst h'
            rw [half_at xs k _ (by omega), if_neg (by omega), if_pos (by omega)]
          · rename_i h'
            rw [half_at xs k t ht]
            by_cases hc : t < k ∨ xs.length - 1 - t < k
            · rw [if_pos hc, if_pos (by omega)]
            · rw [if_neg hc, if_neg (by omega)]
    have e' : ((half xs k).set k (Ki32.mk (half xs k)[xs.length - 1 - k].v)).set (xs.length - 1 - k) (Ki32.mk (half xs k)[k].v) = half xs (k + 1) := e
    have e6 : ((xs.length - 1 - k : Nat) : Int) - 1 = ((xs.length : Nat) : Int) - 1 - ((k + 1 : Nat) : Int) := by omega
    rw [e', e6]
  · have c1 : ¬ (((xs.length / 2 : Nat) : Int) < ((xs.length : Nat) : Int) - 1 - ((xs.length / 2 : Nat) : Int)) := by omega
    simp only [slices_Reverse_rune_1_l1, c1, decide_false, cond_false, e1]
theorem ls_len (s : ByteArray) : (ls s).length = count s := by simp [ls]
theorem turn_eq (s : ByteArray) (h : s.size ≤ 1000000) : utf_Turn s = some (if 20000 < s.size then (ByteArray.empty, ⟨2, 0⟩) else (U ((ls s).reverse.flatMap bf), ⟨0, 0⟩)) := by
  unfold utf_Turn
  have hc := count_le s
  by_cases hs : 20000 < s.size
  · have : decide ((20000 : Int) < ((s.size : Nat) : Int)) = true := by simp; omega
    rw [this, if_pos hs]; rfl
  · have : decide ((20000 : Int) < ((s.size : Nat) : Int)) = false := by simp; omega
    rw [this, if_neg hs, runesOf_eq]
    have hl : (ls s).length ≤ 70368744177664 := by rw [ls_len]; omega
    rw [rev_eq _ (by simp [ls_len]; omega)]
    simp only [cond_false, hl, decide_true, cond_true, Option.bind_some, List.length_reverse]
    rw [← List.map_reverse, mk_v32, encL_eq]
end Go.Proofs.YtbnhbaehapalnaaDoor
