/-
  Plain lemmas, more: what Go's own functions on slices make of lists.
-/
import Derived.Test.YtnnpjaoddniifaaPA
import Derived.Test.YtnnpjaoddniifaaGF
set_option linter.unusedSimpArgs false
set_option linter.unusedVariables false
namespace Go.Sx
variable {α : Type}
def delAt (l : List α) (i j : Nat) : List α := l.take i ++ l.drop j
/-- slices.Delete. -/
theorem del_lists [Inhabited α] (l : List α) (i j : Nat) (hi : i ≤ j) (hj : j ≤ l.length) (a : Int) (ha : a = ((i + (l.length - j) : Nat) : Int)) :
    cut (wipe (putL l (cut l (j : Int) ((l.length : Nat) : Int)) ((i : Int)).toNat) a ((l.length : Nat) : Int)) 0 ((i : Int) + (((cut l (j : Int) ((l.length : Nat) : Int)).length : Nat) : Int)) = delAt l i j := by
  subst ha
  rw [cut_drop]
  have e : ((i : Int) + (((l.drop j).length : Nat) : Int)) = ((i + (l.length - j) : Nat) : Int) := by simp
  rw [e, cut_take, wipe, putL]
  simp only [Int.toNat_natCast]
  rw [List.append_assoc, List.take_append_of_le_length (by simp [putL]; omega), List.take_of_length_le (by simp; omega)]
  unfold putL delAt
  rw [List.take_append_of_le_length (by simp; omega), List.take_of_length_le (by simp; omega)]
theorem delAt_len (l : List α) (i j : Nat) (hi : i ≤ j) (hj : j ≤ l.length) : (delAt l i j).length = l.length - (j - i) := by simp [delAt]; omega
end Go.Sx
