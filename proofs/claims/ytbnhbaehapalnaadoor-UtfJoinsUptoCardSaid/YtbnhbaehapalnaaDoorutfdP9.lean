/-
  What laws of the chapter utfd compute, and lemmas on it.
  No conditions.
-/
import Derived.Test.YtbnhbaehapalnaaDoorutfdP8
set_option linter.unusedSimpArgs false
set_option linter.unusedVariables false
namespace Go.Proofs.YtbnhbaehapalnaaDoor
open Go Go.Sx
noncomputable def items (s : ByteArray) : List S35 := (List.range (count s)).map (item s)
theorem items_len (s : ByteArray) : (items s).length = count s := by simp [items]
noncomputable def shifted (n : Nat) (s : ByteArray) : List S35 := (items s).map fun x => ⟨x.e0 + (n : Int), x.e1⟩
theorem join_items (a b : ByteArray) (ha : firstIf (isBad a) (count a) = none) (hb : firstIf (isBad b) (count b) = none) : (∀ n ∈ ls a ++ ls b, isL n = true) ∧ a ++ b = U ((ls a ++ ls b).flatMap bo) ∧ items (a ++ b) = items a ++ shifted a.size b := by
  have hA := good_isL a ha
  have hB := good_isL b hb
  have hL : ∀ n ∈ ls a ++ ls b, isL n = true := fun n hn => by
    rcases List.mem_append.1 hn with h | h
    · exact hA n h
    · exact hB n h
  have he : a ++ b = U ((ls a ++ ls b).flatMap bo) := by
    rw [List.flatMap_append, U_app, good_back a ha, good_back b hb]
  refine ⟨hL, he, ?_⟩
  have hca := ls_len a
  have hcb := ls_len b
  have hc : count (a ++ b) = count a + count b := by
    rw [he, wrote_count _ hL, List.length_append, hca, hcb]
  have hls : ls (a ++ b) = ls a ++ ls b := by rw [he, wrote_ls _ hL]
  have pa : ∀ k, k ≤ count a → pos a k = (((ls a).take k).flatMap bo).length := fun k hk => by
    have := (wrote (ls a) hA).1 k (by omega)
    rwa [good_back a ha] at this
  have pb : ∀ k, k ≤ count b → pos b k = (((ls b).take k).flatMap bo).length := fun k hk => by
    have := (wrote (ls b) hB).1 k (by omega)
    rwa [good_back b hb] at this
  have pab : ∀ k, k ≤ count a + count b → pos (a ++ b) k = (((ls a ++ ls b).take k).flatMap bo).length := fun k hk => by
    have := (wrote (ls a ++ ls b) hL).1 k (by rw [List.length_append]; omega)
    rwa [← he] at this
  apply List.ext_getElem
  · rw [List.length_append, items_len, items_len, shifted, List.length_map, items_len, hc]
  · intro k h1 h2
    have hk : k < count a + count b := by rw [items_len, hc] at h1; exact h1
    have h3 : (items (a ++ b))[k] = ⟨((pos (a ++ b) k : Nat) : Int), (ls (a ++ b))[k]'(by rw [ls_len, hc]; exact hk)⟩ := items_e1 (a ++ b) k (by rw [hc]; exact hk)
    rw [h3]
    have h4 : (ls (a ++ b))[k]'(by rw [ls_len, hc]; exact hk) = (ls a ++ ls b)[k]'(by rw [List.length_append]; omega) := by simp only [hls]
    rw [h4, pab k (by omega)]
    by_cases hka : k < count a
    · have h5 : (ls a ++ ls b)[k]'(by rw [List.length_append]; omega) = (ls a)[k]'(by omega) := List.getElem_append_left ..
      have hka' : k < (items a).length := by rw [items_len]; exact hka
      rw [h5, List.getElem_append_left hka']
      have h6 : (items a)[k]'(by rw [items_len]; exact hka) = ⟨((pos a k : Nat) : Int), (ls a)[k]'(by omega)⟩ := items_e1 a k hka
      rw [h6, pa k (by omega), List.take_append_of_le_length (by omega)]
    · have h5 : (ls a ++ ls b)[k]'(by rw [List.length_append]; omega) = (ls b)[k - count a]'(by omega) := by
        rw [List.getElem_append_right (by omega)]
        simp only [hca]
      have hka' : (items a).length ≤ k := by rw [items_len]; omega
      rw [h5, List.getElem_append_right hka']
      have h6 : (items b)[k - count a]'(by rw [items_len]; omega) = ⟨((pos b (k - count a) : Nat) : Int), (ls b)[k - count a]'(by omega)⟩ := items_e1 b (k - count a) (by omega)
      simp only [shifted, List.getElem_map, items_len, h6]
      have h7 : (((ls a ++ ls b).take k).flatMap bo).length = a.size + pos b (k - count a) := by
        have e : k = (ls a).length + (k - count a) := by omega
        rw [e, List.take_length_add_append, List.flatMap_append, List.length_append, ← U_size ((ls a).flatMap bo), good_back a ha, ← e, pb _ (by omega)]
      rw [h7]
      congr 1
      omega
theorem joins (a b : ByteArray) (h : a.size + b.size ≤ 4611686018427387904) : taskmilllaw_UtfJoins a b = some true := by
  unfold taskmilllaw_UtfJoins
  rw [begun_eq]
  simp only [Option.bind_some, Bool.not_true, cond_false]
  rw [wrap_id (by omega) (by omega)]
  by_cases hv : 20000 < a.size + b.size
  · have : decide ((20000 : Int) < ((a.size : Nat) : Int) + ((b.size : Nat) : Int)) = true := by simp only [decide_eq_true_eq]; omega
    rw [this]; rfl
  · have : decide ((20000 : Int) < ((a.size : Nat) : Int) + ((b.size : Nat) : Int)) = false := by simp only [decide_eq_false_iff_not]; omega
    rw [this, cond_false, valid_eq a (by omega), valid_eq b (by omega), if_neg (by omega), if_neg (by omega)]
    have z1 : ((0 : Int) != 0) = false := by decide
    have z2 : ((0 : Int) == 0) = true := by decide
    cases ha : firstIf (isBad a) (count a) with
    | some j =>
      cases hb : firstIf (isBad b) (count b) with
      | some j => simp
      | none => simp
    | none =>
      cases hb : firstIf (isBad b) (count b) with
      | some j => simp
      | none =>
        obtain ⟨hL, he, hi⟩ := join_items a b ha hb
        have hsz : (a ++ b).size = a.size + b.size := ByteArray.size_append
        have hg : firstIf (isBad (a ++ b)) (count (a ++ b)) = none := by rw [he]; exact wrote_good _ hL
        have hca := count_le a
        have hcb := count_le b
        have c1 : a.size + b.size ≤ 9223372036854775807 := by omega
        rw [range_eq a (by omega), range_eq b (by omega), range_eq (a ++ b) (by omega), valid_eq (a ++ b) (by omega), if_neg (by omega), if_neg (by omega), if_neg (by omega), if_neg (by omega), hg]
        have c2 : ((List.range (count a)).map (item a)).length * 16 ≤ 140737488355328 := by simp; omega
        simp only [Option.bind_some, z1, c1, c2, Bool.not_true, Bool.or_self, Bool.false_or, cond_false, decide_true, cond_true]
        have hsl : (shifted a.size b).length = count b := by simp [shifted, items_len]
        have := loopO_all (step := taskmilllaw_UtfJoins_l1 a) (fun k => (((k : Nat) : Int), items b, items (a ++ b), items a ++ (shifted a.size b).take k)) (some true) (count b) (fun k hk => ?_) ?_
        · simpa [items] using this
        · have h1 : ((k : Nat) : Int) < ((count b : Nat) : Int) := by omega
          have h2 : (0 : Int) ≤ ((k : Nat) : Int) := by omega
          have hk2 : k < (items b).length := by rw [items_len]; exact hk
          have hk3 : k < (shifted a.size b).length := by omega
          have hp := count_lt b hk
          have h6 : (items b)[k] = ⟨((pos b k : Nat) : Int), (ls b)[k]'(by rw [ls_len]; exact hk)⟩ := items_e1 b k hk
          have h7 : (shifted a.size b)[k] = ⟨((pos b k : Nat) : Int) + ((a.size : Nat) : Int), (ls b)[k]'(by rw [ls_len]; exact hk)⟩ := by
            simp only [shifted, List.getElem_map, h6]
          have hw : IntKind.i64.wrap (((pos b k : Nat) : Int) + ((a.size : Nat) : Int)) = ((pos b k : Nat) : Int) + ((a.size : Nat) : Int) := wrap_id (by omega) (by omega)
          have hb2 : (items a ++ (shifted a.size b).take k ++ [(shifted a.size b)[k]]).length * 16 ≤ 140737488355328 := by
            simp only [List.length_append, List.length_take, List.length_singleton, items_len]; omega
          rw [h7] at hb2
          simp only [taskmilllaw_UtfJoins_l1, items_len, h1, h2, decide_true, Bool.and_true, cond_true, ix_get hk2, h6, hw, hb2]
          rw [wrap_n1 k (by omega), List.take_succ_eq_append_getElem hk3, h7, List.append_assoc]
        · have ht : (shifted a.size b).take (count b) = shifted a.size b := List.take_of_length_le (by omega)
          simp only [taskmilllaw_UtfJoins_l1, items_len, Int.lt_irrefl, decide_false, cond_false, ht]
          have l1 : (items (a ++ b)).length ≤ 1000000 := by rw [items_len]; have := count_le (a ++ b); omega
          have l2 : (items a ++ shifted a.size b).length ≤ 1000000 := by rw [List.length_append, items_len, hsl]; omega
          rw [same_eq _ _ l1 l2, hi]
          simp
end Go.Proofs.YtbnhbaehapalnaaDoor
