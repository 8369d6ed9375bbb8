/-
  What laws of the chapter utfd compute, and lemmas on it.
  No conditions.
-/
import Derived.Test.YtbnhbaehapalnaaDoorutfdP7
set_option linter.unusedSimpArgs false
set_option linter.unusedVariables false
namespace Go.Proofs.YtbnhbaehapalnaaDoor
open Go Go.Sx
theorem back1 (s : ByteArray) (hs : s.size ≤ 20000) (hg : firstIf (isBad s) (count s) = none) : loopO (taskmilllaw_UtfBack_l1 s) (0, ⟨0, 0⟩, (List.range (count s)).map (item s), []) = some true := by
  have hc := count_le s
  have hlen : (ls s).length = count s := ls_len s
  have := loopO_all (step := taskmilllaw_UtfBack_l1 s) (fun k => (((k : Nat) : Int), (⟨0, 0⟩ : Fault), (List.range (count s)).map (item s), (ls s).take k)) (some true) (count s) (fun k hk => ?_) ?_
  · simpa using this
  · have h1 : ((k : Nat) : Int) < ((count s : Nat) : Int) := by omega
    have h2 : (0 : Int) ≤ ((k : Nat) : Int) := by omega
    have hk2 : k < ((List.range (count s)).map (item s)).length := by simpa using hk
    have hk3 : k < (ls s).length := by omega
    have hb : ((ls s).take k ++ [(ls s)[k]]).length * 8 ≤ 140737488355328 := by
      simp only [List.length_append, List.length_take, List.length_singleton]; omega
    simp only [taskmilllaw_UtfBack_l1, List.length_map, List.length_range, h1, h2, decide_true, Bool.and_true, cond_true, ix_get hk2, items_e1 s k hk, hb]
    rw [wrap_n1 k (by omega), List.take_succ_eq_append_getElem hk3]
  · have ht : (ls s).take (count s) = ls s := List.take_of_length_le (by omega)
    simp only [taskmilllaw_UtfBack_l1, List.length_map, List.length_range, Int.lt_irrefl, decide_false, cond_false, ht, hlen]
    by_cases h5 : 5000 < count s
    · have : decide ((5000 : Int) < ((count s : Nat) : Int)) = true := by simp; omega
      rw [this]; rfl
    · have : decide ((5000 : Int) < ((count s : Nat) : Int)) = false := by simp; omega
      rw [this, cond_false, write_eq (ls s) (by omega), if_neg (by omega)]
      rw [bf_bo _ (good_isL s hg), good_back s hg]
      simp
theorem back_text (s : ByteArray) (hs : s.size ≤ 20000) : ((utf_Valid s).bind fun r1796 => (bif ((r1796.2.2.Code != 0) || (!r1796.1)) then (some ((r1796.2.2.Code == 0))) else ((utf_Range s).bind fun r1803 => ((utf_Turn s).bind fun r1805 => ((utf_Turn r1805.1).bind fun r1807 => (bif ((r1803.1.Code != 0) || ((r1805.2.Code != 0) || ((r1807.2.Code != 0) || ((!decide (r1807.1 = s)) || ((((r1805.1).size : Nat) : Int) != (((s).size : Nat) : Int)))))) then (some (false)) else (loopO (taskmilllaw_UtfBack_l1 s) (0, r1796.2.2, r1803.2, [])))))))) = some true := by
  have z1 : ((0 : Int) != 0) = false := by decide
  have z2 : ((0 : Int) == 0) = true := by decide
  rw [valid_eq s (by omega), if_neg (by omega)]
  cases hg : firstIf (isBad s) (count s) with
  | some j => simp
  | none =>
    have hL := good_isL s hg
    have hrL : ∀ n ∈ (ls s).reverse, isL n = true := fun n hn => hL n (List.mem_reverse.1 hn)
    have hsz : (U ((ls s).reverse.flatMap bo)).size = s.size := by
      rw [U_size, flat_rev_len, ← U_size, good_back s hg]
    rw [range_eq s (by omega), if_neg (by omega), turn_eq s (by omega), if_neg (by omega), bf_bo _ hrL]
    simp only [Option.bind_some, z1, Bool.not_true, Bool.or_self, Bool.false_or, cond_false]
    rw [turn_eq _ (by omega), if_neg (by omega), wrote_ls _ hrL, List.reverse_reverse, bf_bo _ hL, good_back s hg]
    have e : ((((U ((ls s).reverse.flatMap bo)).size : Nat) : Int) != ((s.size : Nat) : Int)) = false := by rw [hsz]; simp
    simp only [Option.bind_some, z1, e, decide_true, Bool.not_true, Bool.or_self, Bool.false_or, cond_false]
    exact back1 s hs hg
theorem back (s : ByteArray) (l : List Int) : taskmilllaw_UtfBack s l = some true := by
  unfold taskmilllaw_UtfBack
  rw [begun_eq]
  simp only [Option.bind_some, Bool.not_true, cond_false]
  by_cases hv : 20000 < s.size ∨ 4000 < l.length
  · have : (decide ((20000 : Int) < ((s.size : Nat) : Int)) || decide ((4000 : Int) < ((l.length : Nat) : Int))) = true := by
      simp only [Bool.or_eq_true, decide_eq_true_eq]; omega
    rw [this]; rfl
  · have : (decide ((20000 : Int) < ((s.size : Nat) : Int)) || decide ((4000 : Int) < ((l.length : Nat) : Int))) = false := by
      simp only [Bool.or_eq_false_iff, decide_eq_false_iff_not]; omega
    rw [this, cond_false]
    have hL := map_fix l
    have hlm : (l.map fixL).length = l.length := List.length_map ..
    generalize hM : l.map fixL = M at hL hlm
    have hcnt := wrote_count M hL
    have hsz : (U (M.flatMap bo)).size ≤ 16000 := by
      rw [U_size, ← hM, ← bf_fixed]
      have := bf_len l
      omega
    have rest : ∀ ok, ok = l.all isL → loopO (taskmilllaw_UtfBack_l2 s l ok) (0, ⟨0, 0⟩, ⟨0, 0⟩, (List.range (count (U (M.flatMap bo)))).map (item (U (M.flatMap bo))), ⟨0, 0⟩) = some true := by
      intro ok hok
      have tail := back_text s (by omega)
      cases ok with
      | false =>
        refine loopO_out ?_
        simp only [taskmilllaw_UtfBack_l2, Bool.and_false, cond_false]
        rw [tail]
      | true =>
        have hall : ∀ n ∈ l, isL n = true := List.all_eq_true.1 hok.symm
        have hMl : M = l := by
          rw [← hM]
          conv => rhs; rw [← List.map_id l]
          apply List.map_congr_left
          intro n hn
          rw [fixL, if_pos (hall n hn)]; rfl
        have := loopO_all (step := taskmilllaw_UtfBack_l2 s l true) (fun k => (((k : Nat) : Int), (⟨0, 0⟩ : Fault), (⟨0, 0⟩ : Fault), (List.range (count (U (M.flatMap bo)))).map (item (U (M.flatMap bo))), (⟨0, 0⟩ : Fault))) (some true) l.length (fun k hk => ?_) ?_
        · exact this
        · have hk1 : k < count (U (M.flatMap bo)) := by omega
          have h1 : ((k : Nat) : Int) < ((count (U (M.flatMap bo)) : Nat) : Int) := by omega
          have h2 : (0 : Int) ≤ ((k : Nat) : Int) := by omega
          have h3 : ((k : Nat) : Int) < ((l.length : Nat) : Int) := by omega
          have hk2 : k < ((List.range (count (U (M.flatMap bo)))).map (item (U (M.flatMap bo)))).length := by simpa using hk1
          have e : (ls (U (M.flatMap bo)))[k]'(by rw [ls_len]; exact hk1) = l[k] := by
            have : ls (U (M.flatMap bo)) = l := by rw [wrote_ls M hL, hMl]
            simp only [this]
          have e2 : (l[k] != l[k]) = false := by simp
          simp only [taskmilllaw_UtfBack_l2, List.length_map, List.length_range, h1, h2, h3, decide_true, Bool.and_true, cond_true, ix_get hk2, items_e1 _ k hk1, e, ix_get hk, e2, cond_false]
          rw [wrap_n1 k (by omega)]
        · have h1 : ¬ (((l.length : Nat) : Int) < ((count (U (M.flatMap bo)) : Nat) : Int)) := by omega
          simp only [taskmilllaw_UtfBack_l2, List.length_map, List.length_range, h1, decide_false, Bool.false_and, cond_false]
          rw [tail]
    have := loopO_all (step := taskmilllaw_UtfBack_l3 s l) (fun k => ((l.take k).all isL, ((k : Nat) : Int))) (some true) l.length (fun k hk => ?_) ?_
    · simpa using this
    · have h1 : ((k : Nat) : Int) < ((l.length : Nat) : Int) := by omega
      have h2 : (0 : Int) ≤ ((k : Nat) : Int) := by omega
      have e : (l.take (k + 1)).all isL = ((l.take k).all isL && isL l[k]) := by
        rw [List.take_succ_eq_append_getElem hk, List.all_append]; simp
      simp only [taskmilllaw_UtfBack_l3, h1, h2, decide_true, Bool.and_true, cond_true, ix_get hk, letter_is, Option.bind_some, taskmilllaw_UtfBack_j1]
      rw [wrap_n1 k (by omega), e]
      cases (l.take k).all isL <;> simp
    · have hw : utf_Write l = some (U (M.flatMap bo), ⟨0, 0⟩) := by
        rw [write_eq l (by omega), if_neg (by omega), bf_fixed, hM]
      have z1 : ((0 : Int) != 0) = false := by decide
      simp only [taskmilllaw_UtfBack_l3, Int.lt_irrefl, decide_false, cond_false, List.take_length, hw, Option.bind_some, z1]
      rw [valid_eq _ (by omega), if_neg (by omega), wrote_good M hL, range_eq _ (by omega), if_neg (by omega)]
      have e : ((((List.range (count (U (M.flatMap bo)))).map (item (U (M.flatMap bo)))).length : Int) != ((l.length : Nat) : Int)) = false := by
        simp; omega
      simp only [Option.bind_some, z1, e, Bool.not_true, Bool.or_self, cond_false]
      rw [rest _ rfl]
end Go.Proofs.YtbnhbaehapalnaaDoor
