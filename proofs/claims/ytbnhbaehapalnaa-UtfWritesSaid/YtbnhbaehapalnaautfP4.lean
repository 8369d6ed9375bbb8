/-
  What laws of the chapter utf compute, and lemmas on it.
  No conditions.
-/
import Derived.Test.YtbnhbaehapalnaautfP3
set_option linter.unusedSimpArgs false
set_option linter.unusedVariables false
namespace Go.Proofs.Ytbnhbaehapalnaa
open Go Go.Sx
noncomputable def ls (s : ByteArray) : List Int := (List.range (count s)).map fun i => (((Utf8.decode s (pos s i)).1 : Nat) : Int)
theorem runesL_eq (s : ByteArray) : ∀ f i, i ≤ count s → count s - i ≤ f → runesL s f (pos s i) = (ls s).drop i := by
  intro f
  induction f with
  | zero =>
    intro i h1 h2
    have : i = count s := by omega
    subst this
    simp [runesL, ls]
  | succ f ih =>
    intro i h1 h2
    unfold runesL
    by_cases hi : i < count s
    · have hl : i < (ls s).length := by simpa [ls] using hi
      rw [List.drop_eq_getElem_cons hl]
      have hp := count_lt s hi
      simp only [hp, decide_true, cond_true]
      congr 1
      · simp [ls]
      · exact ih (i + 1) hi (by omega)
    · have : i = count s := by omega
      subst this
      rw [count_end]
      simp [ls]
theorem runesOf_eq (s : ByteArray) : runesOf s = ls s := runesL_eq s s.size 0 (Nat.zero_le _) (by have := count_le s; omega)
/-! ### Turned round -/
def half (xs : List Ki32) (k : Nat) : List Ki32 := (List.range xs.length).map fun t => if t < k ∨ xs.length - 1 - t < k then xs.getD (xs.length - 1 - t) default else xs.getD t default
theorem half_at (xs : List Ki32) (k t : Nat) (h : t < xs.length) : (half xs k)[t]'(by simpa [half] using h) = if t < k ∨ xs.length - 1 - t < k then xs.getD (xs.length - 1 - t) default else xs.getD t default := by simp [half]
theorem rev_eq (xs : List Ki32) (hn : xs.length ≤ 1000000) : slices_Reverse_rune_1 xs = some xs.reverse := by
  unfold slices_Reverse_rune_1
  have hw : IntKind.i64.wrap (((xs.length : Nat) : Int) - 1) = ((xs.length : Nat) : Int) - 1 := wrap_id (by omega) (by omega)
  rw [hw]
  have e0 : half xs 0 = xs := by
    apply List.ext_getElem
    · simp [half]
    · intro t h1 h2
      rw [half_at xs 0 t h2]
      simp [h2]
  have e1 : half xs (xs.length / 2) = xs.reverse := by
    apply List.ext_getElem
    · simp [half]
    · intro t h1 h2
      have h3 : t < xs.length := by simpa using h2
      rw [half_at xs _ t h3, List.getElem_reverse]
      split
      · rw [List.getD_eq_getElem?_getD, List.getElem?_eq_getElem (by omega)]; rfl
      · have : t = xs.length - 1 - t := by omega
        rw [List.getD_eq_getElem?_getD, List.getElem?_eq_getElem h3]
        simp only [Option.getD_some]
        congr 1
  have := loopO_all (step := slices_Reverse_rune_1_l1) (fun k => (((k : Nat) : Int), ((xs.length : Nat) : Int) - 1 - ((k : Nat) : Int), half xs k)) (some xs.reverse) (xs.length / 2) (fun k hk => ?_) ?_
  · simpa [e0] using this
  · have hj : ((xs.length : Nat) : Int) - 1 - ((k : Nat) : Int) = ((xs.length - 1 - k : Nat) : Int) := by omega
    have hl : (half xs k).length = xs.length := by simp [half]
    have hk1 : k < (half xs k).length := by omega
    have hk2 : xs.length - 1 - k < (half xs k).length := by omega
    have c1 : ((k : Nat) : Int) < ((xs.length - 1 - k : Nat) : Int) := by omega
    have c2 : (0 : Int) ≤ ((k : Nat) : Int) := by omega
    have c3 : (0 : Int) ≤ ((xs.length - 1 - k : Nat) : Int) := by omega
    have c4 : ((k : Nat) : Int) < (((half xs k).length : Nat) : Int) := by omega
    have c5 : ((xs.length - 1 - k : Nat) : Int) < (((half xs k).length : Nat) : Int) := by omega
    rw [hj]
    simp only [slices_Reverse_rune_1_l1, c1, c2, c3, c4, c5, decide_true, Bool.and_true, cond_true, List.length_set, ix_get hk1, ix_get hk2, Int.toNat_natCast]
    rw [wrap_n1 k (by omega), wrap_id (by omega) (by omega)]
    have e : ((half xs k).set k (half xs k)[xs.length - 1 - k]).set (xs.length - 1 - k) (half xs k)[k] = half xs (k + 1) := by
      apply List.ext_getElem
      · simp [half]
      · intro t h1 h2
        have ht : t < xs.length := by simpa [half] using h2
        rw [half_at xs (k + 1) t ht, List.getElem_set]
        have hkl : k < xs.length := by omega
        split
        · rename_i h
          subst h
          rw [half_at xs k k hkl, if_neg (by omega), if_pos (by omega)]
          congr 1
          omega
        · rename_i h
          rw [List.getElem_set]
          split
          · rename_i h'
            subst h'
            rw [half_at xs k _ (by omega), if_neg (by omega), if_pos (by omega)]
          · rename_i h'
            rw [half_at xs k t ht]
            by_cases hc : t < k ∨ xs.length - 1 - t < k
            · rw [if_pos hc, if_pos (by omega)]
            · rw [if_neg hc, if_neg (by omega)]
    have e' : ((half xs k).set k (Ki32.mk (half xs k)[xs.length - 1 - k].v)).set (xs.length - 1 - k) (Ki32.mk (half xs k)[k].v) = half xs (k + 1) := e
    have e6 : ((xs.length - 1 - k : Nat) : Int) - 1 = ((xs.length : Nat) : Int) - 1 - ((k + 1 : Nat) : Int) := by omega
    rw [e', e6]
  · have c1 : ¬ (((xs.length / 2 : Nat) : Int) < ((xs.length : Nat) : Int) - 1 - ((xs.length / 2 : Nat) : Int)) := by omega
    simp only [slices_Reverse_rune_1_l1, c1, decide_false, cond_false, e1]
theorem ls_len (s : ByteArray) : (ls s).length = count s := by simp [ls]
theorem turn_eq (s : ByteArray) (h : s.size ≤ 1000000) : utf_Turn s = some (if 20000 < s.size then (ByteArray.empty, ⟨2, 0⟩) else (U ((ls s).reverse.flatMap bf), ⟨0, 0⟩)) := by
  unfold utf_Turn
  have hc := count_le s
  by_cases hs : 20000 < s.size
  · have : decide ((20000 : Int) < ((s.size : Nat) : Int)) = true := by simp; omega
    rw [this, if_pos hs]; rfl
  · have : decide ((20000 : Int) < ((s.size : Nat) : Int)) = false := by simp; omega
    rw [this, if_neg hs, runesOf_eq]
    have hl : (ls s).length ≤ 70368744177664 := by rw [ls_len]; omega
    rw [rev_eq _ (by simp [ls_len]; omega)]
    simp only [cond_false, hl, decide_true, cond_true, Option.bind_some, List.length_reverse]
    rw [← List.map_reverse, mk_v32, encL_eq]
/-! ### The law -/
theorem item_e0 (s : ByteArray) (k : Nat) (h : k ≤ count s) : (ix ((List.range (count s)).map (item s) ++ [(⟨((s.size : Nat) : Int), 0⟩ : S39)]) ((k : Nat) : Int)).e0 = ((pos s k : Nat) : Int) := by
  rw [ix_get (by simp; omega)]
  rw [List.getElem_append]
  split
  · simp [item]
  · have : k = count s := by simp at *; omega
    subst this
    simp [count_end]
theorem writes (s : ByteArray) (l : List Int) (a b : Int) : taskmilllaw_UtfWrites s l a b = some true := by
  unfold taskmilllaw_UtfWrites
  rw [begun_eq]
  simp only [Option.bind_some, Bool.not_true, cond_false]
  by_cases hv : 30000 < s.size ∨ 6000 < l.length
  · have : (decide ((30000 : Int) < ((s.size : Nat) : Int)) || decide ((6000 : Int) < ((l.length : Nat) : Int))) = true := by
      simp only [Bool.or_eq_true, decide_eq_true_eq]; omega
    rw [this]; rfl
  · have : (decide ((30000 : Int) < ((s.size : Nat) : Int)) || decide ((6000 : Int) < ((l.length : Nat) : Int))) = false := by
      simp only [Bool.or_eq_false_iff, decide_eq_false_iff_not]; omega
    rw [this, cond_false]
    have ho : taskmilllaw_own l = some l := by
      have : l.length * 8 ≤ 140737488355328 := by omega
      simp [taskmilllaw_own, this]
    have hc := count_le s
    rw [ho, Option.bind_some, write_eq l (by omega), turn_eq s (by omega), cut_eq s a b (by omega)]
    simp only [Option.bind_some]
    -- what stands behind the first look
    have rest : ∀ w, taskmilllaw_UtfWrites_j4 s a b (if 20000 < s.size then (ByteArray.empty, (⟨2, 0⟩ : Fault)) else (U ((ls s).reverse.flatMap bf), ⟨0, 0⟩)).1 (cutR s a b).1 (if 20000 < s.size then (ByteArray.empty, (⟨2, 0⟩ : Fault)) else (U ((ls s).reverse.flatMap bf), ⟨0, 0⟩)).2 (cutR s a b).2 w false = some true := by
      intro w
      unfold taskmilllaw_UtfWrites_j4
      by_cases hs : 20000 < s.size
      · have e : decide ((20000 : Int) < ((s.size : Nat) : Int)) = true := by simp; omega
        have ec : cutR s a b = (ByteArray.empty, ⟨2, 0⟩) := by unfold cutR; rw [if_pos hs]
        rw [ec, e]
        simp [hs, taskmillref_F, taskmilllaw_UtfWrites_j3]
      · have e : decide ((20000 : Int) < ((s.size : Nat) : Int)) = false := by simp; omega
        rw [e]
        simp only [cond_false, hs, if_false]
        unfold taskmilllaw_UtfWrites_j3
        obtain ⟨bad, hr⟩ := read_eq s (by omega)
        have z : (((⟨0, 0⟩ : Fault)).Code != 0) = false := rfl
        rw [hr, z]
        simp only [cond_false, Option.bind_some, List.length_map, List.length_range]
        rw [wrap_id (by omega) (by omega)]
        have last : taskmilllaw_UtfWrites_j2 s a b (cutR s a b).1 (cutR s a b).2 ((List.range (count s)).map (item s)) false = some true := by
          unfold taskmilllaw_UtfWrites_j2 cutR
          rw [if_neg hs]
          simp only [cond_false, List.length_map, List.length_range]
          by_cases hr : a < 0 ∨ b < a ∨ (count s : Int) < b
          · have e : (decide (a < 0) || (decide (b < a) || decide (((count s : Nat) : Int) < b))) = true := by simp only [Bool.or_eq_true, decide_eq_true_eq]; omega
            rw [e, if_pos hr]
            simp [taskmillref_F, taskmilllaw_UtfWrites_j1]
          · have e : (decide (a < 0) || (decide (b < a) || decide (((count s : Nat) : Int) < b))) = false := by simp only [Bool.or_eq_false_iff, decide_eq_false_iff_not]; omega
            rw [e, if_neg hr]
            have ha : a = ((a.toNat : Nat) : Int) := by omega
            have hb : b = ((b.toNat : Nat) : Int) := by omega
            have ia := item_e0 s a.toNat (by omega)
            have ib := item_e0 s b.toNat (by omega)
            rw [← ha] at ia
            rw [← hb] at ib
            have m1 := pos_mono s (i := a.toNat) (j := b.toNat) (by omega)
            have m2 := pos_le s (i := b.toNat) (by omega)
            have k1 : count s * 16 ≤ 140737488355328 := by omega
            have k2 : (count s + 1) * 16 ≤ 140737488355328 := by omega
            have c1 : (decide ((0 : Int) ≤ a) && decide (a < ((count s + 1 : Nat) : Int))) = true := by simp only [Bool.and_eq_true, decide_eq_true_eq]; omega
            have c2 : (decide ((0 : Int) ≤ b) && decide (b < ((count s + 1 : Nat) : Int))) = true := by simp only [Bool.and_eq_true, decide_eq_true_eq]; omega
            have c3 : ((decide ((0 : Int) ≤ ((pos s a.toNat : Nat) : Int)) && decide (((pos s a.toNat : Nat) : Int) ≤ ((pos s b.toNat : Nat) : Int))) && decide (((pos s b.toNat : Nat) : Int) ≤ ((s.size : Nat) : Int))) = true := by simp only [Bool.and_eq_true, decide_eq_true_eq]; omega
            simp only [ia, ib, List.length_append, List.length_map, List.length_range, List.length_singleton, k1, k2, c1, c2, c3, decide_true, cond_true, cond_false, Bool.or_true, Int.toNat_natCast]
            simp
        have hrev : ((List.range (count s)).map (item s)).reverse.map S39.e1 = (ls s).reverse := by
          rw [List.map_reverse, List.map_map]; rfl
        have := loopO_all (step := taskmilllaw_UtfWrites_l1 s a b (U ((ls s).reverse.flatMap bf)) (cutR s a b).1 ⟨0, 0⟩ (cutR s a b).2) (fun k => (((count s : Nat) : Int) - 1 - ((k : Nat) : Int), (List.range (count s)).map (item s), (ls s).reverse.take k)) (some true) (count s) (fun k hk => ?_) ?_
        · simpa using this
        · have hj : ((count s : Nat) : Int) - 1 - ((k : Nat) : Int) = ((count s - 1 - k : Nat) : Int) := by omega
          have c1 : (0 : Int) ≤ ((count s - 1 - k : Nat) : Int) := by omega
          have c2 : ((count s - 1 - k : Nat) : Int) < ((count s : Nat) : Int) := by omega
          have hk2 : count s - 1 - k < ((List.range (count s)).map (item s)).length := by simp; omega
          have hk3 : k < (ls s).reverse.length := by simp [ls_len]; exact hk
          have e1 : ((List.range (count s)).map (item s))[count s - 1 - k].e1 = (ls s).reverse[k] := by
            rw [List.getElem_reverse]
            simp [item, ls]
          have hb : ((ls s).reverse.take k ++ [(ls s).reverse[k]]).length * 8 ≤ 140737488355328 := by
            simp only [List.length_append, List.length_take, List.length_singleton]
            omega
          rw [hj]
          simp only [taskmilllaw_UtfWrites_l1, c1, List.length_map, List.length_range, c2, decide_true, Bool.and_true, cond_true, ix_get hk2, e1, hb]
          have e6 : ((count s - 1 - k : Nat) : Int) - 1 = ((count s : Nat) : Int) - 1 - ((k + 1 : Nat) : Int) := by omega
          rw [wrap_id (by omega) (by omega), List.take_succ_eq_append_getElem hk3, e6]
        · have c1 : ¬ ((0 : Int) ≤ ((count s : Nat) : Int) - 1 - ((count s : Nat) : Int)) := by omega
          have ht : (ls s).reverse.take (count s) = (ls s).reverse := List.take_of_length_le (by simp [ls_len])
          have z0 : ((0 : Int) != 0) = false := by decide
          simp only [taskmilllaw_UtfWrites_l1, c1, decide_false, cond_false, ht, z0]
          rw [written_eq _ (by simp [ls_len]; omega)]
          simp only [Option.bind_some, decide_true, Bool.not_true, last]
    by_cases h5 : 5000 < l.length
    · have e : decide ((5000 : Int) < ((l.length : Nat) : Int)) = true := by simp; omega
      rw [e]
      simp only [cond_true, taskmillref_F, Option.bind_some, h5, if_true]
      unfold taskmilllaw_UtfWrites_j5
      have z1 : (!(((2 : Int) == 2) && (((0 : Int) == 0) && true))) = false := by decide
      have z2 : ((2 : Int) != 0) = true := by decide
      have z3 : ((2 : Int) == 0) = false := by decide
      simp only [z1, z2, z3, cond_true, cond_false, decide_true, Bool.not_true, rest]
    · have e : decide ((5000 : Int) < ((l.length : Nat) : Int)) = false := by simp; omega
      rw [e]
      simp only [cond_false, h5, if_false]
      unfold taskmilllaw_UtfWrites_j5
      have z1 : (!(((0 : Int) == 0) && (((0 : Int) == 0) && true))) = false := by decide
      have z2 : ((0 : Int) != 0) = false := by decide
      have z3 : ((0 : Int) == 0) = true := by decide
      simp only [z1, z2, z3, cond_true, cond_false]
      rw [written_eq l (by omega)]
      simp only [Option.bind_some, decide_true, Bool.not_true, rest]
      rfl
end Go.Proofs.Ytbnhbaehapalnaa
