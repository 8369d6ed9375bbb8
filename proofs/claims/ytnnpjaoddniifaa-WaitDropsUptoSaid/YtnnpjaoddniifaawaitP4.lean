/-
  wait, plain: Add, Wake, Drop, Move.
-/
import Derived.Test.YtnnpjaoddniifaawaitP3
set_option linter.unusedSimpArgs false
set_option linter.unusedVariables false
namespace Go.Proofs.Ytnnpjaoddniifaa
open Go Go.Sx
set_option linter.unusedVariables false
set_option linter.unusedSimpArgs false
theorem of_eq (l : List Line) (t : Int) (hf : Fit l) : ∃ r : Int, wait_Of l t = some r ∧ (t ∈ flat l → ∃ i : Nat, r = i ∧ i < l.length ∧ t ∈ (L l i).Tasks) ∧ (t ∉ flat l → r = -1) := by
  have h1 := hf.len
  have hstep : ∀ i : Nat, i < l.length → slices_IndexFunc_Line_l1 l ((i : Int), t) = bif decide (t ∈ (L l i).Tasks) then some (.inr ((i : Int), t)) else some (.inl (((i + 1 : Nat) : Int), t)) := fun i hi => by
    have hL : ix l (i : Int) = L l i := rfl
    have h3 := fits_at hf.fits hi
    simp only [slices_IndexFunc_Line_l1, t1 hi, t2, hL, cond_true, Bool.and_true, wait_Of_1, contains_eq _ _ (show (L l i).Tasks.length < 4611686018427387904 by omega), Option.bind_some, wrap_n1 i (show i < 4611686018427387904 by omega), Option.map_some]
  have := loopO_if (step := slices_IndexFunc_Line_l1 l) (fun i => (((i : Nat) : Int), t)) (fun i => decide (t ∈ (L l i).Tasks)) (fun i => some ((i : Int), t)) (some (-1, t)) l.length (fun i hi hp => by rw [hstep i hi, hp]; rfl) (fun i hi hp => by rw [hstep i hi, hp]; rfl) (fun _ => by simp [slices_IndexFunc_Line_l1])
  unfold wait_Of slices_IndexFunc_Line
  rw [show ((0 : Nat) : Int) = 0 from rfl] at this
  rw [this]
  cases hf2 : firstIf (fun i => decide (t ∈ (L l i).Tasks)) l.length with
  | some i =>
    obtain ⟨g1, g2, _⟩ := firstIf_some hf2
    simp only [decide_eq_true_eq] at g2
    exact ⟨_, rfl, fun _ => ⟨i, rfl, g1, g2⟩, fun hn => absurd (List.mem_flatMap.2 ⟨_, L_mem g1, g2⟩) hn⟩
  | none =>
    refine ⟨_, rfl, fun hm => ?_, fun _ => rfl⟩
    obtain ⟨w, hw, ht⟩ := List.mem_flatMap.1 hm
    obtain ⟨i, hi, rfl⟩ := List.getElem_of_mem hw
    have := firstIf_none.1 hf2 i hi
    rw [L_get hi] at this
    simp at this; exact absurd ht this
def ins (first : Bool) (ts : List Int) (t : Int) : List Int := bif first then t :: ts else ts ++ [t]
theorem ins_perm (first : Bool) (ts : List Int) (t : Int) : (ins first ts t).Perm (t :: ts) := by
  cases first with
  | true => exact List.Perm.refl _
  | false => exact List.perm_append_comm
theorem ins_len (first : Bool) (ts : List Int) (t : Int) : (ins first ts t).length = ts.length + 1 := (ins_perm first ts t).length_eq
/-- What Add answers for lines that are fine. -/
def addR (l : List Line) (a t : Int) (first : Bool) : Fault × List Line :=
  if t < 1 then (⟨3, -1⟩, []) else if t ∈ flat l then (⟨10, -1⟩, []) else if 5000 ≤ (flat l).length then (⟨9, 0⟩, []) else (⟨0, 0⟩, setL l a (ins first (atL l a) t))
theorem atL_len (l : List Line) (a : Int) (h : Ok l) : (atL l a).length ≤ 5000 := by
  have := congrArg List.length (flat_split h a)
  have := h.tot
  simp only [List.length_append] at *
  omega
theorem add_j1 {l l2 : List Line} (h : Ok l) {a t : Int} {i : Nat} {first : Bool} (h1 : 1 ≤ t) (h2 : t ∉ flat l) (hw : wait_with l2 (i : Int) (ins first (atL l a) t) = some (setL l a (ins first (atL l a) t))) :
    wait_Add_j1 l2 (i : Int) (ins first (atL l a) t) = some (addR l a t first) := by
  have hal := atL_len l a h
  have hfit : Fit (setL l a (ins first (atL l a) t)) := Fit.set h a _ (by rw [ins_len]; omega)
  have hperm : (low l a ++ ins first (atL l a) t ++ high l a).Perm (t :: flat l) := by
    rw [flat_split h a]
    refine ((List.Perm.append_left _ (ins_perm first _ t)).append_right _).trans ?_
    rw [List.append_assoc, List.cons_append, List.append_assoc]
    exact List.perm_middle
  unfold wait_Add_j1 addR
  rw [hw, Option.bind_some, check_eq _ hfit.fits, Option.bind_some, if_neg (by omega), if_neg h2]
  have hlen := hperm.length_eq
  rw [List.length_cons] at hlen
  by_cases hc : 5000 ≤ (flat l).length
  · rw [if_pos hc]
    have : (linesF (setL l a (ins first (atL l a) t))).Code ≠ 0 := fun e => by
      have := ((lines_code _).1 e).tot
      rw [setL_flat] at this; omega
    have e : ((linesF (setL l a (ins first (atL l a) t))).Code != 0) = true := by simpa using this
    rw [e]; rfl
  · rw [if_neg hc]
    have hok : Ok (setL l a (ins first (atL l a) t)) := h.set a _ (fun x hx => by
      rcases List.mem_cons.1 ((ins_perm first _ t).mem_iff.1 hx) with rfl | hx
      · exact h1
      · exact h.pos x (by rw [flat_split h a]; simp [hx])) (hperm.nodup_iff.2 (List.nodup_cons.2 ⟨h2, h.nd⟩)) (by omega)
    rw [lines_ok hok]; rfl
theorem add_eq (l : List Line) (a t : Int) (first : Bool) (hf : Fit l) : wait_Add l a t first = some (if (linesF l).Code ≠ 0 then (linesF l, []) else addR l a t first) := by
  unfold wait_Add
  rw [check_eq l hf.fits, Option.bind_some]
  by_cases hc : (linesF l).Code = 0
  · have h := (lines_code l).1 hc
    have e0 : ((linesF l).Code != 0) = false := by simp [hc]
    rw [e0, cond_false, if_neg (by simpa using hc)]
    by_cases h1 : t < 1
    · rw [decide_eq_true h1]; unfold addR; rw [if_pos h1]; rfl
    · rw [decide_eq_false h1, cond_false]
      obtain ⟨r, hr, hr1, hr2⟩ := of_eq l t hf
      rw [hr, Option.bind_some]
      by_cases h2 : t ∈ flat l
      · obtain ⟨i, rfl, _⟩ := hr1 h2
        have : decide ((0 : Int) ≤ (i : Int)) = true := t2
        rw [this]; unfold addR; rw [if_neg h1, if_pos h2]; rfl
      · rw [hr2 h2, show decide ((0 : Int) ≤ -1) = false from rfl, cond_false]
        obtain ⟨i, hp, hfi⟩ := find_eq l a h.fit.len h.srt
        rw [hfi, Option.bind_some]
        have hal := atL_len l a h
        by_cases hh : i < l.length ∧ (L l i).At = a
        · have hm := place_hit h.srt hp hh.1 hh.2
          have hL : ix l (i : Int) = L l i := rfl
          have hT : (L l i).Tasks = atL l a := hm.2.symm
          have k : (atL l a ++ [t]).length * 8 ≤ 140737488355328 := by simp; omega
          have k2 : (0 : Int) ≤ 0 ∧ (0 : Int) ≤ (((atL l a).length : Nat) : Int) ∧ [t].length = 1 ∧ ((atL l a).length + 1) * 8 ≤ 140737488355328 := ⟨by omega, by omega, rfl, by omega⟩
          have hins : insL (atL l a) 0 [t] = t :: atL l a := rfl
          have hfin := fun f => add_j1 (first := f) h (by omega) h2 (with_hit h hp hh.1 hh.2 (ins f (atL l a) t) (by rw [ins_len]; omega))
          simp only [decide_eq_true hh, Bool.not_true, cond_false, wait_Add_j2, t1 hh.1, t2, Bool.and_true, cond_true, hL, hT, clone_eq _ (show (atL l a).length ≤ 10000000 by omega), Option.bind_some, decide_eq_true k, slices_Insert_int, decide_eq_true k2, hins]
          cases first with
          | true => exact hfin true
          | false => exact hfin false
        · have hm := place_miss hp hh h.srt
          have hle := hp.le
          have hlen := h.len
          have k1 : (0 : Int) ≤ (i : Int) ∧ (i : Int) ≤ ((l.length : Nat) : Int) ∧ [Line.mk a []].length = 1 ∧ (l.length + 1) * 32 ≤ 140737488355328 := ⟨by omega, by omega, rfl, by omega⟩
          have e : insL l (i : Int) [Line.mk a []] = l.take i ++ Line.mk a [] :: l.drop i := by unfold insL; simp
          have hlen2 : i < (insL l (i : Int) [Line.mk a []]).length := by rw [insL_len]; simp; omega
          have hL : ix (insL l (i : Int) [Line.mk a []]) (i : Int) = Line.mk a [] := by
            rw [ix_get hlen2]
            simp only [e]
            rw [List.getElem_append_right (by rw [List.length_take]; exact Nat.min_le_left _ _)]
            simp [Nat.min_eq_left hle]
          have hfin := fun f => add_j1 (first := f) h (by omega) h2 (with_miss h hp hh (ins f (atL l a) t) (by rw [ins_len]; omega))
          rw [hm.2] at hfin
          have k : (([] : List Int) ++ [t]).length * 8 ≤ 140737488355328 := by simp
          have k2 : (0 : Int) ≤ 0 ∧ (0 : Int) ≤ ((([] : List Int).length : Nat) : Int) ∧ [t].length = 1 ∧ (([] : List Int).length + 1) * 8 ≤ 140737488355328 := ⟨by omega, by simp, rfl, by simp⟩
          have hins : insL ([] : List Int) 0 [t] = [t] := rfl
          simp only [decide_eq_false hh, Bool.not_false, cond_true, cloneL_eq l (by omega), Option.bind_some, slices_Insert_Line, decide_eq_true k1, wait_Add_j2, t1 hlen2, t2, Bool.and_true, hL, clone_eq [] (by simp), decide_eq_true k, slices_Insert_int, decide_eq_true k2, hins]
          cases first with
          | true => exact hfin true
          | false => exact hfin false
  · have e0 : ((linesF l).Code != 0) = true := by simpa using hc
    rw [e0, cond_true, if_pos hc]
/-- What Wake answers for lines that are fine. -/
def wakeR (l : List Line) (a n : Int) : Fault × List Line × List Int := (⟨0, 0⟩, setL l a ((atL l a).drop n.toNat), (atL l a).take n.toNat)
theorem setL_same {l : List Line} (h : Ok l) (a : Int) : setL l a (atL l a) = l := split_eq h.srt a h.fit.len h.ne
theorem wake_eq (l : List Line) (a n : Int) (hf : Fit l) : wait_Wake l a n = some (if (linesF l).Code ≠ 0 then (linesF l, [], []) else wakeR l a n) := by
  unfold wait_Wake
  rw [check_eq l hf.fits, Option.bind_some]
  by_cases hc : (linesF l).Code = 0
  · have h := (lines_code l).1 hc
    have e0 : ((linesF l).Code != 0) = false := by simp [hc]
    rw [e0, cond_false, if_neg (by simpa using hc)]
    obtain ⟨i, hp, hfi⟩ := find_eq l a h.fit.len h.srt
    rw [hfi, Option.bind_some]
    have hal := atL_len l a h
    by_cases hh : i < l.length ∧ (L l i).At = a
    · have hm := place_hit h.srt hp hh.1 hh.2
      by_cases hn : n ≤ 0
      · simp only [decide_eq_true hh, Bool.not_true, Bool.false_or, decide_eq_true hn, cond_true, with_no h, Option.bind_some, wakeR]
        have : n.toNat = 0 := by omega
        rw [this, List.drop_zero, List.take_zero, setL_same h]
      · have hL : ix l (i : Int) = L l i := rfl
        have hT : (L l i).Tasks = atL l a := hm.2.symm
        have hmin : (min n (((atL l a).length : Nat) : Int)) = ((min n.toNat (atL l a).length : Nat) : Int) := by omega
        have hd : (atL l a).drop (min n.toNat (atL l a).length) = (atL l a).drop n.toNat := by
          by_cases hq : n.toNat ≤ (atL l a).length
          · rw [Nat.min_eq_left hq]
          · rw [Nat.min_eq_right (by omega), List.drop_length, List.drop_of_length_le (by omega)]
        have hk : (atL l a).take (min n.toNat (atL l a).length) = (atL l a).take n.toNat := by
          by_cases hq : n.toNat ≤ (atL l a).length
          · rw [Nat.min_eq_left hq]
          · rw [Nat.min_eq_right (by omega), List.take_length, List.take_of_length_le (by omega)]
        have d1 : decide (((min n.toNat (atL l a).length : Nat) : Int) ≤ (((atL l a).length : Nat) : Int)) = true := decide_eq_true (by omega)
        simp only [decide_eq_true hh, Bool.not_true, Bool.false_or, decide_eq_false hn, cond_false, hL, hT, hmin, t1 hh.1, t2, Bool.and_true, cond_true, d1, cut_drop, cut_take, hd, hk, with_hit h hp hh.1 hh.2 ((atL l a).drop n.toNat) (by rw [List.length_drop]; omega), Option.bind_some, clone_eq ((atL l a).take n.toNat) (by rw [List.length_take]; omega), wakeR]
    · have hm := place_miss hp hh h.srt
      simp only [decide_eq_false hh, Bool.not_false, Bool.true_or, cond_true, with_no h, Option.bind_some, wakeR]
      have := setL_same h a
      rw [hm.2] at this ⊢
      rw [List.drop_nil, List.take_nil, this]
  · have e0 : ((linesF l).Code != 0) = true := by simpa using hc
    rw [e0, cond_true, if_pos hc]
theorem take_drop_nodup {low mid high : List Int} (n : Nat) (h : (low ++ mid ++ high).Nodup) : (low ++ mid.drop n ++ high).Nodup :=
  (List.Sublist.append (List.Sublist.append (List.Sublist.refl _) (List.drop_sublist n mid)) (List.Sublist.refl _)).nodup h
theorem Ok.drop {l : List Line} (h : Ok l) (a : Int) (n : Nat) : Ok (setL l a ((atL l a).drop n)) := by
  have hs := flat_split h a
  refine h.set a _ (fun t ht => h.pos t (by rw [hs]; simp [List.mem_of_mem_drop ht])) (take_drop_nodup n (hs ▸ h.nd)) ?_
  have := congrArg List.length hs
  have := h.tot
  simp only [List.length_append, List.length_drop] at *
  omega
theorem begun : taskmilllaw_waitBegun = some true := by
  have hn : Ok [] := ⟨by simp, by simp [flat], by simp, List.Pairwise.nil, by simp [flat], by simp [flat]⟩
  have e1 : wait_Add [] 5 3 false = some (⟨0, 0⟩, [⟨5, [3]⟩]) := by
    rw [add_eq _ _ _ _ hn.fit, lines_ok hn]; rfl
  have hn2 : Ok [⟨5, [3]⟩] := ⟨by simp, by simp [flat], by simp, by simp, by simp [flat], by simp [flat]⟩
  have e2 : wait_Wake [⟨5, [3]⟩] 5 9 = some (⟨0, 0⟩, [], [3]) := by
    rw [wake_eq _ _ _ hn2.fit, lines_ok hn2]; rfl
  unfold taskmilllaw_waitBegun
  rw [e1, Option.bind_some, e2, Option.bind_some]
  simp only [show ((0 : Int) == 0) = true from rfl, cond_true, ints_eq [3] [3] (by simp), Option.bind_some, taskmilllaw_waitBegun_j1]
  rfl
end Go.Proofs.Ytnnpjaoddniifaa
