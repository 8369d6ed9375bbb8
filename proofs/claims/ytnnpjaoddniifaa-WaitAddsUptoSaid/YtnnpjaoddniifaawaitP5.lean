/-
  wait, plain: the laws.
-/
import Derived.Test.YtnnpjaoddniifaawaitP4
set_option linter.unusedSimpArgs false
set_option linter.unusedVariables false
namespace Go.Proofs.Ytnnpjaoddniifaa
open Go Go.Sx
set_option linter.unusedVariables false
set_option linter.unusedSimpArgs false
theorem same_fault (f : Fault) : (!((f.Code == f.Code) && ((f.At == f.At) && true))) = false := by simp
theorem s00 : (!(((0 : Int) == 0) && (((0 : Int) == 0) && true))) = false := rfl
theorem waitAdds (l : List Line) (a t : Int) (first : Bool) (hf : Fit l) : taskmilllaw_WaitAdds l a t first = some true := by
  unfold taskmilllaw_WaitAdds
  rw [begun, Option.bind_some, vast_eq l hf]
  simp only [Bool.not_true, cond_false, Option.bind_some]
  cases hv : (decide (6000 < l.length) || decide (6000 < (flat l).length)) with
  | true => rfl
  | false =>
    rw [cond_false, ownLines_eq l hf, Option.bind_some, check_eq l hf.fits, Option.bind_some, add_eq l a t first hf, Option.bind_some, lines_eq l hf.fits, Option.bind_some, same_fault, cond_false, same_eq l l hf]
    simp only [decide_true, Option.bind_some, Bool.not_true]
    have bad : ∀ w : Fault, (w.Code == 0) = false → taskmilllaw_WaitAdds_j1 l a t first [] w w = some true := fun w hw => by
      have hw' : (w.Code != 0) = true := by simp [bne, hw]
      unfold taskmilllaw_WaitAdds_j1 taskmilllaw_linesAs
      rw [same_fault, cond_false, hw', cond_true]; rfl
    by_cases hc : (linesF l).Code = 0
    · have h := (lines_code l).1 hc
      rw [if_neg (by simpa using hc), lines_ok h]
      unfold taskmilllaw_WaitAdds_j6
      simp only [cond_false, show ((0 : Int) == 0) = true from rfl, Bool.true_and]
      unfold addR
      by_cases h1 : t < 1
      · rw [if_pos h1, decide_eq_true h1, cond_true]
        exact bad ⟨3, -1⟩ rfl
      · rw [if_neg h1, decide_eq_false h1, cond_false]
        unfold taskmilllaw_WaitAdds_j5
        have h3 := hf.tot
        simp only [show ((0 : Int) == 0) = true from rfl, cond_true, waiting_eq l hf, Option.bind_some, has_eq (flat l) t (by omega)]
        by_cases h2 : t ∈ flat l
        · rw [if_pos h2, decide_eq_true h2]
          exact bad ⟨10, -1⟩ rfl
        · rw [if_neg h2, decide_eq_false h2]
          unfold taskmilllaw_WaitAdds_j4
          rw [cond_false]
          unfold taskmilllaw_WaitAdds_j3
          simp only [show ((0 : Int) == 0) = true from rfl, cond_true, waiting_eq l hf, Option.bind_some]
          have htot := h.tot
          by_cases h5 : 5000 ≤ (flat l).length
          · have : ((((flat l).length : Nat) : Int) == 5000) = true := by simp only [beq_iff_eq]; omega
            rw [if_pos h5, this]
            exact bad ⟨9, 0⟩ rfl
          · have : ((((flat l).length : Nat) : Int) == 5000) = false := by simp only [beq_eq_false_iff_ne]; omega
            rw [if_neg h5, this]
            unfold taskmilllaw_WaitAdds_j2
            rw [cond_false]
            unfold taskmilllaw_WaitAdds_j1 taskmilllaw_linesAs taskmilllaw_WaitAdds_1
            have hal := atL_len l a h
            have hfit : Fit (setL l a (ins first (atL l a) t)) := Fit.set h a _ (by rw [ins_len]; omega)
            simp only [same_fault, cond_false, show ((0 : Int) != 0) = false from rfl, at_eq l a h.fit.len, Option.bind_some, own_eq (atL l a) (by omega)]
            have k1 : ([t] ++ atL l a).length * 8 ≤ 140737488355328 := by simp; omega
            have k2 : (atL l a ++ [t]).length * 8 ≤ 140737488355328 := by simp; omega
            cases first with
            | true =>
              simp only [cond_true, decide_eq_true k1, set_eq l a _ h.fit.len h.srt, Option.bind_some, same_eq _ _ hfit]
              simp [ins]
            | false =>
              simp only [cond_false, cond_true, decide_eq_true k2, set_eq l a _ h.fit.len h.srt, Option.bind_some, same_eq _ _ hfit]
              simp [ins]
    · rw [if_pos hc]
      have e0 : ((linesF l).Code == 0) = false := by simpa using hc
      unfold taskmilllaw_WaitAdds_j6 taskmilllaw_WaitAdds_j5 taskmilllaw_WaitAdds_j4 taskmilllaw_WaitAdds_j3 taskmilllaw_WaitAdds_j2
      simp only [cond_false, e0, Bool.false_and]
      exact bad _ e0
/-! ### Move -/
theorem flat_drop_perm {l : List Line} (h : Ok l) (a : Int) (n : Nat) : (flat (setL l a ((atL l a).drop n)) ++ (atL l a).take n).Perm (flat l) := by
  rw [setL_flat, flat_split h a]
  have e : (atL l a).take n ++ (atL l a).drop n = atL l a := List.take_append_drop n _
  conv => rhs; rw [← e]
  refine (List.perm_append_comm).trans ?_
  simp only [List.append_assoc]
  refine (List.perm_append_comm).trans ?_
  rw [List.append_assoc]
  refine List.Perm.append_left _ ?_
  exact (List.perm_append_comm).trans (List.Perm.refl _)
theorem move_loop {r : List Line} (h : Ok r) (to : Int) (ts : List Int) (hp : ∀ t ∈ ts, 1 ≤ t) (hn : (flat r ++ ts).Nodup) (hl : (flat r).length + ts.length ≤ 5000) :
    loopO (wait_Move_l1 to) (r, ((ts.length : Nat) : Int), 0, ⟨0, 0⟩, ts) = some (setL r to (atL r to ++ ts), ⟨0, 0⟩) ∧ Ok (setL r to (atL r to ++ ts)) := by
  have hperm : ∀ k, (flat (setL r to (atL r to ++ ts.take k))).Perm (flat r ++ ts.take k) := fun k => by
    rw [setL_flat, flat_split h to]
    simp only [List.append_assoc]
    refine List.Perm.append_left _ (List.Perm.append_left _ ?_)
    exact List.perm_append_comm
  have hok : ∀ k, k ≤ ts.length → Ok (setL r to (atL r to ++ ts.take k)) := fun k hk => by
    have hsub : (flat r ++ ts.take k).Nodup := (List.Sublist.append (List.Sublist.refl _) (List.take_sublist k ts)).nodup hn
    have hpk := hperm k
    rw [setL_flat] at hpk
    refine h.set to _ (fun t ht => ?_) (hpk.nodup_iff.2 hsub) (by rw [hpk.length_eq, List.length_append, List.length_take]; omega)
    rcases List.mem_append.1 ht with ht | ht
    · exact h.pos t (by rw [flat_split h to]; simp [ht])
    · exact hp t (List.mem_of_mem_take ht)
  constructor
  · have := loopO_up (step := wait_Move_l1 to) ts.length (fun i (_ : Unit) => (setL r to (atL r to ++ ts.take i), ((ts.length : Nat) : Int), ((i : Nat) : Int), (⟨0, 0⟩ : Fault), ts)) (fun _ _ => True) (fun _ _ => some (setL r to (atL r to ++ ts), ⟨0, 0⟩))
      (fun _ _ => by simp only [wait_Move_l1, decide_eq_false (show ¬ ((ts.length : Nat) : Int) < ((ts.length : Nat) : Int) by omega), cond_false, List.take_length]) (fun i _ hi _ => by
        refine .inl ⟨(), ?_, trivial, rfl⟩
        have hoki := hok i (by omega)
        have hti : ix ts (i : Int) = ts[i] := ix_get hi
        have hpi := hperm i
        have hni : ts[i] ∉ flat (setL r to (atL r to ++ ts.take i)) := fun hm => by
          have hm := hpi.mem_iff.1 hm
          have := (nodup_grow (flat r) ts h.nd).1 hn i hi
          exact this hm
        have hleni := hpi.length_eq
        rw [List.length_append, List.length_take] at hleni
        have hadd := add_eq (setL r to (atL r to ++ ts.take i)) to ts[i] false hoki.fit
        rw [lines_ok hoki, if_neg (by simp)] at hadd
        unfold addR at hadd
        rw [if_neg (by have := hp _ (List.getElem_mem hi); omega), if_neg hni, if_neg (by omega), setL_setL, setL_at] at hadd
        have ei : ins false (atL r to ++ ts.take i) ts[i] = atL r to ++ ts.take (i + 1) := by
          rw [List.take_succ_eq_append_getElem hi, ← List.append_assoc]; rfl
        rw [ei] at hadd
        simp only [wait_Move_l1, decide_eq_true (show ((i : Nat) : Int) < ((ts.length : Nat) : Int) by omega), t2, cond_true, Bool.and_true, show ((0 : Int) == 0) = true from rfl, hti, hadd, Option.bind_some, wait_Move_j1, wrap_n1 i (show i < 4611686018427387904 by omega)]) () trivial
    simp only [List.take_zero, List.append_nil] at this
    rw [setL_same h] at this
    exact this
  · have := hok ts.length (Nat.le_refl _)
    rwa [List.take_length] at this
theorem move_eq {l : List Line} (h : Ok l) (a to n : Int) :
    wait_Move l a to n = some (setL (setL l a ((atL l a).drop n.toNat)) to (atL (setL l a ((atL l a).drop n.toNat)) to ++ (atL l a).take n.toNat), ⟨0, 0⟩) ∧
    Ok (setL (setL l a ((atL l a).drop n.toNat)) to (atL (setL l a ((atL l a).drop n.toNat)) to ++ (atL l a).take n.toNat)) := by
  have hd := h.drop a n.toNat
  have hperm := flat_drop_perm h a n.toNat
  obtain ⟨h1, h2⟩ := move_loop hd to ((atL l a).take n.toNat) (fun t ht => h.pos t (hperm.mem_iff.1 (by simp [ht]))) (hperm.nodup_iff.2 h.nd) (by have := hperm.length_eq; rw [List.length_append] at this; have := h.tot; omega)
  refine ⟨?_, h2⟩
  unfold wait_Move
  rw [wake_eq l a n h.fit, lines_ok h, if_neg (by simp), Option.bind_some]
  exact h1
theorem move_bad {l : List Line} (hf : Fit l) (a to n : Int) (hc : (linesF l).Code ≠ 0) : wait_Move l a to n = some ([], linesF l) := by
  unfold wait_Move
  rw [wake_eq l a n hf, if_pos hc, Option.bind_some]
  exact loopO_inr rfl
theorem woken_eq (ts : List Int) (n : Int) (h : ts.length ≤ 2000000) : taskmilllaw_woken ts n = some (ts.take n.toNat, ts.drop n.toNat) := by
  have key : ∀ k : Nat, k ≤ ts.length → taskmilllaw_woken_j1 ts (k : Int) = some (ts.take k, ts.drop k) := fun k hk => by
    have d1 : decide (((k : Nat) : Int) ≤ ((ts.length : Nat) : Int)) = true := decide_eq_true (by omega)
    simp only [taskmilllaw_woken_j1, t2, d1, Bool.and_true, cond_true, cut_take, cut_drop]
  unfold taskmilllaw_woken
  by_cases h1 : n < 0
  · rw [decide_eq_true h1, cond_true]
    unfold taskmilllaw_woken_j2
    rw [decide_eq_false (by omega), cond_false]
    have := key 0 (Nat.zero_le _)
    rw [show ((0 : Nat) : Int) = 0 from rfl] at this
    rw [this, show n.toNat = 0 by omega]
  · rw [decide_eq_false h1, cond_false]
    unfold taskmilllaw_woken_j2
    by_cases h2 : ((ts.length : Nat) : Int) < n
    · rw [decide_eq_true h2, cond_true, key ts.length (Nat.le_refl _), List.take_of_length_le (i := n.toNat) (by omega), List.drop_of_length_le (i := n.toNat) (by omega), List.take_length, List.drop_length]
    · rw [decide_eq_false h2, cond_false]
      have := key n.toNat (by omega)
      rw [show ((n.toNat : Nat) : Int) = n by omega] at this
      exact this
theorem atL_len' (l : List Line) (a : Int) (hf : Fit l) : (atL l a).length ≤ 2000000 := by
  have : ∀ l : List Line, (atL l a).length ≤ (flat l).length := fun l => by
    induction l with
    | nil => exact Nat.zero_le _
    | cons w l ih => rw [atL, flat_cons, List.length_append]; split <;> omega
  exact Nat.le_trans (this l) hf.tot
theorem waitWakes (l : List Line) (a to n : Int) (hf : Fit l) : taskmilllaw_WaitWakes l a to n = some true := by
  unfold taskmilllaw_WaitWakes
  rw [begun, Option.bind_some, vast_eq l hf]
  simp only [Bool.not_true, cond_false, Option.bind_some]
  have fin : taskmilllaw_WaitWakes_j3 l a to n false = some true := by
    have hal' := atL_len' l a hf
    unfold taskmilllaw_WaitWakes_j3
    rw [cond_false, ownLines_eq l hf, Option.bind_some, wake_eq l a n hf, Option.bind_some, Option.bind_some]
    by_cases hc : (linesF l).Code = 0
    · have h := (lines_code l).1 hc
      have hal := atL_len l a h
      obtain ⟨hm, hmok⟩ := move_eq h a to n
      rw [hm, Option.bind_some, lines_eq l hf.fits, Option.bind_some, lines_ok h, if_neg (by simp)]
      simp only [wakeR, same_fault, s00, Bool.false_or, show ((0 : Int) != 0) = false from rfl, Bool.false_and, cond_false, at_eq l a hf.len, Option.bind_some, woken_eq _ _ hal', show ((0 : Int) == 0) = true from rfl, cond_true,
        ints_eq _ _ (show ((atL l a).take n.toNat).length < 4611686018427387904 by rw [List.length_take]; omega), decide_true, Bool.not_true]
      have hd := h.drop a n.toNat
      unfold taskmilllaw_WaitWakes_j2 taskmilllaw_linesAs_1 taskmilllaw_WaitWakes_1
      simp only [cond_false, same_fault, s00, show ((0 : Int) != 0) = false from rfl, set_eq l a _ hf.len h.srt, Option.bind_some, same_eq _ _ hd.fit, decide_true, cond_true]
      unfold taskmilllaw_linesAs_2 taskmilllaw_WaitWakes_2
      have hal2 := atL_len _ to hd
      have k : (atL (setL l a ((atL l a).drop n.toNat)) to ++ (atL l a).take n.toNat).length * 8 ≤ 140737488355328 := by rw [List.length_append, List.length_take]; omega
      simp only [cond_false, same_fault, s00, show ((0 : Int) != 0) = false from rfl, set_eq l a _ hf.len h.srt, Option.bind_some, at_eq _ to hd.fit.len, own_eq _ (show (atL (setL l a ((atL l a).drop n.toNat)) to).length ≤ 10000000 by omega), decide_eq_true k, cond_true, set_eq _ to _ hd.fit.len hd.srt, same_eq _ _ hmok.fit, decide_true, taskmilllaw_WaitWakes_j1]
      rfl
    · rw [move_bad hf a to n hc, Option.bind_some, lines_eq l hf.fits, Option.bind_some, if_pos hc]
      have e0 : ((linesF l).Code == 0) = false := by simpa using hc
      have e1 : ((linesF l).Code != 0) = true := by simpa using hc
      simp only [same_fault, s00, Bool.false_or, e1, Bool.true_and, List.length_nil, show decide ((0 : Int) < ((0 : Nat) : Int)) = false from rfl, cond_false, at_eq l a hf.len, Option.bind_some, woken_eq _ _ hal', e0]
      unfold taskmilllaw_WaitWakes_j2 taskmilllaw_linesAs_1
      simp only [cond_false, same_fault, s00, e1, cond_true, Option.bind_some, List.length_nil, show (((0 : Nat) : Int) == 0) = true from rfl]
      unfold taskmilllaw_linesAs_2
      simp only [cond_false, same_fault, s00, e1, cond_true, Option.bind_some, List.length_nil, show (((0 : Nat) : Int) == 0) = true from rfl, taskmilllaw_WaitWakes_j1]
  have fin2 : taskmilllaw_WaitWakes_j3 l a to n true = some true := rfl
  cases (decide (6000 < l.length) || decide (6000 < (flat l).length)) with
  | true => exact fin2
  | false =>
    rw [cond_false, waiting_eq l hf, Option.bind_some]
    cases decide ((300 : Int) < (((flat l).length : Nat) : Int)) with
    | true => exact fin2
    | false => exact fin
end Go.Proofs.Ytnnpjaoddniifaa
