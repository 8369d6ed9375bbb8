/-
  wait, plain: first come, first served.
-/
import Derived.Test.YtnnpjaoddniifaawaitP6
set_option linter.unusedSimpArgs false
set_option linter.unusedVariables false
namespace Go.Proofs.Ytnnpjaoddniifaa
open Go Go.Sx
set_option linter.unusedVariables false
set_option linter.unusedSimpArgs false
theorem add_ok {l : List Line} (h : Ok l) (a t : Int) (h1 : 1 ≤ t) (h2 : t ∉ flat l) (h3 : (flat l).length < 5000) :
    wait_Add l a t false = some (⟨0, 0⟩, setL l a (atL l a ++ [t])) ∧ Ok (setL l a (atL l a ++ [t])) ∧ (flat (setL l a (atL l a ++ [t]))).Perm (t :: flat l) := by
  have hp : (flat (setL l a (atL l a ++ [t]))).Perm (t :: flat l) := by
    rw [setL_flat, flat_split h a]
    simp only [List.append_assoc, List.singleton_append]
    exact (List.Perm.append_left _ List.perm_middle).trans List.perm_middle
  refine ⟨?_, h.set a _ (fun x hx => ?_) ?_ ?_, hp⟩
  · rw [add_eq l a t false h.fit, lines_ok h, if_neg (by simp), addR, if_neg (by omega), if_neg h2, if_neg (by omega)]; rfl
  · rcases List.mem_append.1 hx with hx | hx
    · exact h.pos x (by rw [flat_split h a]; simp [hx])
    · simp at hx; omega
  · rw [← setL_flat]; exact hp.nodup_iff.2 (List.nodup_cons.2 ⟨h2, h.nd⟩)
  · rw [← setL_flat, hp.length_eq, List.length_cons]; omega
theorem drop_sub {l : List Line} (h : Ok l) (a : Int) (n : Nat) : (flat (setL l a ((atL l a).drop n))).Sublist (flat l) := by
  rw [setL_flat, flat_split h a]
  exact List.Sublist.append (List.Sublist.append (List.Sublist.refl _) (List.drop_sublist _ _)) (List.Sublist.refl _)
/-- The state of the first loop. -/
structure Inv (a : Int) (i : Nat) (l : List Line) (mine : List Int) : Prop where
  ok : Ok l
  lim : ∀ t ∈ flat l, t ≤ (i : Int)
  len : (flat l).length ≤ i
  mine : atL l a = mine
theorem waitOrder (a : Int) (others : List Int) : taskmilllaw_WaitOrder a others = some true := by
  unfold taskmilllaw_WaitOrder
  rw [begun, Option.bind_some]
  simp only [Bool.not_true, cond_false]
  by_cases h200 : (200 : Int) < ((others.length : Nat) : Int)
  · rw [decide_eq_true h200]; rfl
  rw [decide_eq_false h200, cond_false]
  have hn : Ok [] := ⟨by simp, by simp [flat], by simp, List.Pairwise.nil, by simp [flat], by simp [flat]⟩
  have second : ∀ (l : List Line) (mine : List Int), Ok l → atL l a = mine → mine.length ≤ 5000 → loopO (taskmilllaw_WaitOrder_l1 a mine) (0, l) = some true := fun l mine hl hm hml => by
    have := loopO_up (step := taskmilllaw_WaitOrder_l1 a mine) mine.length (fun i (l : List Line) => ((i : Int), l)) (fun i l => Ok l ∧ atL l a = mine.drop i) (fun _ _ => some true)
      (fun l hl => by
        obtain ⟨hl, hm⟩ := hl
        rw [List.drop_length] at hm
        simp only [taskmilllaw_WaitOrder_l1, decide_eq_false (show ¬ ((mine.length : Nat) : Int) < ((mine.length : Nat) : Int) by omega), cond_false, wake_ok hl, wakeR, Option.bind_some, hm, List.take_nil]
        rfl) (fun i l hi hl => by
        obtain ⟨hl, hm⟩ := hl
        refine .inl ⟨setL l a ((atL l a).drop 1), ?_, ⟨hl.drop a 1, by rw [setL_at, hm, List.drop_drop]⟩, rfl⟩
        have e1 : (atL l a).take 1 = [mine.getD i 0] := by
          rw [hm, drop_at hi, getD_get hi]; rfl
        have hix : ix [mine.getD i 0] (0 : Int) = mine.getD i 0 := rfl
        simp only [taskmilllaw_WaitOrder_l1, sx hi, cond_true, wake_ok hl, wakeR, Option.bind_some, show (1 : Int).toNat = 1 from rfl, e1, show ((0 : Int) != 0) = false from rfl, Bool.not_false, List.length_singleton, show (((1 : Nat) : Int) != 1) = false from rfl, Bool.and_self, Bool.not_true, Bool.false_or,
          show decide ((0 : Int) < ((1 : Nat) : Int)) = true from rfl, t2, Bool.true_and, hix, ix_int hi, bne_self_eq_false, cond_false, wrap_n1 i (show i < 4611686018427387904 by omega)]) l ⟨hl, by simpa using hm⟩
    exact this
  have := loopO_up (step := taskmilllaw_WaitOrder_l2 a others) others.length (fun i (p : List Line × List Int) => ((i : Int), (i : Int), p.1, p.2)) (fun i p => Inv a i p.1 p.2) (fun _ _ => some true)
    (fun p hp => by
      have hal := atL_len p.1 a hp.ok
      rw [hp.mine] at hal
      simp only [taskmilllaw_WaitOrder_l2, decide_eq_false (show ¬ ((others.length : Nat) : Int) < ((others.length : Nat) : Int) by omega), cond_false]
      rw [second p.1 p.2 hp.ok hp.mine hal]) (fun i p hi hp => by
      obtain ⟨l, mine⟩ := p
      obtain ⟨ok, lim, len, hm⟩ := hp
      simp only at ok lim len hm
      have step2 : ∀ to : Int, ∃ p' : List Line × List Int, taskmilllaw_WaitOrder_j2 a others (i : Int) (i : Int) l mine to = some (.inl (((i + 1 : Nat) : Int), ((i + 1 : Nat) : Int), p'.1, p'.2)) ∧ Inv a (i + 1) p'.1 p'.2 := fun to => by
        obtain ⟨e1, ok2, perm⟩ := add_ok ok to ((i + 1 : Nat) : Int) (by omega) (fun h => by have := lim _ h; omega) (by omega)
        have hlim2 : ∀ t ∈ flat (setL l to (atL l to ++ [((i + 1 : Nat) : Int)])), t ≤ ((i + 1 : Nat) : Int) := fun t ht => by
          rcases List.mem_cons.1 (perm.mem_iff.1 ht) with rfl | ht
          · exact Int.le_refl _
          · have := lim t ht; omega
        have hlen2 : (flat (setL l to (atL l to ++ [((i + 1 : Nat) : Int)]))).length ≤ i + 1 := by rw [perm.length_eq, List.length_cons]; omega
        unfold taskmilllaw_WaitOrder_j2 taskmilllaw_WaitOrder_j1
        rw [wrap_n1 i (by omega), e1]
        simp only [Option.bind_some, show ((0 : Int) != 0) = false from rfl, cond_false]
        by_cases hto : to = a
        · have hto' : (to == a) = true := by simpa using hto
          subst hto
          have hml := atL_len l to ok
          rw [hm] at hml
          have k : (mine ++ [((i + 1 : Nat) : Int)]).length * 8 ≤ 140737488355328 := by simp; omega
          refine ⟨(_, mine ++ [((i + 1 : Nat) : Int)]), ?_, ⟨ok2, hlim2, hlen2, ?_⟩⟩
          · rw [hto', cond_true, decide_eq_true k, cond_true]; rfl
          · show atL (setL l to _) to = _
            rw [setL_at, hm]
        · have hto' : (to == a) = false := by simpa using hto
          rw [hto', cond_false]
          cases (Int.tmod (i : Int) 3 == 0) with
          | false => exact ⟨(_, mine), rfl, ⟨ok2, hlim2, hlen2, (atL_other l _ hto).trans hm⟩⟩
          | true =>
            rw [cond_true, wake_ok ok2, Option.bind_some]
            have hs := drop_sub ok2 to 1
            exact ⟨(_, mine), rfl, ⟨ok2.drop to 1, fun t ht => hlim2 t (hs.subset ht), Nat.le_trans hs.length_le hlen2, ((atL_other _ _ hto).trans (atL_other l _ hto)).trans hm⟩⟩
      have fin : ∀ to, taskmilllaw_WaitOrder_l2 a others ((i : Int), (i : Int), l, mine) = taskmilllaw_WaitOrder_j2 a others (i : Int) (i : Int) l mine to → (∃ a' : List Line × List Int, taskmilllaw_WaitOrder_l2 a others ((i : Int), (i : Int), l, mine) = some (.inl (((i + 1 : Nat) : Int), ((i + 1 : Nat) : Int), a'.1, a'.2)) ∧ Inv a (i + 1) a'.1 a'.2 ∧ some true = some true) := fun to he => by
        obtain ⟨p', q1, q2⟩ := step2 to
        exact ⟨p', he.trans q1, q2, rfl⟩
      left
      by_cases h0 : others.getD i 0 = 0
      · exact fin a (by simp only [taskmilllaw_WaitOrder_l2, sx hi, t2, Bool.and_true, cond_true, ix_int hi, h0, bne_self_eq_false, cond_false])
      · have h0' : (others.getD i 0 != 0) = true := by simpa using h0
        exact fin (others.getD i 0) (by simp only [taskmilllaw_WaitOrder_l2, sx hi, t2, Bool.and_true, cond_true, ix_int hi, h0'])) ([], []) ⟨hn, by simp [flat], by simp [flat], rfl⟩
  exact this
end Go.Proofs.Ytnnpjaoddniifaa
