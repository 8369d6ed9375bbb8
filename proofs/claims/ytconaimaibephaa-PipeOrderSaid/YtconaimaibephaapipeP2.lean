/-
  What laws of the chapter pipe compute, and lemmas on it.
  No conditions.
-/
import Derived.Test.YtconaimaibephaapipeP
set_option linter.unusedSimpArgs false
set_option linter.unusedVariables false
namespace Go.Proofs.Ytconaimaibephaa
open Go Go.Sx
theorem taken_eq (p : Pipe) (x : GPost) (h : p.Items.length ≤ 1000000) : taskmillref_Taken p x = some ((gotR p x).1.Cap, (gotR p x).1.Items, (gotR p x).1.Closed, (gotR p x).1.Senders, (gotR p x).1.Getters, (gotR p x).2.Done, (gotR p x).2.Panic, (gotR p x).2.Ok, (gotR p x).2.Value, (gotR p x).2.Case, (gotR p x).2.Wakes) := by
  have j1 : ∀ it sd wk, it = gotI p → (it ≠ [] → sd = p.Senders.drop 1 ∧ wk = gotK p) → (it = [] → sd = p.Senders ∧ p.Items = [] ∧ wk = []) → taskmillref_Taken_j1 p x sd it wk = some ((gotR p x).1.Cap, (gotR p x).1.Items, (gotR p x).1.Closed, (gotR p x).1.Senders, (gotR p x).1.Getters, (gotR p x).2.Done, (gotR p x).2.Panic, (gotR p x).2.Ok, (gotR p x).2.Value, (gotR p x).2.Case, (gotR p x).2.Wakes) := by
    intro it sd wk h1 h2 h3
    unfold taskmillref_Taken_j1 gotR
    rw [← h1]
    cases it with
    | cons v r =>
      obtain ⟨rfl, rfl⟩ := h2 (by simp)
      have hct := cut_tail v r
      have hl : (0 : Int) < (((v :: r).length : Nat) : Int) := by rw [List.length_cons]; omega
      have hl1 : (1 : Int) ≤ (((v :: r).length : Nat) : Int) := by rw [List.length_cons]; omega
      simp only [hl, hl1, hct, cond_true, decide_true]
      simp [ix]
    | nil =>
      obtain ⟨rfl, hI, rfl⟩ := h3 rfl
      by_cases hc : p.Closed = true <;> simp [hc, hI, noA]
  have hb0 : p.Items.length * 8 ≤ 140737488355328 := by omega
  unfold taskmillref_Taken
  cases hs : p.Senders with
  | nil =>
    have hi : gotI p = p.Items := by simp [gotI, hs]
    have hk : gotK p = [] := by simp [gotK, hs]
    have := j1 p.Items [] [] hi.symm (fun _ => ⟨by simp [hs], hk.symm⟩) (fun h => ⟨hs.symm, h, rfl⟩)
    simpa [hb0] using this
  | cons s t =>
    have hi : gotI p = p.Items ++ [s.Value] := by simp [gotI, hs]
    have hk : gotK p = [⟨s.Task, s.Case, 0, false, false⟩] := by simp [gotK, hs]
    have := j1 (p.Items ++ [s.Value]) t [⟨s.Task, s.Case, 0, false, false⟩] hi.symm (fun _ => ⟨by simp [hs], hk.symm⟩) (fun h => by simp at h)
    have hct := cut_tail s t
    have hl : (0 : Int) < (((s :: t).length : Nat) : Int) := by rw [List.length_cons]; omega
    have hl1 : (1 : Int) ≤ (((s :: t).length : Nat) : Int) := by rw [List.length_cons]; omega
    have hb : (p.Items.length + 1) * 8 ≤ 140737488355328 := by omega
    simp only [hb0, hl, hl1, hct, cond_true, decide_true, List.length_append, List.length_singleton, hb]
    exact this
theorem got_total (p : Pipe) (x : GPost) : total (gotR p x).1 ≤ total p := by
  have hi : (gotI p).length + (p.Senders.drop 1).length ≤ p.Items.length + p.Senders.length := by
    unfold gotI
    cases p.Senders <;> simp; omega
  unfold gotR
  split
  · rename_i v r hg
    rw [hg] at hi
    simp only [List.length_cons] at hi
    unfold total
    dsimp only; omega
  · split <;> (dsimp only; omega)
theorem got_wakes (p : Pipe) (x : GPost) : (gotR p x).2.Wakes.length ≤ 1 := by
  unfold gotR gotK
  split
  · cases p.Senders <;> simp
  · split <;> simp [noA]
set_option maxHeartbeats 1000000 in
theorem gets (p : Pipe) (task : Int) (try' : Bool) (hp : Small p) : taskmilllaw_PipeGets p task try' = some true := by
  unfold taskmilllaw_PipeGets
  rw [begun_eq, vast_eq p hp]
  simp only [Option.bind_some, Bool.not_true, cond_false]
  by_cases h0 : 6000 < total p ∨ 800 < p.Senders.length + p.Getters.length
  · simp [h0]
  · have ht : total p ≤ 1000000 := by omega
    have ht' := ht
    unfold total at ht'
    rw [ownPipe_eq p ht]
    simp only [h0, decide_false, cond_false, Option.bind_some, pipe_eta, get_eq p task try' ht]
    unfold taskmilllaw_PipeGets_j1
    simp only [taken_eq p ⟨task, 0, 0⟩ (show p.Items.length ≤ 1000000 by omega), Option.bind_some, taskFault_eq p task ht, pipe_eta, answer_eta]
    rw [ownP_eq _ (by rw [got_getters]; omega)]
    have hs := got_getters p ⟨task, 0, 0⟩
    have hw := got_wakes p ⟨task, 0, 0⟩
    have hb : (p.Getters.length + 1) * 24 ≤ 140737488355328 := by omega
    have htp : total (gotR p ⟨task, 0, 0⟩).1 ≤ 10000 := by have := got_total p ⟨task, 0, 0⟩; omega
    rcases beginF_ok p task with ⟨_, _, hF⟩ | hF
    · cases hd : (gotR p ⟨task, 0, 0⟩).2.Done <;> cases try'
      · have htp2 : total ⟨(gotR p ⟨task, 0, 0⟩).1.Cap, (gotR p ⟨task, 0, 0⟩).1.Items, (gotR p ⟨task, 0, 0⟩).1.Closed, (gotR p ⟨task, 0, 0⟩).1.Senders, (gotR p ⟨task, 0, 0⟩).1.Getters ++ [⟨task, 0, 0⟩]⟩ ≤ 20000 := by
          unfold total at htp ⊢
          simp only [List.length_append, List.length_singleton]; omega
        simp only [getR, hF, hd, ne_eq, not_true_eq_false, if_false, and_self, if_true, Bool.not_false, Bool.and_self, cond_true, Option.bind_some]
        rw [hs]
        simp only [List.length_append, List.length_singleton, hb, decide_true, cond_true]
        rw [← hs, pipeAs_eq _ _ _ _ _ _ (by omega) (by omega)]
        simp
      · simp only [getR, hF, hd, ne_eq, not_true_eq_false, if_false, Bool.true_eq_false, and_false, Bool.not_true, Bool.and_false, cond_false, Option.bind_some, pipe_eta, answer_eta]
        rw [pipeAs_eq _ _ _ _ _ _ (by omega) (by omega)]
        simp
      · simp only [getR, hF, hd, ne_eq, not_true_eq_false, if_false, Bool.true_eq_false, false_and, Bool.not_true, Bool.false_and, cond_false, Option.bind_some, pipe_eta, answer_eta]
        rw [pipeAs_eq _ _ _ _ _ _ (by omega) (by omega)]
        simp
      · simp only [getR, hF, hd, ne_eq, not_true_eq_false, if_false, Bool.true_eq_false, false_and, Bool.not_true, Bool.false_and, cond_false, Option.bind_some, pipe_eta, answer_eta]
        rw [pipeAs_eq _ _ _ _ _ _ (by omega) (by omega)]
        simp
    · simp only [getR, hF, ne_eq, not_false_eq_true, if_true, Option.bind_some]
      have hz : ∀ q b, taskmilllaw_pipeAs ⟨noP.Cap, noP.Items, noP.Closed, noP.Senders, noP.Getters⟩ ⟨noA.Done, noA.Panic, noA.Ok, noA.Value, noA.Case, noA.Wakes⟩ (beginF p task) (beginF p task) q b = some true := fun q b => by
        rw [pipeAs_eq _ _ _ _ _ _ (by decide) (by decide)]
        simp [hF, noP, noA]
      rw [hs]
      simp only [List.length_append, List.length_singleton, hb, decide_true, cond_true, hz, Option.bind_some]
      cases (!(gotR p ⟨task, 0, 0⟩).2.Done && !try') <;> rfl
end Go.Proofs.Ytconaimaibephaa
