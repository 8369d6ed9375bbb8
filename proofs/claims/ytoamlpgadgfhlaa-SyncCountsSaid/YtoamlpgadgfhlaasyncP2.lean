/-
  What laws of the chapter sync compute, and lemmas on it.
  No conditions.
-/
import Derived.Test.YtoamlpgadgfhlaasyncP
set_option linter.unusedSimpArgs false
set_option linter.unusedVariables false
namespace Go.Proofs.Ytoamlpgadgfhlaa
open Go Go.Sx
/-! ### Waits -/
def addsOk (l : List Int) : Prop := ∀ x ∈ l, 1 ≤ x ∧ x ≤ 1000
theorem sum_bounds : ∀ (l : List Int), addsOk l → 0 ≤ l.sum ∧ l.sum ≤ 1000 * (l.length : Int)
  | [], _ => by simp
  | x :: l, h => by
    have h1 := h x (List.mem_cons_self ..)
    have h2 := sum_bounds l fun y hy => h y (List.mem_cons_of_mem _ hy)
    simp only [List.sum_cons, List.length_cons]
    omega
theorem sum_take_succ (l : List Int) (i : Nat) (h : i < l.length) : (l.take (i + 1)).sum = (l.take i).sum + l[i] := by
  rw [List.take_succ_eq_append_getElem h, List.sum_append]; simp
theorem waits (adds : List Int) (tasks : Int) : taskmilllaw_SyncWaits adds tasks = some true := by
  unfold taskmilllaw_SyncWaits
  rw [begun_eq]
  simp only [Option.bind_some, Bool.not_true, cond_false]
  by_cases h0 : 100 < adds.length ∨ tasks < 0 ∨ 50 < tasks
  · have : (decide ((100 : Int) < ((adds.length : Nat) : Int)) || (decide (tasks < 0) || decide (50 < tasks))) = true := by simp; omega
    simp [this]
  · have h0' : (decide ((100 : Int) < ((adds.length : Nat) : Int)) || (decide (tasks < 0) || decide (50 < tasks))) = false := by simp; omega
    simp only [h0', cond_false]
    obtain ⟨m, rfl⟩ := Int.eq_ofNat_of_zero_le (show 0 ≤ tasks by omega)
    have hm : m ≤ 50 := by omega
    have hal : adds.length ≤ 100 := by omega
    -- the groups on the way
    have okg : ∀ (c : Int) (k : Nat), 0 ≤ c → c ≤ 1000000000 → k ≤ 100 → (c = 0 → k = 0) → OkG ⟨c, seqL 0 k⟩ := fun c k h1 h2 h3 h4 =>
      ⟨okL_seq (by omega) (by omega), h1, h2, fun h => by have := h4 h; subst this; rfl⟩
    by_cases hA : addsOk adds
    · obtain ⟨hS0, hS1⟩ := sum_bounds adds hA
      have hpre : ∀ i, 0 ≤ (adds.take i).sum ∧ (adds.take i).sum ≤ 100000 := fun i => by
        obtain ⟨h1, h2⟩ := sum_bounds (adds.take i) fun x hx => hA x (List.mem_of_mem_take hx)
        have : (adds.take i).length ≤ adds.length := by rw [List.length_take]; omega
        omega
      have hsuf : ∀ i, 0 ≤ (adds.drop i).sum ∧ (i < adds.length → 0 < (adds.drop i).sum) := fun i => by
        obtain ⟨h1, _⟩ := sum_bounds (adds.drop i) fun x hx => hA x (List.mem_of_mem_drop hx)
        refine ⟨h1, fun hi => ?_⟩
        rw [List.drop_eq_getElem_cons hi, List.sum_cons]
        have := hA adds[i] (List.getElem_mem hi)
        obtain ⟨h2, _⟩ := sum_bounds (adds.drop (i + 1)) fun x hx => hA x (List.mem_of_mem_drop hx)
        omega
      have hsplit : ∀ i, (adds.take i).sum + (adds.drop i).sum = adds.sum := fun i => by rw [← List.sum_append, List.take_append_drop]
      have hS : 0 ≤ adds.sum ∧ adds.sum ≤ 100000 := by have := hpre adds.length; rwa [List.take_length] at this
      -- how many wait
      obtain ⟨q, hq⟩ : ∃ q : Nat, q = if adds.sum = 0 then 0 else m := ⟨_, rfl⟩
      have hqm : q ≤ 50 := by rw [hq]; split <;> omega
      have hq0 : adds.sum = 0 → q = 0 := fun h => by rw [hq, if_pos h]
      -- the last loop
      have l1 : loopO (taskmilllaw_SyncWaits_l1 adds (seqL 0 q)) (adds.sum, 0, adds.sum, seqL 0 q) = some true := by
        have key := loopO_all (step := taskmilllaw_SyncWaits_l1 adds (seqL 0 q)) (fun i => ((adds.drop i).sum, ((i : Nat) : Int), (adds.drop i).sum, if (adds.drop i).sum = 0 then [] else seqL 0 q)) (some true) adds.length (fun i hi => ?_) ?_
        · have e : (if adds.sum = 0 then [] else seqL 0 q) = seqL 0 q := by
            split
            · rename_i h; rw [hq0 h]; rfl
            · rfl
          simp only [List.drop_zero, e] at key
          exact key
        · have hd : (adds.drop i).sum = adds[i] + (adds.drop (i + 1)).sum := by rw [List.drop_eq_getElem_cons hi, List.sum_cons]
          have hx := hA adds[i] (List.getElem_mem hi)
          have hp := (hsuf i).2 hi
          have hn := (hsuf (i + 1)).1
          have hb := hsplit i
          have hb2 := hpre i
          rw [if_neg (show ¬ (adds.drop i).sum = 0 by omega)]
          have ok := okg (adds.drop i).sum q (by omega) (by omega) (by omega) (fun h => by omega)
          have hF : addF ⟨(adds.drop i).sum, seqL 0 q⟩ (0 - adds[i]) = ⟨0, 0⟩ := by
            have c1 : ¬ (0 - adds[i] < -1000000000 ∨ 1000000000 < 0 - adds[i]) := by omega
            have c2 : ¬ 1000000000 < (adds.drop i).sum + (0 - adds[i]) := by omega
            simp only [addF, groupF_of ok, ne_eq, not_true_eq_false, if_false, c1, c2]
          have hw : IntKind.i64.wrap (0 - adds[i]) = 0 - adds[i] := wrap_id (by omega) (by omega)
          have hsub : (adds.drop i).sum + (0 - adds[i]) = (adds.drop (i + 1)).sum := by omega
          have hsub' : IntKind.i64.wrap ((adds.drop i).sum - adds[i]) = (adds.drop (i + 1)).sum := by rw [wrap_id (by omega) (by omega)]; omega
          have c3 : ¬ (adds.drop (i + 1)).sum < 0 := by omega
          have c0 : decide ((0 : Int) ≤ ((i : Nat) : Int)) = true := by simp
          have ci : decide (((i : Nat) : Int) < ((adds.length : Nat) : Int)) = true := by simp; exact hi
          by_cases hz : (adds.drop (i + 1)).sum = 0
          · have hR : addR ⟨(adds.drop i).sum, seqL 0 q⟩ (0 - adds[i]) = (⟨0, []⟩, seqL 0 q, false, ⟨0, 0⟩) := by
              simp only [addR, hF, ne_eq, not_true_eq_false, if_false, hsub, c3, hz, if_true, Int.lt_irrefl]
            simp only [taskmilllaw_SyncWaits_l1, ix_get hi, hw, add_eq, hR, hsub', hz, c0, ci, Option.bind_some]
            rw [ints_eq _ _ (by rw [seq_len]; omega)]
            simp [taskmilllaw_SyncWaits_j2, ix_get hi, hsub', hz, wrap_n1 i (by omega)]
          · have hR : addR ⟨(adds.drop i).sum, seqL 0 q⟩ (0 - adds[i]) = (⟨(adds.drop (i + 1)).sum, seqL 0 q⟩, [], false, ⟨0, 0⟩) := by
              simp only [addR, hF, ne_eq, not_true_eq_false, if_false, hsub, c3, hz]
            have hp1 : 0 < (adds.drop (i + 1)).sum := by omega
            have hz' : ((adds.drop (i + 1)).sum == 0) = false := by simpa using hz
            simp only [taskmilllaw_SyncWaits_l1, ix_get hi, hw, add_eq, hR, hsub', c0, ci, hp1, hz', Option.bind_some]
            simp [taskmilllaw_SyncWaits_j2, ix_get hi, hsub', hz, wrap_n1 i (by omega)]
        · have he : (adds.drop adds.length).sum = 0 := by simp
          have ok := okg 0 0 (by omega) (by omega) (by omega) (fun _ => rfl)
          have ok' : OkG ⟨0, []⟩ := ok
          have hF : addF ⟨0, []⟩ (-1) = ⟨0, 0⟩ := by simp [addF, groupF_of ok']
          have hR : addR ⟨0, []⟩ (-1) = (⟨0, []⟩, [], true, ⟨0, 0⟩) := by simp [addR, hF]
          simp only [taskmilllaw_SyncWaits_l1, Int.lt_irrefl, decide_false, cond_false, he, if_true, add_eq, hR, Option.bind_some]
          rw [sameGroup_mk _ _ _ _ (by simp)]
          simp [taskmilllaw_SyncWaits_j3]
      -- those that wait
      have l2 : loopO (taskmilllaw_SyncWaits_l2 adds (m : Int) adds.sum) (1, adds.sum, [], []) = some true := by
        have key := loopO_all (step := taskmilllaw_SyncWaits_l2 adds (m : Int) adds.sum) (fun t => (((t : Nat) : Int) + 1, adds.sum, (if adds.sum = 0 then [] else seqL 0 t), (if adds.sum = 0 then [] else seqL 0 t))) (some true) m (fun t ht => ?_) ?_
        · have e : (if adds.sum = 0 then ([] : List Int) else seqL 0 0) = [] := by split <;> rfl
          simp only [e] at key
          exact key
        · have hle : ((t : Nat) : Int) + 1 ≤ (m : Int) := by omega
          have hwt : IntKind.i64.wrap (((t : Nat) : Int) + 1 + 1) = ((t + 1 : Nat) : Int) + 1 := by rw [wrap_id (by omega) (by omega)]; omega
          by_cases hz : adds.sum = 0
          · have ok : OkG ⟨0, []⟩ := okg 0 0 (by omega) (by omega) (by omega) (fun _ => rfl)
            have hc : comeF [] (((t : Nat) : Int) + 1) = ⟨0, 0⟩ := comeF_of (by omega) (by simp) (by simp)
            have hR : awaitR ⟨0, []⟩ (((t : Nat) : Int) + 1) = (⟨0, []⟩, true, ⟨0, 0⟩) := by simp [awaitR, awaitF, groupF_of ok, hc]
            simp only [taskmilllaw_SyncWaits_l2, hz, if_true, await_eq, hR, hle, Option.bind_some]
            simp [taskmilllaw_SyncWaits_j1, hwt]
          · have ok := okg adds.sum t (by omega) (by omega) (by omega) (fun h => absurd h hz)
            have hc : comeF (seqL 0 t) (((t : Nat) : Int) + 1) = ⟨0, 0⟩ := comeF_of (by omega) (fun hm => by have := mem_seq.1 hm; omega) (by rw [seq_len]; omega)
            have hs : seqL 0 t ++ [((t : Nat) : Int) + 1] = seqL 0 (t + 1) := by rw [seq_succ]; congr 2; omega
            have hR : awaitR ⟨adds.sum, seqL 0 t⟩ (((t : Nat) : Int) + 1) = (⟨adds.sum, seqL 0 (t + 1)⟩, false, ⟨0, 0⟩) := by
              simp only [awaitR, awaitF, groupF_of ok, hc, ne_eq, not_true_eq_false, if_false, hz, hs]
            have hz' : (adds.sum == 0) = false := by simpa using hz
            have hb : (t + 1) * 8 ≤ 140737488355328 := by omega
            simp only [taskmilllaw_SyncWaits_l2, hz, if_false, await_eq, hR, hle, hz', hs, seq_len, hb, Option.bind_some]
            simp [taskmilllaw_SyncWaits_j1, hwt]
        · have hle : ¬ ((m : Nat) : Int) + 1 ≤ (m : Int) := by omega
          have e : (if adds.sum = 0 then ([] : List Int) else seqL 0 m) = seqL 0 q := by
            rw [hq]; split <;> rfl
          simp only [taskmilllaw_SyncWaits_l2, hle, decide_false, cond_false, e, l1]
      -- what is added
      have key := loopO_all (step := taskmilllaw_SyncWaits_l3 adds (m : Int)) (fun i => ((adds.take i).sum, ((i : Nat) : Int), (adds.take i).sum, ([] : List Int))) (some true) adds.length (fun i hi => ?_) ?_
      · exact key
      · have hx := hA adds[i] (List.getElem_mem hi)
        have hb := hpre i
        have hb2 := hpre (i + 1)
        have hst := sum_take_succ adds i hi
        have ok : OkG ⟨(adds.take i).sum, []⟩ := okg (adds.take i).sum 0 (by omega) (by omega) (by omega) (fun _ => rfl)
        have hF : addF ⟨(adds.take i).sum, []⟩ adds[i] = ⟨0, 0⟩ := by
          have c1 : ¬ (adds[i] < -1000000000 ∨ 1000000000 < adds[i]) := by omega
          have c2 : ¬ 1000000000 < (adds.take i).sum + adds[i] := by omega
          simp only [addF, groupF_of ok, ne_eq, not_true_eq_false, if_false, c1, c2]
        have hR : addR ⟨(adds.take i).sum, []⟩ adds[i] = (⟨(adds.take (i + 1)).sum, []⟩, [], false, ⟨0, 0⟩) := by
          have c3 : ¬ (adds.take i).sum + adds[i] < 0 := by omega
          have c4 : ¬ (adds.take i).sum + adds[i] = 0 := by omega
          simp only [addR, hF, ne_eq, not_true_eq_false, if_false, c3, c4, hst]
        have c0 : decide ((0 : Int) ≤ ((i : Nat) : Int)) = true := by simp
        have ci : decide (((i : Nat) : Int) < ((adds.length : Nat) : Int)) = true := by simp; exact hi
        have d1 : ¬ adds[i] < 1 := by omega
        have d2 : ¬ 1000 < adds[i] := by omega
        have hw : IntKind.i64.wrap ((adds.take i).sum + adds[i]) = (adds.take (i + 1)).sum := by rw [wrap_id (by omega) (by omega), hst]
        simp only [taskmilllaw_SyncWaits_l3, ix_get hi, c0, ci, d1, d2, add_eq, hR, hw, Option.bind_some]
        simp [wrap_n1 i (by omega)]
      · simp only [taskmilllaw_SyncWaits_l3, Int.lt_irrefl, decide_false, cond_false, List.take_length, l2]
    · -- a number is out of bounds
      have key := loopO_inv (step := taskmilllaw_SyncWaits_l3 adds (m : Int)) (fun s => ∃ i : Nat, i ≤ adds.length ∧ addsOk (adds.take i) ∧ s = ((adds.take i).sum, ((i : Nat) : Int), (adds.take i).sum, ([] : List Int))) (fun s => adds.length - s.2.1.toNat) (fun r => r = true) ?_ (s0 := (0, 0, 0, [])) ⟨0, Nat.zero_le _, (fun x hx => by simp at hx), rfl⟩
      · obtain ⟨r, h1, h2⟩ := key
        rw [h1, h2]
      · rintro _ ⟨i, hi0, hok, rfl⟩
        have hi : i < adds.length := by
          rcases Nat.lt_or_ge i adds.length with h | h
          · exact h
          · rw [List.take_of_length_le h] at hok; exact absurd hok hA
        have c0 : decide ((0 : Int) ≤ ((i : Nat) : Int)) = true := by simp
        have ci : decide (((i : Nat) : Int) < ((adds.length : Nat) : Int)) = true := by simp; exact hi
        by_cases hx : 1 ≤ adds[i] ∧ adds[i] ≤ 1000
        · left
          obtain ⟨h1, h2⟩ := sum_bounds _ hok
          have hlt : (adds.take i).length ≤ 100 := by rw [List.length_take]; omega
          have hst := sum_take_succ adds i hi
          have ok : OkG ⟨(adds.take i).sum, []⟩ := okg (adds.take i).sum 0 (by omega) (by omega) (by omega) (fun _ => rfl)
          have hF : addF ⟨(adds.take i).sum, []⟩ adds[i] = ⟨0, 0⟩ := by
            have c1 : ¬ (adds[i] < -1000000000 ∨ 1000000000 < adds[i]) := by omega
            have c2 : ¬ 1000000000 < (adds.take i).sum + adds[i] := by omega
            simp only [addF, groupF_of ok, ne_eq, not_true_eq_false, if_false, c1, c2]
          have hR : addR ⟨(adds.take i).sum, []⟩ adds[i] = (⟨(adds.take (i + 1)).sum, []⟩, [], false, ⟨0, 0⟩) := by
            have c3 : ¬ (adds.take i).sum + adds[i] < 0 := by omega
            have c4 : ¬ (adds.take i).sum + adds[i] = 0 := by omega
            simp only [addR, hF, ne_eq, not_true_eq_false, if_false, c3, c4, hst]
          have d1 : ¬ adds[i] < 1 := by omega
          have d2 : ¬ 1000 < adds[i] := by omega
          have hw : IntKind.i64.wrap ((adds.take i).sum + adds[i]) = (adds.take (i + 1)).sum := by rw [wrap_id (by omega) (by omega), hst]
          refine ⟨((adds.take (i + 1)).sum, ((i + 1 : Nat) : Int), (adds.take (i + 1)).sum, []), ?_, ⟨i + 1, hi, fun x hm => ?_, rfl⟩, ?_⟩
          · simp only [taskmilllaw_SyncWaits_l3, ix_get hi, c0, ci, d1, d2, add_eq, hR, hw, Option.bind_some]
            simp [wrap_n1 i (by omega)]
          · rw [List.take_succ_eq_append_getElem hi] at hm
            rcases List.mem_append.1 hm with hm | hm
            · exact hok x hm
            · simp only [List.mem_singleton] at hm; subst hm; exact hx
          · simp only [Int.toNat_natCast]; omega
        · right
          have hd : (decide (adds[i] < 1) || decide ((1000 : Int) < adds[i])) = true := by simp; omega
          refine ⟨true, ?_, rfl⟩
          simp only [taskmilllaw_SyncWaits_l3, ix_get hi, c0, ci, hd]
          cases decide (adds[i] < 1) <;> rfl
/-! ### Counts -/
theorem giveR_suffix : ∀ (l : List Want) (f : Int), (giveR f l).2.2 <:+ l
  | [], f => List.suffix_refl _
  | w :: r, f => by
    unfold giveR
    split
    · exact (giveR_suffix r (f - w.N)).trans (List.suffix_cons _ _)
    · exact List.suffix_refl _
theorem giveR_free : ∀ (l : List Want) (f : Int), (∀ w ∈ l, 1 ≤ w.N) → 0 ≤ f → 0 ≤ (giveR f l).2.1 ∧ (giveR f l).2.1 ≤ f
  | [], f, _, h => ⟨h, Int.le_refl _⟩
  | w :: r, f, hw, h => by
    unfold giveR
    split
    · have h1 := hw w (List.mem_cons_self ..)
      have := giveR_free r (f - w.N) (fun x hx => hw x (List.mem_cons_of_mem _ hx)) (by omega)
      exact ⟨this.1, by have := this.2; show (giveR (f - w.N) r).2.1 ≤ f; omega⟩
    · exact ⟨h, Int.le_refl _⟩
theorem giveR_head : ∀ (l : List Want) (f : Int), headIn ⟨(giveR f l).2.1, (giveR f l).2.2⟩ = false
  | [], f => rfl
  | w :: r, f => by
    unfold giveR
    split
    · exact giveR_head r (f - w.N)
    · rename_i h; simp [headIn, h]
theorem giveR_sum (wt : Int → Int) : ∀ (l : List Want) (f : Int), (∀ w ∈ l, wt w.Task = w.N) → ((giveR f l).1.map wt).sum = f - (giveR f l).2.1
  | [], f, _ => by simp [giveR]
  | w :: r, f, hw => by
    have h1 := hw w (List.mem_cons_self ..)
    unfold giveR
    split
    · have := giveR_sum wt r (f - w.N) fun x hx => hw x (List.mem_cons_of_mem _ hx)
      simp only [List.map_cons, List.sum_cons, this, h1]
      omega
    · simp
/-- Those who got theirs are gone through. -/
theorem counts_in (free : Int) (moves wants : List Int) (i : Nat) (released f : Int) (line : List Want) (who : List Int) (got last : Int) (hw1 : who.Pairwise (· < ·)) (hw2 : ∀ x ∈ who, last < x ∧ 1 ≤ x ∧ x ≤ (moves.length : Int)) (hwl : wants.length = moves.length + 1) (hml : moves.length ≤ 200)
    (hb : ∀ x, 0 ≤ ix wants x ∧ ix wants x ≤ 1000) (hg : 0 ≤ got ∧ got ≤ 1000000) (hwho : who.length ≤ 1000) (hi : i ≤ 1000) (hf0 : 0 ≤ f ∧ f ≤ 1000000) (hfr : -1000000 ≤ free ∧ free ≤ 1000000 ∧ -1000000 ≤ released ∧ released ≤ 1000000) (hsum : f + (got + (who.map (ix wants)).sum) = free + released) (hh : headIn ⟨f, line⟩ = false) :
    loopO (taskmilllaw_SyncCounts_l1 free moves (i : Int) released f wants who line) (got, last, 0) = some (Sum.inl (got + (who.map (ix wants)).sum, released, who.getLastD last, ((i + 1 : Nat) : Int), f, wants, line)) := by
  have hsb : ∀ k, 0 ≤ ((who.take k).map (ix wants)).sum ∧ ((who.take k).map (ix wants)).sum ≤ 1000000 := fun k => by
    have gen : ∀ l : List Int, l.length ≤ 1000 → 0 ≤ (l.map (ix wants)).sum ∧ (l.map (ix wants)).sum ≤ 1000 * (l.length : Int) := by
      intro l
      induction l with
      | nil => intro _; simp
      | cons x l ih =>
        intro hl
        have := ih (by simp at hl; omega)
        have := hb x
        simp only [List.map_cons, List.sum_cons, List.length_cons]
        omega
    have hl : (who.take k).length ≤ 1000 := by rw [List.length_take]; omega
    have := gen _ hl
    omega
  have key := loopO_all (step := taskmilllaw_SyncCounts_l1 free moves (i : Int) released f wants who line) (fun k => (got + ((who.take k).map (ix wants)).sum, (who.take k).getLastD last, ((k : Nat) : Int))) (some (Sum.inl (got + (who.map (ix wants)).sum, released, who.getLastD last, ((i + 1 : Nat) : Int), f, wants, line))) who.length (fun k hk => ?_) ?_
  · simpa using key
  · have hx := hw2 who[k] (List.getElem_mem hk)
    have hlast : (who.take k).getLastD last < who[k] := by
      cases hl : (who.take k).getLast? with
      | none =>
        have : who.take k = [] := by simpa using hl
        rw [this]; exact hx.1
      | some y =>
        have hy : y ∈ who.take k := List.mem_of_getLast? hl
        have e : (who.take k).getLastD last = y := by rw [List.getLastD_eq_getLast?, hl]; rfl
        rw [e]
        obtain ⟨j, hj, he⟩ := List.mem_take_iff_getElem.1 hy
        have := (List.pairwise_iff_getElem.1 hw1) j k (by omega) hk (by omega)
        rw [he] at this; exact this
    have c1 : ¬ who[k] ≤ (who.take k).getLastD last := by omega
    have c2 : ¬ ((moves.length : Nat) : Int) < who[k] := by omega
    have c3 : (0 : Int) ≤ who[k] := by omega
    have c4 : who[k] < ((wants.length : Nat) : Int) := by rw [hwl]; omega
    have c0 : decide ((0 : Int) ≤ ((k : Nat) : Int)) = true := by simp
    have ck : decide (((k : Nat) : Int) < ((who.length : Nat) : Int)) = true := by simp; exact hk
    have hs := hsb k
    have hbx := hb who[k]
    have hgot : IntKind.i64.wrap (got + ((who.take k).map (ix wants)).sum + ix wants who[k]) = got + ((who.take (k + 1)).map (ix wants)).sum := by
      rw [wrap_id (by omega) (by omega), List.take_succ_eq_append_getElem hk]
      simp only [List.map_append, List.sum_append, List.map_cons, List.map_nil, List.sum_cons, List.sum_nil]
      omega
    have hl2 : (who.take (k + 1)).getLastD last = who[k] := by rw [List.take_succ_eq_append_getElem hk, List.getLastD_concat]
    simp only [taskmilllaw_SyncCounts_l1, ix_get hk, c0, ck, c1, c2, c3, c4, hgot, hl2, decide_true, decide_false]
    simp [wrap_n1 k (by omega)]
  · have hs := hsb who.length
    rw [List.take_length] at hs
    have c5 : IntKind.i64.wrap (f + (got + (who.map (ix wants)).sum)) = free + released := by rw [wrap_id (by omega) (by omega), hsum]
    have c6 : IntKind.i64.wrap (free + released) = free + released := wrap_id (by omega) (by omega)
    have c7 : ¬ f < 0 := by omega
    have hh' := headIn_eq ⟨f, line⟩
    simp only at hh'
    rw [hh] at hh'
    simp only [taskmilllaw_SyncCounts_l1, List.take_length, Int.lt_irrefl, decide_false, cond_false, c5, c6, c7, hh', bne_self_eq_false, Bool.or_self]
    cases decide ((0 : Int) < ((line.length : Nat) : Int)) <;> simp [wrap_n1 i (by omega)]
/-- What holds between the moves. -/
structure CInv (free : Int) (moves : List Int) (i : Nat) (got released last f : Int) (wants : List Int) (line : List Want) : Prop where
  ok : OkS ⟨f, line⟩
  sum : f + got = free + released
  rel : 0 ≤ released ∧ released ≤ 1000 * (i : Int)
  got0 : 0 ≤ got
  lasti : 0 ≤ last ∧ last ≤ (i : Int)
  inc : (tasksOf line).Pairwise (· < ·)
  mem : ∀ w ∈ line, last < w.Task ∧ w.Task ≤ (i : Int) ∧ ix wants w.Task = w.N
  wl : wants.length = moves.length + 1
  wb : ∀ x, 0 ≤ ix wants x ∧ ix wants x ≤ 1000
  len : line.length ≤ i
theorem ix_set (l : List Int) (j : Nat) (v x : Int) (hj : j < l.length) (hx : 0 ≤ x) : ix (l.set j v) x = if x = (j : Int) then v else ix l x := by
  obtain ⟨k, rfl⟩ := Int.eq_ofNat_of_zero_le hx
  simp only [ix, Int.toNat_natCast, List.getD_eq_getElem?_getD, List.getElem?_set]
  by_cases h : j = k
  · subst h; simp [hj]
  · have h' : ¬ (k : Int) = (j : Int) := by omega
    simp [h, h']
theorem ix_set_b (l : List Int) (j : Nat) (v : Int) (hl : ∀ x, 0 ≤ ix l x ∧ ix l x ≤ 1000) (hv : 0 ≤ v ∧ v ≤ 1000) : ∀ x, 0 ≤ ix (l.set j v) x ∧ ix (l.set j v) x ≤ 1000 := by
  intro x
  have h := hl x
  simp only [ix, List.getD_eq_getElem?_getD, List.getElem?_set] at h ⊢
  split
  · split
    · simpa using hv
    · rename_i h1 h2
      rw [List.getElem?_eq_none (by omega)] at h
      simp
  · exact h
theorem counts (free : Int) (moves : List Int) : taskmilllaw_SyncCounts free moves = some true := by
  unfold taskmilllaw_SyncCounts
  rw [begun_eq]
  simp only [Option.bind_some, Bool.not_true, cond_false]
  by_cases h0 : free < 0 ∨ 1000 < free ∨ 200 < moves.length
  · have : (decide (free < 0) || (decide (1000 < free) || decide ((200 : Int) < ((moves.length : Nat) : Int)))) = true := by simp; omega
    simp [this]
  · have h0' : (decide (free < 0) || (decide (1000 < free) || decide ((200 : Int) < ((moves.length : Nat) : Int)))) = false := by simp; omega
    have hml : moves.length ≤ 200 := by omega
    have hw1 : IntKind.i64.wrap (((moves.length : Nat) : Int) + 1) = ((moves.length + 1 : Nat) : Int) := wrap_n1 _ (by omega)
    have hmk : (0 ≤ ((moves.length + 1 : Nat) : Int) ∧ ((moves.length + 1 : Nat) : Int) ≤ 4611686018427387904 ∧ (8 : Int) * ((moves.length + 1 : Nat) : Int) ≤ 140737488355328) := by omega
    simp only [h0', cond_false, hw1, hmk, and_self, decide_true, cond_true, Int.toNat_natCast]
    have hz : ∀ x, ix (List.replicate (moves.length + 1) (default : Int)) x = 0 := fun x => by
      simp only [ix, List.getD_eq_getElem?_getD, List.getElem?_replicate]
      split <;> rfl
    have key := loopO_inv (step := taskmilllaw_SyncCounts_l2 free moves) (fun s => ∃ i : Nat, i ≤ moves.length ∧ s.2.2.2.1 = (i : Int) ∧ CInv free moves i s.1 s.2.1 s.2.2.1 s.2.2.2.2.1 s.2.2.2.2.2.1 s.2.2.2.2.2.2) (fun s => moves.length - s.2.2.2.1.toNat) (fun r => r = true) ?_ (s0 := (0, 0, 0, 0, free, List.replicate (moves.length + 1) (default : Int), []))
      ⟨0, Nat.zero_le _, rfl, ⟨⟨by simp, by show 0 ≤ free; omega, by show free ≤ _; omega, rfl, by simp, by simp, by simp, by simp [tasksOf]⟩, by show free + 0 = free + 0; rfl, by simp, by simp, by simp, by simp [tasksOf], by simp, by simp, fun x => by rw [hz x]; omega, by simp⟩⟩
    · obtain ⟨r, h1, h2⟩ := key
      rw [h1, h2]
    · rintro ⟨got, released, last, _, f, wants, line⟩ ⟨i, hil, rfl, hK⟩
      simp only at hK ⊢
      have hrel := hK.rel
      have hgot := hK.got0
      have hsum := hK.sum
      have hlasti := hK.lasti
      have hlen := hK.len
      have hlo : 0 ≤ f := hK.ok.lo
      by_cases hi : i < moves.length
      · have c0 : decide ((0 : Int) ≤ ((i : Nat) : Int)) = true := by simp
        have ci : decide (((i : Nat) : Int) < ((moves.length : Nat) : Int)) = true := by simp; exact hi
        by_cases hbnd : 1000 < moves[i] ∨ moves[i] < -1000
        · right
          have hb : (decide (1000 < moves[i]) || decide (moves[i] < -1000)) = true := by simpa using hbnd
          refine ⟨true, ?_, rfl⟩
          simp only [taskmilllaw_SyncCounts_l2, ix_get hi, c0, ci, hb]
          rfl
        · left
          have hb : (decide (1000 < moves[i]) || decide (moves[i] < -1000)) = false := by simp at hbnd ⊢; omega
          have hwi : IntKind.i64.wrap (((i : Nat) : Int) + 1) = ((i + 1 : Nat) : Int) := wrap_n1 i (by omega)
          by_cases hpos : 0 < moves[i]
          · -- one more wants
            have hF : acqF ⟨f, line⟩ ((i + 1 : Nat) : Int) moves[i] = ⟨0, 0⟩ := by
              have d1 : ¬ (((i + 1 : Nat) : Int) < 1 ∨ moves[i] < 1 ∨ 1000000000 < moves[i]) := by omega
              have d2 : ((i + 1 : Nat) : Int) ∉ tasksOf line := fun hm => by
                obtain ⟨w, hw, e⟩ := List.mem_map.1 hm
                have := (hK.mem w hw).2.1; omega
              have d3 : ¬ line.length = 5000 := by omega
              simp only [acqF, semaF_of hK.ok, ne_eq, not_true_eq_false, if_false, d1, d2, d3]
            have hc4 : decide (((i + 1 : Nat) : Int) < ((wants.length : Nat) : Int)) = true := by rw [hK.wl]; simp; exact hi
            have hc5 : decide ((0 : Int) ≤ ((i + 1 : Nat) : Int)) = true := by simp; omega
            have hwl' : (wants.set (i + 1) moves[i]).length = moves.length + 1 := by rw [List.length_set]; exact hK.wl
            have hwb' := ix_set_b wants (i + 1) moves[i] hK.wb (by omega)
            have hwx : ix (wants.set (i + 1) moves[i]) ((i + 1 : Nat) : Int) = moves[i] := by rw [ix_set _ _ _ _ (by rw [hK.wl]; omega) (by omega)]; simp
            have hwo : ∀ x : Int, 0 ≤ x → x ≤ (i : Int) → ix (wants.set (i + 1) moves[i]) x = ix wants x := fun x h1 h2 => by
              rw [ix_set _ _ _ _ (by rw [hK.wl]; omega) h1, if_neg (by omega)]
            have hpos' : decide (0 < moves[i]) = true := by simpa using hpos
            by_cases hm : ((i + 1 : Nat) : Int) ∈ (acqG ⟨f, line⟩ ((i + 1 : Nat) : Int) moves[i]).1
            · -- .. and gets it
              have hline : line = [] := by
                cases hl : line with
                | nil => rfl
                | cons w r =>
                  have hh := hK.ok.head
                  rw [hl] at hh hm
                  simp only [headIn, decide_eq_false_iff_not] at hh
                  simp [acqG, giveR, hh] at hm
              subst hline
              have hG : acqG ⟨f, []⟩ ((i + 1 : Nat) : Int) moves[i] = ([((i + 1 : Nat) : Int)], f - moves[i], []) ∧ moves[i] ≤ f := by
                unfold acqG at hm ⊢
                simp only [List.nil_append, giveR] at hm ⊢
                split at hm
                · rename_i h; exact ⟨by simp [h], h⟩
                · simp at hm
              have hR : acqR ⟨f, []⟩ ((i + 1 : Nat) : Int) moves[i] false = (⟨f - moves[i], []⟩, true, ⟨0, 0⟩) := by
                have hm' := hm
                rw [hG.1] at hm'
                simp only [acqR, hF, hG.1, ne_eq, not_true_eq_false, if_false, hm', if_true]
              have hin := counts_in free moves (wants.set (i + 1) moves[i]) i released (f - moves[i]) [] [((i + 1 : Nat) : Int)] got last (by simp) (fun x hx => by simp only [List.mem_singleton] at hx; omega) hwl' hml hwb' (by omega) (by simp) (by omega) (by omega) (by omega) (by simp only [List.map_cons, List.map_nil, List.sum_cons, List.sum_nil, hwx]; omega) rfl
              refine ⟨(got + ([((i + 1 : Nat) : Int)].map (ix (wants.set (i + 1) moves[i]))).sum, released, ((i + 1 : Nat) : Int), ((i + 1 : Nat) : Int), f - moves[i], wants.set (i + 1) moves[i], []), ?_, ⟨i + 1, hi, rfl, ⟨⟨by simp, by show 0 ≤ f - moves[i]; omega, by show f - moves[i] ≤ 1000000000; omega, rfl, by simp, by simp, by simp, by simp [tasksOf]⟩, ?_, by show 0 ≤ released ∧ released ≤ _; omega, ?_, ?_, by simp [tasksOf], by simp, hwl', hwb', by simp⟩⟩, ?_⟩
              · simp only [taskmilllaw_SyncCounts_l2, ix_get hi, c0, ci, hb, hpos', hwi, hc4, hc5, acquire_eq, hR, taskmilllaw_SyncCounts_j2, taskmilllaw_SyncCounts_j1, Int.toNat_natCast]
                simp only [Option.bind_some, Bool.and_self, cond_true, cond_false, bne_self_eq_false]
                exact hin
              · show f - moves[i] + (got + ([((i + 1 : Nat) : Int)].map (ix (wants.set (i + 1) moves[i]))).sum) = free + released
                simp only [List.map_cons, List.map_nil, List.sum_cons, List.sum_nil, hwx]; omega
              · show 0 ≤ got + ([((i + 1 : Nat) : Int)].map (ix (wants.set (i + 1) moves[i]))).sum
                simp only [List.map_cons, List.map_nil, List.sum_cons, List.sum_nil, hwx]; omega
              · show 0 ≤ ((i + 1 : Nat) : Int) ∧ ((i + 1 : Nat) : Int) ≤ ((i + 1 : Nat) : Int); omega
              · simp only [Int.toNat_natCast]; omega
            · -- .. and waits
              have hG := acqG_out hK.ok hm
              have hR : acqR ⟨f, line⟩ ((i + 1 : Nat) : Int) moves[i] false = (⟨f, line ++ [⟨((i + 1 : Nat) : Int), false, moves[i]⟩]⟩, false, ⟨0, 0⟩) := by
                simp only [acqR, hF, hG, ne_eq, not_true_eq_false, if_false, List.not_mem_nil, Bool.false_eq_true]
              have hh2 : headIn ⟨f, line ++ [⟨((i + 1 : Nat) : Int), false, moves[i]⟩]⟩ = false := by
                have := giveR_head (line ++ [⟨((i + 1 : Nat) : Int), false, moves[i]⟩]) f
                have hG' : giveR f (line ++ [⟨((i + 1 : Nat) : Int), false, moves[i]⟩]) = ([], f, line ++ [⟨((i + 1 : Nat) : Int), false, moves[i]⟩]) := hG
                rw [hG'] at this; exact this
              have hin := counts_in free moves (wants.set (i + 1) moves[i]) i released f (line ++ [⟨((i + 1 : Nat) : Int), false, moves[i]⟩]) [] got last (by simp) (by simp) hwl' hml hwb' (by omega) (by simp) (by omega) (by omega) (by omega) (by simpa using hsum) hh2
              have htl : tasksOf (line ++ [(⟨((i + 1 : Nat) : Int), false, moves[i]⟩ : Want)]) = tasksOf line ++ [((i + 1 : Nat) : Int)] := by simp [tasksOf]
              have hlt : ∀ x ∈ tasksOf line, x < ((i + 1 : Nat) : Int) := fun x hx => by
                obtain ⟨w, hw, e⟩ := List.mem_map.1 hx
                have := (hK.mem w hw).2.1; omega
              have hmem : ∀ w ∈ line ++ [(⟨((i + 1 : Nat) : Int), false, moves[i]⟩ : Want)], w ∈ line ∨ w = ⟨((i + 1 : Nat) : Int), false, moves[i]⟩ := fun w hw => by simpa using hw
              refine ⟨(got + (([] : List Int).map (ix (wants.set (i + 1) moves[i]))).sum, released, last, ((i + 1 : Nat) : Int), f, wants.set (i + 1) moves[i], line ++ [⟨((i + 1 : Nat) : Int), false, moves[i]⟩]), ?_, ⟨i + 1, hi, rfl, ⟨⟨by show (line ++ _).length ≤ 5000; simp; omega, hlo, hK.ok.hi, hh2, fun w hw => ?_, fun w hw => ?_, fun w hw => ?_, ?_⟩, by simpa using hsum, by show 0 ≤ released ∧ released ≤ _; omega, by simpa using hgot, by show 0 ≤ last ∧ last ≤ _; omega, ?_, fun w hw => ?_, hwl', hwb', by simp; omega⟩⟩, by simp only [Int.toNat_natCast]; omega⟩
              · simp only [taskmilllaw_SyncCounts_l2, ix_get hi, c0, ci, hb, hpos', hwi, hc4, hc5, acquire_eq, hR, taskmilllaw_SyncCounts_j2, taskmilllaw_SyncCounts_j1, Int.toNat_natCast]
                simp only [Option.bind_some, Bool.and_self, cond_true, cond_false, bne_self_eq_false]
                exact hin
              · rcases hmem w hw with h | rfl
                · exact hK.ok.task w h
                · show 1 ≤ ((i + 1 : Nat) : Int); omega
              · rcases hmem w hw with h | rfl
                · exact hK.ok.num w h
                · show 1 ≤ moves[i] ∧ moves[i] ≤ 1000000000; omega
              · rcases hmem w hw with h | rfl
                · exact hK.ok.kind w h
                · rfl
              · show (tasksOf (line ++ _)).Nodup
                rw [htl, List.nodup_append]
                exact ⟨hK.ok.nodup, by simp, fun x hx y hy => by simp only [List.mem_singleton] at hy; have := hlt x hx; omega⟩
              · show (tasksOf (line ++ _)).Pairwise (· < ·)
                rw [htl, List.pairwise_append]
                exact ⟨hK.inc, by simp, fun x hx y hy => by simp only [List.mem_singleton] at hy; have := hlt x hx; omega⟩
              · rcases hmem w hw with h | rfl
                · have := hK.mem w h
                  refine ⟨this.1, by show w.Task ≤ ((i + 1 : Nat) : Int); omega, ?_⟩
                  show ix (wants.set (i + 1) moves[i]) w.Task = w.N
                  rw [hwo _ (by omega) this.2.1]; exact this.2.2
                · exact ⟨by show last < ((i + 1 : Nat) : Int); omega, by show ((i + 1 : Nat) : Int) ≤ ((i + 1 : Nat) : Int); omega, hwx⟩
          · -- something is released
            have hpos' : decide (0 < moves[i]) = false := by simp; omega
            have hwn : IntKind.i64.wrap (0 - moves[i]) = 0 - moves[i] := wrap_id (by omega) (by omega)
            have hwr : IntKind.i64.wrap (released - moves[i]) = released - moves[i] := wrap_id (by omega) (by omega)
            have hF : relF ⟨f, line⟩ (0 - moves[i]) = ⟨0, 0⟩ := by
              have d1 : ¬ (0 - moves[i] < 0 ∨ 1000000000 < 0 - moves[i]) := by omega
              have d2 : ¬ 1000000000 < f + (0 - moves[i]) := by omega
              simp only [relF, semaF_of hK.ok, ne_eq, not_true_eq_false, if_false, d1, d2]
            obtain ⟨G, hGd⟩ : ∃ G, G = giveR (f + (0 - moves[i])) line := ⟨_, rfl⟩
            have hR : relR ⟨f, line⟩ (0 - moves[i]) = (⟨G.2.1, G.2.2⟩, G.1, ⟨0, 0⟩) := by
              simp only [relR, hF, ne_eq, not_true_eq_false, if_false, hGd]
            have hsp : tasksOf line = G.1 ++ tasksOf G.2.2 := by rw [hGd]; exact giveR_split line _
            have hgl : G.1.length + G.2.2.length = line.length := by rw [hGd]; exact giveR_len line _
            have hgf := giveR_free line (f + (0 - moves[i])) (fun w hw => (hK.ok.num w hw).1) (by omega)
            rw [← hGd] at hgf
            have hgs := giveR_sum (ix wants) line (f + (0 - moves[i])) (fun w hw => (hK.mem w hw).2.2)
            rw [← hGd] at hgs
            have hgh : headIn ⟨G.2.1, G.2.2⟩ = false := by rw [hGd]; exact giveR_head line _
            have hsuf : ∀ w ∈ G.2.2, w ∈ line := fun w hw => by rw [hGd] at hw; exact (giveR_suffix line _).subset hw
            have hinc := hK.inc
            rw [hsp, List.pairwise_append] at hinc
            have hnd := hK.ok.nodup
            have hnd : (tasksOf line).Nodup := hnd
            rw [hsp, List.nodup_append] at hnd
            have hwho : ∀ x ∈ G.1, last < x ∧ 1 ≤ x ∧ x ≤ (moves.length : Int) := fun x hx => by
              have hxl : x ∈ tasksOf line := by rw [hsp]; exact List.mem_append_left _ hx
              obtain ⟨w, hw, e⟩ := List.mem_map.1 hxl
              have := hK.mem w hw
              omega
            have hin := counts_in free moves wants i (released - moves[i]) G.2.1 G.2.2 G.1 got last hinc.1 hwho hK.wl hml hK.wb (by omega) (by omega) (by omega) (by omega) (by omega) (by rw [hgs]; omega) hgh
            have hsn : 0 ≤ (G.1.map (ix wants)).sum := by rw [hgs]; omega
            have hlastD : ∀ y ∈ tasksOf G.2.2, G.1.getLastD last < y := fun y hy => by
              cases hl : G.1.getLast? with
              | none =>
                have : G.1 = [] := by simpa using hl
                rw [this]
                have hyl : y ∈ tasksOf line := by rw [hsp]; exact List.mem_append_right _ hy
                obtain ⟨w, hw, e⟩ := List.mem_map.1 hyl
                have := (hK.mem w hw).1
                show last < y; omega
              | some z =>
                have e : G.1.getLastD last = z := by rw [List.getLastD_eq_getLast?, hl]; rfl
                rw [e]
                exact hinc.2.2 z (List.mem_of_getLast? hl) y hy
            have hlastB : 0 ≤ G.1.getLastD last ∧ G.1.getLastD last ≤ (i : Int) := by
              cases hl : G.1.getLast? with
              | none =>
                have : G.1 = [] := by simpa using hl
                rw [this]; exact hlasti
              | some z =>
                have e : G.1.getLastD last = z := by rw [List.getLastD_eq_getLast?, hl]; rfl
                rw [e]
                have hz := List.mem_of_getLast? hl
                have hzl : z ∈ tasksOf line := by rw [hsp]; exact List.mem_append_left _ hz
                obtain ⟨w, hw, e2⟩ := List.mem_map.1 hzl
                have := hK.mem w hw
                omega
            refine ⟨(got + (G.1.map (ix wants)).sum, released - moves[i], G.1.getLastD last, ((i + 1 : Nat) : Int), G.2.1, wants, G.2.2), ?_, ⟨i + 1, hi, rfl, ⟨⟨by show G.2.2.length ≤ 5000; omega, hgf.1, by show G.2.1 ≤ 1000000000; omega, hgh, fun w hw => hK.ok.task w (hsuf w hw), fun w hw => hK.ok.num w (hsuf w hw), fun w hw => hK.ok.kind w (hsuf w hw), hnd.2.1⟩, by show G.2.1 + (got + (G.1.map (ix wants)).sum) = free + (released - moves[i]); rw [hgs]; omega, by show 0 ≤ released - moves[i] ∧ released - moves[i] ≤ 1000 * ((i + 1 : Nat) : Int); omega, by show 0 ≤ got + _; omega, by show 0 ≤ G.1.getLastD last ∧ G.1.getLastD last ≤ ((i + 1 : Nat) : Int); omega, hinc.2.1, fun w hw => ?_, hK.wl, hK.wb, by show G.2.2.length ≤ i + 1; omega⟩⟩, by simp only [Int.toNat_natCast]; omega⟩
            · simp only [taskmilllaw_SyncCounts_l2, ix_get hi, c0, ci, hb, hpos', hwn, hwr, release_eq, hR, taskmilllaw_SyncCounts_j1]
              simp only [Option.bind_some, Bool.and_self, cond_true, cond_false, bne_self_eq_false]
              exact hin
            · have := hK.mem w (hsuf w hw)
              exact ⟨hlastD w.Task (List.mem_map.2 ⟨w, hw, rfl⟩), by show w.Task ≤ ((i + 1 : Nat) : Int); omega, this.2.2⟩
      · right
        refine ⟨true, ?_, rfl⟩
        have c1 : decide (((i : Nat) : Int) < ((moves.length : Nat) : Int)) = false := by simp; omega
        simp only [taskmilllaw_SyncCounts_l2, c1]
        rfl
end Go.Proofs.Ytoamlpgadgfhlaa
