/-
  What laws of the chapter pipe compute, and lemmas on it.
  No conditions.
-/
import Derived.Test.YtconaimaibephaapipeP3
set_option linter.unusedSimpArgs false
set_option linter.unusedVariables false
namespace Go.Proofs.Ytconaimaibephaa
open Go Go.Sx
/-- Lengths that a machine's words can tell. -/
structure Lens (p : Pipe) : Prop where
  i : p.Items.length ≤ 9223372036854775807
  s : p.Senders.length ≤ 9223372036854775807
  g : p.Getters.length ≤ 9223372036854775807
theorem wrap_bd (x : Int) : -9223372036854775808 ≤ IntKind.i64.wrap x ∧ IntKind.i64.wrap x ≤ 9223372036854775807 := by
  simp only [IntKind.wrap, IntKind.bits, IntKind.signed, if_true]
  simp
  omega
theorem vast_big (p : Pipe) (hl : Lens p) (h : ¬ total p ≤ 1000000) : ∃ b, taskmilllaw_vastPipe p = some b ∧ (b = false → ∃ w, taskmillref_PipeFault p = some w ∧ w.Code ≠ 0) := by
  by_cases hs : total p ≤ 4611686018427387904
  · exact ⟨_, vast_eq p hs, fun hb => by simp at hb; omega⟩
  · obtain ⟨h1, h2, h3⟩ := hl
    refine ⟨_, rfl, fun hb => ?_⟩
    unfold taskmillref_PipeFault
    simp only [Bool.or_eq_false_iff, decide_eq_false_iff_not] at hb
    obtain ⟨hb1, hb2⟩ := hb
    by_cases c1 : (5000 : Int) < IntKind.i64.wrap (IntKind.i64.wrap (((p.Items.length : Nat) : Int) + ((p.Senders.length : Nat) : Int)) + ((p.Getters.length : Nat) : Int))
    · simp [c1]
    · simp only [c1, decide_false, cond_false]
      by_cases c2 : p.Cap < 0 ∨ 1000 < p.Cap
      · have : (decide (p.Cap < 0) || decide (1000 < p.Cap)) = true := by simpa using c2
        simp [this]
      · have : (decide (p.Cap < 0) || decide (1000 < p.Cap)) = false := by simp at c2 ⊢; omega
        simp only [this, cond_false]
        by_cases c3 : p.Cap < (p.Items.length : Int)
        · simp [c3]
        · simp only [c3, decide_false, cond_false]
          unfold total at hs
          -- both lines are there: else their lengths' sum tells that the pipe is vast
          have hsg : 0 < p.Senders.length ∧ 0 < p.Getters.length := by
            refine ⟨Nat.pos_of_ne_zero fun e => ?_, Nat.pos_of_ne_zero fun e => ?_⟩
            · rw [e] at hb2 hs
              rw [wrap_id (by omega) (by omega)] at hb2
              omega
            · rw [e] at hb2 hs
              rw [wrap_id (by omega) (by omega)] at hb2
              omega
          have d1 : decide ((0 : Int) < ((p.Senders.length : Nat) : Int)) = true := by simp; omega
          have d2 : decide ((0 : Int) < ((p.Getters.length : Nat) : Int)) = true := by simp; omega
          simp only [d1, d2, cond_true]
          cases p.Closed <;> cases (((p.Items.length : Nat) : Int) != p.Cap) <;> simp
theorem gotI_nil {p : Pipe} (h : p.Senders = []) : gotI p = p.Items := by simp [gotI, h]
/-- A closed pipe. -/
theorem ok_closed {c : Int} {l : List Int} (h1 : 0 ≤ c ∧ c ≤ 1000) (h2 : (l.length : Int) ≤ c) : OkP ⟨c, l, true, [], []⟩ :=
  ⟨by simp [total]; omega, h1, h2, by simp [badP], by simp, by simp [tasksOf], by simp⟩
theorem closes (p : Pipe) (task : Int) (hl : Lens p) : taskmilllaw_PipeCloses p task = some true := by
  unfold taskmilllaw_PipeCloses
  rw [begun_eq]
  simp only [Option.bind_some, Bool.not_true, cond_false]
  have yes : taskmilllaw_PipeCloses_j1 p task true = some true := by simp [taskmilllaw_PipeCloses_j1]
  by_cases ht : total p ≤ 1000000
  · rw [vast_eq p (by omega), refPipe_eq p ht, sum_len p (by omega)]
    simp only [Option.bind_some]
    by_cases hv : 6000 < total p ∨ 800 < p.Senders.length + p.Getters.length
    · simp [hv, yes]
    · simp only [hv, decide_false, cond_false]
      by_cases hf : (pipeF p).Code = 0
      · have hf' : ((pipeF p).Code != 0) = false := by simpa using hf
        simp only [hf', cond_false]
        cases hc : p.Closed with
        | true => simp [yes]
        | false =>
          simp only [cond_false]
          by_cases h1 : task < 1
          · simp [h1, yes]
          · by_cases h3 : (300 : Int) < ((total p : Nat) : Int)
            · simp [h1, h3, yes]
            · simp only [h1, h3, decide_false, cond_false]
              have ok := ok_of hf
              have hF := pipeF_of ok
              have ht' := ht
              unfold total at ht' h3
              unfold taskmilllaw_PipeCloses_j1
              rw [shut_eq p ht]
              have hsh : shutR p = (⟨p.Cap, p.Items, true, [], []⟩, ⟨true, false, false, 0, 0, wakesOf false p.Getters ++ wakesOf true p.Senders⟩, ⟨0, 0⟩) := by simp [shutR, hF, downR, hc]
              have hlen : ((((wakesOf false p.Getters ++ wakesOf true p.Senders).length : Nat) : Int) != IntKind.i64.wrap (((p.Senders.length : Nat) : Int) + ((p.Getters.length : Nat) : Int))) = false := by
                rw [wrap_id (by omega) (by omega)]
                simp [wakes_len]; omega
              simp only [cond_false, Option.bind_some, hsh, bne_self_eq_false, Bool.not_true, Bool.or_self, hlen]
              have hit := ok.it
              have hcp := ok.cap
              have beg : ∀ l : List Int, l.length ≤ p.Items.length → beginF ⟨p.Cap, l, true, [], []⟩ task = ⟨0, 0⟩ := fun l hll => begin_of (ok_closed hcp (by omega)) (by omega) (by simp [tasksOf]) (by simp [total]; omega)
              have tot : ∀ l : List Int, l.length ≤ p.Items.length → total ⟨p.Cap, l, true, [], []⟩ ≤ 1000000 := fun l hll => by simp [total]; omega
              have hw : IntKind.i64.wrap (((p.Items.length : Nat) : Int) + 1) = ((p.Items.length + 1 : Nat) : Int) := wrap_n1 _ (by omega)
              have hX : ∀ l : List Int, ∀ t v : Int, l.length ≤ p.Items.length → beginF ⟨p.Cap, l, true, [], []⟩ t = ⟨0, 0⟩ → sendR ⟨p.Cap, l, true, [], []⟩ t v true = (⟨p.Cap, l, true, [], []⟩, ⟨true, true, false, 0, 0, []⟩, ⟨0, 0⟩) := fun l t v _ hb => by
                simp [sendR, hb, putR]
              have stepN : ∀ (i : Nat) (cf : Fault), i < p.Items.length → taskmilllaw_PipeCloses_l1 p task ((i : Int), p.Cap, true, cf, p.Items.drop i, [], []) = some (.inl (((i + 1 : Nat) : Int), p.Cap, true, cf, p.Items.drop (i + 1), [], [])) := by
                intro i cf hi
                have d1 : decide ((i : Int) ≤ ((p.Items.length + 1 : Nat) : Int)) = true := by simp; omega
                have d2 : decide ((i : Int) < ((p.Items.length : Nat) : Int)) = true := by simp; omega
                have hg : getR ⟨p.Cap, p.Items.drop i, true, [], []⟩ task false = (⟨p.Cap, p.Items.drop (i + 1), true, [], []⟩, ⟨true, false, true, p.Items[i], 0, []⟩, ⟨0, 0⟩) := by
                  have hb := beg (p.Items.drop i) (by simp)
                  have hd := List.drop_eq_getElem_cons hi
                  have hg0 : gotR ⟨p.Cap, p.Items.drop i, true, [], []⟩ ⟨task, 0, 0⟩ = (⟨p.Cap, p.Items.drop (i + 1), true, [], []⟩, ⟨true, false, true, p.Items[i], 0, []⟩) := by
                    simp only [gotR, gotI, gotK]
                    rw [hd]; rfl
                  unfold getR
                  rw [hb, hg0]
                  rfl
                simp only [taskmilllaw_PipeCloses_l1, hw, d1, cond_true]
                rw [get_eq _ _ _ (tot _ (by simp)), hg]
                simp only [Option.bind_some, d2, ix_get hi]
                rw [wrap_n1 i (by omega)]
                simp
              have stepE : ∀ (i : Nat) (cf : Fault), p.Items.length ≤ i → i ≤ p.Items.length + 1 → taskmilllaw_PipeCloses_l1 p task ((i : Int), p.Cap, true, cf, [], [], []) = some (.inl (((i + 1 : Nat) : Int), p.Cap, true, cf, [], [], [])) := by
                intro i cf hi hi2
                have d1 : decide ((i : Int) ≤ ((p.Items.length + 1 : Nat) : Int)) = true := by simp; omega
                have d2 : decide ((i : Int) < ((p.Items.length : Nat) : Int)) = false := by simp; omega
                have hg : getR ⟨p.Cap, [], true, [], []⟩ task false = (⟨p.Cap, [], true, [], []⟩, ⟨true, false, false, 0, 0, []⟩, ⟨0, 0⟩) := by
                  have hb := beg [] (by simp)
                  simp [getR, hb, gotR, gotI, gotK]
                simp only [taskmilllaw_PipeCloses_l1, hw, d1, cond_true]
                rw [get_eq _ _ _ (tot _ (by simp)), hg]
                simp only [Option.bind_some, d2]
                rw [wrap_n1 i (by omega)]
                simp
              have walk : ∀ (cf : Fault) (m : Nat), m ≤ p.Items.length → loopO (taskmilllaw_PipeCloses_l1 p task) (0, p.Cap, true, cf, p.Items, [], []) = loopO (taskmilllaw_PipeCloses_l1 p task) ((m : Int), p.Cap, true, cf, p.Items.drop m, [], []) := by
                intro cf m
                induction m with
                | zero => exact fun _ => rfl
                | succ m ih => intro hm; rw [ih (by omega), loopO_inl (stepN m cf (by omega))]
              rw [walk _ p.Items.length (Nat.le_refl _), List.drop_length, loopO_inl (stepE _ _ (Nat.le_refl _) (by omega)), loopO_inl (stepE _ _ (by omega) (by omega))]
              refine loopO_inr ?_
              have d1 : decide (((p.Items.length + 1 + 1 : Nat) : Int) ≤ ((p.Items.length + 1 : Nat) : Int)) = false := by simp; omega
              simp only [taskmilllaw_PipeCloses_l1, hw, d1, cond_false]
              have hshut : shutR ⟨p.Cap, [], true, [], []⟩ = (⟨p.Cap, [], true, [], []⟩, ⟨true, true, false, 0, 0, []⟩, ⟨0, 0⟩) := by
                simp [shutR, pipeF_of (ok_closed (l := []) hcp (by simp; omega)), downR]
              rw [send_eq _ _ _ _ (tot _ (by simp)), hX [] task 1 (by simp) (beg [] (by simp)), shut_eq _ (tot _ (by simp)), hshut]
              simp
      · have hf' : ((pipeF p).Code != 0) = true := by simpa using hf
        simp [hf', yes]
  · obtain ⟨b, h1, h2⟩ := vast_big p hl ht
    rw [h1]
    cases b with
    | true => simp [yes]
    | false =>
      obtain ⟨w, h3, h4⟩ := h2 rfl
      have h4' : (w.Code != 0) = true := by simpa using h4
      simp [h3, h4', yes]
/-! ### Twins -/
theorem put_cases (p : Pipe) (x : GPost) : (putR p x).2.Done = true ∨ (putR p x = (p, noA) ∧ p.Closed = false ∧ p.Getters = [] ∧ ¬ (p.Items.length : Int) < p.Cap) := by
  unfold putR
  cases hc : p.Closed with
  | true => left; simp
  | false =>
    cases hg : p.Getters with
    | cons g t => left; simp
    | nil =>
      by_cases hi : (p.Items.length : Int) < p.Cap
      · left; simp [hi]
      · right; simp [hi]
theorem got_cases (p : Pipe) (x : GPost) : (gotR p x).2.Done = true ∨ (gotR p x = (p, noA) ∧ p.Closed = false ∧ p.Senders = [] ∧ p.Items = []) := by
  unfold gotR
  cases hg : gotI p with
  | cons v r => left; simp
  | nil =>
    have hs : p.Senders = [] ∧ p.Items = [] := by
      unfold gotI at hg
      cases hs : p.Senders with
      | nil => rw [hs] at hg; exact ⟨rfl, hg⟩
      | cons s t => rw [hs] at hg; simp at hg
    cases hc : p.Closed with
    | true => left; simp
    | false => right; simp [hs]
theorem put_wakes (p : Pipe) (x : GPost) : (putR p x).2.Wakes.length ≤ 1 := by
  unfold putR
  split
  · simp
  · split
    · simp
    · split <;> simp [noA]
theorem keep_all {l : List GPost} {t : Int} (h : t ∉ tasksOf l) : l.filter (keep t) = l := by
  rw [List.filter_eq_self]
  intro x hx
  have : x.Task ≠ t := fun e => h (List.mem_map.2 ⟨x, hx, e⟩)
  simpa [keep] using this
theorem leave_send {p : Pipe} {t v : Int} (hb : beginF p t = ⟨0, 0⟩) (h1 : p.Closed = false) (h2 : p.Getters = []) (h3 : ¬ (p.Items.length : Int) < p.Cap) : leaveR ⟨p.Cap, p.Items, p.Closed, p.Senders ++ [⟨t, 0, v⟩], p.Getters⟩ t = (p, ⟨0, 0⟩) ∧ OkP ⟨p.Cap, p.Items, p.Closed, p.Senders ++ [⟨t, 0, v⟩], p.Getters⟩ := by
  obtain ⟨ok, a1, a2, a3⟩ := ok_begin (p := p) (t := t) (by rw [hb])
  have okq : OkP ⟨p.Cap, p.Items, p.Closed, p.Senders ++ [⟨t, 0, v⟩], p.Getters⟩ := by
    obtain ⟨o1, o2, o3, o4, o5, o6, o7⟩ := ok
    refine ⟨by simp only [total, List.length_append, List.length_cons, List.length_nil] at a3 ⊢; omega, o2, o3, ?_, fun x hx => ?_, ?_, o7⟩
    · simp [badP, h1, h2, h3]
    · simp only [h2, List.append_nil, List.mem_append, List.mem_cons, List.not_mem_nil, or_false] at hx
      rcases hx with hx | rfl
      · exact o5 x (List.mem_append_left _ hx)
      · exact ⟨a1, Int.le_refl _⟩
    · simp only [h2, List.append_nil, tasksOf, List.map_append, List.map_cons, List.map_nil] at o6 a2 ⊢
      rw [List.nodup_append]
      refine ⟨o6, by simp, fun a ha b hb e => ?_⟩
      simp at hb; subst hb; subst e; exact a2 ha
  refine ⟨?_, okq⟩
  have hs : t ∉ tasksOf p.Senders := fun h => a2 (by simp only [tasksOf, List.map_append, List.mem_append]; exact .inl h)
  have hg : t ∉ tasksOf p.Getters := fun h => a2 (by simp only [tasksOf, List.map_append, List.mem_append]; exact .inr h)
  unfold leaveR
  rw [pipeF_of okq]
  have hin : t ∈ tasksOf (p.Senders ++ [(⟨t, 0, v⟩ : GPost)]) := by simp [tasksOf]
  have hf : (p.Senders ++ [(⟨t, 0, v⟩ : GPost)]).filter (keep t) = p.Senders := by
    rw [List.filter_append, keep_all hs]; simp [keep]
  simp only [ne_eq, not_true_eq_false, if_false, hin, true_or, hf, keep_all hg]
theorem leave_get {p : Pipe} {t : Int} (hb : beginF p t = ⟨0, 0⟩) (h1 : p.Closed = false) (h2 : p.Senders = []) (h3 : p.Items = []) : leaveR ⟨p.Cap, p.Items, p.Closed, p.Senders, p.Getters ++ [⟨t, 0, 0⟩]⟩ t = (p, ⟨0, 0⟩) ∧ OkP ⟨p.Cap, p.Items, p.Closed, p.Senders, p.Getters ++ [⟨t, 0, 0⟩]⟩ := by
  obtain ⟨ok, a1, a2, a3⟩ := ok_begin (p := p) (t := t) (by rw [hb])
  have okq : OkP ⟨p.Cap, p.Items, p.Closed, p.Senders, p.Getters ++ [⟨t, 0, 0⟩]⟩ := by
    obtain ⟨o1, o2, o3, o4, o5, o6, o7⟩ := ok
    refine ⟨by simp only [total, List.length_append, List.length_cons, List.length_nil] at a3 ⊢; omega, o2, o3, ?_, fun x hx => ?_, ?_, fun x hx => ?_⟩
    · simp [badP, h1, h2, h3]
    · simp only [h2, List.nil_append, List.mem_append, List.mem_cons, List.not_mem_nil, or_false] at hx
      rcases hx with hx | rfl
      · exact o5 x (List.mem_append_right _ hx)
      · exact ⟨a1, Int.le_refl _⟩
    · simp only [h2, List.nil_append, tasksOf, List.map_append, List.map_cons, List.map_nil] at o6 a2 ⊢
      rw [List.nodup_append]
      refine ⟨o6, by simp, fun a ha b hb e => ?_⟩
      simp at hb; subst hb; subst e; exact a2 ha
    · rcases List.mem_append.1 hx with hx | hx
      · exact o7 x hx
      · simp at hx; subst hx; rfl
  refine ⟨?_, okq⟩
  have hs : t ∉ tasksOf p.Senders := fun h => a2 (by simp only [tasksOf, List.map_append, List.mem_append]; exact .inl h)
  have hg : t ∉ tasksOf p.Getters := fun h => a2 (by simp only [tasksOf, List.map_append, List.mem_append]; exact .inr h)
  unfold leaveR
  rw [pipeF_of okq]
  have hin : t ∈ tasksOf (p.Getters ++ [(⟨t, 0, 0⟩ : GPost)]) := by simp [tasksOf]
  have hf : (p.Getters ++ [(⟨t, 0, 0⟩ : GPost)]).filter (keep t) = p.Getters := by
    rw [List.filter_append, keep_all hg]; simp [keep]
  simp only [ne_eq, not_true_eq_false, if_false, hin, or_true, hf, keep_all hs]
theorem twins_core (p : Pipe) (task value : Int) (q1 q2 r1 r2 : Pipe) (a b : Answer) (ht : total p ≤ 1000000) (h1 : sendR p task value true = (q1, a, ⟨0, 0⟩)) (h2 : sendR p task value false = (q2, a, ⟨0, 0⟩)) (h3 : getR p task true = (r1, b, ⟨0, 0⟩)) (h4 : getR p task false = (r2, b, ⟨0, 0⟩)) (ha : a.Wakes.length ≤ 1) (hb : b.Wakes.length ≤ 1) (tq1 : total q1 ≤ 1000000) (tr1 : total r1 ≤ 1000000) (tq2 : total q2 ≤ 1000000) (tr2 : total r2 ≤ 1000000) (da : a.Done = true → q2 = q1) (da' : a.Done = false → q1 = p ∧ leaveR q2 task = (p, ⟨0, 0⟩)) (db : b.Done = true → r2 = r1) (db' : b.Done = false → r1 = p ∧ leaveR r2 task = (p, ⟨0, 0⟩)) : taskmilllaw_PipeTwins_j7 p task value false = some true := by
  have self : ∀ a : Answer, a.Wakes.length ≤ 1 → taskmillref_SameAnswer a a = some true := fun a h => by rw [sameAnswer_eq _ _ (by omega)]; simp
  have selfp : ∀ a : Pipe, total a ≤ 1000000 → taskmillref_SamePipe a a = some true := fun a h => by rw [samePipe_eq _ _ (by omega)]; simp
  have z : ((0 : Int) != 0) = false := by decide
  have e3 : ∀ c5p c5o c5v c5c w, taskmilllaw_PipeTwins_j3 p task b.Done c5p c5o c5v c5c r2.Cap r2.Closed w r2.Items r2.Senders r2.Getters = some true := fun c5p c5o c5v c5c w => by
    unfold taskmilllaw_PipeTwins_j3 taskmilllaw_PipeTwins_j2 taskmilllaw_PipeTwins_j1
    rw [pipe_eta]
    cases hd : b.Done with
    | true => simp
    | false =>
      rw [leave_eq r2 task tr2, (db' hd).2]
      simp only [Option.bind_some, z, Bool.not_false, cond_true, cond_false, pipe_eta, selfp p ht, Bool.not_true]
  have e5 : ∀ c5p c5o c5v c5c w v1 v2 v3 v4 v5, taskmilllaw_PipeTwins_j5 p task a.Done v1 v2 v3 v4 q2.Cap q2.Closed b.Done c5p c5o c5v c5c r2.Cap r2.Closed v5 q2.Items q2.Senders q2.Getters w r2.Items r2.Senders r2.Getters false = some true := fun c5p c5o c5v c5c w v1 v2 v3 v4 v5 => by
    unfold taskmilllaw_PipeTwins_j5 taskmilllaw_PipeTwins_j4
    rw [pipe_eta]
    cases hd : a.Done with
    | true => simp only [cond_false, Bool.not_true, e3]
    | false =>
      rw [leave_eq q2 task tq2, (da' hd).2]
      simp only [Option.bind_some, z, Bool.not_false, cond_true, cond_false, pipe_eta, selfp p ht, Bool.not_true, e3]
  unfold taskmilllaw_PipeTwins_j7
  rw [send_eq p task value true ht, send_eq p task value false ht, get_eq p task true ht, get_eq p task false ht, h1, h2, h3, h4]
  simp only [Option.bind_some, cond_false, z, answer_eta, self a ha, self b hb, Bool.not_true]
  unfold taskmilllaw_PipeTwins_j6
  simp only [pipe_eta, cond_false]
  cases hd : a.Done with
  | true =>
    have hq := da hd; subst hq
    rw [← hd]
    cases he : b.Done with
    | true =>
      have hr := db he; subst hr
      rw [← he]
      simp only [hd, he, cond_true, Bool.not_true, cond_false, Option.bind_some, selfp _ tq1, selfp _ tr1]
      have := e5 b.Panic b.Ok b.Value b.Case b.Wakes a.Panic a.Ok a.Value a.Case a.Wakes
      rwa [hd, he] at this
    | false =>
      obtain ⟨hr, _⟩ := db' he; subst hr
      rw [← he]
      simp only [hd, he, cond_true, Bool.not_true, Bool.not_false, cond_false, Option.bind_some, selfp _ tq1, selfp _ tr1]
      have := e5 b.Panic b.Ok b.Value b.Case b.Wakes a.Panic a.Ok a.Value a.Case a.Wakes
      rwa [hd, he] at this
  | false =>
    obtain ⟨hq, _⟩ := da' hd; subst hq
    rw [← hd]
    cases he : b.Done with
    | true =>
      have hr := db he; subst hr
      rw [← he]
      simp only [hd, he, cond_true, Bool.not_true, Bool.not_false, cond_false, Option.bind_some, selfp _ tq1, selfp _ tr1]
      have := e5 b.Panic b.Ok b.Value b.Case b.Wakes a.Panic a.Ok a.Value a.Case a.Wakes
      rwa [hd, he] at this
    | false =>
      obtain ⟨hr, _⟩ := db' he; subst hr
      rw [← he]
      simp only [hd, he, cond_true, Bool.not_true, Bool.not_false, cond_false, Option.bind_some, selfp _ tr1]
      have := e5 b.Panic b.Ok b.Value b.Case b.Wakes a.Panic a.Ok a.Value a.Case a.Wakes
      rwa [hd, he] at this
theorem twins (p : Pipe) (task value : Int) (hl : Lens p) : taskmilllaw_PipeTwins p task value = some true := by
  unfold taskmilllaw_PipeTwins
  rw [begun_eq]
  simp only [Option.bind_some, Bool.not_true, cond_false]
  have yes : taskmilllaw_PipeTwins_j7 p task value true = some true := by simp [taskmilllaw_PipeTwins_j7]
  by_cases ht : total p ≤ 1000000
  · rw [vast_eq p (by omega), taskFault_eq p task ht]
    simp only [Option.bind_some]
    by_cases hv : 6000 < total p ∨ 800 < p.Senders.length + p.Getters.length
    · simp [hv, yes]
    · simp only [hv, decide_false, cond_false]
      by_cases hf : (beginF p task).Code = 0
      · have hb : beginF p task = ⟨0, 0⟩ := by
          rcases beginF_ok p task with ⟨_, _, h⟩ | h
          · exact h
          · exact absurd hf h
        obtain ⟨ok, a1, a2, a3⟩ := ok_begin hf
        rw [hb]
        have z : (((0 : Int)) != 0) = false := by decide
        simp only [z]
        have pt := put_total p ⟨task, 0, value⟩
        have gt := got_total p ⟨task, 0, 0⟩
        have s1 : sendR p task value true = ((putR p ⟨task, 0, value⟩).1, (putR p ⟨task, 0, value⟩).2, ⟨0, 0⟩) := by simp [sendR, hb]
        have g1 : getR p task true = ((gotR p ⟨task, 0, 0⟩).1, (gotR p ⟨task, 0, 0⟩).2, ⟨0, 0⟩) := by simp [getR, hb]
        obtain ⟨q2, s2, da, da', tq2⟩ : ∃ q2, sendR p task value false = (q2, (putR p ⟨task, 0, value⟩).2, ⟨0, 0⟩) ∧ ((putR p ⟨task, 0, value⟩).2.Done = true → q2 = (putR p ⟨task, 0, value⟩).1) ∧ ((putR p ⟨task, 0, value⟩).2.Done = false → (putR p ⟨task, 0, value⟩).1 = p ∧ leaveR q2 task = (p, ⟨0, 0⟩)) ∧ total q2 ≤ total p + 1 := by
          rcases put_cases p ⟨task, 0, value⟩ with h | ⟨h, c1, c2, c3⟩
          · exact ⟨(putR p ⟨task, 0, value⟩).1, by simp [sendR, hb, h], fun _ => rfl, (fun e => by rw [h] at e; simp at e), pt⟩
          · rw [h]
            refine ⟨⟨p.Cap, p.Items, p.Closed, p.Senders ++ [⟨task, 0, value⟩], p.Getters⟩, by simp [sendR, hb, h, noA], (fun e => by simp [noA] at e), fun _ => ⟨rfl, (leave_send hb c1 c2 c3).1⟩, by simp [total]; omega⟩
        obtain ⟨r2, g2, db, db', tr2⟩ : ∃ r2, getR p task false = (r2, (gotR p ⟨task, 0, 0⟩).2, ⟨0, 0⟩) ∧ ((gotR p ⟨task, 0, 0⟩).2.Done = true → r2 = (gotR p ⟨task, 0, 0⟩).1) ∧ ((gotR p ⟨task, 0, 0⟩).2.Done = false → (gotR p ⟨task, 0, 0⟩).1 = p ∧ leaveR r2 task = (p, ⟨0, 0⟩)) ∧ total r2 ≤ total p + 1 := by
          rcases got_cases p ⟨task, 0, 0⟩ with h | ⟨h, c1, c2, c3⟩
          · exact ⟨(gotR p ⟨task, 0, 0⟩).1, by simp [getR, hb, h], fun _ => rfl, (fun e => by rw [h] at e; simp at e), by omega⟩
          · rw [h]
            refine ⟨⟨p.Cap, p.Items, p.Closed, p.Senders, p.Getters ++ [⟨task, 0, 0⟩]⟩, by simp [getR, hb, h, noA], (fun e => by simp [noA] at e), fun _ => ⟨rfl, (leave_get hb c1 c2 c3).1⟩, by simp [total]; omega⟩
        exact twins_core p task value _ q2 _ r2 _ _ ht s1 s2 g1 g2 (put_wakes p _) (got_wakes p _) (by omega) (by omega) (by omega) (by omega) da da' db db'
      · have hf' : ((beginF p task).Code != 0) = true := by simpa using hf
        simp [hf', yes]
  · obtain ⟨b, h1, h2⟩ := vast_big p hl ht
    rw [h1]
    cases b with
    | true => simp [yes]
    | false =>
      obtain ⟨w, h3, h4⟩ := h2 rfl
      have h4' : (w.Code != 0) = true := by simpa using h4
      have h4'' : (w.Code == 0) = false := by simpa using h4
      have : taskmilllaw_taskFault p task = some w := by
        simp [taskmilllaw_taskFault, taskmilllaw_taskFault_j4, taskmilllaw_taskFault_j3, taskmilllaw_taskFault_j2, taskmilllaw_taskFault_j1, h3, h4'']
      simp [this, h4', yes]

end Go.Proofs.Ytconaimaibephaa
