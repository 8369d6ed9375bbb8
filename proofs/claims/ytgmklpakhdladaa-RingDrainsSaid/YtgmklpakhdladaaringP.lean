/-
  What laws of the chapter ring compute, and lemmas on it.
  No conditions.
-/
import Derived.Test.YtgmklpakhdladaaringG
import Derived.Test.YtgmklpakhdladaaPA
set_option linter.unusedSimpArgs false
set_option linter.unusedVariables false
namespace Go.Proofs.Ytgmklpakhdladaa
open Go Go.Sx
/-! ### Functions of many seats -/
@[simp] theorem F_eq (c a : Int) : taskmillref_F c a = some ⟨c, a⟩ := rfl
@[simp] theorem fault_eq (c a : Int) : ring_fault c a = some ⟨c, a⟩ := rfl
theorem clone_eq (s : List Int) (h : s.length ≤ 10000000) : slices_Clone s = some s := by
  have : s.length * 8 ≤ 140737488355328 := by omega
  simp [slices_Clone, this]
theorem own_eq (s : List Int) (h : s.length ≤ 10000000) : taskmilllaw_own s = some s := by
  have : s.length * 8 ≤ 140737488355328 := by omega
  simp [taskmilllaw_own, this]
theorem ints_eq (a b : List Int) (hn : a.length < 4611686018427387904) : taskmillref_Ints a b = some (decide (a = b)) := by
  unfold taskmillref_Ints
  by_cases hl : a.length = b.length
  · have := ints_gen a b hl hn (fun i => rfl : ∀ i, taskmillref_Ints_l1 a b i = _)
    simp [hl] at this ⊢
    exact this
  · have : a ≠ b := fun e => hl (by rw [e])
    have h2 : ((a.length : Int) != (b.length : Int)) = true := by simp; omega
    simp [h2, this]
theorem has_eq (l : List Int) (n : Int) (hn : l.length < 4611686018427387904) : taskmillref_Has l n = some (decide (n ∈ l)) := has_gen l n hn fun i => rfl
theorem contains_eq (l : List Int) (n : Int) (hn : l.length < 4611686018427387904) : slices_Contains l n = some (decide (n ∈ l)) := by
  unfold slices_Contains slices_Index
  obtain ⟨r, h1, h2, h3⟩ := index_gen l n hn (fun i => rfl : ∀ i, slices_Index_l1 l n i = _)
  rw [h1]
  by_cases h : n ∈ l
  · obtain ⟨i, rfl, _⟩ := h2 h
    simp [h]
  · rw [h3 h]; simp [h]
/-! ### What is wrong with a ring -/
def badAt (q : Ring) (i : Nat) : Option Fault := match q.List[i]? with
  | none => none
  | some x => if x < 1 then some ⟨3, (i + 1 : Nat)⟩ else if x = q.Next ∨ x ∈ q.List.take i then some ⟨10, (i + 1 : Nat)⟩ else none
def ringF (q : Ring) : Fault := if 256 < q.List.length then ⟨2, 0⟩ else if q.Next < 0 then ⟨3, 0⟩ else (firstAt (badAt q) q.List.length).getD ⟨0, 0⟩
theorem refFault_eq (q : Ring) : taskmillref_RingFault q = some (ringF q) := by
  unfold taskmillref_RingFault ringF
  by_cases h1 : 256 < q.List.length
  · have : (256 : Int) < (q.List.length : Int) := by omega
    simp [h1, this]
  · have h1' : ¬ (256 : Int) < (q.List.length : Int) := by omega
    by_cases h2 : q.Next < 0
    · simp [h1, h1', h2]
    · simp only [h1, h1', h2, decide_false, cond_false, if_false]
      have := loopO_findD (step := taskmillref_RingFault_l1 q) (fun i => ((i : Nat) : Int)) (badAt q) ⟨0, 0⟩ q.List.length (fun i hi hb => ?_) (fun i r hi hb => ?_) (fun _ => ?_)
      · exact this
      · simp only [badAt, List.getElem?_eq_getElem hi] at hb
        split at hb
        · cases hb
        · rename_i hx
          split at hb
          · cases hb
          · rename_i hy
            have hn : ¬ q.List[i] = q.Next := fun e => hy (.inl e)
            have hm : ¬ q.List[i] ∈ q.List.take i := fun e => hy (.inr e)
            have hle : ((i : Nat) : Int) ≤ (q.List.length : Int) := by omega
            simp only [taskmillref_RingFault_l1, taskmillref_RingFault_j1, ix_get hi, cut_take]
            rw [has_eq _ _ (by rw [List.length_take]; omega)]
            simp [hi, hx, hn, hm, hle, wrap_n1 i (by omega), Bool.cond_eq_ite]
      · simp only [badAt, List.getElem?_eq_getElem hi] at hb
        have hle : ((i : Nat) : Int) ≤ (q.List.length : Int) := by omega
        simp only [taskmillref_RingFault_l1, taskmillref_RingFault_j1, ix_get hi, cut_take]
        rw [has_eq _ _ (by rw [List.length_take]; omega)]
        split at hb
        · rename_i hx
          cases hb
          simp [hi, hx, wrap_n1 i (by omega), Bool.cond_eq_ite]
        · rename_i hx
          split at hb
          · rename_i hy
            cases hb
            by_cases hn : q.List[i] = q.Next
            · rw [hn] at hx
              simp [hi, hx, hn, hle, wrap_n1 i (by omega), Bool.cond_eq_ite]
            · have hm := hy.resolve_left hn
              simp [hi, hx, hn, hm, hle, wrap_n1 i (by omega), Bool.cond_eq_ite]
          · cases hb
      · simp [taskmillref_RingFault_l1]
theorem check_eq (q : Ring) : ring_Check q = some (ringF q) := by
  unfold ring_Check ringF
  by_cases h1 : 256 < q.List.length
  · have : (256 : Int) < (q.List.length : Int) := by omega
    simp [h1, this]
  · have h1' : ¬ (256 : Int) < (q.List.length : Int) := by omega
    by_cases h2 : q.Next < 0
    · simp [h1, h1', h2]
    · simp only [h1, h1', h2, decide_false, cond_false, if_false]
      have gen : ∀ m0 : List (Int × Int), (∀ x, 1 ≤ x → (0 < miGet m0 x ↔ x = q.Next)) → ring_Check_j1 q m0 = some ((firstAt (badAt q) q.List.length).getD ⟨0, 0⟩) := by
        intro m0 hm0
        unfold ring_Check_j1
        have hin : ∀ i x, 1 ≤ x → (0 < miGet (setAll m0 (q.List.take i)) x ↔ x = q.Next ∨ x ∈ q.List.take i) := fun i x hx => by
          rw [miGet_setAll]
          by_cases hm : x ∈ q.List.take i
          · simp [hm]
          · simp [hm, hm0 x hx]
        have := loopO_findD (step := ring_Check_l1 q) (fun i => (((i : Nat) : Int), setAll m0 (q.List.take i))) (badAt q) ⟨0, 0⟩ q.List.length (fun i hi hb => ?_) (fun i r hi hb => ?_) (fun _ => ?_)
        · simpa [setAll] using this
        · simp only [badAt, List.getElem?_eq_getElem hi] at hb
          split at hb
          · cases hb
          · rename_i hx
            split at hb
            · cases hb
            · rename_i hy
              have hy' := mt (hin i q.List[i] (by omega)).1 hy
              simp only [ring_Check_l1, ix_get hi, setAll_snoc m0 q.List i hi]
              simp [hi, hx, hy', wrap_n1 i (by omega), Bool.cond_eq_ite]
        · simp only [badAt, List.getElem?_eq_getElem hi] at hb
          simp only [ring_Check_l1, ix_get hi]
          split at hb
          · rename_i hx
            cases hb
            simp [hi, hx, wrap_n1 i (by omega), Bool.cond_eq_ite]
          · rename_i hx
            split at hb
            · rename_i hy
              cases hb
              have hy' := (hin i q.List[i] (by omega)).2 hy
              simp [hi, hx, hy', wrap_n1 i (by omega), Bool.cond_eq_ite]
            · cases hb
        · simp [ring_Check_l1]
      by_cases h3 : 0 < q.Next
      · simp only [h3, decide_true, cond_true]
        exact gen _ fun x hx => by rw [miGet_set, miGet_nil]; by_cases h : x = q.Next <;> simp [h]
      · simp only [h3, decide_false, cond_false]
        exact gen _ fun x hx => by rw [miGet_nil]; constructor <;> intro h <;> omega
/-- A ring of which nothing is wrong. -/
structure OkR (q : Ring) : Prop where
  len : q.List.length ≤ 256
  next : 0 ≤ q.Next
  pos : ∀ x ∈ q.List, 1 ≤ x
  nodup : q.List.Nodup
  out : q.Next ∉ q.List
theorem ringF_ok (q : Ring) : OkR q ∧ ringF q = ⟨0, 0⟩ ∨ (ringF q).Code ≠ 0 := by
  unfold ringF
  split
  · right; simp
  · split
    · right; simp
    · rename_i h1 h2
      cases hf : firstAt (badAt q) q.List.length with
      | some f =>
        right
        obtain ⟨i, hi, hb, _⟩ := firstAt_some _ hf
        simp only [badAt, List.getElem?_eq_getElem hi] at hb
        split at hb
        · cases hb; simp
        · split at hb
          · cases hb; simp
          · cases hb
      | none =>
        left
        have h := (firstAt_none _).1 hf
        have hx : ∀ i (hi : i < q.List.length), ¬ q.List[i] < 1 ∧ ¬ (q.List[i] = q.Next ∨ q.List[i] ∈ q.List.take i) := fun i hi => by
          have := h i hi
          simp only [badAt, List.getElem?_eq_getElem hi] at this
          split at this
          · cases this
          · rename_i h3
            split at this
            · cases this
            · rename_i h4; exact ⟨h3, h4⟩
        refine ⟨⟨by omega, by omega, fun x hm => ?_, ?_, fun hm => ?_⟩, rfl⟩
        · obtain ⟨i, hi, rfl⟩ := List.getElem_of_mem hm
          have := (hx i hi).1; omega
        · rw [List.nodup_iff_pairwise_ne, List.pairwise_iff_getElem]
          intro i j hi hj hij he
          refine (hx j hj).2 (.inr ?_)
          rw [← he]
          exact List.mem_take_iff_getElem.2 ⟨i, by omega, rfl⟩
        · obtain ⟨i, hi, he⟩ := List.getElem_of_mem hm
          exact (hx i hi).2 (.inl he)
/-! ### The line of a ring -/
def lineOf (q : Ring) : List Int := if 0 < q.Next then q.Next :: q.List else q.List
theorem line_eq (q : Ring) (h : q.List.length ≤ 10000000) : taskmillref_Line q = some (lineOf q) := by
  unfold taskmillref_Line taskmillref_Line_j1 lineOf
  have h1 : q.List.length * 8 ≤ 140737488355328 := by omega
  have h2 : (q.List.length + 1) * 8 ≤ 140737488355328 := by omega
  by_cases h3 : 0 < q.Next <;> simp [h1, h2, h3]
theorem all_eq (q : Ring) (h : q.List.length ≤ 10000000) : ring_All q = some (lineOf q) := by
  unfold ring_All lineOf
  have h2 : (q.List.length + 1) * 8 ≤ 140737488355328 := by omega
  by_cases h3 : 0 < q.Next <;> simp [h2, h3, clone_eq _ h]
theorem line_len (q : Ring) : (lineOf q).length ≤ q.List.length + 1 := by
  unfold lineOf; split <;> simp
theorem copied_eq (q : Ring) (h : q.List.length ≤ 10000000) : ring_copied q = some (q.Next, q.List) := by
  simp [ring_copied, clone_eq _ h]
theorem ownRing_eq (q : Ring) (h : q.List.length ≤ 10000000) : taskmilllaw_ownRing q = some (q.Next, q.List) := by
  simp [taskmilllaw_ownRing, own_eq _ h]
theorem same_mk (an bn : Int) (al bl : List Int) (h : al.length < 4611686018427387904) : taskmillref_SameRing ⟨an, al⟩ ⟨bn, bl⟩ = some (decide (an = bn ∧ al = bl)) := by
  unfold taskmillref_SameRing taskmillref_SameRing_j1
  rw [ints_eq _ _ h]
  by_cases h1 : an = bn <;> simp [h1, Bool.cond_eq_ite]
theorem same_eq (a b : Ring) (h : a.List.length < 4611686018427387904) : taskmillref_SameRing a b = some (decide (a = b)) := by
  obtain ⟨an, al⟩ := a
  obtain ⟨bn, bl⟩ := b
  rw [same_mk _ _ _ _ h]
  simp
theorem ring_eta (q : Ring) : Ring.mk q.Next q.List = q := rfl
/-! ### Put -/
def putL (l : List Int) (t : Int) : List Int × List Int := if l.length < 256 then (l ++ [t], []) else (l.drop 128, l.take 128 ++ [t])
theorem tail_eq (t n : Int) (l : List Int) (h : l.length ≤ 256) : ring_tail t n l = some (n, (putL l t).2, (putL l t).1) := by
  unfold ring_tail putL
  by_cases h1 : l.length < 256
  · have h1' : ((l.length : Nat) : Int) < 256 := by omega
    have h2 : (l.length + 1) * 8 ≤ 140737488355328 := by omega
    simp [h1, h1', h2]
  · have h1' : ¬ ((l.length : Nat) : Int) < 256 := by omega
    have h3 : (128 : Int) ≤ ((l.length : Nat) : Int) := by omega
    rw [cut_take' l (n := 128) (i := 128) rfl, cut_drop' l (n := 128) (i := 128) rfl, clone_eq _ (by rw [List.length_take]; omega), clone_eq _ (by rw [List.length_drop]; omega)]
    have h2 : (min 128 l.length + 1) * 8 ≤ 140737488355328 := by omega
    simp [h1, h1', h2, h3]
theorem queued_eq (t : Int) (l : List Int) (h : l.length ≤ 256) : taskmillref_Queued l t = some (putL l t) := by
  unfold taskmillref_Queued putL
  by_cases h1 : l.length < 256
  · have h1' : ((l.length : Nat) : Int) < 256 := by omega
    have h2 : (l.length + 1) * 8 ≤ 140737488355328 := by omega
    have h3 : l.length * 8 ≤ 140737488355328 := by omega
    simp [h1, h1', h2, h3]
  · have h1' : ¬ ((l.length : Nat) : Int) < 256 := by omega
    have h3 : (128 : Int) ≤ ((l.length : Nat) : Int) := by omega
    rw [cut_take' l (n := 128) (i := 128) rfl, cut_drop' l (n := 128) (i := 128) rfl]
    have h2 : (min 128 l.length + 1) * 8 ≤ 140737488355328 := by omega
    have h4 : (l.length - 128) * 8 ≤ 140737488355328 := by omega
    have h5 : min 128 l.length * 8 ≤ 140737488355328 := by omega
    simp [h1, h1', h2, h3, h4, h5]
/-- What Put answers: the ring, what spills, the fault. -/
def putR (q : Ring) (task : Int) (next : Bool) : Ring × List Int × Fault :=
  if (ringF q).Code ≠ 0 then (⟨0, []⟩, [], ringF q)
  else if task < 1 then (⟨0, []⟩, [], ⟨3, -1⟩)
  else if task ∈ lineOf q then (⟨0, []⟩, [], ⟨10, -1⟩)
  else if next then
    if q.Next = 0 then (⟨task, q.List⟩, [], ⟨0, 0⟩) else (⟨task, (putL q.List q.Next).1⟩, (putL q.List q.Next).2, ⟨0, 0⟩)
  else (⟨q.Next, (putL q.List task).1⟩, (putL q.List task).2, ⟨0, 0⟩)
theorem put_eq (q : Ring) (task : Int) (next : Bool) : ring_Put q task next = some ((putR q task next).1.Next, (putR q task next).2.2, (putR q task next).1.List, (putR q task next).2.1) := by
  unfold ring_Put putR
  rw [check_eq]
  rcases ringF_ok q with ⟨ok, hf⟩ | hc
  · have hl := ok.len
    have hll := line_len q
    rw [all_eq q (by omega), copied_eq q (by omega)]
    simp only [hf, Option.bind_some, ring_Put_j1]
    rw [contains_eq _ _ (by omega)]
    by_cases h1 : task < 1
    · simp [h1]
    · by_cases h2 : task ∈ lineOf q
      · simp [h1, h2]
      · cases next with
        | false => simp [h1, h2, tail_eq _ _ _ hl]
        | true =>
          by_cases h3 : q.Next = 0
          · simp [h1, h2, h3]
          · simp [h1, h2, h3, tail_eq _ _ _ hl, Bool.cond_eq_ite]
  · simp [hc, Bool.cond_eq_ite]
theorem begun_eq : taskmilllaw_ringBegun = some true := by
  unfold taskmilllaw_ringBegun
  rw [put_eq]
  have h : putR ⟨2, [1]⟩ 3 true = (⟨3, [1, 2]⟩, [], ⟨0, 0⟩) := by decide
  rw [h]
  simp [taskmilllaw_ringBegun_j1, ints_eq]
theorem puts (q : Ring) (task : Int) (next : Bool) : taskmilllaw_RingPuts q task next = some true := by
  unfold taskmilllaw_RingPuts
  rw [begun_eq]
  by_cases h0 : 2000 < q.List.length
  · have : (2000 : Int) < ((q.List.length : Nat) : Int) := by omega
    simp [this]
  · have h0' : ¬ (2000 : Int) < ((q.List.length : Nat) : Int) := by omega
    have hll := line_len q
    rw [ownRing_eq q (by omega)]
    simp only [Option.bind_some, Bool.not_true, cond_false, h0', decide_false, check_eq, put_eq, refFault_eq, ring_eta]
    rw [same_eq q q (by omega)]
    simp only [Option.bind_some, beq_self_eq_true, Bool.and_self, Bool.not_true, cond_false, decide_true]
    unfold taskmilllaw_RingPuts_j8
    rcases ringF_ok q with ⟨ok, hf⟩ | hc
    · have hl := ok.len
      by_cases h1 : task < 1
      · simp [putR, hf, h1, taskmilllaw_RingPuts_j7, taskmilllaw_RingPuts_j6, taskmilllaw_RingPuts_j5, taskmilllaw_noRing, taskmilllaw_RingPuts_j1]
      · simp only [putR, hf, h1, taskmilllaw_RingPuts_j7, taskmilllaw_RingPuts_j6]
        rw [line_eq q (by omega)]
        simp only [Option.bind_some]
        rw [has_eq _ _ (by omega)]
        by_cases h2 : task ∈ lineOf q
        · simp [h2, taskmilllaw_RingPuts_j5, taskmilllaw_noRing, taskmilllaw_RingPuts_j1]
        · have hp : ∀ t, (putL q.List t).1.length < 4611686018427387904 ∧ (putL q.List t).2.length < 4611686018427387904 := fun t => by
            unfold putL; split <;> simp <;> omega
          cases next with
          | false =>
            have h3 : 0 < task := by omega
            simp [h2, taskmilllaw_RingPuts_j5, taskmilllaw_RingPuts_j4, taskmilllaw_RingPuts_j3, taskmilllaw_RingPuts_j2, h3, queued_eq _ _ hl, same_mk _ _ _ _ (hp task).1, ints_eq _ _ (hp task).2]
          | true =>
            by_cases h3 : q.Next = 0
            · simp [h2, taskmilllaw_RingPuts_j5, taskmilllaw_RingPuts_j4, taskmilllaw_RingPuts_j3, taskmilllaw_RingPuts_j2, h3, same_mk task task q.List q.List (by omega), ints_eq [] [] (by decide)]
            · have h4 : 0 < q.Next := by have := ok.next; omega
              simp [h2, taskmilllaw_RingPuts_j5, taskmilllaw_RingPuts_j4, taskmilllaw_RingPuts_j3, taskmilllaw_RingPuts_j2, h3, h4, queued_eq _ _ hl, same_mk _ _ _ _ (hp q.Next).1, ints_eq _ _ (hp q.Next).2]
    · have hc' : ((ringF q).Code == 0) = false := by simpa using hc
      simp [putR, hc, hc', taskmilllaw_RingPuts_j7, taskmilllaw_RingPuts_j6, taskmilllaw_RingPuts_j5, taskmilllaw_noRing, taskmilllaw_RingPuts_j1, Bool.cond_eq_ite]
/-! ### Take -/
def takeR (q : Ring) : Ring × Int × Fault :=
  if (ringF q).Code ≠ 0 then (⟨0, []⟩, 0, ringF q)
  else match lineOf q with
    | [] => (⟨0, []⟩, 0, ⟨6, 0⟩)
    | t :: r => (⟨0, r⟩, t, ⟨0, 0⟩)
theorem take_eq (q : Ring) : ring_Take q = some ((takeR q).1.Next, (takeR q).2.1, (takeR q).2.2, (takeR q).1.List) := by
  unfold ring_Take takeR
  rw [check_eq]
  rcases ringF_ok q with ⟨ok, hf⟩ | hc
  · have hl := ok.len
    have hn := ok.next
    rw [copied_eq q (by omega)]
    simp only [hf, Option.bind_some, lineOf]
    by_cases h1 : 0 < q.Next
    · simp [h1]
    · have h2 : q.Next = 0 := by omega
      cases hq : q.List with
      | nil => simp [h2]
      | cons t r =>
        have h3 : (0 : Int) < ((r.length : Nat) : Int) + 1 := by omega
        have h4 : (1 : Int) ≤ ((r.length : Nat) : Int) + 1 := by omega
        have h5 : ¬ ((r.length : Nat) : Int) + 1 = 0 := by omega
        have h6 : cut (t :: r) 1 (((r.length : Nat) : Int) + 1) = r := by
          have := cut_drop' (t :: r) (n := 1) (i := 1) rfl
          simpa using this
        rw [hq] at hl
        simp [h2, h3, h4, h5, h6, clone_eq r (by simp at hl; omega), ix, Bool.cond_eq_ite]
  · simp [hc, Bool.cond_eq_ite]
theorem takes (q : Ring) : taskmilllaw_RingTakes q = some true := by
  unfold taskmilllaw_RingTakes
  rw [begun_eq]
  by_cases h0 : 2000 < q.List.length
  · have : (2000 : Int) < ((q.List.length : Nat) : Int) := by omega
    simp [this]
  · have h0' : ¬ (2000 : Int) < ((q.List.length : Nat) : Int) := by omega
    have hll := line_len q
    rw [ownRing_eq q (by omega)]
    simp only [Option.bind_some, Bool.not_true, cond_false, h0', decide_false, take_eq, refFault_eq, ring_eta]
    rw [line_eq q (by omega)]
    simp only [Option.bind_some, taskmilllaw_RingTakes_j3, F_eq, takeR]
    rcases ringF_ok q with ⟨ok, hf⟩ | hc
    · cases hL : lineOf q with
      | nil => simp [hf, taskmilllaw_noRing, taskmilllaw_RingTakes_j1]
      | cons t r =>
        have h3 : (0 : Int) < ((r.length : Nat) : Int) + 1 := by omega
        have h4 : (1 : Int) ≤ ((r.length : Nat) : Int) + 1 := by omega
        have h5 : ¬ ((r.length : Nat) : Int) + 1 = 0 := by omega
        have h6 : cut (t :: r) 1 (((r.length : Nat) : Int) + 1) = r := by
          have := cut_drop' (t :: r) (n := 1) (i := 1) rfl
          simpa using this
        rw [hL] at hll
        simp [hf, h3, h4, h5, h6, ix, taskmilllaw_RingTakes_j2, ints_eq r r (by simp at hll; omega), Bool.cond_eq_ite]
    · have hc' : ((ringF q).Code == 0) = false := by simpa using hc
      simp [hc, hc', taskmilllaw_noRing, taskmilllaw_RingTakes_j1, Bool.cond_eq_ite]
/-! ### Refill -/
def lowAt (g : List Int) (i : Nat) : Bool := decide (∃ x, g[i]? = some x ∧ x < 1)
def dupAt (a g : List Int) (i : Nat) : Bool := decide (∃ x, g[i]? = some x ∧ (x ∈ a ∨ x ∈ g.take i))
theorem low_at {g : List Int} {i : Nat} (h : i < g.length) : lowAt g i = decide (g[i] < 1) := by simp [lowAt, h]
theorem dup_at {a g : List Int} {i : Nat} (h : i < g.length) : dupAt a g i = decide (g[i] ∈ a ∨ g[i] ∈ g.take i) := by simp [dupAt, h]
def disjR (a b : List Int) : Int := match firstIf (dupAt a b) b.length with
  | some i => (i : Int)
  | none => -1
theorem disjoint_eq (a b : List Int) (ha : a.length < 4611686018427387904) (hb : b.length < 4611686018427387904) : ring_disjoint a b = some (disjR a b) := by
  unfold ring_disjoint
  have h1 := loopO_all (step := ring_disjoint_l2 a b) (fun i => (((i : Nat) : Int), setAll [] (a.take i))) (some (disjR a b)) a.length (fun i hi => ?_) ?_
  · simpa [setAll] using h1
  · simp only [ring_disjoint_l2, ix_get hi, setAll_snoc [] a i hi]
    simp [hi, wrap_n1 i (by omega)]
  · have h2 := loopO_if (step := ring_disjoint_l1 b) (fun i => (((i : Nat) : Int), setAll (setAll [] a) (b.take i))) (dupAt a b) (fun i => some (i : Int)) (some (-1)) b.length (fun i hi hp => ?_) (fun i hi hp => ?_) (fun _ => ?_)
    · have e : loopO (ring_disjoint_l1 b) (0, setAll [] a) = some (disjR a b) := by
        rw [show ((0 : Int), setAll [] a) = (((0 : Nat) : Int), setAll (setAll [] a) (b.take 0)) from rfl, h2]
        unfold disjR
        cases firstIf (dupAt a b) b.length <;> rfl
      simp [ring_disjoint_l2, e]
    · rw [dup_at hi] at hp
      have hn : ¬ (0 < miGet (setAll (setAll [] a) (b.take i)) b[i]) := by
        rw [miGet_setAll, miGet_setAll, miGet_nil]
        simp only [decide_eq_false_iff_not, not_or] at hp
        simp [hp.1, hp.2]
      simp only [ring_disjoint_l1, ix_get hi, setAll_snoc _ b i hi]
      simp [hi, hn, wrap_n1 i (by omega)]
    · rw [dup_at hi] at hp
      have hn : 0 < miGet (setAll (setAll [] a) (b.take i)) b[i] := by
        rw [miGet_setAll, miGet_setAll, miGet_nil]
        simp only [decide_eq_true_eq] at hp
        by_cases h : b[i] ∈ b.take i
        · simp [h]
        · simp [h, hp.resolve_right h]
      simp only [ring_disjoint_l1, ix_get hi]
      simp [hi, hn]
    · simp [ring_disjoint_l1]
def refN (q : Ring) (g : List Int) (procs : Int) : Nat := min (min (min (g.length / procs.toNat + 1) g.length) 128) (256 - q.List.length)
def refF (q : Ring) (g : List Int) (procs : Int) : Fault :=
  if (ringF q).Code ≠ 0 then ringF q else if 5000 < g.length then ⟨2, -1⟩ else match firstIf (lowAt g) g.length with
    | some i => ⟨5, i⟩
    | none => match firstIf (dupAt (lineOf q) g) g.length with
      | some i => ⟨8, i⟩
      | none => if procs < 1 ∨ 64 < procs then ⟨3, -1⟩ else ⟨0, 0⟩
def refillR (q : Ring) (g : List Int) (procs : Int) : Ring × List Int × Fault :=
  if (refF q g procs).Code ≠ 0 then (⟨0, []⟩, [], refF q g procs) else (⟨q.Next, q.List ++ g.take (refN q g procs)⟩, g.drop (refN q g procs), ⟨0, 0⟩)
theorem tdiv_eq (n : Nat) (p : Int) (h : 1 ≤ p) : Int.tdiv (n : Int) p = ((n / p.toNat : Nat) : Int) := by
  obtain ⟨k, rfl⟩ := Int.eq_ofNat_of_zero_le (show 0 ≤ p by omega)
  rfl
theorem refN_eq (q : Ring) (g : List Int) (procs : Int) (h1 : 1 ≤ procs) (h2 : q.List.length ≤ 256) (h3 : g.length ≤ 10000) :
    (min (min (min (IntKind.i64.wrap ((IntKind.i64.wrap (Int.tdiv ((g.length : Nat) : Int) procs)) + 1)) ((g.length : Nat) : Int)) 128) (IntKind.i64.wrap ((256 : Int) - ((q.List.length : Nat) : Int)))) = ((refN q g procs : Nat) : Int) := by
  have hd : g.length / procs.toNat ≤ g.length := Nat.div_le_self _ _
  rw [tdiv_eq _ _ h1]
  unfold refN
  generalize g.length / procs.toNat = d at hd ⊢
  rw [wrap_id (x := ((d : Nat) : Int)) (by omega) (by omega), wrap_id (by omega) (by omega), wrap_id (by omega) (by omega)]
  omega
theorem refill_eq (q : Ring) (g : List Int) (procs : Int) (hg : g.length ≤ 10000) : ring_Refill q g procs = some ((refillR q g procs).1.Next, (refillR q g procs).2.2, (refillR q g procs).1.List, (refillR q g procs).2.1) := by
  unfold ring_Refill refillR
  rw [check_eq]
  rcases ringF_ok q with ⟨ok, hf⟩ | hc
  · have hl := ok.len
    have hll := line_len q
    by_cases h5 : 5000 < g.length
    · have h5' : (5000 : Int) < ((g.length : Nat) : Int) := by omega
      simp [refF, hf, h5, h5']
    · have h5' : ¬ (5000 : Int) < ((g.length : Nat) : Int) := by omega
      have key := loopO_if (step := ring_Refill_l1 q g procs) (fun i => ((i : Nat) : Int)) (lowAt g) (fun i => some (0, ⟨5, i⟩, [], [])) (some ((match firstIf (dupAt (lineOf q) g) g.length with
          | some i => (0, ⟨8, i⟩, [], [])
          | none => if procs < 1 ∨ 64 < procs then (0, ⟨3, -1⟩, [], []) else (q.Next, ⟨0, 0⟩, q.List ++ g.take (refN q g procs), g.drop (refN q g procs))) : Int × Fault × List Int × List Int)) g.length (fun i hi hp => ?_) (fun i hi hp => ?_) (fun _ => ?_)
      · simp only [hf, h5', decide_false, Option.bind_some]
        rw [show (0 : Int) = ((0 : Nat) : Int) from rfl] at key ⊢
        simp only [bne_self_eq_false, cond_false]
        rw [key]
        simp only [refF, hf, h5, ne_eq, not_true_eq_false, if_false]
        cases firstIf (lowAt g) g.length with
        | some i => simp
        | none =>
          simp only
          cases firstIf (dupAt (lineOf q) g) g.length with
          | some i => simp
          | none =>
            simp only
            by_cases hp : procs < 1 ∨ 64 < procs <;> simp [hp]
      · rw [low_at hi] at hp
        simp only [decide_eq_false_iff_not] at hp
        simp [ring_Refill_l1, ix_get hi, hi, hp, wrap_n1 i (by omega)]
      · rw [low_at hi] at hp
        simp only [decide_eq_true_eq] at hp
        simp [ring_Refill_l1, ix_get hi, hi, hp]
      · simp only [ring_Refill_l1, Int.lt_irrefl, decide_false, cond_false]
        rw [all_eq q (by omega)]
        simp only [Option.bind_some]
        rw [disjoint_eq _ _ (by omega) (by omega)]
        simp only [Option.bind_some, disjR]
        cases firstIf (dupAt (lineOf q) g) g.length with
        | some i =>
          have : (0 : Int) ≤ (i : Int) := by omega
          simp [this]
        | none =>
          simp only
          by_cases hp : procs < 1 ∨ 64 < procs
          · have hp' : (decide (procs < 1) || decide (64 < procs)) = true := by simpa using hp
            simp [hp, hp']
          · have hp' : (decide (procs < 1) || decide (64 < procs)) = false := by simp at hp ⊢; omega
            have hp0 : (procs != 0) = true := by simp; omega
            have hN := refN_eq q g procs (by omega) hl hg
            have hle : refN q g procs ≤ g.length := by unfold refN; omega
            have hle' : ((refN q g procs : Nat) : Int) ≤ ((g.length : Nat) : Int) := by omega
            rw [copied_eq q (by omega)]
            simp only [hp', hp0, hN, cut_take, cut_drop, Option.bind_some]
            rw [clone_eq _ (by rw [List.length_drop]; omega)]
            have hb : (q.List.length + min (refN q g procs) g.length) * 8 ≤ 140737488355328 := by omega
            simp [hp, hle', hb]
  · simp [refF, hc, Bool.cond_eq_ite]
theorem refills (q : Ring) (g : List Int) (procs : Int) : taskmilllaw_RingRefills q g procs = some true := by
  unfold taskmilllaw_RingRefills
  rw [begun_eq]
  by_cases h0 : 2000 < q.List.length ∨ 6000 < g.length
  · have : (decide ((2000 : Int) < ((q.List.length : Nat) : Int)) || decide ((6000 : Int) < ((g.length : Nat) : Int))) = true := by simp; omega
    simp [this]
  · have h0' : (decide ((2000 : Int) < ((q.List.length : Nat) : Int)) || decide ((6000 : Int) < ((g.length : Nat) : Int))) = false := by simp; omega
    have hll := line_len q
    rw [ownRing_eq q (by omega), own_eq g (by omega)]
    simp only [Option.bind_some, Bool.not_true, cond_false, h0', ring_eta, refFault_eq, F_eq]
    rw [refill_eq q g procs (by omega)]
    simp only [Option.bind_some]
    -- the end of the law
    have fin : ∀ w : Fault, w = refF q g procs → taskmilllaw_RingRefills_j9 q g procs (refillR q g procs).1.Next (refillR q g procs).2.1 (refillR q g procs).2.2 (refillR q g procs).1.List w = some true := by
      rintro w rfl
      unfold taskmilllaw_RingRefills_j9 refillR
      by_cases hc : (refF q g procs).Code = 0
      · have hcases : OkR q ∧ ¬ (procs < 1 ∨ 64 < procs) ∧ refF q g procs = ⟨0, 0⟩ := by
          unfold refF at hc ⊢
          rcases ringF_ok q with ⟨ok, hf⟩ | hc'
          · simp only [hf, ne_eq, not_true_eq_false, if_false] at hc ⊢
            split at hc
            · simp at hc
            · split at hc
              · simp at hc
              · split at hc
                · simp at hc
                · split at hc
                  · simp at hc
                  · rename_i h1 _ h2 _ h3 h4
                    exact ⟨ok, h4, by simp [h1, h4]⟩
          · simp [hc'] at hc
        obtain ⟨ok, hp, hf⟩ := hcases
        have hl := ok.len
        have hN := refN_eq q g procs (by omega) hl (by omega)
        have hle : refN q g procs ≤ g.length := by unfold refN; omega
        have hle' : ((refN q g procs : Nat) : Int) ≤ ((g.length : Nat) : Int) := by omega
        have hp0 : (procs != 0) = true := by simp; omega
        simp only [hf, ne_eq, not_true_eq_false, if_false, beq_self_eq_true, Bool.and_self, Bool.not_true, cond_false, bne_self_eq_false, hp0, cond_true]
        have hb : (q.List.length + min (refN q g procs) g.length) * 8 ≤ 140737488355328 := by omega
        have j6 : taskmilllaw_RingRefills_j6 q g q.Next (g.drop (refN q g procs)) (q.List ++ g.take (refN q g procs)) ((refN q g procs : Nat) : Int) = some true := by
          unfold taskmilllaw_RingRefills_j6 taskmilllaw_RingRefills_j5
          rw [own_eq _ (by omega)]
          simp only [cut_take, cut_drop, Option.bind_some, beq_self_eq_true, cond_true]
          rw [ints_eq _ _ (by simp; omega), ints_eq _ _ (by simp; omega)]
          simp [hle', hb]
        unfold taskmilllaw_RingRefills_j8 taskmilllaw_RingRefills_j7
        rw [← hN] at j6
        generalize IntKind.i64.wrap ((IntKind.i64.wrap (Int.tdiv ((g.length : Nat) : Int) procs)) + 1) = A at j6 ⊢
        generalize IntKind.i64.wrap ((256 : Int) - ((q.List.length : Nat) : Int)) = B at j6 ⊢
        simp only [Bool.cond_eq_ite, decide_eq_true_eq]
        by_cases c1 : ((g.length : Nat) : Int) < A
        · rw [if_pos c1]
          by_cases c2 : 128 < ((g.length : Nat) : Int)
          · rw [if_pos c2]
            by_cases c3 : B < 128
            · rw [if_pos c3, show B = min (min (min A ((g.length : Nat) : Int)) 128) B from by omega]; exact j6
            · rw [if_neg c3, show (128 : Int) = min (min (min A ((g.length : Nat) : Int)) 128) B from by omega]; exact j6
          · rw [if_neg c2]
            by_cases c3 : B < ((g.length : Nat) : Int)
            · rw [if_pos c3, show B = min (min (min A ((g.length : Nat) : Int)) 128) B from by omega]; exact j6
            · rw [if_neg c3, show ((g.length : Nat) : Int) = min (min (min A ((g.length : Nat) : Int)) 128) B from by omega]; exact j6
        · rw [if_neg c1]
          by_cases c2 : 128 < A
          · rw [if_pos c2]
            by_cases c3 : B < 128
            · rw [if_pos c3, show B = min (min (min A ((g.length : Nat) : Int)) 128) B from by omega]; exact j6
            · rw [if_neg c3, show (128 : Int) = min (min (min A ((g.length : Nat) : Int)) 128) B from by omega]; exact j6
          · rw [if_neg c2]
            by_cases c3 : B < A
            · rw [if_pos c3, show B = min (min (min A ((g.length : Nat) : Int)) 128) B from by omega]; exact j6
            · rw [if_neg c3]
              have : A = min (min (min A ((g.length : Nat) : Int)) 128) B := by omega
              rw [← this] at j6; exact j6
      · have hc' : ((refF q g procs).Code == 0) = false := by simpa using hc
        simp [hc, hc', taskmilllaw_noRing, taskmilllaw_RingRefills_j4, Bool.cond_eq_ite]
    -- the loops
    have loop1 : ∀ w0 : Fault, (w0.Code = 0 → ¬ 5000 < g.length ∧ OkR q ∧ ringF q = ⟨0, 0⟩ ∧ w0 = ⟨0, 0⟩) → (w0.Code ≠ 0 → w0 = refF q g procs) → taskmilllaw_RingRefills_j10 q g procs (refillR q g procs).1.Next (refillR q g procs).2.1 (refillR q g procs).2.2 w0 (refillR q g procs).1.List = some true := by
      intro w0 hw hw'
      unfold taskmilllaw_RingRefills_j10
      have last : ∀ w : Fault, w = refF q g procs → w.Code ≠ 0 → ∀ i : Int, taskmilllaw_RingRefills_l1 q g procs (refillR q g procs).1.Next (refillR q g procs).2.1 (refillR q g procs).2.2 (refillR q g procs).1.List (i, w) = some (.inr true) := by
        intro w h1 h2 i
        have h2' : (w.Code == 0) = false := by simpa using h2
        simp only [taskmilllaw_RingRefills_l1, h2', Bool.and_false, Bool.false_and, cond_false, fin w h1]
        rfl
      by_cases hc : w0.Code = 0
      · obtain ⟨h5, ok, hf, rfl⟩ := hw hc
        have hl := ok.len
        have key := loopO_if2 (step := taskmilllaw_RingRefills_l2 q g procs (refillR q g procs).1.Next (refillR q g procs).2.1 (refillR q g procs).2.2 (refillR q g procs).1.List) (fun i => (((i : Nat) : Int), ⟨0, 0⟩)) (fun i => (((i + 1 : Nat) : Int), ⟨5, i⟩)) (lowAt g) (fun _ => some true) (some true) g.length (fun i hi hp => ?_) (fun i hi hp => ?_) (fun i hi hp => ?_) (fun hlow => ?_)
        · rw [show ((0 : Int), (⟨0, 0⟩ : Fault)) = (((0 : Nat) : Int), ⟨0, 0⟩) from rfl, key]
          cases firstIf (lowAt g) g.length <;> rfl
        · rw [low_at hi] at hp
          simp only [decide_eq_false_iff_not] at hp
          simp [taskmilllaw_RingRefills_l2, taskmilllaw_RingRefills_j1, ix_get hi, hi, hp, wrap_n1 i (by omega)]
        · rw [low_at hi] at hp
          simp only [decide_eq_true_eq] at hp
          simp [taskmilllaw_RingRefills_l2, taskmilllaw_RingRefills_j1, ix_get hi, hi, hp, wrap_n1 i (by omega)]
        · have := loopO_inr (last ⟨5, i⟩ (by simp [refF, hf, h5, hp]) (by simp) 0)
          simp [taskmilllaw_RingRefills_l2, this]
        · have hlow' : firstIf (lowAt g) g.length = none := firstIf_none.2 hlow
          have key2 := loopO_if2 (step := taskmilllaw_RingRefills_l1 q g procs (refillR q g procs).1.Next (refillR q g procs).2.1 (refillR q g procs).2.2 (refillR q g procs).1.List) (fun i => (((i : Nat) : Int), ⟨0, 0⟩)) (fun i => (((i + 1 : Nat) : Int), ⟨8, i⟩)) (dupAt (lineOf q) g) (fun _ => some true) (some true) g.length (fun i hi hp => ?_) (fun i hi hp => ?_) (fun i hi hp => ?_) (fun hdup => ?_)
          · have e : loopO (taskmilllaw_RingRefills_l1 q g procs (refillR q g procs).1.Next (refillR q g procs).2.1 (refillR q g procs).2.2 (refillR q g procs).1.List) (0, ⟨0, 0⟩) = some true := by
              rw [show ((0 : Int), (⟨0, 0⟩ : Fault)) = (((0 : Nat) : Int), ⟨0, 0⟩) from rfl, key2]
              cases firstIf (dupAt (lineOf q) g) g.length <;> rfl
            simp [taskmilllaw_RingRefills_l2, e]
          · rw [dup_at hi] at hp
            simp only [decide_eq_false_iff_not, not_or] at hp
            have hle : ((i : Nat) : Int) ≤ ((g.length : Nat) : Int) := by omega
            simp only [taskmilllaw_RingRefills_l1, taskmilllaw_RingRefills_j3, taskmilllaw_RingRefills_j2, ix_get hi, cut_take]
            rw [line_eq q (by omega)]
            simp only [Option.bind_some]
            rw [has_eq _ _ (by omega), has_eq _ _ (by rw [List.length_take]; omega)]
            simp [hi, hle, hp.1, hp.2, wrap_n1 i (by omega), Bool.cond_eq_ite]
          · rw [dup_at hi] at hp
            simp only [decide_eq_true_eq] at hp
            have hle : ((i : Nat) : Int) ≤ ((g.length : Nat) : Int) := by omega
            simp only [taskmilllaw_RingRefills_l1, taskmilllaw_RingRefills_j3, taskmilllaw_RingRefills_j2, ix_get hi, cut_take]
            rw [line_eq q (by omega)]
            simp only [Option.bind_some]
            rw [has_eq _ _ (by omega), has_eq _ _ (by rw [List.length_take]; omega)]
            by_cases hm : g[i] ∈ lineOf q
            · simp [hi, hm, wrap_n1 i (by omega)]
            · simp [hi, hle, hm, hp.resolve_left hm, wrap_n1 i (by omega)]
          · exact last ⟨8, i⟩ (by simp [refF, hf, h5, hlow', hp]) (by simp) _
          · have hdup' : firstIf (dupAt (lineOf q) g) g.length = none := firstIf_none.2 hdup
            by_cases hp : procs < 1 ∨ 64 < procs
            · have hp' : (decide (procs < 1) || decide (64 < procs)) = true := by simpa using hp
              simp [taskmilllaw_RingRefills_l1, hp', fin ⟨3, -1⟩ (by simp [refF, hf, h5, hlow', hdup', hp])]
            · have hp' : (decide (procs < 1) || decide (64 < procs)) = false := by simp at hp ⊢; omega
              simp [taskmilllaw_RingRefills_l1, hp', fin ⟨0, 0⟩ (by simp [refF, hf, h5, hlow', hdup', hp])]
      · have hc' : (w0.Code == 0) = false := by simpa using hc
        refine loopO_inr ?_
        simp only [taskmilllaw_RingRefills_l2, hc', Bool.and_false, cond_false, loopO_inr (last w0 (hw' hc) hc 0)]
        rfl
    by_cases h5 : (ringF q).Code = 0 ∧ 5000 < g.length
    · have h5' : ((ringF q).Code == 0 && decide ((5000 : Int) < ((g.length : Nat) : Int))) = true := by simp; omega
      simp only [h5', cond_true]
      exact loop1 _ (fun h => by simp at h) (fun _ => by simp [refF, h5])
    · have h5' : ((ringF q).Code == 0 && decide ((5000 : Int) < ((g.length : Nat) : Int))) = false := by
        cases hh : ((ringF q).Code == 0 && decide ((5000 : Int) < ((g.length : Nat) : Int))) with
        | false => rfl
        | true => exfalso; simp at hh; exact h5 ⟨hh.1, by omega⟩
      simp only [h5', cond_false]
      refine loop1 _ (fun h => ?_) (fun h => by simp [refF, h])
      rcases ringF_ok q with ⟨ok, hf⟩ | hc'
      · exact ⟨fun h6 => h5 ⟨h, h6⟩, ok, hf, hf⟩
      · exact absurd h hc'
/-! ### Steal -/
theorem ringF_of {q : Ring} (ok : OkR q) : ringF q = ⟨0, 0⟩ := by
  rcases ringF_ok q with ⟨_, h⟩ | h
  · exact h
  · exfalso
    have h1 := ok.len
    have h2 := ok.next
    have hn : firstAt (badAt q) q.List.length = none := (firstAt_none _).2 fun i hi => by
      simp only [badAt, List.getElem?_eq_getElem hi]
      have h3 := ok.pos q.List[i] (List.getElem_mem hi)
      rw [if_neg (by omega), if_neg]
      rintro (h4 | h4)
      · exact ok.out (h4 ▸ List.getElem_mem hi)
      · obtain ⟨j, hj, he⟩ := List.mem_take_iff_getElem.1 h4
        have hji : j < i := by omega
        have := (List.nodup_iff_pairwise_ne.1 ok.nodup)
        rw [List.pairwise_iff_getElem] at this
        exact this j i (by omega) hi hji he
    apply h
    unfold ringF
    rw [if_neg (by omega), if_neg (by omega), hn]; rfl
theorem line_nodup {q : Ring} (ok : OkR q) : (lineOf q).Nodup := by
  unfold lineOf
  split
  · exact List.nodup_cons.2 ⟨ok.out, ok.nodup⟩
  · exact ok.nodup
theorem nodup_take {α : Type} {l : List α} (h : l.Nodup) {i : Nat} (hi : i < l.length) : l[i] ∉ l.take i := fun hm => by
  obtain ⟨j, hj, he⟩ := List.mem_take_iff_getElem.1 hm
  have := List.nodup_iff_pairwise_ne.1 h
  rw [List.pairwise_iff_getElem] at this
  exact this j i (by omega) hi (by omega) he
def metR (a b : Ring) : Bool := (lineOf a).any fun x => decide (x ∈ lineOf b)
theorem met_disj (a b : Ring) (ok : OkR b) : (0 ≤ disjR (lineOf a) (lineOf b)) ↔ metR a b = true := by
  unfold disjR metR
  simp only [List.any_eq_true, decide_eq_true_eq]
  cases hf : firstIf (dupAt (lineOf a) (lineOf b)) (lineOf b).length with
  | some i =>
    obtain ⟨h1, h2, _⟩ := firstIf_some hf
    rw [dup_at h1] at h2
    simp only [decide_eq_true_eq] at h2
    have h3 := h2.resolve_right (nodup_take (line_nodup ok) h1)
    exact ⟨fun _ => ⟨_, h3, List.getElem_mem h1⟩, fun _ => by simp⟩
  | none =>
    have h := firstIf_none.1 hf
    refine ⟨fun h => by have h : (0 : Int) ≤ -1 := h; omega, fun ⟨x, h1, h2⟩ => ?_⟩
    obtain ⟨i, hi, rfl⟩ := List.getElem_of_mem h2
    have := h i hi
    rw [dup_at hi] at this
    simp only [decide_eq_false_iff_not, not_or] at this
    exact absurd h1 this.1
def stealF (a b : Ring) : Fault := if (ringF a).Code ≠ 0 then ringF a else if (ringF b).Code ≠ 0 then ringF b else if metR a b then ⟨8, 0⟩ else ⟨0, 0⟩
def stealN (a b : Ring) : Nat := min ((a.List.length + 1) / 2) (256 - b.List.length)
def stealR (a b : Ring) (next : Bool) : Ring × Ring × Int × Fault :=
  if (stealF a b).Code ≠ 0 then (⟨0, []⟩, ⟨0, []⟩, 0, stealF a b)
  else if a.List = [] then
    if next ∧ 0 < a.Next ∧ b.List.length < 256 then (⟨0, []⟩, ⟨b.Next, b.List ++ [a.Next]⟩, 1, ⟨0, 0⟩) else (a, b, 0, ⟨0, 0⟩)
  else (⟨a.Next, a.List.drop (stealN a b)⟩, ⟨b.Next, b.List ++ a.List.take (stealN a b)⟩, (stealN a b : Nat), ⟨0, 0⟩)
theorem stealF_cases (a b : Ring) : (stealF a b).Code ≠ 0 ∨ (OkR a ∧ OkR b ∧ metR a b = false ∧ ringF a = ⟨0, 0⟩ ∧ ringF b = ⟨0, 0⟩ ∧ stealF a b = ⟨0, 0⟩) := by
  unfold stealF
  rcases ringF_ok a with ⟨oka, hfa⟩ | hca
  · rcases ringF_ok b with ⟨okb, hfb⟩ | hcb
    · cases hm : metR a b with
      | true => left; simp [hfa, hfb]
      | false => right; exact ⟨oka, okb, rfl, hfa, hfb, by simp [hfa, hfb]⟩
    · left; simp [hfa, hcb]
  · left; simp [hca]
theorem steal_rest (a b : Ring) (next : Bool) (oka : OkR a) (okb : OkR b) (hfa : ringF a = ⟨0, 0⟩) (hfb : ringF b = ⟨0, 0⟩) : ring_Steal_l1 a b next 2 = (some ((stealR a b next).1.Next, (stealR a b next).2.1.Next, (stealR a b next).2.2.1, (stealR a b next).2.2.2, (stealR a b next).1.List, (stealR a b next).2.1.List)).map .inr := by
  have hla := oka.len
  have hlb := okb.len
  have hna := oka.next
  have hlla := line_len a
  have hllb := line_len b
  simp only [ring_Steal_l1, List.length_cons, List.length_nil, show decide ((2 : Int) < ((0 + 1 + 1 : Nat) : Int)) = false from rfl, cond_false]
  rw [all_eq a (by omega), all_eq b (by omega)]
  simp only [Option.bind_some]
  rw [disjoint_eq _ _ (by omega) (by omega)]
  simp only [Option.bind_some]
  have hmd := met_disj a b okb
  cases hm : metR a b with
  | true =>
    have hd : 0 ≤ disjR (lineOf a) (lineOf b) := hmd.2 hm
    simp [hd, stealR, stealF, hfa, hfb, hm]
  | false =>
    have hd : ¬ 0 ≤ disjR (lineOf a) (lineOf b) := fun h => by rw [hmd.1 h] at hm; cases hm
    have hs : stealF a b = ⟨0, 0⟩ := by simp [stealF, hfa, hfb, hm]
    rw [copied_eq a (by omega), copied_eq b (by omega)]
    simp only [hd, decide_false, cond_false, Option.bind_some, stealR, hs, ne_eq, not_true_eq_false, if_false]
    rw [wrap_id (x := 256 - ((b.List.length : Nat) : Int)) (by omega) (by omega)]
    by_cases he : a.List = []
    · have e1 : ((256 : Int) - ((b.List.length : Nat) : Int) == 0) = !decide (b.List.length < 256) := by
        rw [Bool.eq_iff_iff]; simp; omega
      have e2 : (a.Next == 0) = !decide (0 < a.Next) := by rw [Bool.eq_iff_iff]; simp; omega
      have hb : (b.List.length + 1) * 8 ≤ 140737488355328 := by omega
      simp only [he, List.length_nil, e1, e2]
      cases next <;> by_cases h1 : 0 < a.Next <;> by_cases h2 : b.List.length < 256 <;> simp [h1, h2, hb, he]
    · have hpos : 0 < a.List.length := List.length_pos_iff.2 he
      have e0 : (((a.List.length : Nat) : Int) == 0) = false := by simp [he]
      have hN : min (IntKind.i64.wrap (((a.List.length : Nat) : Int) - (IntKind.i64.wrap (Int.tdiv ((a.List.length : Nat) : Int) 2)))) (256 - ((b.List.length : Nat) : Int)) = ((stealN a b : Nat) : Int) := by
        rw [tdiv_eq _ 2 (by omega), show (2 : Int).toNat = 2 from rfl, wrap_id (x := ((a.List.length / 2 : Nat) : Int)) (by omega) (by omega), wrap_id (by omega) (by omega)]
        unfold stealN
        omega
      have hle : stealN a b ≤ a.List.length := by unfold stealN; omega
      have hle' : ((stealN a b : Nat) : Int) ≤ ((a.List.length : Nat) : Int) := by omega
      have hb : (b.List.length + min (stealN a b) a.List.length) * 8 ≤ 140737488355328 := by omega
      simp only [e0, cond_false, hN, cut_take, cut_drop]
      rw [clone_eq _ (by rw [List.length_drop]; omega)]
      simp [he, hle', hb]
theorem steal_eq (a b : Ring) (next : Bool) : ring_Steal a b next = some ((stealR a b next).1.Next, (stealR a b next).2.1.Next, (stealR a b next).2.2.1, (stealR a b next).2.2.2, (stealR a b next).1.List, (stealR a b next).2.1.List) := by
  unfold ring_Steal
  have s0 : ring_Steal_l1 a b next 0 = if (ringF a).Code ≠ 0 then some (.inr (0, 0, 0, ringF a, [], [])) else some (.inl 1) := by
    have e : ix [a, b] (0 : Int) = a := rfl
    simp [ring_Steal_l1, e, check_eq, Bool.cond_eq_ite, show IntKind.i64.wrap 1 = 1 from by decide]
  have s1 : ring_Steal_l1 a b next 1 = if (ringF b).Code ≠ 0 then some (.inr (0, 0, 0, ringF b, [], [])) else some (.inl 2) := by
    have e : ix [a, b] (1 : Int) = b := rfl
    simp [ring_Steal_l1, e, check_eq, Bool.cond_eq_ite, show IntKind.i64.wrap 2 = 2 from by decide]
  rcases ringF_ok a with ⟨oka, hfa⟩ | hca
  · rw [hfa] at s0
    rw [loopO_inl (show ring_Steal_l1 a b next 0 = some (.inl 1) by rw [s0]; simp)]
    rcases ringF_ok b with ⟨okb, hfb⟩ | hcb
    · rw [hfb] at s1
      rw [loopO_inl (show ring_Steal_l1 a b next 1 = some (.inl 2) by rw [s1]; simp)]
      exact loopO_out (steal_rest a b next oka okb hfa hfb)
    · rw [if_pos hcb] at s1
      rw [loopO_inr s1]
      simp [stealR, stealF, hfa, hcb]
  · rw [if_pos hca] at s0
    rw [loopO_inr s0]
    simp [stealR, stealF, hca]
theorem steals (a b : Ring) (next : Bool) : taskmilllaw_RingSteals a b next = some true := by
  unfold taskmilllaw_RingSteals
  rw [begun_eq]
  by_cases h0 : 2000 < a.List.length ∨ 2000 < b.List.length
  · have : (decide ((2000 : Int) < ((a.List.length : Nat) : Int)) || decide ((2000 : Int) < ((b.List.length : Nat) : Int))) = true := by simp; omega
    simp [this]
  · have h0' : (decide ((2000 : Int) < ((a.List.length : Nat) : Int)) || decide ((2000 : Int) < ((b.List.length : Nat) : Int))) = false := by simp; omega
    have hlla := line_len a
    have hllb := line_len b
    rw [ownRing_eq a (by omega), ownRing_eq b (by omega)]
    simp only [Option.bind_some, Bool.not_true, cond_false, h0', ring_eta, refFault_eq, steal_eq]
    -- the end of the law
    have fin : ∀ (i : Int) (w : Fault), (w.Code ≠ 0 ∨ ¬ i < (((lineOf a).length : Nat) : Int)) → w = stealF a b → taskmilllaw_RingSteals_l1 a b next (stealR a b next).2.2.1 (stealR a b next).1.Next (stealR a b next).2.1.Next (stealR a b next).2.2.2 (stealR a b next).1.List (stealR a b next).2.1.List (i, w, lineOf a) = some (.inr true) := by
      rintro i w hw rfl
      have hstop : (decide (i < (((lineOf a).length : Nat) : Int)) && ((stealF a b).Code == 0)) = false := by
        rcases hw with hw | hw
        · simp [hw]
        · simp [hw]
      simp only [taskmilllaw_RingSteals_l1, hstop, cond_false]
      rcases stealF_cases a b with hc | ⟨oka, okb, hm, hfa, hfb, hs⟩
      · have hc' : ((stealF a b).Code == 0) = false := by simpa using hc
        simp [stealR, hc, hc', taskmilllaw_noRing, taskmilllaw_RingSteals_j2, Bool.cond_eq_ite]
      · have hla := oka.len
        have hlb := okb.len
        have hna := oka.next
        simp only [stealR, hs, ne_eq, not_true_eq_false, if_false]
        rw [wrap_id (x := 256 - ((b.List.length : Nat) : Int)) (by omega) (by omega)]
        by_cases he : a.List = []
        · have e1 : decide ((0 : Int) < 256 - ((b.List.length : Nat) : Int)) = decide (b.List.length < 256) := by
            rw [Bool.eq_iff_iff]; simp; omega
          have hb : (b.List.length + 1) * 8 ≤ 140737488355328 := by omega
          simp only [he, List.length_nil, e1]
          cases next <;> by_cases h1 : 0 < a.Next <;> by_cases h2 : b.List.length < 256 <;>
            simp [h1, h2, hb, taskmilllaw_noRing, taskmilllaw_RingSteals_j3, taskmilllaw_RingSteals_j4, own_eq b.List (by omega), ints_eq (b.List ++ [a.Next]) _ (by simp; omega), same_eq a a (by omega), same_eq b b (by omega)]
        · have hpos : 0 < a.List.length := List.length_pos_iff.2 he
          have e0 : (((a.List.length : Nat) : Int) == 0) = false := by simp [he]
          have hle : stealN a b ≤ a.List.length := by unfold stealN; omega
          have hle' : ((stealN a b : Nat) : Int) ≤ ((a.List.length : Nat) : Int) := by omega
          have hb : (b.List.length + min (stealN a b) a.List.length) * 8 ≤ 140737488355328 := by omega
          have j6 : taskmilllaw_RingSteals_j6 a b ((stealN a b : Nat) : Int) a.Next b.Next (a.List.drop (stealN a b)) (b.List ++ a.List.take (stealN a b)) ((stealN a b : Nat) : Int) = some true := by
            unfold taskmilllaw_RingSteals_j6 taskmilllaw_RingSteals_j5
            rw [own_eq _ (by omega)]
            simp only [cut_take, cut_drop, Option.bind_some, beq_self_eq_true, cond_true]
            rw [ints_eq _ _ (by simp; omega), ints_eq _ _ (by simp; omega)]
            simp [hle', hb]
          rw [wrap_id (x := ((a.List.length : Nat) : Int) + 1) (by omega) (by omega), show ((a.List.length : Nat) : Int) + 1 = ((a.List.length + 1 : Nat) : Int) from rfl, tdiv_eq _ 2 (by omega), show (2 : Int).toNat = 2 from rfl, wrap_id (x := (((a.List.length + 1) / 2 : Nat) : Int)) (by omega) (by omega)]
          simp only [he, if_false, e0, cond_false, beq_self_eq_true, Bool.and_self, Bool.not_true, bne_self_eq_false]
          by_cases c1 : (256 - ((b.List.length : Nat) : Int)) < (((a.List.length + 1) / 2 : Nat) : Int)
          · have e : (256 - ((b.List.length : Nat) : Int)) = ((stealN a b : Nat) : Int) := by unfold stealN; omega
            rw [e] at c1 ⊢
            rw [decide_eq_true c1, cond_true, j6]; rfl
          · have e : (((a.List.length + 1) / 2 : Nat) : Int) = ((stealN a b : Nat) : Int) := by unfold stealN; omega
            rw [e] at c1 ⊢
            rw [decide_eq_false c1, cond_false, j6]; rfl
    have j7 : ∀ w0 : Fault, (w0.Code ≠ 0 → w0 = stealF a b) → (w0.Code = 0 → w0 = ⟨0, 0⟩ ∧ ringF a = ⟨0, 0⟩ ∧ ringF b = ⟨0, 0⟩) → taskmilllaw_RingSteals_j7 a b next (stealR a b next).2.2.1 (stealR a b next).1.Next (stealR a b next).2.1.Next (stealR a b next).2.2.2 w0 (stealR a b next).1.List (stealR a b next).2.1.List = some true := by
      intro w0 hw hw'
      unfold taskmilllaw_RingSteals_j7
      rw [line_eq a (by omega)]
      simp only [Option.bind_some]
      by_cases hc : w0.Code = 0
      · obtain ⟨rfl, hfa, hfb⟩ := hw' hc
        have key := loopO_if2 (step := taskmilllaw_RingSteals_l1 a b next (stealR a b next).2.2.1 (stealR a b next).1.Next (stealR a b next).2.1.Next (stealR a b next).2.2.2 (stealR a b next).1.List (stealR a b next).2.1.List) (fun i => (((i : Nat) : Int), (⟨0, 0⟩ : Fault), lineOf a)) (fun i => (((i + 1 : Nat) : Int), (⟨8, 0⟩ : Fault), lineOf a)) (fun i => decide (∃ x, (lineOf a)[i]? = some x ∧ x ∈ lineOf b)) (fun _ => some true) (some true) (lineOf a).length (fun i hi hp => ?_) (fun i hi hp => ?_) (fun i hi hp => ?_) (fun hno => ?_)
        · rw [show ((0 : Int), (⟨0, 0⟩ : Fault), lineOf a) = (((0 : Nat) : Int), (⟨0, 0⟩ : Fault), lineOf a) from rfl, key]
          split <;> rfl
        · have hp' : ¬ (lineOf a)[i] ∈ lineOf b := by simpa [hi] using hp
          simp only [taskmilllaw_RingSteals_l1, taskmilllaw_RingSteals_j1, ix_get hi]
          rw [line_eq b (by omega)]
          simp only [Option.bind_some]
          rw [has_eq _ _ (by omega)]
          simp [hi, hp', wrap_n1 i (by omega)]
        · have hp' : (lineOf a)[i] ∈ lineOf b := by simpa [hi] using hp
          simp only [taskmilllaw_RingSteals_l1, taskmilllaw_RingSteals_j1, ix_get hi]
          rw [line_eq b (by omega)]
          simp only [Option.bind_some]
          rw [has_eq _ _ (by omega)]
          simp [hi, hp', wrap_n1 i (by omega)]
        · obtain ⟨h1, h2, _⟩ := firstIf_some hp
          have hp' : (lineOf a)[i] ∈ lineOf b := by simpa [h1] using h2
          have hm : metR a b = true := by
            unfold metR; simp only [List.any_eq_true, decide_eq_true_eq]; exact ⟨_, List.getElem_mem h1, hp'⟩
          exact fin _ _ (.inl (by simp)) (by simp [stealF, hfa, hfb, hm])
        · have hm : metR a b = false := by
            cases hm : metR a b with
            | false => rfl
            | true =>
              unfold metR at hm
              simp only [List.any_eq_true, decide_eq_true_eq] at hm
              obtain ⟨x, h1, h2⟩ := hm
              obtain ⟨i, hi, rfl⟩ := List.getElem_of_mem h1
              have := hno i hi
              simp [hi, h2] at this
          exact fin _ _ (.inr (by omega)) (by simp [stealF, hfa, hfb, hm])
      · exact loopO_inr (fin _ _ (.inl hc) (hw hc))
    rcases ringF_ok a with ⟨oka, hfa⟩ | hca
    · simp only [hfa, beq_self_eq_true, cond_true]
      refine j7 _ (fun h => by simp [stealF, hfa, h]) (fun h => ?_)
      rcases ringF_ok b with ⟨okb, hfb⟩ | hcb
      · exact ⟨hfb, hfa, hfb⟩
      · exact absurd h hcb
    · have hc' : ((ringF a).Code == 0) = false := by simpa using hca
      simp only [hc', cond_false]
      exact j7 _ (fun h => by simp [stealF, h]) (fun h => absurd h hca)
/-! ### What is put and taken without faults -/
theorem line_mk0 (l : List Int) : lineOf ⟨0, l⟩ = l := by simp [lineOf]
theorem put_ok {q : Ring} (ok : OkR q) {t : Int} (ht : 1 ≤ t) (hn : t ∉ lineOf q) (hl : q.List.length < 256) : putR q t false = (⟨q.Next, q.List ++ [t]⟩, [], ⟨0, 0⟩) := by
  have h1 : ¬ t < 1 := by omega
  simp [putR, ringF_of ok, h1, hn, putL, hl]
theorem take_ok {q : Ring} (ok : OkR q) {t : Int} {r : List Int} (h : lineOf q = t :: r) : takeR q = (⟨0, r⟩, t, ⟨0, 0⟩) := by
  simp [takeR, ringF_of ok, h]
theorem take_none {q : Ring} (ok : OkR q) (h : lineOf q = []) : takeR q = (⟨0, []⟩, 0, ⟨6, 0⟩) := by
  simp [takeR, ringF_of ok, h]
/-- The numbers from 1 on, so many. -/
def upto (n : Nat) : List Int := (List.range n).map fun i => ((i : Nat) : Int) + 1
theorem upto_len (n : Nat) : (upto n).length = n := by simp [upto]
theorem upto_succ (n : Nat) : upto (n + 1) = upto n ++ [((n : Nat) : Int) + 1] := by simp [upto, List.range_succ]
theorem mem_upto {n : Nat} {x : Int} : x ∈ upto n ↔ 1 ≤ x ∧ x ≤ n := by
  simp only [upto, List.mem_map, List.mem_range]
  constructor
  · rintro ⟨i, h, rfl⟩; omega
  · intro h; exact ⟨(x - 1).toNat, by omega, by omega⟩
theorem upto_nodup (n : Nat) : (upto n).Nodup := by
  induction n with
  | zero => simp [upto]
  | succ n ih =>
    rw [upto_succ, List.nodup_append]
    refine ⟨ih, by simp, fun a ha b hb => ?_⟩
    have := mem_upto.1 ha
    simp only [List.mem_singleton] at hb
    omega
theorem upto_get {n i : Nat} (h : i < n) : (upto n)[i]'(by rw [upto_len]; exact h) = ((i : Nat) : Int) + 1 := by simp [upto]
theorem upto_drop {n i : Nat} (h : i < n) : (upto n).drop i = (((i : Nat) : Int) + 1) :: (upto n).drop (i + 1) := by
  rw [List.drop_eq_getElem_cons (by rw [upto_len]; exact h), upto_get h]
theorem ok0 {l : List Int} (h1 : l.length ≤ 256) (h2 : ∀ x ∈ l, 1 ≤ x) (h3 : l.Nodup) : OkR ⟨0, l⟩ :=
  ⟨h1, by show (0 : Int) ≤ 0; omega, h2, h3, fun h => by have := h2 _ h; simp at this⟩
theorem order (n : Int) : taskmilllaw_RingOrder n = some true := by
  unfold taskmilllaw_RingOrder
  rw [begun_eq]
  by_cases h0 : n < 0 ∨ 256 < n
  · have : (decide (n < 0) || decide (256 < n)) = true := by simpa using h0
    simp [this]
  · have h0' : (decide (n < 0) || decide (256 < n)) = false := by simp at h0 ⊢; omega
    obtain ⟨m, rfl⟩ := Int.eq_ofNat_of_zero_le (show 0 ≤ n by omega)
    simp only [Option.bind_some, Bool.not_true, cond_false, h0']
    have hm : m ≤ 256 := by omega
    have okd : ∀ i, OkR ⟨0, (upto m).drop i⟩ := fun i => ok0 (by rw [List.length_drop, upto_len]; omega) (fun x hx => (mem_upto.1 (List.mem_of_mem_drop hx)).1) ((List.drop_sublist _ _).nodup (upto_nodup m))
    have oku : ∀ i, i ≤ m → OkR ⟨0, upto i⟩ := fun i hi => ok0 (by rw [upto_len]; omega) (fun x hx => (mem_upto.1 hx).1) (upto_nodup i)
    have k1 := loopO_all (step := taskmilllaw_RingOrder_l1 (m : Int)) (fun i => (((i : Nat) : Int) + 1, (0 : Int), (upto m).drop i)) (some true) m (fun i hi => ?_) ?_
    · have k2 := loopO_all (step := taskmilllaw_RingOrder_l2 (m : Int)) (fun i => (((i : Nat) : Int) + 1, (0 : Int), upto i)) (some true) m (fun i hi => ?_) ?_
      · exact k2
      · have hn : (((i : Nat) : Int) + 1) ∉ lineOf ⟨0, upto i⟩ := by rw [line_mk0, mem_upto]; omega
        have := put_ok (oku i (by omega)) (t := ((i : Nat) : Int) + 1) (by omega) hn (by show (upto i).length < 256; rw [upto_len]; omega)
        simp only [taskmilllaw_RingOrder_l2, put_eq, this, upto_succ, Option.bind_some]
        have hle : ((i : Nat) : Int) + 1 ≤ (m : Int) := by omega
        simp [hle, wrap_id (x := ((i : Nat) : Int) + 1 + 1) (by omega) (by omega)]
      · have hle : ¬ ((m : Nat) : Int) + 1 ≤ (m : Int) := by omega
        simp only [taskmilllaw_RingOrder_l2, hle, decide_false, cond_false]
        have : loopO (taskmilllaw_RingOrder_l1 (m : Int)) (1, 0, upto m) = some true := k1
        rw [this]
    · have := take_ok (okd i) ((line_mk0 _).trans (upto_drop hi))
      simp only [taskmilllaw_RingOrder_l1, take_eq, this, Option.bind_some]
      have hle : ((i : Nat) : Int) + 1 ≤ (m : Int) := by omega
      simp [hle, wrap_id (x := ((i : Nat) : Int) + 1 + 1) (by omega) (by omega)]
    · have he : (upto m).drop m = [] := by rw [List.drop_eq_nil_iff, upto_len]; omega
      have := take_none (okd m) ((line_mk0 _).trans he)
      have hle : ¬ ((m : Nat) : Int) + 1 ≤ (m : Int) := by omega
      simp only [taskmilllaw_RingOrder_l1, take_eq, this, hle, decide_false, cond_false, Option.bind_some, F_eq]
      rfl
theorem next (q : Ring) (task : Int) : taskmilllaw_RingNext q task = some true := by
  unfold taskmilllaw_RingNext
  rw [begun_eq]
  simp only [Option.bind_some, Bool.not_true, cond_false, refFault_eq]
  have jt : taskmilllaw_RingNext_j2 q task true = some true := by simp [taskmilllaw_RingNext_j2]
  by_cases h0 : 255 < q.List.length
  · have : (255 : Int) < ((q.List.length : Nat) : Int) := by omega
    simp [this, jt]
  · have h0' : ¬ (255 : Int) < ((q.List.length : Nat) : Int) := by omega
    simp only [h0', decide_false, cond_false, jt]
    rcases ringF_ok q with ⟨ok, hf⟩ | hc
    · by_cases h1 : task < 1
      · simp [hf, h1]
      · have hll := line_len q
        rw [line_eq q (by omega)]
        simp only [Option.bind_some]
        rw [has_eq _ _ (by omega)]
        by_cases h2 : task ∈ lineOf q
        · simp [hf, h1, h2, jt]
        · have hnx := ok.next
          simp only [hf, h1, h2, decide_false, cond_false, Option.bind_some, bne_self_eq_false]
          unfold taskmilllaw_RingNext_j2 taskmilllaw_RingNext_j1
          simp only [cond_false, put_eq, Option.bind_some]
          -- what is taken in the end
          have loop : ∀ want : List Int, OkR ⟨0, want⟩ ∨ True → ∀ (p : Ring), OkR p → lineOf p = want → want.length < 1000 → loopO (taskmilllaw_RingNext_l1 want) (0, p.Next, p.List) = some true := by
            intro want _ p okp hp hw
            have key := loopO_all (step := taskmilllaw_RingNext_l1 want) (fun i => match i with | 0 => ((0 : Int), p.Next, p.List) | i + 1 => (((i + 1 : Nat) : Int), (0 : Int), want.drop (i + 1))) (some true) want.length (fun i hi => ?_) ?_
            · exact key
            · have hd : want.drop i = want[i] :: want.drop (i + 1) := List.drop_eq_getElem_cons hi
              have step : ∀ (r : Ring), OkR r → lineOf r = want.drop i → taskmilllaw_RingNext_l1 want (((i : Nat) : Int), r.Next, r.List) = some (.inl (((i + 1 : Nat) : Int), (0 : Int), want.drop (i + 1))) := by
                intro r okr hr
                have := take_ok okr (hr.trans hd)
                simp only [taskmilllaw_RingNext_l1, take_eq, ring_eta, this, Option.bind_some, ix_get hi]
                simp [hi, wrap_n1 i (by omega)]
              cases i with
              | zero => exact step p okp hp
              | succ i =>
                refine step ⟨0, want.drop (i + 1)⟩ (ok0 ?_ (fun x hx => ?_) ?_) (line_mk0 _)
                · have h3 := okp.len
                  have h4 := line_len p
                  rw [hp] at h4
                  rw [List.length_drop]; omega
                · have hx2 : x ∈ lineOf p := hp ▸ List.mem_of_mem_drop hx
                  unfold lineOf at hx2
                  split at hx2
                  · rcases List.mem_cons.1 hx2 with h | h
                    · omega
                    · exact okp.pos x h
                  · exact okp.pos x hx2
                · exact (List.drop_sublist _ _).nodup (hp ▸ line_nodup okp)
            · cases hwl : want.length with
              | zero =>
                have hw0 : want = [] := List.eq_nil_of_length_eq_zero hwl
                subst hw0
                have hpn : p.Next = 0 ∧ p.List = [] := by
                  unfold lineOf at hp
                  have := okp.next
                  split at hp
                  · cases hp
                  · exact ⟨by omega, hp⟩
                simp [taskmilllaw_RingNext_l1, taskmilllaw_noRing, hpn.1, hpn.2]
              | succ n =>
                have he : want.drop (n + 1) = [] := by rw [List.drop_eq_nil_iff]; omega
                simp [taskmilllaw_RingNext_l1, taskmilllaw_noRing, hwl, he]
          have b1 : (q.List.length + 1) * 8 ≤ 140737488355328 := by omega
          have b2 : (q.List.length + 1 + 1) * 8 ≤ 140737488355328 := by omega
          by_cases h3 : q.Next = 0
          · have hln : lineOf q = q.List := by simp [lineOf, h3]
            rw [hln] at h2
            have hl2 := loop (task :: q.List) (.inr trivial) ⟨task, q.List⟩ ⟨by show q.List.length ≤ 256; omega, by show 0 ≤ task; omega, ok.pos, ok.nodup, h2⟩ (by simp [lineOf]; omega) (by simp; omega)
            simp [putR, hf, h1, hln, h2, h3, b1, hl2]
          · have h4 : 0 < q.Next := by omega
            have hln : lineOf q = q.Next :: q.List := by simp [lineOf, h4]
            have hlt : q.List.length < 256 := by omega
            have h5 : task ≠ q.Next ∧ task ∉ q.List := by rw [hln] at h2; simpa using h2
            have hl2 := loop (task :: (q.List ++ [q.Next])) (.inr trivial) ⟨task, q.List ++ [q.Next]⟩ ⟨by simp; omega, by show 0 ≤ task; omega, fun x hx => by
                rcases List.mem_append.1 hx with hx | hx
                · exact ok.pos x hx
                · simp only [List.mem_singleton] at hx; omega, by
                rw [List.nodup_append]
                exact ⟨ok.nodup, by simp, fun a ha b hb => by simp only [List.mem_singleton] at hb; subst hb; exact fun e => ok.out (e ▸ ha)⟩, by
                simp only [List.mem_append, List.mem_singleton, not_or]; exact ⟨h5.2, h5.1⟩⟩ (by simp [lineOf]; omega) (by simp; omega)
            simp [putR, hf, h1, hln, h5.1, h5.2, h3, h4, b1, b2, putL, hlt, hl2]
    · simp [hc, Bool.cond_eq_ite]
end Go.Proofs.Ytgmklpakhdladaa
