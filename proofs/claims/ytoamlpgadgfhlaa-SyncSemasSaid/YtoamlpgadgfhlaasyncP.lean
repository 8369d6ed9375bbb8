/-
  What laws of the chapter sync compute, and lemmas on it.
  No conditions.
-/
import Derived.Test.YtoamlpgadgfhlaasyncG
import Derived.Test.YtoamlpgadgfhlaaPA
set_option linter.unusedSimpArgs false
set_option linter.unusedVariables false
namespace Go.Proofs.Ytoamlpgadgfhlaa
open Go Go.Sx
/-! ### Functions of many seats -/
@[simp] theorem F_eq (c a : Int) : taskmillref_F c a = some ⟨c, a⟩ := rfl
@[simp] theorem fault_eq (c a : Int) : sync_fault c a = some ⟨c, a⟩ := rfl
theorem clone_eq (s : List Int) (h : s.length ≤ 10000000) : slices_Clone_int s = some s := by
  have : s.length * 8 ≤ 140737488355328 := by omega
  simp [slices_Clone_int, this]
theorem own_eq (s : List Int) (h : s.length ≤ 10000000) : taskmilllaw_own s = some s := by
  have : s.length * 8 ≤ 140737488355328 := by omega
  simp [taskmilllaw_own, this]
theorem ints_eq (a b : List Int) (hn : a.length < 4611686018427387904) : taskmillref_Ints a b = some (decide (a = b)) := by
  unfold taskmillref_Ints
  by_cases hl : a.length = b.length
  · have := ints_gen a b hl hn (fun i => rfl : ∀ i, taskmillref_Ints_l1 a b i = _)
    simp [hl] at this ⊢
    exact this
  · have : a ≠ b := fun e => hl (by rw [e])
    have h2 : ((a.length : Int) != (b.length : Int)) = true := by simp; omega
    simp [h2, this]
theorem has_eq (l : List Int) (n : Int) (hn : l.length < 4611686018427387904) : taskmillref_Has l n = some (decide (n ∈ l)) := has_gen l n hn fun i => rfl
theorem contains_eq (l : List Int) (n : Int) (hn : l.length < 4611686018427387904) : slices_Contains_int l n = some (decide (n ∈ l)) := by
  unfold slices_Contains_int slices_Index_int
  obtain ⟨r, h1, h2, h3⟩ := index_gen l n hn (fun i => rfl : ∀ i, slices_Index_int_l1 l n i = _)
  rw [h1]
  by_cases h : n ∈ l
  · obtain ⟨i, rfl, _⟩ := h2 h
    simp [h]
  · rw [h3 h]; simp [h]
/-! ### Lines of tasks -/
def lbad (l : List Int) (i : Nat) : Option Fault := match l[i]? with
  | none => none
  | some x => if x < 1 then some ⟨3, (i + 1 : Nat)⟩ else if x ∈ l.take i then some ⟨10, (i + 1 : Nat)⟩ else none
def lineF (l : List Int) : Fault := if 5000 < l.length then ⟨2, 0⟩ else (firstAt (lbad l) l.length).getD ⟨0, 0⟩
theorem line_eq (l : List Int) : sync_line l = some (lineF l) := by
  unfold sync_line lineF
  by_cases h1 : 5000 < l.length
  · have : (5000 : Int) < (l.length : Int) := by omega
    simp [h1, this]
  · have h1' : ¬ (5000 : Int) < (l.length : Int) := by omega
    simp only [h1, h1', decide_false, cond_false, if_false]
    have hin : ∀ i x, (0 < miGet (setAll [] (l.take i)) x ↔ x ∈ l.take i) := fun i x => by
      rw [miGet_setAll, miGet_nil]
      by_cases hm : x ∈ l.take i <;> simp [hm]
    have := loopO_findD (step := sync_line_l1 l) (fun i => (((i : Nat) : Int), setAll [] (l.take i))) (lbad l) ⟨0, 0⟩ l.length (fun i hi hb => ?_) (fun i r hi hb => ?_) (fun _ => ?_)
    · simpa [setAll] using this
    · simp only [lbad, List.getElem?_eq_getElem hi] at hb
      split at hb
      · cases hb
      · rename_i hx
        split at hb
        · cases hb
        · rename_i hy
          have hy' := mt (hin i l[i]).1 hy
          simp only [sync_line_l1, ix_get hi, setAll_snoc [] l i hi]
          simp [hi, hx, hy', wrap_n1 i (by omega), Bool.cond_eq_ite]
    · simp only [lbad, List.getElem?_eq_getElem hi] at hb
      simp only [sync_line_l1, ix_get hi]
      split at hb
      · rename_i hx
        cases hb
        simp [hi, hx, wrap_n1 i (by omega), Bool.cond_eq_ite]
      · rename_i hx
        split at hb
        · rename_i hy
          cases hb
          have hy' := (hin i l[i]).2 hy
          simp [hi, hx, hy', wrap_n1 i (by omega), Bool.cond_eq_ite]
        · cases hb
    · simp [sync_line_l1]
theorem refLine_eq (l : List Int) : taskmillref_LineFault l = some (lineF l) := by
  unfold taskmillref_LineFault lineF
  by_cases h1 : 5000 < l.length
  · have : (5000 : Int) < (l.length : Int) := by omega
    simp [h1, this]
  · have h1' : ¬ (5000 : Int) < (l.length : Int) := by omega
    simp only [h1, h1', decide_false, cond_false, if_false]
    have := loopO_findD (step := taskmillref_LineFault_l1 l) (fun i => ((i : Nat) : Int)) (lbad l) ⟨0, 0⟩ l.length (fun i hi hb => ?_) (fun i r hi hb => ?_) (fun _ => ?_)
    · exact this
    · simp only [lbad, List.getElem?_eq_getElem hi] at hb
      split at hb
      · cases hb
      · rename_i hx
        split at hb
        · cases hb
        · rename_i hm
          have hle : ((i : Nat) : Int) ≤ (l.length : Int) := by omega
          simp only [taskmillref_LineFault_l1, ix_get hi, cut_take]
          rw [has_eq _ _ (by rw [List.length_take]; omega)]
          simp [hi, hx, hm, hle, wrap_n1 i (by omega), Bool.cond_eq_ite]
    · simp only [lbad, List.getElem?_eq_getElem hi] at hb
      have hle : ((i : Nat) : Int) ≤ (l.length : Int) := by omega
      simp only [taskmillref_LineFault_l1, ix_get hi, cut_take]
      rw [has_eq _ _ (by rw [List.length_take]; omega)]
      split at hb
      · rename_i hx
        cases hb
        simp [hi, hx, wrap_n1 i (by omega), Bool.cond_eq_ite]
      · rename_i hx
        split at hb
        · rename_i hm
          cases hb
          simp [hi, hx, hm, hle, wrap_n1 i (by omega), Bool.cond_eq_ite]
        · cases hb
    · simp [taskmillref_LineFault_l1]
structure OkL (l : List Int) : Prop where
  len : l.length ≤ 5000
  pos : ∀ x ∈ l, 1 ≤ x
  nodup : l.Nodup
theorem nodup_take {α : Type} {l : List α} (h : l.Nodup) {i : Nat} (hi : i < l.length) : l[i] ∉ l.take i := fun hm => by
  obtain ⟨j, hj, he⟩ := List.mem_take_iff_getElem.1 hm
  have := List.nodup_iff_pairwise_ne.1 h
  rw [List.pairwise_iff_getElem] at this
  exact this j i (by omega) hi (by omega) he
theorem lineF_of {l : List Int} (ok : OkL l) : lineF l = ⟨0, 0⟩ := by
  have h1 := ok.len
  have hn : firstAt (lbad l) l.length = none := (firstAt_none _).2 fun i hi => by
    simp only [lbad, List.getElem?_eq_getElem hi]
    have h3 := ok.pos l[i] (List.getElem_mem hi)
    rw [if_neg (by omega), if_neg (nodup_take ok.nodup hi)]
  unfold lineF
  rw [if_neg (by omega), hn]; rfl
theorem lineF_ok (l : List Int) : OkL l ∧ lineF l = ⟨0, 0⟩ ∨ (lineF l).Code ≠ 0 := by
  unfold lineF
  split
  · right; simp
  · rename_i h1
    cases hf : firstAt (lbad l) l.length with
    | some f =>
      right
      obtain ⟨i, hi, hb, _⟩ := firstAt_some _ hf
      simp only [lbad, List.getElem?_eq_getElem hi] at hb
      split at hb
      · cases hb; simp
      · split at hb
        · cases hb; simp
        · cases hb
    | none =>
      left
      have h := (firstAt_none _).1 hf
      have hx : ∀ i (hi : i < l.length), ¬ l[i] < 1 ∧ ¬ l[i] ∈ l.take i := fun i hi => by
        have := h i hi
        simp only [lbad, List.getElem?_eq_getElem hi] at this
        split at this
        · cases this
        · rename_i h3
          split at this
          · cases this
          · rename_i h4; exact ⟨h3, h4⟩
      refine ⟨⟨by omega, fun x hm => ?_, ?_⟩, rfl⟩
      · obtain ⟨i, hi, rfl⟩ := List.getElem_of_mem hm
        have := (hx i hi).1; omega
      · rw [List.nodup_iff_pairwise_ne, List.pairwise_iff_getElem]
        intro i j hi hj hij he
        refine (hx j hj).2 ?_
        rw [← he]
        exact List.mem_take_iff_getElem.2 ⟨i, by omega, rfl⟩
def comeF (l : List Int) (t : Int) : Fault := if t < 1 then ⟨3, -1⟩ else if t ∈ l then ⟨10, -1⟩ else if l.length = 5000 then ⟨9, 0⟩ else ⟨0, 0⟩
theorem comes_eq (l : List Int) (t : Int) (h : l.length ≤ 10000) : sync_comes l t = some (comeF l t) := by
  unfold sync_comes comeF
  rw [contains_eq _ _ (by omega)]
  have e : (((l.length : Nat) : Int) == 5000) = decide (l.length = 5000) := by rw [Bool.eq_iff_iff]; simp; omega
  by_cases h1 : t < 1 <;> by_cases h2 : t ∈ l <;> by_cases h3 : l.length = 5000 <;> simp [h1, h2, h3, e, Bool.cond_eq_ite]
theorem refCome_eq (w : Fault) (l : List Int) (t : Int) (h : l.length ≤ 10000) : taskmillref_ComeFault w l t = some (if w.Code ≠ 0 then w else comeF l t) := by
  unfold taskmillref_ComeFault comeF
  rw [has_eq _ _ (by omega)]
  have e : (((l.length : Nat) : Int) == 5000) = decide (l.length = 5000) := by rw [Bool.eq_iff_iff]; simp; omega
  by_cases h0 : w.Code = 0 <;> by_cases h1 : t < 1 <;> by_cases h2 : t ∈ l <;> by_cases h3 : l.length = 5000 <;> simp [h0, h1, h2, h3, e, Bool.cond_eq_ite]
theorem comeF_ok {l : List Int} {t : Int} (h : comeF l t = ⟨0, 0⟩) : 1 ≤ t ∧ t ∉ l ∧ l.length ≠ 5000 := by
  unfold comeF at h
  split at h
  · simp at h
  · split at h
    · simp at h
    · split at h
      · simp at h
      · exact ⟨by omega, by assumption, by assumption⟩
theorem comeF_of {l : List Int} {t : Int} (h1 : 1 ≤ t) (h2 : t ∉ l) (h3 : l.length < 5000) : comeF l t = ⟨0, 0⟩ := by
  unfold comeF
  rw [if_neg (by omega), if_neg h2, if_neg (by omega)]
theorem comeF_cases (l : List Int) (t : Int) : comeF l t = ⟨0, 0⟩ ∨ (comeF l t).Code ≠ 0 := by
  unfold comeF
  split
  · right; simp
  · split
    · right; simp
    · split
      · right; simp
      · left; rfl
@[simp] theorem lineF_nil : lineF [] = ⟨0, 0⟩ := rfl
/-! ### Groups -/
def groupF (g : Group) : Fault := if (lineF g.Line).Code ≠ 0 then lineF g.Line else if g.Count < 0 ∨ 1000000000 < g.Count then ⟨3, 0⟩ else if g.Count = 0 ∧ g.Line ≠ [] then ⟨5, 0⟩ else ⟨0, 0⟩
theorem group_eq (g : Group) : sync_group g = some (groupF g) := by
  unfold sync_group groupF
  rw [line_eq]
  rcases lineF_ok g.Line with ⟨_, h⟩ | h
  · have e : decide ((0 : Int) < ((g.Line.length : Nat) : Int)) = decide (g.Line ≠ []) := by rw [Bool.eq_iff_iff]; simp [List.length_pos_iff]
    by_cases h2 : g.Count < 0 ∨ 1000000000 < g.Count
    · have h2' : (decide (g.Count < 0) || decide (1000000000 < g.Count)) = true := by simpa using h2
      simp [h, h2, h2']
    · have h2' : (decide (g.Count < 0) || decide (1000000000 < g.Count)) = false := by simp at h2 ⊢; omega
      by_cases h3 : g.Count = 0 <;> by_cases h4 : g.Line = [] <;> simp [h, h2, h2', h3, h4, Bool.cond_eq_ite]
  · simp [h, Bool.cond_eq_ite]
theorem refGroup_eq (g : Group) : taskmillref_GroupFault g = some (groupF g) := by
  unfold taskmillref_GroupFault taskmillref_GroupFault_j2 taskmillref_GroupFault_j1 groupF
  rw [refLine_eq]
  rcases lineF_ok g.Line with ⟨_, h⟩ | h
  · by_cases h2 : g.Count < 0 ∨ 1000000000 < g.Count
    · have h2' : (decide (g.Count < 0) || decide (1000000000 < g.Count)) = true := by simpa using h2
      simp [h, h2, h2']
    · have h2' : (decide (g.Count < 0) || decide (1000000000 < g.Count)) = false := by simp at h2 ⊢; omega
      by_cases h3 : g.Count = 0 <;> by_cases h4 : g.Line = [] <;> simp [h, h2, h2', h3, h4, Bool.cond_eq_ite]
  · have h' : ((lineF g.Line).Code == 0) = false := by simpa using h
    simp [h, h']
structure OkG (g : Group) : Prop where
  line : OkL g.Line
  lo : 0 ≤ g.Count
  hi : g.Count ≤ 1000000000
  emp : g.Count = 0 → g.Line = []
theorem groupF_of {g : Group} (ok : OkG g) : groupF g = ⟨0, 0⟩ := by
  have := ok.lo
  have := ok.hi
  unfold groupF
  rw [lineF_of ok.line, if_neg (by simp), if_neg (by omega), if_neg (fun h => h.2 (ok.emp h.1))]
theorem groupF_ok (g : Group) : OkG g ∧ groupF g = ⟨0, 0⟩ ∨ (groupF g).Code ≠ 0 := by
  unfold groupF
  rcases lineF_ok g.Line with ⟨ok, h⟩ | h
  · rw [h, if_neg (by simp)]
    split
    · right; simp
    · split
      · right; simp
      · left
        rename_i h2 h3
        refine ⟨⟨ok, by omega, by omega, fun h4 => ?_⟩, rfl⟩
        by_cases h5 : g.Line = []
        · exact h5
        · exact absurd ⟨h4, h5⟩ h3
  · right; rw [if_pos h]; exact h
def addF (g : Group) (n : Int) : Fault := if (groupF g).Code ≠ 0 then groupF g else if n < -1000000000 ∨ 1000000000 < n then ⟨3, -1⟩ else if 1000000000 < g.Count + n then ⟨9, 0⟩ else ⟨0, 0⟩
/-- What Add answers: the group, who goes, is it a panic, the fault. -/
def addR (g : Group) (n : Int) : Group × List Int × Bool × Fault :=
  if (addF g n).Code ≠ 0 then (⟨0, []⟩, [], false, addF g n)
  else if g.Count + n < 0 then (g, [], true, ⟨0, 0⟩)
  else if g.Count + n = 0 then (⟨0, []⟩, g.Line, false, ⟨0, 0⟩)
  else (⟨g.Count + n, g.Line⟩, [], false, ⟨0, 0⟩)
theorem add_eq (g : Group) (n : Int) : sync_Add g n = some ((addR g n).1.Count, (addR g n).2.2.1, (addR g n).2.2.2, (addR g n).1.Line, (addR g n).2.1) := by
  unfold sync_Add addR addF
  rw [group_eq]
  rcases groupF_ok g with ⟨ok, h⟩ | h
  · have h1 := ok.lo
    have h2 := ok.hi
    have h3 := ok.line.len
    rw [clone_eq _ (by omega)]
    by_cases h4 : n < -1000000000 ∨ 1000000000 < n
    · have h4' : (decide (n < -1000000000) || decide (1000000000 < n)) = true := by simpa using h4
      simp [h, h4, h4']
    · have h4' : (decide (n < -1000000000) || decide (1000000000 < n)) = false := by simp at h4 ⊢; omega
      rw [wrap_id (x := g.Count + n) (by omega) (by omega)]
      by_cases h5 : g.Count + n < 0
      · have h6 : ¬ 1000000000 < g.Count + n := by omega
        simp [h, h4, h4', h5, h6]
      · by_cases h6 : 1000000000 < g.Count + n
        · simp [h, h4, h4', h5, h6]
        · by_cases h7 : g.Count + n = 0 <;> simp [h, h4, h4', h5, h6, h7, Bool.cond_eq_ite]
  · simp [h, Bool.cond_eq_ite]
def awaitF (g : Group) (t : Int) : Fault := if (groupF g).Code ≠ 0 then groupF g else comeF g.Line t
def awaitR (g : Group) (t : Int) : Group × Bool × Fault :=
  if (awaitF g t).Code ≠ 0 then (⟨0, []⟩, false, awaitF g t) else if g.Count = 0 then (g, true, ⟨0, 0⟩) else (⟨g.Count, g.Line ++ [t]⟩, false, ⟨0, 0⟩)
theorem await_eq (g : Group) (t : Int) : sync_Await g t = some ((awaitR g t).1.Count, (awaitR g t).2.1, (awaitR g t).2.2, (awaitR g t).1.Line) := by
  unfold sync_Await sync_Await_j2 sync_Await_j1 awaitR awaitF
  rw [group_eq]
  rcases groupF_ok g with ⟨ok, h⟩ | h
  · have h1 := ok.lo
    have h3 := ok.line.len
    rw [clone_eq _ (by omega), comes_eq _ _ (by omega)]
    have h8 : (g.Line.length + 1) * 8 ≤ 140737488355328 := by omega
    rcases comeF_cases g.Line t with hc | hc
    · by_cases h2 : g.Count = 0
      · simp [h, hc, h2]
      · have h4 : 0 < g.Count := by omega
        simp [h, hc, h2, h4, h8]
    · simp [h, hc, Bool.cond_eq_ite]
  · have h' : ((groupF g).Code == 0) = false := by simpa using h
    simp [h, h', Bool.cond_eq_ite]
theorem sameGroup_mk (an bn : Int) (al bl : List Int) (h : al.length < 4611686018427387904) : taskmilllaw_sameGroup ⟨an, al⟩ ⟨bn, bl⟩ = some (decide (an = bn ∧ al = bl)) := by
  unfold taskmilllaw_sameGroup taskmilllaw_sameGroup_j1
  rw [ints_eq _ _ h]
  by_cases h1 : an = bn <;> simp [h1, Bool.cond_eq_ite]
theorem sameGroup_self (a : Group) (h : a.Line.length < 4611686018427387904) : taskmilllaw_sameGroup a a = some true := by
  obtain ⟨an, al⟩ := a
  rw [sameGroup_mk _ _ _ _ h]
  simp
theorem group_eta (g : Group) : Group.mk g.Count g.Line = g := rfl
theorem long_eq (n : Nat) : taskmilllaw_long ((n : Nat) : Int) = some (decide ((700 < n ∧ n < 4999) ∨ 6000 < n)) := by
  unfold taskmilllaw_long
  congr 1
  rw [Bool.eq_iff_iff, Bool.cond_eq_ite]
  split
  · rename_i h; simp at h ⊢; omega
  · rename_i h; simp at h ⊢; omega
/-! ### Lines of wants -/
def tasksOf (l : List Want) : List Int := l.map (·.Task)
theorem cloneW_eq (s : List Want) (h : s.length ≤ 1000000) : slices_Clone_Want s = some s := by
  have : s.length * 24 ≤ 140737488355328 := by omega
  simp [slices_Clone_Want, this]
theorem ownW_eq (s : List Want) (h : s.length ≤ 1000000) : taskmilllaw_ownWants s = some s := by
  have : s.length * 24 ≤ 140737488355328 := by omega
  simp [taskmilllaw_ownWants, this]
def isTask (l : List Want) (t : Int) (i : Nat) : Bool := decide ((tasksOf l)[i]? = some t)
theorem is_at {l : List Want} {t : Int} {i : Nat} (h : i < l.length) : isTask l t i = decide (l[i].Task = t) := by simp [isTask, tasksOf, h]
def inLine (l : List Want) (t : Int) : Int := match firstIf (isTask l t) l.length with
  | some i => (i : Int)
  | none => -1
theorem inLine_nonneg (l : List Want) (t : Int) : decide (0 ≤ inLine l t) = decide (t ∈ tasksOf l) := by
  unfold inLine
  rw [Bool.eq_iff_iff]
  simp only [decide_eq_true_eq]
  cases hf : firstIf (isTask l t) l.length with
  | some i =>
    obtain ⟨h1, h2, _⟩ := firstIf_some hf
    rw [is_at h1] at h2
    simp only [decide_eq_true_eq] at h2
    exact ⟨fun _ => List.mem_map.2 ⟨_, List.getElem_mem h1, h2⟩, fun _ => by simp⟩
  | none =>
    have h := firstIf_none.1 hf
    refine ⟨fun h => by have h : (0 : Int) ≤ -1 := h; omega, fun hm => ?_⟩
    obtain ⟨w, h1, h2⟩ := List.mem_map.1 hm
    obtain ⟨i, hi, rfl⟩ := List.getElem_of_mem h1
    have := h i hi
    rw [is_at hi] at this
    simp [h2] at this
theorem inLine_eq (l : List Want) (t : Int) (h : l.length ≤ 1000000) : taskmillref_InLine l t = some (inLine l t) := by
  unfold taskmillref_InLine
  have := loopO_if (step := taskmillref_InLine_l1 l t) (fun i => ((i : Nat) : Int)) (isTask l t) (fun i => some (i : Int)) (some (-1)) l.length (fun i hi hp => ?_) (fun i hi hp => ?_) (fun _ => ?_)
  · rw [show ((0 : Nat) : Int) = 0 from rfl] at this
    rw [this]
    unfold inLine
    cases firstIf (isTask l t) l.length <;> rfl
  · rw [is_at hi] at hp
    simp only [decide_eq_false_iff_not] at hp
    simp [taskmillref_InLine_l1, ix_get hi, hi, hp, wrap_n1 i (by omega), Bool.cond_eq_ite]
  · rw [is_at hi] at hp
    simp only [decide_eq_true_eq] at hp
    simp [taskmillref_InLine_l1, ix_get hi, hi, hp]
  · simp [taskmillref_InLine_l1]
theorem containsW_eq (l : List Want) (t : Int) (h : l.length ≤ 1000000) : slices_ContainsFunc_Want l t = some (decide (t ∈ tasksOf l), t) := by
  unfold slices_ContainsFunc_Want slices_IndexFunc_Want
  have := loopO_if (step := slices_IndexFunc_Want_l1 l) (fun i => (((i : Nat) : Int), t)) (isTask l t) (fun i => some ((i : Int), t)) (some (-1, t)) l.length (fun i hi hp => ?_) (fun i hi hp => ?_) (fun _ => ?_)
  · rw [show ((0 : Nat) : Int) = 0 from rfl] at this
    rw [this, ← inLine_nonneg]
    unfold inLine
    cases firstIf (isTask l t) l.length <;> rfl
  · rw [is_at hi] at hp
    simp only [decide_eq_false_iff_not] at hp
    simp [slices_IndexFunc_Want_l1, sync_Acquire_1, ix_get hi, hi, hp, wrap_n1 i (by omega), Bool.cond_eq_ite]
  · rw [is_at hi] at hp
    simp only [decide_eq_true_eq] at hp
    simp [slices_IndexFunc_Want_l1, sync_Acquire_1, ix_get hi, hi, hp]
  · simp [slices_IndexFunc_Want_l1]
theorem sameW_eq (a b : List Want) (hn : a.length < 4611686018427387904) : taskmillref_SameWants a b = some (decide (a = b)) := by
  unfold taskmillref_SameWants
  by_cases hl : a.length = b.length
  · have e : (((a.length : Nat) : Int) != ((b.length : Nat) : Int)) = false := by simp [hl]
    rw [e, cond_false]
    have we : ∀ x y : Want, ((x.Task == y.Task) && ((x.Write == y.Write) && ((x.N == y.N) && true))) = decide (x = y) := fun x y => by
      obtain ⟨a, b, c⟩ := x
      obtain ⟨d, e, f⟩ := y
      rw [Bool.eq_iff_iff]; simp
    have := loopO_if (step := taskmillref_SameWants_l1 a b) (fun i => ((i : Nat) : Int)) (fun i => !decide (a[i]? = b[i]?)) (fun i => some false) (some true) a.length (fun i hi hp => ?_) (fun i hi hp => ?_) (fun _ => ?_)
    · rw [show ((0 : Nat) : Int) = 0 from rfl] at this
      rw [this]
      cases hf : firstIf (fun i => !decide (a[i]? = b[i]?)) a.length with
      | none =>
        have := firstIf_none.1 hf
        have e : a = b := (list_eq_iff hl).2 fun i h1 h2 => by
          have := this i h1
          simpa [h1, h2] using this
        simp [e]
      | some i =>
        obtain ⟨_, h2, _⟩ := firstIf_some hf
        have : a ≠ b := fun e => by subst e; simp at h2
        simp [this]
    · have hi2 : i < b.length := by omega
      have e : a[i] = b[i] := by simpa [hi, hi2] using hp
      simp only [taskmillref_SameWants_l1, ix_get hi, ix_get hi2, we]
      simp [hi, hi2, e, wrap_n1 i (by omega)]
    · have hi2 : i < b.length := by omega
      have e : ¬ a[i] = b[i] := by simpa [hi, hi2] using hp
      simp only [taskmillref_SameWants_l1, ix_get hi, ix_get hi2, we]
      simp [hi, hi2, e]
    · simp [taskmillref_SameWants_l1]
  · have : a ≠ b := fun e => hl (by rw [e])
    have h2 : (((a.length : Nat) : Int) != ((b.length : Nat) : Int)) = true := by simp; omega
    simp [h2, this]
/-! ### Semaphores -/
def sbad (l : List Want) (i : Nat) : Option Fault := match l[i]? with
  | none => none
  | some w => if w.Task < 1 ∨ w.N < 1 ∨ 1000000000 < w.N then some ⟨3, (i + 1 : Nat)⟩ else if w.Task ∈ tasksOf (l.take i) then some ⟨10, (i + 1 : Nat)⟩ else if w.Write = true then some ⟨5, (i + 1 : Nat)⟩ else none
def headIn (s : Sema) : Bool := match s.Line with
  | [] => false
  | w :: _ => decide (w.N ≤ s.Free)
def semaF (s : Sema) : Fault := if 5000 < s.Line.length then ⟨2, 0⟩ else if s.Free < 0 ∨ 1000000000 < s.Free then ⟨3, 0⟩ else if headIn s = true then ⟨5, 0⟩ else (firstAt (sbad s.Line) s.Line.length).getD ⟨0, 0⟩
theorem headIn_eq (s : Sema) : (decide ((0 : Int) < ((s.Line.length : Nat) : Int)) && decide ((ix s.Line (0 : Int)).N ≤ s.Free)) = headIn s := by
  unfold headIn
  cases h : s.Line with
  | nil => rfl
  | cons w r =>
    have : (0 : Int) < ((r.length : Nat) : Int) + 1 := by omega
    simp [ix, this]
theorem tasks_snoc (l : List Want) (i : Nat) (h : i < l.length) : setAll [] (tasksOf (l.take (i + 1))) = miSet (setAll [] (tasksOf (l.take i))) l[i].Task 1 := by
  rw [setAll, List.take_succ_eq_append_getElem h, tasksOf, List.map_append, List.foldl_append]; rfl
theorem has_tasks (l : List Int) (x : Int) : decide (0 < miGet (setAll [] l) x) = decide (x ∈ l) := by
  rw [Bool.eq_iff_iff, miGet_setAll, miGet_nil]
  by_cases hm : x ∈ l <;> simp [hm]
theorem ors (a b c : Bool) : (a || (b || c)) = (a || b || c) := by cases a <;> cases b <;> rfl
theorem sema_eq (s : Sema) : sync_sema s = some (semaF s) := by
  unfold sync_sema semaF
  by_cases h1 : 5000 < s.Line.length
  · have : (5000 : Int) < (s.Line.length : Int) := by omega
    simp [h1, this]
  · have h1' : ¬ (5000 : Int) < (s.Line.length : Int) := by omega
    by_cases h2 : s.Free < 0 ∨ 1000000000 < s.Free
    · have h2' : (decide (s.Free < 0) || decide (1000000000 < s.Free)) = true := by simpa using h2
      simp [h1, h1', h2, h2']
    · have h2' : (decide (s.Free < 0) || decide (1000000000 < s.Free)) = false := by simp at h2 ⊢; omega
      have h3 : ((!decide ((0 : Int) < ((s.Line.length : Nat) : Int))) || decide ((0 : Int) < ((s.Line.length : Nat) : Int))) = true := by cases decide ((0 : Int) < ((s.Line.length : Nat) : Int)) <;> rfl
      simp only [h1, h1', h2, h2', h3, headIn_eq, decide_false, cond_false, cond_true, if_false]
      cases hh : headIn s with
      | true => simp
      | false =>
        simp only [cond_false, Bool.false_eq_true, if_false]
        have := loopO_findD (step := sync_sema_l1 s) (fun i => (((i : Nat) : Int), setAll [] (tasksOf (s.Line.take i)))) (sbad s.Line) ⟨0, 0⟩ s.Line.length (fun i hi hb => ?_) (fun i r hi hb => ?_) (fun _ => ?_)
        · exact this
        · simp only [sbad, List.getElem?_eq_getElem hi] at hb
          split at hb
          · cases hb
          · rename_i hx
            split at hb
            · cases hb
            · rename_i hy
              split at hb
              · cases hb
              · rename_i hz
                have hx' : (decide (s.Line[i].Task < 1) || (decide (s.Line[i].N < 1) || decide (1000000000 < s.Line[i].N))) = false := by simp at hx ⊢; omega
                simp only [sync_sema_l1, ix_get hi, tasks_snoc s.Line i hi, has_tasks, hx']
                simp [hi, hy, hz, wrap_n1 i (by omega)]
        · simp only [sbad, List.getElem?_eq_getElem hi] at hb
          simp only [sync_sema_l1, ix_get hi, has_tasks]
          split at hb
          · rename_i hx
            cases hb
            have hx' : (decide (s.Line[i].Task < 1) || (decide (s.Line[i].N < 1) || decide (1000000000 < s.Line[i].N))) = true := by simpa using hx
            simp [hi, hx', wrap_n1 i (by omega)]
          · rename_i hx
            have hx' : (decide (s.Line[i].Task < 1) || (decide (s.Line[i].N < 1) || decide (1000000000 < s.Line[i].N))) = false := by simp at hx ⊢; omega
            split at hb
            · rename_i hy
              cases hb
              simp [hi, hx', hy, wrap_n1 i (by omega)]
            · rename_i hy
              split at hb
              · rename_i hz
                cases hb
                simp [hi, hx', hy, hz, wrap_n1 i (by omega)]
              · cases hb
        · simp [sync_sema_l1]
theorem refSema_eq (s : Sema) : taskmillref_SemaFault s = some (semaF s) := by
  unfold taskmillref_SemaFault semaF
  by_cases h1 : 5000 < s.Line.length
  · have : (5000 : Int) < (s.Line.length : Int) := by omega
    simp [h1, this]
  · have h1' : ¬ (5000 : Int) < (s.Line.length : Int) := by omega
    by_cases h2 : s.Free < 0 ∨ 1000000000 < s.Free
    · have h2' : (decide (s.Free < 0) || decide (1000000000 < s.Free)) = true := by simpa using h2
      simp [h1, h1', h2, h2']
    · have h2' : (decide (s.Free < 0) || decide (1000000000 < s.Free)) = false := by simp at h2 ⊢; omega
      have h3 : ((!decide ((0 : Int) < ((s.Line.length : Nat) : Int))) || decide ((0 : Int) < ((s.Line.length : Nat) : Int))) = true := by cases decide ((0 : Int) < ((s.Line.length : Nat) : Int)) <;> rfl
      simp only [h1, h1', h2, h2', h3, headIn_eq, decide_false, cond_false, cond_true, if_false]
      cases hh : headIn s with
      | true => simp
      | false =>
        simp only [cond_false, Bool.false_eq_true, if_false]
        have := loopO_findD (step := taskmillref_SemaFault_l1 s) (fun i => ((i : Nat) : Int)) (sbad s.Line) ⟨0, 0⟩ s.Line.length (fun i hi hb => ?_) (fun i r hi hb => ?_) (fun _ => ?_)
        · exact this
        · simp only [sbad, List.getElem?_eq_getElem hi] at hb
          have hle : ((i : Nat) : Int) ≤ (s.Line.length : Int) := by omega
          split at hb
          · cases hb
          · rename_i hx
            split at hb
            · cases hb
            · rename_i hy
              split at hb
              · cases hb
              · rename_i hz
                have hx' : (decide (s.Line[i].Task < 1) || (decide (s.Line[i].N < 1) || decide (1000000000 < s.Line[i].N))) = false := by simp at hx ⊢; omega
                simp only [taskmillref_SemaFault_l1, ix_get hi, cut_take, hx']
                rw [inLine_eq _ _ (by rw [List.length_take]; omega)]
                simp only [Option.bind_some, inLine_nonneg]
                simp [hi, hle, hy, hz, wrap_n1 i (by omega)]
        · simp only [sbad, List.getElem?_eq_getElem hi] at hb
          have hle : ((i : Nat) : Int) ≤ (s.Line.length : Int) := by omega
          simp only [taskmillref_SemaFault_l1, ix_get hi, cut_take]
          rw [inLine_eq _ _ (by rw [List.length_take]; omega)]
          simp only [Option.bind_some, inLine_nonneg]
          split at hb
          · rename_i hx
            cases hb
            have hx' : (decide (s.Line[i].Task < 1) || (decide (s.Line[i].N < 1) || decide (1000000000 < s.Line[i].N))) = true := by simpa using hx
            simp [hi, hx', wrap_n1 i (by omega)]
          · rename_i hx
            have hx' : (decide (s.Line[i].Task < 1) || (decide (s.Line[i].N < 1) || decide (1000000000 < s.Line[i].N))) = false := by simp at hx ⊢; omega
            split at hb
            · rename_i hy
              cases hb
              simp [hi, hx', hle, hy, wrap_n1 i (by omega)]
            · rename_i hy
              split at hb
              · rename_i hz
                cases hb
                simp [hi, hx', hle, hy, hz, wrap_n1 i (by omega)]
              · cases hb
        · simp [taskmillref_SemaFault_l1]
structure OkS (s : Sema) : Prop where
  len : s.Line.length ≤ 5000
  lo : 0 ≤ s.Free
  hi : s.Free ≤ 1000000000
  head : headIn s = false
  task : ∀ w ∈ s.Line, 1 ≤ w.Task
  num : ∀ w ∈ s.Line, 1 ≤ w.N ∧ w.N ≤ 1000000000
  kind : ∀ w ∈ s.Line, w.Write = false
  nodup : (tasksOf s.Line).Nodup
theorem semaF_of {s : Sema} (ok : OkS s) : semaF s = ⟨0, 0⟩ := by
  have h1 := ok.len
  have h2 := ok.lo
  have h3 := ok.hi
  have hn : firstAt (sbad s.Line) s.Line.length = none := (firstAt_none _).2 fun i hi => by
    simp only [sbad, List.getElem?_eq_getElem hi]
    have hm := List.getElem_mem hi
    have h4 := ok.task _ hm
    have h5 := ok.num _ hm
    rw [if_neg (by omega), if_neg, if_neg (by rw [ok.kind _ hm]; simp)]
    have := nodup_take ok.nodup (i := i) (by simp [tasksOf]; exact hi)
    simpa [tasksOf, List.map_take] using this
  unfold semaF
  rw [if_neg (by omega), if_neg (by omega), if_neg (by rw [ok.head]; simp), hn]; rfl
theorem semaF_ok (s : Sema) : OkS s ∧ semaF s = ⟨0, 0⟩ ∨ (semaF s).Code ≠ 0 := by
  unfold semaF
  split
  · right; simp
  · split
    · right; simp
    · split
      · right; simp
      · rename_i h1 h2 h3
        cases hf : firstAt (sbad s.Line) s.Line.length with
        | some f =>
          right
          obtain ⟨i, hi, hb, _⟩ := firstAt_some _ hf
          simp only [sbad, List.getElem?_eq_getElem hi] at hb
          split at hb
          · cases hb; simp
          · split at hb
            · cases hb; simp
            · split at hb
              · cases hb; simp
              · cases hb
        | none =>
          left
          have h := (firstAt_none _).1 hf
          have hx : ∀ i (hi : i < s.Line.length), ¬ (s.Line[i].Task < 1 ∨ s.Line[i].N < 1 ∨ 1000000000 < s.Line[i].N) ∧ ¬ s.Line[i].Task ∈ tasksOf (s.Line.take i) ∧ ¬ s.Line[i].Write = true := fun i hi => by
            have := h i hi
            simp only [sbad, List.getElem?_eq_getElem hi] at this
            split at this
            · cases this
            · rename_i h3
              split at this
              · cases this
              · rename_i h4
                split at this
                · cases this
                · rename_i h5; exact ⟨h3, h4, h5⟩
          refine ⟨⟨by omega, by omega, by omega, by simpa using h3, fun w hm => ?_, fun w hm => ?_, fun w hm => ?_, ?_⟩, rfl⟩
          · obtain ⟨i, hi, rfl⟩ := List.getElem_of_mem hm
            have := (hx i hi).1; omega
          · obtain ⟨i, hi, rfl⟩ := List.getElem_of_mem hm
            have := (hx i hi).1; omega
          · obtain ⟨i, hi, rfl⟩ := List.getElem_of_mem hm
            have := (hx i hi).2.2; simpa using this
          · rw [List.nodup_iff_pairwise_ne, List.pairwise_iff_getElem]
            intro i j hi hj hij he
            simp only [tasksOf, List.length_map, List.getElem_map] at hi hj he
            refine (hx j hj).2.1 ?_
            rw [← he]
            simp only [tasksOf]
            exact List.mem_map.2 ⟨s.Line[i], List.mem_take_iff_getElem.2 ⟨i, by omega, rfl⟩, rfl⟩
/-- Those who get theirs: who; what is free then; the rest of the line. -/
def giveR : Int → List Want → List Int × Int × List Want
  | f, [] => ([], f, [])
  | f, w :: r => if w.N ≤ f then (w.Task :: (giveR (f - w.N) r).1, (giveR (f - w.N) r).2.1, (giveR (f - w.N) r).2.2) else ([], f, w :: r)
theorem give_gen {ρ : Type} {step : Int × List Int × List Want → Option ((Int × List Int × List Want) ⊕ ρ)} (R : List Int → Int → List Want → ρ)
    (h : ∀ f o l, step (f, o, l) = (bif ((!(decide ((0 : Int) < ((l.length : Nat) : Int)))) || (decide ((0 : Int) < ((l.length : Nat) : Int)))) then (bif ((decide ((0 : Int) < ((l.length : Nat) : Int))) && (decide ((ix l (0 : Int)).N ≤ f))) then (bif (decide ((0 : Int) < ((l.length : Nat) : Int))) then (bif (decide ((0 : Int) < ((l.length : Nat) : Int))) then (bif (decide ((o ++ ([(ix l (0 : Int)).Task] : List Int)).length * 8 ≤ 140737488355328)) then (bif (decide ((1 : Int) ≤ ((l.length : Nat) : Int))) then (some (Sum.inl ((IntKind.i64.wrap (f - (ix l (0 : Int)).N)), (o ++ ([(ix l (0 : Int)).Task] : List Int)), (cut l (1 : Int) ((l.length : Nat) : Int))))) else none) else none) else none) else none) else (Option.map Sum.inr (some (R o f l)))) else none)) :
    ∀ (l : List Want) (f : Int) (o : List Int), (∀ w ∈ l, 1 ≤ w.N ∧ w.N ≤ 1000000000) → 0 ≤ f → f ≤ 10000000000 → o.length + l.length ≤ 1000000 → loopO step (f, o, l) = some (R (o ++ (giveR f l).1) (giveR f l).2.1 (giveR f l).2.2)
  | [], f, o, _, _, _, _ => by
    refine loopO_inr ?_
    rw [h]
    simp [giveR]
  | w :: r, f, o, hw, h0, h1, hl => by
    have hN := hw w (List.mem_cons_self ..)
    have hlen : (0 : Int) < ((r.length : Nat) : Int) + 1 := by omega
    have hlen1 : (1 : Int) ≤ ((r.length : Nat) : Int) + 1 := by omega
    have hb : (o.length + 1) * 8 ≤ 140737488355328 := by simp at hl; omega
    have hcut : cut (w :: r) 1 (((r.length : Nat) : Int) + 1) = r := by
      have := cut_drop' (w :: r) (n := 1) (i := 1) rfl
      simpa using this
    by_cases hf : w.N ≤ f
    · rw [loopO_inl (s' := (f - w.N, o ++ [w.Task], r)) (by
        rw [h]
        simp [ix, hlen, hlen1, hf, hb, hcut, wrap_id (x := f - w.N) (by omega) (by omega)]), give_gen R h r (f - w.N) (o ++ [w.Task]) (fun w' hw' => hw w' (List.mem_cons_of_mem _ hw')) (by omega) (by omega) (by simp at hl ⊢; omega)]
      simp [giveR, hf]
    · refine loopO_inr ?_
      rw [h]
      simp [ix, hlen, hf, giveR]
theorem give_eq (l : List Want) (f : Int) (hw : ∀ w ∈ l, 1 ≤ w.N ∧ w.N ≤ 1000000000) (h0 : 0 ≤ f) (h1 : f ≤ 10000000000) (hl : l.length ≤ 1000000) : sync_give f l = some (giveR f l) := by
  unfold sync_give
  rw [give_gen (fun o f l => (o, f, l)) (fun _ _ _ => rfl) l f [] hw h0 h1 (by simpa using hl)]
  rfl
theorem given1_eq (l : List Want) (f : Int) (hw : ∀ w ∈ l, 1 ≤ w.N ∧ w.N ≤ 1000000000) (h0 : 0 ≤ f) (h1 : f ≤ 10000000000) (hl : l.length ≤ 1000000) : taskmillref_Given_1 f l = some ((giveR f l).2.1, (giveR f l).2.2, (giveR f l).1) := by
  unfold taskmillref_Given_1
  rw [give_gen (fun o f l => (f, l, o)) (fun f o l => by
    cases hd : decide ((0 : Int) < ((l.length : Nat) : Int)) <;> simp only [taskmillref_Given_1_l1, hd, cond_true, cond_false] <;> cases decide ((o ++ [(ix l 0).Task]).length * 8 ≤ 140737488355328) <;> rfl) l f [] hw h0 h1 (by simpa using hl)]
  rfl
theorem given_eq (s : Sema) (hw : ∀ w ∈ s.Line, 1 ≤ w.N ∧ w.N ≤ 1000000000) (h0 : 0 ≤ s.Free) (h1 : s.Free ≤ 10000000000) (hl : s.Line.length ≤ 1000000) : taskmillref_Given s = some (⟨(giveR s.Free s.Line).2.1, (giveR s.Free s.Line).2.2⟩, (giveR s.Free s.Line).1) := by
  unfold taskmillref_Given
  have gen : ∀ (l : List Want) (f : Int) (o : List Int), (∀ w ∈ l, 1 ≤ w.N ∧ w.N ≤ 1000000000) → 0 ≤ f → f ≤ 10000000000 → o.length + l.length ≤ 1000000 → loopO taskmillref_Given_l1 (⟨f, l⟩, o) = some (⟨(giveR f l).2.1, (giveR f l).2.2⟩, o ++ (giveR f l).1) := by
    intro l
    induction l with
    | nil =>
      intro f o _ _ _ _
      refine loopO_inr ?_
      simp [taskmillref_Given_l1, giveR]
    | cons w r ih =>
      intro f o hw h0 h1 hl
      have hN := hw w (List.mem_cons_self ..)
      have hlen : (0 : Int) < ((r.length : Nat) : Int) + 1 := by omega
      have hlen1 : (1 : Int) ≤ ((r.length : Nat) : Int) + 1 := by omega
      have hb : (o.length + 1) * 8 ≤ 140737488355328 := by simp at hl; omega
      have hcut : cut (w :: r) 1 (((r.length : Nat) : Int) + 1) = r := by
        have := cut_drop' (w :: r) (n := 1) (i := 1) rfl
        simpa using this
      by_cases hf : w.N ≤ f
      · rw [loopO_inl (s' := (⟨f - w.N, r⟩, o ++ [w.Task])) (by
          simp [taskmillref_Given_l1, ix, hlen, hlen1, hf, hb, hcut, wrap_id (x := f - w.N) (by omega) (by omega)]), ih (f - w.N) (o ++ [w.Task]) (fun w' hw' => hw w' (List.mem_cons_of_mem _ hw')) (by omega) (by omega) (by simp at hl ⊢; omega)]
        simp [giveR, hf]
      · refine loopO_inr ?_
        simp [taskmillref_Given_l1, ix, hlen, hf, giveR]
  exact (gen s.Line s.Free [] hw h0 h1 (by simpa using hl)).trans (by simp)
def relF (s : Sema) (n : Int) : Fault := if (semaF s).Code ≠ 0 then semaF s else if n < 0 ∨ 1000000000 < n then ⟨3, -1⟩ else if 1000000000 < s.Free + n then ⟨9, 0⟩ else ⟨0, 0⟩
def relR (s : Sema) (n : Int) : Sema × List Int × Fault :=
  if (relF s n).Code ≠ 0 then (⟨0, []⟩, [], relF s n) else (⟨(giveR (s.Free + n) s.Line).2.1, (giveR (s.Free + n) s.Line).2.2⟩, (giveR (s.Free + n) s.Line).1, ⟨0, 0⟩)
theorem release_eq (s : Sema) (n : Int) : sync_Release s n = some ((relR s n).1.Free, (relR s n).2.2, (relR s n).1.Line, (relR s n).2.1) := by
  unfold sync_Release relR relF
  rw [sema_eq]
  rcases semaF_ok s with ⟨ok, h⟩ | h
  · have h1 := ok.lo
    have h2 := ok.hi
    have h3 := ok.len
    rw [cloneW_eq _ (by omega)]
    by_cases h4 : n < 0 ∨ 1000000000 < n
    · have h4' : (decide (n < 0) || decide (1000000000 < n)) = true := by simpa using h4
      simp [h, h4, h4']
    · have h4' : (decide (n < 0) || decide (1000000000 < n)) = false := by simp at h4 ⊢; omega
      rw [wrap_id (x := s.Free + n) (by omega) (by omega)]
      simp only [h, h4']
      by_cases h5 : 1000000000 < s.Free + n
      · simp [h4, h5]
      · simp only [Option.bind_some]
        rw [give_eq _ _ ok.num (by omega) (by omega) (by omega)]
        simp [h4, h5]
  · simp [h, Bool.cond_eq_ite]
theorem begun_eq : taskmilllaw_syncBegun = some true := by
  unfold taskmilllaw_syncBegun
  rw [release_eq]
  have h : relR ⟨1, [⟨1, false, 2⟩, ⟨2, false, 1⟩]⟩ 1 = (⟨0, [⟨2, false, 1⟩]⟩, [1], ⟨0, 0⟩) := by decide
  rw [h]
  simp [taskmilllaw_syncBegun_j1, ints_eq]
theorem sameSema_mk (an bn : Int) (al bl : List Want) (h : al.length < 4611686018427387904) : taskmilllaw_sameSema ⟨an, al⟩ ⟨bn, bl⟩ = some (decide (an = bn ∧ al = bl)) := by
  unfold taskmilllaw_sameSema taskmilllaw_sameSema_j1
  rw [sameW_eq _ _ h]
  by_cases h1 : an = bn <;> simp [h1, Bool.cond_eq_ite]
theorem sameSema_self (a : Sema) (h : a.Line.length < 4611686018427387904) : taskmilllaw_sameSema a a = some true := by
  obtain ⟨an, al⟩ := a
  rw [sameSema_mk _ _ _ _ h]
  simp
theorem sema_eta (g : Sema) : Sema.mk g.Free g.Line = g := rfl
set_option maxHeartbeats 2000000 in
theorem groups (g : Group) (n task : Int) : taskmilllaw_SyncGroups g n task = some true := by
  unfold taskmilllaw_SyncGroups
  rw [begun_eq, long_eq]
  simp only [Option.bind_some, Bool.not_true, cond_false]
  by_cases h0 : (700 < g.Line.length ∧ g.Line.length < 4999) ∨ 6000 < g.Line.length
  · simp [h0]
  · have hl : g.Line.length ≤ 6000 := by omega
    rw [own_eq _ (by omega)]
    simp only [h0, decide_false, cond_false, Option.bind_some, group_eta, add_eq, await_eq, refGroup_eq]
    rw [sameGroup_self g (by omega)]
    simp only [Option.bind_some, Bool.not_true, cond_false, F_eq]
    -- the second half
    have j4 : ∀ w : Fault, taskmilllaw_SyncGroups_j4 g task (awaitR g task).2.1 (awaitR g task).1.Count (awaitR g task).2.2 (groupF g) (awaitR g task).1.Line w = some true := by
      intro w
      unfold taskmilllaw_SyncGroups_j4
      rw [refCome_eq _ _ _ (by omega), own_eq _ (by omega)]
      have hb : (g.Line.length + 1) * 8 ≤ 140737488355328 := by omega
      rcases groupF_ok g with ⟨ok, h⟩ | h
      · rcases comeF_cases g.Line task with hc | hc
        · by_cases h2 : g.Count = 0
          · have e : (⟨0, g.Line⟩ : Group) = g := by rw [← h2]
            simp [awaitR, awaitF, h, hc, h2, taskmilllaw_SyncGroups_j2, e, sameGroup_self g (by omega)]
          · simp [awaitR, awaitF, h, hc, h2, hb, taskmilllaw_SyncGroups_j3, sameGroup_mk _ _ (g.Line ++ [task]) _ (by simp; omega), Bool.cond_eq_ite]
        · simp [awaitR, awaitF, h, hc, taskmilllaw_SyncGroups_j1, sameGroup_mk _ _ [] _ (by simp), Bool.cond_eq_ite]
      · simp [awaitR, awaitF, h, taskmilllaw_SyncGroups_j1, sameGroup_mk _ _ [] _ (by simp), Bool.cond_eq_ite]
    have j9 : taskmilllaw_SyncGroups_j9 g n task (addR g n).2.2.1 (awaitR g task).2.1 (addR g n).1.Count (addR g n).2.1 (addR g n).2.2.2 (awaitR g task).1.Count (awaitR g task).2.2 (groupF g) (addR g n).1.Line (awaitR g task).1.Line (addF g n) = some true := by
      unfold taskmilllaw_SyncGroups_j9
      by_cases hc : (addF g n).Code = 0
      · have hcases : OkG g ∧ ¬ (n < -1000000000 ∨ 1000000000 < n) ∧ ¬ 1000000000 < g.Count + n ∧ addF g n = ⟨0, 0⟩ := by
          unfold addF at hc ⊢
          rcases groupF_ok g with ⟨ok, h⟩ | h
          · rw [h, if_neg (by simp)] at hc ⊢
            split at hc
            · simp at hc
            · split at hc
              · simp at hc
              · rename_i h1 h2
                exact ⟨ok, h1, h2, by rw [if_neg h1, if_neg h2]⟩
          · rw [if_pos h] at hc; exact absurd hc h
        obtain ⟨ok, h1, h2, hf⟩ := hcases
        have h3 := ok.lo
        have h4 := ok.hi
        rw [wrap_id (x := g.Count + n) (by omega) (by omega)]
        by_cases h5 : g.Count + n < 0
        · simp [addR, hf, h5, group_eta, sameGroup_self g (by omega), taskmilllaw_SyncGroups_j6, j4]
        · by_cases h6 : g.Count + n = 0
          · simp [addR, hf, h5, h6, sameGroup_mk _ _ [] _ (by simp), ints_eq _ _ (show g.Line.length < 4611686018427387904 by omega), taskmilllaw_SyncGroups_j7, j4]
          · simp [addR, hf, h5, h6, sameGroup_mk _ _ g.Line _ (by omega), taskmilllaw_SyncGroups_j8, j4, Bool.cond_eq_ite]
      · simp [addR, hc, sameGroup_mk _ _ [] _ (by simp), taskmilllaw_SyncGroups_j5, j4, Bool.cond_eq_ite]
    unfold taskmilllaw_SyncGroups_j10
    rcases groupF_ok g with ⟨ok, h⟩ | h
    · have h3 := ok.lo
      have h4 := ok.hi
      by_cases h1 : n < -1000000000 ∨ 1000000000 < n
      · have h1' : (decide (n < -1000000000) || decide (1000000000 < n)) = true := by simpa using h1
        have hF : addF g n = ⟨3, -1⟩ := by simp [addF, h, h1]
        rw [hF] at j9
        rw [h] at j9 ⊢
        simp [h1', j9]
      · have h1' : (decide (n < -1000000000) || decide (1000000000 < n)) = false := by simp at h1 ⊢; omega
        rw [wrap_id (x := g.Count + n) (by omega) (by omega)]
        by_cases h2 : 1000000000 < g.Count + n
        · have hF : addF g n = ⟨9, 0⟩ := by simp [addF, h, h1, h2]
          rw [hF] at j9
          rw [h] at j9 ⊢
          simp [h1', h2, j9]
        · have hF : addF g n = ⟨0, 0⟩ := by simp [addF, h, h1, h2]
          rw [hF] at j9
          rw [h] at j9 ⊢
          simp [h1', h2, j9]
    · have h' : ((groupF g).Code == 0) = false := by simpa using h
      have hF : addF g n = groupF g := by simp [addF, h]
      rw [hF] at j9
      simp [h', j9]
/-! ### Onces -/
def onceF (o : Once) : Fault := if (lineF o.Line).Code ≠ 0 then lineF o.Line else if o.By < 0 then ⟨3, 0⟩ else if (o.Done = true ∧ o.By ≠ 0) ∨ (o.By = 0 ∧ o.Line ≠ []) ∨ o.By ∈ o.Line then ⟨5, 0⟩ else ⟨0, 0⟩
theorem pos_ne (l : List Int) : decide ((0 : Int) < ((l.length : Nat) : Int)) = decide (l ≠ []) := by rw [Bool.eq_iff_iff]; simp [List.length_pos_iff]
theorem once_eq (o : Once) : sync_once o = some (onceF o) := by
  unfold sync_once sync_once_j1 onceF
  rw [line_eq]
  rcases lineF_ok o.Line with ⟨ok, h⟩ | h
  · have := ok.len
    rw [contains_eq _ _ (by omega), pos_ne]
    by_cases h1 : o.By < 0
    · simp [h, h1]
    · have e : decide (0 < o.By) = decide (o.By ≠ 0) := by rw [Bool.eq_iff_iff]; simp; omega
      rw [e]
      cases hd : o.Done <;> by_cases h2 : o.By = 0 <;> by_cases h3 : o.Line = [] <;> by_cases h4 : o.By ∈ o.Line <;> first | (simp_all [Bool.cond_eq_ite]; done) | (simp [h, h1, hd, h2, h3, h4, Bool.cond_eq_ite]; done) | (rw [h3] at h4; cases h4)
  · simp [h, Bool.cond_eq_ite]
theorem refOnce_eq (o : Once) : taskmillref_OnceFault o = some (onceF o) := by
  unfold taskmillref_OnceFault taskmillref_OnceFault_j3 taskmillref_OnceFault_j2 taskmillref_OnceFault_j1 onceF
  rw [refLine_eq]
  rcases lineF_ok o.Line with ⟨ok, h⟩ | h
  · have := ok.len
    rw [has_eq _ _ (by omega), pos_ne]
    by_cases h1 : o.By < 0
    · simp [h, h1]
    · cases hd : o.Done <;> by_cases h2 : o.By = 0 <;> by_cases h3 : o.Line = [] <;> by_cases h4 : o.By ∈ o.Line <;> first | (simp_all [Bool.cond_eq_ite]; done) | (simp [h, h1, hd, h2, h3, h4, Bool.cond_eq_ite]; done) | (rw [h3] at h4; cases h4)
  · have h' : ((lineF o.Line).Code == 0) = false := by simpa using h
    simp [h, h']
structure OkO (o : Once) : Prop where
  line : OkL o.Line
  lo : 0 ≤ o.By
  done : o.Done = true → o.By = 0
  emp : o.By = 0 → o.Line = []
  out : o.By ∉ o.Line
theorem onceF_of {o : Once} (ok : OkO o) : onceF o = ⟨0, 0⟩ := by
  have := ok.lo
  unfold onceF
  rw [lineF_of ok.line, if_neg (by simp), if_neg (by omega), if_neg]
  rintro (h | h | h)
  · exact h.2 (ok.done h.1)
  · exact h.2 (ok.emp h.1)
  · exact ok.out h
theorem onceF_ok (o : Once) : OkO o ∧ onceF o = ⟨0, 0⟩ ∨ (onceF o).Code ≠ 0 := by
  unfold onceF
  rcases lineF_ok o.Line with ⟨ok, h⟩ | h
  · rw [h, if_neg (by simp)]
    split
    · right; simp
    · split
      · right; simp
      · left
        rename_i h1 h2
        simp only [not_or, not_and] at h2
        obtain ⟨h3, h4, h5⟩ := h2
        exact ⟨⟨ok, by omega, fun hd => by have := h3 hd; omega, fun hb => by
          have := h4 hb
          by_cases he : o.Line = []
          · exact he
          · exact absurd he this, h5⟩, rfl⟩
  · right; rw [if_pos h]; exact h
def beginF (o : Once) (t : Int) : Fault := if (onceF o).Code ≠ 0 then onceF o else if (comeF o.Line t).Code ≠ 0 then comeF o.Line t else if o.By = t then ⟨11, -1⟩ else ⟨0, 0⟩
def beginR (o : Once) (t : Int) : Once × Int × Fault :=
  if (beginF o t).Code ≠ 0 then (⟨0, false, []⟩, 0, beginF o t)
  else if o.Done = true then (o, 2, ⟨0, 0⟩)
  else if o.By = 0 then (⟨t, o.Done, o.Line⟩, 1, ⟨0, 0⟩)
  else (⟨o.By, o.Done, o.Line ++ [t]⟩, 0, ⟨0, 0⟩)
theorem begin_eq (o : Once) (t : Int) : sync_Begin o t = some ((beginR o t).1.By, (beginR o t).1.Done, (beginR o t).2.1, (beginR o t).2.2, (beginR o t).1.Line) := by
  unfold sync_Begin sync_Begin_j2 sync_Begin_j1 beginR beginF
  rw [once_eq]
  rcases onceF_ok o with ⟨ok, h⟩ | h
  · have h3 := ok.line.len
    rw [clone_eq _ (by omega), comes_eq _ _ (by omega)]
    have h8 : (o.Line.length + 1) * 8 ≤ 140737488355328 := by omega
    rcases comeF_cases o.Line t with hc | hc
    · by_cases h1 : o.By = t
      · simp [h, hc, h1]
      · cases hd : o.Done <;> by_cases h2 : o.By = 0 <;> simp_all [Bool.cond_eq_ite]
    · have hc' : ((comeF o.Line t).Code == 0) = false := by simpa using hc
      simp [h, hc, hc', Bool.cond_eq_ite]
  · have h' : ((onceF o).Code == 0) = false := by simpa using h
    simp [h, h', Bool.cond_eq_ite]
def endF (o : Once) (t : Int) : Fault := if (onceF o).Code ≠ 0 then onceF o else if t < 1 ∨ o.By ≠ t then ⟨11, -1⟩ else ⟨0, 0⟩
def endR (o : Once) (t : Int) : Once × List Int × Fault :=
  if (endF o t).Code ≠ 0 then (⟨0, false, []⟩, [], endF o t) else (⟨0, true, []⟩, o.Line, ⟨0, 0⟩)
theorem end_eq (o : Once) (t : Int) : sync_End o t = some ((endR o t).1.By, (endR o t).1.Done, (endR o t).2.2, (endR o t).2.1) := by
  unfold sync_End endR endF
  rw [once_eq]
  rcases onceF_ok o with ⟨ok, h⟩ | h
  · have h3 := ok.line.len
    rw [clone_eq _ (by omega)]
    by_cases h1 : t < 1 ∨ o.By ≠ t
    · have h1' : (decide (t < 1) || (o.By != t)) = true := by simpa using h1
      simp [h, h1, h1']
    · have h1' : (decide (t < 1) || (o.By != t)) = false := by simp at h1 ⊢; exact h1
      simp [h, h1, h1']
  · simp [h, Bool.cond_eq_ite]
theorem endR_line (o : Once) (t : Int) : (endR o t).1.Line = [] := by unfold endR; split <;> rfl
theorem sameOnce_mk (an bn : Int) (ad bd : Bool) (al bl : List Int) (h : al.length < 4611686018427387904) : taskmilllaw_sameOnce ⟨an, ad, al⟩ ⟨bn, bd, bl⟩ = some (decide (an = bn ∧ ad = bd ∧ al = bl)) := by
  unfold taskmilllaw_sameOnce taskmilllaw_sameOnce_j1
  rw [ints_eq _ _ h]
  by_cases h1 : an = bn <;> by_cases h2 : ad = bd <;> simp [h1, h2, Bool.cond_eq_ite]
theorem sameOnce_self (a : Once) (h : a.Line.length < 4611686018427387904) : taskmilllaw_sameOnce a a = some true := by
  obtain ⟨an, ad, al⟩ := a
  rw [sameOnce_mk _ _ _ _ _ _ h]
  simp
theorem once_eta (g : Once) : Once.mk g.By g.Done g.Line = g := rfl
set_option maxHeartbeats 2000000 in
theorem onces (o : Once) (task : Int) : taskmilllaw_SyncOnces o task = some true := by
  unfold taskmilllaw_SyncOnces
  rw [begun_eq, long_eq]
  simp only [Option.bind_some, Bool.not_true, cond_false]
  by_cases h0 : (700 < o.Line.length ∧ o.Line.length < 4999) ∨ 6000 < o.Line.length
  · simp [h0]
  · have hl : o.Line.length ≤ 6000 := by omega
    rw [own_eq _ (by omega)]
    simp only [h0, decide_false, cond_false, Option.bind_some, once_eta, begin_eq, end_eq, refOnce_eq, F_eq]
    rw [refCome_eq _ _ _ (by omega)]
    simp only [Option.bind_some]
    -- the second half
    have j3 : ∀ w, w = endF o task → taskmilllaw_SyncOnces_j3 o (endR o task).1.By (endR o task).1.Done (endR o task).2.1 (endR o task).2.2 w = some true := by
      rintro w rfl
      unfold taskmilllaw_SyncOnces_j3
      by_cases hc : (endF o task).Code = 0
      · have hf : endF o task = ⟨0, 0⟩ := by
          unfold endF at hc ⊢
          rcases onceF_ok o with ⟨_, h⟩ | h
          · rw [h, if_neg (by simp)] at hc ⊢
            split at hc
            · simp at hc
            · rename_i h1; rw [if_neg h1]
          · rw [if_pos h] at hc; exact absurd hc h
        simp [endR, hf, taskmilllaw_SyncOnces_j2, sameOnce_mk _ _ _ _ [] _ (by simp), ints_eq _ _ (show o.Line.length < 4611686018427387904 by omega)]
      · simp [endR, hc, taskmilllaw_SyncOnces_j1, sameOnce_mk _ _ _ _ [] _ (by simp), Bool.cond_eq_ite]
    have j4 : taskmilllaw_SyncOnces_j4 o task (endR o task).1.By (endR o task).1.Done (endR o task).2.1 (endR o task).2.2 (onceF o) = some true := by
      unfold taskmilllaw_SyncOnces_j4
      rcases onceF_ok o with ⟨_, h⟩ | h
      · by_cases h1 : task < 1 ∨ o.By ≠ task
        · have h1' : (decide (task < 1) || (task != o.By)) = true := by simp at h1 ⊢; omega
          simp [h, h1', j3 _ (show (⟨11, -1⟩ : Fault) = endF o task by simp [endF, h, h1])]
        · have h1' : (decide (task < 1) || (task != o.By)) = false := by simp at h1 ⊢; omega
          simp [h, h1', j3 _ (show (⟨0, 0⟩ : Fault) = endF o task by simp [endF, h, h1])]
      · have h' : ((onceF o).Code == 0) = false := by simpa using h
        simp [h', j3 _ (show onceF o = endF o task by simp [endF, h])]
    have j10 : ∀ w, w = beginF o task → taskmilllaw_SyncOnces_j10 o task (beginR o task).2.1 (beginR o task).1.By (beginR o task).1.Done (beginR o task).2.2 (endR o task).1.By (endR o task).1.Done (endR o task).2.1 (endR o task).2.2 (onceF o) w o.Line (beginR o task).1.Line = some true := by
      rintro w rfl
      unfold taskmilllaw_SyncOnces_j10 taskmilllaw_SyncOnces_j9
      rw [once_eta, sameOnce_self o (by omega), own_eq _ (by omega)]
      have hb : (o.Line.length + 1) * 8 ≤ 140737488355328 := by omega
      by_cases hc : (beginF o task).Code = 0
      · have hcases : OkO o ∧ comeF o.Line task = ⟨0, 0⟩ ∧ o.By ≠ task ∧ beginF o task = ⟨0, 0⟩ := by
          unfold beginF at hc ⊢
          rcases onceF_ok o with ⟨ok, h⟩ | h
          · rw [h, if_neg (by simp)] at hc ⊢
            rcases comeF_cases o.Line task with h2 | h2
            · rw [h2, if_neg (by simp)] at hc ⊢
              split at hc
              · simp at hc
              · rename_i h3; exact ⟨ok, rfl, h3, by rw [if_neg h3]⟩
            · rw [if_pos h2] at hc; exact absurd hc h2
          · rw [if_pos h] at hc; exact absurd hc h
        obtain ⟨ok, h1, h2, hf⟩ := hcases
        cases hd : o.Done with
        | true =>
          have e : (⟨o.By, o.Done, o.Line⟩ : Once) = o := rfl
          rw [hd] at e
          simp [beginR, hf, hd, e, sameOnce_self o (by omega), taskmilllaw_SyncOnces_j6, j4]
        | false =>
          by_cases h3 : o.By = 0
          · have h4 := ok.emp h3
            simp [beginR, hf, hd, h3, h4, sameOnce_mk _ _ _ _ [] _ (by simp), taskmilllaw_SyncOnces_j7, j4]
          · have h5 : (o.By == 0) = false := by simpa using h3
            simp [beginR, hf, hd, h3, h5, hb, sameOnce_mk _ _ _ _ (o.Line ++ [task]) _ (by simp; omega), taskmilllaw_SyncOnces_j8, j4]
      · simp [beginR, hc, sameOnce_mk _ _ _ _ [] _ (by simp), taskmilllaw_SyncOnces_j5, j4, Bool.cond_eq_ite]
    rcases onceF_ok o with ⟨_, h⟩ | h
    · rcases comeF_cases o.Line task with h2 | h2
      · by_cases h3 : o.By = task
        · have h3' : (o.By == task) = true := by simpa using h3
          have := j10 ⟨11, -1⟩ (by simp [beginF, h, h2, h3])
          simp only [h, h2, h3', ne_eq, not_true_eq_false, if_false, beq_self_eq_true, Bool.and_self, cond_true] at this ⊢
          exact this
        · have h3' : (o.By == task) = false := by simpa using h3
          have := j10 ⟨0, 0⟩ (by simp [beginF, h, h2, h3])
          simp only [h, h2, h3', ne_eq, not_true_eq_false, if_false, Bool.and_false, cond_false] at this ⊢
          exact this
      · have h2' : ((comeF o.Line task).Code == 0) = false := by simpa using h2
        have := j10 (comeF o.Line task) (by simp [beginF, h, h2])
        simp only [h, h2', ne_eq, not_true_eq_false, if_false, Bool.false_and, cond_false] at this ⊢
        exact this
    · have h' : ((onceF o).Code == 0) = false := by simpa using h
      have := j10 (onceF o) (by simp [beginF, h])
      simp only [h, h', ne_eq, not_false_eq_true, if_true, Bool.false_and, cond_false] at this ⊢
      exact this
/-! ### Gates -/
def gateF (g : Gate) : Fault := if (lineF g.Line).Code ≠ 0 then lineF g.Line else if g.Need < 1 ∨ 5000 < g.Need then ⟨3, 0⟩ else if g.Need ≤ (g.Line.length : Int) then ⟨5, 0⟩ else ⟨0, 0⟩
def arriveF (g : Gate) (t : Int) : Fault := if (gateF g).Code ≠ 0 then gateF g else comeF g.Line t
theorem refGate_eq (g : Gate) : taskmillref_GateFault g = some (gateF g) := by
  unfold taskmillref_GateFault taskmillref_GateFault_j2 taskmillref_GateFault_j1 gateF
  rw [refLine_eq]
  rcases lineF_ok g.Line with ⟨ok, h⟩ | h
  · by_cases h1 : g.Need < 1 ∨ 5000 < g.Need
    · have h1' : (decide (g.Need < 1) || decide (5000 < g.Need)) = true := by simpa using h1
      simp [h, h1, h1']
    · have h1' : (decide (g.Need < 1) || decide (5000 < g.Need)) = false := by simp at h1 ⊢; omega
      by_cases h2 : g.Need ≤ (g.Line.length : Int) <;> simp [h, h1, h1', h2]
  · have h' : ((lineF g.Line).Code == 0) = false := by simpa using h
    simp [h, h']
theorem gateF_ok (g : Gate) : (OkL g.Line ∧ 1 ≤ g.Need ∧ g.Need ≤ 5000 ∧ (g.Line.length : Int) < g.Need) ∧ gateF g = ⟨0, 0⟩ ∨ (gateF g).Code ≠ 0 := by
  unfold gateF
  rcases lineF_ok g.Line with ⟨ok, h⟩ | h
  · rw [h, if_neg (by simp)]
    split
    · right; simp
    · split
      · right; simp
      · left; exact ⟨⟨ok, by omega, by omega, by omega⟩, rfl⟩
  · right; rw [if_pos h]; exact h
theorem gateF_of {g : Gate} (h : OkL g.Line) (h1 : 1 ≤ g.Need) (h2 : g.Need ≤ 5000) (h3 : (g.Line.length : Int) < g.Need) : gateF g = ⟨0, 0⟩ := by
  unfold gateF
  rw [lineF_of h, if_neg (by simp), if_neg (by omega), if_neg (by omega)]
def arriveR (g : Gate) (t : Int) : Gate × List Int × Fault :=
  if (arriveF g t).Code ≠ 0 then (⟨0, []⟩, [], arriveF g t)
  else if (((g.Line ++ [t]).length : Nat) : Int) = g.Need then (⟨g.Need, []⟩, g.Line ++ [t], ⟨0, 0⟩) else (⟨g.Need, g.Line ++ [t]⟩, [], ⟨0, 0⟩)
theorem arrive_eq (g : Gate) (t : Int) : sync_Arrive g t = some ((arriveR g t).1.Need, (arriveR g t).2.2, (arriveR g t).1.Line, (arriveR g t).2.1) := by
  unfold sync_Arrive arriveR arriveF gateF
  rw [line_eq]
  rcases lineF_ok g.Line with ⟨ok, h⟩ | h
  · have h3 := ok.len
    rw [clone_eq _ (by omega), comes_eq _ _ (by omega)]
    have h8 : (g.Line.length + 1) * 8 ≤ 140737488355328 := by omega
    by_cases h1 : g.Need < 1 ∨ 5000 < g.Need
    · have h1' : (decide (g.Need < 1) || decide (5000 < g.Need)) = true := by simpa using h1
      simp [h, h1, h1']
    · have h1' : (decide (g.Need < 1) || decide (5000 < g.Need)) = false := by simp at h1 ⊢; omega
      by_cases h2 : g.Need ≤ (g.Line.length : Int)
      · simp [h, h1, h1', h2]
      · rcases comeF_cases g.Line t with hc | hc
        · by_cases h5 : ((g.Line.length : Nat) : Int) + 1 = g.Need <;> simp [h, h1, h1', h2, hc, h5, h8, Bool.cond_eq_ite]
        · simp [h, h1, h1', h2, hc, Bool.cond_eq_ite]
  · simp [h, Bool.cond_eq_ite]
theorem sameGate_mk (an bn : Int) (al bl : List Int) (h : al.length < 4611686018427387904) : taskmilllaw_sameGate ⟨an, al⟩ ⟨bn, bl⟩ = some (decide (an = bn ∧ al = bl)) := by
  unfold taskmilllaw_sameGate taskmilllaw_sameGate_j1
  rw [ints_eq _ _ h]
  by_cases h1 : an = bn <;> simp [h1, Bool.cond_eq_ite]
theorem gate_eta (g : Gate) : Gate.mk g.Need g.Line = g := rfl
theorem gates (g : Gate) (task : Int) : taskmilllaw_SyncGates g task = some true := by
  unfold taskmilllaw_SyncGates
  rw [begun_eq, long_eq]
  simp only [Option.bind_some, Bool.not_true, cond_false]
  by_cases h0 : (700 < g.Line.length ∧ g.Line.length < 4999) ∨ 6000 < g.Line.length
  · simp [h0]
  · have hl : g.Line.length ≤ 6000 := by omega
    rw [own_eq _ (by omega)]
    simp only [h0, decide_false, cond_false, Option.bind_some, gate_eta, arrive_eq, refGate_eq]
    rw [refCome_eq _ _ _ (by omega)]
    simp only [Option.bind_some]
    have hs : taskmilllaw_sameGate g g = some true := by
      obtain ⟨a, b⟩ := g
      rw [sameGate_mk _ _ _ _ (show b.length < 4611686018427387904 from by have : b.length ≤ 6000 := hl; omega)]; simp
    rw [hs]
    have hw : (if (gateF g).Code ≠ 0 then gateF g else comeF g.Line task) = arriveF g task := rfl
    simp only [hw, Option.bind_some]
    unfold taskmilllaw_SyncGates_j4
    rw [own_eq _ (by omega)]
    have hb : (g.Line.length + 1) * 8 ≤ 140737488355328 := by omega
    by_cases hc : (arriveF g task).Code = 0
    · have hf : arriveF g task = ⟨0, 0⟩ := by
        unfold arriveF at hc ⊢
        rcases gateF_ok g with ⟨_, h⟩ | h
        · rw [h, if_neg (by simp)] at hc ⊢
          rcases comeF_cases g.Line task with h2 | h2
          · exact h2
          · exact absurd hc h2
        · rw [if_pos h] at hc; exact absurd hc h
      by_cases h5 : ((g.Line.length : Nat) : Int) + 1 = g.Need
      · simp [arriveR, hf, h5, hb, taskmilllaw_SyncGates_j2, sameGate_mk _ _ [] _ (by simp), ints_eq (g.Line ++ [task]) _ (by simp; omega)]
      · simp [arriveR, hf, h5, hb, taskmilllaw_SyncGates_j3, sameGate_mk _ _ (g.Line ++ [task]) _ (by simp; omega), Bool.cond_eq_ite]
    · simp [arriveR, hc, taskmilllaw_SyncGates_j1, sameGate_mk _ _ [] _ (by simp), Bool.cond_eq_ite]
/-! ### Acquire -/
theorem giveR_split : ∀ (l : List Want) (f : Int), tasksOf l = (giveR f l).1 ++ tasksOf (giveR f l).2.2
  | [], f => rfl
  | w :: r, f => by
    unfold giveR
    split
    · show w.Task :: tasksOf r = w.Task :: _
      rw [giveR_split r (f - w.N)]; rfl
    · rfl
theorem giveR_len (l : List Want) (f : Int) : (giveR f l).1.length + (giveR f l).2.2.length = l.length := by
  have := congrArg List.length (giveR_split l f)
  simp [tasksOf] at this
  omega
def acqF (s : Sema) (t n : Int) : Fault := if (semaF s).Code ≠ 0 then semaF s else if t < 1 ∨ n < 1 ∨ 1000000000 < n then ⟨3, -1⟩ else if t ∈ tasksOf s.Line then ⟨10, -1⟩ else if s.Line.length = 5000 then ⟨9, 0⟩ else ⟨0, 0⟩
def acqG (s : Sema) (t n : Int) : List Int × Int × List Want := giveR s.Free (s.Line ++ [⟨t, false, n⟩])
def acqR (s : Sema) (t n : Int) (try' : Bool) : Sema × Bool × Fault :=
  if (acqF s t n).Code ≠ 0 then (⟨0, []⟩, false, acqF s t n)
  else if t ∈ (acqG s t n).1 then (⟨(acqG s t n).2.1, (acqG s t n).2.2⟩, true, ⟨0, 0⟩)
  else if try' = true then (s, false, ⟨0, 0⟩)
  else (⟨(acqG s t n).2.1, (acqG s t n).2.2⟩, false, ⟨0, 0⟩)
theorem acqF_cases (s : Sema) (t n : Int) : (OkS s ∧ 1 ≤ t ∧ 1 ≤ n ∧ n ≤ 1000000000 ∧ t ∉ tasksOf s.Line ∧ s.Line.length < 5000 ∧ acqF s t n = ⟨0, 0⟩) ∨ (acqF s t n).Code ≠ 0 := by
  unfold acqF
  rcases semaF_ok s with ⟨ok, h⟩ | h
  · rw [h, if_neg (by simp)]
    split
    · right; simp
    · split
      · right; simp
      · split
        · right; simp
        · left
          have := ok.len
          exact ⟨ok, by omega, by omega, by omega, by assumption, by omega, rfl⟩
  · right; rw [if_pos h]; exact h
theorem acqG_out {s : Sema} (ok : OkS s) {t n : Int} (h : t ∉ (acqG s t n).1) : acqG s t n = ([], s.Free, s.Line ++ [⟨t, false, n⟩]) := by
  have hh := ok.head
  unfold acqG at h ⊢
  unfold headIn at hh
  cases hl : s.Line with
  | nil =>
    rw [hl] at h
    simp only [List.nil_append, giveR] at h ⊢
    split at h
    · simp at h
    · rename_i h1; rw [if_neg h1]
  | cons w r =>
    rw [hl] at hh
    simp only [decide_eq_false_iff_not] at hh
    simp [giveR, hh]
theorem acquire_eq (s : Sema) (t n : Int) (try' : Bool) : sync_Acquire s t n try' = some ((acqR s t n try').1.Free, (acqR s t n try').2.1, (acqR s t n try').2.2, (acqR s t n try').1.Line) := by
  have e : (((s.Line.length : Nat) : Int) == 5000) = decide (s.Line.length = 5000) := by rw [Bool.eq_iff_iff]; simp; omega
  rcases acqF_cases s t n with ⟨ok, h1, h2, h3, h4, h5, hf⟩ | hc
  · have hlo := ok.lo
    have hhi := ok.hi
    unfold sync_Acquire
    rw [sema_eq, semaF_of ok, containsW_eq _ _ (by omega), cloneW_eq _ (by omega)]
    have c1 : (decide (t < 1) || (decide (n < 1) || decide (1000000000 < n))) = false := by simp; omega
    have hb : ((s.Line.length + 1) * 24 ≤ 140737488355328) := by omega
    have h5' : ¬ s.Line.length = 5000 := by omega
    have hnum : ∀ w ∈ s.Line ++ [(⟨t, false, n⟩ : Want)], 1 ≤ w.N ∧ w.N ≤ 1000000000 := fun w hw => by
      rcases List.mem_append.1 hw with hw | hw
      · exact ok.num w hw
      · simp only [List.mem_singleton] at hw; subst hw; exact ⟨h2, h3⟩
    have hg := give_eq (s.Line ++ [⟨t, false, n⟩]) s.Free hnum hlo (by omega) (by simp; omega)
    have hlen := giveR_len (s.Line ++ [⟨t, false, n⟩]) s.Free
    simp only [List.length_append, List.length_cons, List.length_nil] at hlen
    simp only [Option.bind_some, c1, h4, e, h5', decide_false, cond_false, bne_self_eq_false, List.length_append, List.length_cons, List.length_nil, Nat.zero_add, hb, decide_true, cond_true, hg]
    rw [contains_eq _ _ (by omega)]
    simp only [Option.bind_some]
    unfold acqR
    rw [hf, if_neg (by simp)]
    by_cases hm : t ∈ (acqG s t n).1
    · have hm' : t ∈ (giveR s.Free (s.Line ++ [⟨t, false, n⟩])).1 := hm
      simp [hm, hm']
      exact ⟨rfl, rfl⟩
    · have hG := acqG_out ok hm
      have hm' : t ∉ (giveR s.Free (s.Line ++ [⟨t, false, n⟩])).1 := hm
      have hG' : giveR s.Free (s.Line ++ [⟨t, false, n⟩]) = ([], s.Free, s.Line ++ [⟨t, false, n⟩]) := hG
      rw [hG']
      cases try' with
      | false => simp [sync_Acquire_j1, hG]
      | true =>
        have hcut : cut (s.Line ++ [(⟨t, false, n⟩ : Want)]) 0 (s.Line.length : Int) = s.Line := by rw [cut_take]; simp
        have hw : IntKind.i64.wrap (s.Line.length : Int) = (s.Line.length : Int) := wrap_id (by omega) (by omega)
        have hle : (s.Line.length : Int) ≤ (s.Line.length : Int) + 1 := by omega
        simp [sync_Acquire_j1, hG, hw, hcut, hle]
  · unfold sync_Acquire acqR
    rw [if_pos hc]
    unfold acqF at hc ⊢
    rw [sema_eq]
    rcases semaF_ok s with ⟨ok, h⟩ | h
    · have := ok.len
      rw [containsW_eq _ _ (by omega)]
      rw [h, if_neg (by simp)] at hc ⊢
      by_cases h1 : t < 1 ∨ n < 1 ∨ 1000000000 < n
      · have c1 : (decide (t < 1) || (decide (n < 1) || decide (1000000000 < n))) = true := by simpa using h1
        simp [h1, c1]
      · have c1 : (decide (t < 1) || (decide (n < 1) || decide (1000000000 < n))) = false := by simp at h1 ⊢; omega
        by_cases h2 : t ∈ tasksOf s.Line
        · simp [h1, c1, h2]
        · by_cases h3 : s.Line.length = 5000
          · simp [h1, c1, h2, h3]
          · simp [h1, h2, h3] at hc
    · simp [h, Bool.cond_eq_ite]
set_option maxHeartbeats 2000000 in
theorem semas (s : Sema) (task n : Int) (try' : Bool) : taskmilllaw_SyncSemas s task n try' = some true := by
  unfold taskmilllaw_SyncSemas
  rw [begun_eq, long_eq]
  simp only [Option.bind_some, Bool.not_true, cond_false]
  by_cases h0 : (700 < s.Line.length ∧ s.Line.length < 4999) ∨ 6000 < s.Line.length
  · simp [h0]
  · have hl : s.Line.length ≤ 6000 := by omega
    rw [ownW_eq _ (by omega)]
    simp only [h0, decide_false, cond_false, Option.bind_some, sema_eta, acquire_eq, release_eq, refSema_eq, F_eq]
    rw [sameSema_self s (by omega)]
    simp only [Option.bind_some, Bool.not_true, cond_false]
    -- the release
    have j3 : ∀ w, w = relF s n → taskmilllaw_SyncSemas_j3 s n (relR s n).1.Free (relR s n).2.1 (relR s n).2.2 (relR s n).1.Line w = some true := by
      rintro w rfl
      unfold taskmilllaw_SyncSemas_j3
      by_cases hc : (relF s n).Code = 0
      · have hcases : OkS s ∧ ¬ (n < 0 ∨ 1000000000 < n) ∧ ¬ 1000000000 < s.Free + n ∧ relF s n = ⟨0, 0⟩ := by
          unfold relF at hc ⊢
          rcases semaF_ok s with ⟨ok, h⟩ | h
          · rw [h, if_neg (by simp)] at hc ⊢
            split at hc
            · simp at hc
            · split at hc
              · simp at hc
              · rename_i h1 h2
                exact ⟨ok, h1, h2, by rw [if_neg h1, if_neg h2]⟩
          · rw [if_pos h] at hc; exact absurd hc h
        obtain ⟨ok, h1, h2, hf⟩ := hcases
        have h3 := ok.lo
        have h4 := ok.hi
        have hlen := giveR_len s.Line (s.Free + n)
        rw [wrap_id (x := s.Free + n) (by omega) (by omega), given_eq ⟨s.Free + n, s.Line⟩ ok.num (by show 0 ≤ s.Free + n; omega) (by show s.Free + n ≤ _; omega) (by show s.Line.length ≤ _; omega)]
        simp [relR, hf, taskmilllaw_SyncSemas_j2, sameSema_mk _ _ _ _ (show (giveR (s.Free + n) s.Line).2.2.length < 4611686018427387904 by omega), ints_eq _ _ (show (giveR (s.Free + n) s.Line).1.length < 4611686018427387904 by omega)]
      · simp [relR, hc, taskmilllaw_SyncSemas_j1, sameSema_mk _ _ [] _ (by simp), Bool.cond_eq_ite]
    have j5 : taskmilllaw_SyncSemas_j5 s n (relR s n).1.Free (relR s n).2.1 (relR s n).2.2 (semaF s) (relR s n).1.Line = some true := by
      unfold taskmilllaw_SyncSemas_j5 taskmilllaw_SyncSemas_j4
      rcases semaF_ok s with ⟨ok, h⟩ | h
      · have h3 := ok.lo
        have h4 := ok.hi
        by_cases h1 : n < 0 ∨ 1000000000 < n
        · have h1' : (decide (n < 0) || decide (1000000000 < n)) = true := by simpa using h1
          simp [h, h1', j3 _ (show (⟨3, -1⟩ : Fault) = relF s n by simp [relF, h, h1])]
        · have h1' : (decide (n < 0) || decide (1000000000 < n)) = false := by simp at h1 ⊢; omega
          rw [wrap_id (x := s.Free + n) (by omega) (by omega)]
          by_cases h2 : 1000000000 < s.Free + n
          · simp [h, h1', h2, j3 _ (show (⟨9, 0⟩ : Fault) = relF s n by simp [relF, h, h1, h2])]
          · simp [h, h1', h2, j3 _ (show (⟨0, 0⟩ : Fault) = relF s n by simp [relF, h, h1, h2])]
      · have h' : ((semaF s).Code == 0) = false := by simpa using h
        simp [h', j3 _ (show semaF s = relF s n by simp [relF, h])]
    -- the acquiring
    have j8 : ∀ w, w = acqF s task n → taskmilllaw_SyncSemas_j8 s task n try' (acqR s task n try').2.1 (acqR s task n try').1.Free (acqR s task n try').2.2 (relR s n).1.Free (relR s n).2.1 (relR s n).2.2 (semaF s) (acqR s task n try').1.Line (relR s n).1.Line w = some true := by
      rintro w rfl
      unfold taskmilllaw_SyncSemas_j8
      rw [ownW_eq _ (by omega)]
      rcases acqF_cases s task n with ⟨ok, h1, h2, h3, h4, h5, hf⟩ | hc
      · have hlo := ok.lo
        have hhi := ok.hi
        have hb : ((s.Line.length + 1) * 24 ≤ 140737488355328) := by omega
        have hnum : ∀ w ∈ s.Line ++ [(⟨task, false, n⟩ : Want)], 1 ≤ w.N ∧ w.N ≤ 1000000000 := fun w hw => by
          rcases List.mem_append.1 hw with hw | hw
          · exact ok.num w hw
          · simp only [List.mem_singleton] at hw; subst hw; exact ⟨h2, h3⟩
        have hg := given1_eq (s.Line ++ [⟨task, false, n⟩]) s.Free hnum hlo (by omega) (by simp; omega)
        have hlen := giveR_len (s.Line ++ [⟨task, false, n⟩]) s.Free
        simp only [List.length_append, List.length_cons, List.length_nil] at hlen
        simp only [Option.bind_some, List.length_append, List.length_cons, List.length_nil, Nat.zero_add, hb, decide_true, cond_true, hg]
        rw [has_eq _ _ (by omega)]
        simp only [Option.bind_some, acqR, hf, ne_eq, not_true_eq_false, if_false]
        by_cases hm : task ∈ (acqG s task n).1
        · have hm' : task ∈ (giveR s.Free (s.Line ++ [⟨task, false, n⟩])).1 := hm
          have hs : taskmilllaw_sameSema ⟨(acqG s task n).2.1, (acqG s task n).2.2⟩ ⟨(giveR s.Free (s.Line ++ [⟨task, false, n⟩])).2.1, (giveR s.Free (s.Line ++ [⟨task, false, n⟩])).2.2⟩ = some true := sameSema_self ⟨(acqG s task n).2.1, (acqG s task n).2.2⟩ (by show (giveR s.Free (s.Line ++ [⟨task, false, n⟩])).2.2.length < _; omega)
          simp [hm, hm', taskmilllaw_SyncSemas_j7, hs, j5]
        · have hG := acqG_out ok hm
          have hm' : task ∉ (giveR s.Free (s.Line ++ [⟨task, false, n⟩])).1 := hm
          have hG' : giveR s.Free (s.Line ++ [⟨task, false, n⟩]) = ([], s.Free, s.Line ++ [⟨task, false, n⟩]) := hG
          cases try' with
          | false => simp [hm, hG, hG', taskmilllaw_SyncSemas_j7, sameSema_mk _ _ (s.Line ++ [⟨task, false, n⟩]) _ (by simp; omega), j5]
          | true => simp [hm, hG', taskmilllaw_SyncSemas_j7, sameSema_mk _ _ s.Line _ (by omega), j5]
      · simp [acqR, hc, taskmilllaw_SyncSemas_j6, sameSema_mk _ _ [] _ (by simp), j5, Bool.cond_eq_ite]
    have e : (((s.Line.length : Nat) : Int) == 5000) = decide (s.Line.length = 5000) := by rw [Bool.eq_iff_iff]; simp; omega
    have j11 : ∀ w, (w.Code ≠ 0 → w = acqF s task n) → (w.Code = 0 → w = ⟨0, 0⟩ ∧ acqF s task n = if task ∈ tasksOf s.Line then ⟨10, -1⟩ else if s.Line.length = 5000 then ⟨9, 0⟩ else ⟨0, 0⟩) → taskmilllaw_SyncSemas_j11 s task n try' (acqR s task n try').2.1 (acqR s task n try').1.Free (acqR s task n try').2.2 (relR s n).1.Free (relR s n).2.1 (relR s n).2.2 (semaF s) w (acqR s task n try').1.Line (relR s n).1.Line = some true := by
      intro w hw hw'
      unfold taskmilllaw_SyncSemas_j11 taskmilllaw_SyncSemas_j10 taskmilllaw_SyncSemas_j9
      rw [inLine_eq _ _ (by omega)]
      simp only [Option.bind_some, inLine_nonneg, F_eq, e]
      by_cases hc : w.Code = 0
      · obtain ⟨rfl, hF⟩ := hw' hc
        by_cases h2 : task ∈ tasksOf s.Line
        · rw [if_pos h2] at hF
          simp [h2, j8 _ hF.symm]
        · rw [if_neg h2] at hF
          by_cases h3 : s.Line.length = 5000
          · rw [if_pos h3] at hF
            simp [h2, h3, j8 _ hF.symm]
          · rw [if_neg h3] at hF
            simp [h2, h3, j8 _ hF.symm]
      · have hc' : (w.Code == 0) = false := by simpa using hc
        simp [hc', j8 _ (hw hc)]
    rcases semaF_ok s with ⟨ok, h⟩ | h
    · by_cases h1 : task < 1 ∨ n < 1 ∨ 1000000000 < n
      · have c1 : (decide (task < 1) || (decide (n < 1) || decide (1000000000 < n))) = true := by simpa using h1
        have := j11 ⟨3, -1⟩ (fun _ => by simp [acqF, h, h1]) (fun hh => by simp at hh)
        simp only [h, c1, beq_self_eq_true, Bool.and_self, cond_true] at this ⊢
        exact this
      · have c1 : (decide (task < 1) || (decide (n < 1) || decide (1000000000 < n))) = false := by simp at h1 ⊢; omega
        have := j11 ⟨0, 0⟩ (fun hh => by simp at hh) (fun _ => ⟨rfl, by simp only [acqF, h, h1, ne_eq, not_true_eq_false, if_false]⟩)
        simp only [h, c1, Bool.and_false, cond_false] at this ⊢
        exact this
    · have h' : ((semaF s).Code == 0) = false := by simpa using h
      have := j11 (semaF s) (fun _ => by simp [acqF, h]) (fun hh => absurd hh h)
      simp only [h', Bool.false_and, cond_false]
      exact this
/-! ### Tasks in a row -/
/-- so many numbers, from the one behind a on -/
def seqL (a : Int) (k : Nat) : List Int := (List.range k).map fun i => a + 1 + ((i : Nat) : Int)
theorem seq_len (a : Int) (k : Nat) : (seqL a k).length = k := by simp [seqL]
theorem seq_succ (a : Int) (k : Nat) : seqL a (k + 1) = seqL a k ++ [a + 1 + (k : Int)] := by simp [seqL, List.range_succ]
theorem mem_seq {a : Int} {k : Nat} {x : Int} : x ∈ seqL a k ↔ a < x ∧ x ≤ a + k := by
  simp only [seqL, List.mem_map, List.mem_range]
  constructor
  · rintro ⟨i, h, rfl⟩; omega
  · intro h; exact ⟨(x - a - 1).toNat, by omega, by omega⟩
theorem seq_nodup (a : Int) (k : Nat) : (seqL a k).Nodup := by
  induction k with
  | zero => simp [seqL]
  | succ n ih =>
    rw [seq_succ, List.nodup_append]
    refine ⟨ih, by simp, fun x hx y hy => ?_⟩
    have := mem_seq.1 hx
    simp only [List.mem_singleton] at hy
    omega
theorem seq_get {a : Int} {k i : Nat} (h : i < k) : (seqL a k)[i]'(by rw [seq_len]; exact h) = a + 1 + (i : Int) := by simp [seqL]
theorem okL_seq {a : Int} {k : Nat} (h0 : 0 ≤ a) (h : k ≤ 5000) : OkL (seqL a k) := ⟨by rw [seq_len]; exact h, fun x hx => by have := mem_seq.1 hx; omega, seq_nodup a k⟩
/-- wants of one, by such tasks -/
def wantL (a : Int) (k : Nat) : List Want := (seqL a k).map fun t => ⟨t, false, 1⟩
theorem want_len (a : Int) (k : Nat) : (wantL a k).length = k := by simp [wantL, seq_len]
theorem want_tasks (a : Int) (k : Nat) : tasksOf (wantL a k) = seqL a k := by simp [tasksOf, wantL, Function.comp_def]
theorem want_succ (a : Int) (k : Nat) : wantL a (k + 1) = wantL a k ++ [⟨a + 1 + (k : Int), false, 1⟩] := by simp [wantL, seq_succ]
theorem okS_drop {a : Int} {k : Nat} (h0 : 0 ≤ a) (h : k ≤ 5000) (j : Nat) : OkS ⟨0, (wantL a k).drop j⟩ := by
  have hm : ∀ w ∈ (wantL a k).drop j, w.Write = false ∧ w.N = 1 ∧ a < w.Task := fun w hw => by
    have := List.mem_of_mem_drop hw
    simp only [wantL, List.mem_map] at this
    obtain ⟨t, h1, rfl⟩ := this
    exact ⟨rfl, rfl, (mem_seq.1 h1).1⟩
  refine ⟨by show ((wantL a k).drop j).length ≤ 5000; rw [List.length_drop, want_len]; omega, by show (0 : Int) ≤ 0; omega, by show (0 : Int) ≤ _; omega, ?_, fun w hw => by have := hm w hw; omega, fun w hw => by have := hm w hw; omega, fun w hw => (hm w hw).1, ?_⟩
  · unfold headIn
    show (match (wantL a k).drop j with | [] => false | w :: _ => decide (w.N ≤ 0)) = false
    cases hd : (wantL a k).drop j with
    | nil => rfl
    | cons w r =>
      have := hm w (by rw [hd]; exact List.mem_cons_self ..)
      simp only [decide_eq_false_iff_not]; omega
  · show (tasksOf ((wantL a k).drop j)).Nodup
    have : tasksOf ((wantL a k).drop j) = (seqL a k).drop j := by rw [← want_tasks]; simp [tasksOf, List.map_drop]
    rw [this]
    exact (List.drop_sublist _ _).nodup (seq_nodup a k)
theorem want_drop {a : Int} {k j : Nat} (h : j < k) : (wantL a k).drop j = ⟨a + 1 + (j : Int), false, 1⟩ :: (wantL a k).drop (j + 1) := by
  rw [List.drop_eq_getElem_cons (by rw [want_len]; exact h)]
  congr 1
  simp [wantL, seqL]
theorem mutex (n : Int) : taskmilllaw_SyncMutex n = some true := by
  unfold taskmilllaw_SyncMutex
  rw [begun_eq]
  simp only [Option.bind_some, Bool.not_true, cond_false]
  by_cases h0 : n < 1 ∨ 60 < n
  · have : (decide (n < 1) || decide (60 < n)) = true := by simpa using h0
    simp [this]
  · have h0' : (decide (n < 1) || decide (60 < n)) = false := by simp at h0 ⊢; omega
    simp only [h0', cond_false]
    obtain ⟨m, rfl⟩ : ∃ m : Nat, n = (m : Int) + 1 := ⟨(n - 1).toNat, by omega⟩
    have hm : m < 60 := by omega
    -- what is released
    have rel : loopO (taskmilllaw_SyncMutex_l1 ((m : Int) + 1)) (2, 0, wantL 1 m) = some true := by
      have key := loopO_all (step := taskmilllaw_SyncMutex_l1 ((m : Int) + 1)) (fun j => (((j : Nat) : Int) + 2, (0 : Int), (wantL 1 m).drop j)) (some true) m (fun j hj => ?_) ?_
      · exact key
      · have ok := okS_drop (a := 1) (k := m) (by omega) (by omega) j
        have hR : relR ⟨0, (wantL 1 m).drop j⟩ 1 = (⟨0, (wantL 1 m).drop (j + 1)⟩, [((j : Nat) : Int) + 2], ⟨0, 0⟩) := by
          have hd := want_drop (a := 1) hj
          have hF : relF ⟨0, (wantL 1 m).drop j⟩ 1 = ⟨0, 0⟩ := by simp [relF, semaF_of ok]
          have ok2 := (okS_drop (a := 1) (k := m) (by omega) (by omega) (j + 1)).head
          unfold relR
          rw [hF, if_neg (by simp)]
          show (_, _, _) = _
          simp only [hd, Int.zero_add]
          have hg : giveR 1 ((⟨1 + 1 + (j : Int), false, 1⟩ : Want) :: (wantL 1 m).drop (j + 1)) = ([1 + 1 + (j : Int)], 0, (wantL 1 m).drop (j + 1)) := by
            have hz : giveR 0 ((wantL 1 m).drop (j + 1)) = ([], 0, (wantL 1 m).drop (j + 1)) := by
              unfold headIn at ok2
              cases hl : (wantL 1 m).drop (j + 1) with
              | nil => rfl
              | cons w r =>
                have ok2 : (match (wantL 1 m).drop (j + 1) with | [] => false | w :: _ => decide (w.N ≤ 0)) = false := ok2
                rw [hl] at ok2
                simp only [decide_eq_false_iff_not] at ok2
                simp [giveR, ok2]
            simp [giveR, hz]
          rw [hg]
          have e : (1 : Int) + 1 + (j : Int) = (j : Int) + 2 := by omega
          rw [e]
        have hle : ((j : Nat) : Int) + 2 ≤ (m : Int) + 1 := by omega
        simp only [taskmilllaw_SyncMutex_l1, release_eq, hR, Option.bind_some]
        rw [ints_eq _ _ (by simp)]
        simp [hle, taskmilllaw_SyncMutex_j1, wrap_id (x := ((j : Nat) : Int) + 2 + 1) (by omega) (by omega)]
        omega
      · have he : (wantL 1 m).drop m = [] := by rw [List.drop_eq_nil_iff, want_len]; omega
        have ok := okS_drop (a := 1) (k := m) (by omega) (by omega) m
        rw [he] at ok
        have hR : relR ⟨0, []⟩ 1 = (⟨1, []⟩, [], ⟨0, 0⟩) := by simp [relR, relF, semaF_of ok, giveR]
        have hle : ¬ ((m : Nat) : Int) + 2 ≤ (m : Int) + 1 := by omega
        simp only [taskmilllaw_SyncMutex_l1, release_eq, he, hR, hle, decide_false, cond_false, Option.bind_some]
        rw [sameSema_mk _ _ _ _ (by simp)]
        simp [taskmilllaw_SyncMutex_j2]
    -- what is acquired
    have ok1 : OkS ⟨1, []⟩ := ⟨by simp, by show (0 : Int) ≤ 1; omega, by show (1 : Int) ≤ _; omega, rfl, by simp, by simp, by simp, by simp [tasksOf]⟩
    have first : taskmilllaw_SyncMutex_l2 ((m : Int) + 1) (1, 1, []) = some (.inl (2, 0, wantL 1 0)) := by
      have hF : acqF ⟨1, []⟩ 1 1 = ⟨0, 0⟩ := by simp [acqF, semaF_of ok1, tasksOf]
      have hR : acqR ⟨1, []⟩ 1 1 false = (⟨0, []⟩, true, ⟨0, 0⟩) := by simp [acqR, hF, acqG, giveR]
      have hle : (1 : Int) ≤ (m : Int) + 1 := by omega
      simp [taskmilllaw_SyncMutex_l2, acquire_eq, hR, hle, wantL, seqL, show IntKind.i64.wrap 2 = 2 from by decide]
    rw [loopO_inl first]
    have key := loopO_all (step := taskmilllaw_SyncMutex_l2 ((m : Int) + 1)) (fun j => (((j : Nat) : Int) + 2, (0 : Int), wantL 1 j)) (some true) m (fun j hj => ?_) ?_
    · exact key
    · have ok := okS_drop (a := 1) (k := j) (by omega) (by omega) 0
      rw [List.drop_zero] at ok
      have hn : ((j : Nat) : Int) + 2 ∉ tasksOf (wantL 1 j) := by rw [want_tasks, mem_seq]; omega
      have hF : acqF ⟨0, wantL 1 j⟩ (((j : Nat) : Int) + 2) 1 = ⟨0, 0⟩ := by
        have h5 : ¬ (wantL 1 j).length = 5000 := by rw [want_len]; omega
        have h6 : ¬ (((j : Nat) : Int) + 2 < 1 ∨ (1 : Int) < 1 ∨ (1000000000 : Int) < 1) := by omega
        simp only [acqF, semaF_of ok, ne_eq, not_true_eq_false, if_false, h6, hn, h5]
      have hG : acqG ⟨0, wantL 1 j⟩ (((j : Nat) : Int) + 2) 1 = ([], 0, wantL 1 (j + 1)) := by
        have hh := ok.head
        rw [want_succ, show (1 : Int) + 1 + (j : Int) = (j : Int) + 2 from by omega]
        unfold acqG headIn at *
        cases hl : wantL 1 j with
        | nil => simp [giveR]
        | cons w r =>
          have hh : (match wantL 1 j with | [] => false | w :: _ => decide (w.N ≤ 0)) = false := hh
          rw [hl] at hh
          simp only [decide_eq_false_iff_not] at hh
          simp [giveR, hh]
      have hR : acqR ⟨0, wantL 1 j⟩ (((j : Nat) : Int) + 2) 1 false = (⟨0, wantL 1 (j + 1)⟩, false, ⟨0, 0⟩) := by simp [acqR, hF, hG]
      have hle : ((j : Nat) : Int) + 2 ≤ (m : Int) + 1 := by omega
      have hne : ((((j : Nat) : Int) + 2) == 1) = false := by simp; omega
      simp only [taskmilllaw_SyncMutex_l2, acquire_eq, hR, hle, hne, Option.bind_some]
      simp [wrap_id (x := ((j : Nat) : Int) + 2 + 1) (by omega) (by omega)]
      omega
    · have hle : ¬ ((m : Nat) : Int) + 2 ≤ (m : Int) + 1 := by omega
      simp only [taskmilllaw_SyncMutex_l2, hle, decide_false, cond_false, rel]
theorem okO_seq {k : Nat} (h : k ≤ 5000) : OkO ⟨1, false, seqL 1 k⟩ :=
  ⟨okL_seq (by omega) h, by show (0 : Int) ≤ 1; omega, by simp, (fun h => by have h : (1 : Int) = 0 := h; omega), fun hm => by have := mem_seq.1 hm; have e : (Once.mk 1 false (seqL 1 k)).By = 1 := rfl; omega⟩
theorem onlyOnce (a b : Int) : taskmilllaw_SyncOnlyOnce a b = some true := by
  unfold taskmilllaw_SyncOnlyOnce
  rw [begun_eq]
  simp only [Option.bind_some, Bool.not_true, cond_false]
  by_cases h0 : a < 1 ∨ 60 < a ∨ b < 0 ∨ 60 < b
  · have : (decide (a < 1) || (decide (60 < a) || (decide (b < 0) || decide (60 < b)))) = true := by simpa using h0
    simp [this]
  · have h0' : (decide (a < 1) || (decide (60 < a) || (decide (b < 0) || decide (60 < b)))) = false := by simp at h0 ⊢; omega
    simp only [h0', cond_false]
    obtain ⟨m, rfl⟩ : ∃ m : Nat, a = (m : Int) + 1 := ⟨(a - 1).toNat, by omega⟩
    obtain ⟨k, rfl⟩ := Int.eq_ofNat_of_zero_le (show 0 ≤ b by omega)
    have hm : m < 60 := by omega
    have hk : k ≤ 60 := by omega
    -- those that come late
    have okd : OkO ⟨0, true, []⟩ := ⟨okL_seq (a := 0) (k := 0) (by omega) (by omega), by show (0 : Int) ≤ 0; omega, (fun _ => rfl), (fun _ => rfl), by simp⟩
    have late : loopO (taskmilllaw_SyncOnlyOnce_l1 ((m : Int) + 1) (k : Int) 0 true) ((m : Int) + 2) = some true := by
      have key := loopO_all (step := taskmilllaw_SyncOnlyOnce_l1 ((m : Int) + 1) (k : Int) 0 true) (fun j => ((j : Nat) : Int) + ((m : Int) + 2)) (some true) k (fun j hj => ?_) ?_
      · simpa using key
      · have hB : beginR ⟨0, true, []⟩ (((j : Nat) : Int) + ((m : Int) + 2)) = (⟨0, true, []⟩, 2, ⟨0, 0⟩) := by
          have hc : comeF [] (((j : Nat) : Int) + ((m : Int) + 2)) = ⟨0, 0⟩ := comeF_of (by omega) (by simp) (by simp)
          have hn : ¬ (0 : Int) = ((j : Nat) : Int) + ((m : Int) + 2) := by omega
          simp [beginR, beginF, onceF_of okd, hc, hn]
        have hle : ((j : Nat) : Int) + ((m : Int) + 2) ≤ (m : Int) + 1 + (k : Int) := by omega
        simp only [taskmilllaw_SyncOnlyOnce_l1, wrap_id (x := (m : Int) + 1 + (k : Int)) (by omega) (by omega), hle, begin_eq, hB, Option.bind_some]
        rw [sameOnce_mk _ _ _ _ _ _ (by simp)]
        simp [taskmilllaw_SyncOnlyOnce_j1, wrap_id (x := ((j : Nat) : Int) + ((m : Int) + 2) + 1) (by omega) (by omega)]
        omega
      · have hle : ¬ ((k : Nat) : Int) + ((m : Int) + 2) ≤ (m : Int) + 1 + (k : Int) := by omega
        simp [taskmilllaw_SyncOnlyOnce_l1, wrap_id (x := (m : Int) + 1 + (k : Int)) (by omega) (by omega), hle]
    -- those that waited
    have waited : loopO (taskmilllaw_SyncOnlyOnce_l2 ((m : Int) + 1) (k : Int)) (0, 0, true, seqL 1 m) = some true := by
      have key := loopO_all (step := taskmilllaw_SyncOnlyOnce_l2 ((m : Int) + 1) (k : Int)) (fun j => (((j : Nat) : Int), (0 : Int), true, seqL 1 m)) (some true) m (fun j hj => ?_) ?_
      · exact key
      · have hl : j < (seqL 1 m).length := by rw [seq_len]; exact hj
        have hx : ix (seqL 1 m) ((j : Nat) : Int) = (j : Int) + 2 := by rw [ix_get hl, seq_get hj]; omega
        simp only [taskmilllaw_SyncOnlyOnce_l2, seq_len, hx, wrap_id (x := (j : Int) + 2) (by omega) (by omega)]
        simp [hj, wrap_n1 j (by omega)]
      · have he : IntKind.i64.wrap ((m : Int) + 1 + 1) = (m : Int) + 2 := by rw [wrap_id (by omega) (by omega)]; omega
        simp [taskmilllaw_SyncOnlyOnce_l2, seq_len, he, late]
    -- the first one
    have first : taskmilllaw_SyncOnlyOnce_l3 ((m : Int) + 1) (k : Int) (1, 0, false, []) = some (.inl (2, 1, false, seqL 1 0)) := by
      have ok : OkO ⟨0, false, []⟩ := ⟨okL_seq (a := 0) (k := 0) (by omega) (by omega), by show (0 : Int) ≤ 0; omega, by simp, (fun _ => rfl), by simp⟩
      have hc : comeF [] 1 = ⟨0, 0⟩ := rfl
      have hB : beginR ⟨0, false, []⟩ 1 = (⟨1, false, []⟩, 1, ⟨0, 0⟩) := by simp [beginR, beginF, onceF_of ok, hc]
      have hle : (1 : Int) ≤ (m : Int) + 1 := by omega
      simp [taskmilllaw_SyncOnlyOnce_l3, begin_eq, hB, hle, seqL, show IntKind.i64.wrap 2 = 2 from by decide]
    rw [loopO_inl first]
    have key := loopO_all (step := taskmilllaw_SyncOnlyOnce_l3 ((m : Int) + 1) (k : Int)) (fun j => (((j : Nat) : Int) + 2, (1 : Int), false, seqL 1 j)) (some true) m (fun j hj => ?_) ?_
    · exact key
    · have ok := okO_seq (k := j) (by omega)
      have hc : comeF (seqL 1 j) (((j : Nat) : Int) + 2) = ⟨0, 0⟩ := comeF_of (by omega) (fun hm => by have := mem_seq.1 hm; omega) (by rw [seq_len]; omega)
      have hn : ¬ (1 : Int) = ((j : Nat) : Int) + 2 := by omega
      have hB : beginR ⟨1, false, seqL 1 j⟩ (((j : Nat) : Int) + 2) = (⟨1, false, seqL 1 (j + 1)⟩, 0, ⟨0, 0⟩) := by
        rw [seq_succ, show (1 : Int) + 1 + (j : Int) = (j : Int) + 2 from by omega]
        simp [beginR, beginF, onceF_of ok, hc, hn]
      have hle : ((j : Nat) : Int) + 2 ≤ (m : Int) + 1 := by omega
      have hne : ((((j : Nat) : Int) + 2) == 1) = false := by simp; omega
      simp only [taskmilllaw_SyncOnlyOnce_l3, begin_eq, hB, hle, hne, Option.bind_some]
      simp [wrap_id (x := ((j : Nat) : Int) + 2 + 1) (by omega) (by omega)]
      omega
    · have ok := okO_seq (k := m) (by omega)
      have hle : ¬ ((m : Nat) : Int) + 2 ≤ (m : Int) + 1 := by omega
      have hE : endR ⟨1, false, seqL 1 m⟩ 1 = (⟨0, true, []⟩, seqL 1 m, ⟨0, 0⟩) := by simp [endR, endF, onceF_of ok]
      have hw : IntKind.i64.wrap ((m : Int) + 1 - 1) = (m : Int) := by rw [wrap_id (by omega) (by omega)]; omega
      simp only [taskmilllaw_SyncOnlyOnce_l3, hle, decide_false, cond_false, end_eq, hE, Option.bind_some, seq_len, hw]
      simp [waited]
/-! ### Rounds -/
theorem rounds (need tasks : Int) : taskmilllaw_SyncRounds need tasks = some true := by
  unfold taskmilllaw_SyncRounds
  rw [begun_eq]
  simp only [Option.bind_some, Bool.not_true, cond_false]
  by_cases h0 : need < 1 ∨ 20 < need ∨ tasks < 0 ∨ 100 < tasks
  · have : (decide (need < 1) || (decide (20 < need) || (decide (tasks < 0) || decide (100 < tasks)))) = true := by simpa using h0
    simp [this]
  · have h0' : (decide (need < 1) || (decide (20 < need) || (decide (tasks < 0) || decide (100 < tasks)))) = false := by simp at h0 ⊢; omega
    simp only [h0', cond_false]
    obtain ⟨n, rfl⟩ := Int.eq_ofNat_of_zero_le (show 0 ≤ need by omega)
    obtain ⟨m, rfl⟩ := Int.eq_ofNat_of_zero_le (show 0 ≤ tasks by omega)
    have hn1 : 1 ≤ n := by omega
    have hn : n ≤ 20 := by omega
    have hm : m ≤ 100 := by omega
    have hne0 : (((n : Nat) : Int) != 0) = true := by simp; omega
    have key := loopO_all (step := taskmilllaw_SyncRounds_l2 (n : Int) (m : Int)) (fun t => (((t : Nat) : Int) + 1, (n : Int), seqL ((t - t % n : Nat) : Int) (t % n))) (some true) m (fun t ht => ?_) ?_
    · simpa [seqL] using key
    · have hr : t % n < n := Nat.mod_lt _ (by omega)
      have hrt : t % n ≤ t := Nat.mod_le _ _
      obtain ⟨r, hrd⟩ : ∃ r, r = t % n := ⟨_, rfl⟩
      rw [← hrd] at hr hrt
      have okl : OkL (seqL ((t - r : Nat) : Int) r) := okL_seq (by omega) (by omega)
      have hgF : gateF ⟨(n : Int), seqL ((t - r : Nat) : Int) r⟩ = ⟨0, 0⟩ := gateF_of okl (by show (1 : Int) ≤ (n : Int); omega) (by show (n : Int) ≤ 5000; omega) (by show (((seqL ((t - r : Nat) : Int) r).length : Nat) : Int) < (n : Int); rw [seq_len]; omega)
      have hc : comeF (seqL ((t - r : Nat) : Int) r) (((t : Nat) : Int) + 1) = ⟨0, 0⟩ := comeF_of (by omega) (fun hm => by have := mem_seq.1 hm; omega) (by rw [seq_len]; omega)
      have hs : seqL ((t - r : Nat) : Int) r ++ [((t : Nat) : Int) + 1] = seqL ((t - r : Nat) : Int) (r + 1) := by
        rw [seq_succ]; congr 2; omega
      have hle : ((t : Nat) : Int) + 1 ≤ (m : Int) := by omega
      have htm : Int.tmod (((t : Nat) : Int) + 1) (n : Int) = (((t + 1) % n : Nat) : Int) := rfl
      have hwt : IntKind.i64.wrap (((t : Nat) : Int) + 1 + 1) = ((t + 1 : Nat) : Int) + 1 := by rw [wrap_id (by omega) (by omega)]; omega
      by_cases hfull : r + 1 = n
      · -- a round is full
        have hmod : (t + 1) % n = 0 := by
          have h1 := Nat.div_add_mod t n
          rw [← hrd] at h1
          have : t + 1 = n * (t / n + 1) := by rw [Nat.mul_add]; omega
          rw [this]; exact Nat.mul_mod_right _ _
        have hA : arriveR ⟨(n : Int), seqL ((t - r : Nat) : Int) r⟩ (((t : Nat) : Int) + 1) = (⟨(n : Int), []⟩, seqL ((t - r : Nat) : Int) n, ⟨0, 0⟩) := by
          unfold arriveR arriveF
          simp only [hgF, hc, ne_eq, not_true_eq_false, if_false, hs, hfull, seq_len, if_true]
        have hin := loopO_all (step := taskmilllaw_SyncRounds_l1 (n : Int) (m : Int) (((t : Nat) : Int) + 1) (n : Int) (seqL ((t - r : Nat) : Int) r)) (fun i => (((i : Nat) : Int), (n : Int), seqL ((t - r : Nat) : Int) n, ([] : List Int))) (some (Sum.inl (((t + 1 : Nat) : Int) + 1, (n : Int), ([] : List Int)))) n (fun i hi => ?_) ?_
        · have e : seqL ((t + 1 - (t + 1) % n : Nat) : Int) ((t + 1) % n) = [] := by rw [hmod]; rfl
          rw [e]
          have hin' : loopO (taskmilllaw_SyncRounds_l1 (n : Int) (m : Int) (((t : Nat) : Int) + 1) (n : Int) (seqL ((t - r : Nat) : Int) r)) (0, (n : Int), seqL ((t - r : Nat) : Int) n, []) = some (Sum.inl (((t + 1 : Nat) : Int) + 1, (n : Int), ([] : List Int))) := hin
          simp only [← hrd, taskmilllaw_SyncRounds_l2, arrive_eq, hA, hle, htm, hmod, hne0, Option.bind_some, seq_len, decide_true, cond_true]
          simp [hin']
        · have hl : i < (seqL ((t - r : Nat) : Int) n).length := by rw [seq_len]; exact hi
          have hx : ix (seqL ((t - r : Nat) : Int) n) ((i : Nat) : Int) = ((t - r : Nat) : Int) + 1 + (i : Int) := by rw [ix_get hl, seq_get hi]
          have hw : IntKind.i64.wrap (IntKind.i64.wrap (IntKind.i64.wrap (((t : Nat) : Int) + 1 - (n : Int)) + 1) + ((i : Nat) : Int)) = ((t - r : Nat) : Int) + 1 + (i : Int) := by
            rw [wrap_id (x := ((t : Nat) : Int) + 1 - (n : Int)) (by omega) (by omega), wrap_id (x := ((t : Nat) : Int) + 1 - (n : Int) + 1) (by omega) (by omega), wrap_id (by omega) (by omega)]
            omega
          simp only [taskmilllaw_SyncRounds_l1, seq_len, hx, hw]
          simp [hi, wrap_n1 i (by omega)]
        · simp only [taskmilllaw_SyncRounds_l1, Int.lt_irrefl, decide_false, cond_false, taskmilllaw_SyncRounds_j1, hwt]
      · -- it is not
        have hmod : (t + 1) % n = r + 1 := by rw [Nat.add_mod, ← hrd, Nat.mod_eq_of_lt (a := 1) (by omega), Nat.mod_eq_of_lt (by omega)]
        have hA : arriveR ⟨(n : Int), seqL ((t - r : Nat) : Int) r⟩ (((t : Nat) : Int) + 1) = (⟨(n : Int), seqL ((t - r : Nat) : Int) (r + 1)⟩, [], ⟨0, 0⟩) := by
          have hlen : ¬ ((r + 1 : Nat) : Int) = (n : Int) := by omega
          unfold arriveR arriveF
          simp only [hgF, hc, ne_eq, not_true_eq_false, if_false, hs, seq_len, hlen]
        have e : ((t + 1 - (t + 1) % n : Nat) : Int) = ((t - r : Nat) : Int) := by rw [hmod]; omega
        rw [e, hmod]
        have hz : ((((r + 1 : Nat) : Int)) != 0) = true := by simp; omega
        simp only [← hrd, taskmilllaw_SyncRounds_l2, arrive_eq, hA, hle, htm, hmod, hne0, hz, Option.bind_some, seq_len, decide_true, cond_true]
        simp [taskmilllaw_SyncRounds_j1, hwt]
    · have hle : ¬ ((m : Nat) : Int) + 1 ≤ (m : Int) := by omega
      simp [taskmilllaw_SyncRounds_l2, hle]
end Go.Proofs.Ytoamlpgadgfhlaa
