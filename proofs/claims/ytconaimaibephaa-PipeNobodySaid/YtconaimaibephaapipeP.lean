/-
  What laws of the chapter pipe compute, and lemmas on it.
  No conditions.
-/
import Derived.Test.YtconaimaibephaapipeG
import Derived.Test.YtconaimaibephaaPA
set_option linter.unusedSimpArgs false
set_option linter.unusedVariables false
namespace Go.Proofs.Ytconaimaibephaa
open Go Go.Sx
theorem clone_eq (s : List Int) (h : s.length ≤ 10000000) : slices_Clone_int s = some s := by
  have : s.length * 8 ≤ 140737488355328 := by omega
  simp [slices_Clone_int, this]
theorem own_eq (s : List Int) (h : s.length ≤ 10000000) : taskmilllaw_own s = some s := by
  have : s.length * 8 ≤ 140737488355328 := by omega
  simp [taskmilllaw_own, this]
theorem ints_eq (a b : List Int) (hn : a.length < 4611686018427387904) : taskmillref_Ints a b = some (decide (a = b)) := by
  unfold taskmillref_Ints
  by_cases hl : a.length = b.length
  · have := ints_gen a b hl hn (fun i => rfl : ∀ i, taskmillref_Ints_l1 a b i = _)
    simp [hl] at this ⊢
    exact this
  · have : a ≠ b := fun e => hl (by rw [e])
    have h2 : ((a.length : Int) != (b.length : Int)) = true := by simp; omega
    simp [h2, this]
theorem nodup_take {α : Type} {l : List α} (h : l.Nodup) {i : Nat} (hi : i < l.length) : l[i] ∉ l.take i := fun hm => by
  obtain ⟨j, hj, he⟩ := List.mem_take_iff_getElem.1 hm
  have := List.nodup_iff_pairwise_ne.1 h
  rw [List.pairwise_iff_getElem] at this
  exact this j i (by omega) hi (by omega) he
@[simp] theorem F_eq (c a : Int) : taskmillref_F c a = some ⟨c, a⟩ := rfl
@[simp] theorem fault_eq (c a : Int) : pipe_fault c a = some ⟨c, a⟩ := rfl
/-! ### Lines of posts -/
def tasksOf (l : List GPost) : List Int := l.map (·.Task)
theorem cloneP_eq (s : List GPost) (h : s.length ≤ 1000000) : slices_Clone_Post s = some s := by
  have : s.length * 24 ≤ 140737488355328 := by omega
  simp [slices_Clone_Post, this]
theorem ownP_eq (s : List GPost) (h : s.length ≤ 1000000) : taskmilllaw_ownPosts s = some s := by
  have : s.length * 24 ≤ 140737488355328 := by omega
  simp [taskmilllaw_ownPosts, this]
def isTask (l : List GPost) (t : Int) (i : Nat) : Bool := decide ((tasksOf l)[i]? = some t)
theorem is_at {l : List GPost} {t : Int} {i : Nat} (h : i < l.length) : isTask l t i = decide (l[i].Task = t) := by simp [isTask, tasksOf, h]
def inLine (l : List GPost) (t : Int) : Int := match firstIf (isTask l t) l.length with
  | some i => (i : Int)
  | none => -1
theorem inLine_nonneg (l : List GPost) (t : Int) : decide (0 ≤ inLine l t) = decide (t ∈ tasksOf l) := by
  unfold inLine
  rw [Bool.eq_iff_iff]
  simp only [decide_eq_true_eq]
  cases hf : firstIf (isTask l t) l.length with
  | some i =>
    obtain ⟨h1, h2, _⟩ := firstIf_some hf
    rw [is_at h1] at h2
    simp only [decide_eq_true_eq] at h2
    exact ⟨fun _ => List.mem_map.2 ⟨_, List.getElem_mem h1, h2⟩, fun _ => by simp⟩
  | none =>
    have h := firstIf_none.1 hf
    refine ⟨fun h => by have h : (0 : Int) ≤ -1 := h; omega, fun hm => ?_⟩
    obtain ⟨w, h1, h2⟩ := List.mem_map.1 hm
    obtain ⟨i, hi, rfl⟩ := List.getElem_of_mem h1
    have := h i hi
    rw [is_at hi] at this
    simp [h2] at this
theorem containsP_eq (l : List GPost) (t : Int) (h : l.length ≤ 1000000) : slices_ContainsFunc_Post l t = some (decide (t ∈ tasksOf l), t) := by
  unfold slices_ContainsFunc_Post slices_IndexFunc_Post
  have := loopO_if (step := slices_IndexFunc_Post_l1 l) (fun i => (((i : Nat) : Int), t)) (isTask l t) (fun i => some ((i : Int), t)) (some (-1, t)) l.length (fun i hi hp => ?_) (fun i hi hp => ?_) (fun _ => ?_)
  · rw [show ((0 : Nat) : Int) = 0 from rfl] at this
    rw [this, ← inLine_nonneg]
    unfold inLine
    cases firstIf (isTask l t) l.length <;> rfl
  · rw [is_at hi] at hp
    simp only [decide_eq_false_iff_not] at hp
    simp [slices_IndexFunc_Post_l1, pipe_Waits_1, ix_get hi, hi, hp, wrap_n1 i (by omega), Bool.cond_eq_ite]
  · rw [is_at hi] at hp
    simp only [decide_eq_true_eq] at hp
    simp [slices_IndexFunc_Post_l1, pipe_Waits_1, ix_get hi, hi, hp]
  · simp [slices_IndexFunc_Post_l1]
theorem waits_eq (p : Pipe) (t : Int) (h1 : p.Senders.length ≤ 1000000) (h2 : p.Getters.length ≤ 1000000) : pipe_Waits p t = some (decide (t ∈ tasksOf p.Senders ∨ t ∈ tasksOf p.Getters)) := by
  unfold pipe_Waits pipe_Waits_j1
  rw [containsP_eq _ _ h1]
  simp only [Option.bind_some, containsP_eq _ _ h2]
  by_cases h : t ∈ tasksOf p.Senders <;> simp [h]
theorem if_task (l : List GPost) (t : Int) : (firstIf (isTask l t) l.length).isSome = decide (t ∈ tasksOf l) := by
  rw [← inLine_nonneg]
  unfold inLine
  cases firstIf (isTask l t) l.length with
  | none => rfl
  | some i => simp
theorem waitsAt1_eq (p : Pipe) (t : Int) (h : p.Getters.length ≤ 1000000) : loopO (taskmillref_WaitsAt_l1 p t) 0 = some (decide (t ∈ tasksOf p.Getters)) := by
  have := loopO_if (step := taskmillref_WaitsAt_l1 p t) (fun i => ((i : Nat) : Int)) (isTask p.Getters t) (fun _ => some true) (some false) p.Getters.length (fun i hi hp => ?_) (fun i hi hp => ?_) (fun _ => ?_)
  · rw [show ((0 : Nat) : Int) = 0 from rfl] at this
    rw [this, ← if_task]
    cases firstIf (isTask p.Getters t) p.Getters.length <;> rfl
  · rw [is_at hi] at hp
    simp only [decide_eq_false_iff_not] at hp
    simp [taskmillref_WaitsAt_l1, ix_get hi, hi, hp, wrap_n1 i (by omega), Bool.cond_eq_ite]
  · rw [is_at hi] at hp
    simp only [decide_eq_true_eq] at hp
    simp [taskmillref_WaitsAt_l1, ix_get hi, hi, hp]
  · simp [taskmillref_WaitsAt_l1]
theorem waitsAt_eq (p : Pipe) (t : Int) (h1 : p.Senders.length ≤ 1000000) (h2 : p.Getters.length ≤ 1000000) : taskmillref_WaitsAt p t = some (decide (t ∈ tasksOf p.Senders ∨ t ∈ tasksOf p.Getters)) := by
  unfold taskmillref_WaitsAt
  have := loopO_if (step := taskmillref_WaitsAt_l2 p t) (fun i => ((i : Nat) : Int)) (isTask p.Senders t) (fun _ => some true) (some (decide (t ∈ tasksOf p.Getters))) p.Senders.length (fun i hi hp => ?_) (fun i hi hp => ?_) (fun _ => ?_)
  · rw [show ((0 : Nat) : Int) = 0 from rfl] at this
    have hi := if_task p.Senders t
    rw [this]
    cases hf : firstIf (isTask p.Senders t) p.Senders.length with
    | none => rw [hf] at hi; have hi : false = _ := hi; simp at hi; simp [hi]
    | some i => rw [hf] at hi; have hi : true = _ := hi; simp at hi; simp [hi]
  · rw [is_at hi] at hp
    simp only [decide_eq_false_iff_not] at hp
    simp [taskmillref_WaitsAt_l2, ix_get hi, hi, hp, wrap_n1 i (by omega), Bool.cond_eq_ite]
  · rw [is_at hi] at hp
    simp only [decide_eq_true_eq] at hp
    simp [taskmillref_WaitsAt_l2, ix_get hi, hi, hp]
  · simp [taskmillref_WaitsAt_l2, waitsAt1_eq p t h2]
theorem sameP_eq (a b : List GPost) (hn : a.length < 4611686018427387904) : taskmillref_SamePosts a b = some (decide (a = b)) := by
  unfold taskmillref_SamePosts
  by_cases hl : a.length = b.length
  · have e : (((a.length : Nat) : Int) != ((b.length : Nat) : Int)) = false := by simp [hl]
    rw [e, cond_false]
    have we : ∀ x y : GPost, ((x.Task == y.Task) && ((x.Case == y.Case) && ((x.Value == y.Value) && true))) = decide (x = y) := fun x y => by
      obtain ⟨a, b, c⟩ := x
      obtain ⟨d, e, f⟩ := y
      rw [Bool.eq_iff_iff]; simp
    have := loopO_if (step := taskmillref_SamePosts_l1 a b) (fun i => ((i : Nat) : Int)) (fun i => !decide (a[i]? = b[i]?)) (fun i => some false) (some true) a.length (fun i hi hp => ?_) (fun i hi hp => ?_) (fun _ => ?_)
    · rw [show ((0 : Nat) : Int) = 0 from rfl] at this
      rw [this]
      cases hf : firstIf (fun i => !decide (a[i]? = b[i]?)) a.length with
      | none =>
        have := firstIf_none.1 hf
        have e : a = b := (list_eq_iff hl).2 fun i h1 h2 => by
          have := this i h1
          simpa [h1, h2] using this
        simp [e]
      | some i =>
        obtain ⟨_, h2, _⟩ := firstIf_some hf
        have : a ≠ b := fun e => by subst e; simp at h2
        simp [this]
    · have hi2 : i < b.length := by omega
      have e : a[i] = b[i] := by simpa [hi, hi2] using hp
      simp only [taskmillref_SamePosts_l1, ix_get hi, ix_get hi2, we]
      simp [hi, hi2, e, wrap_n1 i (by omega)]
    · have hi2 : i < b.length := by omega
      have e : ¬ a[i] = b[i] := by simpa [hi, hi2] using hp
      simp only [taskmillref_SamePosts_l1, ix_get hi, ix_get hi2, we]
      simp [hi, hi2, e]
    · simp [taskmillref_SamePosts_l1]
  · have : a ≠ b := fun e => hl (by rw [e])
    have h2 : (((a.length : Nat) : Int) != ((b.length : Nat) : Int)) = true := by simp; omega
    simp [h2, this]
theorem sameK_eq (a b : List GWake) (hn : a.length < 4611686018427387904) : taskmillref_SameWakes a b = some (decide (a = b)) := by
  unfold taskmillref_SameWakes
  by_cases hl : a.length = b.length
  · have e : (((a.length : Nat) : Int) != ((b.length : Nat) : Int)) = false := by simp [hl]
    rw [e, cond_false]
    have we : ∀ x y : GWake, ((x.Task == y.Task) && ((x.Case == y.Case) && ((x.Value == y.Value) && ((x.Ok == y.Ok) && ((x.Panic == y.Panic) && true))))) = decide (x = y) := fun x y => by
      obtain ⟨a, b, c, a2, a3⟩ := x
      obtain ⟨d, e, f, b2, b3⟩ := y
      rw [Bool.eq_iff_iff]; simp
    have := loopO_if (step := taskmillref_SameWakes_l1 a b) (fun i => ((i : Nat) : Int)) (fun i => !decide (a[i]? = b[i]?)) (fun i => some false) (some true) a.length (fun i hi hp => ?_) (fun i hi hp => ?_) (fun _ => ?_)
    · rw [show ((0 : Nat) : Int) = 0 from rfl] at this
      rw [this]
      cases hf : firstIf (fun i => !decide (a[i]? = b[i]?)) a.length with
      | none =>
        have := firstIf_none.1 hf
        have e : a = b := (list_eq_iff hl).2 fun i h1 h2 => by
          have := this i h1
          simpa [h1, h2] using this
        simp [e]
      | some i =>
        obtain ⟨_, h2, _⟩ := firstIf_some hf
        have : a ≠ b := fun e => by subst e; simp at h2
        simp [this]
    · have hi2 : i < b.length := by omega
      have e : a[i] = b[i] := by simpa [hi, hi2] using hp
      simp only [taskmillref_SameWakes_l1, ix_get hi, ix_get hi2, we]
      simp [hi, hi2, e, wrap_n1 i (by omega)]
    · have hi2 : i < b.length := by omega
      have e : ¬ a[i] = b[i] := by simpa [hi, hi2] using hp
      simp only [taskmillref_SameWakes_l1, ix_get hi, ix_get hi2, we]
      simp [hi, hi2, e]
    · simp [taskmillref_SameWakes_l1]
  · have : a ≠ b := fun e => hl (by rw [e])
    have h2 : (((a.length : Nat) : Int) != ((b.length : Nat) : Int)) = true := by simp; omega
    simp [h2, this]
/-! ### Pipes -/
theorem firstAt_add {β : Type} (f : Nat → Option β) (n : Nat) : ∀ m, firstAt f (n + m) = (firstAt f n).or (firstAt (fun i => f (n + i)) m)
  | 0 => by simp [firstAt]
  | m + 1 => by
    show (firstAt f (n + m)).or (f (n + m)) = _
    rw [firstAt_add f n m]
    simp only [firstAt]
    cases firstAt f n <;> simp
theorem firstAt_map {β γ : Type} (f : Nat → Option β) (g : β → γ) : ∀ n, firstAt (fun i => (f i).map g) n = (firstAt f n).map g
  | 0 => rfl
  | n + 1 => by
    simp only [firstAt]
    rw [firstAt_map f g n]
    cases firstAt f n <;> simp
def lb (l : List GPost) (i : Nat) : Option Int := match l[i]? with
  | none => none
  | some x => if x.Task < 1 ∨ x.Case < 0 then some 3 else if x.Task ∈ tasksOf (l.take i) then some 10 else none
def pb (seen : List Int) (l : List GPost) (i : Nat) : Option Int := match l[i]? with
  | none => none
  | some x => if x.Task < 1 ∨ x.Case < 0 then some 3 else if x.Task ∈ seen ++ tasksOf (l.take i) then some 10 else none
theorem lb_left (s g : List GPost) {i : Nat} (h : i < s.length) : lb (s ++ g) i = pb [] s i := by
  have e : (s ++ g).take i = s.take i := by rw [List.take_append_of_le_length (by omega)]
  simp only [lb, pb, List.getElem?_append_left h, e, List.nil_append]
theorem lb_right (s g : List GPost) (i : Nat) : lb (s ++ g) (s.length + i) = pb (tasksOf s) g i := by
  have e : (s ++ g).take (s.length + i) = s ++ g.take i := by rw [List.take_append, List.take_of_length_le (by omega)]; simp
  have e2 : tasksOf (s ++ g.take i) = tasksOf s ++ tasksOf (g.take i) := by simp [tasksOf]
  simp only [lb, pb, List.getElem?_append_right (Nat.le_add_right ..), Nat.add_sub_cancel_left, e, e2]
theorem has_tasks (l : List Int) (x : Int) : decide (0 < miGet (setAll [] l) x) = decide (x ∈ l) := by
  rw [Bool.eq_iff_iff, miGet_setAll, miGet_nil]
  by_cases hm : x ∈ l <;> simp [hm]
theorem tasks_snoc (seen : List Int) (l : List GPost) (i : Nat) (h : i < l.length) : setAll [] (seen ++ tasksOf (l.take (i + 1))) = miSet (setAll [] (seen ++ tasksOf (l.take i))) l[i].Task 1 := by
  have e : tasksOf (l.take (i + 1)) = tasksOf (l.take i) ++ [l[i].Task] := by
    rw [List.take_succ_eq_append_getElem h]
    simp only [tasksOf, List.map_append, List.map_cons, List.map_nil]
  rw [e, ← List.append_assoc, setAll, List.foldl_append]; rfl
theorem posts_eq (l : List GPost) (seen : List Int) (h : l.length ≤ 1000000) : ∃ m, pipe_posts l (setAll [] seen) = some ((firstAt (pb seen l) l.length).getD 0, m) ∧ (firstAt (pb seen l) l.length = none → m = setAll [] (seen ++ tasksOf l)) := by
  unfold pipe_posts
  have := loopO_find (step := pipe_posts_l1 l) (fun i => (((i : Nat) : Int), setAll [] (seen ++ tasksOf (l.take i)))) (fun i => (pb seen l i).map fun c => (c, setAll [] (seen ++ tasksOf (l.take i)))) (some (0, setAll [] (seen ++ tasksOf l))) l.length (fun i hi hb => ?_) (fun i r hi hb => ?_) (fun _ => ?_)
  · have e0 : setAll [] (seen ++ tasksOf (l.take 0)) = setAll [] seen := by simp [tasksOf]
    rw [e0, show ((0 : Nat) : Int) = 0 from rfl] at this
    rw [this]
    cases hf : firstAt (fun i => (pb seen l i).map fun c => (c, setAll [] (seen ++ tasksOf (l.take i)))) l.length with
    | some r =>
      obtain ⟨i, hi, hb, hbef⟩ := firstAt_some _ hf
      simp only [Option.map_eq_some_iff] at hb
      obtain ⟨c, hc, rfl⟩ := hb
      have hx : firstAt (pb seen l) l.length = some c := firstAt_at hi hc fun j hj => by simpa using hbef j hj
      rw [hx]
      exact ⟨_, rfl, fun h => by cases h⟩
    | none =>
      have h := (firstAt_none _).1 hf
      have hx : firstAt (pb seen l) l.length = none := (firstAt_none _).2 fun i hi => by simpa using h i hi
      rw [hx]
      exact ⟨_, rfl, fun _ => rfl⟩
  · simp only [Option.map_eq_none_iff, pb, List.getElem?_eq_getElem hi] at hb
    split at hb
    · cases hb
    · rename_i hx
      split at hb
      · cases hb
      · rename_i hy
        have hx' : (decide (l[i].Task < 1) || decide (l[i].Case < 0)) = false := by simp at hx ⊢; omega
        simp only [pipe_posts_l1, ix_get hi, hx', has_tasks, hy, tasks_snoc seen l i hi]
        simp [hi, wrap_n1 i (by omega)]
  · simp only [Option.map_eq_some_iff, pb, List.getElem?_eq_getElem hi] at hb
    obtain ⟨c, hc, rfl⟩ := hb
    split at hc
    · rename_i hx
      cases hc
      have hx' : (decide (l[i].Task < 1) || decide (l[i].Case < 0)) = true := by simpa using hx
      simp only [pipe_posts_l1, ix_get hi, hx']
      simp [hi]
    · rename_i hx
      have hx' : (decide (l[i].Task < 1) || decide (l[i].Case < 0)) = false := by simp at hx ⊢; omega
      split at hc
      · rename_i hy
        cases hc
        simp only [pipe_posts_l1, ix_get hi, hx', has_tasks, hy]
        simp [hi]
      · cases hc
  · simp [pipe_posts_l1]
def gbad (l : List GPost) (i : Nat) : Option Fault := match l[i]? with
  | none => none
  | some x => if x.Value ≠ 0 then some ⟨5, 2⟩ else none
def gv (p : Pipe) : Fault := (firstAt (gbad p.Getters) p.Getters.length).getD ⟨0, 0⟩
def pfault (p : Pipe) : Option Fault := ((firstAt (pb [] p.Senders) p.Senders.length).map fun c => ⟨c, 1⟩).or ((firstAt (pb (tasksOf p.Senders) p.Getters) p.Getters.length).map fun c => ⟨c, 2⟩)
def total (p : Pipe) : Nat := p.Items.length + p.Senders.length + p.Getters.length
def badP (p : Pipe) : Prop := (p.Senders ≠ [] ∧ (p.Closed = true ∨ (p.Items.length : Int) < p.Cap ∨ p.Getters ≠ [])) ∨ (p.Getters ≠ [] ∧ (p.Closed = true ∨ p.Items ≠ []))
instance (p : Pipe) : Decidable (badP p) := by unfold badP; infer_instance
def pipeF (p : Pipe) : Fault := if 5000 < total p then ⟨2, 0⟩ else if p.Cap < 0 ∨ 1000 < p.Cap then ⟨3, 0⟩ else if p.Cap < (p.Items.length : Int) then ⟨8, 0⟩ else if badP p then ⟨5, 0⟩ else (pfault p).getD (gv p)
theorem gv_check (p : Pipe) (h : p.Getters.length ≤ 1000000) : loopO (pipe_Check_l1 p) 0 = some (gv p) := by
  refine loopO_findD (step := pipe_Check_l1 p) (fun i => ((i : Nat) : Int)) (gbad p.Getters) ⟨0, 0⟩ p.Getters.length (fun i hi hb => ?_) (fun i r hi hb => ?_) (fun _ => ?_)
  · simp only [gbad, List.getElem?_eq_getElem hi] at hb
    split at hb
    · cases hb
    · rename_i hx
      have hx' : (p.Getters[i].Value != 0) = false := by simpa using hx
      simp only [pipe_Check_l1, ix_get hi, hx']
      simp [hi, wrap_n1 i (by omega)]
  · simp only [gbad, List.getElem?_eq_getElem hi] at hb
    split at hb
    · rename_i hx
      cases hb
      have hx' : (p.Getters[i].Value != 0) = true := by simpa using hx
      simp only [pipe_Check_l1, ix_get hi, hx']
      simp [hi]
    · cases hb
  · simp [pipe_Check_l1]
theorem gv_ref (p : Pipe) (h : p.Getters.length ≤ 1000000) : loopO (taskmillref_PipeFault_l2 p) 0 = some (gv p) := by
  refine loopO_findD (step := taskmillref_PipeFault_l2 p) (fun i => ((i : Nat) : Int)) (gbad p.Getters) ⟨0, 0⟩ p.Getters.length (fun i hi hb => ?_) (fun i r hi hb => ?_) (fun _ => ?_)
  · simp only [gbad, List.getElem?_eq_getElem hi] at hb
    split at hb
    · cases hb
    · rename_i hx
      have hx' : (p.Getters[i].Value != 0) = false := by simpa using hx
      simp only [taskmillref_PipeFault_l2, ix_get hi, hx']
      simp [hi, wrap_n1 i (by omega)]
  · simp only [gbad, List.getElem?_eq_getElem hi] at hb
    split at hb
    · rename_i hx
      cases hb
      have hx' : (p.Getters[i].Value != 0) = true := by simpa using hx
      simp only [taskmillref_PipeFault_l2, ix_get hi, hx']
      simp [hi]
    · cases hb
  · simp [taskmillref_PipeFault_l2]
theorem sum_len (p : Pipe) (h : total p ≤ 4611686018427387904) : IntKind.i64.wrap (IntKind.i64.wrap (((p.Items.length : Nat) : Int) + ((p.Senders.length : Nat) : Int)) + ((p.Getters.length : Nat) : Int)) = ((total p : Nat) : Int) := by
  unfold total at *
  rw [wrap_id (x := ((p.Items.length : Nat) : Int) + ((p.Senders.length : Nat) : Int)) (by omega) (by omega), wrap_id (by omega) (by omega)]
  omega
theorem pos_ne {α : Type} (l : List α) : decide ((0 : Int) < ((l.length : Nat) : Int)) = decide (l ≠ []) := by rw [Bool.eq_iff_iff]; simp [List.length_pos_iff]
theorem check_eq (p : Pipe) (ht : total p ≤ 1000000) : pipe_Check p = some (pipeF p) := by
  unfold pipe_Check pipeF
  have ht' := ht
  unfold total at ht'
  rw [sum_len p (by omega)]
  by_cases h1 : 5000 < total p
  · have : (5000 : Int) < ((total p : Nat) : Int) := by omega
    simp [h1, this]
  · have h1' : ¬ (5000 : Int) < ((total p : Nat) : Int) := by omega
    by_cases h2 : p.Cap < 0 ∨ 1000 < p.Cap
    · have h2' : (decide (p.Cap < 0) || decide (1000 < p.Cap)) = true := by simpa using h2
      simp [h1, h1', h2, h2']
    · have h2' : (decide (p.Cap < 0) || decide (1000 < p.Cap)) = false := by simp at h2 ⊢; omega
      by_cases h3 : p.Cap < (p.Items.length : Int)
      · simp [h1, h1', h2, h2', h3]
      · have hb : (bif (decide ((0 : Int) < ((p.Senders.length : Nat) : Int))) then (p.Closed || ((decide (((p.Items.length : Nat) : Int) < p.Cap)) || ((decide ((0 : Int) < ((p.Getters.length : Nat) : Int))) || ((decide ((0 : Int) < ((p.Getters.length : Nat) : Int))) && (p.Closed || (decide ((0 : Int) < ((p.Items.length : Nat) : Int)))))))) else ((decide ((0 : Int) < ((p.Getters.length : Nat) : Int))) && (p.Closed || (decide ((0 : Int) < ((p.Items.length : Nat) : Int)))))) = decide (badP p) := by
          rw [pos_ne, pos_ne, pos_ne]
          unfold badP
          by_cases a1 : p.Senders = [] <;> by_cases a2 : p.Getters = [] <;> by_cases a3 : p.Items = [] <;> by_cases a4 : p.Closed = true <;> simp [a1, a2, a3, a4]
        simp only [h1, h1', h2, h2', h3, hb, decide_false, cond_false, if_false]
        by_cases h4 : badP p
        · simp [h4]
        · simp only [h4, decide_false, cond_false, if_false]
          obtain ⟨m1, e1, f1⟩ := posts_eq p.Senders [] (by omega)
          have e0 : setAll [] ([] : List Int) = [] := rfl
          rw [e0] at e1
          rw [e1]
          simp only [Option.bind_some]
          unfold pfault
          have key : ∀ l seen, firstAt (pb seen l) l.length = none ∨ ∃ c, firstAt (pb seen l) l.length = some c ∧ c ≠ 0 := fun l seen => by
            cases hf : firstAt (pb seen l) l.length with
            | none => left; rfl
            | some c =>
              right
              refine ⟨c, rfl, ?_⟩
              obtain ⟨i, hi, hb, _⟩ := firstAt_some _ hf
              simp only [pb, List.getElem?_eq_getElem hi] at hb
              split at hb
              · cases hb; decide
              · split at hb
                · cases hb; decide
                · cases hb
          rcases key p.Senders [] with hs | ⟨c, hs, hc⟩
          · have hm := f1 hs
            rw [List.nil_append] at hm
            subst hm
            obtain ⟨m2, e2, _⟩ := posts_eq p.Getters (tasksOf p.Senders) (by omega)
            rw [hs, e2]
            rcases key p.Getters (tasksOf p.Senders) with hg | ⟨c, hg, hc⟩
            · simp [hg, gv_check p (by omega)]
            · have hc' : (c != 0) = true := by simpa using hc
              simp [hg, hc']
          · have hc' : (c != 0) = true := by simpa using hc
            simp [hs, hc']
theorem inner_eq (p : Pipe) (i : Nat) (xat : Int) (hi : i < (p.Senders ++ p.Getters).length) (hl : (p.Senders ++ p.Getters).length ≤ 1000000) : loopO (taskmillref_PipeFault_l1 p (i : Int) xat) 0 = if (p.Senders ++ p.Getters)[i].Task ∈ tasksOf ((p.Senders ++ p.Getters).take i) then some (.inr ⟨10, xat⟩) else some (.inl ((i + 1 : Nat) : Int)) := by
  have hw := wrap_n1 i (by omega)
  unfold taskmillref_PipeFault_l1
  generalize p.Senders ++ p.Getters = L at *
  have := loopO_if (step := fun k21 => (bif (decide (k21 < (i : Int))) then (bif ((decide ((0 : Int) ≤ k21)) && (decide (k21 < ((L.length : Nat) : Int)))) then (bif ((decide ((0 : Int) ≤ (i : Int))) && (decide ((i : Int) < ((L.length : Nat) : Int)))) then (bif ((ix L k21).Task == (ix L (i : Int)).Task) then ((taskmillref_F 10 xat).bind fun r1242 => (Option.map Sum.inr (Option.map Sum.inr (some (r1242))))) else (some (Sum.inl ((IntKind.i64.wrap (k21 + 1)))))) else none) else none) else (Option.map Sum.inr (some (Sum.inl ((IntKind.i64.wrap ((i : Int) + 1)))))))) (fun k => ((k : Nat) : Int)) (isTask L L[i].Task) (fun _ => some (.inr (⟨10, xat⟩ : Fault))) (some (.inl ((i + 1 : Nat) : Int))) i (fun k hk hp => ?_) (fun k hk hp => ?_) (fun _ => ?_)
  · rw [show ((0 : Nat) : Int) = 0 from rfl] at this
    rw [this]
    cases hf : firstIf (isTask L L[i].Task) i with
    | some k =>
      obtain ⟨h1, h2, _⟩ := firstIf_some hf
      rw [is_at (by omega)] at h2
      simp only [decide_eq_true_eq] at h2
      have hkl : k < L.length := by omega
      have hkm : k < min i L.length := by omega
      have hm : L[i].Task ∈ tasksOf (L.take i) := List.mem_map.2 ⟨L[k], List.mem_take_iff_getElem.2 ⟨k, hkm, rfl⟩, h2⟩
      simp only [hm, if_true]
    | none =>
      have h := firstIf_none.1 hf
      have hm : L[i].Task ∉ tasksOf (L.take i) := fun hm => by
        obtain ⟨w, h1, h2⟩ := List.mem_map.1 hm
        obtain ⟨k, hk, rfl⟩ := List.mem_take_iff_getElem.1 h1
        have := h k (by omega)
        rw [is_at (by omega)] at this
        simp [h2] at this
      simp only [hm, if_false]
  · rw [is_at (by omega)] at hp
    simp only [decide_eq_false_iff_not] at hp
    have hk' : k < L.length := by omega
    have hki : (k : Int) < (i : Int) := by omega
    simp [ix_get hk', ix_get hi, hki, hk', hi, hp, wrap_n1 k (by omega), Bool.cond_eq_ite]
  · rw [is_at (by omega)] at hp
    simp only [decide_eq_true_eq] at hp
    have hk' : k < L.length := by omega
    have hki : (k : Int) < (i : Int) := by omega
    simp [ix_get hk', ix_get hi, hki, hk', hi, hp]
  · simp [hw]
theorem refPipe_eq (p : Pipe) (ht : total p ≤ 1000000) : taskmillref_PipeFault p = some (pipeF p) := by
  unfold taskmillref_PipeFault pipeF
  have ht' := ht
  unfold total at ht'
  rw [sum_len p (by omega)]
  by_cases h1 : 5000 < total p
  · have : (5000 : Int) < ((total p : Nat) : Int) := by omega
    simp [h1, this]
  · have h1' : ¬ (5000 : Int) < ((total p : Nat) : Int) := by omega
    by_cases h2 : p.Cap < 0 ∨ 1000 < p.Cap
    · have h2' : (decide (p.Cap < 0) || decide (1000 < p.Cap)) = true := by simpa using h2
      simp [h1, h1', h2, h2']
    · have h2' : (decide (p.Cap < 0) || decide (1000 < p.Cap)) = false := by simp at h2 ⊢; omega
      by_cases h3 : p.Cap < (p.Items.length : Int)
      · simp [h1, h1', h2, h2', h3]
      · have hne : (((p.Items.length : Nat) : Int) != p.Cap) = decide ((p.Items.length : Int) < p.Cap) := by rw [Bool.eq_iff_iff]; simp; omega
        simp only [h1, h1', h2, h2', h3, hne, pos_ne, decide_false, cond_false, if_false]
        have j2 : ¬ badP p → taskmillref_PipeFault_j2 p = some (if badP p then ⟨5, 0⟩ else (pfault p).getD (gv p)) := by
          intro h4
          rw [if_neg h4]
          unfold taskmillref_PipeFault_j2
          have b1 : p.Senders.length * 24 ≤ 140737488355328 := by omega
          have b2 : (p.Senders ++ p.Getters).length * 24 ≤ 140737488355328 := by rw [List.length_append]; omega
          have hlen : (p.Senders ++ p.Getters).length ≤ 1000000 := by rw [List.length_append]; omega
          simp only [b1, b2, decide_true, cond_true]
          have hj : ∀ (i : Nat) (hi : i < (p.Senders ++ p.Getters).length) (xat : Int), taskmillref_PipeFault_j1 p (i : Int) xat = match lb (p.Senders ++ p.Getters) i with | some c => some (.inr ⟨c, xat⟩) | none => some (.inl ((i + 1 : Nat) : Int)) := by
            intro i hi xat
            unfold taskmillref_PipeFault_j1
            rw [inner_eq p i xat hi hlen]
            simp only [ix_get hi, lb, List.getElem?_eq_getElem hi]
            have hi' : decide ((i : Int) < (((p.Senders ++ p.Getters).length : Nat) : Int)) = true := by simp only [decide_eq_true_eq]; omega
            have h0 : decide ((0 : Int) ≤ (i : Int)) = true := by simp
            rw [hi', h0]
            by_cases hx : (p.Senders ++ p.Getters)[i].Task < 1 ∨ (p.Senders ++ p.Getters)[i].Case < 0
            · have hx' : (decide ((p.Senders ++ p.Getters)[i].Task < 1) || decide ((p.Senders ++ p.Getters)[i].Case < 0)) = true := by simpa using hx
              simp only [hx', if_pos hx, Bool.and_self, Bool.or_true, cond_true, F_eq, Option.bind_some]
              rfl
            · have hx' : (decide ((p.Senders ++ p.Getters)[i].Task < 1) || decide ((p.Senders ++ p.Getters)[i].Case < 0)) = false := by rw [← Bool.not_eq_true]; simpa using hx
              simp only [hx', if_neg hx, Bool.and_self, Bool.or_true, cond_true, cond_false]
              split <;> simp_all
          have key := loopO_find (step := taskmillref_PipeFault_l3 p) (fun i => ((i : Nat) : Int)) (fun i => (lb (p.Senders ++ p.Getters) i).map fun c => (⟨c, if p.Senders.length ≤ i then 2 else 1⟩ : Fault)) (some (gv p)) (p.Senders ++ p.Getters).length (fun i hi hb => ?_) (fun i r hi hb => ?_) (fun _ => ?_)
          · rw [show ((0 : Nat) : Int) = 0 from rfl] at key
            rw [key]
            have e : firstAt (fun i => (lb (p.Senders ++ p.Getters) i).map fun c => (⟨c, if p.Senders.length ≤ i then 2 else 1⟩ : Fault)) (p.Senders ++ p.Getters).length = pfault p := by
              rw [List.length_append, firstAt_add]
              unfold pfault
              congr 1
              · rw [← firstAt_map]
                refine firstAt_congr _ fun i hi => ?_
                rw [lb_left _ _ hi, if_neg (by omega)]
              · rw [← firstAt_map]
                refine firstAt_congr _ fun i hi => ?_
                rw [lb_right, if_pos (by omega)]
            rw [e]
            cases pfault p <;> rfl
          · simp only [Option.map_eq_none_iff] at hb
            have c1 : decide ((i : Int) < (((p.Senders ++ p.Getters).length : Nat) : Int)) = true := by simp only [decide_eq_true_eq]; omega
            simp only [taskmillref_PipeFault_l3, c1, cond_true, hj i hi, hb]
            cases decide (((p.Senders.length : Nat) : Int) ≤ (i : Int)) <;> rfl
          · simp only [Option.map_eq_some_iff] at hb
            obtain ⟨c, hc, rfl⟩ := hb
            have c1 : decide ((i : Int) < (((p.Senders ++ p.Getters).length : Nat) : Int)) = true := by simp only [decide_eq_true_eq]; omega
            simp only [taskmillref_PipeFault_l3, c1, cond_true, hj i hi, hc]
            by_cases hs : p.Senders.length ≤ i
            · have hs' : ((p.Senders.length : Nat) : Int) ≤ (i : Int) := by omega
              simp [hs]
            · have hs' : ¬ ((p.Senders.length : Nat) : Int) ≤ (i : Int) := by omega
              simp [hs]
          · simp only [taskmillref_PipeFault_l3, Int.lt_irrefl, decide_false, cond_false, gv_ref p (by omega)]
        unfold taskmillref_PipeFault_j3
        simp only [pos_ne]
        have hB : decide (badP p) = ((decide (p.Senders ≠ []) && (p.Closed || (decide ((p.Items.length : Int) < p.Cap) || decide (p.Getters ≠ [])))) || (decide (p.Getters ≠ []) && (p.Closed || decide (p.Items ≠ [])))) := by
          unfold badP
          rw [Bool.eq_iff_iff]
          simp only [decide_eq_true_eq, Bool.or_eq_true, Bool.and_eq_true]
          exact decide_eq_true_iff
        by_cases h4 : badP p
        · rw [if_pos h4, F_eq]
          rw [decide_eq_true h4] at hB
          revert hB
          generalize decide (p.Senders ≠ []) = b1
          generalize decide (p.Getters ≠ []) = b2
          generalize decide (p.Items ≠ []) = b3
          generalize decide ((p.Items.length : Int) < p.Cap) = b4
          generalize p.Closed = b5
          intro hB
          cases b1 <;> cases b2 <;> cases b3 <;> cases b4 <;> cases b5 <;> first | rfl | (exact absurd hB (by decide))
        · rw [j2 h4, if_neg h4, F_eq]
          rw [decide_eq_false h4] at hB
          revert hB
          generalize decide (p.Senders ≠ []) = b1
          generalize decide (p.Getters ≠ []) = b2
          generalize decide (p.Items ≠ []) = b3
          generalize decide ((p.Items.length : Int) < p.Cap) = b4
          generalize p.Closed = b5
          intro hB
          cases b1 <;> cases b2 <;> cases b3 <;> cases b4 <;> cases b5 <;> first | rfl | (exact absurd hB (by decide))
theorem pipeF_ok (p : Pipe) : (total p ≤ 5000 ∧ pipeF p = ⟨0, 0⟩) ∨ (pipeF p).Code ≠ 0 := by
  unfold pipeF
  have key : ∀ l seen c, firstAt (pb seen l) l.length = some c → c ≠ 0 := fun l seen c hf => by
    obtain ⟨i, hi, hb, _⟩ := firstAt_some _ hf
    simp only [pb, List.getElem?_eq_getElem hi] at hb
    split at hb
    · cases hb; decide
    · split at hb
      · cases hb; decide
      · cases hb
  split
  · right; simp
  · split
    · right; simp
    · split
      · right; simp
      · split
        · right; simp
        · unfold pfault
          cases hs : firstAt (pb [] p.Senders) p.Senders.length with
          | some c => right; exact key _ _ _ hs
          | none =>
            cases hg : firstAt (pb (tasksOf p.Senders) p.Getters) p.Getters.length with
            | some c => right; exact key _ _ _ hg
            | none =>
              unfold gv
              cases hv : firstAt (gbad p.Getters) p.Getters.length with
              | none => left; exact ⟨by omega, rfl⟩
              | some f =>
                right
                obtain ⟨i, hi, hb, _⟩ := firstAt_some _ hv
                simp only [gbad, List.getElem?_eq_getElem hi] at hb
                split at hb
                · cases hb; decide
                · cases hb
def beginF (p : Pipe) (t : Int) : Fault := if (pipeF p).Code ≠ 0 then pipeF p else if t < 1 then ⟨3, -1⟩ else if t ∈ tasksOf p.Senders ∨ t ∈ tasksOf p.Getters then ⟨10, -1⟩ else if total p = 5000 then ⟨9, 0⟩ else ⟨0, 0⟩
theorem tot_eq (n : Nat) : (((n : Nat) : Int) == 5000) = decide (n = 5000) := by rw [Bool.eq_iff_iff]; simp; omega
theorem begin_eq (p : Pipe) (t : Int) (ht : total p ≤ 1000000) : pipe_begin p t = some (beginF p t) := by
  unfold pipe_begin beginF
  have ht' := ht
  unfold total at ht'
  rw [check_eq p ht, waits_eq p t (by omega) (by omega), sum_len p (by omega), tot_eq]
  by_cases h0 : (pipeF p).Code = 0
  · by_cases h1 : t < 1
    · simp [h0, h1]
    · by_cases h2 : t ∈ tasksOf p.Senders ∨ t ∈ tasksOf p.Getters
      · simp [h0, h1, h2]
      · by_cases h3 : total p = 5000
        · simp [h0, h1, h2, h3]
        · simp [h0, h1, h2, h3]
  · simp [h0, Bool.cond_eq_ite]
theorem taskFault_eq (p : Pipe) (t : Int) (ht : total p ≤ 1000000) : taskmilllaw_taskFault p t = some (beginF p t) := by
  have ht' := ht
  unfold total at ht'
  unfold taskmilllaw_taskFault taskmilllaw_taskFault_j4 taskmilllaw_taskFault_j3 taskmilllaw_taskFault_j2 taskmilllaw_taskFault_j1 beginF
  rw [refPipe_eq p ht, waitsAt_eq p t (by omega) (by omega), sum_len p (by omega), tot_eq]
  rcases pipeF_ok p with ⟨_, h⟩ | h
  · by_cases h1 : t < 1
    · simp [h, h1]
    · by_cases h2 : t ∈ tasksOf p.Senders ∨ t ∈ tasksOf p.Getters
      · simp [h, h1, h2]
      · by_cases h3 : total p = 5000
        · simp [h, h1, h2, h3]
        · simp [h, h1, h2, h3]
  · have h' : ((pipeF p).Code == 0) = false := by simpa using h
    simp [h, h']
def noP : Pipe := ⟨0, [], false, [], []⟩
def noA : Answer := ⟨false, false, false, 0, 0, []⟩
def putR (p : Pipe) (x : GPost) : Pipe × Answer :=
  if p.Closed = true then (p, ⟨true, true, false, 0, x.Case, []⟩)
  else match p.Getters with
    | g :: t => (⟨p.Cap, p.Items, p.Closed, p.Senders, t⟩, ⟨true, false, false, 0, x.Case, [⟨g.Task, g.Case, x.Value, true, false⟩]⟩)
    | [] => if (p.Items.length : Int) < p.Cap then (⟨p.Cap, p.Items ++ [x.Value], p.Closed, p.Senders, p.Getters⟩, ⟨true, false, false, 0, x.Case, []⟩) else (p, noA)
theorem cut_tail {α : Type} (w : α) (t : List α) : cut (w :: t) 1 (((w :: t).length : Nat) : Int) = t := by
  have := cut_drop' (w :: t) (n := 1) (i := 1) rfl
  simpa using this
theorem put_eq (p : Pipe) (x : GPost) (h : p.Items.length ≤ 1000000) : pipe_Put x p.Cap p.Closed p.Items p.Senders p.Getters = some ((putR p x).2.Done, (putR p x).2.Panic, (putR p x).2.Ok, (putR p x).2.Value, (putR p x).2.Case, (putR p x).2.Wakes, (putR p x).1.Cap, (putR p x).1.Closed, (putR p x).1.Items, (putR p x).1.Getters, (putR p x).1.Senders) := by
  unfold pipe_Put putR
  by_cases hc : p.Closed = true
  · simp [hc]
  · have hc' : p.Closed = false := by simpa using hc
    cases hg : p.Getters with
    | cons g t =>
      have hct := cut_tail g t
      have hl : (0 : Int) < (((g :: t).length : Nat) : Int) := by rw [List.length_cons]; omega
      have hl1 : (1 : Int) ≤ (((g :: t).length : Nat) : Int) := by rw [List.length_cons]; omega
      simp only [hc', hl, hl1, hct, cond_false, cond_true, decide_true, Bool.false_eq_true, if_false]
      simp [ix]
    | nil =>
      have hb : (p.Items.length + 1) * 8 ≤ 140737488355328 := by omega
      by_cases hi : (p.Items.length : Int) < p.Cap <;> simp [hc', hi, hb, noA, hg]
theorem sent_eq (p : Pipe) (x : GPost) (h : p.Items.length ≤ 1000000) : taskmillref_Sent p x = some ((putR p x).1.Cap, (putR p x).1.Items, (putR p x).1.Closed, (putR p x).1.Senders, (putR p x).1.Getters, (putR p x).2.Done, (putR p x).2.Panic, (putR p x).2.Ok, (putR p x).2.Value, (putR p x).2.Case, (putR p x).2.Wakes) := by
  unfold taskmillref_Sent putR
  by_cases hc : p.Closed = true
  · simp [hc]
  · have hc' : p.Closed = false := by simpa using hc
    cases hg : p.Getters with
    | cons g t =>
      have hct := cut_tail g t
      have hl : (0 : Int) < (((g :: t).length : Nat) : Int) := by rw [List.length_cons]; omega
      have hl1 : (1 : Int) ≤ (((g :: t).length : Nat) : Int) := by rw [List.length_cons]; omega
      simp only [hc', hl, hl1, hct, cond_false, cond_true, decide_true, Bool.false_eq_true, if_false]
      simp [ix]
    | nil =>
      have hb : (p.Items.length + 1) * 8 ≤ 140737488355328 := by omega
      have hb2 : p.Items.length * 8 ≤ 140737488355328 := by omega
      by_cases hi : (p.Items.length : Int) < p.Cap <;> simp [hc', hi, hb, hb2, noA, hg]
def sendR (p : Pipe) (t v : Int) (try' : Bool) : Pipe × Answer × Fault :=
  if (beginF p t).Code ≠ 0 then (noP, noA, beginF p t)
  else if (putR p ⟨t, 0, v⟩).2.Done = false ∧ try' = false then (⟨(putR p ⟨t, 0, v⟩).1.Cap, (putR p ⟨t, 0, v⟩).1.Items, (putR p ⟨t, 0, v⟩).1.Closed, (putR p ⟨t, 0, v⟩).1.Senders ++ [⟨t, 0, v⟩], (putR p ⟨t, 0, v⟩).1.Getters⟩, (putR p ⟨t, 0, v⟩).2, ⟨0, 0⟩)
  else ((putR p ⟨t, 0, v⟩).1, (putR p ⟨t, 0, v⟩).2, ⟨0, 0⟩)
theorem copy_eq (p : Pipe) (ht : total p ≤ 1000000) : pipe_Copy p = some (p.Cap, p.Closed, p.Items, p.Senders, p.Getters) := by
  unfold total at ht
  unfold pipe_Copy
  rw [clone_eq _ (by omega), cloneP_eq _ (by omega), cloneP_eq _ (by omega)]; rfl
theorem put_senders (p : Pipe) (x : GPost) : (putR p x).1.Senders = p.Senders := by
  unfold putR
  split
  · rfl
  · split
    · rfl
    · split <;> rfl
theorem beginF_ok (p : Pipe) (t : Int) : (total p < 5000 ∧ pipeF p = ⟨0, 0⟩ ∧ beginF p t = ⟨0, 0⟩) ∨ (beginF p t).Code ≠ 0 := by
  unfold beginF
  rcases pipeF_ok p with ⟨hl, h⟩ | h
  · rw [h, if_neg (by simp)]
    split
    · right; simp
    · split
      · right; simp
      · split
        · right; simp
        · left; exact ⟨by omega, rfl, rfl⟩
  · right; rw [if_pos h]; exact h
theorem send_eq (p : Pipe) (t v : Int) (try' : Bool) (ht : total p ≤ 1000000) : pipe_Send p t v try' = some ((sendR p t v try').1.Cap, (sendR p t v try').1.Closed, (sendR p t v try').2.1.Done, (sendR p t v try').2.1.Panic, (sendR p t v try').2.1.Ok, (sendR p t v try').2.1.Value, (sendR p t v try').2.1.Case, (sendR p t v try').2.2, (sendR p t v try').1.Items, (sendR p t v try').1.Senders, (sendR p t v try').1.Getters, (sendR p t v try').2.1.Wakes) := by
  have ht' := ht
  unfold total at ht'
  unfold pipe_Send pipe_Send_j1 sendR
  rw [begin_eq p t ht, copy_eq p ht]
  have hs := put_senders p ⟨t, 0, v⟩
  rcases beginF_ok p t with ⟨_, _, h⟩ | h
  · have hb : (p.Senders.length + 1) * 24 ≤ 140737488355328 := by omega
    simp only [Option.bind_some, put_eq p ⟨t, 0, v⟩ (by omega), h]
    cases hd : (putR p ⟨t, 0, v⟩).2.Done <;> cases try' <;> simp [hd, hs, hb]
  · simp [h, Bool.cond_eq_ite, noP, noA]
theorem samePipe_eq (a b : Pipe) (h : total a ≤ 1000000) : taskmillref_SamePipe a b = some (decide (a = b)) := by
  obtain ⟨c, i, cl, s, g⟩ := a
  obtain ⟨c', i', cl', s', g'⟩ := b
  unfold total at h
  simp only at h
  unfold taskmillref_SamePipe taskmillref_SamePipe_j1
  simp only [ints_eq i i' (by omega), sameP_eq s s' (by omega), sameP_eq g g' (by omega)]
  by_cases h1 : c = c' <;> by_cases h2 : cl = cl' <;> by_cases h3 : i = i' <;> by_cases h4 : s = s' <;> simp [h1, h2, h3, h4, Bool.cond_eq_ite]
theorem sameAnswer_eq (a b : Answer) (h : a.Wakes.length ≤ 1000000) : taskmillref_SameAnswer a b = some (decide (a = b)) := by
  obtain ⟨d, p, o, v, c, w⟩ := a
  obtain ⟨d', p', o', v', c', w'⟩ := b
  simp only at h
  unfold taskmillref_SameAnswer taskmillref_SameAnswer_j1
  simp only [sameK_eq w w' (by omega)]
  by_cases h1 : d = d' <;> by_cases h2 : p = p' <;> by_cases h3 : o = o' <;> by_cases h4 : v = v' <;> by_cases h5 : c = c' <;> simp [h1, h2, h3, h4, h5, Bool.cond_eq_ite]
theorem pipeAs_eq (p : Pipe) (a : Answer) (f w : Fault) (q : Pipe) (b : Answer) (h1 : total p ≤ 1000000) (h2 : a.Wakes.length ≤ 1000000) : taskmilllaw_pipeAs p a f w q b = some (decide (f = w ∧ if w.Code ≠ 0 then p = noP ∧ a = noA else p = q ∧ a = b)) := by
  unfold taskmilllaw_pipeAs taskmilllaw_pipeAs_j1 taskmilllaw_pipeAs_j2
  have e : ((f.Code == w.Code) && ((f.At == w.At) && true)) = decide (f = w) := by
    obtain ⟨a, b⟩ := f
    obtain ⟨c, d⟩ := w
    rw [Bool.eq_iff_iff]; simp
  rw [e, samePipe_eq _ _ h1, samePipe_eq _ _ h1, sameAnswer_eq _ _ h2, sameAnswer_eq _ _ h2]
  by_cases hf : f = w
  · by_cases hw : w.Code = 0
    · by_cases hp : p = q <;> simp [hf, hw, hp]
    · have hw' : (w.Code != 0) = true := by simpa using hw
      simp only [hw', cond_true]
      by_cases hp : p = ⟨0, [], false, [], []⟩ <;> simp [hf, hw, hp, noP, noA]
  · simp [hf]
def gotI (p : Pipe) : List Int := match p.Senders with
  | s :: _ => p.Items ++ [s.Value]
  | [] => p.Items
def gotK (p : Pipe) : List GWake := match p.Senders with
  | s :: _ => [⟨s.Task, s.Case, 0, false, false⟩]
  | [] => []
def gotR (p : Pipe) (x : GPost) : Pipe × Answer := match gotI p with
  | v :: r => (⟨p.Cap, r, p.Closed, p.Senders.drop 1, p.Getters⟩, ⟨true, false, true, v, x.Case, gotK p⟩)
  | [] => if p.Closed = true then (p, ⟨true, false, false, 0, x.Case, []⟩) else (p, noA)
theorem got_eq (p : Pipe) (x : GPost) (h : p.Items.length ≤ 1000000) : pipe_Got x p.Cap p.Closed p.Items p.Senders p.Getters = some ((gotR p x).2.Done, (gotR p x).2.Panic, (gotR p x).2.Ok, (gotR p x).2.Value, (gotR p x).2.Case, (gotR p x).2.Wakes, (gotR p x).1.Cap, (gotR p x).1.Closed, (gotR p x).1.Items, (gotR p x).1.Senders, (gotR p x).1.Getters) := by
  have j1 : ∀ it sd wk, it = gotI p → (it ≠ [] → sd = p.Senders.drop 1 ∧ wk = gotK p) → (it = [] → sd = p.Senders ∧ p.Items = []) → pipe_Got_j1 x p.Cap p.Closed p.Getters it sd wk = some ((gotR p x).2.Done, (gotR p x).2.Panic, (gotR p x).2.Ok, (gotR p x).2.Value, (gotR p x).2.Case, (gotR p x).2.Wakes, (gotR p x).1.Cap, (gotR p x).1.Closed, (gotR p x).1.Items, (gotR p x).1.Senders, (gotR p x).1.Getters) := by
    intro it sd wk h1 h2 h3
    unfold pipe_Got_j1 gotR
    rw [← h1]
    cases it with
    | cons v r =>
      obtain ⟨rfl, rfl⟩ := h2 (by simp)
      have hct := cut_tail v r
      have hl : (0 : Int) < (((v :: r).length : Nat) : Int) := by rw [List.length_cons]; omega
      have hl1 : (1 : Int) ≤ (((v :: r).length : Nat) : Int) := by rw [List.length_cons]; omega
      simp only [hl, hl1, hct, cond_true, decide_true]
      simp [ix]
    | nil =>
      obtain ⟨rfl, hI⟩ := h3 rfl
      by_cases hc : p.Closed = true <;> simp [hc, hI, noA]
  unfold pipe_Got
  cases hs : p.Senders with
  | nil =>
    have hi : gotI p = p.Items := by simp [gotI, hs]
    have hk : gotK p = [] := by simp [gotK, hs]
    have := j1 p.Items [] [] hi.symm (fun _ => ⟨by simp [hs], hk.symm⟩) (fun h => ⟨hs.symm, h⟩)
    simpa using this
  | cons s t =>
    have hi : gotI p = p.Items ++ [s.Value] := by simp [gotI, hs]
    have hk : gotK p = [⟨s.Task, s.Case, 0, false, false⟩] := by simp [gotK, hs]
    have := j1 (p.Items ++ [s.Value]) t [⟨s.Task, s.Case, 0, false, false⟩] hi.symm (fun _ => ⟨by simp [hs], hk.symm⟩) (fun h => by simp at h)
    have hct := cut_tail s t
    have hl : (0 : Int) < (((s :: t).length : Nat) : Int) := by rw [List.length_cons]; omega
    have hl1 : (1 : Int) ≤ (((s :: t).length : Nat) : Int) := by rw [List.length_cons]; omega
    have hb : (p.Items.length + 1) * 8 ≤ 140737488355328 := by omega
    simp only [hl, hl1, hct, cond_true, decide_true, List.length_append, List.length_singleton, hb]
    exact this
def getR (p : Pipe) (t : Int) (try' : Bool) : Pipe × Answer × Fault :=
  if (beginF p t).Code ≠ 0 then (noP, noA, beginF p t)
  else if (gotR p ⟨t, 0, 0⟩).2.Done = false ∧ try' = false then (⟨(gotR p ⟨t, 0, 0⟩).1.Cap, (gotR p ⟨t, 0, 0⟩).1.Items, (gotR p ⟨t, 0, 0⟩).1.Closed, (gotR p ⟨t, 0, 0⟩).1.Senders, (gotR p ⟨t, 0, 0⟩).1.Getters ++ [⟨t, 0, 0⟩]⟩, (gotR p ⟨t, 0, 0⟩).2, ⟨0, 0⟩)
  else ((gotR p ⟨t, 0, 0⟩).1, (gotR p ⟨t, 0, 0⟩).2, ⟨0, 0⟩)
theorem got_getters (p : Pipe) (x : GPost) : (gotR p x).1.Getters = p.Getters := by
  unfold gotR
  split
  · rfl
  · split <;> rfl
theorem get_eq (p : Pipe) (t : Int) (try' : Bool) (ht : total p ≤ 1000000) : pipe_Get p t try' = some ((getR p t try').1.Cap, (getR p t try').1.Closed, (getR p t try').2.1.Done, (getR p t try').2.1.Panic, (getR p t try').2.1.Ok, (getR p t try').2.1.Value, (getR p t try').2.1.Case, (getR p t try').2.2, (getR p t try').1.Items, (getR p t try').1.Senders, (getR p t try').1.Getters, (getR p t try').2.1.Wakes) := by
  have ht' := ht
  unfold total at ht'
  unfold pipe_Get pipe_Get_j1 getR
  rw [begin_eq p t ht, copy_eq p ht]
  have hs := got_getters p ⟨t, 0, 0⟩
  rcases beginF_ok p t with ⟨_, _, h⟩ | h
  · have hb : (p.Getters.length + 1) * 24 ≤ 140737488355328 := by omega
    simp only [Option.bind_some, got_eq p ⟨t, 0, 0⟩ (by omega), h]
    cases hd : (gotR p ⟨t, 0, 0⟩).2.Done <;> cases try' <;> simp [hd, hs, hb]
  · simp [h, Bool.cond_eq_ite, noP, noA]
theorem pipe_eta (p : Pipe) : Pipe.mk p.Cap p.Items p.Closed p.Senders p.Getters = p := rfl
theorem answer_eta (a : Answer) : Answer.mk a.Done a.Panic a.Ok a.Value a.Case a.Wakes = a := rfl
theorem begun_eq : taskmilllaw_pipeBegun = some true := by
  unfold taskmilllaw_pipeBegun
  have h1 : getR ⟨0, [], false, [], []⟩ 1 false = (⟨0, [], false, [], [⟨1, 0, 0⟩]⟩, noA, ⟨0, 0⟩) := by decide
  have h2 : sendR ⟨0, [], false, [], [⟨1, 0, 0⟩]⟩ 2 7 false = (⟨0, [], false, [], []⟩, ⟨true, false, false, 0, 0, [⟨1, 0, 7, true, false⟩]⟩, ⟨0, 0⟩) := by decide
  rw [get_eq _ _ _ (by decide), h1]
  simp only [Option.bind_some]
  rw [send_eq _ _ _ _ (by decide), h2]
  simp [taskmilllaw_pipeBegun_j1, noA, sameK_eq]
theorem vast_eq (p : Pipe) (h : total p ≤ 4611686018427387904) : taskmilllaw_vastPipe p = some (decide (6000 < total p ∨ 800 < p.Senders.length + p.Getters.length)) := by
  unfold taskmilllaw_vastPipe
  rw [sum_len p h]
  unfold total at h
  rw [wrap_id (x := ((p.Senders.length : Nat) : Int) + ((p.Getters.length : Nat) : Int)) (by omega) (by omega)]
  congr 1
  rw [Bool.eq_iff_iff]
  simp only [Bool.or_eq_true, decide_eq_true_eq]
  omega
theorem ownPipe_eq (p : Pipe) (ht : total p ≤ 1000000) : taskmilllaw_ownPipe p = some (p.Cap, p.Closed, p.Items, p.Senders, p.Getters) := by
  unfold total at ht
  unfold taskmilllaw_ownPipe
  rw [own_eq _ (by omega), ownP_eq _ (by omega), ownP_eq _ (by omega)]; rfl

theorem put_total (p : Pipe) (x : GPost) : total (putR p x).1 ≤ total p + 1 := by
  unfold putR
  split
  · dsimp only; omega
  · split
    · rename_i g t hg
      unfold total
      rw [hg]
      simp only [List.length_cons]; omega
    · split
      · unfold total
        simp only [List.length_append, List.length_singleton]; omega
      · dsimp only; omega
def Small (p : Pipe) : Prop := total p ≤ 4611686018427387904
set_option maxHeartbeats 1000000 in
theorem sends (p : Pipe) (task value : Int) (try' : Bool) (hp : Small p) : taskmilllaw_PipeSends p task value try' = some true := by
  unfold taskmilllaw_PipeSends
  rw [begun_eq, vast_eq p hp]
  simp only [Option.bind_some, Bool.not_true, cond_false]
  by_cases h0 : 6000 < total p ∨ 800 < p.Senders.length + p.Getters.length
  · simp [h0]
  · have ht : total p ≤ 1000000 := by omega
    have ht' := ht
    unfold total at ht'
    rw [ownPipe_eq p ht]
    simp only [h0, decide_false, cond_false, Option.bind_some, pipe_eta, check_eq p ht, send_eq p task value try' ht, refPipe_eq p ht, samePipe_eq p p ht, beq_self_eq_true, Bool.and_self, Bool.not_true, decide_true]
    unfold taskmilllaw_PipeSends_j2 taskmilllaw_PipeSends_j1
    simp only [cond_false, sent_eq p ⟨task, 0, value⟩ (show p.Items.length ≤ 1000000 by omega), Option.bind_some, taskFault_eq p task ht, pipe_eta, answer_eta]
    rw [ownP_eq _ (by rw [put_senders]; omega)]
    have hs := put_senders p ⟨task, 0, value⟩
    have hw : (putR p ⟨task, 0, value⟩).2.Wakes.length ≤ 1 := by
      unfold putR
      split
      · simp
      · split
        · simp
        · split <;> simp [noA]
    have hb : (p.Senders.length + 1) * 24 ≤ 140737488355328 := by omega
    have htp : total (putR p ⟨task, 0, value⟩).1 ≤ 10000 := by have := put_total p ⟨task, 0, value⟩; omega
    rcases beginF_ok p task with ⟨_, _, hF⟩ | hF
    · cases hd : (putR p ⟨task, 0, value⟩).2.Done <;> cases try'
      · have htp2 : total ⟨(putR p ⟨task, 0, value⟩).1.Cap, (putR p ⟨task, 0, value⟩).1.Items, (putR p ⟨task, 0, value⟩).1.Closed, (putR p ⟨task, 0, value⟩).1.Senders ++ [⟨task, 0, value⟩], (putR p ⟨task, 0, value⟩).1.Getters⟩ ≤ 20000 := by
          unfold total at htp ⊢
          simp only [List.length_append, List.length_singleton]; omega
        simp only [sendR, hF, hd, ne_eq, not_true_eq_false, if_false, and_self, if_true, Bool.not_false, Bool.and_self, cond_true, Option.bind_some]
        rw [hs]
        simp only [List.length_append, List.length_singleton, hb, decide_true, cond_true]
        rw [← hs, pipeAs_eq _ _ _ _ _ _ (by omega) (by omega)]
        simp
      · simp only [sendR, hF, hd, ne_eq, not_true_eq_false, if_false, Bool.true_eq_false, and_false, Bool.not_true, Bool.and_false, cond_false, Option.bind_some, pipe_eta, answer_eta]
        rw [pipeAs_eq _ _ _ _ _ _ (by omega) (by omega)]
        simp
      · simp only [sendR, hF, hd, ne_eq, not_true_eq_false, if_false, Bool.true_eq_false, false_and, Bool.not_true, Bool.false_and, cond_false, Option.bind_some, pipe_eta, answer_eta]
        rw [pipeAs_eq _ _ _ _ _ _ (by omega) (by omega)]
        simp
      · simp only [sendR, hF, hd, ne_eq, not_true_eq_false, if_false, Bool.true_eq_false, false_and, Bool.not_true, Bool.false_and, cond_false, Option.bind_some, pipe_eta, answer_eta]
        rw [pipeAs_eq _ _ _ _ _ _ (by omega) (by omega)]
        simp
    · simp only [sendR, hF, ne_eq, not_false_eq_true, if_true, Option.bind_some]
      have hz : ∀ q b, taskmilllaw_pipeAs ⟨noP.Cap, noP.Items, noP.Closed, noP.Senders, noP.Getters⟩ ⟨noA.Done, noA.Panic, noA.Ok, noA.Value, noA.Case, noA.Wakes⟩ (beginF p task) (beginF p task) q b = some true := fun q b => by
        rw [pipeAs_eq _ _ _ _ _ _ (by decide) (by decide)]
        simp [hF, noP, noA]
      rw [hs]
      simp only [List.length_append, List.length_singleton, hb, decide_true, cond_true, hz, Option.bind_some]
      cases (!(putR p ⟨task, 0, value⟩).2.Done && !try') <;> rfl
end Go.Proofs.Ytconaimaibephaa
