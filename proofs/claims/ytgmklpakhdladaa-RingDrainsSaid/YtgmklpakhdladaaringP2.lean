/-
  What laws of the chapter ring compute, and lemmas on it.
  No conditions.
-/
import Derived.Test.YtgmklpakhdladaaringP
set_option linter.unusedSimpArgs false
set_option linter.unusedVariables false
namespace Go.Proofs.Ytgmklpakhdladaa
open Go Go.Sx
/-! ### Nothing is lost -/
def hdL (n : Int) : List Int := if 0 < n then [n] else []
theorem line_app (q : Ring) : lineOf q = hdL q.Next ++ q.List := by unfold lineOf hdL; split <;> simp
theorem okR_line {q : Ring} (h1 : q.List.length ≤ 256) (h2 : 0 ≤ q.Next) (h3 : (lineOf q).Nodup) (h4 : ∀ x ∈ lineOf q, 1 ≤ x) : OkR q := by
  rw [line_app, List.nodup_append] at h3
  rw [line_app] at h4
  refine ⟨h1, h2, fun x hx => h4 x (List.mem_append_right _ hx), h3.2.1, fun hm => ?_⟩
  by_cases hp : 0 < q.Next
  · exact h3.2.2 q.Next (by simp [hdL, hp]) q.Next hm rfl
  · have := h4 q.Next (List.mem_append_right _ hm); omega
theorem line_pos {q : Ring} (ok : OkR q) : ∀ x ∈ lineOf q, 1 ≤ x := by
  intro x hx
  rw [line_app] at hx
  rcases List.mem_append.1 hx with h | h
  · unfold hdL at h
    split at h
    · simp only [List.mem_singleton] at h; omega
    · cases h
  · exact ok.pos x h
theorem putL_perm (l : List Int) (t : Int) : ((putL l t).2 ++ (putL l t).1).Perm (t :: l) := by
  unfold putL
  split
  · exact List.perm_append_singleton t l
  · rw [List.perm_iff_count]
    intro a
    have h : (l.take 128).count a + (l.drop 128).count a = l.count a := by rw [← List.count_append, List.take_append_drop]
    simp only [List.count_append, List.count_cons, List.count_nil]
    omega
theorem putL_len {l : List Int} (t : Int) (h : l.length ≤ 256) : (putL l t).1.length ≤ 256 := by
  unfold putL
  split
  · simp; omega
  · simp; omega
theorem put_perm {q : Ring} (ok : OkR q) {t : Int} (ht : 1 ≤ t) (hn : t ∉ lineOf q) (next : Bool) :
    (putR q t next).2.2 = ⟨0, 0⟩ ∧ OkR (putR q t next).1 ∧ ((putR q t next).2.1 ++ lineOf (putR q t next).1).Perm (t :: lineOf q) := by
  have h1 : ¬ t < 1 := by omega
  have hnx := ok.next
  have hnd : (t :: lineOf q).Nodup := List.nodup_cons.2 ⟨hn, line_nodup ok⟩
  have hps : ∀ x ∈ t :: lineOf q, 1 ≤ x := fun x hx => by
    rcases List.mem_cons.1 hx with h | h
    · omega
    · exact line_pos ok x h
  have fin : ∀ (q' : Ring) (sp : List Int), q'.List.length ≤ 256 → 0 ≤ q'.Next → (sp ++ lineOf q').Perm (t :: lineOf q) → OkR q' ∧ (sp ++ lineOf q').Perm (t :: lineOf q) := fun q' sp g1 g2 g3 =>
    ⟨okR_line g1 g2 ((List.nodup_append.1 ((List.Perm.nodup_iff g3).2 hnd)).2.1) (fun x hx => hps x (g3.mem_iff.1 (List.mem_append_right _ hx))), g3⟩
  simp only [putR, ringF_of ok, ne_eq, not_true_eq_false, if_false, h1, hn]
  cases next with
  | false =>
    simp only [Bool.false_eq_true, if_false]
    refine ⟨trivial, fin ⟨q.Next, (putL q.List t).1⟩ _ (putL_len t ok.len) hnx ?_⟩
    have := putL_perm q.List t
    rw [List.perm_iff_count] at this ⊢
    intro a
    have := this a
    simp only [line_app, List.count_append, List.count_cons] at this ⊢
    omega
  | true =>
    by_cases h3 : q.Next = 0
    · simp only [h3, if_true]
      refine ⟨trivial, fin ⟨t, q.List⟩ [] ok.len (by show 0 ≤ t; omega) ?_⟩
      have e1 : lineOf ⟨t, q.List⟩ = t :: q.List := by simp [lineOf]; omega
      have e2 : lineOf q = q.List := by simp [lineOf, h3]
      rw [e1, e2]; exact List.Perm.refl _
    · simp only [h3, if_true, if_false]
      refine ⟨trivial, fin ⟨t, (putL q.List q.Next).1⟩ _ (putL_len q.Next ok.len) (by show 0 ≤ t; omega) ?_⟩
      have := putL_perm q.List q.Next
      rw [List.perm_iff_count] at this ⊢
      intro a
      have := this a
      have e1 : hdL t = [t] := by simp [hdL]; omega
      have e2 : hdL q.Next = [q.Next] := by simp [hdL]; omega
      simp only [line_app, e1, e2, List.count_append, List.count_cons, List.count_nil] at this ⊢
      omega
theorem steal_perm {a b : Ring} (oka : OkR a) (okb : OkR b) (hd : (lineOf a ++ lineOf b).Nodup) (next : Bool) :
    (stealR a b next).2.2.2 = ⟨0, 0⟩ ∧ OkR (stealR a b next).1 ∧ OkR (stealR a b next).2.1 ∧ (lineOf (stealR a b next).1 ++ lineOf (stealR a b next).2.1).Perm (lineOf a ++ lineOf b) := by
  have hm : metR a b = false := by
    cases hm : metR a b with
    | false => rfl
    | true =>
      unfold metR at hm
      simp only [List.any_eq_true, decide_eq_true_eq] at hm
      obtain ⟨x, h1, h2⟩ := hm
      exact absurd rfl ((List.nodup_append.1 hd).2.2 x h1 x h2)
  have hs : stealF a b = ⟨0, 0⟩ := by simp [stealF, ringF_of oka, ringF_of okb, hm]
  have hla := oka.len
  have hlb := okb.len
  have hna := oka.next
  have hnb := okb.next
  have hps : ∀ x ∈ lineOf a ++ lineOf b, 1 ≤ x := fun x hx => by
    rcases List.mem_append.1 hx with h | h
    · exact line_pos oka x h
    · exact line_pos okb x h
  have fin : ∀ (a' b' : Ring), a'.List.length ≤ 256 → 0 ≤ a'.Next → b'.List.length ≤ 256 → 0 ≤ b'.Next → (lineOf a' ++ lineOf b').Perm (lineOf a ++ lineOf b) → OkR a' ∧ OkR b' ∧ (lineOf a' ++ lineOf b').Perm (lineOf a ++ lineOf b) := fun a' b' g1 g2 g3 g4 g5 => by
    have hn := List.nodup_append.1 ((List.Perm.nodup_iff g5).2 hd)
    exact ⟨okR_line g1 g2 hn.1 (fun x hx => hps x (g5.mem_iff.1 (List.mem_append_left _ hx))), okR_line g3 g4 hn.2.1 (fun x hx => hps x (g5.mem_iff.1 (List.mem_append_right _ hx))), g5⟩
  simp only [stealR, hs, ne_eq, not_true_eq_false, if_false]
  by_cases he : a.List = []
  · rw [if_pos he]
    by_cases h1 : next ∧ 0 < a.Next ∧ b.List.length < 256
    · rw [if_pos h1]
      refine ⟨rfl, fin ⟨0, []⟩ ⟨b.Next, b.List ++ [a.Next]⟩ (by simp) (by simp) (by simp; omega) hnb ?_⟩
      rw [List.perm_iff_count]
      intro x
      have e2 : hdL a.Next = [a.Next] := by simp [hdL]; omega
      have e3 : hdL 0 = [] := by simp [hdL]
      simp only [line_app, he, e2, e3, List.count_append, List.count_cons, List.count_nil]
      omega
    · rw [if_neg h1]
      exact ⟨rfl, oka, okb, List.Perm.refl _⟩
  · rw [if_neg he]
    refine ⟨rfl, fin _ _ (by simp; omega) hna (by unfold stealN; simp; omega) hnb ?_⟩
    rw [List.perm_iff_count]
    intro x
    have h : (a.List.take (stealN a b)).count x + (a.List.drop (stealN a b)).count x = a.List.count x := by rw [← List.count_append, List.take_append_drop]
    simp only [line_app, List.count_append]
    omega
/-- What holds between two rings, whatever was done. -/
structure Kept (task : Nat) (q0 q1 : Ring) (sp tk : List Int) : Prop where
  ok0 : OkR q0
  ok1 : OkR q1
  all : (tk ++ sp ++ lineOf q0 ++ lineOf q1).Perm (upto task)
theorem Kept.swap {task : Nat} {q0 q1 : Ring} {sp tk : List Int} (h : Kept task q0 q1 sp tk) : Kept task q1 q0 sp tk :=
  ⟨h.ok1, h.ok0, by
    refine List.Perm.trans ?_ h.all
    rw [List.perm_iff_count]; intro x; simp only [List.count_append]; omega⟩
theorem Kept.len {task : Nat} {q0 q1 : Ring} {sp tk : List Int} (h : Kept task q0 q1 sp tk) : tk.length + sp.length + (lineOf q0).length + (lineOf q1).length = task := by
  have := h.all.length_eq
  simpa [upto_len, Nat.add_assoc] using this
theorem Kept.disj {task : Nat} {q0 q1 : Ring} {sp tk : List Int} (h : Kept task q0 q1 sp tk) : (lineOf q0 ++ lineOf q1).Nodup := by
  have := (List.Perm.nodup_iff h.all).2 (upto_nodup task)
  rw [List.append_assoc] at this
  exact (List.nodup_append.1 this).2.1
theorem Kept.put {task : Nat} {q0 q1 : Ring} {sp tk : List Int} (h : Kept task q0 q1 sp tk) (next : Bool) :
    (putR q0 ((task : Int) + 1) next).2.2 = ⟨0, 0⟩ ∧ Kept (task + 1) (putR q0 ((task : Int) + 1) next).1 q1 (sp ++ (putR q0 ((task : Int) + 1) next).2.1) tk := by
  have hn : ((task : Int) + 1) ∉ lineOf q0 := fun hm => by
    have := mem_upto.1 (h.all.mem_iff.1 (List.mem_append_left _ (List.mem_append_right _ hm)))
    omega
  obtain ⟨h1, h2, h3⟩ := put_perm h.ok0 (t := (task : Int) + 1) (by omega) hn next
  refine ⟨h1, h2, h.ok1, ?_⟩
  have h4 := h.all
  rw [List.perm_iff_count] at h3 h4 ⊢
  intro x
  have h3 := h3 x
  have h4 := h4 x
  rw [upto_succ]
  simp only [List.count_append, List.count_cons, List.count_nil] at h3 h4 ⊢
  omega
theorem Kept.take {task : Nat} {q0 q1 : Ring} {sp tk : List Int} (h : Kept task q0 q1 sp tk) {t : Int} {r : List Int} (hl : lineOf q0 = t :: r) : Kept task ⟨0, r⟩ q1 sp (tk ++ [t]) := by
  have h5 := line_nodup h.ok0
  have h6 := line_pos h.ok0
  have h7 := h.ok0.len
  have h8 := line_len q0
  rw [hl] at h5 h6 h8
  refine ⟨okR_line (by show r.length ≤ 256; simp at h8; omega) (by show (0 : Int) ≤ 0; omega) (by rw [line_mk0]; exact (List.nodup_cons.1 h5).2) (fun x hx => by rw [line_mk0] at hx; exact h6 x (List.mem_cons_of_mem _ hx)), h.ok1, ?_⟩
  refine List.Perm.trans ?_ h.all
  rw [hl, line_mk0, List.perm_iff_count]
  intro x
  simp only [List.count_append, List.count_cons, List.count_nil]
  omega
theorem Kept.steal {task : Nat} {q0 q1 : Ring} {sp tk : List Int} (h : Kept task q0 q1 sp tk) (next : Bool) : (stealR q0 q1 next).2.2.2 = ⟨0, 0⟩ ∧ Kept task (stealR q0 q1 next).1 (stealR q0 q1 next).2.1 sp tk := by
  obtain ⟨h1, h2, h3, h4⟩ := steal_perm h.ok0 h.ok1 h.disj next
  refine ⟨h1, h2, h3, List.Perm.trans ?_ h.all⟩
  rw [List.perm_iff_count] at h4 ⊢
  intro x
  have := h4 x
  simp only [List.count_append] at this ⊢
  omega
/-- The end: each is there once. -/
theorem keeps_end (task : Nat) (ht : task ≤ 2000) (all : List Int) (h : all.Perm (upto task)) : loopO (taskmilllaw_RingKeeps_l1 (task : Int)) (0, all, List.replicate (task + 1) false) = some true := by
  have hlen : all.length = task := by rw [h.length_eq, upto_len]
  have hnd := (List.Perm.nodup_iff h).2 (upto_nodup task)
  have hall : ∀ i (hi : i < all.length), 1 ≤ all[i] ∧ all[i] ≤ (task : Int) := fun i hi => mem_upto.1 (h.mem_iff.1 (List.getElem_mem hi))
  let had := fun i => (all.take i).foldl (fun (m : List Bool) (x : Int) => m.set x.toNat true) (List.replicate (task + 1) false)
  have hadl : ∀ (l : List Int) (m : List Bool), (l.foldl (fun (m : List Bool) (x : Int) => m.set x.toNat true) m).length = m.length := by
    intro l
    induction l with
    | nil => exact fun m => rfl
    | cons x l ih => intro m; simp only [List.foldl_cons]; rw [ih]; simp
  have hadg : ∀ (l : List Int) (m : List Bool) (j : Nat), (∀ x ∈ l, 0 ≤ x) → (j : Int) ∉ l → (l.foldl (fun (m : List Bool) (x : Int) => m.set x.toNat true) m)[j]? = m[j]? := by
    intro l
    induction l with
    | nil => exact fun m j _ _ => rfl
    | cons x l ih =>
      intro m j hx hj
      simp only [List.foldl_cons]
      rw [ih _ _ (fun y hy => hx y (List.mem_cons_of_mem _ hy)) (fun hm => hj (List.mem_cons_of_mem _ hm)), List.getElem?_set_ne]
      intro e
      have := hx x (List.mem_cons_self ..)
      exact hj (by rw [← e]; simp; left; omega)
  have key := loopO_all (step := taskmilllaw_RingKeeps_l1 (task : Int)) (fun i => (((i : Nat) : Int), all, had i)) (some true) all.length (fun i hi => ?_) ?_
  · exact key
  · obtain ⟨h1, h2⟩ := hall i hi
    have hl : (had i).length = task + 1 := by simp only [had]; rw [hadl]; simp
    have hg : ix (had i) all[i] = false := by
      obtain ⟨k, hk⟩ := Int.eq_ofNat_of_zero_le (show 0 ≤ all[i] by omega)
      rw [hk]
      have hni : ((k : Nat) : Int) ∉ all.take i := by rw [← hk]; exact nodup_take hnd hi
      have := hadg (all.take i) (List.replicate (task + 1) false) k (fun x hx => by have := mem_upto.1 (h.mem_iff.1 (List.mem_of_mem_take hx)); omega) hni
      simp only [ix, Int.toNat_natCast, List.getD_eq_getElem?_getD]
      show ((had i)[k]?).getD default = false
      simp only [had]
      rw [this]
      by_cases hk2 : k < task + 1
      · simp [hk2]
      · simp [hk2]
    have hs : had (i + 1) = (had i).set all[i].toNat true := by
      simp only [had]; rw [List.take_succ_eq_append_getElem hi, List.foldl_append]; rfl
    have c1 : ¬ all[i] < 1 := by omega
    have c2 : ¬ (task : Int) < all[i] := by omega
    have c3 : 0 ≤ all[i] := by omega
    have c4 : all[i] < ((had i).length : Int) := by rw [hl]; omega
    simp only [taskmilllaw_RingKeeps_l1, ix_get hi, hs, hg]
    simp [hi, c1, c2, c3, c4, wrap_n1 i (by omega)]
  · simp [taskmilllaw_RingKeeps_l1]
theorem wrap_div (m d : Int) (h0 : 0 ≤ m) (h1 : m ≤ 9223372036854775807) (hd : 0 ≤ d) : IntKind.i64.wrap (Int.tdiv m d) = ((m.toNat / d.toNat : Nat) : Int) := by
  obtain ⟨a, rfl⟩ := Int.eq_ofNat_of_zero_le h0
  obtain ⟨b, rfl⟩ := Int.eq_ofNat_of_zero_le hd
  have e : Int.tdiv (a : Int) (b : Int) = ((a / b : Nat) : Int) := rfl
  rw [e, Int.toNat_natCast, Int.toNat_natCast]
  have : a / b ≤ a := Nat.div_le_self _ _
  generalize a / b = c at this ⊢
  rw [wrap_id (by omega) (by omega)]
theorem tmod_nat (m : Nat) (d : Nat) : Int.tmod (m : Int) (d : Int) = ((m % d : Nat) : Int) := rfl
theorem keeps (moves : List Int) (hm : ∀ x ∈ moves, -9223372036854775808 ≤ x ∧ x ≤ 9223372036854775807) : taskmilllaw_RingKeeps moves = some true := by
  unfold taskmilllaw_RingKeeps
  rw [begun_eq]
  by_cases h0 : 1500 < moves.length
  · have : (1500 : Int) < ((moves.length : Nat) : Int) := by omega
    simp [this]
  · have h0' : ¬ (1500 : Int) < ((moves.length : Nat) : Int) := by omega
    simp only [Option.bind_some, Bool.not_true, cond_false, h0', decide_false]
    have key := loopO_inv (step := taskmilllaw_RingKeeps_l2 moves) (fun s => ∃ (task i : Nat), s.1 = task ∧ s.2.1 = i ∧ task ≤ i ∧ i ≤ moves.length ∧ Kept task ⟨s.2.2.1, s.2.2.2.2.2.2.1⟩ ⟨s.2.2.2.1, s.2.2.2.2.2.2.2⟩ s.2.2.2.2.1 s.2.2.2.2.2.1) (fun s => moves.length - s.2.1.toNat) (fun r => r = true) ?_ (s0 := (0, 0, 0, 0, [], [], [], [])) ⟨0, 0, rfl, rfl, Nat.le_refl _, Nat.zero_le _, ⟨ok0 (by simp) (by simp) (by simp), ok0 (by simp) (by simp) (by simp), by simp [lineOf, upto]⟩⟩
    · obtain ⟨r, h1, h2⟩ := key
      rw [h1, h2]
    · rintro ⟨_, _, n0, n1, sp, tk, l0, l1⟩ ⟨task, i, rfl, rfl, hti, hil, hK⟩
      simp only at hK ⊢
      have hlen := hK.len
      by_cases hi : i < moves.length
      · have hmv := hm moves[i] (List.getElem_mem hi)
        by_cases hneg : moves[i] < 0
        · right
          refine ⟨true, ?_, rfl⟩
          simp [taskmilllaw_RingKeeps_l2, ix_get hi, hi, hneg]
        · left
          obtain ⟨a, ha⟩ := Int.eq_ofNat_of_zero_le (show 0 ≤ moves[i] by omega)
          have e2 : IntKind.i64.wrap (Int.tdiv moves[i] 2) = ((a / 2 : Nat) : Int) := by rw [wrap_div _ 2 (by omega) hmv.2 (by omega), ha]; rfl
          have e10 : IntKind.i64.wrap (Int.tdiv moves[i] 10) = ((a / 10 : Nat) : Int) := by rw [wrap_div _ 10 (by omega) hmv.2 (by omega), ha]; rfl
          have em : Int.tmod moves[i] 2 = ((a % 2 : Nat) : Int) := by rw [ha]; rfl
          have e5 : Int.tmod ((a / 2 : Nat) : Int) 5 = ((a / 2 % 5 : Nat) : Int) := rfl
          have hw : IntKind.i64.wrap ((task : Int) + 1) = ((task + 1 : Nat) : Int) := wrap_n1 task (by omega)
          have hwi : IntKind.i64.wrap ((i : Int) + 1) = ((i + 1 : Nat) : Int) := wrap_n1 i (by omega)
          -- where it goes on
          have goon : ∀ (task' : Nat) (m0 m1 : Int) (sp' tk' k0 k1 : List Int), task' ≤ i + 1 → Kept task' ⟨m0, k0⟩ ⟨m1, k1⟩ sp' tk' → taskmilllaw_RingKeeps_l2 moves ((task : Int), (i : Int), n0, n1, sp, tk, l0, l1) = taskmilllaw_RingKeeps_j1 moves (i : Int) (task' : Int) m0 m1 sp' tk' k0 k1 →
              ∃ s', taskmilllaw_RingKeeps_l2 moves ((task : Int), (i : Int), n0, n1, sp, tk, l0, l1) = some (.inl s') ∧ (∃ (task i : Nat), s'.1 = task ∧ s'.2.1 = i ∧ task ≤ i ∧ i ≤ moves.length ∧ Kept task ⟨s'.2.2.1, s'.2.2.2.2.2.2.1⟩ ⟨s'.2.2.2.1, s'.2.2.2.2.2.2.2⟩ s'.2.2.2.2.1 s'.2.2.2.2.2.1) ∧ moves.length - s'.2.1.toNat < moves.length - (i : Int).toNat := by
            intro task' m0 m1 sp' tk' k0 k1 h1 h2 h3
            refine ⟨_, h3.trans (by rw [taskmilllaw_RingKeeps_j1, hwi]), ⟨task', i + 1, rfl, rfl, h1, by omega, h2⟩, ?_⟩
            simp only [Int.toNat_natCast]
            omega
          have l2e : ∀ b : Bool, (b = decide (a / 2 % 5 < 3)) → taskmilllaw_RingKeeps_l2 moves ((task : Int), (i : Int), n0, n1, sp, tk, l0, l1) = taskmilllaw_RingKeeps_j2 moves (task : Int) (i : Int) n0 n1 sp tk l0 l1 b := by
            intro b hb
            have c0 : decide ((0 : Int) ≤ (i : Int)) = true := by simp
            have c1 : decide ((i : Int) < ((moves.length : Nat) : Int)) = true := by simp; exact hi
            have c2 : decide (moves[i] < 0) = false := by simpa using hneg
            simp only [taskmilllaw_RingKeeps_l2, ix_get hi, c0, c1, c2, Bool.and_self, cond_true, cond_false, e2, e5]
            have : a / 2 % 5 = 0 ∨ a / 2 % 5 = 1 ∨ a / 2 % 5 = 2 ∨ a / 2 % 5 = 3 ∨ a / 2 % 5 = 4 := by omega
            rcases this with h | h | h | h | h <;> rw [h] at hb ⊢ <;> subst hb <;> rfl
          have hk : a % 2 = 0 ∨ a % 2 = 1 := by omega
          rcases (show a / 2 % 5 < 3 ∨ a / 2 % 5 = 3 ∨ a / 2 % 5 = 4 by omega) with hd | hd | hd
          · have l2 := l2e true (by simp [hd])
            rcases hk with hk | hk
            · obtain ⟨p1, p2⟩ := hK.put ((Int.tmod ((a / 2 : Nat) : Int) 5) == 2)
              have hl2 := p2.len
              refine goon (task + 1) _ _ _ _ _ _ (by omega) p2 (l2.trans ?_)
              have hb : (sp.length + (putR ⟨n0, l0⟩ ((task : Int) + 1) (Int.tmod ((a / 2 : Nat) : Int) 5 == 2)).2.1.length) * 8 ≤ 140737488355328 := by
                simp only [List.length_append] at hl2; omega
              simp only [taskmilllaw_RingKeeps_j2, ix_get hi, em, hk, e2, put_eq, hw, cond_true, Option.bind_some, Int.natCast_add, p1]
              generalize (Int.tmod ((a / 2 : Nat) : Int) 5 == 2) = fl at p1 hb ⊢
              simp [hb, p1]
            · obtain ⟨p1, p2⟩ := hK.swap.put ((Int.tmod ((a / 2 : Nat) : Int) 5) == 2)
              have p2 := p2.swap
              have hl2 := p2.len
              refine goon (task + 1) _ _ _ _ _ _ (by omega) p2 (l2.trans ?_)
              have hb : (sp.length + (putR ⟨n1, l1⟩ ((task : Int) + 1) (Int.tmod ((a / 2 : Nat) : Int) 5 == 2)).2.1.length) * 8 ≤ 140737488355328 := by
                simp only [List.length_append] at hl2; omega
              simp only [taskmilllaw_RingKeeps_j2, ix_get hi, em, hk, e2, put_eq, hw, cond_true, Option.bind_some, Int.natCast_add, p1]
              generalize (Int.tmod ((a / 2 : Nat) : Int) 5 == 2) = fl at p1 hb ⊢
              simp [hb, p1]
          · have l2 := l2e false (by simp [hd])
            have hb : (tk.length + 1) * 8 ≤ 140737488355328 := by omega
            rcases hk with hk | hk
            · cases hL : lineOf ⟨n0, l0⟩ with
              | nil =>
                refine goon task _ _ _ _ _ _ (by omega) hK (l2.trans ?_)
                simp only [taskmilllaw_RingKeeps_j2, ix_get hi, em, hk, e2, e5, hd, take_eq, take_none hK.ok0 hL]
                rw [line_eq _ (by have := hK.ok0.len; omega), hL]
                simp
              | cons t r =>
                refine goon task _ _ _ _ _ _ (by omega) (hK.take hL) (l2.trans ?_)
                simp only [taskmilllaw_RingKeeps_j2, ix_get hi, em, hk, e2, e5, hd, take_eq, take_ok hK.ok0 hL]
                simp [hb]
            · cases hL : lineOf ⟨n1, l1⟩ with
              | nil =>
                refine goon task _ _ _ _ _ _ (by omega) hK (l2.trans ?_)
                simp only [taskmilllaw_RingKeeps_j2, ix_get hi, em, hk, e2, e5, hd, take_eq, take_none hK.ok1 hL]
                rw [line_eq ⟨n1, l1⟩ (by have := hK.ok1.len; omega), hL]
                simp
              | cons t r =>
                refine goon task _ _ _ _ _ _ (by omega) (hK.swap.take hL).swap (l2.trans ?_)
                simp only [taskmilllaw_RingKeeps_j2, ix_get hi, em, hk, e2, e5, hd, take_eq, take_ok hK.ok1 hL]
                simp [hb]
          · have l2 := l2e false (by simp [hd])
            rcases hk with hk | hk
            · obtain ⟨p1, p2⟩ := hK.steal ((Int.tmod ((a / 10 : Nat) : Int) 2) == 1)
              refine goon task _ _ _ _ _ _ (by omega) p2 (l2.trans ?_)
              simp only [taskmilllaw_RingKeeps_j2, ix_get hi, em, hk, e2, e5, e10, hd, steal_eq, p1, show IntKind.i64.wrap (1 - ((0 : Nat) : Int)) = 1 from by decide]
              generalize (Int.tmod ((a / 10 : Nat) : Int) 2 == 1) = fl at p1 ⊢
              simp [p1]
            · obtain ⟨p1, p2⟩ := hK.swap.steal ((Int.tmod ((a / 10 : Nat) : Int) 2) == 1)
              refine goon task _ _ _ _ _ _ (by omega) p2.swap (l2.trans ?_)
              simp only [taskmilllaw_RingKeeps_j2, ix_get hi, em, hk, e2, e5, e10, hd, steal_eq, p1, show IntKind.i64.wrap (1 - ((1 : Nat) : Int)) = 0 from by decide]
              generalize (Int.tmod ((a / 10 : Nat) : Int) 2 == 1) = fl at p1 ⊢
              simp [p1]
      · right
        refine ⟨true, ?_, rfl⟩
        have c1 : decide ((i : Int) < ((moves.length : Nat) : Int)) = false := by simp; omega
        have hl0 := hK.ok0.len
        have hl1 := hK.ok1.len
        have b1 : tk.length * 8 ≤ 140737488355328 := by omega
        have b2 : (tk.length + sp.length) * 8 ≤ 140737488355328 := by omega
        have b3 : (tk.length + sp.length + (lineOf ⟨n0, l0⟩).length) * 8 ≤ 140737488355328 := by omega
        have b4 : (tk.length + sp.length + (lineOf ⟨n0, l0⟩).length + (lineOf ⟨n1, l1⟩).length) * 8 ≤ 140737488355328 := by omega
        have hw : IntKind.i64.wrap ((task : Int) + 1) = ((task + 1 : Nat) : Int) := wrap_n1 task (by omega)
        have hmk : (0 ≤ ((task + 1 : Nat) : Int) ∧ ((task + 1 : Nat) : Int) ≤ 4611686018427387904 ∧ (1 : Int) * ((task + 1 : Nat) : Int) ≤ 140737488355328) := by omega
        have hend := keeps_end task (by omega) _ hK.all
        simp only [taskmilllaw_RingKeeps_l2, c1, cond_false, hw]
        rw [line_eq ⟨n0, l0⟩ (by show l0.length ≤ _; have : l0.length ≤ 256 := hl0; omega), line_eq ⟨n1, l1⟩ (by show l1.length ≤ _; have : l1.length ≤ 256 := hl1; omega)]
        simp only [Option.bind_some, List.length_append, b1, b2, b3, b4, hmk, decide_true, cond_true]
        rw [show (((tk.length + sp.length + (lineOf ⟨n0, l0⟩).length + (lineOf ⟨n1, l1⟩).length : Nat) : Int) != (task : Int)) = false from by simp; omega]
        simp only [cond_false, Int.toNat_natCast]
        rw [show (default : Bool) = false from rfl, hend]
        rfl
/-! ### Drained -/
def rnd (p : Nat) : Nat → Nat → Nat
  | 0, _ => 0
  | f + 1, n => bif n == 0 then 0 else 1 + rnd p f (n - min (min (min (n / p + 1) n) 128) 256)
theorem rnd_fuel (p : Nat) : ∀ (f g n : Nat), n ≤ f → n ≤ g → rnd p f n = rnd p g n
  | 0, 0, n, _, _ => rfl
  | 0, g + 1, n, h1, _ => by have : n = 0 := by omega
                             subst this; rfl
  | f + 1, 0, n, _, h2 => by have : n = 0 := by omega
                             subst this; rfl
  | f + 1, g + 1, n, h1, h2 => by
    simp only [rnd]
    by_cases h : n = 0
    · subst h; rfl
    · have e : (n == 0) = false := by simpa using h
      rw [e, cond_false, cond_false]
      generalize n / p = d
      rw [rnd_fuel p f g _ (by omega) (by omega)]
theorem rnd_bound : ∀ p, p < 8 → ∀ n, n < 301 → rnd (p + 1) n n ≤ 10 * (p + 1) + 20 := by decide +kernel
theorem drains (n procs : Int) : taskmilllaw_RingDrains n procs = some true := by
  unfold taskmilllaw_RingDrains
  rw [begun_eq]
  simp only [Option.bind_some, Bool.not_true, cond_false]
  by_cases h0 : n < 0 ∨ 300 < n ∨ procs < 1 ∨ 8 < procs
  · have : (decide (n < 0) || (decide ((300 : Int) < n) || (decide (procs < 1) || decide ((8 : Int) < procs)))) = true := by simpa using h0
    simp [this]
  · have h0' : (decide (n < 0) || (decide ((300 : Int) < n) || (decide (procs < 1) || decide ((8 : Int) < procs)))) = false := by simp at h0 ⊢; omega
    simp only [h0', cond_false]
    obtain ⟨m, rfl⟩ := Int.eq_ofNat_of_zero_le (show 0 ≤ n by omega)
    obtain ⟨p, rfl⟩ := Int.eq_ofNat_of_zero_le (show 0 ≤ procs by omega)
    have hm : m ≤ 300 := by omega
    have hp1 : 1 ≤ p := by omega
    have hp8 : p ≤ 8 := by omega
    have hb20 : IntKind.i64.wrap ((IntKind.i64.wrap ((10 : Int) * (p : Int))) + 20) = ((10 * p + 20 : Nat) : Int) := by
      rw [wrap_id (x := (10 : Int) * (p : Int)) (by omega) (by omega), wrap_id (by omega) (by omega)]; omega
    -- the rounds
    have rounds := loopO_inv (step := taskmilllaw_RingDrains_l2 (m : Int) (p : Int)) (fun s => ∃ (r k : Nat), s = ((r : Int), (k : Int) + 1, (upto m).drop k) ∧ k ≤ m ∧ r + rnd p (m - k) (m - k) ≤ 10 * p + 20) (fun s => s.2.2.length) (fun r => r = true) ?_ (s0 := (0, 1, upto m)) ⟨0, 0, rfl, Nat.zero_le _, by
        have := rnd_bound (p - 1) (by omega) m (by omega)
        rw [show p - 1 + 1 = p from by omega] at this
        simpa using this⟩
    · have all := loopO_all (step := taskmilllaw_RingDrains_l3 (m : Int) (p : Int)) (fun i => (((i : Nat) : Int) + 1, upto i)) (some true) m (fun i hi => ?_) ?_
      · exact all
      · have h1 : ((i : Nat) : Int) + 1 ≤ (m : Int) := by omega
        have h2 : ((upto i).length + 1) * 8 ≤ 140737488355328 := by rw [upto_len]; omega
        simp [taskmilllaw_RingDrains_l3, h1, h2, upto_succ, wrap_id (x := ((i : Nat) : Int) + 1 + 1) (by omega) (by omega)]
      · have h1 : ¬ ((m : Nat) : Int) + 1 ≤ (m : Int) := by omega
        obtain ⟨r, g1, g2⟩ := rounds
        simp [taskmilllaw_RingDrains_l3, h1, g1, g2]
    · rintro _ ⟨r, k, rfl, hk, hr⟩
      by_cases hkm : k = m
      · right
        have he : (upto m).drop k = [] := by rw [List.drop_eq_nil_iff, upto_len]; omega
        refine ⟨true, ?_, rfl⟩
        subst hkm
        simp [taskmilllaw_RingDrains_l2, he, wrap_id (x := (k : Int) + 1) (by omega) (by omega)]
      · left
        have hlen : ((upto m).drop k).length = m - k := by rw [List.length_drop, upto_len]
        have hpos : (0 : Int) < ((((upto m).drop k).length : Nat) : Int) := by rw [hlen]; omega
        have hrn : rnd p (m - k) (m - k) = 1 + rnd p (m - k - 1) (m - k - min (min (min ((m - k) / p + 1) (m - k)) 128) 256) := by
          obtain ⟨j, hj⟩ : ∃ j, m - k = j + 1 := ⟨m - k - 1, by omega⟩
          rw [hj]; simp [rnd]
        -- one refill
        have okz : OkR ⟨0, []⟩ := ok0 (by simp) (by simp) (by simp)
        have hlow : firstIf (lowAt ((upto m).drop k)) ((upto m).drop k).length = none := firstIf_none.2 fun i hi => by
          rw [low_at hi]
          have := mem_upto.1 (List.mem_of_mem_drop (List.getElem_mem hi))
          simp only [decide_eq_false_iff_not]; omega
        have hnd : ((upto m).drop k).Nodup := (List.drop_sublist _ _).nodup (upto_nodup m)
        have hdup : firstIf (dupAt (lineOf ⟨0, []⟩) ((upto m).drop k)) ((upto m).drop k).length = none := firstIf_none.2 fun i hi => by
          rw [dup_at hi, line_mk0]
          simp only [List.not_mem_nil, false_or, decide_eq_false_iff_not]
          exact nodup_take hnd hi
        have hF : refF ⟨0, []⟩ ((upto m).drop k) (p : Int) = ⟨0, 0⟩ := by
          have h5 : ¬ 5000 < ((upto m).drop k).length := by rw [hlen]; omega
          have h6 : ¬ ((p : Int) < 1 ∨ (64 : Int) < (p : Int)) := by omega
          simp only [refF, ringF_of okz, ne_eq, not_true_eq_false, if_false, h5, hlow, hdup, h6]
        obtain ⟨c, hc⟩ : ∃ c, c = refN ⟨0, []⟩ ((upto m).drop k) (p : Int) := ⟨_, rfl⟩
        have hcv : c = min (min (min ((m - k) / p + 1) (m - k)) 128) 256 := by rw [hc]; unfold refN; rw [hlen, Int.toNat_natCast]; rfl
        have hR : refillR ⟨0, []⟩ ((upto m).drop k) (p : Int) = (⟨0, ((upto m).drop k).take c⟩, ((upto m).drop k).drop c, ⟨0, 0⟩) := by
          unfold refillR
          rw [hF, ← hc]; simp
        have hc1 : 1 ≤ c := by rw [hcv]; generalize (m - k) / p = d; omega
        have hcm : c ≤ m - k := by rw [hcv]; generalize (m - k) / p = d; omega
        have hc128 : c ≤ 128 := by rw [hcv]; generalize (m - k) / p = d; omega
        have hrl : r + 1 ≤ 10 * p + 20 := by omega
        -- what is taken
        have takes := loopO_all (step := taskmilllaw_RingDrains_l1 (m : Int) (p : Int) (r : Int)) (fun j => ((((k + j : Nat) : Int) + 1), (0 : Int), (upto m).drop (k + c), (((upto m).drop k).take c).drop j)) (some (Sum.inl (((r + 1 : Nat) : Int), (((k + c : Nat) : Int) + 1), (upto m).drop (k + c)))) c (fun j hj => ?_) ?_
        · refine ⟨(((r + 1 : Nat) : Int), (((k + c : Nat) : Int) + 1), (upto m).drop (k + c)), ?_, ⟨r + 1, k + c, rfl, by omega, ?_⟩, ?_⟩
          · have h3 : ¬ (((10 * p + 20 : Nat) : Int) < ((r : Int) + 1)) := by omega
            have h4 : ¬ ((((upto m).drop k).length : Int) ≤ (((upto m).drop (k + c)).length : Int)) := by rw [hlen, List.length_drop, upto_len]; omega
            simp only [taskmilllaw_RingDrains_l2, hpos, decide_true, cond_true, hb20, wrap_id (x := (r : Int) + 1) (by omega) (by omega), h3, decide_false, cond_false]
            rw [refill_eq _ _ _ (by rw [hlen]; omega), hR]
            simp only [Option.bind_some, List.drop_drop, h4, decide_false, bne_self_eq_false, Bool.or_self, cond_false]
            exact takes
          · rw [hrn, ← hcv] at hr
            rw [rnd_fuel p (m - (k + c)) (m - k - 1) (m - (k + c)) (Nat.le_refl _) (by omega), show m - (k + c) = m - k - c from by omega]
            omega
          · simp only [List.length_drop, upto_len]; omega
        · have hlj : j < (((upto m).drop k).take c).length := by rw [List.length_take, hlen]; omega
          have hd : (((upto m).drop k).take c).drop j = (((k + j : Nat) : Int) + 1) :: (((upto m).drop k).take c).drop (j + 1) := by
            rw [List.drop_eq_getElem_cons hlj]
            congr 1
            rw [List.getElem_take, List.getElem_drop, upto_get (by omega)]
          have okj : OkR ⟨0, (((upto m).drop k).take c).drop j⟩ := ok0 (by rw [List.length_drop, List.length_take]; omega) (fun x hx => (mem_upto.1 (List.mem_of_mem_drop (List.mem_of_mem_take (List.mem_of_mem_drop hx)))).1) (((List.drop_sublist _ _).trans ((List.take_sublist _ _).trans (List.drop_sublist _ _))).nodup (upto_nodup m))
          have hlp : (0 : Int) < (((((upto m).drop k).take c).drop j).length : Int) := by rw [List.length_drop]; omega
          simp only [taskmilllaw_RingDrains_l1, take_eq, take_ok okj ((line_mk0 _).trans hd), hlp, decide_true, cond_true, Option.bind_some]
          simp [wrap_id (x := ((k : Int) + (j : Int) + 1 + 1)) (by omega) (by omega)]
          omega
        · have he : (((upto m).drop k).take c).drop c = [] := by rw [List.drop_eq_nil_iff, List.length_take]; omega
          simp only [taskmilllaw_RingDrains_l1, he, wrap_id (x := (r : Int) + 1) (by omega) (by omega)]
          rfl
end Go.Proofs.Ytgmklpakhdladaa
