/-
  What laws of the chapter pipe compute, and lemmas on it.
  No conditions.
-/
import Derived.Test.YtconaimaibephaapipeP4
set_option linter.unusedSimpArgs false
set_option linter.unusedVariables false
namespace Go.Proofs.Ytconaimaibephaa
open Go Go.Sx
/-! ### Tasks that do things one after the other -/
structure Inv (cap : Int) (n : Nat) (s g : List Int) (p : Pipe) : Prop where
  ok : OkP p
  hc : p.Cap = cap
  tk : ∀ x ∈ p.Senders ++ p.Getters, x.Task ≤ n
  ln : p.Senders.length + p.Getters.length ≤ n
  vs : ∀ x ∈ p.Senders, x.Value = x.Task - 1
  eq : s = g ++ p.Items
  pw : (g ++ p.Items ++ p.Senders.map (·.Value)).Pairwise (· < ·)
  bd : ∀ x ∈ g ++ p.Items ++ p.Senders.map (·.Value), x < n
  sl : s.length ≤ n
noncomputable def J4 (moves : List Int) (i : Int) (p : Pipe) (s g : List Int) (q : Pipe) (a : Answer) := taskmilllaw_played_j4 moves i p.Cap p.Closed p.Items p.Senders p.Getters s g q.Cap q.Closed a.Done a.Panic a.Ok a.Value a.Case ⟨0, 0⟩ q.Items q.Senders q.Getters a.Wakes
def nextS (i : Int) (s g : List Int) (q : Pipe) : Option ((Int × (List Int) × (List Int) × Int × Bool × (List Int) × (List GPost) × (List GPost)) ⊕ (Int × Bool × Bool × (List Int) × (List Int) × (List Int) × (List GPost) × (List GPost))) := some (.inl (i, s, g, q.Cap, q.Closed, q.Items, q.Senders, q.Getters))
theorem J4_loop (moves : List Int) (i : Int) (p : Pipe) (s g : List Int) (q : Pipe) (a : Answer) (ok : OkP q) : J4 moves i p s g q a = loopO (taskmilllaw_played_l1 moves i p.Cap p.Closed p.Items p.Senders p.Getters q.Cap q.Closed a.Done a.Panic a.Ok a.Value a.Case q.Items q.Senders q.Getters a.Wakes) (0, s, g) := by
  have z : ((0 : Int) != 0) = false := by decide
  unfold J4 taskmilllaw_played_j4
  rw [pipe_eta, check_eq q (by have := ok.tot; omega), pipeF_of ok]
  simp only [z, cond_false, Option.bind_some]
  unfold taskmilllaw_played_j3
  simp only [cond_false]
theorem J4_nil (moves : List Int) (n : Nat) (p : Pipe) (s g : List Int) (q : Pipe) (a : Answer) (ok : OkP q) (hn : n ≤ 1000) (ha : a.Wakes = []) : J4 moves n p s g q a = nextS ((n + 1 : Nat) : Int) s g q := by
  rw [J4_loop _ _ _ _ _ _ _ ok, ha]
  refine loopO_out ?_
  simp only [taskmilllaw_played_l1, taskmilllaw_played_j1, nextS]
  rw [wrap_n1 n (by omega)]
  simp
theorem J4_ok (moves : List Int) (n : Nat) (p : Pipe) (s g : List Int) (q : Pipe) (a : Answer) (ok : OkP q) (hn : n ≤ 1000) (w : GWake) (ha : a.Wakes = [w]) (hw : w.Ok = true) (hg : g.length ≤ 1000) : J4 moves n p s g q a = nextS ((n + 1 : Nat) : Int) s (g ++ [w.Value]) q := by
  rw [J4_loop _ _ _ _ _ _ _ ok, ha]
  have hb : (g.length + 1) * 8 ≤ 140737488355328 := by omega
  have h1 : IntKind.i64.wrap ((0 : Int) + 1) = 1 := by decide
  rw [loopO_inl (s' := (1, s, g ++ [w.Value]))]
  · refine loopO_out ?_
    simp only [taskmilllaw_played_l1, taskmilllaw_played_j1, nextS]
    rw [wrap_n1 n (by omega)]
    simp
  · simp only [taskmilllaw_played_l1, taskmilllaw_played_j2, h1]
    simp [ix, hw, hb]
theorem J4_put (moves : List Int) (n : Nat) (p : Pipe) (s g : List Int) (q : Pipe) (a : Answer) (ok : OkP q) (hn : n ≤ 1000) (w : GWake) (ha : a.Wakes = [w]) (hw : w.Ok = false) (hm : n < moves.length) (hmv : ix moves n = 2 ∨ ix moves n = 3) (hs : s.length ≤ 1000) : J4 moves n p s g q a = nextS ((n + 1 : Nat) : Int) (s ++ [IntKind.i64.wrap (w.Task - 1)]) g q := by
  rw [J4_loop _ _ _ _ _ _ _ ok, ha]
  have hb : (s.length + 1) * 8 ≤ 140737488355328 := by omega
  have h1 : IntKind.i64.wrap ((0 : Int) + 1) = 1 := by decide
  have hm' : ((n : Nat) : Int) < ((moves.length : Nat) : Int) := by omega
  have hm0 : (0 : Int) ≤ ((n : Nat) : Int) := by omega
  have hv : (ix moves (n : Int) == 2 || ix moves (n : Int) == 3) = true := by simpa using hmv
  have e0 : ix [w] (0 : Int) = w := by simp [ix]
  have hl : (0 : Int) < (([w].length : Nat) : Int) := by simp
  rw [loopO_inl (s' := (1, s ++ [IntKind.i64.wrap (w.Task - 1)], g))]
  · refine loopO_out ?_
    simp only [taskmilllaw_played_l1, taskmilllaw_played_j1, nextS]
    rw [wrap_n1 n (by omega)]
    simp
  · simp only [taskmilllaw_played_l1, taskmilllaw_played_j2, h1, e0, hw, hl, hm', hm0, hv, decide_true, cond_true, cond_false, Bool.or_true, Bool.and_true, Int.le_refl]
    have hb2 : (s ++ [IntKind.i64.wrap (w.Task - 1)]).length * 8 ≤ 140737488355328 := by simpa using hb
    simp only [hb2, decide_true, cond_true]
theorem J4_shut (moves : List Int) (n : Nat) (p : Pipe) (s g : List Int) (q : Pipe) (a : Answer) (ok : OkP q) (hn : n ≤ 1000) (ha : ∀ w ∈ a.Wakes, w.Ok = false) (hm : n < moves.length) (hmv : ix moves n = 4) (hl : a.Wakes.length ≤ 100000) : J4 moves n p s g q a = nextS ((n + 1 : Nat) : Int) s g q := by
  rw [J4_loop _ _ _ _ _ _ _ ok]
  have hm' : ((n : Nat) : Int) < ((moves.length : Nat) : Int) := by omega
  have hm0 : (0 : Int) ≤ ((n : Nat) : Int) := by omega
  have h2 : ((4 : Int) == 2) = false := by decide
  have h3 : ((4 : Int) == 3) = false := by decide
  refine loopO_all (step := taskmilllaw_played_l1 moves n p.Cap p.Closed p.Items p.Senders p.Getters q.Cap q.Closed a.Done a.Panic a.Ok a.Value a.Case q.Items q.Senders q.Getters a.Wakes) (fun k => (((k : Nat) : Int), s, g)) (nextS ((n + 1 : Nat) : Int) s g q) a.Wakes.length (fun k hk => ?_) ?_
  · have hk' : ((k : Nat) : Int) < ((a.Wakes.length : Nat) : Int) := by omega
    have hk0 : (0 : Int) ≤ ((k : Nat) : Int) := by omega
    simp only [taskmilllaw_played_l1, taskmilllaw_played_j2, ix_get hk, ha _ (List.getElem_mem hk), hk', hk0, hm', hm0, hmv, h2, h3, decide_true, cond_true, cond_false, Bool.or_true, Bool.and_true, Bool.or_false]
    rw [wrap_n1 k (by omega)]
  · simp only [taskmilllaw_played_l1, taskmilllaw_played_j1, nextS]
    rw [wrap_n1 n (by omega)]
    simp
/-! ### One move -/
theorem Inv.mono {cap : Int} {n : Nat} {s g : List Int} {p : Pipe} (I : Inv cap n s g p) : Inv cap (n + 1) s g p :=
  ⟨I.ok, I.hc, fun x hx => by have := I.tk x hx; omega, by have := I.ln; omega, I.vs, I.eq, I.pw, fun x hx => by have := I.bd x hx; omega, by have := I.sl; omega⟩
theorem Inv.tot {cap : Int} {n : Nat} {s g : List Int} {p : Pipe} (I : Inv cap n s g p) (hc : cap ≤ 50) (hn : n ≤ 300) : total p ≤ 350 := by
  have h1 := I.ln; have h2 := I.ok.it; have h3 := I.hc
  unfold total; omega
theorem Inv.begin {cap : Int} {n : Nat} {s g : List Int} {p : Pipe} (I : Inv cap n s g p) (hc : cap ≤ 50) (hn : n ≤ 300) : beginF p ((n + 1 : Nat) : Int) = ⟨0, 0⟩ := by
  refine begin_of I.ok (by omega) (fun h => ?_) (by have := I.tot hc hn; omega)
  obtain ⟨x, hx, e⟩ := List.mem_map.1 h
  have := I.tk x hx
  omega
/-- What is sent. -/
theorem send_move {cap : Int} {n : Nat} {s g : List Int} {p : Pipe} (I : Inv cap n s g p) (hc : cap ≤ 50) (hn : n ≤ 300) (t1 : Int) (et : t1 = ((n + 1 : Nat) : Int)) (moves : List Int) (b : Bool) : ∃ s' g' q, (bif ((sendR p t1 (n : Int) b).2.1.Done && (!(sendR p t1 (n : Int) b).2.1.Panic)) then J4 moves n p (s ++ [(n : Int)]) g (sendR p t1 (n : Int) b).1 (sendR p t1 (n : Int) b).2.1 else J4 moves n p s g (sendR p t1 (n : Int) b).1 (sendR p t1 (n : Int) b).2.1) = nextS ((n + 1 : Nat) : Int) s' g' q ∧ Inv cap (n + 1) s' g' q := by
  have hb : beginF p t1 = ⟨0, 0⟩ := by rw [et]; exact I.begin hc hn
  have ht := I.tot hc hn
  have hz : ¬ ((0 : Int) ≠ 0) := by simp
  obtain ⟨o1, o2, o3, o4, o5, o6, o7⟩ := I.ok
  obtain ⟨_, i1, i2, i3, i4, i5, i6, i7, i8⟩ := I
  have Iall : Inv cap n s g p := ⟨⟨o1, o2, o3, o4, o5, o6, o7⟩, i1, i2, i3, i4, i5, i6, i7, i8⟩
  have hgl : g.length ≤ 1000 := by rw [i5] at i8; simp at i8; omega
  cases hcl : p.Closed with
  | true =>
    have e : sendR p t1 (n : Int) b = (p, ⟨true, true, false, 0, 0, []⟩, ⟨0, 0⟩) := by simp [sendR, hb, putR, hcl]
    rw [e]
    exact ⟨s, g, p, by simp only [Bool.not_true, Bool.and_false, cond_false]; exact J4_nil _ _ _ _ _ _ _ Iall.ok (by omega) rfl, Iall.mono⟩
  | false =>
    cases hg : p.Getters with
    | cons w t =>
      have hS : p.Senders = [] := by
        cases hS : p.Senders with
        | nil => rfl
        | cons => exact absurd (.inl ⟨by simp [hS], .inr (.inr (by simp [hg]))⟩) o4
      have hI : p.Items = [] := by
        cases hI : p.Items with
        | nil => rfl
        | cons => exact absurd (.inr ⟨by simp [hg], .inr (by simp [hI])⟩) o4
      have e : sendR p t1 (n : Int) b = (⟨p.Cap, p.Items, p.Closed, p.Senders, t⟩, ⟨true, false, false, 0, 0, [⟨w.Task, w.Case, (n : Int), true, false⟩]⟩, ⟨0, 0⟩) := by simp [sendR, hb, putR, hcl, hg]
      rw [e]
      have hsub : ∀ x ∈ p.Senders ++ t, x ∈ p.Senders ++ p.Getters := by
        intro x hx; rw [hg]
        rcases List.mem_append.1 hx with hx | hx
        · exact List.mem_append_left _ hx
        · exact List.mem_append_right _ (List.mem_cons_of_mem _ hx)
      have okq : OkP ⟨p.Cap, p.Items, p.Closed, p.Senders, t⟩ := by
        refine ⟨?_, o2, o3, ?_, fun x hx => o5 x (hsub x hx), ?_, fun x hx => o7 x (by rw [hg]; exact List.mem_cons_of_mem _ hx)⟩
        · rw [total, hg] at o1; simp only [total, List.length_cons] at o1 ⊢; omega
        · simp [badP, hS, hI, hcl]
        · refine List.Nodup.sublist ?_ o6
          rw [hg]
          exact (List.Sublist.append_left (List.sublist_cons_self _ _) _).map _
      refine ⟨s ++ [(n : Int)], g ++ [(n : Int)], _, by simp only [Bool.not_false, Bool.and_true, cond_true]; exact J4_ok moves n p _ _ _ _ okq (by omega) ⟨w.Task, w.Case, (n : Int), true, false⟩ rfl rfl hgl, okq, i1, fun x hx => by have := i2 x (hsub x hx); omega, ?_, i4, ?_, ?_, ?_, ?_⟩
      · rw [hg] at i3; simp only [List.length_cons] at i3 ⊢; omega
      · simp [i5, hI]
      · simp only [hS, hI, List.append_nil, List.map_nil] at i6 i7 ⊢
        rw [List.pairwise_append]
        exact ⟨i6, by simp, fun a ha c hc' => by simp at hc'; subst hc'; exact i7 a ha⟩
      · simp only [hS, hI, List.append_nil, List.map_nil] at i7 ⊢
        intro x hx
        rcases List.mem_append.1 hx with hx | hx
        · have := i7 x hx; omega
        · simp at hx; omega
      · simp; omega
    | nil =>
      by_cases hi : (p.Items.length : Int) < p.Cap
      · have hS : p.Senders = [] := by
          cases hS : p.Senders with
          | nil => rfl
          | cons => exact absurd (.inl ⟨by simp [hS], .inr (.inl hi)⟩) o4
        have e : sendR p t1 (n : Int) b = (⟨p.Cap, p.Items ++ [(n : Int)], p.Closed, p.Senders, p.Getters⟩, ⟨true, false, false, 0, 0, []⟩, ⟨0, 0⟩) := by simp [sendR, hb, putR, hcl, hg, hi]
        rw [e]
        have okq : OkP ⟨p.Cap, p.Items ++ [(n : Int)], p.Closed, p.Senders, p.Getters⟩ := by
          refine ⟨?_, o2, by simp; omega, ?_, o5, o6, o7⟩
          · simp only [total, List.length_append, List.length_singleton] at ht ⊢; omega
          · simp [badP, hS, hg]
        refine ⟨s ++ [(n : Int)], g, _, by simp only [Bool.not_false, Bool.and_true, cond_true]; exact J4_nil _ _ _ _ _ _ _ okq (by omega) rfl, okq, i1, fun x hx => by have := i2 x hx; omega, by simp only; omega, i4, by simp [i5], ?_, ?_, by simp; omega⟩
        · simp only [hS, List.append_nil, List.map_nil] at i6 i7 ⊢
          rw [← List.append_assoc, List.pairwise_append]
          exact ⟨i6, by simp, fun a ha c hc' => by simp at hc'; subst hc'; exact i7 a ha⟩
        · simp only [hS, List.append_nil, List.map_nil] at i7 ⊢
          intro x hx
          rw [← List.append_assoc] at hx
          rcases List.mem_append.1 hx with hx | hx
          · have := i7 x hx; omega
          · simp at hx; omega
      · cases b with
        | true =>
          have e : sendR p t1 (n : Int) true = (p, noA, ⟨0, 0⟩) := by simp [sendR, hb, putR, hcl, hg, hi, noA]
          rw [e]
          exact ⟨s, g, p, by simp only [noA, Bool.not_false, Bool.and_true, cond_false]; exact J4_nil _ _ _ _ _ _ _ Iall.ok (by omega) rfl, Iall.mono⟩
        | false =>
          have e : sendR p t1 (n : Int) false = (⟨p.Cap, p.Items, p.Closed, p.Senders ++ [⟨t1, 0, (n : Int)⟩], p.Getters⟩, noA, ⟨0, 0⟩) := by simp [sendR, hb, putR, hcl, hg, hi, noA]
          rw [e]
          obtain ⟨_, okq⟩ := leave_send (v := (n : Int)) hb hcl hg hi
          refine ⟨s, g, _, by simp only [noA, Bool.not_false, Bool.and_true, cond_false]; exact J4_nil _ _ _ _ _ _ _ okq (by omega) rfl, okq, i1, ?_, ?_, ?_, i5, ?_, ?_, by omega⟩
          · intro x hx
            simp only [hg, List.append_nil] at i2 hx
            rcases List.mem_append.1 hx with hx | hx
            · have := i2 x hx; omega
            · simp at hx; subst hx; simp only; omega
          · simp only [List.length_append, List.length_singleton]; omega
          · intro x hx
            rcases List.mem_append.1 hx with hx | hx
            · exact i4 x hx
            · simp at hx; subst hx; simp only; omega
          · simp only [List.map_append, List.map_cons, List.map_nil]
            rw [← List.append_assoc, List.pairwise_append]
            exact ⟨i6, by simp, fun a ha c hc' => by simp at hc'; subst hc'; exact i7 a ha⟩
          · intro x hx
            simp only [List.map_append, List.map_cons, List.map_nil] at hx
            rw [← List.append_assoc] at hx
            rcases List.mem_append.1 hx with hx | hx
            · have := i7 x hx; omega
            · simp at hx; omega
/-- What is got. -/
theorem get_move {cap : Int} {n : Nat} {s g : List Int} {p : Pipe} (I : Inv cap n s g p) (hc : cap ≤ 50) (hn : n ≤ 300) (t1 : Int) (et : t1 = ((n + 1 : Nat) : Int)) (moves : List Int) (hm : n < moves.length) (hmv : ix moves n = 2 ∨ ix moves n = 3) (b : Bool) : ∃ s' g' q, (bif ((getR p t1 b).2.1.Done && (getR p t1 b).2.1.Ok) then J4 moves n p s (g ++ [(getR p t1 b).2.1.Value]) (getR p t1 b).1 (getR p t1 b).2.1 else J4 moves n p s g (getR p t1 b).1 (getR p t1 b).2.1) = nextS ((n + 1 : Nat) : Int) s' g' q ∧ Inv cap (n + 1) s' g' q := by
  have hb : beginF p t1 = ⟨0, 0⟩ := by rw [et]; exact I.begin hc hn
  have ht := I.tot hc hn
  obtain ⟨o1, o2, o3, o4, o5, o6, o7⟩ := I.ok
  obtain ⟨_, i1, i2, i3, i4, i5, i6, i7, i8⟩ := I
  have Iall : Inv cap n s g p := ⟨⟨o1, o2, o3, o4, o5, o6, o7⟩, i1, i2, i3, i4, i5, i6, i7, i8⟩
  have hsl : s.length ≤ 1000 := by omega
  cases hgi : gotI p with
  | cons v r =>
    have e : getR p t1 b = (⟨p.Cap, r, p.Closed, p.Senders.drop 1, p.Getters⟩, ⟨true, false, true, v, 0, gotK p⟩, ⟨0, 0⟩) := by simp [getR, hb, gotR, hgi]
    rw [e]
    simp only [Bool.and_true, cond_true]
    cases hS : p.Senders with
    | nil =>
      have hI : p.Items = v :: r := by rw [← hgi]; simp [gotI, hS]
      have hk : gotK p = [] := by simp [gotK, hS]
      have hG : p.Getters = [] := by
        cases hG : p.Getters with
        | nil => rfl
        | cons => exact absurd (.inr ⟨by simp [hG], .inr (by simp [hI])⟩) o4
      rw [hI] at o3 i5 i6 i7
      have okq : OkP ⟨p.Cap, r, p.Closed, [], p.Getters⟩ := by
        refine ⟨?_, o2, by simp at o3 ⊢; omega, by simp [badP, hG], fun x hx => o5 x (by rw [hS]; exact hx), by rw [hS] at o6; exact o6, o7⟩
        simp only [total, hI, List.length_cons, hS] at ht ⊢; omega
      rw [hk]
      refine ⟨s, g ++ [v], _, J4_nil _ _ _ _ _ _ _ okq (by omega) rfl, okq, i1, fun x hx => by have := i2 x (by rw [hS]; exact hx); omega, ?_, by simp, by simp [i5], ?_, ?_, by omega⟩
      · simp [hS] at i3 ⊢; omega
      · simpa [hS] using i6
      · intro x hx
        have := i7 x (by simpa [hS] using hx)
        omega
    | cons w t =>
      have hI : p.Items ++ [w.Value] = v :: r := by rw [← hgi]; simp [gotI, hS]
      have hk : gotK p = [⟨w.Task, w.Case, 0, false, false⟩] := by simp [gotK, hS]
      have hb' : p.Closed = false ∧ ¬ (p.Items.length : Int) < p.Cap ∧ p.Getters = [] := by
        refine ⟨?_, fun h => o4 (.inl ⟨by simp [hS], .inr (.inl h)⟩), ?_⟩
        · cases h : p.Closed with
          | false => rfl
          | true => exact absurd (.inl ⟨by simp [hS], .inl h⟩) o4
        · cases h : p.Getters with
          | nil => rfl
          | cons => exact absurd (.inl ⟨by simp [hS], .inr (.inr (by simp [h]))⟩) o4
      obtain ⟨c1, c2, c3⟩ := hb'
      have hrl : r.length = p.Items.length := by have := congrArg List.length hI; simp at this; omega
      have hsub : ∀ x ∈ t ++ p.Getters, x ∈ p.Senders ++ p.Getters := by
        intro x hx; rw [hS]
        rcases List.mem_append.1 hx with hx | hx
        · exact List.mem_append_left _ (List.mem_cons_of_mem _ hx)
        · exact List.mem_append_right _ hx
      have okq : OkP ⟨p.Cap, r, p.Closed, t, p.Getters⟩ := by
        refine ⟨?_, o2, by simp only [hrl]; exact o3, ?_, fun x hx => o5 x (hsub x hx), ?_, o7⟩
        · simp only [total, hS, List.length_cons] at ht ⊢; omega
        · simp only [badP, c1, c3, hrl]
          simp [c2]
        · refine List.Nodup.sublist ?_ o6
          rw [hS]
          exact (List.Sublist.append_right (List.sublist_cons_self _ _) _).map _
      have hwv := i4 w (by rw [hS]; simp)
      have hwt := i2 w (by rw [hS]; simp)
      have hw1 := (o5 w (by rw [hS]; simp)).1
      have hw : IntKind.i64.wrap (w.Task - 1) = w.Value := by rw [hwv]; exact wrap_id (by omega) (by omega)
      rw [hk]
      have hall : g ++ [v] ++ r = g ++ p.Items ++ [w.Value] := by rw [List.append_assoc, List.append_assoc, hI]; rfl
      have hall2 : g ++ [v] ++ r ++ t.map (·.Value) = g ++ p.Items ++ p.Senders.map (·.Value) := by rw [hall, hS]; simp
      refine ⟨s ++ [w.Value], g ++ [v], _, (J4_put moves n p _ _ _ _ okq (by omega) ⟨w.Task, w.Case, 0, false, false⟩ rfl rfl hm hmv hsl).trans (by simp only [hw]), okq, i1, fun x hx => by have := i2 x (hsub x hx); omega, ?_, fun x hx => i4 x (by rw [hS]; exact List.mem_cons_of_mem _ hx), by simp only [hall, i5], ?_, ?_, by simp; omega⟩
      · rw [hS] at i3; simp only [List.length_cons, List.drop_one, List.tail_cons] at i3 ⊢; omega
      · simp only [List.drop_one, List.tail_cons]; rw [hall2]; exact i6
      · simp only [List.drop_one, List.tail_cons]; rw [hall2]; intro x hx; have := i7 x hx; omega
  | nil =>
    have hs : p.Senders = [] ∧ p.Items = [] := by
      unfold gotI at hgi
      cases hs : p.Senders with
      | nil => rw [hs] at hgi; exact ⟨rfl, hgi⟩
      | cons a t => rw [hs] at hgi; simp at hgi
    cases hcl : p.Closed with
    | true =>
      have e : getR p t1 b = (p, ⟨true, false, false, 0, 0, []⟩, ⟨0, 0⟩) := by simp [getR, hb, gotR, hgi, hcl]
      rw [e]
      exact ⟨s, g, p, by simp only [Bool.and_false, cond_false]; exact J4_nil _ _ _ _ _ _ _ Iall.ok (by omega) rfl, Iall.mono⟩
    | false =>
      cases b with
      | true =>
        have e : getR p t1 true = (p, noA, ⟨0, 0⟩) := by simp [getR, hb, gotR, hgi, hcl, noA]
        rw [e]
        exact ⟨s, g, p, by simp only [noA, Bool.and_false, cond_false]; exact J4_nil _ _ _ _ _ _ _ Iall.ok (by omega) rfl, Iall.mono⟩
      | false =>
        have e : getR p t1 false = (⟨p.Cap, p.Items, p.Closed, p.Senders, p.Getters ++ [⟨t1, 0, 0⟩]⟩, noA, ⟨0, 0⟩) := by simp [getR, hb, gotR, hgi, hcl, noA]
        rw [e]
        obtain ⟨_, okq⟩ := leave_get hb hcl hs.1 hs.2
        refine ⟨s, g, _, by simp only [noA, Bool.and_false, cond_false]; exact J4_nil _ _ _ _ _ _ _ okq (by omega) rfl, okq, i1, ?_, ?_, i4, i5, i6, fun x hx => by have := i7 x hx; omega, by omega⟩
        · intro x hx
          simp only [hs.1, List.nil_append] at i2 hx
          rcases List.mem_append.1 hx with hx | hx
          · have := i2 x hx; omega
          · simp at hx; subst hx; simp only; omega
        · simp only [List.length_append, List.length_singleton]; omega
/-- A pipe is shut. -/
theorem shut_move {cap : Int} {n : Nat} {s g : List Int} {p : Pipe} (I : Inv cap n s g p) (hc : cap ≤ 50) (hn : n ≤ 300) (moves : List Int) (hm : n < moves.length) (hmv : ix moves n = 4) : ∃ q, J4 moves n p s g (downR p).1 (downR p).2 = nextS ((n + 1 : Nat) : Int) s g q ∧ Inv cap (n + 1) s g q := by
  have ht := I.tot hc hn
  have hw := down_wakes p
  obtain ⟨o1, o2, o3, o4, o5, o6, o7⟩ := I.ok
  obtain ⟨_, i1, i2, i3, i4, i5, i6, i7, i8⟩ := I
  have Iall : Inv cap n s g p := ⟨⟨o1, o2, o3, o4, o5, o6, o7⟩, i1, i2, i3, i4, i5, i6, i7, i8⟩
  cases hcl : p.Closed with
  | true =>
    have e : downR p = (p, ⟨true, true, false, 0, 0, []⟩) := by simp [downR, hcl]
    rw [e]
    exact ⟨p, J4_nil _ _ _ _ _ _ _ Iall.ok (by omega) rfl, Iall.mono⟩
  | false =>
    have e1 : (downR p).1 = ⟨p.Cap, p.Items, true, [], []⟩ := by simp [downR, hcl]
    have e2 : ∀ w ∈ (downR p).2.Wakes, w.Ok = false := by
      intro w hw
      simp only [downR, hcl, Bool.false_eq_true, if_false, List.mem_append, wakesOf, List.mem_map] at hw
      rcases hw with ⟨_, _, rfl⟩ | ⟨_, _, rfl⟩ <;> rfl
    have okq : OkP ⟨p.Cap, p.Items, true, [], []⟩ := ok_closed o2 o3
    refine ⟨⟨p.Cap, p.Items, true, [], []⟩, ?_, okq, i1, by simp, by simp, by simp, i5, ?_, ?_, by omega⟩
    · rw [e1]; exact J4_shut _ _ _ _ _ _ _ okq (by omega) e2 hm hmv (by omega)
    · rw [List.pairwise_append] at i6; simpa using i6.1
    · intro x hx
      have := i7 x (List.mem_append_left _ (by simpa using hx))
      omega
theorem move_eq {cap : Int} {n : Nat} {s g : List Int} {p : Pipe} (I : Inv cap n s g p) (hc : cap ≤ 50) (moves : List Int) (hn : moves.length ≤ 300) (hm : n < moves.length) : ∃ s' g' q, taskmilllaw_played_l2 moves ((n : Int), s, g, p.Cap, p.Closed, p.Items, p.Senders, p.Getters) = nextS ((n + 1 : Nat) : Int) s' g' q ∧ Inv cap (n + 1) s' g' q := by
  have hm' : ((n : Nat) : Int) < ((moves.length : Nat) : Int) := by omega
  have hm0 : (0 : Int) ≤ ((n : Nat) : Int) := by omega
  have ht := I.tot hc (by omega)
  have hw : IntKind.i64.wrap (((n : Nat) : Int) + 1) = ((n + 1 : Nat) : Int) := wrap_n1 n (by omega)
  have hb : (s.length + 1) * 8 ≤ 140737488355328 := by have := I.sl; omega
  have hb2 : (g.length + 1) * 8 ≤ 140737488355328 := by have := I.sl; have := I.eq; subst this; simp at *; omega
  have step : taskmilllaw_played_l2 moves ((n : Int), s, g, p.Cap, p.Closed, p.Items, p.Senders, p.Getters) = taskmilllaw_played_j6 moves n s g p.Cap p.Closed p.Items p.Senders p.Getters (decide (ix moves n = 0 ∨ ix moves n = 1)) := by
    unfold taskmilllaw_played_l2
    simp only [hm', hm0, decide_true, Bool.and_true, cond_true]
    by_cases h0 : ix moves (n : Int) = 0
    · simp [h0]
    · simp only [h0, false_or]
      have : (ix moves (n : Int) == 0) = false := by simpa using h0
      simp only [this, cond_false]
      rfl
  rw [step]
  by_cases h01 : ix moves (n : Int) = 0 ∨ ix moves (n : Int) = 1
  · obtain ⟨s', g', q, h, I'⟩ := send_move I hc (by omega) ((n + 1 : Nat) : Int) rfl moves (ix moves (n : Int) == 1)
    refine ⟨s', g', q, ?_, I'⟩
    unfold taskmilllaw_played_j6
    simp only [h01, decide_true, cond_true, hm', hm0, Bool.and_true, pipe_eta, hw]
    rw [send_eq p _ _ _ (by omega)]
    simp only [Option.bind_some, List.length_append, List.length_singleton, hb, decide_true, cond_true]
    have e2 : (sendR p ((n + 1 : Nat) : Int) (n : Int) (ix moves (n : Int) == 1)).2.2 = ⟨0, 0⟩ := by
      unfold sendR; rw [if_neg (by rw [I.begin hc (by omega)]; simp)]; split <;> rfl
    rw [e2]
    exact h
  · have step2 : taskmilllaw_played_j6 moves n s g p.Cap p.Closed p.Items p.Senders p.Getters false = taskmilllaw_played_j5 moves n s g p.Cap p.Closed p.Items p.Senders p.Getters (decide (ix moves n = 2 ∨ ix moves n = 3)) := by
      unfold taskmilllaw_played_j6
      simp only [cond_false]
      by_cases h0 : ix moves (n : Int) = 2
      · simp [h0]
      · simp only [h0, false_or]
        have : (ix moves (n : Int) == 2) = false := by simpa using h0
        simp only [this, cond_false]
        rfl
    simp only [h01, decide_false]
    rw [step2]
    by_cases h23 : ix moves (n : Int) = 2 ∨ ix moves (n : Int) = 3
    · obtain ⟨s', g', q, h, I'⟩ := get_move I hc (by omega) ((n + 1 : Nat) : Int) rfl moves hm h23 (ix moves (n : Int) == 3)
      refine ⟨s', g', q, ?_, I'⟩
      unfold taskmilllaw_played_j5
      simp only [h23, decide_true, cond_true, hm', hm0, Bool.and_true, pipe_eta, hw]
      rw [get_eq p _ _ (by omega)]
      simp only [Option.bind_some, List.length_append, List.length_singleton, hb2, decide_true, cond_true]
      have e2 : (getR p ((n + 1 : Nat) : Int) (ix moves (n : Int) == 3)).2.2 = ⟨0, 0⟩ := by
        unfold getR; rw [if_neg (by rw [I.begin hc (by omega)]; simp)]; split <;> rfl
      rw [e2]
      exact h
    · simp only [h23, decide_false]
      unfold taskmilllaw_played_j5
      simp only [cond_false]
      by_cases h4 : ix moves (n : Int) = 4
      · obtain ⟨q, h, I'⟩ := shut_move I hc (by omega) moves hm h4
        refine ⟨s, g, q, ?_, I'⟩
        have : (ix moves (n : Int) == 4) = true := by simpa using h4
        simp only [this, cond_true, pipe_eta]
        rw [shut_eq p (by omega)]
        have e2 : shutR p = ((downR p).1, (downR p).2, ⟨0, 0⟩) := by simp [shutR, pipeF_of I.ok]
        rw [e2]
        exact h
      · refine ⟨s, g, p, ?_, I.mono⟩
        have : (ix moves (n : Int) == 4) = false := by simpa using h4
        simp only [this, cond_false, taskmilllaw_played_j1, hw]
        rfl
theorem played_eq {cap : Int} (moves : List Int) (h0 : 0 ≤ cap) (hc : cap ≤ 50) (hn : moves.length ≤ 300) : ∃ s g p, taskmilllaw_played cap moves = some (p.Cap, p.Closed, true, s, g, p.Items, p.Senders, p.Getters) ∧ Inv cap moves.length s g p := by
  have := loopO_inv (step := taskmilllaw_played_l2 moves) (fun x => ∃ (n : Nat) (s g : List Int) (p : Pipe), x = ((n : Int), s, g, p.Cap, p.Closed, p.Items, p.Senders, p.Getters) ∧ n ≤ moves.length ∧ Inv cap n s g p) (fun x => moves.length - x.1.toNat) (fun r => ∃ s g p, r = (p.Cap, p.Closed, true, s, g, p.Items, p.Senders, p.Getters) ∧ Inv cap moves.length s g p) ?_ (s0 := (0, [], [], cap, false, [], [], [])) ?_
  · obtain ⟨r, h1, s, g, p, rfl, I⟩ := this
    exact ⟨s, g, p, h1, I⟩
  · rintro x ⟨n, s, g, p, rfl, hnl, I⟩
    by_cases hm : n < moves.length
    · left
      obtain ⟨s', g', q, h, I'⟩ := move_eq I hc moves hn hm
      refine ⟨_, h, ⟨n + 1, s', g', q, rfl, hm, I'⟩, ?_⟩
      simp only [Int.toNat_natCast]
      omega
    · right
      have : n = moves.length := by omega
      subst this
      refine ⟨_, ?_, s, g, p, rfl, I⟩
      unfold taskmilllaw_played_l2
      simp
  · refine ⟨0, [], [], ⟨cap, [], false, [], []⟩, rfl, Nat.zero_le _, ⟨⟨by simp [total], ⟨h0, by simp only; omega⟩, by simpa using h0, by simp [badP], by simp, by simp [tasksOf], by simp⟩, rfl, by simp, by simp, by simp, rfl, by simp, by simp, by simp⟩⟩
theorem has_eq (l : List Int) (x : Int) (h : l.length ≤ 1000000) : taskmillref_Has l x = some (decide (x ∈ l)) := by
  unfold taskmillref_Has
  have := loopO_if (step := taskmillref_Has_l1 l x) (fun i => ((i : Nat) : Int)) (fun i => decide (l[i]? = some x)) (fun _ => some true) (some false) l.length (fun i hi hp => ?_) (fun i hi hp => ?_) (fun _ => ?_)
  · have h0 : ((0 : Nat) : Int) = 0 := rfl
    rw [h0] at this
    rw [this]
    by_cases hx : x ∈ l
    · obtain ⟨i, hi, rfl⟩ := List.getElem_of_mem hx
      cases hf : firstIf (fun k => decide (l[k]? = some l[i])) l.length with
      | some k => simp
      | none => have := firstIf_none.1 hf i hi; simp [hi] at this
    · cases hf : firstIf (fun k => decide (l[k]? = some x)) l.length with
      | some k =>
        obtain ⟨hk, h1, _⟩ := firstIf_some hf
        simp only [decide_eq_true_eq] at h1
        exact absurd (List.mem_of_getElem? h1) hx
      | none => simp [hx]
  · have hp' : ¬ l[i] = x := by simpa [hi] using hp
    have hb : (l[i] == x) = false := by simpa using hp'
    have h1 : ((i : Nat) : Int) < ((l.length : Nat) : Int) := by omega
    have h2 : (0 : Int) ≤ ((i : Nat) : Int) := by omega
    simp only [taskmillref_Has_l1, ix_get hi, h1, h2, hb, decide_true, Bool.and_true, cond_true, cond_false]
    rw [wrap_n1 i (by omega)]
  · have hp' : l[i] = x := by simpa [hi] using hp
    have hb : (l[i] == x) = true := by simpa using hp'
    have h1 : ((i : Nat) : Int) < ((l.length : Nat) : Int) := by omega
    have h2 : (0 : Int) ≤ ((i : Nat) : Int) := by omega
    simp only [taskmillref_Has_l1, ix_get hi, h1, h2, hb, decide_true, Bool.and_true, cond_true]
  · simp [taskmillref_Has_l1]
theorem order (capacity : Int) (moves : List Int) : taskmilllaw_PipeOrder capacity moves = some true := by
  unfold taskmilllaw_PipeOrder
  rw [begun_eq]
  simp only [Option.bind_some, Bool.not_true, cond_false]
  by_cases hc : capacity < 0 ∨ 50 < capacity ∨ 300 < moves.length
  · have : (decide (capacity < 0) || (decide ((50 : Int) < capacity) || decide ((300 : Int) < ((moves.length : Nat) : Int)))) = true := by
      simp only [Bool.or_eq_true, decide_eq_true_eq]; omega
    rw [this]; rfl
  · have : (decide (capacity < 0) || (decide ((50 : Int) < capacity) || decide ((300 : Int) < ((moves.length : Nat) : Int)))) = false := by
      simp only [Bool.or_eq_false_iff, decide_eq_false_iff_not]; omega
    rw [this]
    obtain ⟨s, g, p, h, I⟩ := played_eq moves (cap := capacity) (by omega) (by omega) (by omega)
    have ht := I.tot (by omega) (by omega)
    have hsl := I.sl
    have hs := I.eq
    have hl : s.length = g.length + p.Items.length := by rw [hs]; simp
    rw [h]
    have e1 : ((s.length : Int) != IntKind.i64.wrap ((g.length : Int) + (p.Items.length : Int))) = false := by
      rw [wrap_id (by omega) (by omega)]
      simp; omega
    simp only [Option.bind_some, cond_false, Bool.not_true, e1]
    rw [own_eq g (by omega)]
    have e2 : (g ++ p.Items).length * 8 ≤ 140737488355328 := by simp; omega
    simp only [Option.bind_some, e2, decide_true, cond_true]
    rw [← hs]
    have hpw : s.Pairwise (· < ·) := by have := I.pw; rw [List.pairwise_append] at this; rw [hs]; exact this.1
    rw [List.pairwise_iff_getElem] at hpw
    have := loopO_all (step := taskmilllaw_PipeOrder_l1) (fun i => (((i : Nat) : Int), s, s)) (some true) s.length (fun i hi => ?_) ?_
    · exact this
    · have h1 : ((i : Nat) : Int) < ((s.length : Nat) : Int) := by omega
      have h2 : (0 : Int) ≤ ((i : Nat) : Int) := by omega
      simp only [taskmilllaw_PipeOrder_l1, h1, h2, decide_true, Bool.and_true, Bool.or_true, cond_true]
      have e3 : ((!(decide ((0 : Int) < ((i : Nat) : Int)))) || ((decide ((0 : Int) ≤ (IntKind.i64.wrap (((i : Nat) : Int) - 1)))) && (decide ((IntKind.i64.wrap (((i : Nat) : Int) - 1)) < ((s.length : Nat) : Int))))) = true := by
        by_cases h0 : i = 0
        · subst h0; simp
        · rw [wrap_id (by omega) (by omega)]
          have a1 : (0 : Int) ≤ ((i : Nat) : Int) - 1 := by omega
          have a2 : ((i : Nat) : Int) - 1 < ((s.length : Nat) : Int) := by omega
          simp only [a1, a2, decide_true, Bool.and_true, Bool.or_true]
      have e4 : ((decide ((0 : Int) < ((i : Nat) : Int))) && (decide ((ix s ((i : Nat) : Int)) ≤ (ix s (IntKind.i64.wrap (((i : Nat) : Int) - 1)))))) = false := by
        by_cases h0 : i = 0
        · subst h0; simp
        · rw [wrap_id (by omega) (by omega)]
          have : ((i : Nat) : Int) - 1 = ((i - 1 : Nat) : Int) := by omega
          rw [this, ix_get hi, ix_get (by omega : i - 1 < s.length)]
          have := hpw (i - 1) i (by omega) hi (by omega)
          simp; omega
      simp only [e3, e4, cond_true, cond_false]
      rw [ix_get hi, has_eq s _ (by omega)]
      simp only [List.getElem_mem, decide_true, Option.bind_some, Bool.not_true, cond_false]
      rw [wrap_n1 i (by omega)]
    · simp [taskmilllaw_PipeOrder_l1]
theorem nobody (capacity : Int) (moves : List Int) : taskmilllaw_PipeNobody capacity moves = some true := by
  unfold taskmilllaw_PipeNobody
  rw [begun_eq]
  simp only [Option.bind_some, Bool.not_true, cond_false]
  by_cases hc : capacity < 0 ∨ 50 < capacity ∨ 300 < moves.length
  · have : (decide (capacity < 0) || (decide ((50 : Int) < capacity) || decide ((300 : Int) < ((moves.length : Nat) : Int)))) = true := by
      simp only [Bool.or_eq_true, decide_eq_true_eq]; omega
    rw [this]; rfl
  · have : (decide (capacity < 0) || (decide ((50 : Int) < capacity) || decide ((300 : Int) < ((moves.length : Nat) : Int)))) = false := by
      simp only [Bool.or_eq_false_iff, decide_eq_false_iff_not]; omega
    rw [this]
    obtain ⟨s, g, p, h, I⟩ := played_eq moves (cap := capacity) (by omega) (by omega) (by omega)
    have ht := I.tot (by omega) (by omega)
    unfold total at ht
    rw [h]
    simp only [Option.bind_some, cond_false, Bool.not_true]
    rw [wrap_id (by omega) (by omega)]
    have nb := I.ok.nb
    have it := I.ok.it
    have hcp := I.hc
    unfold badP at nb
    simp only [not_or, not_and, Classical.not_not, Bool.not_eq_true] at nb
    cases hS : p.Senders with
    | nil =>
      cases hG : p.Getters with
      | nil => simp
      | cons x t =>
        have h2 : p.Closed = false ∧ p.Items = [] := nb.2 (by simp [hG])
        simp [h2.1, h2.2]
    | cons x t =>
      have h2 : p.Closed = false ∧ ¬ (p.Items.length : Int) < p.Cap ∧ p.Getters = [] := nb.1 (by simp [hS])
      have : ((p.Items.length : Int) == capacity) = true := by simp; omega
      have e0 : (((x :: t).length : Int) == 0) = false := by simp; omega
      simp only [h2.1, h2.2.2, this, e0, Bool.false_and, cond_false]
      simp
end Go.Proofs.Ytconaimaibephaa
