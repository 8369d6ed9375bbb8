/-
  G, part E: a state inside a region, written out anew: what is not looked at any more is dropped.
-/
import Derived.Test.YtnnpjaoddniifaaGD
set_option linter.unusedSimpArgs false
set_option linter.unusedVariables false
namespace Go.Sx
open Go.RowKit
set_option linter.unusedVariables false
variable {P : Program} {m N : Nat} {Q : SPost} {fr : Fr} {hp : Hp} {nx : Nat} {ops : Array Oper}

theorem SemW.local {o : Oper} {fr2 : Fr} {hp2 : Hp} {K K' : SV → Hp → Nat → List Nat → Prop} (h : SemW P o fr hp nx K) (hf : ∀ t ∈ namesOf o.op, getF fr2 t = getF fr t) (hh : getH hp2 = getH hp) (hK : ∀ v u n r, K v u n r → K' v u n r) : SemW P o fr2 hp2 nx K' :=
  fun X ids w fr' hp' a hP h1 h2 h3 h4 h5 h6 KK Q h7 => h X ids w fr' hp' a hP h1 h2 h3 (fun t ht => by rw [h4 t ht, hf t ht]) h5 (fun v u n r hk => by
    have := h6 v u n r (hK v u n r hk); rw [hh] at this; exact this) KK Q (fun v u n r x w' ids' hk hu => h7 v u n r x w' ids' (hK v u n r hk) ⟨hu.le, by rw [hh]; exact hu.keys⟩)
theorem SemX.local {dt : Bool} {o : Oper} {fr2 : Fr} {hp2 : Hp} {K K' : SV → Hp → Nat → List Nat → Prop} (h : SemX dt P o fr hp nx K) (hf : ∀ t ∈ namesOf o.op, getF fr2 t = getF fr t) (hh : getH hp2 = getH hp) (hK : ∀ v u n r, K v u n r → K' v u n r) : SemX dt P o fr2 hp2 nx K' := by
  cases dt with
  | false => exact SemW.local (K := K) h hf hh hK
  | true =>
    obtain ⟨e, h1, h2, h3⟩ := h
    exact ⟨e, h1, hK _ _ _ _ h2, h3.local hf hh fun _ _ _ _ h => h⟩
theorem stepW_weak {fr' : Fr} {hp' : Hp} {dt : Bool} {o : Oper} (hn : ∀ t ∈ looks ops o, getF fr' t = getF fr t) (hh : getH hp' = getH hp) {K K' : SV → Hp → Nat → List Nat → Prop} (hK : ∀ v u n r, K v u n r → K' v u n r) (hs : stepW dt P ops o fr hp nx K) : stepW dt P ops o fr' hp' nx K' := by
  have hnm : ∀ t ∈ namesOf o.op, getF fr' t = getF fr t := fun t ht => hn t (by unfold looks; exact List.mem_append_right _ ht)
  have core : ∀ {g : Bool}, coreW dt P g o fr hp nx K → coreW dt P g o fr' hp' nx K' := by
    intro g hc
    unfold coreW at hc ⊢
    rw [callOf_local hnm]
    cases hcl : callOf g fr o.op with
    | some c =>
      rw [hcl] at hc
      obtain ⟨args', hin, m, Post, σ, bor, h1, h2, h3, h4, h5, h6, h7, h8, h9, h10⟩ := hc
      exact ⟨args', hin, m, Post, σ, bor, h1, by rw [hh]; exact h2, h3, h4, h5, h6, by rw [hh]; exact h7, h8, h9, fun res hp' nx' hp => ⟨(h10 res hp' nx' hp).1, (h10 res hp' nx' hp).2.1, hK _ _ _ _ (h10 res hp' nx' hp).2.2⟩⟩
    | none =>
      rw [hcl] at hc
      simp only at hc ⊢
      rcases hc with hc | hc
      · exact .inl ⟨hc.1, hc.2.local hnm hh hK⟩
      refine .inr ?_
      cases hop : opS P g fr hp nx o.type o.op with
      | bad => rw [hop] at hc; exact hc.elim
      | ok s e =>
        rw [hop] at hc
        rw [opS_local hop hnm (fun k _ => by rw [hh])]
        exact ⟨hc.1, hK _ _ _ _ hc.2⟩
  unfold stepW at hs ⊢
  cases hg : o.guard with
  | none => rw [hg] at hs; exact core hs
  | some jw =>
    rw [hg] at hs
    simp only at hs ⊢
    rw [guardS_local hg hn]
    cases hgs : guardS ops fr jw.1 jw.2 with
    | none => rw [hgs] at hs; exact hs
    | some g =>
      rw [hgs] at hs
      simp only at hs ⊢
      cases hq : quietP P o.op with
      | true =>
        rw [hq] at hs
        simp only [cond_true] at hs ⊢
        rcases hs with hs | hs
        · exact .inl ⟨hs.1, hK _ _ _ _ hs.2⟩
        · refine .inr ?_
          cases hop : opS P g fr hp nx o.type o.op with
          | bad => rw [hop] at hs; exact hs.elim
          | ok s e =>
            rw [hop] at hs
            rw [opS_local hop hnm (fun k _ => by rw [hh])]
            simp only at hs ⊢
            cases hu : e.upd with
            | nil => rw [hu] at hs; exact ⟨hs.1, hK _ _ _ _ hs.2⟩
            | cons a b => rw [hu] at hs; exact hs
      | false =>
        rw [hq] at hs
        exact ⟨fun hg => core (hs.1 hg), fun hg => hK _ _ _ _ (hs.2 hg)⟩
/-- What is told of the slots is so, or is told no more, of a slot that nobody looks at. -/
def Less (ops : Array Oper) (l : List Oper) (fr' fr : Fr) : Prop := ∀ d, getF fr' d = getF fr d ∨ (getF fr' d = .any ∧ ∀ o ∈ l, d ∉ looks ops o)
theorem Less.names {l : List Oper} {o : Oper} {fr' : Fr} (h : Less ops (o :: l) fr' fr) : ∀ t ∈ looks ops o, getF fr t = getF fr' t := fun t ht => by
  rcases h t with h | h
  · exact h.symm
  · exact absurd ht (h.2 o (List.mem_cons_self ..))
theorem Less.put {l : List Oper} {o : Oper} {fr' : Fr} (h : Less ops (o :: l) fr' fr) (d : Option Tmp) (v : SV) : Less ops l (putF d v fr') (putF d v fr) := by
  intro t
  cases d with
  | none => exact (h t).imp id fun h => ⟨h.1, fun o' ho => h.2 o' (List.mem_cons_of_mem _ ho)⟩
  | some d =>
    simp only [putF, getF]
    cases hd : (d == t) with
    | true => exact .inl rfl
    | false => exact (h t).imp id fun h => ⟨h.1, fun o' ho => h.2 o' (List.mem_cons_of_mem _ ho)⟩
theorem eqW_less {K : Fr → Hp → Nat → Prop} {fr' : Fr} {hp' : Hp} (h : Less ops [] fr' fr) (hh : getH hp = getH hp') (hk : EqW K fr' hp' nx) : EqW K fr hp nx := by
  obtain ⟨f, q, ⟨h1, h2⟩, hk⟩ := hk
  refine ⟨f, q, ⟨fun d => ?_, fun k => by rw [h2 k, hh]⟩, hk⟩
  rcases h1 d with h1 | h1
  · rcases h d with h | h
    · exact .inl (h1.trans h)
    · exact .inr (h1.trans h.1)
  · exact .inr h1
theorem app_getH {hp hp' : Hp} (h : getH hp = getH hp') (u : Hp) : getH (u ++ hp) = getH (u ++ hp') := funext fun k => getH_app fun _ => by rw [h]
theorem runOps_less {K : Fr → Hp → Nat → Prop} : ∀ (l : List Oper) (fr' fr : Fr) (hp' hp : Hp) (nx : Nat), Less ops l fr' fr → getH hp = getH hp' → runOps P ops l fr' hp' nx (EqW K) → runOps P ops l fr hp nx (EqW K)
  | [], fr', fr, hp', hp, nx, h, hh, hr => eqW_less h hh hr
  | o :: l, fr', fr, hp', hp, nx, h, hh, hr => stepW_weak h.names hh (fun v u n r hk => runOps_less l _ _ _ _ _ (h.put o.dst v) (app_getH hh u) hk) hr
theorem runE_less {K : Fr → Hp → Nat → Prop} : ∀ (l : List Oper) (fr' fr : Fr) (hp' hp : Hp) (nx : Nat) (acc : List Nms), Less ops l fr' fr → getH hp = getH hp' → runE P ops l fr' hp' nx acc (EqW K) → runE P ops l fr hp nx acc (EqW K)
  | [], fr', fr, hp', hp, nx, acc, h, hh, hr => ⟨hr.1, eqW_less h hh hr.2⟩
  | o :: l, fr', fr, hp', hp, nx, acc, h, hh, hr => stepW_weak h.names hh (fun v u n r hk => runE_less l _ _ _ _ _ _ (h.put o.dst v) (app_getH hh u) hk) hr
def isAny : SV → Bool
  | .any => true
  | _ => false
def coverF (ops : Array Oper) (l : List Oper) (fr fr' : Fr) : Bool := l.all fun o => (looks ops o).all fun t => fr'.any (fun p => p.1 == t) || isAny (getF fr t)
theorem keepF_at (fr : Fr) (d : Nat) : ∀ ks : Fr, (ks.any fun p => p.1 == d) = true → getF (keepF fr ks) d = getF fr d
  | [], h => by simp at h
  | p :: r, h => by
    simp only [keepF, List.map_cons, getF]
    by_cases hp : p.1 = d
    · subst hp; simp
    · have hb : (p.1 == d) = false := by simpa using hp
      rw [hb, cond_false]
      refine keepF_at fr d r ?_
      simp only [List.any_cons, hb, Bool.false_or] at h
      exact h
/-- The state, written out. -/
theorem rn {d : Bool} {l : List Oper} {acc : List Nms} {K : Fr → Hp → Nat → Prop} (i : Nat) (fr' : Fr) (hp' : Hp) (nx' : Nat) (h : (l, keepF fr fr', coverF ops l fr fr', keepH hp hp', coverH hp hp', nx) = (ops.toList.drop i, fr', true, hp', true, nx'))
    (k : RunAt P d ops (ops.toList.drop i) fr' hp' nx' acc K) : RunAt P d ops l fr hp nx acc K := by
  simp only [Prod.mk.injEq] at h
  obtain ⟨h1, h2, h3, h4, h5, h6⟩ := h
  rw [← h1] at k
  subst h6
  have hh : getH hp = getH hp' := funext fun k => ((keep_eq (fr := []) (fr' := []) rfl h4 h5).2 k).symm
  have hl : Less ops l fr' fr := fun t => by
    by_cases hm : (fr'.any fun p => p.1 == t) = true
    · left
      have := keepF_at fr t fr' hm
      rw [h2] at this; exact this
    · rcases keepF_get fr t fr' with hk | hk
      · left; rw [h2] at hk; exact hk
      · rw [h2] at hk
        by_cases hl : ∃ o ∈ l, t ∈ looks ops o
        · obtain ⟨o, ho, ht⟩ := hl
          left
          have := List.all_eq_true.1 (List.all_eq_true.1 h3 o ho) t ht
          have hm' : (fr'.any fun p => p.1 == t) = false := Bool.eq_false_iff.2 hm
          rw [hm', Bool.false_or] at this
          rw [hk]
          cases hg : getF fr t <;> rw [hg] at this <;> first | rfl | cases this
        · exact .inr ⟨hk, fun o ho ht => hl ⟨o, ho, ht⟩⟩
  cases d with
  | false => exact runOps_less l _ _ _ _ _ hl hh k
  | true => exact runE_less l _ _ _ _ _ _ hl hh k
@[push_cast] theorem ren_mi (τ : Nat → Nat) (m : List (Int × Int)) : (mi m).map (fun p => (p.1, renS τ p.2)) = mi m := by
  induction m with
  | nil => rfl
  | cons p r ih => simp only [mi, List.map_cons] at ih ⊢; rw [ih]; rfl
end Go.Sx
