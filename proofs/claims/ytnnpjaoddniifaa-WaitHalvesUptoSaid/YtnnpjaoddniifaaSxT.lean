/-
  Sx, part T: one operation of a region, and regions whose order is the text's.
-/
import Derived.Test.YtnnpjaoddniifaaSxS
set_option linter.unusedSimpArgs false
set_option linter.unusedVariables false
namespace Go.Sx
set_option linter.unusedVariables false
open Go.RowKit
variable {X : Cx} {hp : Hp} {nx : Nat} {ids : Ids} {w : World}

/-- The slots that an operation looks at. -/
def looks (ops : Array Oper) (o : Oper) : List Tmp := (match o.guard with
  | some jw => ((ops[jw.1]?).bind (·.dst)).toList
  | none => []) ++ namesOf o.op

theorem guardS_local {ops : Array Oper} {o : Oper} {jw : Nat × Bool} (ho : o.guard = some jw) {fr fr' : Fr} (hn : ∀ t ∈ looks ops o, getF fr' t = getF fr t) : guardS ops fr' jw.1 jw.2 = guardS ops fr jw.1 jw.2 := by
  unfold guardS
  cases hd : (ops[jw.1]?).bind (·.dst) with
  | none => rfl
  | some d => simp only; rw [hn d (by unfold looks; rw [ho]; simp [hd])]

theorem den_gd_true {P : Program} {C : Nat → Chunk} {I : Nat → Prop} {s : SV} {x : Value} (h : Den P C ids I w s x) : Den P C ids I w (.gd true s) x := .gd (fun _ => h) (fun he => by simp at he)

theorem quiet_local {g : Bool} {o : Oper} {fr fr' : Fr} {hp' : Hp} {a : Act} (h : HeapC X hp' ids w) (hmn : X.m ≤ nx) (hf' : ∀ d, DenX X hp' ids w (getF fr' d) (a.tmps.getD d undef)) (hn : ∀ t ∈ namesOf o.op, getF fr' t = getF fr t) (hfr0 : getH hp' nx = .unborn)
    {K : SV → Hp → Nat → List Nat → Prop} (hc : quietW g (opS X.P g fr hp nx o.type o.op) nx K) (hg : g = true)
    (hAg : ∀ val upd nx' rds, K val upd nx' rds → ∀ k ∈ rds, getH hp' k = getH hp k) {KK : Act → World → Prop} {Q : Exit → Act → World → Prop}
    (hK : ∀ val rds x w' ids', K (.gd g val) [] nx rds → HeapC X hp' ids' w' → ExtX X hp' ids w hp' ids' w' → DenX X hp' ids' w' val x → KK (a.put o.dst x) w') : o.wp X.P a w KK Q := by
  rcases hc with hc | hc
  · exact absurd (hc.1.symm.trans hg) (by simp)
  cases hop : opS X.P g fr hp nx o.type o.op with
  | bad => rw [hop] at hc; exact hc.elim
  | ok side e =>
    rw [hop] at hc
    simp only at hc
    split at hc
    · rename_i hu
      obtain ⟨hs, hk⟩ := hc
      have hop' := opS_local hop hn (hAg _ _ _ _ hk)
      obtain ⟨x, w', ids', g1, g2, g3, g4⟩ := op_sound (X := X) ⟨h, hfr0, hmn⟩ hf' hg hop' (hs hg)
      rw [hu] at g2 g3 g4
      exact wp_of_soundN g1 (hK _ _ _ _ _ hk g2 g3 g4)
    · exact hc.elim
theorem quiet_K {g : Bool} {r : Res} {K : SV → Hp → Nat → List Nat → Prop} (hc : quietW g r nx K) : ∃ val rds, K (.gd g val) [] nx rds := by
  rcases hc with hc | hc
  · exact ⟨_, _, hc.2⟩
  cases r with
  | bad => exact hc.elim
  | ok side e =>
    simp only at hc
    split at hc
    · exact ⟨_, _, hc.2⟩
    · exact hc.elim

/-- ONE OPERATION, in a state that is as the one that was looked at wherever the operation looks. -/
theorem step_local {dt : Bool} {ops : Array Oper} {i : Nat} {o : Oper} (ho : ops[i]? = some o) {fr fr' : Fr} {hp' : Hp} {a : Act} (h : HeapC X hp' ids w) (hmn : X.m ≤ nx) (hf' : ∀ d, DenX X hp' ids w (getF fr' d) (a.tmps.getD d undef)) (hn : ∀ t ∈ looks ops o, getF fr' t = getF fr t)
    {K : SV → Hp → Nat → List Nat → Prop} (hc : stepW dt X.P ops o fr hp nx K) {KK : Act → World → Prop} {Q : Exit → Act → World → Prop} (hfr0 : getH hp' nx = .unborn)
    (hAg : ∀ val upd nx' rds, K val upd nx' rds → (∀ k, nx ≤ k → k < nx' → getH hp' k = .unborn) ∧ ∀ k ∈ rds, getH hp' k = getH hp k)
    (hK : ∀ val upd nx' rds x w' ids', K val upd nx' rds → UpdOk hp nx upd nx' rds → HeapC X (upd ++ hp') ids' w' → ExtX X hp' ids w (upd ++ hp') ids' w' → DenX X (upd ++ hp') ids' w' val x → KK (a.put o.dst x) w') : wpOp X.P ops Q i KK a w := by
  have hn2 : ∀ t ∈ namesOf o.op, getF fr' t = getF fr t := fun t ht => hn t (List.mem_append_right _ ht)
  have uok : ∀ rds, UpdOk hp nx [] nx rds := fun rds => ⟨Nat.le_refl _, fun p hp => by cases hp⟩
  unfold stepW at hc
  cases hgd : o.guard with
  | none =>
    rw [hgd] at hc
    exact wpOp_of ho (by unfold Region.wanted; rw [hgd]) (core_local rfl h hmn hf' hn2 hc hfr0 hAg hK)
  | some jw =>
    rw [hgd] at hc
    simp only at hc
    cases hgs : guardS ops fr jw.1 jw.2 with
    | none => rw [hgs] at hc; exact hc.elim
    | some g =>
      rw [hgs] at hc
      simp only at hc
      have hwant : Region.wanted o (yielded ops a.tmps) = g := guard_ok hf' (j := jw.1) (want := jw.2) ((guardS_local hgd hn).trans hgs) hgd
      cases hq : quietP X.P o.op with
      | true =>
        rw [hq, cond_true] at hc
        by_cases hg : g = true
        · exact wpOp_of ho (hwant.trans hg) (quiet_local h hmn hf' hn2 hfr0 hc hg (fun _ _ _ _ hk => (hAg _ _ _ _ hk).2) fun val rds x w' ids' hk h1 h2 h3 =>
            hK _ _ _ _ x w' ids' hk (uok _) h1 h2 (.gd (fun _ => h3) (fun he => by rw [he] at hg; cases hg)))
        · have hg' : g = false := by simpa using hg
          obtain ⟨val, rds, hk⟩ := quiet_K hc
          exact wpOp_skip ho (hwant.trans hg') (hK _ _ _ _ _ _ _ hk (uok _) h (Ext.refl _ _ _ _) (.gd (fun he => absurd he hg) (fun _ => rfl)))
      | false =>
        rw [hq, cond_false] at hc
        by_cases hg : g = true
        · exact wpOp_of ho (hwant.trans hg) (core_local hg h hmn hf' hn2 (hc.1 hg) hfr0 hAg hK)
        · have hg' : g = false := by simpa using hg
          exact wpOp_skip ho (hwant.trans hg') (hK _ _ _ _ _ _ _ (hc.2 hg') (uok _) h (Ext.refl _ _ _ _) .v)

/-- The state of a call under way. -/
def StX (X : Cx) (N : Nat) (fr : Fr) (hp : Hp) (nx : Nat) (a : Act) (w : World) : Prop :=
  ∃ ids, HeapF X hp nx ids w ∧ (∀ d, DenX X hp ids w (getF fr d) (a.tmps.getD d undef)) ∧ a.tmps.size = N ∧ a.defers = []

theorem fresh_upd (h : ∀ k, nx ≤ k → getH hp k = .unborn) {upd : Hp} {nx' : Nat} {rds : List Nat} (hu : UpdOk hp nx upd nx' rds) {k : Nat} (hk : nx' ≤ k) : getH (upd ++ hp) k = .unborn := by
  rw [getH_append, if_neg]
  · exact h k (by have := hu.le; omega)
  · rintro ⟨p, hp1, rfl⟩
    rcases hu.keys p hp1 with ⟨_, h2⟩ | ⟨_, h2⟩
    · omega
    · rw [h p.1 (by have := hu.le; omega)] at h2; cases h2

/-- One operation, in the text's order. -/
theorem step_sound {dt : Bool} {N : Nat} {ops : Array Oper} {i : Nat} {o : Oper} (ho : ops[i]? = some o) (hd : ∀ d, o.dst = some d → d < N) {fr : Fr} {a : Act} (h : StX X N fr hp nx a w)
    {K : SV → Hp → Nat → List Nat → Prop} (hc : stepW dt X.P ops o fr hp nx K) {KK : Act → World → Prop} {Q : Exit → Act → World → Prop}
    (hK : ∀ val upd nx' rds a' w', K val upd nx' rds → StX X N (putF o.dst val fr) (upd ++ hp) nx' a' w' → KK a' w') : wpOp X.P ops Q i KK a w := by
  obtain ⟨ids, hH, hF, hN, hD⟩ := h
  refine step_local ho hH.toHeapC hH.m_le hF (fun _ _ => rfl) hc (hH.fresh nx (Nat.le_refl _)) (fun _ _ _ _ _ => ⟨fun k hk _ => hH.fresh k hk, fun _ _ => rfl⟩) fun val upd nx' rds x w' ids' hk hu h1 h2 h3 => ?_
  exact hK _ _ _ _ _ _ hk ⟨ids', ⟨h1, fun k hk => fresh_upd hH.fresh hu hk, Nat.le_trans hH.m_le hu.le⟩, frame_put (frame_ext h2 hF) hN hd h3, by rw [put_size, hN], by rw [put_defers, hD]⟩

/-- Operations, in the text's order. -/
theorem run_sound {N : Nat} {ops : Array Oper} {Q : Exit → Act → World → Prop} {K : Fr → Hp → Nat → Prop} (hQ : ∀ fr hp nx a w, K fr hp nx → StX X N fr hp nx a w → Q .normal a w) : ∀ (l : List Oper) (k : Nat) (fr : Fr) (hp : Hp) (nx : Nat) (a : Act) (w : World),
    (∀ i, l[i]? = ops[k + i]?) → (∀ o ∈ l, ∀ d, o.dst = some d → d < N) → StX X N fr hp nx a w → runOps X.P ops l fr hp nx K → wpOps X.P ops Q (List.range' k l.length) a w
  | [], k, fr, hp, nx, a, w, _, _, hs, hr => hQ _ _ _ _ _ hr hs
  | o :: l, k, fr, hp, nx, a, w, hl, hd, hs, hr => by
    rw [List.length_cons, List.range'_succ, wpOps_cons]
    refine step_sound (by simpa using (hl 0).symm) (hd o (by simp)) hs hr fun val upd nx' rds a' w' hk hs' => ?_
    exact run_sound hQ l (k + 1) _ _ _ a' w' (fun i => by have := hl (i + 1); simpa [Nat.add_assoc, Nat.add_comm 1 i] using this) (fun o' ho' => hd o' (by simp [ho'])) hs' hk

def dstOk (N : Nat) (ops : Array Oper) : Bool := ops.toList.all fun o => match o.dst with
  | some d => decide (d < N)
  | none => true
theorem dstOk_spec {N : Nat} {ops : Array Oper} (h : dstOk N ops = true) : ∀ o ∈ ops.toList, ∀ d, o.dst = some d → d < N := fun o ho d hd => by
  have := List.all_eq_true.1 h o ho
  rw [hd] at this
  simpa using this

theorem region_sound {N id : Nat} {ops : Array Oper} {Q : Exit → Act → World → Prop} {K : Fr → Hp → Nat → Prop} (hd : dstOk N ops = true) (hQ : ∀ fr hp nx a w, K fr hp nx → StX X N fr hp nx a w → Q .normal a w) {fr : Fr} {a : Act} (h : StX X N fr hp nx a w)
    (hr : runOps X.P ops ops.toList fr hp nx K) : (Code.region id ops false).wp X.P Q a w := by
  refine wp_region ?_
  rw [List.range_eq_range', show ops.size = ops.toList.length from by simp]
  exact run_sound hQ ops.toList 0 fr hp nx a w (fun i => by simp) (dstOk_spec hd) h hr
end Go.Sx
