/-
  Sx, part W: regions that draw their order.
-/
import Derived.Test.YtnnpjaoddniifaaSxV
import Derived.StillTail
set_option linter.unusedSimpArgs false
set_option linter.unusedVariables false
namespace Go.Sx
set_option linter.unusedVariables false
open Go.RowKit
variable {X : Cx} {hp : Hp} {nx : Nat} {ids : Ids} {w : World}

/-- What an operation of such a region does; 'nx' is the first name that is its own. -/
structure It where
  val : SV
  upd : Hp
  rds : List Nat
  nx : Nat
  nx' : Nat

/-- The names in it. -/
structure Nms where
  keys : List Nat
  rds : List Nat
  nx : Nat
  nx' : Nat
def It.nms (t : It) : Nms := ⟨t.upd.map (·.1), t.rds, t.nx, t.nx'⟩

def runD (P : Program) (ops : Array Oper) : List Oper → Fr → Hp → Nat → List Nms → (List Nms → Fr → Hp → Nat → Prop) → Prop
  | [], fr, hp, nx, acc, K => K acc fr hp nx
  | o :: rest, fr, hp, nx, acc, K => stepW true P ops o fr hp nx fun val upd nx' rds => runD P ops rest (putF o.dst val fr) (upd ++ hp) (nx' + 1) (acc ++ [⟨upd.map (·.1), rds, nx, nx'⟩]) K

/-- May these two come in either order? -/
def apartN (ops : Array Oper) (o1 : Oper) (n1 : Nms) (o2 : Oper) (n2 : Nms) : Bool :=
  (match o1.dst with
   | some d => !(looks ops o2).contains d && o2.dst != some d
   | none => true) &&
  (match o2.dst with
   | some d => !(looks ops o1).contains d
   | none => true) &&
  n1.keys.all (fun k => !n2.keys.contains k && !n2.rds.contains k) &&
  n2.keys.all (fun k => !n1.rds.contains k && !(Nat.ble n1.nx k && Nat.ble k n1.nx')) &&
  true
/-- What comes ahead in the text writes nothing that is the later one's own. -/
def ownN (n1 n2 : Nms) : Bool := n1.keys.all fun k => !(Nat.ble n2.nx k && Nat.ble k n2.nx')

/-- Who comes ahead of whom: bits. -/
def aheadOf (o : Oper) (A : List Nat) : Nat := o.after.toList.foldl (fun n e => if Region.binds .any e then n ||| (1 <<< e.on) ||| A.getD e.on 0 else n) 0
def aheads (l : List Oper) : List Nat := l.foldl (fun A o => A ++ [aheadOf o A]) []
def aheadOk (ops : Array Oper) (A : List Nat) : Bool := (List.range ops.size).all fun j => match ops[j]? with
  | some o => o.after.toList.all (fun e => !Region.binds .any e || Nat.blt e.on j) && (List.range ops.size).all fun i => !(A.getD j 0).testBit i || o.after.toList.any fun e => Region.binds .any e && (e.on == i || (A.getD e.on 0).testBit i)
  | none => true
def pairOk (ops : Array Oper) (ns : List Nms) (A : List Nat) (i j : Nat) : Bool :=
  match ops[i]?, ns[i]?, ops[j]?, ns[j]? with
  | some o1, some n1, some o2, some n2 => ((A.getD j 0).testBit i || apartN ops o1 n1 o2 n2) && ownN n1 n2
  | _, _, _, _ => false
def orderOk (ops : Array Oper) (ns : List Nms) (A : List Nat) : Bool := aheadOk ops A && (List.range ops.size).all fun j => (List.range j).all fun i => pairOk ops ns A i j

/-- What is to be shown for a drawn region. -/
def DrawW (P : Program) (id : Nat) (ops : Array Oper) (K : Fr → Hp → Nat → Prop) (fr : Fr) (hp : Hp) (nx : Nat) : Prop :=
  runD P ops ops.toList fr hp nx [] fun ns fr' hp' nx' => Need (P.follows .mixedOrders = true ∧ orderOk ops ns (aheads ops.toList) = true) (K fr' hp' nx')

/-! ### What came of some of the operations -/
abbrev Zs := List (Oper × It)
def frSel (sel : Nat → Bool) : Nat → Zs → Fr → Fr
  | _, [], fr => fr
  | i, z :: r, fr => frSel sel (i + 1) r (bif sel i then putF z.1.dst z.2.val fr else fr)
def hpSel (sel : Nat → Bool) : Nat → Zs → Hp → Hp
  | _, [], hp => hp
  | i, z :: r, hp => hpSel sel (i + 1) r (bif sel i then z.2.upd ++ hp else hp)

theorem getF_put {dst : Option Tmp} {x : SV} {fr fr' : Fr} {d : Nat} (h : dst ≠ some d → getF fr d = getF fr' d) : getF (putF dst x fr) d = getF (putF dst x fr') d := by
  cases dst with
  | none => exact h (by simp)
  | some t =>
    simp only [putF, getF]
    by_cases ht : t = d
    · subst ht; simp
    · rw [show (t == d) = false from by simpa using ht, cond_false, cond_false]; exact h (by simpa using ht)
theorem getF_put_ne {dst : Option Tmp} {x : SV} {fr : Fr} {d : Nat} (h : dst ≠ some d) : getF (putF dst x fr) d = getF fr d := by
  cases dst with
  | none => rfl
  | some t =>
    simp only [putF, getF]
    rw [show (t == d) = false from by simpa using h, cond_false]
theorem getH_app_ne {u hp : Hp} {k : Nat} (h : k ∉ u.map (·.1)) : getH (u ++ hp) k = getH hp k := by
  rw [getH_append, if_neg]
  rintro ⟨p, hp, rfl⟩
  exact h (List.mem_map.2 ⟨p, hp, rfl⟩)
theorem getH_app {u hp hp' : Hp} {k : Nat} (h : k ∉ u.map (·.1) → getH hp k = getH hp' k) : getH (u ++ hp) k = getH (u ++ hp') k := by
  rw [getH_append, getH_append]
  split
  · rfl
  · rename_i hn
    exact h fun hm => hn (by obtain ⟨p, hp, rfl⟩ := List.mem_map.1 hm; exact ⟨p, hp, rfl⟩)

theorem frSel_agree {s1 s2 : Nat → Bool} {d : Nat} : ∀ (z : Zs) (k : Nat) (fr1 fr2 : Fr), (∀ i q, z[i]? = some q → q.1.dst = some d → s1 (k + i) = s2 (k + i)) → getF fr1 d = getF fr2 d → getF (frSel s1 k z fr1) d = getF (frSel s2 k z fr2) d
  | [], k, fr1, fr2, _, h => h
  | q :: r, k, fr1, fr2, hs, h => by
    refine frSel_agree r (k + 1) _ _ (fun i p hi hp => by have := hs (i + 1) p (by simpa using hi) hp; rwa [show k + (i + 1) = k + 1 + i from by omega] at this) ?_
    by_cases hd : q.1.dst = some d
    · have := hs 0 q rfl hd
      rw [Nat.add_zero] at this
      rw [this]
      cases s2 k with
      | true => exact getF_put fun _ => h
      | false => exact h
    · have e : ∀ (b : Bool) (fr : Fr), getF (bif b then putF q.1.dst q.2.val fr else fr) d = getF fr d := fun b fr => by
        cases b with
        | true => exact getF_put_ne hd
        | false => rfl
      rw [e, e]; exact h
theorem hpSel_agree {s1 s2 : Nat → Bool} {d : Nat} : ∀ (z : Zs) (k : Nat) (h1 h2 : Hp), (∀ i q, z[i]? = some q → d ∈ q.2.upd.map (·.1) → s1 (k + i) = s2 (k + i)) → getH h1 d = getH h2 d → getH (hpSel s1 k z h1) d = getH (hpSel s2 k z h2) d
  | [], k, h1, h2, _, h => h
  | q :: r, k, h1, h2, hs, h => by
    refine hpSel_agree r (k + 1) _ _ (fun i p hi hp => by have := hs (i + 1) p (by simpa using hi) hp; rwa [show k + (i + 1) = k + 1 + i from by omega] at this) ?_
    by_cases hd : d ∈ q.2.upd.map (·.1)
    · have := hs 0 q rfl hd
      rw [Nat.add_zero] at this
      rw [this]
      cases s2 k with
      | true => exact getH_app fun _ => h
      | false => exact h
    · have e : ∀ (b : Bool) (hp : Hp), getH (bif b then q.2.upd ++ hp else hp) d = getH hp d := fun b hp => by
        cases b with
        | true => exact getH_app_ne hd
        | false => rfl
      rw [e, e]; exact h

/-- The one that comes last may be put last. -/
theorem frSel_put {s1 s2 : Nat → Bool} {d : Nat} : ∀ (z : Zs) (k : Nat) (fr1 fr2 : Fr) (i : Nat) (q : Oper × It), z[i]? = some q → s1 (k + i) = false → s2 (k + i) = true → (∀ j, j ≠ k + i → s1 j = s2 j) →
    (q.1.dst = some d → ∀ j p, i < j → z[j]? = some p → s1 (k + j) = true → p.1.dst ≠ some d) → getF fr1 d = getF fr2 d → getF (putF q.1.dst q.2.val (frSel s1 k z fr1)) d = getF (frSel s2 k z fr2) d
  | [], k, fr1, fr2, i, q, hi, _, _, _, _, _ => by simp at hi
  | p :: r, k, fr1, fr2, i, q, hi, h1, h2, hs, hd, h => by
    cases i with
    | zero =>
      simp only [List.getElem?_cons_zero, Option.some.injEq] at hi
      subst hi
      simp only [frSel, Nat.add_zero] at h1 h2 ⊢
      rw [h1, h2, cond_false, cond_true]
      by_cases hpd : p.1.dst = some d
      · have e : getF (putF p.1.dst p.2.val (frSel s1 (k + 1) r fr1)) d = getF (putF p.1.dst p.2.val fr2) d := by rw [hpd]; simp [putF, getF]
        rw [e]
        symm
        have hno : ∀ (r : Zs) (m : Nat) (fr : Fr), (∀ j q, r[j]? = some q → s2 (m + j) = true → q.1.dst ≠ some d) → getF (frSel s2 m r fr) d = getF fr d := by
          intro r
          induction r with
          | nil => exact fun _ _ _ => rfl
          | cons q r ih =>
            intro m fr hj
            simp only [frSel]
            rw [ih (m + 1) _ fun j q' hq' hs' => hj (j + 1) q' (by simpa using hq') (by rw [show m + (j + 1) = m + 1 + j from by omega]; exact hs')]
            cases hsm : s2 m with
            | true => exact getF_put_ne (hj 0 q rfl (by rw [Nat.add_zero]; exact hsm))
            | false => rfl
        exact hno r (k + 1) _ fun j q hj hsj => hd hpd (j + 1) q (by omega) (by simpa using hj) (by rw [hs _ (by omega)]; rw [show k + (j + 1) = k + 1 + j from by omega]; exact hsj)
      · rw [getF_put_ne hpd]
        exact frSel_agree r (k + 1) _ _ (fun j q hj _ => hs _ (by omega)) (h.trans (getF_put_ne hpd).symm)
    | succ i =>
      simp only [frSel]
      rw [show s1 k = s2 k from hs k (by omega)]
      refine frSel_put r (k + 1) _ _ i q (by simpa using hi) (by rw [show k + 1 + i = k + (i + 1) from by omega]; exact h1) (by rw [show k + 1 + i = k + (i + 1) from by omega]; exact h2) (fun j hj => hs j (by omega)) (fun hq j p' hij hj hsj => hd hq (j + 1) p' (by omega) (by simpa using hj) (by rw [show k + (j + 1) = k + 1 + j from by omega]; exact hsj)) ?_
      cases s2 k with
      | true => exact getF_put fun _ => h
      | false => exact h

theorem hpSel_put {s1 s2 : Nat → Bool} {d : Nat} : ∀ (z : Zs) (k : Nat) (h1 h2 : Hp) (i : Nat) (q : Oper × It), z[i]? = some q → s1 (k + i) = false → s2 (k + i) = true → (∀ j, j ≠ k + i → s1 j = s2 j) →
    (d ∈ q.2.upd.map (·.1) → ∀ j p, i < j → z[j]? = some p → s1 (k + j) = true → d ∉ p.2.upd.map (·.1)) → getH h1 d = getH h2 d → getH (q.2.upd ++ hpSel s1 k z h1) d = getH (hpSel s2 k z h2) d
  | [], k, fr1, fr2, i, q, hi, _, _, _, _, _ => by simp at hi
  | p :: r, k, fr1, fr2, i, q, hi, h1, h2, hs, hd, h => by
    cases i with
    | zero =>
      simp only [List.getElem?_cons_zero, Option.some.injEq] at hi
      subst hi
      simp only [hpSel, Nat.add_zero] at h1 h2 ⊢
      rw [h1, h2, cond_false, cond_true]
      by_cases hpd : d ∈ p.2.upd.map (·.1)
      · have e : getH (p.2.upd ++ hpSel s1 (k + 1) r fr1) d = getH (p.2.upd ++ fr2) d := getH_app fun hn => absurd hpd hn
        rw [e]
        symm
        have hno : ∀ (r : Zs) (m : Nat) (fr : Hp), (∀ j q, r[j]? = some q → s2 (m + j) = true → d ∉ q.2.upd.map (·.1)) → getH (hpSel s2 m r fr) d = getH fr d := by
          intro r
          induction r with
          | nil => exact fun _ _ _ => rfl
          | cons q r ih =>
            intro m fr hj
            simp only [hpSel]
            rw [ih (m + 1) _ fun j q' hq' hs' => hj (j + 1) q' (by simpa using hq') (by rw [show m + (j + 1) = m + 1 + j from by omega]; exact hs')]
            cases hsm : s2 m with
            | true => exact getH_app_ne (hj 0 q rfl (by rw [Nat.add_zero]; exact hsm))
            | false => rfl
        exact hno r (k + 1) _ fun j q hj hsj => hd hpd (j + 1) q (by omega) (by simpa using hj) (by rw [hs _ (by omega)]; rw [show k + (j + 1) = k + 1 + j from by omega]; exact hsj)
      · rw [getH_app_ne hpd]
        exact hpSel_agree r (k + 1) _ _ (fun j q hj _ => hs _ (by omega)) (h.trans (getH_app_ne hpd).symm)
    | succ i =>
      simp only [hpSel]
      rw [show s1 k = s2 k from hs k (by omega)]
      refine hpSel_put r (k + 1) _ _ i q (by simpa using hi) (by rw [show k + 1 + i = k + (i + 1) from by omega]; exact h1) (by rw [show k + 1 + i = k + (i + 1) from by omega]; exact h2) (fun j hj => hs j (by omega)) (fun hq j p' hij hj hsj => hd hq (j + 1) p' (by omega) (by simpa using hj) (by rw [show k + (j + 1) = k + 1 + j from by omega]; exact hsj)) ?_
      cases s2 k with
      | true => exact getH_app fun _ => h
      | false => exact h

/-! ### What came of all of them, one behind the other -/
def EqIt (t : It) (v : SV) (u : Hp) (n : Nat) (r : List Nat) : Prop := v = t.val ∧ u = t.upd ∧ n = t.nx' ∧ r = t.rds
def Chain (P : Program) (ops : Array Oper) : Zs → Fr → Hp → Nat → Prop
  | [], _, _, _ => True
  | q :: r, fr, hp, nx => q.2.nx = nx ∧ nx ≤ q.2.nx' ∧ stepW true P ops q.1 fr hp nx (EqIt q.2) ∧ Chain P ops r (putF q.1.dst q.2.val fr) (q.2.upd ++ hp) (q.2.nx' + 1)

theorem core_det {P : Program} {g : Bool} {o : Oper} {fr : Fr} {K : SV → Hp → Nat → List Nat → Prop} (h : coreW true P g o fr hp nx K) : ∃ t : It, t.nx = nx ∧ nx ≤ t.nx' ∧ K t.val t.upd t.nx' t.rds ∧ coreW true P g o fr hp nx (EqIt t) := by
  unfold coreW at h ⊢
  split at h
  · rename_i c hc
    obtain ⟨args', hin, m, Post, σ, bor, h1, h2, h3, h4, h5, h6, h7, ⟨r0, p0, n0, h8⟩, hdet, h9⟩ := h
    obtain ⟨g1, g2, g3⟩ := h9 _ _ _ h8
    refine ⟨⟨_, _, _, nx, _⟩, rfl, Nat.le_add_right _ _, g3, ?_⟩
    refine ⟨args', hin, m, Post, σ, bor, h1, h2, h3, h4, h5, h6, h7, ⟨r0, p0, n0, h8⟩, hdet, fun res hp' nx' hp1 => ?_⟩
    obtain ⟨rfl, rfl, rfl⟩ := hdet rfl _ _ _ _ _ _ h8 hp1
    exact ⟨g1, g2, rfl, rfl, rfl, rfl⟩
  · rcases h with h | h
    · obtain ⟨hg, e, h1, h2, h3⟩ := h
      exact ⟨⟨e.val, e.upd, e.rds, nx, e.nx⟩, rfl, h1, h2, .inl ⟨hg, e, h1, ⟨rfl, rfl, rfl, rfl⟩, h3⟩⟩
    cases hop : opS P g fr hp nx o.type o.op with
    | bad => rw [hop] at h; exact h.elim
    | ok side e =>
      rw [hop] at h
      obtain ⟨hs, hk⟩ := h
      exact ⟨⟨e.val, e.upd, e.rds, nx, e.nx⟩, rfl, (opS_keys hop).1, hk, .inr ⟨hs, rfl, rfl, rfl, rfl⟩⟩

theorem step_det {P : Program} {ops : Array Oper} {o : Oper} {fr : Fr} {K : SV → Hp → Nat → List Nat → Prop} (h : stepW true P ops o fr hp nx K) : ∃ t : It, t.nx = nx ∧ nx ≤ t.nx' ∧ K t.val t.upd t.nx' t.rds ∧ stepW true P ops o fr hp nx (EqIt t) := by
  unfold stepW at h ⊢
  cases hgd : o.guard with
  | none => rw [hgd] at h; exact core_det h
  | some jw =>
    rw [hgd] at h
    simp only at h ⊢
    cases hgs : guardS ops fr jw.1 jw.2 with
    | none => rw [hgs] at h; exact h.elim
    | some g =>
      rw [hgs] at h
      simp only at h ⊢
      cases hq : quietP P o.op with
      | true =>
        rw [hq, cond_true] at h
        simp only [cond_true]
        rcases h with h | h
        · exact ⟨⟨_, _, _, nx, _⟩, rfl, Nat.le_refl _, h.2, .inl ⟨h.1, rfl, rfl, rfl, rfl⟩⟩
        cases hop : opS P g fr hp nx o.type o.op with
        | bad => rw [hop] at h; exact h.elim
        | ok side e =>
          rw [hop] at h
          unfold quietW
          simp only at h ⊢
          cases hu : e.upd with
          | nil => rw [hu] at h; exact ⟨⟨_, _, _, nx, _⟩, rfl, Nat.le_refl _, h.2, .inr ⟨h.1, rfl, rfl, rfl, rfl⟩⟩
          | cons a b => rw [hu] at h; exact h.elim
      | false =>
        rw [hq, cond_false] at h
        simp only [cond_false]
        cases g with
        | true =>
          obtain ⟨t, h1, h2, h3, h4⟩ := core_det (h.1 rfl)
          exact ⟨t, h1, h2, h3, (fun _ => h4), (fun he => by cases he)⟩
        | false => exact ⟨⟨_, _, _, nx, _⟩, rfl, Nat.le_refl _, h.2 rfl, (fun he => by cases he), fun _ => ⟨rfl, rfl, rfl, rfl⟩⟩

def lastNx : Zs → Nat → Nat
  | [], nx => nx
  | q :: r, nx => lastNx r (q.2.nx' + 1)

theorem runD_chain {P : Program} {ops : Array Oper} {K : List Nms → Fr → Hp → Nat → Prop} : ∀ (l : List Oper) (fr : Fr) (hp : Hp) (nx : Nat) (acc : List Nms) (k : Nat), runD P ops l fr hp nx acc K →
    ∃ z : Zs, z.map (·.1) = l ∧ Chain P ops z fr hp nx ∧ K (acc ++ z.map (·.2.nms)) (frSel (fun _ => true) k z fr) (hpSel (fun _ => true) k z hp) (lastNx z nx)
  | [], fr, hp, nx, acc, k, h => ⟨[], rfl, trivial, by simpa [runD, frSel, hpSel, lastNx] using h⟩
  | o :: r, fr, hp, nx, acc, k, h => by
    obtain ⟨t, h1, h2, h3, h4⟩ := step_det h
    obtain ⟨z, g1, g2, g3⟩ := runD_chain r _ _ _ _ (k + 1) h3
    refine ⟨(o, t) :: z, by simp [g1], ⟨h1, h2, h4, g2⟩, ?_⟩
    have e : acc ++ List.map (fun x => x.2.nms) ((o, t) :: z) = acc ++ [(⟨t.upd.map (·.1), t.rds, nx, t.nx'⟩ : Nms)] ++ z.map (·.2.nms) := by simp [It.nms, h1]
    rw [e]
    exact g3

theorem frSel_none {s : Nat → Bool} : ∀ (z : Zs) (k : Nat) (fr : Fr), (∀ j, k ≤ j → s j = false) → frSel s k z fr = fr
  | [], k, fr, _ => rfl
  | q :: r, k, fr, h => by simp only [frSel, h k (Nat.le_refl _), cond_false]; exact frSel_none r (k + 1) fr fun j hj => h j (by omega)
theorem hpSel_none {s : Nat → Bool} : ∀ (z : Zs) (k : Nat) (hp : Hp), (∀ j, k ≤ j → s j = false) → hpSel s k z hp = hp
  | [], k, hp, _ => rfl
  | q :: r, k, hp, h => by simp only [hpSel, h k (Nat.le_refl _), cond_false]; exact hpSel_none r (k + 1) hp fun j hj => h j (by omega)

theorem chain_le {P : Program} {ops : Array Oper} : ∀ (z : Zs) (fr : Fr) (hp : Hp) (nx : Nat), Chain P ops z fr hp nx → nx ≤ lastNx z nx
  | [], _, _, _, _ => Nat.le_refl _
  | q :: r, fr, hp, nx, h => by
    have := chain_le r _ _ _ h.2.2.2
    have := h.2.1
    simp only [lastNx]; omega
theorem chain_at {P : Program} {ops : Array Oper} : ∀ (z : Zs) (fr : Fr) (hp : Hp) (nx k i : Nat) (q : Oper × It), Chain P ops z fr hp nx → z[i]? = some q →
    nx ≤ q.2.nx ∧ q.2.nx ≤ q.2.nx' ∧ q.2.nx' < lastNx z nx ∧ stepW true P ops q.1 (frSel (fun j => decide (j < k + i)) k z fr) (hpSel (fun j => decide (j < k + i)) k z hp) q.2.nx (EqIt q.2)
  | [], _, _, _, _, i, q, _, hi => by simp at hi
  | p :: r, fr, hp, nx, k, i, q, h, hi => by
    obtain ⟨h1, h2, h3, h4⟩ := h
    cases i with
    | zero =>
      simp only [List.getElem?_cons_zero, Option.some.injEq] at hi
      subst hi
      refine ⟨by omega, by omega, ?_, ?_⟩
      · have := chain_le r _ _ _ h4
        simp only [lastNx]; omega
      · rw [frSel_none _ _ _ fun j hj => by simp; omega, hpSel_none _ _ _ fun j hj => by simp; omega, h1]; exact h3
    | succ i =>
      obtain ⟨g1, g2, g3, g4⟩ := chain_at r _ _ _ (k + 1) i q h4 (by simpa using hi)
      refine ⟨by omega, g2, g3, ?_⟩
      have hk : decide (k < k + (i + 1)) = true := by simp
      simp only [frSel, hpSel, hk, cond_true]
      rw [show k + (i + 1) = k + 1 + i from by omega]
      exact g4

theorem HeapC.congr {hp' : Hp} (h : HeapC X hp ids w) (he : getH hp = getH hp') : HeapC X hp' ids w := by
  obtain ⟨h1, h2⟩ := h
  exact ⟨he ▸ h1, he ▸ h2⟩
theorem DenX.congr {hp' : Hp} {s : SV} {x : Value} (h : DenX X hp ids w s x) (he : getH hp = getH hp') : DenX X hp' ids w s x := by
  unfold DenX at h ⊢; rw [← he]; exact h

/-- Of two operations of which neither is ahead of the other. -/
theorem pair_of {ops : Array Oper} {ns : List Nms} {A : List Nat} (h : orderOk ops ns A = true) {i j : Nat} {o1 o2 : Oper} {n1 n2 : Nms} (hij : i < j) (h1 : ops[i]? = some o1) (h2 : ops[j]? = some o2) (h3 : ns[i]? = some n1) (h4 : ns[j]? = some n2) :
    ((A.getD j 0).testBit i = true ∨ apartN ops o1 n1 o2 n2 = true) ∧ ownN n1 n2 = true := by
  simp only [orderOk, Bool.and_eq_true, List.all_eq_true, List.mem_range] at h
  have hlt : j < ops.size := (Array.getElem?_eq_some_iff.1 h2).1
  have := h.2 j hlt i hij
  unfold pairOk at this
  simp only [h1, h2, h3, h4, Bool.and_eq_true, Bool.or_eq_true] at this
  exact this
theorem apart_all {ops : Array Oper} {o1 o2 : Oper} {n1 n2 : Nms} (h : apartN ops o1 n1 o2 n2 = true) :
    (∀ d, o1.dst = some d → d ∉ looks ops o2 ∧ o2.dst ≠ some d) ∧ (∀ d, o2.dst = some d → d ∉ looks ops o1) ∧ (∀ k ∈ n1.keys, k ∉ n2.keys ∧ k ∉ n2.rds) ∧ ∀ k ∈ n2.keys, k ∉ n1.rds ∧ ¬ (n1.nx ≤ k ∧ k ≤ n1.nx') := by
  simp only [apartN, Bool.and_eq_true, List.all_eq_true] at h
  obtain ⟨⟨⟨⟨h1, h2⟩, h3⟩, h4⟩, _⟩ := h
  refine ⟨fun d hd => ?_, fun d hd => ?_, fun k hk => ?_, fun k hk => ?_⟩
  · rw [hd] at h1; simpa using h1
  · rw [hd] at h2; simpa using h2
  · have := h3 k hk; simpa using this
  · have := h4 k hk
    simp only [Bool.and_eq_true, Bool.not_eq_true', Bool.and_eq_false_iff, List.contains_eq_mem, decide_eq_false_iff_not] at this
    refine ⟨this.1, fun hh => ?_⟩
    rcases this.2 with h | h
    · have := Nat.ble_eq_true_of_le hh.1; rw [h] at this; cases this
    · have := Nat.ble_eq_true_of_le hh.2; rw [h] at this; cases this
theorem own_all {n1 n2 : Nms} (h : ownN n1 n2 = true) : ∀ k ∈ n1.keys, ¬ (n2.nx ≤ k ∧ k ≤ n2.nx') := fun k hk hh => by
  simp only [ownN, List.all_eq_true] at h
  have := h k hk
  simp only [Bool.not_eq_true', Bool.and_eq_false_iff] at this
  rcases this with h | h
  · have := Nat.ble_eq_true_of_le hh.1; rw [h] at this; cases this
  · have := Nat.ble_eq_true_of_le hh.2; rw [h] at this; cases this

/-- Where some of the operations have come. -/
structure InvD (X : Cx) (N : Nat) (A : List Nat) (z : Zs) (fr0 : Fr) (hp0 : Hp) (top : Nat) (sel : Nat → Bool) (a : Act) (w : World) : Prop where
  ex : ∃ ids, HeapC X (hpSel sel 0 z hp0) ids w ∧ ∀ d, DenX X (hpSel sel 0 z hp0) ids w (getF (frSel sel 0 z fr0) d) (a.tmps.getD d undef)
  fresh : ∀ k, top ≤ k → getH (hpSel sel 0 z hp0) k = .unborn
  size : a.tmps.size = N
  defers : a.defers = []
  closed : ∀ j, sel j = true → ∀ i, i < z.length → (A.getD j 0).testBit i = true → sel i = true

theorem hp_unborn {sel : Nat → Bool} {k : Nat} (h0 : getH hp k = .unborn) (z : Zs) (m : Nat) (h : ∀ j q, z[j]? = some q → sel (m + j) = true → k ∉ q.2.upd.map (·.1)) : getH (hpSel sel m z hp) k = .unborn := by
  have : getH (hpSel sel m z hp) k = getH (hpSel (fun _ => false) m z hp) k := hpSel_agree z m _ _ (fun i q hi hk => by
    cases hs : sel (m + i) with
    | false => rfl
    | true => exact absurd hk (h i q hi hs)) rfl
  rw [this, hpSel_none _ _ _ fun _ _ => rfl]; exact h0

theorem inv_step {ops : Array Oper} {N : Nat} {A : List Nat} {z : Zs} {fr0 : Fr} {hp0 : Hp} {nx0 : Nat} {sel sel' : Nat → Bool} {a : Act} {Q : Exit → Act → World → Prop} {KK : Act → World → Prop} (hz : z.map (·.1) = ops.toList) (hch : Chain X.P ops z fr0 hp0 nx0) (hok : orderOk ops (z.map (·.2.nms)) A = true)
    (hm : X.m ≤ nx0) (h0 : ∀ k, nx0 ≤ k → getH hp0 k = .unborn) (hdst : dstOk N ops = true) {i : Nat} {q : Oper × It} (hi : z[i]? = some q) (hsi : sel i = false) (hsi' : sel' i = true) (hss : ∀ j, j ≠ i → sel j = sel' j)
    (hready : ∀ e ∈ q.1.after, Region.binds .any e = true → sel e.on = true) (hI : InvD X N A z fr0 hp0 (lastNx z nx0) sel a w) (hK : ∀ a' w', InvD X N A z fr0 hp0 (lastNx z nx0) sel' a' w' → KK a' w') : wpOp X.P ops Q i KK a w := by
  have hlen : z.length = ops.size := by have := congrArg List.length hz; simpa using this
  have hops : ∀ (j : Nat) (p : Oper × It), z[j]? = some p → ops[j]? = some p.1 := fun j p hj => by
    have : (z.map (·.1))[j]? = some p.1 := by simp [hj]
    rw [hz] at this; simpa using this
  have hns : ∀ (j : Nat) (p : Oper × It), z[j]? = some p → (z.map (·.2.nms))[j]? = some p.2.nms := fun j p hj => by simp [hj]
  have hlt : ∀ (j : Nat) (p : Oper × It), z[j]? = some p → j < z.length := fun j p hj => (List.getElem?_eq_some_iff.1 hj).1
  have hanc : ∀ j, j < z.length → (A.getD i 0).testBit j = true → sel j = true := fun j hj hb => by
    have hok2 := hok
    simp only [orderOk, Bool.and_eq_true] at hok2
    have h1 := hok2.1
    simp only [aheadOk, List.all_eq_true, List.mem_range] at h1
    have h2 := h1 i (by have := hlt i q hi; omega)
    rw [hops i q hi] at h2
    simp only [Bool.and_eq_true, List.all_eq_true, List.mem_range] at h2
    have h3 := h2.2 j (by omega)
    rw [hb] at h3
    simp only [Bool.not_true, Bool.false_or, List.any_eq_true, Bool.and_eq_true, Bool.or_eq_true, beq_iff_eq] at h3
    obtain ⟨e, he, hbi, h4⟩ := h3
    have hse := hready e (by simpa using he) hbi
    rcases h4 with h4 | h4
    · rw [← h4]; exact hse
    · exact hI.closed e.on hse j hj h4
  -- who has come, and touches what this one touches, stands ahead of it in the text
  have hsame : ∀ (bad : Oper × It → Prop), (∀ (j : Nat) (p : Oper × It), z[j]? = some p → j < i → apartN ops p.1 p.2.nms q.1 q.2.nms = true → ¬ bad p) → (∀ (j : Nat) (p : Oper × It), z[j]? = some p → i < j → apartN ops q.1 q.2.nms p.1 p.2.nms = true → ¬ bad p) →
      ∀ (j : Nat) (p : Oper × It), z[j]? = some p → bad p → sel j = decide (j < i) := fun bad hb1 hb2 j p hj hb => by
    rcases Nat.lt_trichotomy j i with hji | hji | hji
    · rw [decide_eq_true hji]
      rcases (pair_of hok hji (hops j p hj) (hops i q hi) (hns j p hj) (hns i q hi)).1 with h | h
      · exact hanc j (hlt j p hj) h
      · exact absurd hb (hb1 j p hj hji h)
    · subst hji; rw [hsi]; simp
    · rw [decide_eq_false (by omega)]
      rcases (pair_of hok hji (hops i q hi) (hops j p hj) (hns i q hi) (hns j p hj)).1 with h | h
      · cases hs : sel j with
        | false => rfl
        | true => have := hI.closed j hs i (hlt i q hi) h; rw [hsi] at this; cases this
      · exact absurd hb (hb2 j p hj hji h)
  obtain ⟨c1, c2, c3, hst⟩ := chain_at z fr0 hp0 nx0 0 i q hch hi
  rw [Nat.zero_add] at hst
  obtain ⟨ids, hH, hF⟩ := hI.ex
  have hun : ∀ k, q.2.nx ≤ k → k ≤ q.2.nx' → getH (hpSel sel 0 z hp0) k = .unborn := fun k hk1 hk2 => by
    refine hp_unborn (h0 k (by omega)) z 0 fun j p hj hs hk => ?_
    rw [Nat.zero_add] at hs
    rcases Nat.lt_trichotomy j i with hji | hji | hji
    · exact own_all (pair_of hok hji (hops j p hj) (hops i q hi) (hns j p hj) (hns i q hi)).2 k hk ⟨hk1, hk2⟩
    · subst hji; rw [hsi] at hs; cases hs
    · rcases (pair_of hok hji (hops i q hi) (hops j p hj) (hns i q hi) (hns j p hj)).1 with h | h
      · have := hI.closed j hs i (hlt i q hi) h; rw [hsi] at this; cases this
      · exact ((apart_all h).2.2.2 k hk).2 ⟨hk1, hk2⟩
  have hrd : ∀ k ∈ q.2.rds, getH (hpSel sel 0 z hp0) k = getH (hpSel (fun j => decide (j < i)) 0 z hp0) k := fun k hk =>
    hpSel_agree z 0 _ _ (fun j p hj hkj => by
      rw [Nat.zero_add]
      exact hsame (fun p => k ∈ p.2.nms.keys) (fun j p _ _ h hb => ((apart_all h).2.2.1 k hb).2 hk) (fun j p _ _ h hb => ((apart_all h).2.2.2 k hb).1 hk) j p hj hkj) rfl
  refine step_local (hops i q hi) (fr := frSel (fun j => decide (j < i)) 0 z fr0) (fr' := frSel sel 0 z fr0) (hp := hpSel (fun j => decide (j < i)) 0 z hp0) (hp' := hpSel sel 0 z hp0) (nx := q.2.nx) hH (by omega) hF (fun d hd => ?_) hst (hun _ (Nat.le_refl _) c2) (fun val upd nx' rds hk => ?_) fun val upd nx' rds x w' ids' hk hu h1 h2 h3 => hK _ _ ?_
  · refine frSel_agree z 0 _ _ (fun j p hj hdj => ?_) rfl
    rw [Nat.zero_add]
    exact hsame (fun p => p.1.dst = some d) (fun j p _ _ h hb => ((apart_all h).1 d hb).1 hd) (fun j p _ _ h hb => (apart_all h).2.1 d hb hd) j p hj hdj
  · obtain ⟨rfl, rfl, rfl, rfl⟩ := hk
    exact ⟨fun k hk1 hk2 => hun k hk1 (by omega), hrd⟩
  · obtain ⟨rfl, rfl, rfl, rfl⟩ := hk
    have he : getH (q.2.upd ++ hpSel sel 0 z hp0) = getH (hpSel sel' 0 z hp0) := funext fun k => hpSel_put z 0 _ _ i q hi (by rw [Nat.zero_add]; exact hsi) (by rw [Nat.zero_add]; exact hsi') (fun j hj => hss j (by omega)) (fun hk j p hij hj hs hkj => by
      rw [Nat.zero_add] at hs
      rcases (pair_of hok hij (hops i q hi) (hops j p hj) (hns i q hi) (hns j p hj)).1 with h | h
      · have := hI.closed j hs i (hlt i q hi) h; rw [hsi] at this; cases this
      · exact ((apart_all h).2.2.1 k hk).1 hkj) rfl
    refine ⟨⟨ids', h1.congr he, fun d => ?_⟩, fun k hk => ?_, by rw [put_size]; exact hI.size, by rw [put_defers]; exact hI.defers, fun j hs k hk hb => ?_⟩
    · have := frame_put (frame_ext h2 hF) hI.size (dst := q.1.dst) (fun d hd => dstOk_spec hdst q.1 (by
        have := hops i q hi
        exact Array.mem_toList_iff.2 (Array.mem_of_getElem? this)) d hd) h3 d
      rw [frSel_put (s2 := sel') z 0 fr0 fr0 i q hi (by rw [Nat.zero_add]; exact hsi) (by rw [Nat.zero_add]; exact hsi') (fun j hj => hss j (by omega)) (fun hd j p hij hj hs hdj => by
        rw [Nat.zero_add] at hs
        rcases (pair_of hok hij (hops i q hi) (hops j p hj) (hns i q hi) (hns j p hj)).1 with h | h
        · have := hI.closed j hs i (hlt i q hi) h; rw [hsi] at this; cases this
        · exact ((apart_all h).1 d hd).2 hdj) rfl] at this
      exact DenX.congr this he
    · rw [← he, getH_app_ne]
      · exact hI.fresh k hk
      · intro hm
        obtain ⟨p, hp1, rfl⟩ := List.mem_map.1 hm
        rcases hu.keys p hp1 with ⟨_, h⟩ | ⟨h4, h5⟩
        · omega
        · rw [← hrd p.1 h4, hI.fresh p.1 hk] at h5; cases h5
    · by_cases hj : j = i
      · subst hj
        by_cases hkj : k = j
        · subst hkj; exact hsi'
        · rw [← hss k hkj]; exact hanc k hk hb
      · rw [← hss j hj] at hs
        have := hI.closed j hs k hk hb
        by_cases hkj : k = i
        · subst hkj; exact hsi'
        · rw [← hss k hkj]; exact this

theorem left_lt {n : Nat} {p q : Nat → Bool} (h : ∀ j, j < n → q j = true → p j = true) {i : Nat} (hi : i < n) (hp : p i = true) (hq : q i = false) : ((List.range n).filter q).length < ((List.range n).filter p).length := by
  have gen : ∀ (l : List Nat), (∀ j ∈ l, q j = true → p j = true) → (l.filter q).length ≤ (l.filter p).length ∧ (i ∈ l → (l.filter q).length < (l.filter p).length) := by
    intro l
    induction l with
    | nil => exact fun _ => ⟨Nat.le_refl _, fun hm => by cases hm⟩
    | cons a l ih =>
      intro hl
      obtain ⟨h1, h2⟩ := ih fun j hj => hl j (by simp [hj])
      have ha := hl a (by simp)
      refine ⟨?_, fun hm => ?_⟩
      · cases hqa : q a with
        | true => rw [List.filter_cons_of_pos hqa, List.filter_cons_of_pos (ha hqa)]; simpa using h1
        | false =>
          rw [List.filter_cons_of_neg (by simp [hqa])]
          cases hpa : p a with
          | true => rw [List.filter_cons_of_pos hpa]; simp; omega
          | false => rw [List.filter_cons_of_neg (by simp [hpa])]; exact h1
      · rcases List.mem_cons.1 hm with rfl | hm
        · rw [List.filter_cons_of_neg (by simp [hq]), List.filter_cons_of_pos hp]; simp; omega
        · have := h2 hm
          cases hqa : q a with
          | true => rw [List.filter_cons_of_pos hqa, List.filter_cons_of_pos (ha hqa)]; simpa using this
          | false =>
            rw [List.filter_cons_of_neg (by simp [hqa])]
            cases hpa : p a with
            | true => rw [List.filter_cons_of_pos hpa]; simp; omega
            | false => rw [List.filter_cons_of_neg (by simp [hpa])]; exact this
  exact (gen (List.range n) fun j hj => h j (List.mem_range.1 hj)).2 (List.mem_range.2 hi)

theorem draw_sound {ops : Array Oper} {N : Nat} {A : List Nat} {z : Zs} {fr0 : Fr} {hp0 : Hp} {nx0 : Nat} {Q : Exit → Act → World → Prop} (hz : z.map (·.1) = ops.toList) (hch : Chain X.P ops z fr0 hp0 nx0) (hok : orderOk ops (z.map (·.2.nms)) A = true)
    (hm : X.m ≤ nx0) (h0 : ∀ k, nx0 ≤ k → getH hp0 k = .unborn) (hdst : dstOk N ops = true) (hQ : ∀ a w, StX X N (frSel (fun _ => true) 0 z fr0) (hpSel (fun _ => true) 0 z hp0) (lastNx z nx0) a w → Q .normal a w) : ∀ (fuel : Nat) (listed : Array Bool) (a : Act) (w : World), listed.size = ops.size →
    ((List.range ops.size).filter fun j => !listed.getD j false).length ≤ fuel → InvD X N A z fr0 hp0 (lastNx z nx0) (fun j => listed.getD j false) a w → wpAny X.P .any ops Q fuel listed a w := by
  have hlen : z.length = ops.size := by have := congrArg List.length hz; simpa using this
  have hops : ∀ (j : Nat) (p : Oper × It), z[j]? = some p → ops[j]? = some p.1 := fun j p hj => by
    have : (z.map (·.1))[j]? = some p.1 := by simp [hj]
    rw [hz] at this; simpa using this
  have hnil : ∀ (listed : Array Bool) (a : Act) (w : World), listed.size = ops.size → InvD X N A z fr0 hp0 (lastNx z nx0) (fun j => listed.getD j false) a w → Region.ready .any ops listed = [] → (∀ j, j < ops.size → listed.getD j false = true) ∧ Q .normal a w := by
    intro listed a w hsz hI hr
    have hall : ∀ j, j < ops.size → listed.getD j false = true := by
      intro j
      induction j using Nat.strongRecOn with
      | _ j ih =>
        intro hj
        cases hl : listed.getD j false with
        | true => rfl
        | false =>
          have hmem : j ∈ Region.ready .any ops listed := by
            refine mem_ready.2 ⟨getD_in (by omega) hl, ops[j], Array.getElem?_eq_getElem hj, fun e he hb => ?_⟩
            have hok2 := hok
            simp only [orderOk, Bool.and_eq_true] at hok2
            have h1 := hok2.1
            simp only [aheadOk, List.all_eq_true, List.mem_range] at h1
            have h2 := h1 j hj
            rw [Array.getElem?_eq_getElem hj] at h2
            simp only [Bool.and_eq_true, List.all_eq_true] at h2
            have h3 := h2.1 e (by simpa using he)
            rw [hb] at h3
            have hlt : e.on < j := by simpa [Nat.blt_eq] using h3
            exact ih e.on hlt (by omega)
          rw [hr] at hmem; cases hmem
    refine ⟨hall, hQ a w ?_⟩
    obtain ⟨ids, hH, hF⟩ := hI.ex
    have e1 : getH (hpSel (fun j => listed.getD j false) 0 z hp0) = getH (hpSel (fun _ => true) 0 z hp0) := funext fun k => hpSel_agree z 0 _ _ (fun i q hi _ => by
      have := (List.getElem?_eq_some_iff.1 hi).1
      rw [Nat.zero_add]; exact hall i (by omega)) rfl
    have e2 : ∀ d, getF (frSel (fun j => listed.getD j false) 0 z fr0) d = getF (frSel (fun _ => true) 0 z fr0) d := fun d => frSel_agree z 0 _ _ (fun i q hi _ => by
      have := (List.getElem?_eq_some_iff.1 hi).1
      rw [Nat.zero_add]; exact hall i (by omega)) rfl
    exact ⟨ids, ⟨hH.congr e1, fun k hk => by rw [← e1]; exact hI.fresh k hk, Nat.le_trans hm (chain_le z fr0 hp0 nx0 hch)⟩, fun d => by rw [← e2]; exact DenX.congr (hF d) e1, hI.size, hI.defers⟩
  intro fuel
  induction fuel with
  | zero =>
    intro listed a w hsz hc hI
    have hr : Region.ready .any ops listed = [] := by
      rw [List.eq_nil_iff_forall_not_mem]
      intro j hj
      obtain ⟨h1, o, h2, _⟩ := mem_ready.1 hj
      have hlt := (Array.getElem?_eq_some_iff.1 h2).1
      have : ((List.range ops.size).filter fun j => !listed.getD j false) = [] := List.eq_nil_of_length_eq_zero (by omega)
      have hm2 : j ∈ (List.range ops.size).filter fun j => !listed.getD j false := List.mem_filter.2 ⟨List.mem_range.2 hlt, by
        have : listed.getD j false = false := by
          rw [Array.getD_eq_getD_getElem?] at h1 ⊢
          rw [Array.getElem?_eq_getElem (by omega)] at h1 ⊢
          exact h1
        rw [this]; rfl⟩
      rw [this] at hm2; cases hm2
    exact ⟨hr, (hnil listed a w hsz hI hr).2⟩
  | succ fuel ih =>
    intro listed a w hsz hc hI
    refine ⟨fun hr => (hnil listed a w hsz hI hr).2, fun i hi => ?_⟩
    obtain ⟨h1, o, h2, h3⟩ := mem_ready.1 hi
    have hlt : i < ops.size := (Array.getElem?_eq_some_iff.1 h2).1
    have hzi : z[i]? = some z[i] := List.getElem?_eq_getElem (by omega)
    have ho : o = z[i].1 := by have := hops i _ hzi; rw [h2] at this; exact Option.some.inj this
    have hsi : listed.getD i false = false := by
      rw [Array.getD_eq_getD_getElem?] at h1 ⊢
      rw [Array.getElem?_eq_getElem (by omega)] at h1 ⊢
      exact h1
    have hset : (listed.setIfInBounds i true).getD i false = true := by
      rw [Array.getD_eq_getD_getElem?, Array.getElem?_setIfInBounds_self_of_lt (by omega)]; rfl
    have hne : ∀ j, j ≠ i → listed.getD j false = (listed.setIfInBounds i true).getD j false := fun j hj => (getD_set_ne false (fun e => hj e.symm)).symm
    refine inv_step (sel := fun j => listed.getD j false) (sel' := fun j => (listed.setIfInBounds i true).getD j false) hz hch hok hm h0 hdst hzi hsi hset hne (fun e he hb => h3 e (ho ▸ he) hb) hI fun a' w' hI' => ?_
    refine ih _ a' w' (by simp [hsz]) ?_ hI'
    have := left_lt (n := ops.size) (p := fun j => !listed.getD j false) (q := fun j => !(listed.setIfInBounds i true).getD j false) (fun j _ hq => by
      by_cases hj : j = i
      · subst hj; simp only [hset] at hq; cases hq
      · simp only [hne j hj]; exact hq) hlt (by simp [hsi]) (by simp only [hset]; rfl)
    omega

theorem draw_ok (P : Program) : DrawOk (DrawW P) P := by
  intro X N id ops K Q fr hp nx a w hP hd hQ hst h
  subst hP
  obtain ⟨z, h1, h2, h3⟩ := runD_chain ops.toList fr hp nx [] 0 h
  obtain ⟨⟨h4, h5⟩, h6⟩ := h3
  rw [List.nil_append] at h5
  obtain ⟨ids, hH, hF, hN, hD⟩ := hst
  refine wp_region_any h4 ?_
  obtain ⟨g1, g2⟩ := hH.toHeapC.drew
  have e0 : ∀ j, (Array.replicate ops.size false).getD j false = false := fun j => getD_replicate_false _ _
  refine draw_sound (X := X) (N := N) h1 h2 h5 hH.m_le hH.fresh hd (fun a w hs => hQ _ _ _ a w h6 hs) ops.size _ a _ (by simp) (by
    refine Nat.le_trans (List.length_filter_le _ _) (by simp)) ?_
  have e1 : hpSel (fun j => (Array.replicate ops.size false).getD j false) 0 z hp = hp := hpSel_none z 0 hp fun j _ => e0 j
  have e2 : frSel (fun j => (Array.replicate ops.size false).getD j false) 0 z fr = fr := frSel_none z 0 fr fun j _ => e0 j
  refine ⟨⟨ids, ?_, fun d => ?_⟩, fun k hk => ?_, hN, hD, fun j hj => by rw [e0] at hj; cases hj⟩
  · rw [e1]; exact g1
  · rw [e1, e2]; exact (hF d).mono g2
  · rw [e1]; exact hH.fresh k (Nat.le_trans (chain_le z fr hp nx h2) hk)

/-- What is to be shown for code. -/
abbrev Swp (P : Program) (m N : Nat) : Code → SPost → Fr → Hp → Nat → Prop := SwpD (DrawW P) P m N
end Go.Sx
