/-
  Plain lemmas, more: loops whose places are known ahead of the first one that is told.
-/
import Derived.Test.YtnnpjaoddniifaaPB
set_option linter.unusedSimpArgs false
set_option linter.unusedVariables false
namespace Go.Sx
def toldOr {S ρ : Type} (o : Option ρ) (s : S) : Option (S ⊕ ρ) := match o with
  | some r => some (.inr r)
  | none => some (.inl s)
@[simp] theorem toldOr_some {S ρ : Type} (r : ρ) (s : S) : toldOr (some r) s = some (.inr r) := rfl
@[simp] theorem toldOr_none {S ρ : Type} (s : S) : toldOr (none : Option ρ) s = some (.inl s) := rfl
/-- As 'loopO_findD'; at each place all ahead of it is known. -/
theorem loopO_findP {S ρ : Type} {step : S → Option (S ⊕ ρ)} (E : Nat → S) (bad : Nat → Option ρ) (d : ρ) (n : Nat)
    (h1 : ∀ i, i < n → (∀ j, j < i → bad j = none) → step (E i) = toldOr (bad i) (E (i + 1)))
    (h3 : (∀ i, i < n → bad i = none) → step (E n) = some (.inr d)) : loopO step (E 0) = some ((firstAt bad n).getD d) := by
  have walk : ∀ k, k ≤ n → (∀ i, i < k → bad i = none) → loopO step (E 0) = loopO step (E k) := by
    intro k
    induction k with
    | zero => exact fun _ _ => rfl
    | succ k ih =>
      intro hk hb
      have := h1 k (by omega) fun i hi => hb i (by omega)
      rw [hb k (by omega), toldOr_none] at this
      rw [ih (by omega) fun i hi => hb i (by omega), loopO_inl this]
  cases hf : firstAt bad n with
  | none =>
    have hb := (firstAt_none n).1 hf
    rw [walk n (Nat.le_refl _) hb, loopO_inr (h3 hb)]; rfl
  | some r =>
    obtain ⟨i, g1, g2, g3⟩ := firstAt_some n hf
    have := h1 i g1 g3
    rw [g2, toldOr_some] at this
    rw [walk i (by omega) g3, loopO_inr this]; rfl
theorem nodup_snoc {α : Type} {l : List α} {x : α} : (l ++ [x]).Nodup ↔ l.Nodup ∧ x ∉ l := by
  rw [List.nodup_append]
  constructor
  · rintro ⟨h1, _, h3⟩
    exact ⟨h1, fun h => h3 x h x (by simp) rfl⟩
  · rintro ⟨h1, h2⟩
    exact ⟨h1, by simp, fun a ha b hb e => by simp at hb; subst hb; subst e; exact h2 ha⟩
theorem nodup_grow {α : Type} (had ts : List α) (h0 : had.Nodup) : (had ++ ts).Nodup ↔ ∀ k (h : k < ts.length), ts[k] ∉ had ++ ts.take k := by
  have hs : ∀ k (h : k < ts.length), had ++ ts.take (k + 1) = had ++ ts.take k ++ [ts[k]] := fun k h => by
    rw [List.take_succ_eq_append_getElem h, List.append_assoc]
  constructor
  · intro h k hk
    have : (had ++ ts.take (k + 1)).Nodup := (List.Sublist.append (List.Sublist.refl had) (List.take_sublist (k + 1) ts)).nodup h
    rw [hs k hk, nodup_snoc] at this
    exact this.2
  · intro h
    have gen : ∀ k, k ≤ ts.length → (had ++ ts.take k).Nodup := by
      intro k
      induction k with
      | zero => simpa using h0
      | succ k ih =>
        intro hk
        rw [hs k (by omega), nodup_snoc]
        exact ⟨ih (by omega), h k (by omega)⟩
    have := gen ts.length (Nat.le_refl _)
    rwa [List.take_length] at this
/-- What holds of neighbours holds of all. -/
theorem pairwise_next {α : Type} (R : α → α → Prop) (ht : ∀ a b c, R a b → R b c → R a c) (l : List α) : l.Pairwise R ↔ ∀ i (h : i + 1 < l.length), R l[i] l[i + 1] := by
  rw [List.pairwise_iff_getElem]
  constructor
  · exact fun h i hi => h i (i + 1) (by omega) hi (by omega)
  · intro h i j hi hj hij
    have gen : ∀ d (hd : i + d + 1 < l.length), R l[i] l[i + d + 1] := by
      intro d
      induction d with
      | zero => exact fun hd => h i hd
      | succ d ih =>
        intro hd
        exact ht _ _ _ (ih (by omega)) (h (i + d + 1) hd)
    have := gen (j - i - 1) (by omega)
    have e : i + (j - i - 1) + 1 = j := by omega
    simpa only [e] using this
/-- A loop that counts up, and what comes of it from each place on. -/
theorem loopO_up {A S ρ : Type} {step : S → Option (S ⊕ ρ)} (n : Nat) (E : Nat → A → S) (I : Nat → A → Prop) (F : Nat → A → Option ρ)
    (hend : ∀ a, I n a → step (E n a) = (F n a).map .inr)
    (hstep : ∀ i a, i < n → I i a → (∃ a', step (E i a) = some (.inl (E (i + 1) a')) ∧ I (i + 1) a' ∧ F i a = F (i + 1) a') ∨ step (E i a) = (F i a).map .inr)
    (a0 : A) (h0 : I 0 a0) : loopO step (E 0 a0) = F 0 a0 := by
  have gen : ∀ (d i : Nat) (a : A), i + d = n → I i a → loopO step (E i a) = F i a := by
    intro d
    induction d with
    | zero => intro i a hi ha; rw [Nat.add_zero] at hi; subst hi; exact loopO_out (hend a ha)
    | succ d ih =>
      intro i a hi ha
      rcases hstep i a (by omega) ha with ⟨a', h1, h2, h3⟩ | h1
      · rw [loopO_inl h1, h3]; exact ih (i + 1) a' (by omega) h2
      · exact loopO_out h1
  exact gen n 0 a0 (by omega) h0
theorem drop_at {α : Type} {l : List α} {i : Nat} (h : i < l.length) : l.drop i = l[i] :: l.drop (i + 1) := List.drop_eq_getElem_cons h
/-- The middle of a binary search. -/
theorem mid_eq (i j : Nat) (h : i + j < 4611686018427387904) : IntKind.i64.wrap (Int.fdiv (IntKind.u64.wrap (IntKind.i64.wrap ((i : Int) + (j : Int)))) (2 ^ (min ((1 : Int)).toNat (IntKind.u64).bits))) = (((i + j) / 2 : Nat) : Int) := by
  rw [wrap_id (x := (i : Int) + j) (by omega) (by omega)]
  have e : IntKind.u64.wrap ((i : Int) + j) = (i : Int) + j := by
    simp only [IntKind.wrap, IntKind.bits, IntKind.signed]
    simp
    omega
  rw [e, show (2 : Int) ^ (min ((1 : Int)).toNat (IntKind.u64).bits) = 2 from rfl, Int.fdiv_eq_ediv_of_nonneg _ (by omega)]
  rw [wrap_id (by omega) (by omega)]
  omega
theorem bs_gen {ρ : Type} {step : Int × Int → Option ((Int × Int) ⊕ ρ)} (n : Nat) (lt : Nat → Bool) (R : Nat → Option ρ) (hm : ∀ a b, a < b → b < n → lt b = true → lt a = true)
    (h1 : ∀ i j : Nat, i < j → j ≤ n → step ((i : Int), (j : Int)) = if lt ((i + j) / 2) then some (.inl ((((i + j) / 2 + 1 : Nat) : Int), (j : Int))) else some (.inl ((i : Int), (((i + j) / 2 : Nat) : Int))))
    (h2 : ∀ i : Nat, i ≤ n → (∀ k, k < i → lt k = true) → (∀ k, i ≤ k → k < n → lt k = false) → step ((i : Int), (i : Int)) = (R i).map .inr) :
    ∃ i, i ≤ n ∧ (∀ k, k < i → lt k = true) ∧ (∀ k, i ≤ k → k < n → lt k = false) ∧ loopO step (0, (n : Int)) = R i := by
  have gen : ∀ (d i j : Nat), j - i ≤ d → i ≤ j → j ≤ n → (∀ k, k < i → lt k = true) → (∀ k, j ≤ k → k < n → lt k = false) →
      ∃ q, q ≤ n ∧ (∀ k, k < q → lt k = true) ∧ (∀ k, q ≤ k → k < n → lt k = false) ∧ loopO step ((i : Int), (j : Int)) = R q := by
    intro d
    induction d with
    | zero =>
      intro i j hd hij hj ha hb
      have : i = j := by omega
      subst this
      exact ⟨i, hj, ha, hb, loopO_out (h2 i hj ha hb)⟩
    | succ d ih =>
      intro i j hd hij hj ha hb
      by_cases he : i = j
      · subst he
        exact ⟨i, hj, ha, hb, loopO_out (h2 i hj ha hb)⟩
      · have hs := h1 i j (by omega) hj
        have hmid : i ≤ (i + j) / 2 ∧ (i + j) / 2 < j := by omega
        cases hl : lt ((i + j) / 2) with
        | true =>
          rw [hl, if_pos rfl] at hs
          rw [loopO_inl hs]
          refine ih _ j (by omega) (by omega) hj (fun k hk => ?_) hb
          by_cases hk2 : k = (i + j) / 2
          · rw [hk2]; exact hl
          · exact hm k ((i + j) / 2) (by omega) (by omega) hl
        | false =>
          rw [hl, if_neg (by simp)] at hs
          rw [loopO_inl hs]
          refine ih i _ (by omega) (by omega) (by omega) ha (fun k hk hkn => ?_)
          cases hk3 : lt k with
          | false => rfl
          | true =>
            by_cases hk2 : k = (i + j) / 2
            · rw [hk2, hl] at hk3; cases hk3
            · have := hm ((i + j) / 2) k (by omega) hkn hk3
              rw [hl] at this; cases this
  exact gen n 0 n (by omega) (Nat.zero_le _) (Nat.le_refl _) (fun k hk => absurd hk (Nat.not_lt_zero k)) (fun k hk hkn => by omega)
theorem cut_wipe {α : Type} [Inhabited α] (l : List α) (i : Nat) (h : i ≤ l.length) : cut (wipe l (i : Int) ((l.length : Nat) : Int)) (0 : Int) (i : Int) = l.take i := by
  rw [cut_take, wipe, putL]
  simp only [Int.toNat_natCast]
  rw [List.append_assoc, List.take_append_of_le_length (by simp <;> omega), List.take_of_length_le (by simp <;> omega)]
/-- slices.DeleteFunc, from the first place on that goes. -/
theorem del_gen {α C : Type} [Enc α] (l : List α) (t : C) (keep : α → Bool) {step : Int × Int × List α × C → Option ((Int × Int × List α × C) ⊕ (List α × C))}
    (h1 : ∀ (i j : Nat) (c : List α), i < j → j < c.length → c.length = l.length → keep (ix c (j : Int)) = false → step ((i : Int), (j : Int), c, t) = some (.inl ((i : Int), ((j + 1 : Nat) : Int), c, t)))
    (h2 : ∀ (i j : Nat) (c : List α), i < j → j < c.length → c.length = l.length → keep (ix c (j : Int)) = true → step ((i : Int), (j : Int), c, t) = some (.inl (((i + 1 : Nat) : Int), ((j + 1 : Nat) : Int), c.set i (ix c (j : Int)), t)))
    (h3 : ∀ (i : Nat) (c : List α), i ≤ c.length → c.length = l.length → step ((i : Int), ((c.length : Nat) : Int), c, t) = some (.inr (cut (wipe c (i : Int) ((c.length : Nat) : Int)) (0 : Int) (i : Int), t)))
    (n : Nat) (hn : n < l.length) (hk : keep l[n] = false) (hk2 : ∀ x ∈ l.take n, keep x = true) : loopO step ((n : Int), ((n + 1 : Nat) : Int), l, t) = some (l.filter keep, t) := by
  have htake : (l.take (n + 1)).filter keep = l.take n := by
    rw [List.take_succ_eq_append_getElem hn, List.filter_append, List.filter_eq_self.2 hk2]
    simp [hk]
  obtain ⟨r, hr, rfl⟩ := loopO_inv (step := step) (fun s => ∃ (i j : Nat) (c : List α), s = ((i : Int), (j : Int), c, t) ∧ c.length = l.length ∧ i < j ∧ j ≤ l.length ∧ c.take i = (l.take j).filter keep ∧ c.drop j = l.drop j) (fun s => l.length - s.2.1.toNat) (fun r => r = (l.filter keep, t)) (fun s hs => by
    obtain ⟨i, j, c, rfl, hcl, hij, hjl, ht, hd⟩ := hs
    by_cases hj : j < l.length
    · left
      have hcj : ix c (j : Int) = l[j] := by
        rw [ix_get (by omega)]
        have h1 : c[j]? = l[j]? := by
          have := congrArg (fun x => x[0]?) hd
          simpa [List.getElem?_drop] using this
        rw [List.getElem?_eq_getElem (by omega), List.getElem?_eq_getElem hj] at h1
        exact Option.some.inj h1
      have hdrop : ∀ m, j < m → c.drop m = l.drop m := fun m hm => by
        have := congrArg (fun x => x.drop (m - j)) hd
        simp only [List.drop_drop] at this
        rwa [show j + (m - j) = m by omega] at this
      cases hkj : keep l[j] with
      | false =>
        refine ⟨((i : Int), ((j + 1 : Nat) : Int), c, t), h1 i j c hij (by omega) hcl (by rw [hcj]; exact hkj), ⟨i, j + 1, c, rfl, hcl, by omega, by omega, ?_, hdrop _ (by omega)⟩, by simp only [Int.toNat_natCast]; omega⟩
        rw [List.take_succ_eq_append_getElem hj, List.filter_append, ← ht]
        simp [hkj]
      | true =>
        refine ⟨(((i + 1 : Nat) : Int), ((j + 1 : Nat) : Int), c.set i (ix c (j : Int)), t), h2 i j c hij (by omega) hcl (by rw [hcj]; exact hkj), ⟨i + 1, j + 1, c.set i (ix c (j : Int)), rfl, by simpa using hcl, by omega, by omega, ?_, ?_⟩, by simp only [Int.toNat_natCast]; omega⟩
        · rw [List.take_succ_eq_append_getElem hj, List.filter_append, ← ht, List.take_succ_eq_append_getElem (by simp; omega), List.take_set_of_le (by omega), hcj]
          simp [hkj]
        · rw [List.drop_set_of_lt (by omega)]
          exact hdrop _ (by omega)
    · right
      have hjl' : j = c.length := by omega
      subst hjl'
      refine ⟨_, h3 i c (by omega) hcl, ?_⟩
      rw [cut_wipe c i (by omega), ht, hcl, List.take_length]) (s0 := ((n : Int), ((n + 1 : Nat) : Int), l, t)) ⟨n, n + 1, l, rfl, rfl, by omega, by omega, htake.symm, rfl⟩
  exact hr
end Go.Sx
