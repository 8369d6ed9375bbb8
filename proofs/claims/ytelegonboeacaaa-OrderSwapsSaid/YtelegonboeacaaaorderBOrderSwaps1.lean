/-
 Lemmas, put together: QA, QB, QC, orderP, orderP2, orderP3, orderP4, orderP5, orderP6, orderP8.
 No conditions.
-/
import Derived.Test.YtelegonboeacaaaorderA3
import Derived.Test.YtelegonboeacaaaorderG
set_option linter.unusedSimpArgs false
set_option linter.unusedVariables false
section
namespace Go.Sx
open Go
set_option linter.unusedVariables false
theorem wrap_id {x : Int} (h1 : -9223372036854775808 ≤ x) (h2 : x ≤ 9223372036854775807) : IntKind.i64.wrap x = x := by
 simp only [IntKind.wrap, IntKind.bits, IntKind.signed, if_true]
 simp
 omega
theorem wrap_n1 (i : Nat) (h : i < 4611686018427387904) : IntKind.i64.wrap ((i : Int) + 1) = ((i + 1 : Nat) : Int) := by
 rw [wrap_id (by omega) (by omega)]; rfl
def firstAt {β : Type} (bad : Nat → Option β) : Nat → Option β
 | 0 => none
 | n + 1 => (firstAt bad n).or (bad n)
theorem firstAt_none {β : Type} {f : Nat → Option β} : ∀ (n : Nat), firstAt f n = none ↔ ∀ i, i < n → f i = none
 | 0 => by simp [firstAt]
 | n + 1 => by
  simp only [firstAt, Option.or_eq_none_iff, firstAt_none n]
  constructor
  ·rintro ⟨h1, h2⟩ i hi
   by_cases h : i = n
   ·subst h; exact h2
   ·exact h1 i (by omega)
  ·exact fun h => ⟨fun i hi => h i (by omega), h n (by omega)⟩
theorem firstAt_some {β : Type} {f : Nat → Option β} {b : β} : ∀ (n : Nat), firstAt f n = some b → ∃ i, i < n ∧ f i = some b ∧ ∀ j, j < i → f j = none
 | 0, h => by simp [firstAt] at h
 | n + 1, h => by
  simp only [firstAt] at h
  cases hf : firstAt f n with
  | some c =>
   rw [hf] at h
   obtain ⟨i, h1, h2, h3⟩ := firstAt_some n hf
   simp only [Option.some_or] at h
   exact ⟨i, by omega, by rw [h2, h], h3⟩
  | none =>
   rw [hf] at h
   simp only [Option.none_or] at h
   exact ⟨n, by omega, h, fun j hj => (firstAt_none n).1 hf j hj⟩
theorem loopO_find {S ρ : Type} {step : S → Option (S ⊕ ρ)} (E : Nat → S) (bad : Nat → Option ρ) (rest : Option ρ) (n : Nat)
  (h1 : ∀ i, i < n → bad i = none → step (E i) = some (.inl (E (i + 1)))) (h2 : ∀ i r, i < n → bad i = some r → step (E i) = some (.inr r)) (h3 : (∀ i, i < n → bad i = none) → step (E n) = rest.map .inr) :
  loopO step (E 0) = match firstAt bad n with
   | some r => some r
   | none => rest := by
 have walk : ∀ k, k ≤ n → (∀ i, i < k → bad i = none) → loopO step (E 0) = loopO step (E k) := by
  intro k
  induction k with
  | zero => exact fun _ _ => rfl
  | succ k ih =>
   intro hk hb
   rw [ih (by omega) fun i hi => hb i (by omega), loopO_inl (h1 k (by omega) (hb k (by omega)))]
 cases hf : firstAt bad n with
 | none =>
  have hb := (firstAt_none n).1 hf
  rw [walk n (Nat.le_refl _) hb, loopO_out (h3 hb)]
 | some r =>
  obtain ⟨i, g1, g2, g3⟩ := firstAt_some n hf
  rw [walk i (by omega) g3, loopO_inr (h2 i r g1 g2)]
theorem loopO_all {S ρ : Type} {step : S → Option (S ⊕ ρ)} (E : Nat → S) (rest : Option ρ) (n : Nat)
  (h1 : ∀ i, i < n → step (E i) = some (.inl (E (i + 1)))) (h3 : step (E n) = rest.map .inr) : loopO step (E 0) = rest := by
 have := loopO_find E (fun _ => none) rest n (fun i hi _ => h1 i hi) (fun i r _ h => by cases h) (fun _ => h3)
 rw [this, (firstAt_none n).2 fun _ _ => rfl]
theorem ix_get {α : Type} [Enc α] {xs : List α} {i : Nat} (h : i < xs.length) : ix xs ((i : Nat) : Int) = xs[i] := by
 simp [ix, List.getD_eq_getElem?_getD, h]
end Go.Sx
end

section
namespace Go.Sx
variable {α : Type}
end Go.Sx
end

section
namespace Go.Sx
def toldOr {S ρ : Type} (o : Option ρ) (s : S) : Option (S ⊕ ρ) := match o with
 | some r => some (.inr r)
 | none => some (.inl s)
@[simp] theorem toldOr_some {S ρ : Type} (r : ρ) (s : S) : toldOr (some r) s = some (.inr r) := rfl
@[simp] theorem toldOr_none {S ρ : Type} (s : S) : toldOr (none : Option ρ) s = some (.inl s) := rfl
theorem loopO_findP {S ρ : Type} {step : S → Option (S ⊕ ρ)} (E : Nat → S) (bad : Nat → Option ρ) (d : ρ) (n : Nat)
  (h1 : ∀ i, i < n → (∀ j, j < i → bad j = none) → step (E i) = toldOr (bad i) (E (i + 1)))
  (h3 : (∀ i, i < n → bad i = none) → step (E n) = some (.inr d)) : loopO step (E 0) = some ((firstAt bad n).getD d) := by
 have walk : ∀ k, k ≤ n → (∀ i, i < k → bad i = none) → loopO step (E 0) = loopO step (E k) := by
  intro k
  induction k with
  | zero => exact fun _ _ => rfl
  | succ k ih =>
   intro hk hb
   have := h1 k (by omega) fun i hi => hb i (by omega)
   rw [hb k (by omega), toldOr_none] at this
   rw [ih (by omega) fun i hi => hb i (by omega), loopO_inl this]
 cases hf : firstAt bad n with
 | none =>
  have hb := (firstAt_none n).1 hf
  rw [walk n (Nat.le_refl _) hb, loopO_inr (h3 hb)]; rfl
 | some r =>
  obtain ⟨i, g1, g2, g3⟩ := firstAt_some n hf
  have := h1 i g1 g3
  rw [g2, toldOr_some] at this
  rw [walk i (by omega) g3, loopO_inr this]; rfl
theorem nodup_snoc {α : Type} {l : List α} {x : α} : (l ++ [x]).Nodup ↔ l.Nodup ∧ x ∉ l := by
 rw [List.nodup_append]
 constructor
 ·rintro ⟨h1, _, h3⟩
  exact ⟨h1, fun h => h3 x h x (by simp) rfl⟩
 ·rintro ⟨h1, h2⟩
  exact ⟨h1, by simp, fun a ha b hb e => by simp at hb; subst hb; subst e; exact h2 ha⟩
theorem loopO_up {A S ρ : Type} {step : S → Option (S ⊕ ρ)} (n : Nat) (E : Nat → A → S) (I : Nat → A → Prop) (F : Nat → A → Option ρ)
  (hend : ∀ a, I n a → step (E n a) = (F n a).map .inr)
  (hstep : ∀ i a, i < n → I i a → (∃ a', step (E i a) = some (.inl (E (i + 1) a')) ∧ I (i + 1) a' ∧ F i a = F (i + 1) a') ∨ step (E i a) = (F i a).map .inr)
  (a0 : A) (h0 : I 0 a0) : loopO step (E 0 a0) = F 0 a0 := by
 have gen : ∀ (d i : Nat) (a : A), i + d = n → I i a → loopO step (E i a) = F i a := by
  intro d
  induction d with
  | zero => intro i a hi ha; rw [Nat.add_zero] at hi; subst hi; exact loopO_out (hend a ha)
  | succ d ih =>
   intro i a hi ha
   rcases hstep i a (by omega) ha with ⟨a', h1, h2, h3⟩ | h1
   ·rw [loopO_inl h1, h3]; exact ih (i + 1) a' (by omega) h2
   ·exact loopO_out h1
 exact gen n 0 a0 (by omega) h0
end Go.Sx
end

section
namespace Go.Proofs.Ytelegonboeacaaa
open Go Go.Sx
set_option linter.unusedVariables false
set_option linter.unusedSimpArgs false
variable {α : Type} [Enc α]
abbrev V := VArr 65
theorem get_set {n : Nat} (a : VArr n) (i j v : Int) (hi : 0 ≤ i ∧ i < ((n : Nat) : Int)) (hj : 0 ≤ j) : (a.set i v).get j = if j = i then v else a.get j := by
 unfold VArr.set VArr.get
 have := a.h
 by_cases h : j = i
 ·subst h; rw [if_pos rfl]
  simp only [List.getD_eq_getElem?_getD]
  rw [List.getElem?_set_self (by omega)]; rfl
 ·rw [if_neg h]
  simp only [List.getD_eq_getElem?_getD]
  rw [List.getElem?_set_ne (by omega)]
theorem v_ext {n : Nat} {a b : VArr n} (h : ∀ j : Int, 0 ≤ j → j < ((n : Nat) : Int) → a.get j = b.get j) : a = b := by
 refine VArr.ext (List.ext_getElem (by rw [a.h, b.h]) fun i h1 h2 => ?_)
 have := h ((i : Nat) : Int) (by omega) (by have := a.h; omega)
 unfold VArr.get at this
 simp only [Int.toNat_natCast, List.getD_eq_getElem?_getD, List.getElem?_eq_getElem h1, List.getElem?_eq_getElem h2, Option.getD_some] at this
 exact this
def vmax {n : Nat} (a b : VArr n) : VArr n := ⟨(List.range n).map fun i => max (a.get ((i : Nat) : Int)) (b.get ((i : Nat) : Int)), by simp⟩
theorem vmax_get {n : Nat} (a b : VArr n) (j : Int) (h0 : 0 ≤ j) (h1 : j < ((n : Nat) : Int)) : (vmax a b).get j = max (a.get j) (b.get j) := by
 show ((List.range n).map fun i => max (a.get ((i : Nat) : Int)) (b.get ((i : Nat) : Int))).getD j.toNat 0 = _
 rw [List.getD_eq_getElem?_getD, List.getElem?_map, List.getElem?_range (by omega)]
 simp only [Option.map_some, Option.getD_some]
 rw [show ((j.toNat : Nat) : Int) = j from by omega]
def vmaxU {n : Nat} (i : Nat) (a b : VArr n) : VArr n := ⟨(List.range n).map fun q => if q < i then max (a.get ((q : Nat) : Int)) (b.get ((q : Nat) : Int)) else a.get ((q : Nat) : Int), by simp⟩
theorem vmaxU_get {n : Nat} (i : Nat) (a b : VArr n) (j : Int) (h0 : 0 ≤ j) (h1 : j < ((n : Nat) : Int)) : (vmaxU i a b).get j = if j < ((i : Nat) : Int) then max (a.get j) (b.get j) else a.get j := by
 show ((List.range n).map fun q => if q < i then max (a.get ((q : Nat) : Int)) (b.get ((q : Nat) : Int)) else a.get ((q : Nat) : Int)).getD j.toNat 0 = _
 rw [List.getD_eq_getElem?_getD, List.getElem?_map, List.getElem?_range (by omega)]
 simp only [Option.map_some, Option.getD_some]
 rw [show ((j.toNat : Nat) : Int) = j from by omega]
 by_cases h : j < ((i : Nat) : Int)
 ·rw [if_pos h, if_pos (by omega)]
 ·rw [if_neg h, if_neg (by omega)]
theorem vmaxU_0 {n : Nat} (a b : VArr n) : vmaxU 0 a b = a := v_ext fun j h0 h1 => by rw [vmaxU_get _ _ _ _ h0 h1, if_neg (by omega)]
theorem vmaxU_n {n : Nat} (a b : VArr n) : vmaxU n a b = vmax a b := v_ext fun j h0 h1 => by rw [vmaxU_get _ _ _ _ h0 h1, if_pos (by omega), vmax_get _ _ _ h0 h1]
theorem vmaxU_step {n : Nat} (i : Nat) (hi : i < n) (a b : VArr n) : (vmaxU i a b).set ((i : Nat) : Int) (max ((vmaxU i a b).get ((i : Nat) : Int)) (b.get ((i : Nat) : Int))) = vmaxU (i + 1) a b := v_ext fun j h0 h1 => by
 rw [get_set _ _ _ _ (by omega) h0, vmaxU_get i a b _ (show (0 : Int) ≤ ((i : Nat) : Int) by omega) (by omega)]
 by_cases h : j = ((i : Nat) : Int)
 ·subst h; rw [if_pos rfl, if_neg (by omega), vmaxU_get _ _ _ _ h0 h1, if_pos (by omega)]
 ·rw [if_neg h, vmaxU_get _ _ _ _ h0 h1, vmaxU_get _ _ _ _ h0 h1]
  by_cases h2 : j < ((i : Nat) : Int)
  ·rw [if_pos h2, if_pos (by omega)]
  ·rw [if_neg h2, if_neg (by omega)]
theorem ix_set {xs : List α} {i : Int} (h : 0 ≤ i ∧ i < ((xs.length : Nat) : Int)) (y : α) : ix (xs.set i.toNat y) i = y := by
 unfold ix; rw [List.getD_eq_getElem?_getD, List.getElem?_set_self (by omega)]; rfl
theorem ix_set_ne {xs : List α} {i j : Int} (h : i.toNat ≠ j.toNat) (y : α) : ix (xs.set i.toNat y) j = ix xs j := by
 unfold ix; rw [List.getD_eq_getElem?_getD, List.getD_eq_getElem?_getD, List.getElem?_set_ne h]
omit [Enc α] in
theorem set_set {xs : List α} (i : Nat) (x y : α) : (xs.set i x).set i y = xs.set i y := List.set_set ..
theorem set_ix {xs : List α} {i : Int} (h : 0 ≤ i ∧ i < ((xs.length : Nat) : Int)) : xs.set i.toNat (ix xs i) = xs := by
 unfold ix
 rw [List.getD_eq_getElem?_getD, List.getElem?_eq_getElem (show i.toNat < xs.length by omega)]
 exact List.set_getElem_self _
theorem join2_eq (t c : V) : order_stamp_join_2 t c = some (vmax c t) := by
 unfold order_stamp_join_2
 have := loopO_all (step := order_stamp_join_2_l1 t) (fun i => (((i : Nat) : Int), vmaxU i c t)) (some (vmax c t)) 65 (fun i hi => by
  unfold order_stamp_join_2_l1
  simp only
  rw [decide_eq_true (show (((i : Nat) : Int) < 65) by omega), decide_eq_true (show (0 : Int) ≤ ((i : Nat) : Int) by omega), decide_eq_true (show ((i : Nat) : Int) < ((65 : Nat) : Int) by omega)]
  simp only [cond_true, Bool.and_self, vmaxU_step i hi, wrap_n1 i (by omega)]) (by
  unfold order_stamp_join_2_l1
  simp only
  rw [decide_eq_false (show ¬ (((65 : Nat) : Int) < 65) by omega)]
  simp only [cond_false, vmaxU_n, Option.map_some])
 rw [vmaxU_0] at this
 exact this
theorem join_eq (si : Int) (t : V) (c : List V) (h : 0 ≤ si ∧ si < ((c.length : Nat) : Int)) : order_stamp_join si t c = some (c.set si.toNat (vmax (ix c si) t)) := by
 unfold order_stamp_join
 rw [decide_eq_true h, cond_true]
 have := loopO_all (step := order_stamp_join_l1 si t) (fun i => (((i : Nat) : Int), c.set si.toNat (vmaxU i (ix c si) t))) (some (c.set si.toNat (vmax (ix c si) t))) 65 (fun i hi => by
  unfold order_stamp_join_l1
  simp only
  rw [decide_eq_true (show 0 ≤ si ∧ si < (((c.set si.toNat (vmaxU i (ix c si) t)).length : Nat) : Int) by rw [List.length_set]; exact h), decide_eq_true (show (((i : Nat) : Int) < 65) by omega), decide_eq_true (show (0 : Int) ≤ ((i : Nat) : Int) by omega), decide_eq_true (show ((i : Nat) : Int) < ((65 : Nat) : Int) by omega)]
  simp only [cond_true, Bool.and_self, ix_set h, set_set, vmaxU_step i hi, wrap_n1 i (by omega)]) (by
  unfold order_stamp_join_l1
  simp only
  rw [decide_eq_true (show 0 ≤ si ∧ si < (((c.set si.toNat (vmaxU 65 (ix c si) t)).length : Nat) : Int) by rw [List.length_set]; exact h), decide_eq_false (show ¬ (((65 : Nat) : Int) < 65) by omega)]
  simp only [cond_true, cond_false, vmaxU_n, Option.map_some])
 rw [vmaxU_0, set_ix h] at this
 exact this
theorem join3_eq (si : Int) (t : V) (c : List guard) (h : 0 ≤ si ∧ si < ((c.length : Nat) : Int)) : order_stamp_join_3 si t c = some (c.set si.toNat { ix c si with all := vmax (ix c si).all t }) := by
 unfold order_stamp_join_3
 rw [decide_eq_true h, cond_true]
 have := loopO_all (step := order_stamp_join_3_l1 si t) (fun i => (((i : Nat) : Int), c.set si.toNat { ix c si with all := vmaxU i (ix c si).all t })) (some (c.set si.toNat { ix c si with all := vmax (ix c si).all t })) 65 (fun i hi => by
  unfold order_stamp_join_3_l1
  simp only
  rw [decide_eq_true (show 0 ≤ si ∧ si < (((c.set si.toNat ({ ix c si with all := vmaxU i (ix c si).all t } : guard)).length : Nat) : Int) by rw [List.length_set]; exact h), decide_eq_true (show (((i : Nat) : Int) < 65) by omega), decide_eq_true (show (0 : Int) ≤ ((i : Nat) : Int) by omega), decide_eq_true (show ((i : Nat) : Int) < ((65 : Nat) : Int) by omega)]
  simp only [cond_true, Bool.and_self, ix_set h, set_set, vmaxU_step i hi, wrap_n1 i (by omega)]) (by
  unfold order_stamp_join_3_l1
  simp only
  rw [decide_eq_true (show 0 ≤ si ∧ si < (((c.set si.toNat ({ ix c si with all := vmaxU 65 (ix c si).all t } : guard)).length : Nat) : Int) by rw [List.length_set]; exact h), decide_eq_false (show ¬ (((65 : Nat) : Int) < 65) by omega)]
  simp only [cond_true, cond_false, vmaxU_n, Option.map_some])
 rw [vmaxU_0, set_ix h] at this
 exact this
theorem join4_eq (si : Int) (t : V) (c : List guard) (h : 0 ≤ si ∧ si < ((c.length : Nat) : Int)) : order_stamp_join_4 si t c = some (c.set si.toNat { ix c si with writers := vmax (ix c si).writers t }) := by
 unfold order_stamp_join_4
 rw [decide_eq_true h, cond_true]
 have := loopO_all (step := order_stamp_join_4_l1 si t) (fun i => (((i : Nat) : Int), c.set si.toNat { ix c si with writers := vmaxU i (ix c si).writers t })) (some (c.set si.toNat { ix c si with writers := vmax (ix c si).writers t })) 65 (fun i hi => by
  unfold order_stamp_join_4_l1
  simp only
  rw [decide_eq_true (show 0 ≤ si ∧ si < (((c.set si.toNat ({ ix c si with writers := vmaxU i (ix c si).writers t } : guard)).length : Nat) : Int) by rw [List.length_set]; exact h), decide_eq_true (show (((i : Nat) : Int) < 65) by omega), decide_eq_true (show (0 : Int) ≤ ((i : Nat) : Int) by omega), decide_eq_true (show ((i : Nat) : Int) < ((65 : Nat) : Int) by omega)]
  simp only [cond_true, Bool.and_self, ix_set h, set_set, vmaxU_step i hi, wrap_n1 i (by omega)]) (by
  unfold order_stamp_join_4_l1
  simp only
  rw [decide_eq_true (show 0 ≤ si ∧ si < (((c.set si.toNat ({ ix c si with writers := vmaxU 65 (ix c si).writers t } : guard)).length : Nat) : Int) by rw [List.length_set]; exact h), decide_eq_false (show ¬ (((65 : Nat) : Int) < 65) by omega)]
  simp only [cond_true, cond_false, vmaxU_n, Option.map_some])
 rw [vmaxU_0, set_ix h] at this
 exact this
structure Mok (ks : List Int) (xs : List α) : Prop where
 len : ks.length = xs.length
 nd : ks.Nodup
def G (ks : List Int) (xs : List α) (k : Int) : α := if kHas ks k = true then ix xs (kAt ks k) else default
theorem has_mem {ks : List Int} {k : Int} : kHas ks k = true ↔ k ∈ ks := by
 unfold kHas
 rw [List.any_eq_true]
 constructor
 ·rintro ⟨x, hx, he⟩
  have : k = x := by simpa using he
  subst this; exact hx
 ·exact fun h => ⟨k, h, by simp⟩
theorem at_lt {ks : List Int} {k : Int} (h : kHas ks k = true) : 0 ≤ kAt ks k ∧ kAt ks k < ((ks.length : Nat) : Int) := by
 unfold kAt
 unfold kHas at h
 have : List.findIdx (fun a => k == a) ks < ks.length := List.findIdx_lt_length_of_exists (by
  rw [List.any_eq_true] at h
  exact h)
 omega
theorem at_get {ks : List Int} {k : Int} (h : kHas ks k = true) (h2 : (kAt ks k).toNat < ks.length) : ks[(kAt ks k).toNat] = k := by
 have h3 : List.findIdx (fun a => k == a) ks < ks.length := by have := at_lt h; unfold kAt at this; omega
 have := List.findIdx_getElem (p := fun a => k == a) (xs := ks) (w := h3)
 have he : k = ks[List.findIdx (fun a => k == a) ks] := by simpa using this
 simp only [kAt, Int.toNat_natCast]
 exact he.symm
theorem at_inj {ks : List Int} {j k : Int} (hj : kHas ks j = true) (hk : kHas ks k = true) (h : (kAt ks j).toNat = (kAt ks k).toNat) : j = k := by
 have h1 := at_lt hj
 have h2 := at_lt hk
 have e1 := at_get hj (by omega)
 have e2 := at_get hk (by omega)
 simp only [h] at e1
 exact e1.symm.trans e2
theorem has_app {ks : List Int} {k j : Int} : kHas (ks ++ [k]) j = (kHas ks j || (j == k)) := by
 unfold kHas; rw [List.any_append]; simp
theorem at_app_old {ks : List Int} {k j : Int} (h : kHas ks j = true) : kAt (ks ++ [k]) j = kAt ks j := by
 unfold kAt
 have h3 : List.findIdx (fun a => j == a) ks < ks.length := by have := at_lt h; unfold kAt at this; omega
 rw [List.findIdx_append, if_pos h3]
theorem at_app_new {ks : List Int} {k : Int} (h : kHas ks k = false) : kAt (ks ++ [k]) k = ((ks.length : Nat) : Int) := by
 unfold kAt
 have h3 : ¬ List.findIdx (fun a => k == a) ks < ks.length := fun hlt => by
  have := List.findIdx_getElem (p := fun a => k == a) (xs := ks) (w := hlt)
  have hm : k ∈ ks := by
   have he : k = ks[List.findIdx (fun a => k == a) ks] := by simpa using this
   rw [he]; exact List.getElem_mem hlt
  rw [has_mem.2 hm] at h; cases h
 rw [List.findIdx_append, if_neg h3]
 simp [List.findIdx_cons]
omit [Enc α] in
theorem Mok.app {ks : List Int} {xs : List α} (h : Mok ks xs) {k : Int} (hk : kHas ks k = false) (y : α) : Mok (ks ++ [k]) (xs ++ [y]) := by
 refine ⟨by simp [h.len], ?_⟩
 rw [nodup_snoc]
 refine ⟨h.nd, fun hm => ?_⟩
 rw [has_mem.2 hm] at hk; cases hk
omit [Enc α] in
theorem Mok.set {ks : List Int} {xs : List α} (h : Mok ks xs) (i : Nat) (y : α) : Mok ks (xs.set i y) := ⟨by rw [List.length_set]; exact h.len, h.nd⟩
theorem G_app {ks : List Int} {xs : List α} (h : Mok ks xs) {k : Int} (hk : kHas ks k = false) (y : α) (j : Int) : G (ks ++ [k]) (xs ++ [y]) j = if j = k then y else G ks xs j := by
 unfold G
 by_cases hj : j = k
 ·subst hj
  rw [if_pos rfl, has_app, beq_self_eq_true, Bool.or_true, if_pos rfl, at_app_new hk]
  unfold ix
  rw [h.len]
  simp
 ·rw [if_neg hj, has_app, show (j == k) = false from by simpa using hj, Bool.or_false]
  by_cases hh : kHas ks j = true
  ·rw [if_pos hh, if_pos hh, at_app_old hh]
   have := at_lt hh
   have hl := h.len
   unfold ix
   rw [List.getD_eq_getElem?_getD, List.getD_eq_getElem?_getD, List.getElem?_append_left (by omega)]
  ·rw [if_neg hh, if_neg hh]
theorem G_set {ks : List Int} {xs : List α} (h : Mok ks xs) {k : Int} (hk : kHas ks k = true) (y : α) (j : Int) : G ks (xs.set (kAt ks k).toNat y) j = if j = k then y else G ks xs j := by
 unfold G
 have hl := h.len
 have hlt := at_lt hk
 by_cases hj : j = k
 ·subst hj
  rw [if_pos rfl, if_pos hk, ix_set (by omega)]
 ·rw [if_neg hj]
  by_cases hh : kHas ks j = true
  ·rw [if_pos hh, if_pos hh, ix_set_ne (fun e => hj (at_inj hk hh e).symm)]
  ·rw [if_neg hh, if_neg hh]
theorem G_no {ks : List Int} {xs : List α} {k : Int} (h : kHas ks k = false) : G ks xs k = default := by unfold G; rw [h, if_neg (by simp)]
theorem G_yes {ks : List Int} {xs : List α} {k : Int} (h : kHas ks k = true) : G ks xs k = ix xs (kAt ks k) := by unfold G; rw [if_pos h]
structure AtOk (ks : List Int) (xs : List α) (k : Int) (r : Int × List Int × List α) : Prop where
 ok : Mok r.2.1 r.2.2
 has : kHas r.2.1 k = true
 i : r.1 = kAt r.2.1 k
 same : ∀ j, G r.2.1 r.2.2 j = G ks xs j
 lt : 0 ≤ r.1 ∧ r.1 < ((r.2.2.length : Nat) : Int)
theorem at_stamp_ok (k : Int) (ks : List Int) (xs : List V) (h : Mok ks xs) : ∃ r, order_at_stamp k ks xs = some r ∧ AtOk ks xs k r := by
 unfold order_at_stamp order_at_stamp_j1
 have hl := h.len
 rw [decide_eq_true hl, cond_true]
 cases hk : kHas ks k with
 | true =>
  have hlt := at_lt hk
  rw [decide_eq_true hlt.1, decide_eq_true (show kAt ks k < ((xs.length : Nat) : Int) by omega)]
  simp only [cond_true, Bool.and_self]
  exact ⟨_, rfl, h, hk, rfl, fun _ => rfl, by simp only; omega⟩
 | false =>
  have hd : (default : V) = (⟨List.replicate 65 0, by simp⟩ : V) := rfl
  have hkk : kHas (ks ++ [k]) k = true := by rw [has_app, beq_self_eq_true, Bool.or_true]
  have h2 := h.app hk (default : V)
  have hlt := at_lt hkk
  have hl2 := h2.len
  rw [decide_eq_true hl2, hkk, decide_eq_true hlt.1, decide_eq_true (show kAt (ks ++ [k]) k < (((xs ++ [(default : V)]).length : Nat) : Int) by omega)]
  simp only [cond_true, cond_false, Bool.and_self]
  refine ⟨_, rfl, h2, hkk, rfl, fun j => ?_, by simp only; omega⟩
  simp only
  rw [G_app h hk]
  by_cases hj : j = k
  ·subst hj; rw [if_pos rfl, G_no hk]
  ·rw [if_neg hj]
theorem at_guard_ok (k : Int) (ks : List Int) (xs : List guard) (h : Mok ks xs) : ∃ r, order_at_guard k ks xs = some r ∧ AtOk ks xs k r := by
 unfold order_at_guard order_at_guard_j1
 have hl := h.len
 rw [decide_eq_true hl, cond_true]
 cases hk : kHas ks k with
 | true =>
  have hlt := at_lt hk
  rw [decide_eq_true hlt.1, decide_eq_true (show kAt ks k < ((xs.length : Nat) : Int) by omega)]
  simp only [cond_true, Bool.and_self]
  exact ⟨_, rfl, h, hk, rfl, fun _ => rfl, by simp only; omega⟩
 | false =>
  have hkk : kHas (ks ++ [k]) k = true := by rw [has_app, beq_self_eq_true, Bool.or_true]
  have h2 := h.app hk ({ writers := default, all := default } : guard)
  have hlt := at_lt hkk
  have hl2 := h2.len
  rw [decide_eq_true hl2, hkk, decide_eq_true hlt.1, decide_eq_true (show kAt (ks ++ [k]) k < (((xs ++ [({ writers := default, all := default } : guard)]).length : Nat) : Int) by omega)]
  simp only [cond_true, cond_false, Bool.and_self]
  refine ⟨_, rfl, h2, hkk, rfl, fun j => ?_, by simp only; omega⟩
  simp only
  rw [G_app h hk]
  by_cases hj : j = k
  ·subst hj; rw [if_pos rfl, G_no hk]; rfl
  ·rw [if_neg hj]
end Go.Proofs.Ytelegonboeacaaa
end

section
namespace Go.Proofs.Ytelegonboeacaaa
open Go Go.Sx
set_option linter.unusedVariables false
set_option linter.unusedSimpArgs false
def upd1 {β : Type} (f : Int → β) (k : Int) (y : β) : Int → β := fun j => if j = k then y else f j
structure A where
 T : Int → V
 P : List pipe
 L : Int → guard
 R : Int → V
def inc (v : V) (t : Int) : V := v.set t (IntKind.i64.wrap (v.get t + 1))
def setP (P : List pipe) (o : Int) (p : pipe) : List pipe := P.set o.toNat p
def seeA (caps : List Int) (a : A) (e : GEvent) : V × A :=
 let s0 := inc (a.T e.Task) e.Task
 let p := ixD a.P e.Obj
 if e.Op = 15 then
  if p.sends.length ≤ p.gets.length then
   let s := if p.closed = true then vmax s0 p.shut else s0
   (s, { a with T := upd1 a.T e.Task s })
  else
   let s := vmax s0 (ix p.sends ((p.gets.length : Nat) : Int))
   let P' := setP a.P e.Obj { p with gets := p.gets ++ [s] }
   let T1 := upd1 a.T e.Task s
   let l := ix p.late ((p.gets.length : Nat) : Int)
   if ix caps e.Obj = 0 ∧ l ≠ e.Task then (s, { a with P := P', T := upd1 T1 l (vmax (T1 l) s) }) else (s, { a with P := P', T := T1 })
 else if e.Op = 14 then
  let k := IntKind.i64.wrap (((p.sends.length : Nat) : Int) - ix caps e.Obj)
  let s := if 0 < ix caps e.Obj ∧ 0 ≤ k ∧ k < ((p.gets.length : Nat) : Int) then vmax s0 (ix p.gets k) else s0
  (s, { a with P := setP a.P e.Obj { p with sends := p.sends ++ [s], late := p.late ++ [e.Task] }, T := upd1 a.T e.Task s })
 else if e.Op = 16 then (s0, { a with P := setP a.P e.Obj { p with shut := s0, closed := true }, T := upd1 a.T e.Task s0 })
 else if e.Op = 17 then
  let s := vmax s0 (if e.Value = 1 then (a.L e.Obj).all else (a.L e.Obj).writers)
  (s, { a with T := upd1 a.T e.Task s })
 else if e.Op = 18 then (s0, { a with T := upd1 a.T e.Task s0, L := upd1 a.L e.Obj ⟨if e.Value = 1 then vmax (a.L e.Obj).writers s0 else (a.L e.Obj).writers, vmax (a.L e.Obj).all s0⟩ })
 else if e.Op = 19 then (s0, { a with T := upd1 a.T e.Task s0, R := upd1 a.R e.Obj (vmax (a.R e.Obj) s0) })
 else if e.Op = 20 then (vmax s0 (a.R e.Obj), { a with T := upd1 a.T e.Task (vmax s0 (a.R e.Obj)) })
 else if e.Op = 11 then (s0, { a with T := upd1 (upd1 a.T e.Task s0) e.Value (vmax (upd1 a.T e.Task s0 e.Value) s0) })
 else (s0, { a with T := upd1 a.T e.Task s0 })
structure EvOk (np : Nat) (e : GEvent) : Prop where
 task : 1 ≤ e.Task ∧ e.Task ≤ 64
 op : 8 ≤ e.Op ∧ e.Op ≤ 22
 obj : 0 ≤ e.Obj ∧ e.Obj ≤ 20
 pipe : e.Op = 14 ∨ e.Op = 15 ∨ e.Op = 16 → e.Obj < ((np : Nat) : Int)
 go : e.Op = 11 → 1 ≤ e.Value ∧ e.Value ≤ 64
def CapsOk (caps : List Int) : Prop := ∀ i, (h : i < caps.length) → 0 ≤ caps[i] ∧ caps[i] ≤ 100
structure PipeOk (n : Nat) (p : pipe) : Prop where
 late : p.late.length = p.sends.length
 s : p.sends.length ≤ n
 g : p.gets.length ≤ n
structure Wf (caps : List Int) (n : Nat) (a : A) : Prop where
 len : a.P.length = caps.length
 ps : ∀ p ∈ a.P, PipeOk n p
structure Rel (k1 : List Int) (x1 : List V) (p : List pipe) (k7 : List Int) (x8 : List guard) (k9 : List Int) (x10 : List V) (a : A) : Prop where
 m1 : Mok k1 x1
 m2 : Mok k7 x8
 m3 : Mok k9 x10
 T : ∀ j, G k1 x1 j = a.T j
 P : p = a.P
 L : ∀ j, G k7 x8 j = a.L j
 R : ∀ j, G k9 x10 j = a.R j
theorem j1_ok {caps : List Int} {si : Int} {k1 : List Int} {p : List pipe} {k7 k9 : List Int} {x1 : List V} {x8 : List guard} {x10 : List V} (h1 : k1.length = x1.length) (h2 : k7.length = x8.length) (h3 : k9.length = x10.length) (h : 0 ≤ si ∧ si < ((x1.length : Nat) : Int)) :
  order_watch_see_j1 caps si k1 p k7 k9 x1 x8 x10 = some (ix x1 si, caps, k1, p, k7, k9, x1, x8, x10) := by
 unfold order_watch_see_j1
 rw [decide_eq_true h1, decide_eq_true h2, decide_eq_true h3, decide_eq_true h]; rfl
theorem j2_ok {caps : List Int} {p : List pipe} {k7 k9 : List Int} {x8 : List guard} {x10 : List V} {si : Int} {k1 : List Int} {x1 : List V} (h1 : k1.length = x1.length) (h2 : k7.length = x8.length) (h3 : k9.length = x10.length) (h : 0 ≤ si ∧ si < ((x1.length : Nat) : Int)) :
  order_watch_see_j2 caps p k7 k9 x8 x10 si k1 x1 = some (ix x1 si, caps, k1, p, k7, k9, x1, x8, x10) := by
 unfold order_watch_see_j2
 rw [decide_eq_true h1, decide_eq_true h2, decide_eq_true h3, decide_eq_true h, j1_ok h1 h2 h3 h]; rfl
theorem setP_set {P : List pipe} {o : Int} (x y : pipe) : (P.set o.toNat x).set o.toNat y = setP P o y := List.set_set ..
theorem ixD_set {P : List pipe} {o : Int} (h : 0 ≤ o ∧ o < ((P.length : Nat) : Int)) (y : pipe) : ixD (P.set o.toNat y) o = y := by
 rw [ixD_pos h.1]; exact ix_set h y
theorem j3_ok {e : GEvent} {caps : List Int} {p : List pipe} {k7 k9 : List Int} {x8 : List guard} {x10 : List V} {si : Int} {k1 : List Int} {x1 : List V} (h1 : k1.length = x1.length) (h2 : k7.length = x8.length) (h3 : k9.length = x10.length) (h : 0 ≤ si ∧ si < ((x1.length : Nat) : Int))
  (ho : 0 ≤ e.Obj ∧ e.Obj < ((p.length : Nat) : Int)) (hs : (ixD p e.Obj).sends.length ≤ 4000) (hl : (ixD p e.Obj).late.length ≤ 4000) :
  order_watch_see_j3 e caps p k7 k9 x8 x10 si k1 x1 = some (ix x1 si, caps, k1, setP p e.Obj { ixD p e.Obj with sends := (ixD p e.Obj).sends ++ [ix x1 si], late := (ixD p e.Obj).late ++ [e.Task] }, k7, k9, x1, x8, x10) := by
 unfold order_watch_see_j3
 rw [decide_eq_true h1, decide_eq_true h2, decide_eq_true h3, decide_eq_true h, decide_eq_true ho.1, decide_eq_true ho.2, decide_eq_true (show ((ixD p e.Obj).sends ++ ([ix x1 si] : List V)).length * 520 ≤ 140737488355328 by simp; omega), decide_eq_true (show ((ixD p e.Obj).late ++ ([e.Task] : List Int)).length * 8 ≤ 140737488355328 by simp; omega)]
 simp only [cond_true, Bool.and_self, ixD_set ho, setP_set]
 rw [j1_ok h1 h2 h3 h]
def SeeOk (caps : List Int) (a : A) (e : GEvent) (o : Option (V × List Int × List Int × List pipe × List Int × List Int × List V × List guard × List V)) : Prop :=
 ∃ k1 p k7 k9 x1 x8 x10, o = some ((seeA caps a e).1, caps, k1, p, k7, k9, x1, x8, x10) ∧ Rel k1 x1 p k7 x8 k9 x10 (seeA caps a e).2
theorem vmax_self {n : Nat} (v : VArr n) : vmax v v = v := v_ext fun j h0 h1 => by rw [vmax_get _ _ _ h0 h1, Int.max_self]
theorem see_ok {caps : List Int} {n : Nat} {a : A} {e : GEvent} {k1 : List Int} {x1 : List V} {p : List pipe} {k7 : List Int} {x8 : List guard} {k9 : List Int} {x10 : List V} (hR : Rel k1 x1 p k7 x8 k9 x10 a) (hW : Wf caps n a) (hn : n ≤ 3000) (hc : CapsOk caps) (he : EvOk caps.length e) :
  SeeOk caps a e (order_watch_see e caps k1 p k7 k9 x1 x8 x10) := by
 obtain ⟨m1, m2, m3, hT, rfl, hL, hRR⟩ := hR
 unfold order_watch_see
 rw [decide_eq_true m1.len, decide_eq_true m2.len, decide_eq_true m3.len]
 simp only [cond_true]
 obtain ⟨⟨si, k1', x1'⟩, hr, ho⟩ := at_stamp_ok e.Task k1 x1 m1
 obtain ⟨o1, o2, o3, o4, o5⟩ := ho
 simp only at o1 o2 o3 o4 o5
 rw [hr]
 simp only [Option.bind_some]
 rw [decide_eq_true o1.len, decide_eq_true o5, decide_eq_true (show 0 ≤ e.Task by have := he.task; omega), decide_eq_true (show e.Task < ((65 : Nat) : Int) by have := he.task; omega)]
 simp only [cond_true, Bool.and_self]
 -- the task's stamp, one farther
 have e0 : ix x1' si = a.T e.Task := by rw [← hT, ← o4, G_yes o2, o3]
 have es0 : (ix x1' si).set e.Task (IntKind.i64.wrap ((ix x1' si).get e.Task + 1)) = inc (a.T e.Task) e.Task := by rw [e0]; rfl
 rw [es0]
 generalize hs0 : inc (a.T e.Task) e.Task = s0
 have m1' := o1.set si.toNat s0
 have l1' := m1'.len
 have T' : ∀ y j, G k1' (x1'.set si.toNat y) j = upd1 a.T e.Task y j := fun y j => by
  rw [o3, G_set o1 o2]
  unfold upd1
  by_cases hj : j = e.Task
  ·rw [if_pos hj, if_pos hj]
  ·rw [if_neg hj, if_neg hj, o4, hT]
 have o5' : 0 ≤ si ∧ si < (((x1'.set si.toNat s0).length : Nat) : Int) := by rw [List.length_set]; exact o5
 have ixs : ix (x1'.set si.toNat s0) si = s0 := ix_set o5 s0
 have jn : ∀ t, order_stamp_join si t (x1'.set si.toNat s0) = some (x1'.set si.toNat (vmax s0 t)) := fun t => by
  rw [join_eq si t _ o5', ixs, set_set]
 have rl : ∀ y, Rel k1' (x1'.set si.toNat y) a.P k7 x8 k9 x10 { a with T := upd1 a.T e.Task y } := fun y => ⟨o1.set _ _, m2, m3, T' y, rfl, hL, hRR⟩
 have l1 : ∀ y, k1'.length = (x1'.set si.toNat y).length := fun y => (o1.set _ _).len
 have o5y : ∀ y : V, 0 ≤ si ∧ si < (((x1'.set si.toNat y).length : Nat) : Int) := fun y => by rw [List.length_set]; exact o5
 have ixy : ∀ y, ix (x1'.set si.toNat y) si = y := fun y => ix_set o5 y
 by_cases h15 : e.Op = 15
 ·rw [show (e.Op == 15) = true from by simp [h15], cond_true]
  have hob : 0 ≤ e.Obj ∧ e.Obj < ((a.P.length : Nat) : Int) := ⟨he.obj.1, by rw [hW.len]; exact he.pipe (.inr (.inl h15))⟩
  have hmem : ixD a.P e.Obj ∈ a.P := by
   rw [ixD_pos hob.1]; unfold ix
   rw [List.getD_eq_getElem?_getD, List.getElem?_eq_getElem (show e.Obj.toNat < a.P.length by omega)]
   exact List.getElem_mem _
  have hp := hW.ps _ hmem
  rw [decide_eq_true hob.1, decide_eq_true hob.2]
  simp only [cond_true, Bool.and_self]
  unfold SeeOk seeA
  simp only [h15, if_true, hs0]
  by_cases hle : (ixD a.P e.Obj).sends.length ≤ (ixD a.P e.Obj).gets.length
  ·rw [decide_eq_true (show (((ixD a.P e.Obj).sends.length : Nat) : Int) ≤ (((ixD a.P e.Obj).gets.length : Nat) : Int) by omega)]
   simp only [cond_true, hle, if_true]
   cases hcl : (ixD a.P e.Obj).closed with
   | true =>
    simp only [cond_true, if_true, jn, Option.bind_some]
    rw [decide_eq_true (l1 _), decide_eq_true (o5y _)]
    simp only [cond_true]
    rw [j2_ok (l1 _) m2.len m3.len (o5y _), ixy]
    exact ⟨_, _, _, _, _, _, _, rfl, rl _⟩
   | false =>
    simp only [cond_false, Bool.false_eq_true, if_false]
    rw [j2_ok (l1 _) m2.len m3.len (o5y _), ixy]
    exact ⟨_, _, _, _, _, _, _, rfl, rl _⟩
  ·rw [decide_eq_false (show ¬ (((ixD a.P e.Obj).sends.length : Nat) : Int) ≤ (((ixD a.P e.Obj).gets.length : Nat) : Int) by omega)]
   simp only [cond_false, hle, if_false]
   rw [decide_eq_true (show (0 : Int) ≤ (((ixD a.P e.Obj).gets.length : Nat) : Int) by omega), decide_eq_true (show (((ixD a.P e.Obj).gets.length : Nat) : Int) < (((ixD a.P e.Obj).sends.length : Nat) : Int) by omega)]
   simp only [cond_true, Bool.and_self, jn, Option.bind_some]
   rw [decide_eq_true (l1 _), decide_eq_true (o5y _)]
   simp only [cond_true, ixy]
   generalize hs : vmax s0 (ix (ixD a.P e.Obj).sends (((ixD a.P e.Obj).gets.length : Nat) : Int)) = s
   rw [decide_eq_true (show ((ixD a.P e.Obj).gets ++ ([s] : List V)).length * 520 ≤ 140737488355328 by have := hp.g; simp; omega), decide_eq_true (show e.Obj < ((caps.length : Nat) : Int) by rw [← hW.len]; exact hob.2)]
   simp only [cond_true, ixD_set hob]
   have hlt : (((ixD a.P e.Obj).gets.length : Nat) : Int) < (((ixD a.P e.Obj).late.length : Nat) : Int) := by rw [hp.late]; omega
   rw [decide_eq_true hlt]
   simp only [Bool.or_true, cond_true, Bool.and_self, Bool.true_and]
   generalize hl : ix (ixD a.P e.Obj).late (((ixD a.P e.Obj).gets.length : Nat) : Int) = l
   by_cases hq : ix caps e.Obj = 0 ∧ l ≠ e.Task
   ·rw [show (ix caps e.Obj == 0) = true from by simp [hq.1], show (l != e.Task) = true from by simp [hq.2]]
    simp only [Bool.and_self, cond_true, if_pos hq]
    have hne : l ≠ e.Task := hq.2
    cases hk : kHas k1' l with
    | true =>
     have hlt2 := at_lt hk
     have hla := at_lt hk
     rw [show order_at_stamp_1 l k1' (x1'.set si.toNat s) = some (kAt k1' l) by
      unfold order_at_stamp_1
      rw [decide_eq_true (l1 s), decide_eq_true hlt2.1, decide_eq_true (show kAt k1' l < (((x1'.set si.toNat s).length : Nat) : Int) by rw [← l1 s]; exact hlt2.2)]; rfl]
     simp only [cond_true, Option.bind_some]
     have hr2 : 0 ≤ kAt k1' l ∧ kAt k1' l < (((x1'.set si.toNat s).length : Nat) : Int) := by rw [← l1 s]; exact hlt2
     rw [decide_eq_true hr2, join_eq _ _ _ hr2]
     simp only [cond_true, Option.bind_some]
     have l3 : ∀ y, k1'.length = ((x1'.set si.toNat s).set (kAt k1' l).toNat y).length := fun y => by rw [List.length_set]; exact l1 s
     have o3' : ∀ y, 0 ≤ si ∧ si < ((((x1'.set si.toNat s).set (kAt k1' l).toNat y).length : Nat) : Int) := fun y => by rw [List.length_set]; exact o5y s
     have r3 : ∀ y, 0 ≤ kAt k1' l ∧ kAt k1' l < ((((x1'.set si.toNat s).set (kAt k1' l).toNat y).length : Nat) : Int) := fun y => by rw [List.length_set]; exact hr2
     rw [decide_eq_true (l3 _), decide_eq_true (o3' _), decide_eq_true (r3 _)]
     simp only [cond_true]
     rw [j1_ok (l3 _) m2.len m3.len (o3' _)]
     have hx : ∀ y, ix ((x1'.set si.toNat s).set (kAt k1' l).toNat y) si = s := fun y => by
      rw [ix_set_ne (fun ee => hne (at_inj hk o2 (by rw [ee, o3]))), ixy]
     rw [hx]
     refine ⟨_, _, _, _, _, _, _, rfl, (o1.set _ _).set _ _, m2, m3, fun j => ?_, rfl, hL, hRR⟩
     rw [G_set (o1.set _ _) hk, T']
     have e5 : ix (x1'.set si.toNat s) (kAt k1' l) = upd1 a.T e.Task s l := by rw [← T', G_yes hk]
     rw [e5]
     rfl
    | false =>
     simp only [cond_false]
     rw [show order_at_stamp_2 l k1' (x1'.set si.toNat s) = some (default, k1') by unfold order_at_stamp_2; rw [decide_eq_true (l1 s)]; rfl]
     simp only [Option.bind_some]
     rw [decide_eq_true (l1 s), join2_eq]
     simp only [cond_true, Option.bind_some]
     have hap := (o1.set si.toNat s).app hk (vmax default s)
     have o6 : 0 ≤ si ∧ si < (((x1'.set si.toNat s ++ [vmax default s]).length : Nat) : Int) := by
      have := o5y s
      rw [List.length_append]; simp only [List.length_cons, List.length_nil]; omega
     rw [j1_ok hap.len m2.len m3.len o6]
     have hx : ix (x1'.set si.toNat s ++ [vmax default s]) si = s := by
      have := ixy s
      have h7 := o5y s
      unfold ix at this ⊢
      rw [List.getD_eq_getElem?_getD] at this ⊢
      rw [List.getElem?_append_left (by omega)]; exact this
     rw [hx]
     refine ⟨_, _, _, _, _, _, _, rfl, hap, m2, m3, fun j => ?_, rfl, hL, hRR⟩
     rw [G_app (o1.set _ _) hk, T']
     have e5 : upd1 a.T e.Task s l = default := by rw [← T', G_no hk]
     show _ = upd1 (upd1 a.T e.Task s) l (vmax (upd1 a.T e.Task s l) s) j
     rw [e5]; rfl
   ·have hb : ((ix caps e.Obj == 0) && (l != e.Task)) = false := by
     cases h8 : ((ix caps e.Obj == 0) && (l != e.Task)) with
     | false => rfl
     | true =>
      rw [Bool.and_eq_true] at h8
      exact absurd ⟨by simpa using h8.1, by simpa using h8.2⟩ hq
    rw [hb]
    simp only [cond_false, if_neg hq]
    rw [j1_ok (l1 _) m2.len m3.len (o5y _), ixy]
    exact ⟨_, _, _, _, _, _, _, rfl, o1.set _ _, m2, m3, T' s, rfl, hL, hRR⟩
 rw [show (e.Op == 15) = false from by simpa using h15, cond_false]
 by_cases h14 : e.Op = 14
 ·rw [show (e.Op == 14) = true from by simp [h14], cond_true]
  have hob : 0 ≤ e.Obj ∧ e.Obj < ((a.P.length : Nat) : Int) := ⟨he.obj.1, by rw [hW.len]; exact he.pipe (.inl h14)⟩
  have hmem : ixD a.P e.Obj ∈ a.P := by
   rw [ixD_pos hob.1]; unfold ix
   rw [List.getD_eq_getElem?_getD, List.getElem?_eq_getElem (show e.Obj.toNat < a.P.length by omega)]
   exact List.getElem_mem _
  have hp := hW.ps _ hmem
  have hz : ∀ s : V, Rel k1' (x1'.set si.toNat s) (setP a.P e.Obj { ixD a.P e.Obj with sends := (ixD a.P e.Obj).sends ++ [s], late := (ixD a.P e.Obj).late ++ [e.Task] }) k7 x8 k9 x10 { a with P := setP a.P e.Obj { ixD a.P e.Obj with sends := (ixD a.P e.Obj).sends ++ [s], late := (ixD a.P e.Obj).late ++ [e.Task] }, T := upd1 a.T e.Task s } := fun s => ⟨o1.set _ _, m2, m3, T' s, rfl, hL, hRR⟩
  have j3 : ∀ s : V, order_watch_see_j3 e caps a.P k7 k9 x8 x10 si k1' (x1'.set si.toNat s) = some (s, caps, k1', setP a.P e.Obj { ixD a.P e.Obj with sends := (ixD a.P e.Obj).sends ++ [s], late := (ixD a.P e.Obj).late ++ [e.Task] }, k7, k9, x1'.set si.toNat s, x8, x10) := fun s => by
   rw [j3_ok (l1 s) m2.len m3.len (o5y s) hob (by have := hp.s; omega) (by have := hp.s; have := hp.late; omega), ixy]
  rw [decide_eq_true hob.1, decide_eq_true hob.2, decide_eq_true (show e.Obj < ((caps.length : Nat) : Int) by rw [← hW.len]; exact hob.2)]
  simp only [cond_true, Bool.and_self]
  unfold SeeOk seeA
  simp only [h14, show ¬ ((14 : Int) = 15) by omega, if_false, if_true, hs0]
  generalize IntKind.i64.wrap (((ixD a.P e.Obj).sends.length : Nat) - ix caps e.Obj) = k
  by_cases hk : 0 < ix caps e.Obj ∧ 0 ≤ k ∧ k < (((ixD a.P e.Obj).gets.length : Nat) : Int)
  ·rw [decide_eq_true hk.1, decide_eq_true hk.2.1, decide_eq_true hk.2.2]
   simp only [Bool.and_self, cond_true, if_pos hk, jn, Option.bind_some]
   rw [decide_eq_true (l1 _), decide_eq_true (o5y _), j3]
   exact ⟨_, _, _, _, _, _, _, rfl, hz _⟩
  ·have hb : (decide (0 < ix caps e.Obj) && (decide (0 ≤ k) && decide (k < (((ixD a.P e.Obj).gets.length : Nat) : Int)))) = false := by
    cases h8 : (decide (0 < ix caps e.Obj) && (decide (0 ≤ k) && decide (k < (((ixD a.P e.Obj).gets.length : Nat) : Int)))) with
    | false => rfl
    | true =>
     simp only [Bool.and_eq_true, decide_eq_true_eq] at h8
     exact absurd h8 hk
   rw [hb]
   simp only [cond_false, if_neg hk]
   rw [j3]
   exact ⟨_, _, _, _, _, _, _, rfl, hz _⟩
 rw [show (e.Op == 14) = false from by simpa using h14, cond_false]
 by_cases h16 : e.Op = 16
 ·rw [show (e.Op == 16) = true from by simp [h16], cond_true]
  have hob : 0 ≤ e.Obj ∧ e.Obj < ((a.P.length : Nat) : Int) := ⟨he.obj.1, by rw [hW.len]; exact he.pipe (.inr (.inr h16))⟩
  rw [decide_eq_true hob.1, decide_eq_true hob.2, ixs]
  simp only [cond_true, Bool.and_self]
  rw [decide_eq_true (show e.Obj < (((a.P.set e.Obj.toNat ({ ixD a.P e.Obj with shut := s0 } : pipe)).length : Nat) : Int) by rw [List.length_set]; exact hob.2)]
  simp only [cond_true, ixD_set hob, setP_set]
  rw [j1_ok (l1 _) m2.len m3.len (o5y _), ixy]
  unfold SeeOk seeA
  simp only [h16, show ¬ ((16 : Int) = 15) by omega, show ¬ ((16 : Int) = 14) by omega, if_false, if_true, hs0]
  exact ⟨_, _, _, _, _, _, _, rfl, o1.set _ _, m2, m3, T' _, rfl, hL, hRR⟩
 rw [show (e.Op == 16) = false from by simpa using h16, cond_false]
 by_cases h17 : e.Op = 17
 ·rw [show (e.Op == 17) = true from by simp [h17], cond_true]
  obtain ⟨⟨gi, k7', x8'⟩, hg, go⟩ := at_guard_ok e.Obj k7 x8 m2
  obtain ⟨g1, g2, g3, g4, g5⟩ := go
  simp only at g1 g2 g3 g4 g5
  have eg : ix x8' gi = a.L e.Obj := by rw [← hL, ← g4, G_yes g2, g3]
  rw [hg]
  simp only [Option.bind_some]
  rw [decide_eq_true g1.len, decide_eq_true g5, eg]
  simp only [cond_true]
  have rz : ∀ s : V, Rel k1' (x1'.set si.toNat s) a.P k7' x8' k9 x10 { a with T := upd1 a.T e.Task s } := fun s => ⟨o1.set _ _, g1, m3, T' s, rfl, fun j => (g4 j).trans (hL j), hRR⟩
  unfold SeeOk seeA
  simp only [h17, show ¬ ((17 : Int) = 15) by omega, show ¬ ((17 : Int) = 14) by omega, show ¬ ((17 : Int) = 16) by omega, if_false, if_true, hs0]
  by_cases hv : e.Value = 1
  ·rw [show (e.Value == 1) = true from by simp [hv], cond_true, jn]
   simp only [Option.bind_some]
   rw [decide_eq_true (l1 _), decide_eq_true (o5y _)]
   simp only [cond_true, if_pos hv]
   rw [j1_ok (l1 _) g1.len m3.len (o5y _), ixy]
   exact ⟨_, _, _, _, _, _, _, rfl, rz _⟩
  ·rw [show (e.Value == 1) = false from by simpa using hv, cond_false, jn]
   simp only [Option.bind_some]
   rw [decide_eq_true (l1 _), decide_eq_true (o5y _)]
   simp only [cond_true, if_neg hv]
   rw [j1_ok (l1 _) g1.len m3.len (o5y _), ixy]
   exact ⟨_, _, _, _, _, _, _, rfl, rz _⟩
 rw [show (e.Op == 17) = false from by simpa using h17, cond_false]
 by_cases h18 : e.Op = 18
 ·rw [show (e.Op == 18) = true from by simp [h18], cond_true]
  obtain ⟨⟨gi, k7', x8'⟩, hg, go⟩ := at_guard_ok e.Obj k7 x8 m2
  obtain ⟨g1, g2, g3, g4, g5⟩ := go
  simp only at g1 g2 g3 g4 g5
  have eg : ix x8' gi = a.L e.Obj := by rw [← hL, ← g4, G_yes g2, g3]
  rw [hg]
  simp only [Option.bind_some]
  rw [decide_eq_true g1.len, decide_eq_true g5, join3_eq _ _ _ g5, eg, ixs]
  simp only [cond_true, Option.bind_some]
  have gl : ∀ y, k7'.length = (x8'.set gi.toNat y).length := fun y => (g1.set _ _).len
  have gr : ∀ y : guard, 0 ≤ gi ∧ gi < (((x8'.set gi.toNat y).length : Nat) : Int) := fun y => by rw [List.length_set]; exact g5
  have gx : ∀ y : guard, ix (x8'.set gi.toNat y) gi = y := fun y => ix_set g5 y
  have gL : ∀ y j, G k7' (x8'.set gi.toNat y) j = upd1 a.L e.Obj y j := fun y j => by
   rw [g3, G_set g1 g2]
   unfold upd1
   by_cases hj : j = e.Obj
   ·rw [if_pos hj, if_pos hj]
   ·rw [if_neg hj, if_neg hj, g4, hL]
  rw [decide_eq_true (gl _), decide_eq_true (gr _)]
  simp only [cond_true]
  unfold SeeOk seeA
  simp only [h18, show ¬ ((18 : Int) = 15) by omega, show ¬ ((18 : Int) = 14) by omega, show ¬ ((18 : Int) = 16) by omega, show ¬ ((18 : Int) = 17) by omega, if_false, if_true, hs0]
  by_cases hv : e.Value = 1
  ·rw [show (e.Value == 1) = true from by simp [hv], cond_true, join4_eq _ _ _ (gr _), gx]
   simp only [Option.bind_some, set_set]
   rw [decide_eq_true (gl _), decide_eq_true (gr _)]
   simp only [cond_true, if_pos hv]
   rw [j1_ok (l1 _) (gl _) m3.len (o5y _), ixy]
   exact ⟨_, _, _, _, _, _, _, rfl, o1.set _ _, g1.set _ _, m3, T' _, rfl, gL _, hRR⟩
  ·rw [show (e.Value == 1) = false from by simpa using hv, cond_false]
   simp only [if_neg hv]
   rw [j1_ok (l1 _) (gl _) m3.len (o5y _), ixy]
   exact ⟨_, _, _, _, _, _, _, rfl, o1.set _ _, g1.set _ _, m3, T' _, rfl, gL _, hRR⟩
 rw [show (e.Op == 18) = false from by simpa using h18, cond_false]
 have upR : ∀ (f : Int → V) (k : Int) (xs : List V) (ks : List Int) (h : Mok ks xs) (hf : ∀ j, G ks xs j = f j) (y : V) (hk : kHas ks k = true) (j : Int), G ks (xs.set (kAt ks k).toNat y) j = upd1 f k y j := fun f k xs ks h hf y hk j => by
  rw [G_set h hk]
  unfold upd1
  by_cases hj : j = k
  ·rw [if_pos hj, if_pos hj]
  ·rw [if_neg hj, if_neg hj, hf]
 have upN : ∀ (f : Int → V) (k : Int) (xs : List V) (ks : List Int) (h : Mok ks xs) (hf : ∀ j, G ks xs j = f j) (y : V) (hk : kHas ks k = false) (j : Int), G (ks ++ [k]) (xs ++ [y]) j = upd1 f k y j := fun f k xs ks h hf y hk j => by
  rw [G_app h hk]
  unfold upd1
  by_cases hj : j = k
  ·rw [if_pos hj, if_pos hj]
  ·rw [if_neg hj, if_neg hj, hf]
 have st1 : ∀ (k : Int) (ks : List Int) (xs : List V), Mok ks xs → kHas ks k = true → order_at_stamp_1 k ks xs = some (kAt ks k) := fun k ks xs h hk => by
  have hlt := at_lt hk
  have := h.len
  unfold order_at_stamp_1
  rw [decide_eq_true h.len, decide_eq_true hlt.1, decide_eq_true (show kAt ks k < ((xs.length : Nat) : Int) by omega)]; rfl
 have st2 : ∀ (k : Int) (ks : List Int) (xs : List V), Mok ks xs → order_at_stamp_2 k ks xs = some (default, ks) := fun k ks xs h => by
  unfold order_at_stamp_2; rw [decide_eq_true h.len]; rfl
 by_cases h19 : e.Op = 19
 ·rw [show (e.Op == 19) = true from by simp [h19], cond_true]
  unfold SeeOk seeA
  simp only [h19, show ¬ ((19 : Int) = 15) by omega, show ¬ ((19 : Int) = 14) by omega, show ¬ ((19 : Int) = 16) by omega, show ¬ ((19 : Int) = 17) by omega, show ¬ ((19 : Int) = 18) by omega, if_false, if_true, hs0]
  cases hk : kHas k9 e.Obj with
  | true =>
   have hlt := at_lt hk
   have hr2 : 0 ≤ kAt k9 e.Obj ∧ kAt k9 e.Obj < ((x10.length : Nat) : Int) := by rw [← m3.len]; exact hlt
   rw [st1 _ _ _ m3 hk]
   simp only [cond_true, Option.bind_some]
   rw [decide_eq_true hr2, join_eq _ _ _ hr2, ixs]
   simp only [cond_true, Option.bind_some]
   rw [decide_eq_true (m3.set _ _).len, decide_eq_true (show 0 ≤ kAt k9 e.Obj ∧ kAt k9 e.Obj < (((x10.set (kAt k9 e.Obj).toNat (vmax (ix x10 (kAt k9 e.Obj)) s0)).length : Nat) : Int) by rw [List.length_set]; exact hr2)]
   simp only [cond_true]
   rw [j1_ok (l1 _) m2.len (m3.set _ _).len (o5y _), ixy]
   have eR : ix x10 (kAt k9 e.Obj) = a.R e.Obj := by rw [← hRR, G_yes hk]
   rw [eR]
   exact ⟨_, _, _, _, _, _, _, rfl, o1.set _ _, m2, m3.set _ _, T' _, rfl, hL, upR a.R _ _ _ m3 hRR _ hk⟩
  | false =>
   rw [st2 _ _ _ m3]
   simp only [cond_false, Option.bind_some]
   rw [decide_eq_true m3.len, join2_eq, ixs]
   simp only [cond_true, Option.bind_some]
   rw [j1_ok (l1 _) m2.len (m3.app hk _).len (o5y _), ixy]
   have eR : a.R e.Obj = default := by rw [← hRR, G_no hk]
   rw [eR]
   exact ⟨_, _, _, _, _, _, _, rfl, o1.set _ _, m2, m3.app hk _, T' _, rfl, hL, upN a.R _ _ _ m3 hRR _ hk⟩
 rw [show (e.Op == 19) = false from by simpa using h19, cond_false]
 by_cases h20 : e.Op = 20
 ·rw [show (e.Op == 20) = true from by simp [h20], cond_true]
  unfold SeeOk seeA
  simp only [h20, show ¬ ((20 : Int) = 15) by omega, show ¬ ((20 : Int) = 14) by omega, show ¬ ((20 : Int) = 16) by omega, show ¬ ((20 : Int) = 17) by omega, show ¬ ((20 : Int) = 18) by omega, show ¬ ((20 : Int) = 19) by omega, if_false, if_true, hs0]
  cases hk : kHas k9 e.Obj with
  | true =>
   have hlt := at_lt hk
   have hr2 : 0 ≤ kAt k9 e.Obj ∧ kAt k9 e.Obj < ((x10.length : Nat) : Int) := by rw [← m3.len]; exact hlt
   rw [st1 _ _ _ m3 hk]
   simp only [cond_true, Option.bind_some]
   have eR : ix x10 (kAt k9 e.Obj) = a.R e.Obj := by rw [← hRR, G_yes hk]
   rw [decide_eq_true hr2, jn, eR]
   simp only [cond_true, Option.bind_some]
   rw [decide_eq_true (l1 _), decide_eq_true (o5y _)]
   simp only [cond_true]
   rw [j1_ok (l1 _) m2.len m3.len (o5y _), ixy]
   exact ⟨_, _, _, _, _, _, _, rfl, rl _⟩
  | false =>
   rw [st2 _ _ _ m3]
   simp only [cond_false, Option.bind_some]
   have eR : a.R e.Obj = default := by rw [← hRR, G_no hk]
   rw [decide_eq_true m3.len, jn, eR]
   simp only [cond_true, Option.bind_some]
   rw [decide_eq_true (l1 _), decide_eq_true (o5y _)]
   simp only [cond_true]
   rw [j1_ok (l1 _) m2.len (m3.app hk _).len (o5y _), ixy]
   refine ⟨_, _, _, _, _, _, _, rfl, o1.set _ _, m2, m3.app hk _, T' _, rfl, hL, fun j => ?_⟩
   rw [upN a.R _ _ _ m3 hRR _ hk]
   unfold upd1
   by_cases hj : j = e.Obj
   ·subst hj; rw [if_pos rfl, eR]
   ·rw [if_neg hj]
 rw [show (e.Op == 20) = false from by simpa using h20, cond_false]
 by_cases h11 : e.Op = 11
 ·rw [show (e.Op == 11) = true from by simp [h11], cond_true]
  unfold SeeOk seeA
  simp only [h11, show ¬ ((11 : Int) = 15) by omega, show ¬ ((11 : Int) = 14) by omega, show ¬ ((11 : Int) = 16) by omega, show ¬ ((11 : Int) = 17) by omega, show ¬ ((11 : Int) = 18) by omega, show ¬ ((11 : Int) = 19) by omega, show ¬ ((11 : Int) = 20) by omega, if_false, if_true, hs0]
  cases hk : kHas k1' e.Value with
  | true =>
   have hlt := at_lt hk
   have hr2 : 0 ≤ kAt k1' e.Value ∧ kAt k1' e.Value < (((x1'.set si.toNat s0).length : Nat) : Int) := by rw [← l1 s0]; exact hlt
   rw [st1 _ _ _ (o1.set _ _) hk]
   simp only [cond_true, Option.bind_some]
   have eT : ix (x1'.set si.toNat s0) (kAt k1' e.Value) = upd1 a.T e.Task s0 e.Value := by rw [← T', G_yes hk]
   rw [decide_eq_true hr2, join_eq _ _ _ hr2, ixs, eT]
   simp only [cond_true, Option.bind_some]
   rw [decide_eq_true ((o1.set _ _).set _ _).len, decide_eq_true (show 0 ≤ si ∧ si < ((((x1'.set si.toNat s0).set (kAt k1' e.Value).toNat (vmax (upd1 a.T e.Task s0 e.Value) s0)).length : Nat) : Int) by rw [List.length_set]; exact o5y s0),
    decide_eq_true (show 0 ≤ kAt k1' e.Value ∧ kAt k1' e.Value < ((((x1'.set si.toNat s0).set (kAt k1' e.Value).toNat (vmax (upd1 a.T e.Task s0 e.Value) s0)).length : Nat) : Int) by rw [List.length_set]; exact hr2)]
   simp only [cond_true]
   rw [j1_ok ((o1.set _ _).set _ _).len m2.len m3.len (by rw [List.length_set]; exact o5y s0)]
   have hx : ix ((x1'.set si.toNat s0).set (kAt k1' e.Value).toNat (vmax (upd1 a.T e.Task s0 e.Value) s0)) si = s0 := by
    by_cases hve : e.Value = e.Task
    ·rw [hve, ← o3, ix_set o5']
     unfold upd1; rw [if_pos rfl, vmax_self]
    ·rw [ix_set_ne (fun ee => hve (at_inj hk o2 (by rw [ee, o3]))), ixy]
   rw [hx]
   exact ⟨_, _, _, _, _, _, _, rfl, (o1.set _ _).set _ _, m2, m3, upR _ _ _ _ (o1.set _ _) (T' s0) _ hk, rfl, hL, hRR⟩
  | false =>
   rw [st2 _ _ _ (o1.set _ _)]
   simp only [cond_false, Option.bind_some]
   rw [decide_eq_true (l1 s0), join2_eq, ixs]
   simp only [cond_true, Option.bind_some]
   have eT : upd1 a.T e.Task s0 e.Value = default := by rw [← T', G_no hk]
   have hap := (o1.set si.toNat s0).app hk (vmax default s0)
   rw [j1_ok hap.len m2.len m3.len (by have := o5y s0; rw [List.length_append]; simp only [List.length_cons, List.length_nil]; omega)]
   have hx : ix (x1'.set si.toNat s0 ++ [vmax default s0]) si = s0 := by
    have := ixy s0
    have h7 := o5y s0
    unfold ix at this ⊢
    rw [List.getD_eq_getElem?_getD] at this ⊢
    rw [List.getElem?_append_left (by omega)]; exact this
   rw [hx, eT]
   exact ⟨_, _, _, _, _, _, _, rfl, hap, m2, m3, upN _ _ _ _ (o1.set _ _) (T' s0) _ hk, rfl, hL, hRR⟩
 rw [show (e.Op == 11) = false from by simpa using h11, cond_false]
 rw [j1_ok (l1 _) m2.len m3.len (o5y _), ixy]
 unfold SeeOk seeA
 simp only [h11, h14, h15, h16, h17, h18, h19, h20, if_false, hs0]
 exact ⟨_, _, _, _, _, _, _, rfl, rl _⟩
end Go.Proofs.Ytelegonboeacaaa
end

section
namespace Go.Proofs.Ytelegonboeacaaa
open Go Go.Sx
set_option linter.unusedVariables false
set_option linter.unusedSimpArgs false
def badP (p : List Int) (i : Nat) : Option Fault := if ix p (i : Int) < 0 ∨ 100 < ix p (i : Int) then some ⟨8, (i : Int)⟩ else none
def badE (np : Nat) (e : GEvent) (i : Int) : Option Fault :=
 if e.Task < 1 ∨ 64 < e.Task then some ⟨3, i⟩
 else if e.Op < 8 ∨ 22 < e.Op then some ⟨4, i⟩
 else if e.Obj < 0 ∨ 20 < e.Obj ∨ ((e.Op = 14 ∨ e.Op = 15 ∨ e.Op = 16) ∧ (np : Int) ≤ e.Obj) then some ⟨5, i⟩
 else if e.Op = 11 ∧ (e.Value < 1 ∨ 64 < e.Value) then some ⟨5, i⟩ else none
def checkF (t : List GEvent) (p : List Int) : Fault :=
 if 2000 < t.length ∨ 20 < p.length then ⟨2, 0⟩
 else (firstAt (badP p) p.length).getD ((firstAt (fun i => badE p.length (ix t (i : Int)) (i : Int)) t.length).getD ⟨0, 0⟩)
theorem bcond {α : Type} {p : Prop} [Decidable p] {b : Bool} (h : b = true ↔ p) (x y : α) : (bif b then x else y) = if p then x else y := by
 by_cases hp : p
 ·rw [if_pos hp, h.2 hp]; rfl
 ·rw [if_neg hp]
  cases b with
  | false => rfl
  | true => exact absurd (h.1 rfl) hp
theorem check_l1 (t : List GEvent) (p : List Int) (ht : t.length ≤ 2000) : loopO (order_Check_l1 t p) 0 = some ((firstAt (fun i => badE p.length (ix t (i : Int)) (i : Int)) t.length).getD ⟨0, 0⟩) := by
 refine loopO_findP (fun i => ((i : Nat) : Int)) _ _ t.length (fun i hi _ => ?_) fun _ => ?_
 ·unfold order_Check_l1 badE
  try simp only
  rw [decide_eq_true (show ((i : Nat) : Int) < ((t.length : Nat) : Int) by omega), decide_eq_true (show (0 : Int) ≤ ((i : Nat) : Int) by omega)]
  simp only [cond_true, Bool.and_self, order_fault, Option.bind_some, Option.map_some]
  generalize ix t ((i : Nat) : Int) = e
  rw [bcond (p := e.Task < 1 ∨ 64 < e.Task) (by simp), bcond (p := e.Op < 8 ∨ 22 < e.Op) (by simp),
   bcond (p := e.Obj < 0 ∨ 20 < e.Obj ∨ ((e.Op = 14 ∨ e.Op = 15 ∨ e.Op = 16) ∧ (p.length : Int) ≤ e.Obj)) (by
    by_cases h1 : e.Op = 14 <;> by_cases h2 : e.Op = 15 <;> by_cases h3 : e.Op = 16 <;> simp [h1, h2, h3]),
   bcond (p := e.Op = 11 ∧ (e.Value < 1 ∨ 64 < e.Value)) (by simp), wrap_n1 i (by omega)]
  split
  ·rfl
  split
  ·rfl
  split
  ·rfl
  split
  ·rfl
  ·rfl
 ·unfold order_Check_l1
  rw [decide_eq_false (show ¬ ((t.length : Nat) : Int) < ((t.length : Nat) : Int) by omega)]
  rfl
theorem check_eq (t : List GEvent) (p : List Int) : order_Check t p = some (checkF t p) := by
 unfold order_Check checkF
 rw [bcond (p := 2000 < t.length ∨ 20 < p.length) (by simp; omega)]
 by_cases h : 2000 < t.length ∨ 20 < p.length
 ·rw [if_pos h, if_pos h]; rfl
 ·rw [if_neg h, if_neg h]
  refine loopO_findP (fun i => ((i : Nat) : Int)) (badP p) _ p.length (fun i hi _ => ?_) fun _ => ?_
  ·unfold order_Check_l2 badP
   try simp only
   rw [decide_eq_true (show ((i : Nat) : Int) < ((p.length : Nat) : Int) by omega), decide_eq_true (show (0 : Int) ≤ ((i : Nat) : Int) by omega)]
   simp only [cond_true, Bool.and_self, order_fault, Option.bind_some, Option.map_some]
   rw [bcond (p := ix p (i : Int) < 0 ∨ 100 < ix p (i : Int)) (by simp), wrap_n1 i (by omega)]
   split
   ·rfl
   ·rfl
  ·unfold order_Check_l2
   rw [decide_eq_false (show ¬ ((p.length : Nat) : Int) < ((p.length : Nat) : Int) by omega), check_l1 t p (by omega)]
   rfl
theorem ref_l1 (t : List GEvent) (p : List Int) (ht : t.length ≤ 2000) : loopO (taskmillref_TraceFault_l1 t p) 0 = some ((firstAt (fun i => badE p.length (ix t (i : Int)) (i : Int)) t.length).getD ⟨0, 0⟩) := by
 refine loopO_findP (fun i => ((i : Nat) : Int)) _ _ t.length (fun i hi _ => ?_) fun _ => ?_
 ·unfold taskmillref_TraceFault_l1 badE
  try simp only
  rw [decide_eq_true (show ((i : Nat) : Int) < ((t.length : Nat) : Int) by omega), decide_eq_true (show (0 : Int) ≤ ((i : Nat) : Int) by omega)]
  simp only [cond_true, Bool.and_self, taskmillref_F, Option.bind_some, Option.map_some]
  generalize ix t ((i : Nat) : Int) = e
  rw [bcond (p := e.Task < 1 ∨ 64 < e.Task) (by simp), bcond (p := e.Op < 8 ∨ 22 < e.Op) (by simp),
   bcond (p := e.Obj < 0 ∨ 20 < e.Obj ∨ ((e.Op = 14 ∨ e.Op = 15 ∨ e.Op = 16) ∧ (p.length : Int) ≤ e.Obj)) (by simp),
   bcond (p := e.Op = 11 ∧ (e.Value < 1 ∨ 64 < e.Value)) (by simp), wrap_n1 i (by omega)]
  split
  ·rfl
  split
  ·rfl
  split
  ·rfl
  split
  ·rfl
  ·rfl
 ·unfold taskmillref_TraceFault_l1
  rw [decide_eq_false (show ¬ ((t.length : Nat) : Int) < ((t.length : Nat) : Int) by omega)]
  rfl
theorem ref_eq (t : List GEvent) (p : List Int) : taskmillref_TraceFault t p = some (checkF t p) := by
 unfold taskmillref_TraceFault checkF
 rw [bcond (p := 2000 < t.length ∨ 20 < p.length) (by simp; omega)]
 by_cases h : 2000 < t.length ∨ 20 < p.length
 ·rw [if_pos h, if_pos h]; rfl
 ·rw [if_neg h, if_neg h]
  refine loopO_findP (fun i => ((i : Nat) : Int)) (badP p) _ p.length (fun i hi _ => ?_) fun _ => ?_
  ·unfold taskmillref_TraceFault_l2 badP
   try simp only
   rw [decide_eq_true (show ((i : Nat) : Int) < ((p.length : Nat) : Int) by omega), decide_eq_true (show (0 : Int) ≤ ((i : Nat) : Int) by omega)]
   simp only [cond_true, Bool.and_self, Bool.or_true, taskmillref_F, Option.bind_some, Option.map_some]
   rw [bcond (p := ix p (i : Int) < 0 ∨ 100 < ix p (i : Int)) (by simp), wrap_n1 i (by omega)]
   split
   ·rfl
   ·rfl
  ·unfold taskmillref_TraceFault_l2
   rw [decide_eq_false (show ¬ ((p.length : Nat) : Int) < ((p.length : Nat) : Int) by omega), ref_l1 t p (by omega)]
   rfl
structure TrOk (t : List GEvent) (p : List Int) : Prop where
 n : t.length ≤ 2000
 np : p.length ≤ 20
 caps : CapsOk p
 ev : ∀ i, (h : i < t.length) → EvOk p.length t[i]
theorem badE_none {np : Nat} {e : GEvent} {i : Int} (h : badE np e i = none) : EvOk np e := by
 unfold badE at h
 split at h
 ·cases h
 ·split at h
  ·cases h
  ·split at h
   ·cases h
   ·split at h
    ·cases h
    ·rename_i h1 h2 h3 h4
     exact ⟨by omega, by omega, by omega, fun h5 => by
      by_cases h6 : e.Obj < (np : Int)
      ·exact h6
      ·exact absurd (.inr (.inr ⟨h5, by omega⟩)) h3, fun h5 => by
      by_cases h6 : 1 ≤ e.Value ∧ e.Value ≤ 64
      ·exact h6
      ·exact absurd ⟨h5, by omega⟩ h4⟩
theorem badE_code {np : Nat} {e : GEvent} {i : Int} {f : Fault} (h : badE np e i = some f) : f.Code ≠ 0 := by
 unfold badE at h
 split at h
 ·cases h; simp
 ·split at h
  ·cases h; simp
  ·split at h
   ·cases h; simp
   ·split at h
    ·cases h; simp
    ·cases h
theorem check_ok {t : List GEvent} {p : List Int} (h : (checkF t p).Code = 0) : TrOk t p ∧ checkF t p = ⟨0, 0⟩ := by
 unfold checkF at h ⊢
 by_cases h0 : 2000 < t.length ∨ 20 < p.length
 ·rw [if_pos h0] at h; simp at h
 ·rw [if_neg h0] at h ⊢
  cases h1 : firstAt (badP p) p.length with
  | some f =>
   obtain ⟨i, a1, a2, a3⟩ := firstAt_some _ h1
   rw [h1] at h
   simp only [Option.getD_some] at h
   unfold badP at a2
   split at a2
   ·cases a2; simp at h
   ·cases a2
  | none =>
   have b1 := (firstAt_none _).1 h1
   rw [h1] at h
   simp only [Option.getD_none] at h ⊢
   cases h2 : firstAt (fun i => badE p.length (ix t (i : Int)) (i : Int)) t.length with
   | some f =>
    obtain ⟨i, a1, a2, a3⟩ := firstAt_some _ h2
    rw [h2] at h
    exact absurd h (badE_code a2)
   | none =>
    have b2 := (firstAt_none _).1 h2
    refine ⟨⟨by omega, by omega, fun i hi => ?_, fun i hi => ?_⟩, rfl⟩
    ·have := b1 i hi
     unfold badP at this
     rw [ix_get hi] at this
     split at this
     ·cases this
     ·rename_i hh; omega
    ·have := badE_none (b2 i hi)
     rwa [ix_get hi] at this
def a0 (np : Nat) : A := ⟨fun _ => default, List.replicate np default, fun _ => default, fun _ => default⟩
def afterA (caps : List Int) (a : A) (t : List GEvent) : A := t.foldl (fun a e => (seeA caps a e).2) a
def stA (caps : List Int) : A → List GEvent → List V
 | _, [] => []
 | a, e :: r => (seeA caps a e).1 :: stA caps (seeA caps a e).2 r
theorem stA_len (caps : List Int) : ∀ (t : List GEvent) (a : A), (stA caps a t).length = t.length
 | [], _ => rfl
 | e :: r, a => by simp [stA, stA_len caps r]
theorem afterA_snoc (caps : List Int) (a : A) (t : List GEvent) (e : GEvent) : afterA caps a (t ++ [e]) = (seeA caps (afterA caps a t) e).2 := by simp [afterA, List.foldl_append]
theorem stA_snoc (caps : List Int) : ∀ (t : List GEvent) (a : A) (e : GEvent), stA caps a (t ++ [e]) = stA caps a t ++ [(seeA caps (afterA caps a t) e).1]
 | [], a, e => rfl
 | x :: r, a, e => by
  rw [List.cons_append, stA, stA_snoc caps r, stA, List.cons_append]; rfl
theorem take_snoc {β : Type} (t : List β) {i : Nat} (h : i < t.length) : t.take (i + 1) = t.take i ++ [t[i]] := by
 rw [List.take_succ_eq_append_getElem h]
theorem stA_take (caps : List Int) (a : A) (t : List GEvent) {i : Nat} (h : i < t.length) : stA caps a (t.take (i + 1)) = stA caps a (t.take i) ++ [(seeA caps (afterA caps a (t.take i)) t[i]).1] := by
 rw [take_snoc t h, stA_snoc]
theorem afterA_take (caps : List Int) (a : A) (t : List GEvent) {i : Nat} (h : i < t.length) : afterA caps a (t.take (i + 1)) = (seeA caps (afterA caps a (t.take i)) t[i]).2 := by
 rw [take_snoc t h, afterA_snoc]
theorem PipeOk.mono {n m : Nat} (hm : n ≤ m) {p : pipe} (h : PipeOk n p) : PipeOk m p := ⟨h.late, Nat.le_trans h.s hm, Nat.le_trans h.g hm⟩
theorem wf_set {caps : List Int} {n : Nat} {a : A} (h : Wf caps n a) {o : Int} {p : pipe} (hp : PipeOk (n + 1) p) (T : Int → V) (L : Int → guard) (R : Int → V) : Wf caps (n + 1) ⟨T, setP a.P o p, L, R⟩ := by
 refine ⟨by rw [setP, List.length_set]; exact h.len, fun q hq => ?_⟩
 rcases List.mem_or_eq_of_mem_set hq with hq | rfl
 ·exact (h.ps q hq).mono (Nat.le_succ n)
 ·exact hp
theorem wf_same {caps : List Int} {n : Nat} {a : A} (h : Wf caps n a) (T : Int → V) (L : Int → guard) (R : Int → V) : Wf caps (n + 1) ⟨T, a.P, L, R⟩ := ⟨h.len, fun q hq => (h.ps q hq).mono (Nat.le_succ n)⟩
theorem pipe_at {caps : List Int} {n : Nat} {a : A} (h : Wf caps n a) {e : GEvent} (he : EvOk caps.length e) (ho : e.Op = 14 ∨ e.Op = 15 ∨ e.Op = 16) : PipeOk n (ixD a.P e.Obj) := by
 have h1 := he.pipe ho
 have h2 := he.obj.1
 have h3 := h.len
 refine h.ps _ ?_
 rw [ixD_pos h2]; unfold ix
 rw [List.getD_eq_getElem?_getD, List.getElem?_eq_getElem (show e.Obj.toNat < a.P.length by omega)]
 exact List.getElem_mem _
theorem wf_step {caps : List Int} {n : Nat} {a : A} (h : Wf caps n a) {e : GEvent} (he : EvOk caps.length e) : Wf caps (n + 1) (seeA caps a e).2 := by
 unfold seeA
 simp only
 split
 ·rename_i ho
  have hp := pipe_at h he (.inr (.inl ho))
  split
  ·exact wf_same h _ _ _
  ·rename_i hle
   have hq : ∀ s : V, PipeOk (n + 1) { ixD a.P e.Obj with gets := (ixD a.P e.Obj).gets ++ [s] } := fun s => ⟨hp.late, by have := hp.s; simp only; omega, by have := hp.s; simp; omega⟩
   split
   ·exact wf_set h (hq _) _ _ _
   ·exact wf_set h (hq _) _ _ _
 split
 ·rename_i ho
  have hp := pipe_at h he (.inl ho)
  refine wf_set h ⟨?_, ?_, ?_⟩ _ _ _
  ·simp [hp.late]
  ·have := hp.s; simp; omega
  ·have := hp.g; simp only; omega
 split
 ·rename_i ho
  have hp := pipe_at h he (.inr (.inr ho))
  have hq : PipeOk (n + 1) { ixD a.P e.Obj with shut := inc (a.T e.Task) e.Task, closed := true } := ⟨hp.late, Nat.le_succ_of_le hp.s, Nat.le_succ_of_le hp.g⟩
  exact wf_set h hq _ _ _
 split
 ·exact wf_same h _ _ _
 split
 ·exact wf_same h _ _ _
 split
 ·exact wf_same h _ _ _
 split
 ·exact wf_same h _ _ _
 split
 ·exact wf_same h _ _ _
 ·exact wf_same h _ _ _
theorem wf_0 (caps : List Int) : Wf caps 0 (a0 caps.length) := ⟨by simp [a0], fun p hp => by
 have : p = default := List.eq_of_mem_replicate hp
 subst this
 exact ⟨rfl, Nat.le_refl _, Nat.le_refl _⟩⟩
theorem wf_at {t : List GEvent} {p : List Int} (h : TrOk t p) : ∀ i, i ≤ t.length → Wf p i (afterA p (a0 p.length) (t.take i))
 | 0, _ => by rw [List.take_zero]; exact wf_0 p
 | i + 1, hi => by
  rw [afterA_take _ _ _ (show i < t.length by omega)]
  exact wf_step (wf_at h i (by omega)) (h.ev i (by omega))
theorem stamps_eq {t : List GEvent} {p : List Int} (h : TrOk t p) : order_Stamps t p = some (stA p (a0 p.length) t) := by
 unfold order_Stamps
 have hn := h.n
 have hnp := h.np
 rw [decide_eq_true (show 0 ≤ ((p.length : Nat) : Int) ∧ ((p.length : Nat) : Int) ≤ 4611686018427387904 ∧ (600 : Int) * ((p.length : Nat) : Int) ≤ 140737488355328 by omega)]
 simp only [cond_true]
 refine loopO_up (A := List Int × List V × List pipe × List Int × List guard × List Int × List V) t.length (fun i c => (((i : Nat) : Int), p, stA p (a0 p.length) (t.take i), c.1, c.2.2.1, c.2.2.2.1, c.2.2.2.2.2.1, c.2.1, c.2.2.2.2.1, c.2.2.2.2.2.2))
  (fun i c => Rel c.1 c.2.1 c.2.2.1 c.2.2.2.1 c.2.2.2.2.1 c.2.2.2.2.2.1 c.2.2.2.2.2.2 (afterA p (a0 p.length) (t.take i))) (fun _ _ => some (stA p (a0 p.length) t)) (fun c hc => ?_) (fun i c hi hc => .inl ?_) ([], [], List.replicate p.length default, [], [], [], []) ?_
 ·unfold order_Stamps_l1
  simp only
  rw [decide_eq_true hc.m1.len, decide_eq_true hc.m2.len, decide_eq_true hc.m3.len, decide_eq_false (show ¬ ((t.length : Nat) : Int) < ((t.length : Nat) : Int) by omega), List.take_length]
  rfl
 ·obtain ⟨k1, q, k7, k9, x1, x8, x10, e1, e2⟩ := see_ok hc (wf_at h i (by omega)) (by omega) h.caps (h.ev i hi)
  refine ⟨(k1, x1, q, k7, x8, k9, x10), ?_, ?_, rfl⟩
  ·unfold order_Stamps_l1
   simp only
   rw [decide_eq_true hc.m1.len, decide_eq_true hc.m2.len, decide_eq_true hc.m3.len, decide_eq_true (show ((i : Nat) : Int) < ((t.length : Nat) : Int) by omega), decide_eq_true (show (0 : Int) ≤ ((i : Nat) : Int) by omega), ix_get hi, e1]
   simp only [cond_true, Bool.and_self, Option.bind_some]
   rw [decide_eq_true e2.m1.len, decide_eq_true e2.m2.len, decide_eq_true e2.m3.len, decide_eq_true (show (stA p (a0 p.length) (t.take i) ++ ([(seeA p (afterA p (a0 p.length) (t.take i)) t[i]).1] : List V)).length * 520 ≤ 140737488355328 by
    rw [List.length_append, stA_len, List.length_take]; simp; omega)]
   simp only [cond_true]
   rw [wrap_n1 i (by omega), stA_take _ _ _ hi]
  ·rw [afterA_take _ _ _ hi]; exact e2
 ·have g0 : ∀ {β : Type} [Enc β] (j : Int), G ([] : List Int) ([] : List β) j = default := fun j => G_no rfl
  exact ⟨⟨rfl, List.nodup_nil⟩, ⟨rfl, List.nodup_nil⟩, ⟨rfl, List.nodup_nil⟩, fun j => g0 j, rfl, fun j => g0 j, fun j => g0 j⟩
end Go.Proofs.Ytelegonboeacaaa
end

section
namespace Go.Proofs.Ytelegonboeacaaa
open Go Go.Sx
set_option linter.unusedVariables false
set_option linter.unusedSimpArgs false
section step
variable {caps : List Int} {n : Nat} {a : A} {e : GEvent} (h : Wf caps n a) (he : EvOk caps.length e)
include h he
end step
end Go.Proofs.Ytelegonboeacaaa
end

section
namespace Go.Proofs.Ytelegonboeacaaa
open Go Go.Sx
set_option linter.unusedVariables false
set_option linter.unusedSimpArgs false
section
variable {t : List GEvent} {p : List Int} (h : TrOk t p)
include h
theorem ev_at {i : Nat} (hi : i < t.length) : EvOk p.length (t.getD i default) := by
 rw [List.getD_eq_getElem?_getD, List.getElem?_eq_getElem hi]; exact h.ev i hi
def Bd (n : Int) (v : V) : Prop := ∀ j : Int, 0 ≤ j → j < 65 → 0 ≤ v.get j ∧ v.get j ≤ n
omit h in
theorem Bd.max {n : Int} {a b : V} (ha : Bd n a) (hb : Bd n b) : Bd n (vmax a b) := fun j h0 h1 => by
 have := ha j h0 h1; have := hb j h0 h1
 rw [vmax_get _ _ _ h0 (by omega)]; omega
end
end Go.Proofs.Ytelegonboeacaaa
end

section
namespace Go.Proofs.Ytelegonboeacaaa
open Go Go.Sx
set_option linter.unusedVariables false
set_option linter.unusedSimpArgs false
theorem d_at {t : List GEvent} {i : Nat} (hi : i < t.length) : t.getD i default = t[i] := by rw [List.getD_eq_getElem?_getD, List.getElem?_eq_getElem hi]; rfl
def mostUp (t : List GEvent) : Nat → Int
 | 0 => 0
 | i + 1 => if (t.getD i default).Op = 11 then max (max (mostUp t i) (t.getD i default).Task) (t.getD i default).Value else max (mostUp t i) (t.getD i default).Task
theorem most_ok {t : List GEvent} {p : List Int} (h : TrOk t p) : ∀ i, i ≤ t.length → 0 ≤ mostUp t i ∧ mostUp t i ≤ 64 ∧ ∀ j, j < i → (t.getD j default).Task ≤ mostUp t i
 | 0, _ => ⟨Int.le_refl _, by simp [mostUp], fun j hj => absurd hj (by omega)⟩
 | i + 1, hi => by
  obtain ⟨a, b, c⟩ := most_ok h i (by omega)
  have he := ev_at h (show i < t.length by omega)
  have hte := he.task
  unfold mostUp
  have cc : ∀ j, j < i + 1 → (t.getD j default).Task ≤ max (mostUp t i) (t.getD i default).Task := fun j hj => by
   by_cases hij : j = i
   ·subst hij; omega
   ·have := c j (by omega); omega
  split
  ·rename_i ho
   have := he.go ho
   exact ⟨by omega, by omega, fun j hj => by have := cc j hj; omega⟩
  ·exact ⟨by omega, by omega, cc⟩
def clk (t : List GEvent) (p : List Int) : List (List Int) := (stA p (a0 p.length) t).map fun v => v.cut 1 (mostUp t t.length + 1)
theorem clk_len (t : List GEvent) (p : List Int) : (clk t p).length = t.length := by unfold clk; rw [List.length_map, stA_len]
theorem clone_ok {s : List Int} (h : s.length ≤ 1000) : slices_Clone_int s = some s := by
 unfold slices_Clone_int
 rw [List.nil_append, decide_eq_true (show s.length * 8 ≤ 140737488355328 by omega)]; rfl
theorem clocks_l1 {st : List V} {m : Int} (hm : 0 ≤ m ∧ m ≤ 64) (hl : st.length ≤ 2000) : loopO (order_Clocks_l1 m) (((st.length : Nat) : Int), 0, [], st) = some (⟨0, 0⟩, st.map fun v => v.cut 1 (m + 1)) := by
 refine loopO_all (fun i => (((st.length : Nat) : Int), ((i : Nat) : Int), (st.take i).map (fun v => v.cut 1 (m + 1)), st)) _ st.length (fun i hi => ?_) ?_
 ·unfold order_Clocks_l1
  try simp only
  rw [decide_eq_true (show ((i : Nat) : Int) < ((st.length : Nat) : Int) by omega), decide_eq_true (show (0 : Int) ≤ ((i : Nat) : Int) by omega), wrap_id (x := m + 1) (by omega) (by omega), decide_eq_true (show 0 ≤ (1 : Int) ∧ (1 : Int) ≤ m + 1 ∧ m + 1 ≤ ((65 : Nat) : Int) by omega), ix_get hi, clone_ok (by rw [VArr.cut_len _ (by omega)]; omega), wrap_n1 i (by omega)]
  simp only [cond_true, Bool.and_self, Option.bind_some]
  rw [decide_eq_true (by rw [List.length_append, List.length_map, List.length_take]; simp; omega)]
  rw [take_snoc st hi, List.map_append]
  rfl
 ·unfold order_Clocks_l1
  try simp only
  rw [decide_eq_false (show ¬ ((st.length : Nat) : Int) < ((st.length : Nat) : Int) by omega), List.take_length]
  rfl
theorem clocks_eq {t : List GEvent} {p : List Int} (h : (checkF t p).Code = 0) : order_Clocks t p = some (⟨0, 0⟩, clk t p) := by
 obtain ⟨h1, h2⟩ := check_ok h
 unfold order_Clocks
 rw [check_eq, h2]
 simp only [Option.bind_some, bne_self_eq_false, cond_false]
 have hn := h1.n
 refine loopO_up (A := Unit) t.length (fun i _ => (mostUp t i, ((i : Nat) : Int))) (fun _ _ => True) (fun _ _ => some ((⟨0, 0⟩ : Fault), clk t p)) (fun _ _ => ?_) (fun i _ hi _ => .inl ⟨(), ?_, trivial, rfl⟩) () trivial
 ·unfold order_Clocks_l2
  try simp only
  rw [decide_eq_false (show ¬ ((t.length : Nat) : Int) < ((t.length : Nat) : Int) by omega), stamps_eq h1]
  simp only [cond_false, Option.bind_some]
  have hm := most_ok h1 t.length (Nat.le_refl _)
  rw [clocks_l1 ⟨hm.1, hm.2.1⟩ (by rw [stA_len]; exact hn)]
  rfl
 ·unfold order_Clocks_l2 order_Clocks_j1
  try simp only
  rw [decide_eq_true (show ((i : Nat) : Int) < ((t.length : Nat) : Int) by omega), decide_eq_true (show (0 : Int) ≤ ((i : Nat) : Int) by omega), wrap_n1 i (by omega), ix_get hi]
  simp only [cond_true, Bool.and_self]
  conv => rhs; rw [mostUp, d_at hi]
  by_cases ho : t[i].Op = 11
  ·rw [if_pos ho, show (t[i].Op == 11) = true by simpa using ho]; rfl
  ·rw [if_neg ho, show (t[i].Op == 11) = false by simpa using ho]; rfl
end Go.Proofs.Ytelegonboeacaaa
end

section
namespace Go.Proofs.Ytelegonboeacaaa
open Go Go.Sx
set_option linter.unusedVariables false
set_option linter.unusedSimpArgs false
theorem ok_check {t : List GEvent} {p : List Int} (h : TrOk t p) : checkF t p = ⟨0, 0⟩ := by
 have h1 := h.n
 have h2 := h.np
 unfold checkF
 rw [if_neg (by omega), (firstAt_none p.length).2 fun i hi => ?_, (firstAt_none t.length).2 fun i hi => ?_]
 ·rfl
 ·have he := h.ev i hi
  have e1 := he.task; have e2 := he.op; have e3 := he.obj; have e4 := he.pipe; have e5 := he.go
  rw [ix_get hi]
  unfold badE
  rw [if_neg (by omega), if_neg (by omega), if_neg ?_, if_neg ?_]
  ·rintro ⟨g1, g2⟩
   have := e5 g1; omega
  ·rintro (g | g | ⟨g1, g2⟩)
   ·omega
   ·omega
   ·have := e4 g1; omega
 ·have := h.caps i hi
  unfold badP
  rw [ix_get hi, if_neg (by omega)]
theorem parts {α : Type} (xs : List α) {i : Nat} (h : i + 1 < xs.length) : ∃ l a b r, xs = l ++ a :: b :: r ∧ l.length = i :=
 ⟨xs.take i, xs[i], xs[i + 1], xs.drop (i + 2), by rw [← List.drop_eq_getElem_cons h, ← List.drop_eq_getElem_cons (by omega), List.take_append_drop], by rw [List.length_take]; omega⟩
theorem at0 {α : Type} (l r : List α) (a b : α) : (l ++ a :: b :: r)[l.length]? = some a := by simp
theorem at1 {α : Type} (l r : List α) (a b : α) : (l ++ a :: b :: r)[l.length + 1]? = some b := by simp [List.getElem?_append_right]
theorem set2 {α : Type} (l r : List α) (a b x y : α) : ((l ++ a :: b :: r).set l.length x).set (l.length + 1) y = l ++ x :: y :: r := by
 rw [List.set_append_right _ _ (Nat.le_refl _), Nat.sub_self, List.set_append_right _ _ (by omega), Nat.add_sub_cancel_left]; rfl
theorem set2' {α : Type} (l r : List α) (a b x y : α) {n : Nat} (hn : l.length = n) : ((l ++ a :: b :: r).set n x).set (n + 1) y = l ++ x :: y :: r := by subst hn; exact set2 ..
def easy (e : GEvent) : Prop := e.Op = 8 ∨ e.Op = 12 ∨ e.Op = 13
instance (e : GEvent) : Decidable (easy e) := by unfold easy; infer_instance
theorem see_easy {caps : List Int} {a : A} {e : GEvent} (h : easy e) : seeA caps a e = (inc (a.T e.Task) e.Task, { a with T := upd1 a.T e.Task (inc (a.T e.Task) e.Task) }) := by
 unfold easy at h
 unfold seeA
 try simp only
 rw [if_neg (by omega), if_neg (by omega), if_neg (by omega), if_neg (by omega), if_neg (by omega), if_neg (by omega), if_neg (by omega), if_neg (by omega)]
theorem upd_comm {β : Type} (f : Int → β) {i j : Int} (x y : β) (h : i ≠ j) : upd1 (upd1 f i x) j y = upd1 (upd1 f j y) i x := by
 funext k; unfold upd1
 by_cases h1 : k = j
 ·subst h1; rw [if_pos rfl, if_neg (fun e => h e.symm), if_pos rfl]
 ·rw [if_neg h1]
  by_cases h2 : k = i
  ·rw [if_pos h2, if_pos h2]
  ·rw [if_neg h2, if_neg h2, if_neg h1]
theorem stA_app (caps : List Int) : ∀ (l r : List GEvent) (a : A), stA caps a (l ++ r) = stA caps a l ++ stA caps (afterA caps a l) r
 | [], r, a => rfl
 | e :: l, r, a => by rw [List.cons_append, stA, stA_app caps l, stA, List.cons_append]; rfl
theorem stA_swap (caps : List Int) (a : A) (l r : List GEvent) {x y : GEvent} (hx : easy x) (hy : easy y) (hxy : x.Task ≠ y.Task) :
  ∃ q s u w, stA caps a (l ++ x :: y :: r) = q ++ s :: u :: w ∧ stA caps a (l ++ y :: x :: r) = q ++ u :: s :: w ∧ q.length = l.length := by
 refine ⟨stA caps a l, inc ((afterA caps a l).T x.Task) x.Task, inc ((afterA caps a l).T y.Task) y.Task, stA caps { afterA caps a l with T := upd1 (upd1 (afterA caps a l).T x.Task (inc ((afterA caps a l).T x.Task) x.Task)) y.Task (inc ((afterA caps a l).T y.Task) y.Task) } r, ?_, ?_, stA_len ..⟩
 ·rw [stA_app]
  generalize afterA caps a l = B
  rw [stA, see_easy hx, stA, see_easy hy]
  try simp only
  rw [show upd1 B.T x.Task (inc (B.T x.Task) x.Task) y.Task = B.T y.Task from if_neg (fun e => hxy e.symm)]
 ·rw [stA_app]
  generalize afterA caps a l = B
  rw [stA, see_easy hy, stA, see_easy hx]
  try simp only
  rw [show upd1 B.T y.Task (inc (B.T y.Task) y.Task) x.Task = B.T x.Task from if_neg hxy, upd_comm _ _ _ (fun e => hxy e.symm)]
def mostS (m : Int) (e : GEvent) : Int := if e.Op = 11 then max (max m e.Task) e.Value else max m e.Task
theorem most_fold (t : List GEvent) : ∀ i, i ≤ t.length → mostUp t i = (t.take i).foldl mostS 0
 | 0, _ => by rw [List.take_zero]; rfl
 | i + 1, hi => by
  rw [take_snoc t (show i < t.length by omega), List.foldl_append, ← most_fold t i (by omega), mostUp, d_at (show i < t.length by omega)]; rfl
theorem most_swap (l r : List GEvent) {x y : GEvent} (hx : easy x) (hy : easy y) : mostUp (l ++ x :: y :: r) (l ++ x :: y :: r).length = mostUp (l ++ y :: x :: r) (l ++ y :: x :: r).length := by
 rw [most_fold _ _ (Nat.le_refl _), most_fold _ _ (Nat.le_refl _), List.take_length, List.take_length, List.foldl_append, List.foldl_append]
 simp only [List.foldl_cons]
 congr 1
 unfold mostS
 unfold easy at hx hy
 rw [if_neg (by omega), if_neg (by omega), if_neg (by omega), if_neg (by omega)]
 omega
theorem ok_swap {p : List Int} {l r : List GEvent} {x y : GEvent} (h : TrOk (l ++ x :: y :: r) p) : TrOk (l ++ y :: x :: r) p := by
 refine ⟨by have := h.n; simp at this ⊢; omega, h.np, h.caps, fun i hi => ?_⟩
 have hm : (l ++ y :: x :: r)[i] ∈ l ++ x :: y :: r := by
  have := List.getElem_mem hi
  simp only [List.mem_append, List.mem_cons] at this ⊢
  rcases this with h | h | h | h
  ·exact .inl h
  ·exact .inr (.inr (.inl h))
  ·exact .inr (.inl h)
  ·exact .inr (.inr (.inr h))
 obtain ⟨j, hj, e⟩ := List.getElem_of_mem hm
 rw [← e]; exact h.ev j hj
theorem ints_refl (x : List Int) (h : x.length < 1000000) : taskmillref_Ints x x = some true := by
 unfold taskmillref_Ints
 rw [bne_self_eq_false]
 simp only [cond_false]
 refine loopO_all (fun i => ((i : Nat) : Int)) _ x.length (fun i hi => ?_) ?_
 ·unfold taskmillref_Ints_l1
  try simp only
  rw [decide_eq_true (show ((i : Nat) : Int) < ((x.length : Nat) : Int) by omega), decide_eq_true (show (0 : Int) ≤ ((i : Nat) : Int) by omega), bne_self_eq_false, wrap_n1 i (by omega)]
  rfl
 ·unfold taskmillref_Ints_l1
  try simp only
  rw [decide_eq_false (show ¬ ((x.length : Nat) : Int) < ((x.length : Nat) : Int) by omega)]
  rfl
theorem lists_refl (x : List (List Int)) (h : x.length < 1000000) (h2 : ∀ y ∈ x, y.length < 1000000) : taskmillref_Lists x x = some true := by
 unfold taskmillref_Lists
 rw [bne_self_eq_false]
 simp only [cond_false]
 refine loopO_all (fun i => ((i : Nat) : Int)) _ x.length (fun i hi => ?_) ?_
 ·unfold taskmillref_Lists_l1
  try simp only
  rw [decide_eq_true (show ((i : Nat) : Int) < ((x.length : Nat) : Int) by omega), decide_eq_true (show (0 : Int) ≤ ((i : Nat) : Int) by omega), ix_get hi, ints_refl _ (h2 _ (List.getElem_mem hi)), wrap_n1 i (by omega)]
  rfl
 ·unfold taskmillref_Lists_l1
  try simp only
  rw [decide_eq_false (show ¬ ((x.length : Nat) : Int) < ((x.length : Nat) : Int) by omega)]
  rfl
theorem swaps_law (t : List GEvent) (p : List Int) (i : Int) : taskmilllaw_OrderSwaps t p i = some true := by
 unfold taskmilllaw_OrderSwaps
 rw [show taskmilllaw_orderBegun = some true from rfl, ref_eq]
 simp only [Option.bind_some, Bool.not_true, cond_false]
 have hj : taskmilllaw_OrderSwaps_j2 t p i true = some true := rfl
 by_cases h1 : (200 : Int) < ((t.length : Nat) : Int)
 ·rw [decide_eq_true h1]; exact hj
 rw [decide_eq_false h1]
 by_cases h2 : (100 : Int) < ((p.length : Nat) : Int)
 ·rw [decide_eq_true h2]; exact hj
 rw [decide_eq_false h2]
 simp only [cond_false]
 by_cases h3 : ¬ (checkF t p).Code = 0
 ·rw [show ((checkF t p).Code != 0) = true by simpa using h3]; exact hj
 replace h3 : (checkF t p).Code = 0 := Decidable.not_not.1 h3
 rw [show ((checkF t p).Code != 0) = false by simpa using h3]
 have hT := (check_ok h3).1
 simp only [cond_false]
 by_cases h4 : i < 0
 ·rw [decide_eq_true h4]; exact hj
 rw [decide_eq_false h4, wrap_id (x := ((t.length : Nat) : Int) - 1) (by omega) (by omega)]
 simp only [cond_false]
 by_cases h5 : ((t.length : Nat) : Int) - 1 ≤ i
 ·rw [decide_eq_true h5]; exact hj
 rw [decide_eq_false h5]
 obtain ⟨i, rfl⟩ := Int.eq_ofNat_of_zero_le (show 0 ≤ i by omega)
 have hi : i + 1 < t.length := by omega
 obtain ⟨l, a, b, r, rfl, rfl⟩ := parts t hi
 have hJ : taskmilllaw_OrderSwaps_j1 (l ++ a :: b :: r) p (l.length : Int) true = some true := rfl
 unfold taskmilllaw_OrderSwaps_j2
 simp only [cond_false]
 rw [decide_eq_true (show (0 : Int) ≤ ((l.length : Nat) : Int) by omega), decide_eq_true (show ((l.length : Nat) : Int) < (((l ++ a :: b :: r).length : Nat) : Int) by omega), wrap_n1 _ (by omega), decide_eq_true (show (0 : Int) ≤ ((l.length + 1 : Nat) : Int) by omega), decide_eq_true (show ((l.length + 1 : Nat) : Int) < (((l ++ a :: b :: r).length : Nat) : Int) by omega)]
 simp only [Bool.and_self, cond_true]
 have ea : ix (l ++ a :: b :: r) ((l.length : Nat) : Int) = a := by
  rw [ix_get (by omega)]
  exact Option.some.inj ((List.getElem?_eq_getElem (by omega)).symm.trans (at0 l r a b))
 have eb : ix (l ++ a :: b :: r) ((l.length + 1 : Nat) : Int) = b := by
  rw [ix_get (by omega)]
  exact Option.some.inj ((List.getElem?_eq_getElem (by omega)).symm.trans (at1 l r a b))
 rw [ea, eb]
 by_cases h6 : a.Task = b.Task
 ·rw [show (a.Task == b.Task) = true by simpa using h6]; exact hJ
 rw [show (a.Task == b.Task) = false by simpa using h6]
 unfold taskmilllaw_OrderSwaps_1
 simp only [cond_false, Option.bind_some]
 by_cases h7 : ¬ easy a
 ·rw [show ((a.Op == 8) || ((a.Op == 12) || (a.Op == 13))) = false by unfold easy at h7; simp; omega]; exact hJ
 replace h7 : easy a := Decidable.not_not.1 h7
 rw [show ((a.Op == 8) || ((a.Op == 12) || (a.Op == 13))) = true by unfold easy at h7; simp; omega]
 simp only [Bool.not_true, cond_false]
 by_cases h8 : ¬ easy b
 ·rw [show ((b.Op == 8) || ((b.Op == 12) || (b.Op == 13))) = false by unfold easy at h8; simp; omega]; exact hJ
 replace h8 : easy b := Decidable.not_not.1 h8
 rw [show ((b.Op == 8) || ((b.Op == 12) || (b.Op == 13))) = true by unfold easy at h8; simp; omega]
 unfold taskmilllaw_OrderSwaps_j1 taskmilllaw_ownTrace
 have hlen : (l ++ b :: a :: r).length = (l ++ a :: b :: r).length := by simp
 rw [decide_eq_true (show (l ++ a :: b :: r).length * 32 ≤ 140737488355328 by omega)]
 simp only [Bool.not_true, cond_false, cond_true, Option.bind_some]
 rw [wrap_n1 _ (by omega), ea, eb, List.length_set, Int.toNat_natCast, Int.toNat_natCast, set2,
  decide_eq_true (show (0 : Int) ≤ ((l.length : Nat) : Int) by omega), decide_eq_true (show ((l.length : Nat) : Int) < (((l ++ a :: b :: r).length : Nat) : Int) by omega), decide_eq_true (show (0 : Int) ≤ ((l.length + 1 : Nat) : Int) by omega), decide_eq_true (show ((l.length + 1 : Nat) : Int) < (((l ++ a :: b :: r).length : Nat) : Int) by omega)]
 have h3' : (checkF (l ++ b :: a :: r) p).Code = 0 := by rw [ok_check (ok_swap hT)]
 rw [clocks_eq h3, clocks_eq h3']
 simp only [Bool.and_self, cond_true, Option.bind_some]
 rw [List.length_set, clk_len, clk_len, hlen, bne_self_eq_false, bne_self_eq_false]
 simp only [Bool.or_self, cond_false]
 obtain ⟨q, s, u, w, e1, e2, e3⟩ := stA_swap p (a0 p.length) l r h7 h8 h6
 have c1 : clk (l ++ a :: b :: r) p = q.map (fun v => v.cut 1 (mostUp (l ++ a :: b :: r) (l ++ a :: b :: r).length + 1)) ++ s.cut 1 (mostUp (l ++ a :: b :: r) (l ++ a :: b :: r).length + 1) :: u.cut 1 (mostUp (l ++ a :: b :: r) (l ++ a :: b :: r).length + 1) :: w.map (fun v => v.cut 1 (mostUp (l ++ a :: b :: r) (l ++ a :: b :: r).length + 1)) := by
  unfold clk; rw [e1, List.map_append]; rfl
 have c2 : clk (l ++ b :: a :: r) p = q.map (fun v => v.cut 1 (mostUp (l ++ a :: b :: r) (l ++ a :: b :: r).length + 1)) ++ u.cut 1 (mostUp (l ++ a :: b :: r) (l ++ a :: b :: r).length + 1) :: s.cut 1 (mostUp (l ++ a :: b :: r) (l ++ a :: b :: r).length + 1) :: w.map (fun v => v.cut 1 (mostUp (l ++ a :: b :: r) (l ++ a :: b :: r).length + 1)) := by
  unfold clk; rw [e2, ← most_swap l r h7 h8, List.map_append]; rfl
 have ql : (q.map (fun v => v.cut 1 (mostUp (l ++ a :: b :: r) (l ++ a :: b :: r).length + 1))).length = l.length := by rw [List.length_map, e3]
 have hlc := clk_len (l ++ a :: b :: r) p
 have hlc2 := clk_len (l ++ b :: a :: r) p
 have y0 : ix (clk (l ++ b :: a :: r) p) ((l.length : Nat) : Int) = u.cut 1 (mostUp (l ++ a :: b :: r) (l ++ a :: b :: r).length + 1) := by
  rw [ix_get (by omega)]
  refine Option.some.inj ((List.getElem?_eq_getElem (by omega)).symm.trans ?_)
  rw [c2, ← ql]; exact at0 _ _ _ _
 have y1 : ix (clk (l ++ b :: a :: r) p) ((l.length + 1 : Nat) : Int) = s.cut 1 (mostUp (l ++ a :: b :: r) (l ++ a :: b :: r).length + 1) := by
  rw [ix_get (by omega)]
  refine Option.some.inj ((List.getElem?_eq_getElem (by omega)).symm.trans ?_)
  rw [c2, ← ql]; exact at1 _ _ _ _
 rw [decide_eq_true (show ((l.length + 1 : Nat) : Int) < (((l ++ a :: b :: r).length : Nat) : Int) by omega), decide_eq_true (show ((l.length : Nat) : Int) < (((l ++ a :: b :: r).length : Nat) : Int) by omega)]
 simp only [Bool.and_self, cond_true]
 rw [y0, y1, c2, set2' _ _ _ _ _ _ ql, ← c1, lists_refl]
 ·rfl
 ·omega
 ·intro y hy
  have hm := most_ok hT _ (Nat.le_refl _)
  unfold clk at hy
  rw [List.mem_map] at hy
  obtain ⟨v, _, rfl⟩ := hy
  rw [VArr.cut_len _ (by omega)]; omega
end Go.Proofs.Ytelegonboeacaaa
end
