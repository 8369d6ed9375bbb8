/-
  G, part A: loops as functions, and the lemmas by which a text and its code go in step.
-/
import Derived.Test.YtnnpjaoddniifaaSyB
set_option linter.unusedSimpArgs false
set_option linter.unusedVariables false
namespace Go.Sx
open Go.RowKit
set_option linter.unusedVariables false

/-! ### Loops -/
section
variable {S ρ : Type}
def loopN (step : S → Option (S ⊕ ρ)) : Nat → S → Option ρ
  | 0, _ => none
  | n + 1, s => match step s with
    | none => none
    | some (.inl s') => loopN step n s'
    | some (.inr r) => some r
theorem loopN_le {step : S → Option (S ⊕ ρ)} : ∀ {n m : Nat} {s : S} {r : ρ}, n ≤ m → loopN step n s = some r → loopN step m s = some r
  | 0, _, _, _, _, h => by simp [loopN] at h
  | n + 1, 0, _, _, hl, _ => by omega
  | n + 1, m + 1, s, r, hl, h => by
    simp only [loopN] at h ⊢
    cases hs : step s with
    | none => rw [hs] at h; exact h
    | some o =>
      rw [hs] at h
      cases o with
      | inl s' => exact loopN_le (by omega) h
      | inr r' => exact h
open Classical in
noncomputable def loopO (step : S → Option (S ⊕ ρ)) (s : S) : Option ρ :=
  if h : ∃ n, (loopN step n s).isSome then loopN step h.choose s else none
theorem loopO_of {step : S → Option (S ⊕ ρ)} {n : Nat} {s : S} {r : ρ} (h : loopN step n s = some r) : loopO step s = some r := by
  have he : ∃ n, (loopN step n s).isSome := ⟨n, by rw [h]; rfl⟩
  unfold loopO
  rw [dif_pos he]
  obtain ⟨r', hr⟩ := Option.isSome_iff_exists.1 he.choose_spec
  rw [hr]
  rcases Nat.le_total n he.choose with hl | hl
  · have := loopN_le hl h; rw [hr] at this; exact this
  · have := loopN_le hl hr; rw [h] at this; exact this.symm
theorem loopO_ex {step : S → Option (S ⊕ ρ)} {s : S} {r : ρ} (h : loopO step s = some r) : ∃ n, loopN step n s = some r := by
  unfold loopO at h
  split at h
  · exact ⟨_, h⟩
  · cases h
theorem loopO_eq (step : S → Option (S ⊕ ρ)) (s : S) : loopO step s = (step s).bind fun o => match o with
    | .inl s' => loopO step s'
    | .inr r => some r := by
  cases hs : step s with
  | none =>
    cases hl : loopO step s with
    | none => rfl
    | some r => obtain ⟨n, hn⟩ := loopO_ex hl; cases n <;> simp [loopN, hs] at hn
  | some o =>
    cases o with
    | inr r => exact loopO_of (n := 1) (by simp [loopN, hs])
    | inl s' =>
      show loopO step s = loopO step s'
      cases hl : loopO step s' with
      | some r => obtain ⟨n, hn⟩ := loopO_ex hl; exact loopO_of (n := n + 1) (by simp [loopN, hs, hn])
      | none =>
        cases hl2 : loopO step s with
        | none => rfl
        | some r =>
          obtain ⟨n, hn⟩ := loopO_ex hl2
          cases n with
          | zero => simp [loopN] at hn
          | succ n => simp only [loopN, hs] at hn; rw [loopO_of hn] at hl; cases hl
theorem loopO_inl {step : S → Option (S ⊕ ρ)} {s s' : S} (h : step s = some (.inl s')) : loopO step s = loopO step s' := by rw [loopO_eq, h]; rfl
theorem loopO_inr {step : S → Option (S ⊕ ρ)} {s : S} {r : ρ} (h : step s = some (.inr r)) : loopO step s = some r := by rw [loopO_eq, h]; rfl
theorem loopO_out {step : S → Option (S ⊕ ρ)} {s : S} {x : Option ρ} (h : step s = x.map .inr) : loopO step s = x := by rw [loopO_eq, h]; cases x <;> rfl
end

variable {P : Program} {m N : Nat} {Q : SPost} {fr : Fr} {hp : Hp} {nx : Nat}

/-- A loop goes in step with a function. -/
theorem loop_sx {S ρ : Type} {step : S → Option (S ⊕ ρ)} {s0 : S} {r : ρ} {c : Code} (E : S → Fr × Hp × Nat) (h : loopO step s0 = some r) (h0 : LeSt P m fr hp (E s0).1 (E s0).2.1 (E s0).2.2)
    (hb : ∀ (s : S) (o : S ⊕ ρ) (R : SPost), step s = some o → (∀ r', o = .inr r' → r' = r) → (∀ s' fr' hp' nx', o = .inl s' → LeSt P m fr' hp' (E s').1 (E s').2.1 (E s').2.2 → R .normal fr' hp' nx') → (∀ id, R (.exit id) = Q (.exit id)) → R .ret = Q .ret →
      Swp P m N c R (E s).1 (E s).2.1 (E s).2.2) : Swp P m N (.loop c) Q fr hp nx := by
  obtain ⟨n0, hn0⟩ := loopO_ex h
  refine loop_mk (S := { p : S × Nat // loopN step p.2 p.1 = some r }) (fun p => (E p.1.1).1) (fun p => (E p.1.1).2.1) (fun p => (E p.1.1).2.2) (fun _ => True) (fun p => p.1.2) ⟨(s0, n0), hn0⟩ trivial h0 ?_
  rintro ⟨⟨s, n⟩, hn⟩ R _ h1 h2 h3
  cases n with
  | zero => simp [loopN] at hn
  | succ n =>
    simp only [loopN] at hn
    cases hs : step s with
    | none => rw [hs] at hn; cases hn
    | some o =>
      rw [hs] at hn
      refine hb s o R hs (fun r' ho => ?_) (fun s' fr' hp' nx' ho hl => ?_) h2 h3
      · subst ho; simp only [Option.some.injEq] at hn; exact hn
      · subst ho
        exact h1 fr' hp' nx' ⟨(s', n), hn⟩ trivial (Nat.lt_succ_self n) hl

/-- Code is cut where ways meet. -/
theorem seq_cut {A : Type} {x y : Code} (E : A → Fr × Hp × Nat) (G : A → Prop)
    (h1 : ∀ K : Fr → Hp → Nat → Prop, (∀ a fr' hp' nx', G a → LeSt P m fr' hp' (E a).1 (E a).2.1 (E a).2.2 → Wk P m K fr' hp' nx') → Swp P m N x (thenS (Wk P m K) Q) fr hp nx)
    (h2 : ∀ a, G a → Swp P m N y Q (E a).1 (E a).2.1 (E a).2.2) : Swp P m N (.seq x y) Q fr hp nx :=
  h1 (Swp P m N y Q) (fun a fr' hp' nx' hg hl => wk_mk _ _ _ hl (h2 a hg))
theorem block_cut {A : Type} {x : Code} {id : Nat} (E : A → Fr × Hp × Nat) (G : A → Prop)
    (h1 : ∀ K : Fr → Hp → Nat → Prop, (∀ a fr' hp' nx', G a → LeSt P m fr' hp' (E a).1 (E a).2.1 (E a).2.2 → Wk P m K fr' hp' nx') → Swp P m N x (blockS id (thenS (Wk P m K) Q)) fr hp nx)
    (h2 : ∀ a, G a → Q .normal (E a).1 (E a).2.1 (E a).2.2) : Swp P m N (.block id x) Q fr hp nx := by
  have := h1 (Q .normal) (fun a fr' hp' nx' hg hl => wk_mk _ _ _ hl (h2 a hg))
  have e : thenS (Wk P m (Q .normal)) Q = wkS P m Q := by funext e; cases e <;> rfl
  rw [e] at this; exact this
theorem seq_np {x y : Code} (h : Swp P m N x (thenS (Wk P m (Swp P m N y Q)) Q) fr hp nx) : Swp P m N (.seq x y) Q fr hp nx := h
theorem block_np {x : Code} {id : Nat} (h : Swp P m N x (blockS id (wkS P m Q)) fr hp nx) : Swp P m N (.block id x) Q fr hp nx := h

/-! ### Steps -/
theorem cond_sx {ρ : Type} {c : Operand} {b : Bool} {X Y : Option ρ} {o : ρ} {x y : Code} (h : (bif b then X else Y) = some o) (e : evS true fr c = .v (.bool b)) (k1 : b = true → X = some o → Swp P m N x Q fr hp nx) (k2 : b = false → Y = some o → Swp P m N y Q fr hp nx) : Swp P m N (.cond c x y) Q fr hp nx := by
  simp only [Swp, SwpD, e]
  exact ⟨fun hb => k1 hb (by rw [hb] at h; exact h), fun hb => k2 hb (by rw [hb] at h; exact h)⟩
theorem cond_t {c : Operand} {x y : Code} (e : evS true fr c = .v (.bool true)) (k : Swp P m N x Q fr hp nx) : Swp P m N (.cond c x y) Q fr hp nx := by
  simp only [Swp, SwpD, e]
  exact ⟨fun _ => k, fun hb => by cases hb⟩
theorem cond_f {c : Operand} {x y : Code} (e : evS true fr c = .v (.bool false)) (k : Swp P m N y Q fr hp nx) : Swp P m N (.cond c x y) Q fr hp nx := by
  simp only [Swp, SwpD, e]
  exact ⟨(fun hb => by cases hb), fun _ => k⟩
/-- A check. -/
theorem need_sx {ρ : Type} {s : Prop} {b : Bool} {X : Option ρ} {o : ρ} {G : Prop} (h : (bif b then X else none) = some o) (e : b = true → s) (k : b = true → X = some o → G) : Need s G := by
  cases b with
  | false => cases h
  | true => exact ⟨e rfl, k rfl h⟩
theorem bind_sx {α β : Type} {x : Option α} {f : α → Option β} {o : β} (h : x.bind f = some o) : ∃ a, x = some a ∧ f a = some o := by
  cases x with
  | none => cases h
  | some a => exact ⟨a, rfl, h⟩
theorem map_sx {α β : Type} {x : Option α} {f : α → β} {o : β} (h : x.map f = some o) : ∃ a, x = some a ∧ f a = o := by
  cases x with
  | none => cases h
  | some a => cases h; exact ⟨a, rfl, rfl⟩
theorem split_sx {ρ : Type} {i n : Int} {X Y : Option ρ} {o : ρ} {G : Prop} (h : (bif i == n then X else Y) = some o) (k1 : i = n → X = some o → G) (k2 : Y = some o → G) : G := by
  cases hb : (i == n) with
  | true => rw [hb] at h; exact k1 (by simpa using hb) h
  | false => rw [hb] at h; exact k2 h
theorem case_sx {ρ : Type} {b : Bool} {X Y : Option ρ} {o : ρ} {G : Prop} (h : (bif b then X else Y) = some o) (k1 : b = true → X = some o → G) (k2 : b = false → Y = some o → G) : G := by
  cases b with
  | true => exact k1 rfl h
  | false => exact k2 rfl h
/-- A call, in a drawn region. -/
theorem callE_mk {f : FuncId} {args : List SV} {dst : Option Tmp} {ops : Array Oper} {rest : List Oper} {acc : List Nms} {K : Fr → Hp → Nat → Prop} {args' : List SV} {hin : Hp} {m : Nat} {Post : SV → Hp → Nat → Prop} (spec : SpecW P f args' hin m Post)
    (σ : List (Nat × Nat)) (bor : List Nat) (hne : ∃ r h n, Post r h n) (hd : ∀ r h n r2 h2 n2, Post r h n → Post r2 h2 n2 → r = r2 ∧ h = h2 ∧ n = n2) (h1 : leL hp hin σ bor args args') (h2 : leH hp hin σ bor hin) (h3 : okN 0 σ bor = true) (h4 : okH 0 m σ hin = true) (h5 : okC m hin σ = true)
    (h : ∀ res hp' nx', Post res hp' nx' → wfH hp' = true ∧ (bor = [] ∨ (res.nim = true ∧ nimH hp' = true)) ∧ runE P ops rest (putF dst (renS (bck (getN σ) nx) res) fr) (back (getN σ) nx m hp' ++ hp) (nx + nx' + 1) (acc ++ [⟨(back (getN σ) nx m hp').map (·.1), bor ++ (List.range m).filterMap (getN σ), nx, nx + nx'⟩]) K) : CallE P f args dst ops rest fr hp nx acc K := by
  obtain ⟨l1, l2⟩ := leL_get h1
  have hok : ∀ k j, getN σ k = some j → k < m ∧ liveK hin k = true := fun k j hk => by
    simp only [okC, List.all_eq_true, Bool.and_eq_true] at h5
    obtain ⟨h6, h7⟩ := h5 _ (getN_mem hk)
    exact ⟨by simpa [Nat.blt_eq] using h6, h7⟩
  refine ⟨args', hin, m, Post, getN σ, bor, spec, sub_mk h2 h3, fun k hk => ⟨?_, okH_fresh h4 k hk⟩, ?_, fun k j hk => (hok k j hk).2, l1, fun i x y hx hy => leS_sound (l2 i x y hx hy), hne, fun _ r h n r2 h2 n2 => hd r h n r2 h2 n2, h⟩
  · cases hn : getN σ k with
    | none => rfl
    | some j => have := (hok k j hn).1; omega
  · simp only [okN, Bool.and_eq_true] at h3
    exact nodupN_inj h3.1
theorem leSt_m {m : Nat} {fr fr' : Fr} {hp hp' : Hp} {nx' : Nat} (σ : List (Nat × Nat)) (frz : List Nat) (h1 : leF hp hp' σ frz fr fr') (h2 : leH hp hp' σ frz hp') (h3 : okN m σ frz = true) (h4 : okH m nx' σ hp' = true) (h5 : Nat.ble m nx' = true) : LeSt P m fr hp fr' hp' nx' := leSt_mk σ frz h1 h2 h3 h4 (Nat.le_of_ble_eq_true h5)
theorem ret_m {m : Nat} {x : SV} {hp : Hp} {Post : SV → Hp → Nat → Prop} (x' : SV) (hp' : Hp) (nx' : Nat) (σ : List (Nat × Nat)) (frz : List Nat) (hpost : Post x' hp' nx') (h1 : leS hp hp' σ frz x x') (h2 : leH hp hp' σ frz hp') (h3 : okN m σ frz = true) (h4 : okH m nx' σ hp' = true) (h5 : Nat.ble m nx' = true) : RetW P m Post x hp := ret_mk x' hp' nx' σ frz hpost h1 h2 h3 h4 (Nat.le_of_ble_eq_true h5)
theorem ret_e {m : Nat} {x X : SV} {hp H : Hp} {nn : Nat} (σ : List (Nat × Nat)) (frz : List Nat) (h1 : leS hp H σ frz x X) (h2 : leH hp H σ frz H) (h3 : okN m σ frz = true) (h4 : okH m nn σ H = true) (h5 : Nat.ble m nn = true) : RetW P m (fun r h n => r = X ∧ h = H ∧ n = nn) x hp := ret_mk X H nn σ frz ⟨rfl, rfl, rfl⟩ h1 h2 h3 h4 (Nat.le_of_ble_eq_true h5)
end Go.Sx
