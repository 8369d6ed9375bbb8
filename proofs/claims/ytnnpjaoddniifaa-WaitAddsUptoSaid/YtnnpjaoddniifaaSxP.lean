/-
  Sx, part P: contracts, and calls by contract.
-/
import Derived.Test.YtnnpjaoddniifaaSxO
set_option linter.unusedSimpArgs false
set_option linter.unusedVariables false
namespace Go.Sx
set_option linter.unusedVariables false
open Go.RowKit
variable {X : Cx} {hp : Hp} {nx : Nat} {ids : Ids} {w : World}

/-- THE CONTRACT of a function: called with values that are as 'args' say, over chunks 0 .. m - 1 as 'hin' says, it returns; what comes back, and the chunks then, are as 'Post' says. -/
def SpecW (P : Program) (f : FuncId) (args : List SV) (hin : Hp) (m : Nat) (Post : SV → Hp → Nat → Prop) : Prop :=
  (∃ fn body, P.funcs[f]? = some fn ∧ fn.body = some body ∧ fn.name ≠ "runtime.NumGoroutine") ∧ ∀ (X : Cx) (vals : Array Value), X.P = P → X.m = m → HeapF X hin m X.ids0 X.w0 → vals.size = args.length → (∀ i x, args[i]? = some x → DenX X hin X.ids0 X.w0 x (vals.getD i undef)) →
    Calls P f vals X.w0 fun e w' => ∃ r res hp' nx' ids', e = .returned r ∧ Post res hp' nx' ∧ HeapF X hp' nx' ids' w' ∧ DenX X hp' ids' w' res r

mutual
/-- Under other names. -/
def renS (τ : Nat → Nat) : SV → SV
  | .any => .any
  | .v x => .v x
  | .agg xs => .agg (renL τ xs)
  | .tup xs => .tup (renL τ xs)
  | .sl n xs => .sl n (renL τ xs)
  | .own k o n => .own (τ k) o n
  | .ptr k o => .ptr (τ k) o
  | .iptr xs o => .iptr (renL τ xs) o
  | .mp k => .mp (τ k)
  | .it k => .it (τ k)
  | .clo f xs => .clo f (renL τ xs)
  | .gd g x => .gd g (renS τ x)
def renL (τ : Nat → Nat) : List SV → List SV
  | [] => []
  | x :: xs => renS τ x :: renL τ xs
end
theorem renL_map (τ : Nat → Nat) : ∀ xs : List SV, renL τ xs = xs.map (renS τ)
  | [] => rfl
  | x :: xs => by rw [renL, renL_map τ xs]; rfl
def renC (τ : Nat → Nat) : Chunk → Chunk
  | .unborn => .unborn
  | .dead => .dead
  | .row e cs => .row e (renL τ cs)
  | .map es => .map (es.map fun p => (p.1, renS τ p.2))
  | .obj s pos => .obj s pos
theorem renC_live (τ : Nat → Nat) (c : Chunk) : (renC τ c).live = c.live := by cases c <;> rfl

mutual
/-- Names nothing immutable. -/
def SV.nim : SV → Bool
  | .any => true
  | .v _ => true
  | .agg xs => nimL xs
  | .tup xs => nimL xs
  | .sl n xs => n == 0 && xs.isEmpty
  | .iptr _ _ => false
  | .clo _ xs => nimL xs
  | .gd _ x => x.nim
  | .own _ _ _ => true
  | .ptr _ _ => true
  | .mp _ => true
  | .it _ => true
def nimL : List SV → Bool
  | [] => true
  | x :: xs => x.nim && nimL xs
end
theorem nimL_get : ∀ {xs : List SV}, nimL xs = true → ∀ (i : Nat) (x : SV), xs[i]? = some x → x.nim = true
  | [], _, i, x, h => by simp at h
  | y :: ys, hc, i, x, h => by
    simp only [nimL, Bool.and_eq_true] at hc
    cases i with
    | zero => simp at h; subst h; exact hc.1
    | succ i => exact nimL_get hc.2 i x (by simpa using h)
theorem nimL_of {xs : List SV} (h : ∀ x ∈ xs, x.nim = true) : nimL xs = true := by
  induction xs with
  | nil => rfl
  | cons y ys ih => simp only [nimL, Bool.and_eq_true]; exact ⟨h y (by simp), ih fun x hx => h x (by simp [hx])⟩
def nimC : Chunk → Bool
  | .row _ cs => nimL cs
  | .map es => es.all fun p => p.2.nim
  | _ => true
def nimH (hp : Hp) : Bool := hp.all fun p => nimC p.2
theorem nimH_get {hp : Hp} (h : nimH hp = true) (k : Nat) : nimC (getH hp k) = true := by
  induction hp with
  | nil => rfl
  | cons p r ih =>
    simp only [nimH, List.all_cons, Bool.and_eq_true] at h
    simp only [getH]
    cases p.1 == k with
    | true => exact h.1
    | false => exact ih h.2

theorem renS_get {τ : Nat → Nat} {xs : List SV} {i : Nat} {y : SV} (h : (renL τ xs)[i]? = some y) : ∃ x, xs[i]? = some x ∧ y = renS τ x := by
  rw [renL_map, List.getElem?_map] at h
  cases hx : xs[i]? with
  | none => rw [hx] at h; cases h
  | some x => rw [hx] at h; cases h; exact ⟨x, rfl, rfl⟩

theorem den_ren {P : Program} {C C2 : Nat → Chunk} {ids ids2 : Ids} {I I2 : Nat → Prop} {w : World} {τ : Nat → Nat} (hC : ∀ k, C k ≠ .unborn → C2 (τ k) = renC τ (C k) ∧ ((C k).live = true → ids2 (τ k) = ids k)) {im : Bool} (hI : im = true → ∀ b, I b → I2 b)
    {s : SV} {x : Value} (h : Den P C ids I w s x) : (im = false → s.nim = true) → Den P C2 ids2 I2 w (renS τ s) x := by
  induction h with
  | any => exact fun _ => .any
  | v => exact fun _ => .v
  | agg arr h _ ih =>
    intro hn
    refine .agg arr (by rw [renL_map, List.length_map]; exact h) fun i y hy => ?_
    obtain ⟨x, hx, rfl⟩ := renS_get hy
    exact ih i x hx fun he => nimL_get (hn he) i x hx
  | tup arr h _ ih =>
    intro hn
    refine .tup arr (by rw [renL_map, List.length_map]; exact h) fun i y hy => ?_
    obtain ⟨x, hx, rfl⟩ := renS_get hy
    exact ih i x hx fun he => nimL_get (hn he) i x hx
  | clo arr h _ ih =>
    intro hn
    refine .clo arr (by rw [renL_map, List.length_map]; exact h) fun i y hy => ?_
    obtain ⟨x, hx, rfl⟩ := renS_get hy
    exact ih i x hx fun he => nimL_get (hn he) i x hx
  | sl0 hc => exact fun _ => .sl0 hc
  | sl b o cap c hb hn hcap hc _ ih =>
    intro hnim
    cases him : im with
    | false =>
      have := hnim him
      simp only [SV.nim, Bool.and_eq_true, beq_iff_eq, List.isEmpty_iff] at this
      obtain ⟨rfl, rfl⟩ := this
      exact .sl0 hcap
    | true =>
      refine .sl b o cap c (hI him b hb) hn hcap (fun i y hy => ?_) (fun i y hy => ?_)
      · obtain ⟨x, hx, rfl⟩ := renS_get hy; exact hc i x hx
      · obtain ⟨x, hx, rfl⟩ := renS_get hy; exact ih i x hx fun he => by rw [him] at he; cases he
  | iptr b o c hb hc _ ih =>
    intro hnim
    cases him : im with
    | false => have := hnim him; cases this
    | true =>
      refine .iptr b o c (hI him b hb) (fun i y hy => ?_) (fun i y hy => ?_)
      · obtain ⟨x, hx, rfl⟩ := renS_get hy; exact hc i x hx
      · obtain ⟨x, hx, rfl⟩ := renS_get hy; exact ih i x hx fun he => by rw [him] at he; cases he
  | gd _ hn ih => exact fun hnim => .gd (fun hg => ih hg fun he => hnim he) hn
  | ownDead h => exact fun _ => .ownDead (by rw [(hC _ (by rw [h]; simp)).1, h]; rfl)
  | own a cap hl h =>
    rename_i k off n
    intro _
    obtain ⟨h1, h2⟩ := hC k (fun e => by rw [e] at hl; cases hl)
    refine .own a cap (by rw [h1, renC_live]; exact hl) ⟨h.1, h.2.1, fun e2 cs2 hc2 => ?_, ?_⟩
    · rw [h1] at hc2
      cases hck : C k with
      | row e3 cs3 =>
        rw [hck, renC] at hc2
        cases hc2
        rw [renL_map, List.length_map]
        exact h.2.2.1 _ _ hck
      | _ => rw [hck, renC] at hc2; cases hc2
    rcases h.2.2.2 with h3 | ⟨b, o, e, cs, arr, hc, hid, ha, hw, hsz⟩
    · exact .inl h3
    · exact .inr ⟨b, o, e, renL τ cs, arr, by rw [h1, hc]; rfl, by rw [h2 hl]; exact hid, ha, hw, hsz⟩
  | ptrDead h => exact fun _ => .ptrDead (by rw [(hC _ (by rw [h]; simp)).1, h]; rfl)
  | ptr b o hl h =>
    rename_i k off
    obtain ⟨h1, h2⟩ := hC k (fun e => by rw [e] at hl; cases hl)
    exact fun _ => .ptr b o (by rw [h1, renC_live]; exact hl) (by rw [h2 hl]; exact h)
  | mpDead h => exact fun _ => .mpDead (by rw [(hC _ (by rw [h]; simp)).1, h]; rfl)
  | mp b hl h =>
    rename_i k
    obtain ⟨h1, h2⟩ := hC k (fun e => by rw [e] at hl; cases hl)
    exact fun _ => .mp b (by rw [h1, renC_live]; exact hl) (by rw [h2 hl]; exact h)
  | itDead h => exact fun _ => .itDead (by rw [(hC _ (by rw [h]; simp)).1, h]; rfl)
  | it b hl h =>
    rename_i k
    obtain ⟨h1, h2⟩ := hC k (fun e => by rw [e] at hl; cases hl)
    exact fun _ => .it b (by rw [h1, renC_live]; exact hl) (by rw [h2 hl]; exact h)


def bck (σ : Nat → Option Nat) (nx k : Nat) : Nat := match σ k with
  | some j => j
  | none => nx + k
/-- The chunks that were handed over, as they come back, and new ones. -/
def back (σ : Nat → Option Nat) (nx m : Nat) (hp' : Hp) : Hp := hp'.map (fun p => (bck σ nx p.1, renC (bck σ nx) p.2)) ++ (List.range m).filterMap fun k => (σ k).map fun j => (j, Chunk.dead)

theorem getH_append (l r : Hp) (k : Nat) : getH (l ++ r) k = if (∃ p ∈ l, p.1 = k) then getH l k else getH r k := by
  induction l with
  | nil => simp [getH]
  | cons p l ih =>
    simp only [List.cons_append, getH]
    by_cases h : p.1 = k
    · rw [show (p.1 == k) = true from by simpa using h, cond_true, cond_true, if_pos ⟨p, by simp, h⟩]
    · rw [show (p.1 == k) = false from by simpa using h, cond_false, cond_false, ih]
      by_cases h2 : ∃ q ∈ l, q.1 = k
      · rw [if_pos h2, if_pos]
        obtain ⟨q, hq, hk⟩ := h2
        exact ⟨q, by simp [hq], hk⟩
      · rw [if_neg h2, if_neg]
        rintro ⟨q, hq, hk⟩
        rcases List.mem_cons.1 hq with rfl | hq
        · exact h hk
        · exact h2 ⟨q, hq, hk⟩
theorem getH_map {τ : Nat → Nat} (hτ : ∀ a b, τ a = τ b → a = b) (l : Hp) (k : Nat) : getH (l.map fun p => (τ p.1, renC τ p.2)) (τ k) = renC τ (getH l k) := by
  induction l with
  | nil => rfl
  | cons p l ih =>
    simp only [List.map_cons, getH]
    by_cases h : p.1 = k
    · subst h; simp
    · rw [show (τ p.1 == τ k) = false from by simp; exact fun e => h (hτ _ _ e), show (p.1 == k) = false from by simpa using h, cond_false, cond_false, ih]
theorem getH_unlisted {l : Hp} {k : Nat} (h : ¬ ∃ p ∈ l, p.1 = k) : getH l k = .unborn := by
  induction l with
  | nil => rfl
  | cons p l ih =>
    simp only [getH]
    rw [show (p.1 == k) = false from by simp; exact fun e => h ⟨p, by simp, e⟩, cond_false]
    exact ih fun ⟨q, hq, hk⟩ => h ⟨q, by simp [hq], hk⟩
theorem getH_deads {l : List Nat} {k : Nat} : getH (l.map fun j => (j, Chunk.dead)) k = if k ∈ l then .dead else .unborn := by
  induction l with
  | nil => simp [getH]
  | cons j l ih =>
    simp only [List.map_cons, getH, ih]
    by_cases h : j = k
    · subst h; simp
    · have : ¬ k = j := fun e => h e.symm
      simp [h, this]

end Go.Sx
