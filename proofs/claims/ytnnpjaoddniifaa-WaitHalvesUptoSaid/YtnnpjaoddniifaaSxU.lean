/-
  Sx, part U: code.
-/
import Derived.Test.YtnnpjaoddniifaaSxT
import Derived.Scope
set_option linter.unusedSimpArgs false
set_option linter.unusedVariables false
namespace Go.Sx
set_option linter.unusedVariables false
open Go.RowKit
variable {X : Cx} {hp : Hp} {nx : Nat} {ids : Ids} {w : World}

inductive SExit where
  | normal
  | exit (id : Nat)
  | ret
abbrev SPost := SExit → Fr → Hp → Nat → Prop

/-- Less is known of a state, under other names. -/
structure LeSt (P : Program) (m : Nat) (fr : Fr) (hp : Hp) (fr' : Fr) (hp' : Hp) (nx' : Nat) : Prop where
  ex : ∃ (σ : Nat → Option Nat) (frz : List Nat), Sub P (getH hp) (getH hp') σ (· ∈ frz) ∧ (∀ k, k < m → (getH hp' k).live = true → σ k = some k) ∧ ∀ d, LeS P (getH hp) (getH hp') σ (· ∈ frz) (getF fr d) (getF fr' d)
  fresh : ∀ k, nx' ≤ k → getH hp' k = .unborn
  le : m ≤ nx'

theorem StX.weaken {N : Nat} {fr fr' : Fr} {hp' : Hp} {nx' : Nat} {a : Act} (h : StX X N fr hp nx a w) (hl : LeSt X.P X.m fr hp fr' hp' nx') : StX X N fr' hp' nx' a w := by
  obtain ⟨ids, hH, hF, hN, hD⟩ := h
  obtain ⟨σ, frz, hS, hm, hd⟩ := hl.ex
  obtain ⟨ids', h1, h2⟩ := Sx.weaken hH.toHeapC hS hl.fresh hm hl.le
  exact ⟨ids', h1, fun d => h2 _ _ _ (hd d) (hF d), hN, hD⟩

/-- A loop, by what holds at its head. -/
def LoopI (P : Program) (m : Nat) (body : SPost → Fr → Hp → Nat → Prop) (Q : SPost) (fr : Fr) (hp : Hp) (nx : Nat) : Prop :=
  ∃ (S : Type) (fr0 : S → Fr) (hp0 : S → Hp) (nx0 : S → Nat) (I : S → Prop) (μ : S → Nat), (∃ s, I s ∧ LeSt P m fr hp (fr0 s) (hp0 s) (nx0 s)) ∧
    ∀ s, I s → body (fun e fr' hp' nx' => match e with
      | .normal => ∃ s', I s' ∧ μ s' < μ s ∧ LeSt P m fr' hp' (fr0 s') (hp0 s') (nx0 s')
      | e => Q e fr' hp' nx') (fr0 s) (hp0 s) (nx0 s)

/-- A loop, after so many rounds. -/
def LoopR (P : Program) (m : Nat) (body : SPost → Fr → Hp → Nat → Prop) (Q : SPost) : Nat → Fr → Hp → Nat → Prop
  | 0, fr, hp, nx => LoopI P m body Q fr hp nx
  | n + 1, fr, hp, nx => body (fun e fr' hp' nx' => match e with
      | .normal => LoopR P m body Q n fr' hp' nx'
      | e => Q e fr' hp' nx') fr hp nx
def LoopW (P : Program) (m : Nat) (body : SPost → Fr → Hp → Nat → Prop) (Q : SPost) (fr : Fr) (hp : Hp) (nx : Nat) : Prop := ∃ n, LoopR P m body Q n fr hp nx

/-- Goes on, or goes on with less known. -/
def Wk (P : Program) (m : Nat) (K : Fr → Hp → Nat → Prop) (fr : Fr) (hp : Hp) (nx : Nat) : Prop := K fr hp nx ∨ ∃ fr' hp' nx', LeSt P m fr hp fr' hp' nx' ∧ K fr' hp' nx'
/-- Of the same state less may be told. -/
def EqSt (fr fr' : Fr) (hp hp' : Hp) : Prop := (∀ d, getF fr' d = getF fr d ∨ getF fr' d = .any) ∧ ∀ k, getH hp' k = getH hp k
def EqW (K : Fr → Hp → Nat → Prop) (fr : Fr) (hp : Hp) (nx : Nat) : Prop := ∃ fr' hp', EqSt fr fr' hp hp' ∧ K fr' hp' nx
theorem StX.eqSt {N : Nat} {fr fr' : Fr} {hp' : Hp} {a : Act} (h : StX X N fr hp nx a w) (e : EqSt fr fr' hp hp') : StX X N fr' hp' nx a w := by
  obtain ⟨ids, hH, hF, hN, hD⟩ := h
  have he : getH hp = getH hp' := funext fun k => (e.2 k).symm
  refine ⟨ids, ?_, fun d => ?_, hN, hD⟩
  · refine ⟨?_, fun k hk => by rw [e.2]; exact hH.fresh k hk, hH.m_le⟩
    have := hH.toHeapC
    exact ⟨by rw [← he]; exact this.1, by rw [← he]; exact this.2⟩
  · rcases e.1 d with h1 | h1
    · rw [h1]; have := hF d; unfold DenX at this ⊢; rw [← he]; exact this
    · rw [h1]; exact .any
def thenS (K : Fr → Hp → Nat → Prop) (Q : SPost) : SPost
  | .normal => K
  | e => Q e
def blockS (id : Nat) (Q : SPost) : SPost
  | .exit j => if j = id then Q .normal else Q (.exit j)
  | e => Q e
def wkS (P : Program) (m : Nat) (Q : SPost) : SPost
  | .normal => Wk P m (Q .normal)
  | e => Q e

/-- What is to be shown for a piece of code (drawn regions: by 'D'). -/
def SwpD (D : (id : Nat) → (ops : Array Oper) → (Fr → Hp → Nat → Prop) → Fr → Hp → Nat → Prop) (P : Program) (m N : Nat) : Code → SPost → Fr → Hp → Nat → Prop
  | .skip, Q, fr, hp, nx => Q .normal fr hp nx
  | .label _, Q, fr, hp, nx => Q .normal fr hp nx
  | .region id ops false, Q, fr, hp, nx => runOps P ops ops.toList fr hp nx (EqW (Q .normal))
  | .region id ops true, Q, fr, hp, nx => D id ops (EqW (Q .normal)) fr hp nx
  | .seq x y, Q, fr, hp, nx => SwpD D P m N x (thenS (Wk P m (SwpD D P m N y Q)) Q) fr hp nx
  | .cond c x y, Q, fr, hp, nx => match evS true fr c with
    | .v (.bool b) => Br b (SwpD D P m N x Q fr hp nx) (SwpD D P m N y Q fr hp nx)
    | _ => False
  | .block id c, Q, fr, hp, nx => SwpD D P m N c (blockS id (wkS P m Q)) fr hp nx
  | .exit id, Q, fr, hp, nx => Q (.exit id) fr hp nx
  | .loop c, Q, fr, hp, nx => LoopW P m (SwpD D P m N c) Q fr hp nx
  | .scope c, Q, fr, hp, nx => SwpD D P m N c Q fr hp nx
  | .ret, Q, fr, hp, nx => Q .ret fr hp nx
  | _, _, _, _, _ => False

def codeOk (N : Nat) : Code → Bool
  | .region _ ops _ => dstOk N ops
  | .seq x y => codeOk N x && codeOk N y
  | .cond _ x y => codeOk N x && codeOk N y
  | .block _ c => codeOk N c
  | .loop c => codeOk N c
  | .scope c => codeOk N c
  | _ => true

def liftQ (X : Cx) (N : Nat) (Q : SPost) : Exit → Act → World → Prop
  | .normal, a, w => ∃ fr hp nx, Q .normal fr hp nx ∧ StX X N fr hp nx a w
  | .exit id, a, w => ∃ fr hp nx, Q (.exit id) fr hp nx ∧ StX X N fr hp nx a w
  | .ret, a, w => ∃ fr hp nx, Q .ret fr hp nx ∧ StX X N fr hp nx a w
  | _, _, _ => False

/-- A way with drawn regions. -/
def DrawOk (D : (id : Nat) → (ops : Array Oper) → (Fr → Hp → Nat → Prop) → Fr → Hp → Nat → Prop) (P : Program) : Prop :=
  ∀ (X : Cx) (N id : Nat) (ops : Array Oper) (K : Fr → Hp → Nat → Prop) (Q : Exit → Act → World → Prop) (fr : Fr) (hp : Hp) (nx : Nat) (a : Act) (w : World), X.P = P → dstOk N ops = true →
    (∀ fr hp nx a w, K fr hp nx → StX X N fr hp nx a w → Q .normal a w) → StX X N fr hp nx a w → D id ops K fr hp nx → (Code.region id ops true).wp X.P Q a w

theorem swp_sound {D : (id : Nat) → (ops : Array Oper) → (Fr → Hp → Nat → Prop) → Fr → Hp → Nat → Prop} (hD : DrawOk D X.P) {N : Nat} : ∀ (c : Code) (Q : SPost) (fr : Fr) (hp : Hp) (nx : Nat) (a : Act) (w : World), codeOk N c = true → StX X N fr hp nx a w → SwpD D X.P X.m N c Q fr hp nx → c.wp X.P (liftQ X N Q) a w := by
  intro c
  induction c with
  | skip => exact fun Q fr hp nx a w _ hs h => wp_skip ⟨fr, hp, nx, h, hs⟩
  | label l => exact fun Q fr hp nx a w _ hs h => wp_label ⟨fr, hp, nx, h, hs⟩
  | exit id => exact fun Q fr hp nx a w _ hs h => wp_exit ⟨fr, hp, nx, h, hs⟩
  | ret => exact fun Q fr hp nx a w _ hs h => wp_ret ⟨fr, hp, nx, h, hs⟩
  | region id ops draw =>
    intro Q fr hp nx a w hd hs h
    cases draw with
    | false => exact region_sound hd (fun fr hp nx a w ⟨fr', hp', he, hk⟩ hs => ⟨fr', hp', nx, hk, hs.eqSt he⟩) hs h
    | true => exact hD X N id ops _ _ fr hp nx a w rfl hd (fun fr hp nx a w ⟨fr', hp', he, hk⟩ hs => ⟨fr', hp', nx, hk, hs.eqSt he⟩) hs h
  | seq x y hx hy =>
    intro Q fr hp nx a w hd hs h
    simp only [codeOk, Bool.and_eq_true] at hd
    refine wp_seq (wp_mono (hx _ fr hp nx a w hd.1 hs h) fun e a w he => ?_)
    cases e with
    | normal =>
      obtain ⟨fr, hp, nx, hk, hs⟩ := he
      simp only [thenS] at hk
      rcases hk with hk | ⟨fr', hp', nx', hle, hk⟩
      · exact hy Q fr hp nx a w hd.2 hs hk
      · exact hy Q fr' hp' nx' a w hd.2 (hs.weaken hle) hk
    | exit id => exact he
    | ret => exact he
    | _ => exact he.elim
  | cond c x y hx hy =>
    intro Q fr hp nx a w hd hs h
    simp only [codeOk, Bool.and_eq_true] at hd
    simp only [SwpD] at h
    obtain ⟨ids, hH, hF, hN, hdf⟩ := hs
    have hev := ev_den (X := X) hF (g := true) rfl c
    split at h
    · rename_i b hb
      rw [hb] at hev
      refine wp_cond (den_v hev) ?_
      cases b with
      | true => exact hx Q fr hp nx a w hd.1 ⟨ids, hH, hF, hN, hdf⟩ (h.1 rfl)
      | false => exact hy Q fr hp nx a w hd.2 ⟨ids, hH, hF, hN, hdf⟩ (h.2 rfl)
    · exact h.elim
  | block id c ih =>
    intro Q fr hp nx a w hd hs h
    refine wp_block (wp_mono (ih _ fr hp nx a w hd hs h) fun e a w he => ?_)
    have wk : ∀ {fr hp nx}, Wk X.P X.m (Q .normal) fr hp nx → StX X N fr hp nx a w → ∃ fr hp nx, Q .normal fr hp nx ∧ StX X N fr hp nx a w := by
      rintro fr hp nx (hk | ⟨fr', hp', nx', hle, hk⟩) hs
      · exact ⟨fr, hp, nx, hk, hs⟩
      · exact ⟨fr', hp', nx', hk, hs.weaken hle⟩
    cases e with
    | normal => obtain ⟨fr, hp, nx, hk, hs⟩ := he; exact wk hk hs
    | exit j =>
      obtain ⟨fr, hp, nx, hk, hs⟩ := he
      simp only [blockS] at hk
      simp only [Exit.inBlock]
      split
      · rename_i hj; rw [if_pos hj] at hk; exact wk hk hs
      · rename_i hj; rw [if_neg hj] at hk; exact ⟨fr, hp, nx, hk, hs⟩
    | ret => exact he
    | _ => exact he.elim
  | scope c ih =>
    intro Q fr hp nx a w hd hs h
    refine wp_scope_straight (wp_mono (ih Q fr hp nx a w hd hs h) fun e a w he => ?_)
    cases e with
    | normal => exact he
    | exit id => exact he
    | ret => exact he
    | _ => exact he.elim
  | loop c ih =>
    intro Q fr hp nx a w hd hs h
    obtain ⟨nr, h⟩ := h
    intro b k cs
    have inner : ∀ (nr : Nat) (fr : Fr) (hp : Hp) (nx : Nat) (a : Act) (w : World), StX X N fr hp nx a w → LoopR X.P X.m (SwpD D X.P X.m N c) Q nr fr hp nx → ∃ e a' w', liftQ X N Q e a' w' ∧ Arrives X.P (lone (b.at a (.code c :: .inLoop c :: k)) cs w) b k cs e a' w' := by
      intro nr
      induction nr with
      | succ nr ihr =>
        intro fr hp nx a w hst h
        obtain ⟨e, a1, w1, hq, harr⟩ := ih _ _ _ _ a w hd hst h b (.inLoop c :: k) cs
        cases e with
        | normal =>
          obtain ⟨fr', hp', nx', hk, hst'⟩ := hq
          obtain ⟨e2, a2, w2, hq2, harr2⟩ := ihr fr' hp' nx' a1 w1 hst' hk
          exact ⟨e2, a2, w2, hq2, .of_steps (Steps.trans harr (.one step_inLoop)) harr2⟩
        | exit id =>
          obtain ⟨fr', hp', nx', hq, hst'⟩ := hq
          exact ⟨.exit id, a1, w1, ⟨fr', hp', nx', hq, hst'⟩, .pass (x := .inLoop c) rfl (fun _ _ => .inl (by simp)) harr⟩
        | ret =>
          obtain ⟨fr', hp', nx', hq, hst'⟩ := hq
          exact ⟨.ret, a1, w1, ⟨fr', hp', nx', hq, hst'⟩, .pass (x := .inLoop c) rfl (fun _ _ => .inl (by simp)) harr⟩
        | goto l => exact hq.elim
        | panic ch => exact hq.elim
        | outgrown => exact hq.elim
      | zero =>
      intro fr hp nx a w hs h
      obtain ⟨S, fr0, hp0, nx0, I, μ, ⟨s0, hI0, hle⟩, hbody⟩ := h
      have key : ∀ (n : Nat) (s : S) (a : Act) (w : World), μ s = n → I s → StX X N (fr0 s) (hp0 s) (nx0 s) a w → ∃ e a' w', liftQ X N Q e a' w' ∧ Arrives X.P (lone (b.at a (.code c :: .inLoop c :: k)) cs w) b k cs e a' w' := by
        intro n
        induction n using Nat.strongRecOn with
        | _ n ihn =>
          intro s a w hn hI hst
          obtain ⟨e, a1, w1, hq, harr⟩ := ih _ _ _ _ a w hd hst (hbody s hI) b (.inLoop c :: k) cs
          cases e with
          | normal =>
            obtain ⟨fr', hp', nx', ⟨s', hI', hlt, hle'⟩, hst'⟩ := hq
            obtain ⟨e2, a2, w2, hq2, harr2⟩ := ihn (μ s') (hn ▸ hlt) s' a1 w1 rfl hI' (hst'.weaken hle')
            exact ⟨e2, a2, w2, hq2, .of_steps (Steps.trans harr (.one step_inLoop)) harr2⟩
          | exit id =>
            obtain ⟨fr', hp', nx', hq, hst'⟩ := hq
            exact ⟨.exit id, a1, w1, ⟨fr', hp', nx', hq, hst'⟩, .pass (x := .inLoop c) rfl (fun _ _ => .inl (by simp)) harr⟩
          | ret =>
            obtain ⟨fr', hp', nx', hq, hst'⟩ := hq
            exact ⟨.ret, a1, w1, ⟨fr', hp', nx', hq, hst'⟩, .pass (x := .inLoop c) rfl (fun _ _ => .inl (by simp)) harr⟩
          | goto l => exact hq.elim
          | panic ch => exact hq.elim
          | outgrown => exact hq.elim
      exact key _ s0 a w rfl hI0 (hs.weaken hle)
    obtain ⟨e, a', w', hq, harr⟩ := inner nr fr hp nx a w hs h
    exact ⟨e, a', w', hq, .of_steps (.one step_loop) harr⟩
  | _ => exact fun Q fr hp nx a w _ hs h => h.elim
end Go.Sx
