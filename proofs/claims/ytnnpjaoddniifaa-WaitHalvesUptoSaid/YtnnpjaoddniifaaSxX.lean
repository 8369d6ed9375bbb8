/-
  Sx, part X: straight pieces of code are evaluated by a function (and so by the kernel).
-/
import Derived.Test.YtnnpjaoddniifaaSxW
set_option linter.unusedSimpArgs false
set_option linter.unusedVariables false
namespace Go.Sx
open Go.RowKit
set_option linter.unusedVariables false
variable {P : Program} {fr : Fr} {hp : Hp} {nx : Nat}

/-! ### Nothing hangs on how a frame is written -/
theorem evS_congr {fr' : Fr} (h : getF fr = getF fr') (g : Bool) : evS g fr = evS g fr' := by
  funext x
  cases x <;> simp only [evS, h]
theorem rawS_congr {fr' : Fr} (h : getF fr = getF fr') : rawS fr = rawS fr' := by
  funext x
  cases x <;> simp only [rawS, h]
theorem putF_congr {fr' : Fr} (h : getF fr = getF fr') (d : Option Tmp) (x : SV) : getF (putF d x fr) = getF (putF d x fr') := by
  cases d with
  | none => exact h
  | some d => funext t; simp only [putF, getF, h]
theorem opS_congr {fr' : Fr} (h : getF fr = getF fr') (g : Bool) (ty : TypeId) (o : Op) : opS P g fr hp nx ty o = opS P g fr' hp nx ty o := by
  unfold opS
  rw [evS_congr h, rawS_congr h]
theorem callOf_congr {fr' : Fr} (h : getF fr = getF fr') (g : Bool) (o : Op) : callOf g fr o = callOf g fr' o := by
  unfold callOf
  rw [evS_congr h]
theorem guardS_congr {fr' : Fr} (h : getF fr = getF fr') (ops : Array Oper) (j : Nat) (w : Bool) : guardS ops fr j w = guardS ops fr' j w := by
  unfold guardS
  rw [h]
theorem stepW_congr {fr' : Fr} (h : getF fr = getF fr') {dt : Bool} {ops : Array Oper} {o : Oper} {K K' : SV → Hp → Nat → List Nat → Prop} (hK : ∀ v u n r, K v u n r → K' v u n r) (hs : stepW dt P ops o fr hp nx K) : stepW dt P ops o fr' hp nx K' := by
  have core : ∀ {g : Bool}, coreW dt P g o fr hp nx K → coreW dt P g o fr' hp nx K' := by
    intro g hc
    unfold coreW at hc ⊢
    rw [← callOf_congr h]
    cases hcl : callOf g fr o.op with
    | some c =>
      rw [hcl] at hc
      obtain ⟨args', hin, m, Post, σ, bor, h1, h2, h3, h4, h5, h6, h7, h8, h9, h10⟩ := hc
      exact ⟨args', hin, m, Post, σ, bor, h1, h2, h3, h4, h5, h6, h7, h8, h9, fun res hp' nx' hp => ⟨(h10 res hp' nx' hp).1, (h10 res hp' nx' hp).2.1, hK _ _ _ _ (h10 res hp' nx' hp).2.2⟩⟩
    | none =>
      rw [hcl] at hc
      simp only at hc ⊢
      rw [← opS_congr h]
      rcases hc with hc | hc
      · exact .inl ⟨hc.1, hc.2.mono h hK⟩
      refine .inr ?_
      cases hop : opS P g fr hp nx o.type o.op with
      | bad => rw [hop] at hc; exact hc
      | ok s e => rw [hop] at hc; exact ⟨hc.1, hK _ _ _ _ hc.2⟩
  unfold stepW at hs ⊢
  cases hg : o.guard with
  | none => rw [hg] at hs; exact core hs
  | some jw =>
    rw [hg] at hs
    simp only at hs ⊢
    rw [← guardS_congr h]
    cases hgs : guardS ops fr jw.1 jw.2 with
    | none => rw [hgs] at hs; exact hs
    | some g =>
      rw [hgs] at hs
      simp only at hs ⊢
      cases hq : quietP P o.op with
      | true =>
        rw [hq] at hs
        simp only [cond_true] at hs ⊢
        rcases hs with hs | hs
        · exact .inl ⟨hs.1, hK _ _ _ _ hs.2⟩
        · refine .inr ?_
          rw [← opS_congr h]
          cases hop : opS P g fr hp nx o.type o.op with
          | bad => rw [hop] at hs; exact hs
          | ok s e =>
            rw [hop] at hs
            simp only at hs ⊢
            cases hu : e.upd with
            | nil => rw [hu] at hs; exact ⟨hs.1, hK _ _ _ _ hs.2⟩
            | cons a b => rw [hu] at hs; exact hs
      | false =>
        rw [hq] at hs
        exact ⟨fun hg => core (hs.1 hg), fun hg => hK _ _ _ _ (hs.2 hg)⟩
/-- What frames are asked for alone. -/
def FrOnly (K : Fr → Hp → Nat → Prop) : Prop := ∀ fr fr' hp nx, getF fr = getF fr' → K fr hp nx → K fr' hp nx
theorem eqW_only (K : Fr → Hp → Nat → Prop) : FrOnly (EqW K) := fun fr fr' hp nx h ⟨f1, h1, he, hk⟩ => ⟨f1, h1, ⟨fun d => by rw [← h]; exact he.1 d, he.2⟩, hk⟩
theorem runOps_congr {ops : Array Oper} {K : Fr → Hp → Nat → Prop} (hK : FrOnly K) : ∀ (l : List Oper) (fr fr' : Fr) (hp : Hp) (nx : Nat), getF fr = getF fr' → runOps P ops l fr hp nx K → runOps P ops l fr' hp nx K
  | [], fr, fr', hp, nx, h, hr => hK _ _ _ _ h hr
  | o :: l, fr, fr', hp, nx, h, hr => stepW_congr h (fun v u n r hk => runOps_congr hK l _ _ _ _ (putF_congr h _ _) hk) hr
theorem runD_congr {ops : Array Oper} {K : List Nms → Fr → Hp → Nat → Prop} (hK : ∀ ns, FrOnly (K ns)) : ∀ (l : List Oper) (fr fr' : Fr) (hp : Hp) (nx : Nat) (acc : List Nms), getF fr = getF fr' → runD P ops l fr hp nx acc K → runD P ops l fr' hp nx acc K
  | [], fr, fr', hp, nx, acc, h, hr => hK _ _ _ _ _ h hr
  | o :: l, fr, fr', hp, nx, acc, h, hr => stepW_congr h (fun v u n r hk => runD_congr hK l _ _ _ _ _ (putF_congr h _ _) hk) hr

/-! ### What is settled by counting -/
def takeB (P : Program) (t : TypeId) (cs : List SV) (off : Nat) : Bool := match aggT P t, szT P t with
  | some true, some n => Nat.ble (off + n) cs.length
  | some false, _ => Nat.blt off cs.length
  | _, _ => false
def sideOk (P : Program) (g : Bool) (fr : Fr) (hp : Hp) (o : Op) : Bool := match o with
  | .move _ => true
  | .assign _ => true
  | .pick _ _ _ => true
  | .alloc _ => true
  | .build _ _ => true
  | .buildSlice _ _ _ => true
  | .fieldAddr _ _ _ => true
  | .extract _ _ => true
  | .unOp _ _ _ => true
  | .convert _ d x => match evS g fr x with
    | .v (.int _ _) => true
    | .v (.string _) => (match P.underlying d with | some .string => true | _ => false)
    | _ => false
  | .makeFunc _ _ _ => true
  | .makeMap _ _ => true
  | .nilCheck _ => true
  | .box _ x => (cellsS (evS g fr x)).all oneS
  | .load t a => match evS g fr a with
    | .ptr k off => match getH hp k with
      | .row _ cs => takeB P t cs off
      | _ => false
    | .iptr cs off => takeB P t cs off
    | _ => false
  | .store t a x => match evS g fr a with
    | .ptr k off => match getH hp k with
      | .row _ cs => (match szT P t with | some n => n == (cellsS (evS g fr x)).length | none => false) && ((cellsS (evS g fr x)).all oneS && Nat.ble (off + (cellsS (evS g fr x)).length) cs.length)
      | _ => false
    | _ => false
  | .field t x f => match fieldT P t f, evS g fr x with
    | some (o, ft, _), .agg cs => takeB P ft cs o
    | _, _ => false
  | .index t x i => match evS g fr x, evS g fr i, arrT P t with
    | .agg cs, .v (.int _ n), some (len, e, z) => decide (0 ≤ n) && decide (n < len) && takeB P e cs (n.toNat * z)
    | _, _, _ => false
  | .binOp op _ x y _ => match evS g fr x, evS g fr y with
    | .v (.string _), _ => false
    | .v (.int _ _), .v (.int _ b) => match op with
      | .quo => !(b == 0)
      | .rem => !(b == 0)
      | .shl => decide (0 ≤ b)
      | .shr => decide (0 ≤ b)
      | _ => true
    | _, _ => true
  | .indexAddr t x i => match evS g fr i, sliceT P t, arrT P t, tabS P (evS g fr x) with
    | .v (.int _ n), none, some (len, _, _), _ => decide (0 ≤ n) && decide (n < len)
    | .v (.int _ n), some _, _, .own _ _ len => decide (0 ≤ n) && decide (n < len)
    | .v (.int _ n), some _, _, .sl len _ => decide (0 ≤ n) && decide (n < len)
    | _, _, _, _ => false
  | .call c => match c.callee with
    | .builtin b => match b with
      | .len => true
      | .min => true
      | .max => true
      | _ => false
    | _ => false
  | _ => false

theorem takeB_ok {t : TypeId} {cs : List SV} {off : Nat} {rds : List Nat} {s : Prop} {e : Eff} (h : takeS P t cs off rds nx = .ok s e) (hb : takeB P t cs off = true) : s := by
  unfold takeS at h
  unfold takeB at hb
  split at h
  · rename_i n h1 h2; cases h; rw [h1, h2] at hb; exact Nat.le_of_ble_eq_true hb
  · rename_i h1; cases h; rw [h1] at hb; exact Nat.le_of_ble_eq_true hb
  · cases h
theorem pureR_s {x : SV} {s : Prop} {e : Eff} (h : pureR x nx = .ok s e) : s := by cases h; trivial

theorem nilEq_s {op : BinOp} {t : TypeId} {r : Bool} {rds : List Nat} {s : Prop} {e : Eff} (h : nilEqS P op t r rds nx = .ok s e) : s := by
  unfold nilEqS at h
  split at h
  · cases hq : isEq op <;> rw [hq] at h
    · cases h
    · cases h; trivial
  · cases h
set_option maxHeartbeats 4000000 in
theorem sideOk_ok {g : Bool} {ty : TypeId} {o : Op} {s : Prop} {e : Eff} (h : opS P g fr hp nx ty o = .ok s e) (hb : sideOk P g fr hp o = true) : s := by
  cases o <;> simp only [opS] at h <;> simp only [sideOk] at hb <;> try contradiction
  case move x => exact pureR_s h
  case assign x => exact pureR_s h
  case pick c x y =>
    split at h
    · unfold pickS at h
      split at h
      · exact pureR_s h
      · rename_i k p k' q _ _
        cases hk : (k == k') <;> rw [hk] at h <;> exact pureR_s h
      · exact pureR_s h
    · cases h
  case alloc t =>
    unfold allocS at h
    split at h
    · cases h; trivial
    · cases h
  case box t x => cases h; exact hb
  case build t ps =>
    unfold buildS at h
    repeat' split at h
    all_goals first | (cases h; trivial) | cases h
  case buildSlice t n ps =>
    unfold buildSliceS at h
    split at h
    · split at h
      · rw [Bool.cond_eq_ite] at h
        split at h
        · split at h
          · cases h; trivial
          · cases h
        · cases h
      · cases h
    · cases h
  case load t a =>
    unfold loadS at h
    split at h
    · rename_i k off ha
      rw [ha] at hb
      obtain ⟨t', cs, hk, hh⟩ := rowS_ok h
      simp only [hk] at hb
      exact takeB_ok hh hb
    · rename_i cs off ha
      rw [ha] at hb
      exact takeB_ok h hb
    · cases h
  case store t a x =>
    unfold storeS at h
    split at h
    · rename_i k off ha
      rw [ha] at hb
      obtain ⟨t', cs, hk, hh⟩ := rowS_ok h
      simp only [hk, Bool.and_eq_true] at hb
      cases hh
      refine ⟨?_, hb.2.1, Nat.le_of_ble_eq_true hb.2.2⟩
      cases hs : szT P t with
      | none => rw [hs] at hb; simp at hb
      | some n => rw [hs] at hb; simp at hb; rw [hb.1]
    · cases h
  case nilCheck x =>
    split at h
    · obtain ⟨_, hh⟩ := liveS_ok h; cases hh; trivial
    · exact pureR_s h
    · exact pureR_s h
    · cases h
  case binOp op t x y ty =>
    unfold binOpS at h
    split at h
    · rename_i k a k' b ha hb'
      rw [ha, hb'] at hb
      simp only at hb
      cases hsh : isShift op with
      | true =>
        rw [hsh] at h
        simp only [cond_true] at h
        cases op <;> simp only [isShift, Bool.false_eq_true] at hsh <;> simp only [shiftS] at h <;> cases h <;> simpa using hb
      | false =>
        rw [hsh] at h
        simp only [cond_false] at h
        cases hk : (k == k') with
        | false => rw [hk] at h; cases h
        | true =>
          rw [hk] at h
          simp only [cond_true] at h
          cases op <;> simp only [intS] at h <;> first | exact pureR_s h | (cases h; simpa using hb) | cases h
    · rename_i a b ha hb'
      rw [ha] at hb
      simp at hb
    · split at h
      · cases hq : isEq op <;> rw [hq] at h
        · cases h
        · exact pureR_s h
      · cases h
    · split at h
      · cases hq : (isEq op && !P.eqGuardType P.depth t) <;> rw [hq] at h
        · cases h
        · simp only [cond_true] at h
          unfold aggEqS at h
          split at h
          · rename_i l n r _ _ _
            cases hc : ((n == l.length && _) && _) with
            | true => rw [hc] at h; exact pureR_s h
            | false => rw [hc] at h; cases h
          · cases h
      · cases h
    · obtain ⟨_, h⟩ := liveS_ok h; exact nilEq_s h
    · exact nilEq_s h
    · exact nilEq_s h
    · cases h
  case unOp op t x =>
    unfold unS at h
    split at h <;> first | exact pureR_s h | cases h
  case convert a b x =>
    unfold convS at h
    split at h
    · split at h
      · exact pureR_s h
      · cases h
    · rename_i hx
      rw [hx] at hb
      simp only at hb
      split at h
      · exact pureR_s h
      · rename_i h2
        rw [h2] at hb; cases hb
      · cases h
    · rename_i h1 h2
      split at hb
      · rename_i hx; exact absurd hx (h1 _ _)
      · rename_i hx; exact absurd hx (h2 _)
      · cases hb
  case makeFunc fn first caps =>
    split at h
    · cases hc : (first.size == 0) <;> rw [hc] at h
      · cases h
      · exact pureR_s h
    · cases h
  case makeMap t r =>
    split at h
    · cases h; trivial
    · cases h
  case fieldAddr t x f =>
    unfold fieldAddrS' at h
    split at h
    · split at h
      · obtain ⟨_, hh⟩ := liveS_ok h; cases hh; trivial
      · cases h; trivial
      · cases h
    · cases h
  case field t x f =>
    unfold fieldS at h
    split at h
    · rename_i o ft n cs h1 h2
      rw [h1, h2] at hb
      exact takeB_ok h hb
    · cases h
  case index t x i =>
    unfold indexS at h
    split at h
    · rename_i cs kd n h1 h2
      rw [h1, h2] at hb
      split at h
      · rename_i len e' z hz
        rw [hz] at hb
        simp only [Bool.and_eq_true, decide_eq_true_eq] at hb
        split at h
        · rename_i s' r hp'
          cases h
          exact ⟨hb.1, takeB_ok hp' hb.2⟩
        · cases h
      · cases h
    · rename_i s kd n h1 h2
      rw [h1, h2] at hb
      cases hb
    · cases h
  case indexAddr t x i =>
    unfold indexAddrS at h
    split at h
    · rename_i k n hi
      rw [hi] at hb
      split at h
      · rename_i e z hs
        rw [hs] at hb
        split at h
        · rename_i k' off len hx
          rw [hx] at hb
          obtain ⟨_, hh⟩ := liveS_ok h
          cases hh
          simpa using hb
        · rename_i len cs hx
          rw [hx] at hb
          cases h
          simpa using hb
        · cases h
      · rename_i hs
        rw [hs] at hb
        split at h
        · rename_i len e z ha
          rw [ha] at hb
          simp only [Bool.and_eq_true, decide_eq_true_eq] at hb
          split at h
          · obtain ⟨_, hh⟩ := liveS_ok h
            cases hh
            exact hb
          · cases h; exact hb
          · cases h
        · cases h
    · cases h
  case extract x i =>
    unfold extractS at h
    split at h
    · split at h
      · exact pureR_s h
      · cases h
    · cases h
  case call c =>
    split at h
    · rename_i b hc
      rw [hc] at hb
      split at h
      · unfold lenS at h
        repeat' split at h
        all_goals first | exact pureR_s h | (cases h; done) | (cases h; trivial) | (obtain ⟨_, _, _, hh⟩ := rowS_ok h; cases hh; trivial)
      · simp at hb
      · unfold minmaxR at h
        repeat' split at h
        all_goals first | exact pureR_s h | cases h
      · unfold minmaxR at h
        repeat' split at h
        all_goals first | exact pureR_s h | cases h
      · cases h
    · cases h
end Go.Sx
