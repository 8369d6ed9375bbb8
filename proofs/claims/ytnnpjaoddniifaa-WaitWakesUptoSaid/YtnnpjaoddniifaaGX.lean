/-
  G, part X: regions are evaluated.
-/
import Derived.Test.YtnnpjaoddniifaaGA
set_option linter.unusedSimpArgs false
set_option linter.unusedVariables false
namespace Go.Sx
open Go.RowKit
set_option linter.unusedVariables false
variable {P : Program} {m N : Nat} {Q : SPost} {fr : Fr} {hp : Hp} {nx : Nat} {ops : Array Oper}

def AllP : List Prop → Prop
  | [] => True
  | p :: r => p ∧ AllP r
/-- What is owed where an operation's outcome is named. -/
def resOb (r : Res) (e : Eff) : Prop := match r with
  | .ok s e' => s ∧ e'.val = e.val ∧ e'.upd = e.upd ∧ e'.nx = e.nx ∧ e'.rds = e.rds
  | .bad => False
structure Seg where
  fr : Fr
  hp : Hp
  nx : Nat
  acc : List Nms
  obs : List Prop
/-- Is it done, skipped, or not known? -/
def doneS (ops : Array Oper) (fr : Fr) (o : Oper) : Option Bool := match o.guard with
  | none => some true
  | some jw => guardS ops fr jw.1 jw.2
def skipV (P : Program) (o : Op) : SV := bif quietP P o then .gd false .any else .v undef
def wrapV (P : Program) (o : Oper) (x : SV) : SV := match o.guard with
  | none => x
  | some _ => bif quietP P o.op then .gd true x else x
/-- (what is done under a guard in quiet makes nothing) -/
def quietBad (P : Program) (o : Oper) (nx : Nat) (e : Eff) : Bool := o.guard.isSome && (quietP P o.op && (!e.upd.isEmpty || !(e.nx == nx)))
/-- (a written value is settled) -/
def evalS (P : Program) (d : Bool) (ops : Array Oper) : Nat → List Oper → List (Option Eff) → Seg → Option Seg
  | 0, _, _, s => some s
  | _ + 1, [], _, s => some s
  | n + 1, o :: rest, sc, s => match doneS ops s.fr o with
    | none => none
    | some false => evalS P d ops n rest sc.tail ⟨putF o.dst (skipV P o.op) s.fr, s.hp, bif d then s.nx + 1 else s.nx, s.acc ++ [⟨[], [], s.nx, s.nx⟩], s.obs⟩
    | some true => match callOf true s.fr o.op with
      | some _ => none
      | none => match sc with
        | some e :: sc' => bif quietBad P o s.nx e then none else
          evalS P d ops n rest sc' ⟨putF o.dst (wrapV P o e.val) s.fr, e.upd ++ s.hp, bif d then e.nx + 1 else e.nx, s.acc ++ [⟨e.upd.map (·.1), e.rds, s.nx, e.nx⟩], resOb (opS P true s.fr s.hp s.nx o.type o.op) e :: s.obs⟩
        | _ => match opS P true s.fr s.hp s.nx o.type o.op with
          | .bad => none
          | .ok _ ⟨val, upd, nx', rds⟩ => bif sideOk P true s.fr s.hp o.op && !quietBad P o s.nx ⟨val, upd, nx', rds⟩ then
              evalS P d ops n rest sc.tail ⟨putF o.dst (wrapV P o val) s.fr, upd ++ s.hp, bif d then nx' + 1 else nx', s.acc ++ [⟨upd.map (·.1), rds, s.nx, nx'⟩], s.obs⟩
            else none


/-- One operation, by its outcome. -/
theorem stepW_done {dt : Bool} {o : Oper} {K : SV → Hp → Nat → List Nat → Prop} {s : Prop} {e : Eff} (hd : doneS ops fr o = some true) (hc : callOf true fr o.op = none) (hop : opS P true fr hp nx o.type o.op = .ok s e) (hs : s) (hu : quietBad P o nx e = false)
    (hk : K (wrapV P o e.val) e.upd e.nx e.rds) : stepW dt P ops o fr hp nx K := by
  unfold stepW
  unfold doneS at hd
  cases hg : o.guard with
  | none =>
    simp only
    unfold coreW
    rw [hc, hop]
    unfold wrapV at hk
    rw [hg] at hk
    exact .inr ⟨hs, hk⟩
  | some jw =>
    unfold quietBad at hu
    rw [hg] at hd hu
    simp only at hd ⊢
    rw [hd]
    simp only
    unfold wrapV at hk
    rw [hg] at hk
    simp only at hk
    cases hq : quietP P o.op with
    | true =>
      rw [hq] at hk hu
      simp only [cond_true] at hk ⊢
      refine .inr ?_
      rw [hop]
      obtain ⟨val, upd, nx', rds⟩ := e
      simp at hu
      obtain ⟨hu, rfl⟩ := hu
      subst hu
      exact ⟨fun _ => hs, hk⟩
    | false =>
      rw [hq] at hk
      simp only [cond_false] at hk ⊢
      refine ⟨fun _ => ?_, fun he => by cases he⟩
      unfold coreW
      rw [hc, hop]
      exact .inr ⟨hs, hk⟩
theorem stepW_skip {dt : Bool} {o : Oper} {K : SV → Hp → Nat → List Nat → Prop} (hd : doneS ops fr o = some false) (hk : K (skipV P o.op) [] nx []) : stepW dt P ops o fr hp nx K := by
  unfold stepW
  unfold doneS at hd
  cases hg : o.guard with
  | none => rw [hg] at hd; cases hd
  | some jw =>
    rw [hg] at hd
    simp only at hd ⊢
    rw [hd]
    simp only
    unfold skipV at hk
    cases hq : quietP P o.op with
    | true => rw [hq] at hk; exact .inl ⟨rfl, hk⟩
    | false => rw [hq] at hk; exact ⟨(fun he => by cases he), fun _ => hk⟩
theorem allP_mem {l : List Prop} (h : AllP l) {l2 : List Prop} (hs : ∃ k, l = k ++ l2) : AllP l2 := by
  obtain ⟨k, rfl⟩ := hs
  induction k with
  | nil => exact h
  | cons p k ih => exact ih h.2
theorem resOb_ok {r : Res} {e : Eff} (h : resOb r e) : ∃ s, r = .ok s e ∧ s := by
  cases r with
  | bad => exact h.elim
  | ok s e' =>
    obtain ⟨hs, h1, h2, h3, h4⟩ := h
    obtain ⟨v, u, n, rd⟩ := e'
    simp only at h1 h2 h3 h4
    subst h1; subst h2; subst h3; subst h4
    exact ⟨s, rfl, hs⟩
theorem evalS_obs {d : Bool} : ∀ (n : Nat) (l : List Oper) (sc : List (Option Eff)) (s s' : Seg), evalS P d ops n l sc s = some s' → ∃ k, s'.obs = k ++ s.obs
  | 0, l, sc, s, s', h => by cases h; exact ⟨[], rfl⟩
  | n + 1, [], sc, s, s', h => by cases h; exact ⟨[], rfl⟩
  | n + 1, o :: rest, sc, s, s', h => by
    unfold evalS at h
    split at h
    · cases h
    · obtain ⟨k, hk⟩ := evalS_obs n rest _ _ _ h; exact ⟨k, hk⟩
    · split at h
      · cases h
      · split at h
        · rw [Bool.cond_eq_ite] at h
          rename_i e _
          split at h
          · cases h
          · obtain ⟨k, hk⟩ := evalS_obs n rest _ _ _ h; exact ⟨k ++ [resOb (opS P true s.fr s.hp s.nx o.type o.op) e], by rw [hk]; simp⟩
        · split at h
          · cases h
          · rw [Bool.cond_eq_ite] at h
            split at h
            · obtain ⟨k, hk⟩ := evalS_obs n rest _ _ _ h; exact ⟨k, hk⟩
            · cases h
/-- A piece in the text's order. -/
theorem seg_run {K : Fr → Hp → Nat → Prop} : ∀ (n : Nat) (l : List Oper) (sc : List (Option Eff)) (s s' : Seg), evalS P false ops n l sc s = some s' → AllP s'.obs → runOps P ops (l.drop n) s'.fr s'.hp s'.nx K → runOps P ops l s.fr s.hp s.nx K
  | 0, l, sc, s, s', h, ho, hr => by cases h; exact hr
  | n + 1, [], sc, s, s', h, ho, hr => by cases h; simpa using hr
  | n + 1, o :: rest, sc, s, s', h, ho, hr => by
    unfold evalS at h
    split at h
    · cases h
    · rename_i hd
      exact stepW_skip hd (seg_run n rest _ _ _ h ho hr)
    · rename_i hd
      split at h
      · cases h
      · rename_i hc
        split at h
        · rename_i e sc'
          rw [Bool.cond_eq_ite] at h
          split at h
          · cases h
          · rename_i hq
            obtain ⟨k, hk⟩ := evalS_obs n rest _ _ _ h
            have hob := (allP_mem ho ⟨k, hk⟩).1
            obtain ⟨sd, hop, hs⟩ := resOb_ok hob
            exact stepW_done hd hc hop hs (by simpa using hq) (seg_run n rest _ _ _ h ho hr)
        · split at h
          · cases h
          · rename_i sd val upd nx' rds hop
            rw [Bool.cond_eq_ite] at h
            split at h
            · rename_i hq
              simp only [Bool.and_eq_true, Bool.not_eq_true'] at hq
              exact stepW_done hd hc hop (sideOk_ok hop hq.1) hq.2 (seg_run n rest _ _ _ h ho hr)
            · cases h
/-- A piece of a drawn region. -/
theorem seg_draw {K : List Nms → Fr → Hp → Nat → Prop} : ∀ (n : Nat) (l : List Oper) (sc : List (Option Eff)) (s s' : Seg), evalS P true ops n l sc s = some s' → AllP s'.obs → runD P ops (l.drop n) s'.fr s'.hp s'.nx s'.acc K → runD P ops l s.fr s.hp s.nx s.acc K
  | 0, l, sc, s, s', h, ho, hr => by cases h; exact hr
  | n + 1, [], sc, s, s', h, ho, hr => by cases h; simpa using hr
  | n + 1, o :: rest, sc, s, s', h, ho, hr => by
    unfold evalS at h
    split at h
    · cases h
    · rename_i hd
      exact stepW_skip hd (seg_draw n rest _ _ _ h ho hr)
    · rename_i hd
      split at h
      · cases h
      · rename_i hc
        split at h
        · rename_i e sc'
          rw [Bool.cond_eq_ite] at h
          split at h
          · cases h
          · rename_i hq
            obtain ⟨k, hk⟩ := evalS_obs n rest _ _ _ h
            have hob := (allP_mem ho ⟨k, hk⟩).1
            obtain ⟨sd, hop, hs⟩ := resOb_ok hob
            exact stepW_done hd hc hop hs (by simpa using hq) (seg_draw n rest _ _ _ h ho hr)
        · split at h
          · cases h
          · rename_i sd val upd nx' rds hop
            rw [Bool.cond_eq_ite] at h
            split at h
            · rename_i hq
              simp only [Bool.and_eq_true, Bool.not_eq_true'] at hq
              exact stepW_done hd hc hop (sideOk_ok hop hq.1) hq.2 (seg_draw n rest _ _ _ h ho hr)
            · cases h

/-! ### Steps through a region -/
/-- so many operations, in the text's order (d: in a drawn region) -/
def RunAt (P : Program) (d : Bool) (ops : Array Oper) (l : List Oper) (fr : Fr) (hp : Hp) (nx : Nat) (acc : List Nms) (K : Fr → Hp → Nat → Prop) : Prop := match d with
  | false => runOps P ops l fr hp nx (EqW K)
  | true => runE P ops l fr hp nx acc (EqW K)
theorem reg_f {id : Nat} (h : RunAt P false ops ops.toList fr hp nx [] (Q .normal)) : Swp P m N (.region id ops false) Q fr hp nx := h
theorem reg_t {id : Nat} (h : RunAt P true ops ops.toList fr hp nx [] (Q .normal)) : Swp P m N (.region id ops true) Q fr hp nx := h
def okSeg (s : Option Seg) : Bool := s.isSome
def getSeg (s : Option Seg) : Seg := s.getD ⟨[], [], 0, [], []⟩
theorem getSeg_some {s : Option Seg} (h : okSeg s = true) : s = some (getSeg s) := by
  cases s with
  | none => cases h
  | some s => rfl
theorem run_seg {d : Bool} {l : List Oper} {acc : List Nms} {K : Fr → Hp → Nat → Prop} (n : Nat) (sc : List (Option Eff)) (obs : List Prop) (h1 : okSeg (evalS P d ops n l sc ⟨fr, hp, nx, acc, []⟩) = true) (h2 : (getSeg (evalS P d ops n l sc ⟨fr, hp, nx, acc, []⟩)).obs = obs) (ho : AllP obs)
    (k : RunAt P d ops (l.drop n) (getSeg (evalS P d ops n l sc ⟨fr, hp, nx, acc, []⟩)).fr (getSeg (evalS P d ops n l sc ⟨fr, hp, nx, acc, []⟩)).hp (getSeg (evalS P d ops n l sc ⟨fr, hp, nx, acc, []⟩)).nx (getSeg (evalS P d ops n l sc ⟨fr, hp, nx, acc, []⟩)).acc K) : RunAt P d ops l fr hp nx acc K := by
  have h := getSeg_some h1
  rw [← h2] at ho
  cases d with
  | false => exact seg_run n l sc _ _ h ho k
  | true => exact seg_draw n l sc _ _ h ho k
/-- Of a frame, what is told farther on. -/
def keepF (fr : Fr) (ks : Fr) : Fr := ks.map fun p => (p.1, getF fr p.1)
def keepH (hp : Hp) (ks : Hp) : Hp := ks.map fun p => (p.1, getH hp p.1)
def coverH (hp : Hp) (ks : Hp) : Bool := hp.all fun p => ks.any fun q => q.1 == p.1
theorem keepF_get (fr : Fr) (d : Nat) : ∀ ks : Fr, getF (keepF fr ks) d = getF fr d ∨ getF (keepF fr ks) d = .any
  | [] => .inr rfl
  | p :: r => by
    simp only [keepF, List.map_cons, getF]
    by_cases h : p.1 = d
    · subst h; left; simp
    · rw [show (p.1 == d) = false from by simpa using h, cond_false]; exact keepF_get fr d r
theorem keepH_get (hp : Hp) (k : Nat) : ∀ ks : Hp, (∃ q ∈ ks, q.1 = k) → getH (keepH hp ks) k = getH hp k
  | [], h => by simp at h
  | p :: r, h => by
    simp only [keepH, List.map_cons, getH]
    by_cases hk : p.1 = k
    · subst hk; simp
    · rw [show (p.1 == k) = false from by simpa using hk, cond_false]
      refine keepH_get hp k r ?_
      obtain ⟨q, hq, hqk⟩ := h
      rcases List.mem_cons.1 hq with rfl | hq
      · exact absurd hqk hk
      · exact ⟨q, hq, hqk⟩
theorem keepH_none (hp : Hp) (k : Nat) : ∀ ks : Hp, (¬ ∃ q ∈ ks, q.1 = k) → getH (keepH hp ks) k = .unborn
  | [], _ => rfl
  | p :: r, h => by
    simp only [keepH, List.map_cons, getH]
    rw [show (p.1 == k) = false from by simp; exact fun e => h ⟨p, by simp, e⟩, cond_false]
    exact keepH_none hp k r fun ⟨q, hq, e⟩ => h ⟨q, by simp [hq], e⟩
theorem keep_eq {fr' : Fr} {hp' : Hp} (h1 : keepF fr fr' = fr') (h2 : keepH hp hp' = hp') (h3 : coverH hp hp' = true) : EqSt fr fr' hp hp' := by
  refine ⟨fun d => h1 ▸ keepF_get fr d fr', fun k => ?_⟩
  rw [← h2]
  by_cases h : ∃ q ∈ hp', q.1 = k
  · exact keepH_get hp k hp' h
  · rw [keepH_none hp k hp' h]
    refine (getH_unlisted fun ⟨p, hp1, e⟩ => h ?_).symm
    have := List.all_eq_true.1 h3 p hp1
    obtain ⟨q, hq, hqp⟩ := List.any_eq_true.1 this
    exact ⟨q, hq, by rw [← e]; simpa using hqp⟩
/-- The end of a region. -/
theorem run_f {l : List Oper} {acc : List Nms} {K : Fr → Hp → Nat → Prop} (fr' : Fr) (hp' : Hp) (nx' : Nat) (hl : l = []) (h1 : keepF fr fr' = fr') (h2 : keepH hp hp' = hp') (h3 : coverH hp hp' = true) (h4 : nx = nx') (k : K fr' hp' nx') : RunAt P false ops l fr hp nx acc K := by
  subst hl; subst h4
  exact ⟨fr', hp', keep_eq h1 h2 h3, k⟩
theorem run_t {l : List Oper} {acc : List Nms} {K : Fr → Hp → Nat → Prop} (fr' : Fr) (hp' : Hp) (nx' : Nat) (hl : l = []) (h1 : keepF fr fr' = fr') (h2 : keepH hp hp' = hp') (h3 : coverH hp hp' = true) (h4 : nx = nx') (h5 : P.follows .mixedOrders = true) (h6 : orderOk ops acc (aheads ops.toList) = true) (k : K fr' hp' nx') : RunAt P true ops l fr hp nx acc K := by
  subst hl; subst h4
  exact ⟨⟨h5, h6⟩, fr', hp', keep_eq h1 h2 h3, k⟩
/-- A bool that is asked for is one or the other. -/
theorem frOnly_draw {K : Fr → Hp → Nat → Prop} (ns : List Nms) : FrOnly (DrawEnd P ops ns (EqW K)) := fun fr fr' hp nx h ⟨h1, h2⟩ => ⟨h1, eqW_only K _ _ _ _ h h2⟩
theorem run_split {d : Bool} {l : List Oper} {acc : List Nms} {K : Fr → Hp → Nat → Prop} (t : Nat) (b : Bool) (h : getF fr t = .v (.bool b) ∨ getF fr t = .gd true (.v (.bool b)))
    (k1 : b = true → RunAt P d ops l ((t, bif (match getF fr t with | .gd _ _ => true | _ => false) then .gd true (.v (.bool true)) else .v (.bool true)) :: fr) hp nx acc K)
    (k2 : b = false → RunAt P d ops l ((t, bif (match getF fr t with | .gd _ _ => true | _ => false) then .gd true (.v (.bool false)) else .v (.bool false)) :: fr) hp nx acc K) : RunAt P d ops l fr hp nx acc K := by
  have gen : ∀ c : Bool, b = c → RunAt P d ops l ((t, bif (match getF fr t with | .gd _ _ => true | _ => false) then .gd true (.v (.bool c)) else .v (.bool c)) :: fr) hp nx acc K → RunAt P d ops l fr hp nx acc K := by
    intro c hc hk
    subst hc
    have e : getF ((t, bif (match getF fr t with | .gd _ _ => true | _ => false) then .gd true (.v (.bool b)) else .v (.bool b)) :: fr) = getF fr := by
      funext q
      simp only [getF]
      by_cases hq : t = q
      · subst hq
        rcases h with h | h <;> simp [h]
      · rw [show (t == q) = false from by simpa using hq, cond_false]
    cases d with
    | false => exact runOps_congr (eqW_only K) l _ _ _ _ e hk
    | true => exact runD_congr (frOnly_draw ·) l _ _ _ _ _ e hk
  cases b with
  | true => exact gen true rfl (k1 rfl)
  | false => exact gen false rfl (k2 rfl)
/-- The call that stands next. -/
def headCall (ops : Array Oper) (fr : Fr) : List Oper → Option (FuncId × List SV × Option Tmp)
  | o :: _ => match doneS ops fr o with
    | some true => (callOf true fr o.op).map fun c => (c.1, c.2, o.dst)
    | _ => none
  | [] => none
theorem quietS_call {g : Bool} {o : Op} {c : FuncId × List SV} (h : callOf g fr o = some c) : quietS o = false := by
  cases o <;> simp only [callOf] at h <;> try (cases h; done)
  rename_i cl
  obtain ⟨callee, args, argTypes⟩ := cl
  cases callee <;> simp only at h <;> first | rfl | cases h
theorem run_call {d : Bool} {l : List Oper} {acc : List Nms} {K : Fr → Hp → Nat → Prop} (f : FuncId) (args : List SV) (dst : Option Tmp) (h : headCall ops fr l = some (f, args, dst))
    (k : match d with | false => CallAt P f args dst ops (l.drop 1) fr hp nx (EqW K) | true => CallE P f args dst ops (l.drop 1) fr hp nx acc (EqW K)) : RunAt P d ops l fr hp nx acc K := by
  cases l with
  | nil => cases h
  | cons o rest =>
    simp only [headCall] at h
    cases hd : doneS ops fr o with
    | none => rw [hd] at h; cases h
    | some b =>
      cases b with
      | false => rw [hd] at h; cases h
      | true =>
        rw [hd] at h
        simp only at h
        cases hc : callOf true fr o.op with
        | none => rw [hc] at h; cases h
        | some c =>
          rw [hc] at h
          simp only [Option.map_some, Option.some.injEq, Prod.mk.injEq] at h
          obtain ⟨rfl, rfl, rfl⟩ := h
          have hq : quietP P o.op = false := by unfold quietP; rw [quietS_call hc]; rfl
          have step : ∀ {dt : Bool} {K2 : SV → Hp → Nat → List Nat → Prop}, CallW dt P c.1 c.2 hp nx K2 → stepW dt P ops o fr hp nx K2 := by
            intro dt K2 hk
            unfold stepW
            unfold doneS at hd
            cases hg : o.guard with
            | none => simp only; unfold coreW; rw [hc]; exact hk
            | some jw =>
              rw [hg] at hd
              simp only at hd ⊢
              rw [hd]
              simp only [hq, cond_false]
              refine ⟨fun _ => ?_, (fun he => by cases he)⟩
              unfold coreW; rw [hc]; exact hk
          cases d with
          | false => exact step k
          | true => exact step k
end Go.Sx
