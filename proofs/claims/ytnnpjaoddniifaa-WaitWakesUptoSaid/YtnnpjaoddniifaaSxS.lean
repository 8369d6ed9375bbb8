/-
  Sx, part S: a region's operations, one behind the other.
-/
import Derived.Test.YtnnpjaoddniifaaSxR
import Derived.Orders
set_option linter.unusedSimpArgs false
set_option linter.unusedVariables false
namespace Go.Sx
set_option linter.unusedVariables false
open Go.RowKit
variable {X : Cx} {hp : Hp} {nx : Nat} {ids : Ids} {w : World}

def putF (dst : Option Tmp) (x : SV) (fr : Fr) : Fr := match dst with
  | some d => (d, x) :: fr
  | none => fr
/-- Two ways. -/
def Br (b : Bool) (A B : Prop) : Prop := (b = true → A) ∧ (b = false → B)
theorem Br.mk {b : Bool} {A B : Prop} (h : b = true → A) (g : b = false → B) : Br b A B := ⟨h, g⟩
theorem br_true {A B : Prop} : Br true A B = A := by simp [Br]
theorem br_false {A B : Prop} : Br false A B = B := by simp [Br]

def guardS (ops : Array Oper) (fr : Fr) (j : Nat) (want : Bool) : Option Bool :=
  match (ops[j]?).bind (·.dst) with
  | some d => match getF fr d with
    | .v (.bool b) => some (bif want then b else !b)
    | .gd g (.v (.bool b)) => some (g && (bif want then b else !b))
    | .gd g _ => bif g then none else some false
    | _ => none
  | none => none

def quietS : Op → Bool
  | .move _ => true
  | .assign _ => true
  | .pick _ _ _ => true
  | .load _ _ => true
  | .nilCheck _ => true
  | .binOp _ _ _ _ _ => true
  | .unOp _ _ _ => true
  | .convert _ _ _ => true
  | .slice _ _ _ _ none => true
  | .fieldAddr _ _ _ => true
  | .field _ _ _ => true
  | .indexAddr _ _ _ => true
  | .index _ _ _ => true
  | .lookup _ _ _ _ => true
  | .extract _ _ => true
  | .build _ _ => true
  | .call c => match c.callee with
    | .builtin .len => true
    | .builtin .min => true
    | .builtin .max => true
    | _ => false
  | _ => false

/-- (a place in an array that is found by a variable) -/
def arrIdx (P : Program) : Op → Bool
  | .indexAddr t _ (.tmp _) => (arrT P t).isSome
  | .index t _ (.tmp _) => (arrT P t).isSome
  | _ => false
def quietP (P : Program) (o : Op) : Bool := quietS o && !arrIdx P o

/-- Whom an operation calls, and with what. -/
def callOf (g : Bool) (fr : Fr) (o : Op) : Option (FuncId × List SV) :=
  match o with
  | .call c => match c.callee with
    | .value f => match evS g fr f with
      | .v (.func (.func id) fs cs) => bif fs.size == 0 && cs.size == 0 then some (id, c.args.toList.map (evS g fr)) else none
      | .clo id caps => some (id, c.args.toList.map (evS g fr) ++ caps)
      | _ => none
    | _ => none
  | _ => none

/-- A call, by a contract. -/
def CallW (d : Bool) (P : Program) (f : FuncId) (args : List SV) (hp : Hp) (nx : Nat) (K : SV → Hp → Nat → List Nat → Prop) : Prop :=
  ∃ (args' : List SV) (hin : Hp) (m : Nat) (Post : SV → Hp → Nat → Prop) (σ : Nat → Option Nat) (bor : List Nat), SpecW P f args' hin m Post ∧ Sub P (getH hp) (getH hin) σ (· ∈ bor) ∧ (∀ k, m ≤ k → σ k = none ∧ getH hin k = .unborn) ∧
    (∀ k1 k2 j, σ k1 = some j → σ k2 = some j → k1 = k2) ∧ (∀ k j, σ k = some j → (getH hin k).live = true) ∧ args.length = args'.length ∧
    (∀ (i : Nat) (x y : SV), args[i]? = some x → args'[i]? = some y → LeS P (getH hp) (getH hin) σ (· ∈ bor) x y) ∧ (∃ res hp' nx', Post res hp' nx') ∧ (d = true → ∀ res hp' nx' res2 hp2 nx2, Post res hp' nx' → Post res2 hp2 nx2 → res = res2 ∧ hp' = hp2 ∧ nx' = nx2) ∧
    ∀ res hp' nx', Post res hp' nx' → wfH hp' = true ∧ (bor = [] ∨ (res.nim = true ∧ nimH hp' = true)) ∧ K (renS (bck σ nx) res) (back σ nx m hp') (nx + nx') (bor ++ (List.range m).filterMap σ)

def Res.wp' : Res → (SV → Hp → Nat → List Nat → Prop) → Prop
  | .bad, _ => False
  | .ok s e, K => Need s (K e.val e.upd e.nx e.rds)
theorem wp'_ok (s val upd nx rds K) : Res.wp' (.ok s ⟨val, upd, nx, rds⟩) K = Need s (K val upd nx rds) := rfl

/-- What an operation tells of names. -/
structure UpdOk (hp : Hp) (nx : Nat) (upd : Hp) (nx' : Nat) (rds : List Nat) : Prop where
  le : nx ≤ nx'
  keys : ∀ p ∈ upd, (nx ≤ p.1 ∧ p.1 < nx') ∨ (p.1 ∈ rds ∧ (getH hp p.1).live = true)

/-- An operation by its meaning: whatever comes of it, K holds. -/
def SemW (P : Program) (o : Oper) (fr : Fr) (hp : Hp) (nx : Nat) (K : SV → Hp → Nat → List Nat → Prop) : Prop :=
  ∀ (X : Cx) (ids : Ids) (w : World) (fr' : Fr) (hp' : Hp) (a : Act), X.P = P → HeapC X hp' ids w → X.m ≤ nx → (∀ d, DenX X hp' ids w (getF fr' d) (a.tmps.getD d undef)) → (∀ t ∈ namesOf o.op, getF fr' t = getF fr t) → getH hp' nx = .unborn →
    (∀ val upd nx' rds, K val upd nx' rds → (∀ k, nx ≤ k → k < nx' → getH hp' k = .unborn) ∧ ∀ k ∈ rds, getH hp' k = getH hp k) →
    ∀ (KK : Act → World → Prop) (Q : Exit → Act → World → Prop), (∀ val upd nx' rds x w' ids', K val upd nx' rds → UpdOk hp nx upd nx' rds → HeapC X (upd ++ hp') ids' w' → ExtX X hp' ids w (upd ++ hp') ids' w' → DenX X (upd ++ hp') ids' w' val x → KK (a.put o.dst x) w') → o.wp P a w KK Q
def EqEff (e : Eff) (v : SV) (u : Hp) (n : Nat) (r : List Nat) : Prop := v = e.val ∧ u = e.upd ∧ n = e.nx ∧ r = e.rds
def SemX (dt : Bool) (P : Program) (o : Oper) (fr : Fr) (hp : Hp) (nx : Nat) (K : SV → Hp → Nat → List Nat → Prop) : Prop := match dt with
  | false => SemW P o fr hp nx K
  | true => ∃ e : Eff, nx ≤ e.nx ∧ K e.val e.upd e.nx e.rds ∧ SemW P o fr hp nx (EqEff e)
theorem SemW.mono {P : Program} {o : Oper} {fr fr2 : Fr} {hp : Hp} {nx : Nat} {K K' : SV → Hp → Nat → List Nat → Prop} (h : SemW P o fr hp nx K) (hf : getF fr = getF fr2) (hK : ∀ v u n r, K v u n r → K' v u n r) : SemW P o fr2 hp nx K' :=
  fun X ids w fr' hp' a hP h1 h2 h3 h4 h5 h6 KK Q h7 => h X ids w fr' hp' a hP h1 h2 h3 (fun t ht => by rw [hf]; exact h4 t ht) h5 (fun v u n r hk => h6 v u n r (hK v u n r hk)) KK Q (fun v u n r x w' ids' hk => h7 v u n r x w' ids' (hK v u n r hk))
theorem SemX.mono {dt : Bool} {P : Program} {o : Oper} {fr fr2 : Fr} {hp : Hp} {nx : Nat} {K K' : SV → Hp → Nat → List Nat → Prop} (h : SemX dt P o fr hp nx K) (hf : getF fr = getF fr2) (hK : ∀ v u n r, K v u n r → K' v u n r) : SemX dt P o fr2 hp nx K' := by
  cases dt with
  | false => exact SemW.mono (K := K) h hf hK
  | true =>
    obtain ⟨e, h1, h2, h3⟩ := h
    exact ⟨e, h1, hK _ _ _ _ h2, h3.mono hf fun _ _ _ _ h => h⟩

def coreW (dt : Bool) (P : Program) (g : Bool) (o : Oper) (fr : Fr) (hp : Hp) (nx : Nat) (K : SV → Hp → Nat → List Nat → Prop) : Prop :=
  match callOf g fr o.op with
  | some c => CallW dt P c.1 c.2 hp nx K
  | none => (g = true ∧ SemX dt P o fr hp nx K) ∨ (opS P g fr hp nx o.type o.op).wp' K

def quietW (g : Bool) (r : Res) (nx : Nat) (K : SV → Hp → Nat → List Nat → Prop) : Prop :=
  (g = false ∧ K (.gd g .any) [] nx []) ∨ match r with
  | .bad => False
  | .ok s e => match e.upd with
    | [] => Need (g = true → s) (K (.gd g e.val) [] nx e.rds)
    | _ => False

def stepW (dt : Bool) (P : Program) (ops : Array Oper) (o : Oper) (fr : Fr) (hp : Hp) (nx : Nat) (K : SV → Hp → Nat → List Nat → Prop) : Prop :=
  match o.guard with
  | none => coreW dt P true o fr hp nx K
  | some jw => match guardS ops fr jw.1 jw.2 with
    | some g => bif quietP P o.op then quietW g (opS P g fr hp nx o.type o.op) nx K else Br g (coreW dt P g o fr hp nx K) (K (.v undef) [] nx [])
    | none => False

def runOps (P : Program) (ops : Array Oper) : List Oper → Fr → Hp → Nat → (Fr → Hp → Nat → Prop) → Prop
  | [], fr, hp, nx, K => K fr hp nx
  | o :: rest, fr, hp, nx, K => stepW false P ops o fr hp nx fun val upd nx' _ => runOps P ops rest (putF o.dst val fr) (upd ++ hp) nx' K

theorem frame_put {fr : Fr} {a : Act} {N : Nat} (hf : ∀ d, DenX X hp ids w (getF fr d) (a.tmps.getD d undef)) (hN : a.tmps.size = N) {dst : Option Tmp} (hd : ∀ d, dst = some d → d < N) {x : Value} {s : SV} (hs : DenX X hp ids w s x) :
    ∀ d, DenX X hp ids w (getF (putF dst s fr) d) ((a.put dst x).tmps.getD d undef) := by
  intro d
  cases dst with
  | none => exact hf d
  | some t =>
    simp only [putF, getF, Act.put]
    have ht := hd t rfl
    by_cases htd : t = d
    · subst htd
      rw [show (t == t) = true from by simp, cond_true, Array.getD_eq_getD_getElem?, Array.getElem?_setIfInBounds_self_of_lt (by rw [hN]; exact ht)]
      exact hs
    · rw [show (t == d) = false from by simpa using htd, cond_false, Array.getD_eq_getD_getElem?, Array.getElem?_setIfInBounds_ne htd, ← Array.getD_eq_getD_getElem?]
      exact hf d
theorem put_size {a : Act} {dst : Option Tmp} {x : Value} : (a.put dst x).tmps.size = a.tmps.size := by cases dst <;> simp [Act.put]
theorem put_defers {a : Act} {dst : Option Tmp} {x : Value} : (a.put dst x).defers = a.defers := by cases dst <;> rfl
theorem frame_ext {fr : Fr} {a : Act} {hp' : Hp} {ids' : Ids} {w' : World} (hE : ExtX X hp ids w hp' ids' w') (hf : ∀ d, DenX X hp ids w (getF fr d) (a.tmps.getD d undef)) : ∀ d, DenX X hp' ids' w' (getF fr d) (a.tmps.getD d undef) := fun d => (hf d).mono hE

/-- What the machine makes of an operation, where its outcome is known. -/
theorem wpOp_of {P : Program} {ops : Array Oper} {Q : Exit → Act → World → Prop} {i : Nat} {o : Oper} (ho : ops[i]? = some o) {a : Act} {w : World} {K : Act → World → Prop} (hw : Region.wanted o (yielded ops a.tmps) = true) (h : o.wp P a w K Q) : wpOp P ops Q i K a w := by
  unfold wpOp; rw [ho]; simp only [hw, if_true]; exact .inl h
theorem wpOp_skip {P : Program} {ops : Array Oper} {Q : Exit → Act → World → Prop} {i : Nat} {o : Oper} (ho : ops[i]? = some o) {a : Act} {w : World} {K : Act → World → Prop} (hw : Region.wanted o (yielded ops a.tmps) = false) (h : K (a.put o.dst undef) w) : wpOp P ops Q i K a w := by
  unfold wpOp; rw [ho]; simp only [hw, Bool.false_eq_true, if_false]; exact h
theorem wp_of_soundN {P : Program} {o : Oper} {a : Act} {w : World} {K : Act → World → Prop} {Q : Exit → Act → World → Prop} {x : Value} {w' : World} (h : (execOp a.eval o).run P w = .ok (.value x) w' ∨ ((execOp a.eval o).run P w = .ok .skip w' ∧ x = undef)) (hK : K (a.put o.dst x) w') : o.wp P a w K Q := by
  unfold Oper.wp
  rcases h with h | ⟨h, rfl⟩ <;> rw [h] <;> exact hK

theorem guard_ok {fr : Fr} {a : Act} (hf : ∀ d, DenX X hp ids w (getF fr d) (a.tmps.getD d undef)) {ops : Array Oper} {j : Nat} {want g : Bool} (hg : guardS ops fr j want = some g) {o : Oper} (ho : o.guard = some (j, want)) : Region.wanted o (yielded ops a.tmps) = g := by
  unfold Region.wanted
  rw [ho]
  simp only
  unfold guardS at hg
  unfold yielded
  cases hd : (ops[j]?).bind (·.dst) with
  | none => rw [hd] at hg; cases hg
  | some d =>
    rw [hd] at hg
    have hfd := hf d
    simp only [Option.bind_some]
    have hget : ∀ b, a.tmps.getD d undef = .bool b → a.tmps[d]? = some (.bool b) := fun b hb => by
      rw [Array.getD_eq_getD_getElem?] at hb
      cases hq : a.tmps[d]? with
      | none => rw [hq] at hb; cases hb
      | some v => rw [hq] at hb; simp only [Option.getD_some] at hb; rw [hb]
    simp only at hg
    split at hg
    · rename_i b hb
      rw [hb] at hfd
      rw [hget b (den_v hfd)]
      cases hg
      cases b <;> cases want <;> rfl
    · rename_i g0 b hb
      rw [hb] at hfd
      cases hg
      cases hfd with
      | gd h1 h2 =>
        cases g0 with
        | true =>
          rw [hget b (den_v (h1 rfl))]
          cases b <;> cases want <;> rfl
        | false =>
          have hu := h2 rfl
          rw [Array.getD_eq_getD_getElem?] at hu
          cases hq : a.tmps[d]? with
          | none => cases want <;> rfl
          | some v => rw [hq] at hu; simp only [Option.getD_some] at hu; subst hu; cases want <;> rfl
    · rename_i g0 y _ hb
      rw [hb] at hfd
      cases g0 with
      | true => cases hg
      | false =>
        cases hg
        cases hfd with
        | gd h1 h2 =>
          have hu := h2 rfl
          rw [Array.getD_eq_getD_getElem?] at hu
          cases hq : a.tmps[d]? with
          | none => cases want <;> rfl
          | some v => rw [hq] at hu; simp only [Option.getD_some] at hu; subst hu; cases want <;> rfl
    · cases hg

theorem call_op {P : Program} {o : Oper} {a : Act} {w : World} {K : Act → World → Prop} {Q : Exit → Act → World → Prop} {fr : Fr} {g : Bool} {c : FuncId × List SV} (hc : callOf g fr o.op = some c)
    (hf : ∀ x, Den P (getH hp) ids (Im X.w0 X.I0 X.W0 (getH hp) ids w) w (evS g fr x) (a.eval x)) (hbody : ∃ fn body, P.funcs[c.1]? = some fn ∧ fn.body = some body ∧ fn.name ≠ "runtime.NumGoroutine")
    (h : ∀ vals : Array Value, vals.size = c.2.length → (∀ i x, c.2[i]? = some x → Den P (getH hp) ids (Im X.w0 X.I0 X.W0 (getH hp) ids w) w x (vals.getD i undef)) →
      Calls P c.1 vals w fun e w' => ∃ r, e = .returned r ∧ K (a.put o.dst r) w') : o.wp P a w K Q := by
  obtain ⟨fn, body, hfn, hbd, hnm⟩ := hbody
  have run : ∀ vals w, (callFunc c.1 vals).run P w = .ok (.enter c.1 vals) w := fun vals w => by
    unfold callFunc
    have hnm' : (fn.name == "runtime.NumGoroutine") = false := by simpa using hnm
    simp only [Sem.run_bind, run_program, Result.andThen_ok, hfn, hnm', Bool.false_eq_true, if_false, hbd, Option.isNone_some]
    rfl
  cases hop : o.op <;> rw [hop] at hc <;> simp only [callOf] at hc <;> try (cases hc; done)
  rename_i cl
  obtain ⟨callee, args, argTypes⟩ := cl
  cases hcal : callee <;> rw [hcal] at hc <;> simp only at hc <;> try (cases hc; done)
  rename_i f
  have fin : ∀ (id : FuncId) (svs : List SV) (vals : Array Value), c = (id, svs) → (execOp a.eval o).run P w = .ok (.enter id vals) w → vals.size = svs.length → (∀ i x, svs[i]? = some x → Den P (getH hp) ids (Im X.w0 X.I0 X.W0 (getH hp) ids w) w x (vals.getD i undef)) → o.wp P a w K Q := by
    rintro id svs vals rfl hr hs hd
    unfold Oper.wp
    rw [hr]
    show Calls P id vals w _
    refine (h vals hs hd).mono fun e w' he => ?_
    obtain ⟨r, rfl, hk⟩ := he
    exact hk
  have hargs : ∀ i x, (args.toList.map (evS g fr))[i]? = some x → Den P (getH hp) ids (Im X.w0 X.I0 X.W0 (getH hp) ids w) w x ((args.map a.eval).getD i undef) := fun i x hi => by
    rw [List.getElem?_map] at hi
    cases hai : args.toList[i]? with
    | none => rw [hai] at hi; cases hi
    | some q =>
      rw [hai] at hi; cases hi
      have : args[i]? = some q := by simpa using hai
      rw [Array.getD_eq_getD_getElem?, Array.getElem?_map, this]
      exact hf q
  have hff := hf f
  split at hc
  · rename_i id fs cs hev
    rw [hev] at hff
    cases hz : (fs.size == 0 && cs.size == 0) with
    | false => rw [hz] at hc; cases hc
    | true =>
      rw [hz] at hc
      simp only [cond_true, Option.some.injEq] at hc
      simp only [Bool.and_eq_true, beq_iff_eq] at hz
      have h1 : fs = #[] := Array.eq_empty_of_size_eq_zero hz.1
      have h2 : cs = #[] := Array.eq_empty_of_size_eq_zero hz.2
      subst h1; subst h2
      have hv := den_v hff
      refine fin id _ (args.map a.eval) hc.symm ?_ (by simp) hargs
      unfold execOp
      rw [hop, hcal]
      simp only [resolve, Sem.run_bind, hv, Deferred.ofValue, Sem.run_pure, Result.andThen_ok, invoke]
      have := run (args.map a.eval) w
      rw [← hc] at this
      simpa using this
  · rename_i id caps hev
    rw [hev] at hff
    simp only [Option.some.injEq] at hc
    obtain ⟨arr, hv, hl, hx⟩ := den_clo hff
    refine fin id _ (args.map a.eval ++ arr) hc.symm ?_ (by simp [hl]) fun i x hi => ?_
    · unfold execOp
      rw [hop, hcal]
      simp only [resolve, Sem.run_bind, hv, Deferred.ofValue, Sem.run_pure, Result.andThen_ok, invoke]
      have := run (args.map a.eval ++ arr) w
      rw [← hc] at this
      simpa using this
    · rw [List.getElem?_append] at hi
      rw [Array.getD_eq_getD_getElem?]
      split at hi
      · rename_i hlt
        rw [Array.getElem?_append_left (by simpa using hlt), ← Array.getD_eq_getD_getElem?]
        exact hargs i x hi
      · rename_i hlt
        rw [List.length_map, Array.length_toList] at hi hlt
        rw [Array.getElem?_append_right (by simpa using hlt), Array.size_map, ← Array.getD_eq_getD_getElem?]
        exact hx _ x hi
  · cases hc


theorem LeS.local {P : Program} {C C2 C' : Nat → Chunk} {σ : Nat → Option Nat} {bor : List Nat} (hC : ∀ k ∈ bor, C2 k = C k) {x y : SV} (h : LeS P C C' σ (· ∈ bor) x y) : LeS P C2 C' σ (· ∈ bor) x y := by
  induction h with
  | any => exact .any
  | cl h => exact .cl h
  | own hs hl => exact .own hs hl
  | absent hl hs => exact .absent hl hs
  | ptr hs hl => exact .ptr hs hl
  | mp hs hl => exact .mp hs hl
  | it hs hl => exact .it hs hl
  | agg h _ ih => exact .agg h ih
  | tup h _ ih => exact .tup h ih
  | clo h _ ih => exact .clo h ih
  | frz hk hf hc q hq => exact .frz ((hC _ hf).trans hk) hf hc q hq
  | fptr hk hf hc => exact .fptr ((hC _ hf).trans hk) hf hc
  | nilsl => exact .nilsl
theorem Sub.local {P : Program} {C C2 C' : Nat → Chunk} {σ : Nat → Option Nat} {bor : List Nat} (hC : ∀ k ∈ bor, C2 k = C k) (hσ : ∀ k j, σ k = some j → C2 j = C j) (h : Sub P C C' σ (· ∈ bor)) : Sub P C2 C' σ (· ∈ bor) := by
  refine ⟨fun k' => ?_, h.inj, h.frz⟩
  have hh := h.ch k'
  cases hc : C' k' with
  | unborn => trivial
  | dead => trivial
  | row e cs' =>
    rw [hc] at hh
    rcases hh with hh | ⟨k, cs, h1, h2, h3, h4⟩
    · exact .inl hh
    · exact .inr ⟨k, cs, h1, (hσ _ _ h1).trans h2, h3, fun i x y hx hy => (h4 i x y hx hy).local hC⟩
  | map es' =>
    rw [hc] at hh
    obtain ⟨k, es, h1, h2, h3, h4⟩ := hh
    exact ⟨k, es, h1, (hσ _ _ h1).trans h2, h3, fun i x y hx hy => ⟨(h4 i x y hx hy).1, (h4 i x y hx hy).2.local hC⟩⟩
  | obj s pos =>
    rw [hc] at hh
    obtain ⟨k, h1, h2⟩ := hh
    exact ⟨k, h1, (hσ _ _ h1).trans h2⟩

theorem callOf_local {g : Bool} {fr fr' : Fr} {o : Op} (hf : ∀ t ∈ namesOf o, getF fr' t = getF fr t) : callOf g fr' o = callOf g fr o := by
  cases o <;> simp only [callOf]
  rename_i c
  obtain ⟨callee, args, argTypes⟩ := c
  cases callee <;> simp only
  rename_i f
  have hff : evS g fr' f = evS g fr f := evS_local fun t ht => hf t (mem_names (o := .call ⟨.value f, args, argTypes⟩) (by simp [Op.operands, Call.operands]) ht)
  have hargs : args.toList.map (evS g fr') = args.toList.map (evS g fr) := List.map_congr_left fun x hx => evS_local fun t ht => hf t (mem_names (o := .call ⟨.value f, args, argTypes⟩) (by simp [Op.operands, Call.operands]; exact .inr (by simpa using hx)) ht)
  rw [hff, hargs]

/-- The names in what comes back from a call. -/
theorem back_keys {P : Program} {C : Nat → Chunk} {hp' : Hp} {m nx nx' : Nat} {σ : Nat → Option Nat} {bor : Nat → Prop} (hS : Sub P (getH hp) C σ bor) (hσm : ∀ k, m ≤ k → σ k = none) (hσl : ∀ k j, σ k = some j → (C k).live = true)
    (hwf : wfH hp' = true) (hb : ∀ k, nx' ≤ k → getH hp' k = .unborn) (rds : List Nat) : UpdOk hp nx (back σ nx m hp') (nx + nx') (rds ++ (List.range m).filterMap σ) := by
  have hmem : ∀ k j, σ k = some j → j ∈ (List.range m).filterMap σ := fun k j hk => List.mem_filterMap.2 ⟨k, List.mem_range.2 (by
    by_cases hkm : k < m
    · exact hkm
    · have := hσm k (by omega); rw [hk] at this; cases this), hk⟩
  refine ⟨Nat.le_add_right _ _, fun p hp1 => ?_⟩
  have old : ∀ k j, σ k = some j → j ∈ rds ++ (List.range m).filterMap σ ∧ (getH hp j).live = true := fun k j hk => ⟨List.mem_append_right _ (hmem k j hk), ((hS.ch k).live (hσl k j hk) hk).1⟩
  unfold back at hp1
  rcases List.mem_append.1 hp1 with hp2 | hp2
  · obtain ⟨q, hq, rfl⟩ := List.mem_map.1 hp2
    unfold bck
    simp only
    cases hs : σ q.1 with
    | some j => exact .inr (old _ _ hs)
    | none =>
      refine .inl ⟨Nat.le_add_right _ _, ?_⟩
      have : q.1 < nx' := by
        by_cases hlt : q.1 < nx'
        · exact hlt
        · exact absurd (hb q.1 (by omega)) (wfH_get hwf ⟨q, hq, rfl⟩)
      simp only; omega
  · obtain ⟨k, hk, he⟩ := List.mem_filterMap.1 hp2
    cases hs : σ k with
    | none => rw [hs] at he; cases he
    | some j => rw [hs] at he; cases he; exact .inr (old _ _ hs)

/-- An operation that is carried out, in a state that is as the one that was looked at wherever the operation looks. -/
theorem core_local {dt g : Bool} (hg : g = true) {o : Oper} {fr fr' : Fr} {hp' : Hp} {a : Act} (h : HeapC X hp' ids w) (hmn : X.m ≤ nx) (hf' : ∀ d, DenX X hp' ids w (getF fr' d) (a.tmps.getD d undef)) (hn : ∀ t ∈ namesOf o.op, getF fr' t = getF fr t)
    {K : SV → Hp → Nat → List Nat → Prop} (hc : coreW dt X.P g o fr hp nx K) {KK : Act → World → Prop} {Q : Exit → Act → World → Prop} (hfr0 : getH hp' nx = .unborn)
    (hAg : ∀ val upd nx' rds, K val upd nx' rds → (∀ k, nx ≤ k → k < nx' → getH hp' k = .unborn) ∧ ∀ k ∈ rds, getH hp' k = getH hp k)
    (hK : ∀ val upd nx' rds x w' ids', K val upd nx' rds → UpdOk hp nx upd nx' rds → HeapC X (upd ++ hp') ids' w' → ExtX X hp' ids w (upd ++ hp') ids' w' → DenX X (upd ++ hp') ids' w' val x → KK (a.put o.dst x) w') : o.wp X.P a w KK Q := by
  unfold coreW at hc
  split at hc
  · rename_i c hcall
    obtain ⟨args', hin, m, Post, σ, bor, hspec, hS, hσm, hσi, hσl, hal, hargs, ⟨res0, hp0, nx0, hp00⟩, _, hpost⟩ := hc
    -- what the call looks at
    have hev := fun x => ev_den hf' hg x
    rw [← callOf_local hn] at hcall
    refine call_op (X := X) (hp := hp') (ids := ids) hcall hev hspec.1 fun vals hvs hvd => ?_
    obtain ⟨_, _, hk0⟩ := hpost _ _ _ hp00
    obtain ⟨_, hag0⟩ := hAg _ _ _ _ hk0
    have hC1 : ∀ k ∈ bor, getH hp' k = getH hp k := fun k hk => hag0 k (by simp [hk])
    have hC2 : ∀ k j, σ k = some j → getH hp' j = getH hp j := fun k j hk => hag0 j (by
      refine List.mem_append_right _ (List.mem_filterMap.2 ⟨k, List.mem_range.2 ?_, hk⟩)
      by_cases hkm : k < m
      · exact hkm
      · have := (hσm k (by omega)).1; rw [hk] at this; cases this)
    refine (call_sound h hmn hspec (hS.local hC1 hC2) hσm hσi hσl hal (fun i x y hx hy => (hargs i x y hx hy).local hC1) hvs hvd).mono fun e w' he => ?_
    obtain ⟨r, res, hp2, nx2, rfl, hp3, ⟨hfr2, hmle⟩, himp⟩ := he
    obtain ⟨hwf, hbor, hk⟩ := hpost _ _ _ hp3
    obtain ⟨hag, _⟩ := hAg _ _ _ _ hk
    obtain ⟨ids2, g1, g2, g3⟩ := himp ⟨hwf, fun k hk => hag _ (by omega) (by omega), hbor.imp (fun hb k hk => by rw [hb] at hk; cases hk) id⟩
    exact ⟨r, rfl, hK _ _ _ _ _ _ _ hk (back_keys hS (fun k hk => (hσm k hk).1) hσl hwf hfr2 bor) g1 g2 g3⟩
  · rename_i hcall
    rcases hc with hc | hc
    · have hsem : ∃ K' : SV → Hp → Nat → List Nat → Prop, (∀ v u n r, K' v u n r → K v u n r) ∧ SemW X.P o fr hp nx K' := by
        obtain ⟨_, hc⟩ := hc
        cases dt with
        | false => exact ⟨K, fun _ _ _ _ h => h, hc⟩
        | true =>
          obtain ⟨e, _, h2, h3⟩ := hc
          exact ⟨_, fun v u n r h => by obtain ⟨rfl, rfl, rfl, rfl⟩ := h; exact h2, h3⟩
      obtain ⟨K', hKK, hsem⟩ := hsem
      exact hsem X ids w fr' hp' a rfl h hmn hf' hn hfr0 (fun v u n r hk => hAg v u n r (hKK v u n r hk)) KK Q (fun v u n r x w' ids' hk => hK v u n r x w' ids' (hKK v u n r hk))
    cases hop : opS X.P g fr hp nx o.type o.op with
    | bad => rw [hop] at hc; exact hc.elim
    | ok side e =>
      rw [hop] at hc
      obtain ⟨hs, hk⟩ := hc
      obtain ⟨_, hag⟩ := hAg _ _ _ _ hk
      have hop' := opS_local hop hn hag
      obtain ⟨x, w', ids', g1, g2, g3, g4⟩ := op_sound (X := X) ⟨h, hfr0, hmn⟩ hf' hg hop' hs
      obtain ⟨k1, k2⟩ := opS_keys hop
      exact wp_of_soundN g1 (hK _ _ _ _ _ _ _ hk ⟨k1, fun p hp1 => (k2 p hp1).imp (fun hh => ⟨by omega, by omega⟩) id⟩ g2 g3 g4)

end Go.Sx
