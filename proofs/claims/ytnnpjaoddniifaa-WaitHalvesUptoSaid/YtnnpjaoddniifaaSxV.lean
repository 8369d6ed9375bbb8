/-
  Sx, part V: functions.
-/
import Derived.Test.YtnnpjaoddniifaaSxU
set_option linter.unusedSimpArgs false
set_option linter.unusedVariables false
namespace Go.Sx
set_option linter.unusedVariables false
open Go.RowKit
variable {X : Cx} {hp : Hp} {nx : Nat} {ids : Ids} {w : World}

theorem sem_bind_pure {α : Type} (x : Sem α) : x.bind Sem.pure = x := by
  induction x <;> simp only [Sem.bind] <;> simp only [*]
theorem sem_assoc {α β γ : Type} (x : Sem α) (f : α → Sem β) (g : β → Sem γ) : (x.bind f).bind g = x.bind fun a => (f a).bind g := by
  induction x <;> simp only [Sem.bind] <;> simp only [*]
instance : LawfulMonad Sem := LawfulMonad.mk' Sem (fun x => sem_bind_pure x) (fun x f => rfl) (fun x f g => sem_assoc x f g)

/-- What a function gives back. -/
def resW (P : Program) (fr : Fr) (hp : Hp) (nx : Nat) : List ResultVar → (List SV → Prop) → Prop
  | [], K => K []
  | .tmp t :: r, K => resW P fr hp nx r fun xs => K (getF fr t :: xs)
  | .cell a t :: r, K => (loadS P t (getF fr a) hp nx).wp fun e => resW P fr hp nx r fun xs => K (e.val :: xs)
def oneOf : List SV → SV
  | [x] => x
  | xs => .tup xs
/-- What is to be shown at a function's end. -/
def RetW (P : Program) (m : Nat) (Post : SV → Hp → Nat → Prop) (x : SV) (hp : Hp) : Prop := ∃ x' hp' nx', Post x' hp' nx' ∧ LeSt P m [(0, x)] hp [(0, x')] hp' nx'
def endS (P : Program) (rs : List ResultVar) (m : Nat) (Post : SV → Hp → Nat → Prop) : SPost
  | .exit _, _, _, _ => False
  | _, fr, hp, nx => resW P fr hp nx rs fun xs => RetW P m Post (oneOf xs) hp
def frArgs : Nat → List SV → Fr
  | _, [] => []
  | i, x :: xs => (i, x) :: frArgs (i + 1) xs

theorem getF_args : ∀ (args : List SV) (i d : Nat), getF (frArgs i args) d = if d < i then .any else args.getD (d - i) .any
  | [], i, d => by simp [frArgs, getF]
  | x :: xs, i, d => by
    simp only [frArgs, getF, getF_args xs (i + 1) d]
    by_cases hid : i = d
    · subst hid; simp
    · rw [show (i == d) = false from by simpa using hid, cond_false]
      by_cases hlt : d < i
      · rw [if_pos (by omega), if_pos hlt]
      · rw [if_neg (by omega), if_neg hlt, show d - i = (d - (i + 1)) + 1 from by omega]
        rfl

def resVal (tmps : Array Value) : ResultVar → Sem Value
  | .tmp t => pure (tmps.getD t undef)
  | .cell a t => do loadVar t (← asAddr (tmps.getD a undef))

theorem load_run (h : HeapX X hp nx ids w) {t : TypeId} {s : SV} {x : Value} (hd : DenX X hp ids w s x) {side : Prop} {e : Eff} (he : loadS X.P t s hp nx = .ok side e) (hs : side) :
    ∃ y, (do loadVar t (← asAddr x) : Sem Value).run X.P w = .ok y w ∧ DenX X hp ids w e.val y := by
  have fin : ∀ {b o : Nat} {cs : List SV} {off : Nat} {rds : List Nat}, Cells X.P (getH hp) ids (Im X.w0 X.I0 X.W0 (getH hp) ids w) w b o cs → takeS X.P t cs off rds nx = .ok side e → x = .pointer (some ⟨b, o + off, none⟩) →
      ∃ y, (do loadVar t (← asAddr x) : Sem Value).run X.P w = .ok y w ∧ DenX X hp ids w e.val y := by
    intro b o cs off rds hc ht hx
    obtain ⟨h1, h2, y, hr, hy⟩ := run_take hc ht hs
    subst hx
    exact ⟨y, by simp only [asAddr, Sem.run_bind, Sem.run_pure, Result.andThen_ok]; exact hr, hy⟩
  unfold loadS at he
  split at he
  · rename_i k off
    obtain ⟨t', cs, hk, ht⟩ := rowS_ok he
    obtain ⟨b, o, hi, hx⟩ := den_ptr hd (by rw [hk]; rfl)
    exact fin (row_at h hk hi) ht hx
  · obtain ⟨b, o, c, _, hx, hc, hy⟩ := den_iptr hd
    exact fin ⟨fun i y hi => ⟨c i, hc i y hi, hy i y hi⟩⟩ he hx
  · cases he

theorem res_sound {a : Act} {fr : Fr} (hH : HeapF X hp nx ids w) (hF : ∀ d, DenX X hp ids w (getF fr d) (a.tmps.getD d undef)) : ∀ (rs : List ResultVar) (K : List SV → Prop), resW X.P fr hp nx rs K →
    ∃ (xs : List SV) (vs : List Value), K xs ∧ (rs.mapM (resVal a.tmps)).run X.P w = .ok vs w ∧ xs.length = vs.length ∧ ∀ (i : Nat) (x : SV), xs[i]? = some x → DenX X hp ids w x (vs.getD i undef)
  | [], K, h => ⟨[], [], h, by simp [Sem.run_pure], rfl, fun i x hx => by simp at hx⟩
  | .tmp t :: r, K, h => by
    obtain ⟨xs, vs, h1, h2, h3, h4⟩ := res_sound hH hF r _ h
    refine ⟨_, a.tmps.getD t undef :: vs, h1, ?_, by simp [h3], fun i x hx => ?_⟩
    · rw [List.mapM_cons]
      simp only [resVal, Sem.run_bind, Sem.run_pure, Result.andThen_ok, h2]
    · cases i with
      | zero => simp at hx; subst hx; exact hF t
      | succ i => exact h4 i x (by simpa using hx)
  | .cell b t :: r, K, h => by
    unfold resW at h
    cases hl : loadS X.P t (getF fr b) hp nx with
    | bad => rw [hl] at h; exact h.elim
    | ok side e =>
      rw [hl] at h
      obtain ⟨hs, hk⟩ := h
      obtain ⟨xs, vs, h1, h2, h3, h4⟩ := res_sound hH hF r _ hk
      obtain ⟨hu, hn⟩ := loadS_keys hl
      obtain ⟨y, gy1, gy2⟩ := load_run hH.toX (hF b) hl hs
      refine ⟨_, y :: vs, h1, ?_, by simp [h3], fun i x hx => ?_⟩
      · rw [List.mapM_cons]
        simp only [resVal, Sem.run_bind, Sem.run_pure, h2, gy1, Result.andThen_ok]
      · cases i with
        | zero => simp at hx; subst hx; exact gy2
        | succ i => exact h4 i x (by simpa using hx)

def oneVal : List Value → Value
  | [x] => x
  | vs => .tuple vs.toArray
theorem results_run {P : Program} {fn : Func} {a : Act} {vs : List Value} (h : (fn.results.toList.mapM (resVal a.tmps)).run P w = .ok vs w) : (results fn a.tmps).run P w = .ok (oneVal vs) w := by
  have he : results fn a.tmps = (fn.results.mapM (resVal a.tmps) >>= fun vs => pure (if h : vs.size = 1 then vs[0] else .tuple vs)) := by
    unfold results
    congr 2
  rw [he, Sem.run_bind, Array.mapM_eq_mapM_toList, map_eq_pure_bind, Sem.run_bind, h]
  simp only [Result.andThen_ok, Sem.run_pure]
  match vs with
  | [] => rfl
  | [x] => rfl
  | x :: y :: r => rfl

/-- A FUNCTION KEEPS ITS CONTRACT if its code does. -/
theorem spec_of {D : (id : Nat) → (ops : Array Oper) → (Fr → Hp → Nat → Prop) → Fr → Hp → Nat → Prop} {P : Program} (hD : DrawOk D P) {f : FuncId} {fn : Func} {c : Code} {args : List SV} {hin : Hp} {m : Nat} {Post : SV → Hp → Nat → Prop}
    (hf : P.funcs[f]? = some fn) (hb : fn.body = some c) (hn : fn.name ≠ "runtime.NumGoroutine") (hl : Nat.ble args.length fn.ntmps = true) (hc : codeOk fn.ntmps c = true)
    (h : SwpD D P m fn.ntmps c (endS P fn.results.toList m Post) (frArgs 0 args) hin m) : SpecW P f args hin m Post := by
  refine ⟨⟨fn, c, hf, hb, hn⟩, fun X vals hP hm hH hvs hvd => ?_⟩
  subst hP; subst hm
  have hl' : args.length ≤ fn.ntmps := by simpa using hl
  refine calls_of_wp hf hb ?_
  have hst : StX X fn.ntmps (frArgs 0 args) hin X.m { tmps := vals ++ Array.replicate (fn.ntmps - vals.size) undef, defers := [] } X.w0 := by
    refine ⟨X.ids0, hH, fun d => ?_, by simp; omega, rfl⟩
    rw [getF_args, if_neg (by omega)]
    show DenX X hin X.ids0 X.w0 (args.getD (d - 0) .any) _
    rw [Nat.sub_zero, List.getD_eq_getElem?_getD]
    by_cases hd : d < args.length
    · have := hvd d (args[d]) (List.getElem?_eq_getElem hd)
      rw [List.getElem?_eq_getElem hd, Option.getD_some]
      rw [Array.getD_eq_getD_getElem?, Array.getElem?_append_left (by omega), ← Array.getD_eq_getD_getElem?]
      exact this
    · rw [List.getElem?_eq_none (by omega)]; exact .any
  refine wp_mono (swp_sound hD c _ _ _ _ _ _ hc hst h) fun e a w he => ?_
  have fin : ∀ {fr hp nx}, (resW X.P fr hp nx fn.results.toList fun xs => RetW X.P X.m Post (oneOf xs) hp) → StX X fn.ntmps fr hp nx a w → a.defers = [] ∧ ∃ v, (results fn a.tmps).run X.P w = .ok v w ∧ ∃ r res hp' nx' ids', Ending.returned v = .returned r ∧ Post res hp' nx' ∧ HeapF X hp' nx' ids' w ∧ DenX X hp' ids' w res r := by
    rintro fr hp nx hr ⟨ids, hH, hF, hN, hdf⟩
    obtain ⟨xs, vs, ⟨x', hp', nx', hpost, hle⟩, hrun, hlen, hx⟩ := res_sound hH hF _ _ hr
    obtain ⟨σ, frz, hS, hm, hd⟩ := hle.ex
    obtain ⟨ids', h1, h2⟩ := Sx.weaken hH.toHeapC hS hle.fresh hm hle.le
    refine ⟨hdf, _, results_run hrun, _, x', hp', nx', ids', rfl, hpost, h1, h2 (oneOf xs) x' _ (hd 0) ?_⟩
    match xs, vs, hlen, hx with
    | [], [], _, hx => exact .tup _ rfl fun i x hi => by simp at hi
    | [x], [v], _, hx => exact hx 0 x rfl
    | x :: y :: r, v :: u :: s, hlen, hx => 
      refine .tup _ (by simpa using hlen) fun i z hi => ?_
      have hz := hx i z hi
      rw [List.getD_eq_getElem?_getD] at hz
      rw [Array.getD_eq_getD_getElem?, List.getElem?_toArray]
      exact hz
  cases e with
  | normal => obtain ⟨fr, hp, nx, hk, hs⟩ := he; exact fin hk hs
  | ret => obtain ⟨fr, hp, nx, hk, hs⟩ := he; exact fin hk hs
  | exit id => obtain ⟨fr, hp, nx, hk, hs⟩ := he; exact hk.elim
  | _ => exact he.elim
end Go.Sx
