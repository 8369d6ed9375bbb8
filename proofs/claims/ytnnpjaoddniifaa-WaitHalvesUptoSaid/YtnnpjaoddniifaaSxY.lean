/-
  Sx, part Y: the forms in which a walk stops.
-/
import Derived.Test.YtnnpjaoddniifaaSxX
set_option linter.unusedSimpArgs false
set_option linter.unusedVariables false
namespace Go.Sx
open Go.RowKit
/-- At a call. -/
def CallAt (P : Program) (f : FuncId) (args : List SV) (dst : Option Tmp) (ops : Array Oper) (rest : List Oper) (fr : Fr) (hp : Hp) (nx : Nat) (K : Fr → Hp → Nat → Prop) : Prop :=
  CallW false P f args hp nx fun val upd nx' _ => runOps P ops rest (putF dst val fr) (upd ++ hp) nx' K
theorem wk_id {P m K fr hp nx} (h : K fr hp nx) : Wk P m K fr hp nx := .inl h
theorem wk_mk {P m K fr hp nx} (fr' : Fr) (hp' : Hp) (nx' : Nat) (hle : LeSt P m fr hp fr' hp' nx') (h : K fr' hp' nx') : Wk P m K fr hp nx := .inr ⟨fr', hp', nx', hle, h⟩
/-- What stands at the end of a drawn region. -/
def DrawEnd (P : Program) (ops : Array Oper) (acc : List Nms) (K : Fr → Hp → Nat → Prop) (fr : Fr) (hp : Hp) (nx : Nat) : Prop := Need (P.follows .mixedOrders = true ∧ orderOk ops acc (aheads ops.toList) = true) (K fr hp nx)
def runE (P : Program) (ops : Array Oper) (l : List Oper) (fr : Fr) (hp : Hp) (nx : Nat) (acc : List Nms) (K : Fr → Hp → Nat → Prop) : Prop := runD P ops l fr hp nx acc fun ns fr' hp' nx' => DrawEnd P ops ns K fr' hp' nx'
/-- At a call, in a drawn region. -/
def CallE (P : Program) (f : FuncId) (args : List SV) (dst : Option Tmp) (ops : Array Oper) (rest : List Oper) (fr : Fr) (hp : Hp) (nx : Nat) (acc : List Nms) (K : Fr → Hp → Nat → Prop) : Prop :=
  CallW true P f args hp nx fun val upd nx' rds => runE P ops rest (putF dst val fr) (upd ++ hp) (nx' + 1) (acc ++ [⟨upd.map (·.1), rds, nx, nx'⟩]) K
end Go.Sx
namespace Go.Sx
theorem sub_nil {P : Program} {C : Nat → Chunk} {σ : Nat → Option Nat} {frz : Nat → Prop} : Sub P C (getH []) σ frz :=
  ⟨fun _ => trivial, (fun k1 k2 k h => by cases h), (fun k _ k2 h => by cases h)⟩
theorem end_ret {P rs m Post fr hp nx} : endS P rs m Post .ret fr hp nx = resW P fr hp nx rs fun xs => RetW P m Post (oneOf xs) hp := rfl
theorem end_normal {P rs m Post fr hp nx} : endS P rs m Post .normal fr hp nx = resW P fr hp nx rs fun xs => RetW P m Post (oneOf xs) hp := rfl
theorem resW_nil {P fr hp nx K} : resW P fr hp nx [] K = K [] := rfl
theorem resW_tmp {P fr hp nx t r K} : resW P fr hp nx (.tmp t :: r) K = resW P fr hp nx r fun xs => K (getF fr t :: xs) := rfl
theorem resW_cell {P fr hp nx a t r K} : resW P fr hp nx (.cell a t :: r) K = (loadS P t (getF fr a) hp nx).wp fun e => resW P fr hp nx r fun xs => K (e.val :: xs) := rfl
theorem oneOf_one {x} : oneOf [x] = x := rfl
theorem oneOf_two {x y r} : oneOf (x :: y :: r) = .tup (x :: y :: r) := rfl
/-- The end of a function that hands nothing out, and was given nothing. -/
theorem ret_cl {P : Program} {x : SV} {hp : Hp} (h : x.cl = true) : RetW P 0 (fun r h n => r = x ∧ h = [] ∧ n = 0) x hp := by
  refine ⟨x, [], 0, ⟨rfl, rfl, rfl⟩, ⟨fun _ => none, [], sub_nil, fun k hk => absurd hk (Nat.not_lt_zero _), fun d => ?_⟩, fun _ _ => rfl, Nat.le_refl _⟩
  simp only [getF]
  cases hd : (0 == d) with
  | true => exact .cl h
  | false => exact .any
end Go.Sx
