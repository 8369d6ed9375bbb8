/-
  Sx, part C: frames, and what operations do to them.
-/
import Derived.Test.YtnnpjaoddniifaaSxB
set_option linter.unusedSimpArgs false
set_option linter.unusedVariables false
namespace Go.Sx
set_option linter.unusedVariables false
open Go.RowKit

abbrev Fr := List (Nat × SV)
abbrev Hp := List (Nat × Chunk)
def getF : Fr → Nat → SV
  | [], _ => .any
  | p :: r, t => bif p.1 == t then p.2 else getF r t
def getH : Hp → Nat → Chunk
  | [], _ => .unborn
  | p :: r, k => bif p.1 == k then p.2 else getH r k
theorem getF_nil (t : Nat) : getF [] t = .any := rfl
theorem getF_cons (d : Nat) (x : SV) (r : Fr) (t : Nat) : getF ((d, x) :: r) t = bif d == t then x else getF r t := rfl
theorem getH_nil (t : Nat) : getH [] t = .unborn := rfl
theorem getH_cons (d : Nat) (x : Chunk) (r : Hp) (t : Nat) : getH ((d, x) :: r) t = bif d == t then x else getH r t := rfl
theorem getH_upd (k : Nat) (c : Chunk) (hp : Hp) : getH ((k, c) :: hp) = upd (getH hp) k c := by
  funext j
  by_cases h : j = k
  · subst h; simp [getH, upd]
  · have : (k == j) = false := by simp; exact fun e => h e.symm
    simp [getH, upd, h, this]

/-- What an operation does. -/
structure Eff where
  val : SV
  upd : Hp
  nx : Nat
  rds : List Nat

inductive Res where
  | bad
  | ok (side : Prop) (e : Eff)

/-- A side condition, and what goes on under it. -/
def Need (c k : Prop) : Prop := c ∧ k
theorem Need.mk {c k : Prop} (h : c) (hk : k) : Need c k := ⟨h, hk⟩
theorem need_ok {c k : Prop} (h : c) : Need c k = k := by simp [Need, h]
theorem need_true {k : Prop} : Need True k = k := by simp [Need]

def Res.wp : Res → (Eff → Prop) → Prop
  | .bad, _ => False
  | .ok s e, K => Need s (K e)
theorem wp_bad (K) : Res.wp .bad K = False := rfl
theorem wp_ok (s e K) : Res.wp (.ok s e) K = Need s (K e) := rfl

def unw (g : Bool) : SV → SV
  | .gd h x => bif h || !g then x else .any
  | x => x
theorem unw_same (g : Bool) (x : SV) : unw g (.gd g x) = x := by cases g <;> rfl
theorem unw_any (g : Bool) : unw g .any = .any := rfl
theorem unw_v (g : Bool) (x) : unw g (.v x) = .v x := rfl
theorem unw_agg (g : Bool) (x) : unw g (.agg x) = .agg x := rfl
theorem unw_tup (g : Bool) (x) : unw g (.tup x) = .tup x := rfl
theorem unw_sl (g : Bool) (n x) : unw g (.sl n x) = .sl n x := rfl
theorem unw_own (g : Bool) (k o n) : unw g (.own k o n) = .own k o n := rfl
theorem unw_ptr (g : Bool) (k o) : unw g (.ptr k o) = .ptr k o := rfl
theorem unw_iptr (g : Bool) (k o) : unw g (.iptr k o) = .iptr k o := rfl
theorem unw_mp (g : Bool) (k) : unw g (.mp k) = .mp k := rfl
theorem unw_it (g : Bool) (k) : unw g (.it k) = .it k := rfl
theorem unw_clo (g : Bool) (k c) : unw g (.clo k c) = .clo k c := rfl

/-- An operand under a guard. -/
def evS (g : Bool) (fr : Fr) : Operand → SV
  | .tmp t => unw g (getF fr t)
  | .const v => .v v
  | .global n => .v (.pointer (some ⟨n, 0, none⟩))
  | .func f => .v (.func (.func f) #[] #[])
theorem evS_tmp (g fr t) : evS g fr (.tmp t) = unw g (getF fr t) := rfl
theorem evS_const (g fr t) : evS g fr (.const t) = .v t := rfl
theorem evS_func (g fr t) : evS g fr (.func t) = .v (.func (.func t) #[] #[]) := rfl
theorem evS_global (g fr t) : evS g fr (.global t) = .v (.pointer (some ⟨t, 0, none⟩)) := rfl

/-- An operand as it stands. -/
def rawS (fr : Fr) : Operand → SV
  | .tmp t => getF fr t
  | .const v => .v v
  | .global n => .v (.pointer (some ⟨n, 0, none⟩))
  | .func f => .v (.func (.func f) #[] #[])
def szT (P : Program) (t : TypeId) : Option Nat := (P.info? t).map (·.size)
def aggT (P : Program) (t : TypeId) : Option Bool := (P.underlying t).map fun d => match d with | .struct _ => true | .array _ _ => true | _ => false
def zeroT (P : Program) (t : TypeId) : Option (List SV) := (P.info? t).bind fun i => i.zero.map fun z => z.cells.toList.map .v

def cellsS : SV → List SV
  | .agg xs => xs
  | x => [x]
/-- Surely the value of one cell? -/
def oneS : SV → Bool
  | .v x => x.oneCell'
  | .sl _ _ => true
  | .own _ _ _ => true
  | .ptr _ _ => true
  | .iptr _ _ => true
  | .mp _ => true
  | .it _ => true
  | .clo _ _ => true
  | _ => false
def splice (cs : List SV) (o : Nat) : List SV → List SV
  | [] => cs
  | x :: xs => splice (cs.set o x) (o + 1) xs

def pureR (x : SV) (nx : Nat) : Res := .ok True ⟨x, [], nx, []⟩

def pickS (g b : Bool) (x y : SV) (nx : Nat) : Res :=
  match unw (g && b) x, unw (g && !b) y with
  | .v (.bool p), .v (.bool q) => pureR (.v (.bool (bif b then p else q))) nx
  | .v (.int k p), .v (.int k' q) => bif k == k' then pureR (.v (.int k (bif b then p else q))) nx else pureR (bif b then .v (.int k p) else .v (.int k' q)) nx
  | p, q => pureR (bif b then p else q) nx

/-- (what a load tells where nothing is: never asked) -/
def dflS (P : Program) (t : TypeId) : SV := match zeroT P t with
  | some [x] => x
  | _ => .any
def takeS (P : Program) (t : TypeId) (cs : List SV) (off : Nat) (rds : List Nat) (nx : Nat) : Res :=
  match aggT P t, szT P t with
  | some true, some n => .ok (off + n ≤ cs.length) ⟨.agg ((cs.drop off).take n), [], nx, rds⟩
  | some false, _ => .ok (off < cs.length) ⟨cs.getD off (dflS P t), [], nx, rds⟩
  | _, _ => .bad

def rowS (c : Chunk) (k : TypeId → List SV → Res) : Res :=
  match c with
  | .row e cs => k e cs
  | _ => .bad

def loadS (P : Program) (t : TypeId) (x : SV) (hp : Hp) (nx : Nat) : Res :=
  match x with
  | .ptr k off => rowS (getH hp k) fun _ cs => takeS P t cs off [k] nx
  | .iptr cs off => takeS P t cs off [] nx
  | _ => .bad

def storeS (P : Program) (t : TypeId) (x v : SV) (hp : Hp) (nx : Nat) : Res :=
  match x with
  | .ptr k off => rowS (getH hp k) fun e cs => .ok (szT P t = some (cellsS v).length ∧ (cellsS v).all oneS = true ∧ off + (cellsS v).length ≤ cs.length) ⟨.any, [(k, .row e (splice cs off (cellsS v)))], nx, [k]⟩
  | _ => .bad

def intS (op : BinOp) (k : IntKind) (a b : Int) (nx : Nat) : Res :=
  match op with
  | .add => pureR (.v (.int k (k.wrap (a + b)))) nx
  | .sub => pureR (.v (.int k (k.wrap (a - b)))) nx
  | .mul => pureR (.v (.int k (k.wrap (a * b)))) nx
  | .quo => .ok (b ≠ 0) ⟨.v (.int k (k.wrap (a.tdiv b))), [], nx, []⟩
  | .rem => .ok (b ≠ 0) ⟨.v (.int k (a.tmod b)), [], nx, []⟩
  | .and => pureR (.v (.int k (k.wrap ((BitVec.ofInt k.bits a &&& BitVec.ofInt k.bits b).toNat : Nat)))) nx
  | .or => pureR (.v (.int k (k.wrap ((BitVec.ofInt k.bits a ||| BitVec.ofInt k.bits b).toNat : Nat)))) nx
  | .xor => pureR (.v (.int k (k.wrap ((BitVec.ofInt k.bits a ^^^ BitVec.ofInt k.bits b).toNat : Nat)))) nx
  | .andNot => pureR (.v (.int k (k.wrap ((BitVec.ofInt k.bits a &&& ~~~BitVec.ofInt k.bits b).toNat : Nat)))) nx
  | .eql => pureR (.v (.bool (a == b))) nx
  | .neq => pureR (.v (.bool (a != b))) nx
  | .lss => pureR (.v (.bool (decide (a < b)))) nx
  | .leq => pureR (.v (.bool (decide (a ≤ b)))) nx
  | .gtr => pureR (.v (.bool (decide (b < a)))) nx
  | .geq => pureR (.v (.bool (decide (b ≤ a)))) nx
  | _ => .bad

def binS (P : Program) (op : BinOp) (t : TypeId) (x y : SV) (nx : Nat) : Res :=
  match x, y with
  | .v (.int k a), .v (.int k' b) => bif k == k' then intS op k a b nx else .bad
  | _, _ => .bad

end Go.Sx
