/-
 Lemmas, put together: QA, QB, QC, codeP, codeP2.
 No conditions.
-/
import Derived.Test.YtdckaaiidagodaaDoorcodeA3
import Derived.Test.YtdckaaiidagodaaDoorcodeG
set_option linter.unusedSimpArgs false
set_option linter.unusedVariables false
section
namespace Go.Sx
open Go
set_option linter.unusedVariables false
theorem wrap_id {x : Int} (h1 : -9223372036854775808 ≤ x) (h2 : x ≤ 9223372036854775807) : IntKind.i64.wrap x = x := by
 simp only [IntKind.wrap, IntKind.bits, IntKind.signed, if_true]
 simp
 omega
def firstAt {β : Type} (bad : Nat → Option β) : Nat → Option β
 | 0 => none
 | n + 1 => (firstAt bad n).or (bad n)
theorem firstAt_none {β : Type} {f : Nat → Option β} : ∀ (n : Nat), firstAt f n = none ↔ ∀ i, i < n → f i = none
 | 0 => by simp [firstAt]
 | n + 1 => by
  simp only [firstAt, Option.or_eq_none_iff, firstAt_none n]
  constructor
  ·rintro ⟨h1, h2⟩ i hi
   by_cases h : i = n
   ·subst h; exact h2
   ·exact h1 i (by omega)
  ·exact fun h => ⟨fun i hi => h i (by omega), h n (by omega)⟩
theorem firstAt_some {β : Type} {f : Nat → Option β} {b : β} : ∀ (n : Nat), firstAt f n = some b → ∃ i, i < n ∧ f i = some b ∧ ∀ j, j < i → f j = none
 | 0, h => by simp [firstAt] at h
 | n + 1, h => by
  simp only [firstAt] at h
  cases hf : firstAt f n with
  | some c =>
   rw [hf] at h
   obtain ⟨i, h1, h2, h3⟩ := firstAt_some n hf
   simp only [Option.some_or] at h
   exact ⟨i, by omega, by rw [h2, h], h3⟩
  | none =>
   rw [hf] at h
   simp only [Option.none_or] at h
   exact ⟨n, by omega, h, fun j hj => (firstAt_none n).1 hf j hj⟩
theorem loopO_find {S ρ : Type} {step : S → Option (S ⊕ ρ)} (E : Nat → S) (bad : Nat → Option ρ) (rest : Option ρ) (n : Nat)
  (h1 : ∀ i, i < n → bad i = none → step (E i) = some (.inl (E (i + 1)))) (h2 : ∀ i r, i < n → bad i = some r → step (E i) = some (.inr r)) (h3 : (∀ i, i < n → bad i = none) → step (E n) = rest.map .inr) :
  loopO step (E 0) = match firstAt bad n with
   | some r => some r
   | none => rest := by
 have walk : ∀ k, k ≤ n → (∀ i, i < k → bad i = none) → loopO step (E 0) = loopO step (E k) := by
  intro k
  induction k with
  | zero => exact fun _ _ => rfl
  | succ k ih =>
   intro hk hb
   rw [ih (by omega) fun i hi => hb i (by omega), loopO_inl (h1 k (by omega) (hb k (by omega)))]
 cases hf : firstAt bad n with
 | none =>
  have hb := (firstAt_none n).1 hf
  rw [walk n (Nat.le_refl _) hb, loopO_out (h3 hb)]
 | some r =>
  obtain ⟨i, g1, g2, g3⟩ := firstAt_some n hf
  rw [walk i (by omega) g3, loopO_inr (h2 i r g1 g2)]
theorem loopO_findD {S ρ : Type} {step : S → Option (S ⊕ ρ)} (E : Nat → S) (bad : Nat → Option ρ) (d : ρ) (n : Nat)
  (h1 : ∀ i, i < n → bad i = none → step (E i) = some (.inl (E (i + 1)))) (h2 : ∀ i r, i < n → bad i = some r → step (E i) = some (.inr r)) (h3 : (∀ i, i < n → bad i = none) → step (E n) = some (.inr d)) :
  loopO step (E 0) = some ((firstAt bad n).getD d) := by
 rw [loopO_find E bad (some d) n h1 h2 (fun h => by rw [h3 h]; rfl)]
 cases firstAt bad n <;> rfl
end Go.Sx
end

section
namespace Go.Sx
variable {α : Type}
end Go.Sx
end

section
namespace Go.Sx
def toldOr {S ρ : Type} (o : Option ρ) (s : S) : Option (S ⊕ ρ) := match o with
 | some r => some (.inr r)
 | none => some (.inl s)
@[simp] theorem toldOr_some {S ρ : Type} (r : ρ) (s : S) : toldOr (some r) s = some (.inr r) := rfl
@[simp] theorem toldOr_none {S ρ : Type} (s : S) : toldOr (none : Option ρ) s = some (.inl s) := rfl
theorem loopO_findP {S ρ : Type} {step : S → Option (S ⊕ ρ)} (E : Nat → S) (bad : Nat → Option ρ) (d : ρ) (n : Nat)
  (h1 : ∀ i, i < n → (∀ j, j < i → bad j = none) → step (E i) = toldOr (bad i) (E (i + 1)))
  (h3 : (∀ i, i < n → bad i = none) → step (E n) = some (.inr d)) : loopO step (E 0) = some ((firstAt bad n).getD d) := by
 have walk : ∀ k, k ≤ n → (∀ i, i < k → bad i = none) → loopO step (E 0) = loopO step (E k) := by
  intro k
  induction k with
  | zero => exact fun _ _ => rfl
  | succ k ih =>
   intro hk hb
   have := h1 k (by omega) fun i hi => hb i (by omega)
   rw [hb k (by omega), toldOr_none] at this
   rw [ih (by omega) fun i hi => hb i (by omega), loopO_inl this]
 cases hf : firstAt bad n with
 | none =>
  have hb := (firstAt_none n).1 hf
  rw [walk n (Nat.le_refl _) hb, loopO_inr (h3 hb)]; rfl
 | some r =>
  obtain ⟨i, g1, g2, g3⟩ := firstAt_some n hf
  have := h1 i g1 g3
  rw [g2, toldOr_some] at this
  rw [walk i (by omega) g3, loopO_inr this]; rfl
end Go.Sx
end

section
namespace Go.Proofs.YtdckaaiidagodaaDoor
open Go Go.Sx
set_option linter.unusedVariables false
set_option linter.unusedSimpArgs false
noncomputable section
def argOk (p : GProgram) (k x : Int) : Bool := (taskmillref_ArgOk p k x).getD false
theorem argOk_eq (p : GProgram) (k x : Int) : taskmillref_ArgOk p k x = some (argOk p k x) := by
 unfold argOk taskmillref_ArgOk taskmillref_ArgOk_j1
 (repeat' (rw [Bool.cond_eq_ite]; split)) <;> rfl
def kindsL : List Int := [110, 114, 99, 109, 112, 108, 103, 107, 45]
theorem fits_eq (p : GProgram) (k x : Int) (hk : k ∈ kindsL) : code_fits p k x = taskmillref_ArgOk p k x := by
 simp only [kindsL, List.mem_cons, List.not_mem_nil, or_false] at hk
 rcases hk with rfl | rfl | rfl | rfl | rfl | rfl | rfl | rfl | rfl <;> rfl
def kd (op : Int) (j : Nat) : Int := (((ix refArgs op).data.getD j 0).toNat : Int)
theorem tab_all : ∀ k : Nat, k < 23 → (ix codeKinds ((k : Nat) : Int)).args = ix refArgs ((k : Nat) : Int) ∧ (1 ≤ k → (ix refArgs ((k : Nat) : Int)).size = 2 ∧ kd k 0 ∈ kindsL ∧ kd k 1 ∈ kindsL) := by decide
theorem tab_at (op : Int) (h1 : 1 ≤ op) (h2 : op ≤ 22) : (ix codeKinds op).args = ix refArgs op ∧ (ix refArgs op).size = 2 ∧ kd op 0 ∈ kindsL ∧ kd op 1 ∈ kindsL := by
 obtain ⟨k, rfl⟩ : ∃ k : Nat, op = (k : Int) := ⟨op.toNat, by omega⟩
 obtain ⟨a, b⟩ := tab_all k (by omega)
 obtain ⟨b1, b2, b3⟩ := b (by omega)
 exact ⟨a, b1, b2, b3⟩
def badI (p : GProgram) (i : Int) : Option Fault :=
 if (ix p.Code i).Op < 1 ∨ 22 < (ix p.Code i).Op then some ⟨4, i⟩
 else if argOk p (kd (ix p.Code i).Op 0) (ix p.Code i).A = true ∧ argOk p (kd (ix p.Code i).Op 1) (ix p.Code i).B = true then none
 else some ⟨5, i⟩
theorem inr (p : GProgram) (i : Nat) (h : i < p.Code.length) : ((decide ((0 : Int) ≤ ((i : Nat) : Int))) && (decide (((i : Nat) : Int) < ((p.Code.length : Nat) : Int)))) = true := by
 simp; omega
theorem wrapS {n : Nat} (h : n < 100000) : IntKind.i64.wrap (((n : Nat) : Int) + 1) = ((n + 1 : Nat) : Int) := by
 rw [wrap_id (by omega) (by omega)]; omega
theorem ref_step (p : GProgram) (hp : p.Code.length ≤ 1000) (i : Nat) (h : i < p.Code.length) : taskmillref_ProgramFault_l1 p ((i : Nat) : Int) = toldOr (badI p i) (((i + 1 : Nat)) : Int) := by
 unfold taskmillref_ProgramFault_l1 badI
 have h0 : decide (((i : Nat) : Int) < ((p.Code.length : Nat) : Int)) = true := by simp; omega
 simp only [inr p i h, h0, cond_true]
 generalize hc : ix p.Code ((i : Nat) : Int) = c
 by_cases hr : c.Op < 1 ∨ 22 < c.Op
 ·have : (decide (c.Op < 1) || decide ((22 : Int) < c.Op)) = true := by simpa using hr
  rw [this, if_pos hr]; rfl
 ·have e0 : (decide (c.Op < 1) || decide ((22 : Int) < c.Op)) = false := by simpa using hr
  have hr' : 1 ≤ c.Op ∧ c.Op ≤ 22 := by omega
  obtain ⟨t1, t2, t3, t4⟩ := tab_at c.Op hr'.1 hr'.2
  have e1 : (decide ((0 : Int) ≤ c.Op) && decide (c.Op < ((refArgs.length : Nat) : Int))) = true := by
   have : refArgs.length = 23 := rfl
   simp [this]; omega
  rw [e0, if_neg hr]
  simp only [cond_false, e1, cond_true, t2]
  show (bif decide ((0 : Int) < ((2 : Nat) : Int)) then (taskmillref_ArgOk p (kd c.Op 0) c.A).bind _ else none) = _
  rw [argOk_eq p (kd c.Op 0)]
  simp only [show decide ((0 : Int) < ((2 : Nat) : Int)) = true from rfl, show decide ((1 : Int) < ((2 : Nat) : Int)) = true from rfl, cond_true, Option.bind_some]
  cases ha : argOk p (kd c.Op 0) c.A with
  | false => simp [taskmillref_ProgramFault_j1, taskmillref_F, toldOr]
  | true =>
   simp only [Bool.not_true, cond_false]
   show ((taskmillref_ArgOk p (kd c.Op 1) c.B).bind _) = _
   rw [argOk_eq p (kd c.Op 1)]
   cases hb : argOk p (kd c.Op 1) c.B with
   | false => simp [taskmillref_ProgramFault_j1, taskmillref_F, toldOr]
   | true => simp [taskmillref_ProgramFault_j1, toldOr]; exact wrapS (by omega)
theorem chk_step (p : GProgram) (i : Nat) (h : i < p.Code.length) : code_Check_l1 p ((i : Nat) : Int) = taskmillref_ProgramFault_l1 p ((i : Nat) : Int) := by
 unfold taskmillref_ProgramFault_l1 code_Check_l1
 have h0 : decide (((i : Nat) : Int) < ((p.Code.length : Nat) : Int)) = true := by simp; omega
 simp only [inr p i h, h0, cond_true]
 generalize hc : ix p.Code ((i : Nat) : Int) = c
 have e9 : (decide ((23 : Int) ≤ c.Op)) = (decide ((22 : Int) < c.Op)) := decide_eq_decide.2 (by omega)
 rw [e9]
 by_cases hr : c.Op < 1 ∨ 22 < c.Op
 ·have : (decide (c.Op < 1) || decide ((22 : Int) < c.Op)) = true := by simpa using hr
  rw [this]; rfl
 ·have e0 : (decide (c.Op < 1) || decide ((22 : Int) < c.Op)) = false := by simpa using hr
  have hr' : 1 ≤ c.Op ∧ c.Op ≤ 22 := by omega
  obtain ⟨t1, t2, t3, t4⟩ := tab_at c.Op hr'.1 hr'.2
  have e1 : (decide ((0 : Int) ≤ c.Op) && decide (c.Op < ((refArgs.length : Nat) : Int))) = true := by
   have : refArgs.length = 23 := rfl
   simp [this]; omega
  have e2 : (decide ((0 : Int) ≤ c.Op) && decide (c.Op < ((codeKinds.length : Nat) : Int))) = true := by
   have : codeKinds.length = 23 := rfl
   simp [this]; omega
  rw [e0]
  simp only [cond_false, e1, e2, cond_true, t1, t2]
  have f1 := fits_eq p (kd c.Op 0) c.A t3
  have f2 := fits_eq p (kd c.Op 1) c.B t4
  unfold kd at f1 f2
  simp only [show ((0 : Int)).toNat = 0 from rfl, show ((1 : Int)).toNat = 1 from rfl, f1, f2]
  rfl
def badP (p : GProgram) (i : Nat) : Option Fault := if ix p.Pipes ((i : Nat) : Int) < 0 ∨ 100 < ix p.Pipes ((i : Nat) : Int) then some ⟨8, i⟩ else none
def progF (p : GProgram) : Fault :=
 if 1000 < p.Code.length ∨ 20 < p.Pipes.length then ⟨2, 0⟩
 else if p.Cells < 0 ∨ 20 < p.Cells ∨ p.Locks < 0 ∨ 20 < p.Locks ∨ p.Groups < 0 ∨ 20 < p.Groups then ⟨3, 0⟩
 else (firstAt (badP p) p.Pipes.length).getD ((firstAt (fun i => badI p ((i : Nat) : Int)) p.Code.length).getD ⟨0, 0⟩)
theorem chk_end (p : GProgram) : code_Check_l1 p ((p.Code.length : Nat) : Int) = some (.inr ⟨0, 0⟩) := by
 unfold code_Check_l1; simp
theorem chk_loop (p : GProgram) (hp : p.Code.length ≤ 1000) : loopO (code_Check_l1 p) 0 = some ((firstAt (fun i => badI p ((i : Nat) : Int)) p.Code.length).getD ⟨0, 0⟩) :=
 loopO_findP (step := code_Check_l1 p) (fun i => ((i : Nat) : Int)) (fun i => badI p ((i : Nat) : Int)) ⟨0, 0⟩ p.Code.length (fun i hi _ => (chk_step p i hi).trans (ref_step p hp i hi)) (fun _ => chk_end p)
theorem chk_eq (p : GProgram) : code_Check p = some (progF p) := by
 unfold code_Check progF
 by_cases h1 : 1000 < p.Code.length ∨ 20 < p.Pipes.length
 ·have : (decide ((1000 : Int) < ((p.Code.length : Nat) : Int)) || decide ((20 : Int) < ((p.Pipes.length : Nat) : Int))) = true := by simp; omega
  rw [this, if_pos h1]; rfl
 ·have : (decide ((1000 : Int) < ((p.Code.length : Nat) : Int)) || decide ((20 : Int) < ((p.Pipes.length : Nat) : Int))) = false := by simp; omega
  rw [this, if_neg h1, cond_false]
  by_cases h2 : p.Cells < 0 ∨ 20 < p.Cells ∨ p.Locks < 0 ∨ 20 < p.Locks ∨ p.Groups < 0 ∨ 20 < p.Groups
  ·rw [if_pos h2]
   have : ((decide ((min (min p.Cells p.Locks) p.Groups) < 0)) || (decide ((20 : Int) < (max (max p.Cells p.Locks) p.Groups)))) = true := by
    rw [Bool.or_eq_true, decide_eq_true_eq, decide_eq_true_eq]; omega
   rw [this]; rfl
  ·rw [if_neg h2]
   have : ((decide ((min (min p.Cells p.Locks) p.Groups) < 0)) || (decide ((20 : Int) < (max (max p.Cells p.Locks) p.Groups)))) = false := by
    rw [Bool.or_eq_false_iff, decide_eq_false_iff_not, decide_eq_false_iff_not]; omega
   rw [this, cond_false]
   refine loopO_findD (step := code_Check_l2 p) (fun i => ((i : Nat) : Int)) (badP p) _ p.Pipes.length (fun i hi hb => ?_) (fun i r hi hb => ?_) (fun _ => ?_)
   ·unfold code_Check_l2
    unfold badP at hb
    split at hb
    ·cases hb
    ·rename_i h
     have h0 : decide (((i : Nat) : Int) < ((p.Pipes.length : Nat) : Int)) = true := by simp; omega
     simp only [show decide ((0 : Int) ≤ ((i : Nat) : Int)) = true from by simp, h0, Bool.and_self, cond_true]
     have : (decide (ix p.Pipes ((i : Nat) : Int) < 0) || decide ((100 : Int) < ix p.Pipes ((i : Nat) : Int))) = false := by simpa using h
     rw [this, cond_false, wrapS (by omega)]
   ·unfold code_Check_l2
    unfold badP at hb
    split at hb
    ·rename_i h
     cases hb
     have h0 : decide (((i : Nat) : Int) < ((p.Pipes.length : Nat) : Int)) = true := by simp; omega
     simp only [show decide ((0 : Int) ≤ ((i : Nat) : Int)) = true from by simp, h0, Bool.and_self, cond_true]
     have : (decide (ix p.Pipes ((i : Nat) : Int) < 0) || decide ((100 : Int) < ix p.Pipes ((i : Nat) : Int))) = true := by simpa using h
     rw [this, cond_true]; rfl
    ·cases hb
   ·unfold code_Check_l2
    have h0 : decide (((p.Pipes.length : Nat) : Int) < ((p.Pipes.length : Nat) : Int)) = false := by simp
    rw [h0, cond_false]
    show Option.map Sum.inr (loopO (code_Check_l1 p) 0) = _
    rw [chk_loop p (by omega)]; rfl
structure Ok (p : GProgram) : Prop where
 len : p.Code.length ≤ 1000
 ins : ∀ i : Int, 0 ≤ i → i < ((p.Code.length : Nat) : Int) → badI p i = none
theorem ok_of {p : GProgram} (h : (progF p).Code = 0) : Ok p := by
 unfold progF at h
 split at h
 ·simp at h
 ·rename_i h1
  split at h
  ·simp at h
  ·cases hf0 : firstAt (badP p) p.Pipes.length with
   | some f =>
    rw [hf0] at h
    obtain ⟨i, hi, hb, _⟩ := firstAt_some _ hf0
    unfold badP at hb
    split at hb
    ·cases hb; simp at h
    ·cases hb
   | none =>
    rw [hf0] at h
    simp only [Option.getD_none] at h
    refine ⟨by omega, fun i h2 h3 => ?_⟩
    cases hf : firstAt (fun i => badI p ((i : Nat) : Int)) p.Code.length with
    | none =>
     have := (firstAt_none _).1 hf i.toNat (by omega)
     rwa [show ((i.toNat : Nat) : Int) = i by omega] at this
    | some f =>
     rw [hf] at h
     obtain ⟨j, hj, hb, _⟩ := firstAt_some _ hf
     simp only [Option.getD_some] at h
     unfold badI at hb
     split at hb
     ·cases hb; simp at h
     ·split at hb
      ·cases hb
      ·cases hb; simp at h
structure OkI (p : GProgram) (c : GInstr) : Prop where
 op : 1 ≤ c.Op ∧ c.Op ≤ 22
 a : argOk p (kd c.Op 0) c.A = true
 b : argOk p (kd c.Op 1) c.B = true
theorem Ok.at {p : GProgram} (h : Ok p) {i : Int} (h0 : 0 ≤ i) (h1 : i < ((p.Code.length : Nat) : Int)) : OkI p (ix p.Code i) := by
 have := h.ins i h0 h1
 unfold badI at this
 split at this
 ·cases this
 ·split at this
  ·rename_i h2 h3; exact ⟨by omega, h3.1, h3.2⟩
  ·cases this
theorem arg_r {p : GProgram} {x : Int} (h : argOk p 114 x = true) : 0 ≤ x ∧ x < 8 := by
 have e : argOk p 114 x = (decide (0 ≤ x) && decide (x < 8)) := rfl
 rw [e] at h; simpa using h
theorem arg_c {p : GProgram} {x : Int} (h : argOk p 99 x = true) : 0 ≤ x ∧ x < ((p.Code.length : Nat) : Int) := by
 have e : argOk p 99 x = (decide (0 ≤ x) && decide (x < ((p.Code.length : Nat) : Int))) := rfl
 rw [e] at h; simpa using h
theorem do_eq (c : GInstr) (pc : Int) (r : VArr 8) : code_Do_1 c pc r = taskmillref_Did c pc r := by
 unfold code_Do_1 taskmillref_Did
 have e : ∀ b : Bool, code_Do_1_j1 pc (r.set c.A (mbGet [(true, 1)] b)) = bif b then taskmillref_Did_j1 pc (r.set c.A 1) else taskmillref_Did_j1 pc (r.set c.A 0) := fun b => by cases b <;> rfl
 rw [e]
 rfl
def did (c : GInstr) (pc : Int) (r : VArr 8) : Int × VArr 8 := (taskmillref_Did c pc r).getD (0, r)
theorem did_ok {p : GProgram} (hp : p.Code.length ≤ 1000) {c : GInstr} (h : OkI p c) {pc : Int} (h0 : 0 ≤ pc) (h1 : pc < ((p.Code.length : Nat) : Int)) (r : VArr 8) :
  taskmillref_Did c pc r = some (did c pc r) ∧ 0 ≤ (did c pc r).1 ∧ (did c pc r).1 ≤ ((p.Code.length : Nat) : Int) := by
 have key : ∃ x, taskmillref_Did c pc r = some x ∧ 0 ≤ x.1 ∧ x.1 ≤ ((p.Code.length : Nat) : Int) := by
  have hj : ∀ q, ∃ x, taskmillref_Did_j1 pc q = some x ∧ 0 ≤ x.1 ∧ x.1 ≤ ((p.Code.length : Nat) : Int) := fun q =>
   ⟨_, rfl, by show 0 ≤ IntKind.i64.wrap (pc + 1); rw [wrap_id (by omega) (by omega)]; omega, by show IntKind.i64.wrap (pc + 1) ≤ _; rw [wrap_id (by omega) (by omega)]; omega⟩
  have ra : ∀ {x : Int}, 0 ≤ x ∧ x < 8 → (decide ((0 : Int) ≤ x) && decide (x < ((8 : Nat) : Int))) = true := fun h => by simp; omega
  obtain ⟨ho, ha, hb⟩ := h
  unfold taskmillref_Did
  have hcase : c.Op = 1 ∨ c.Op = 2 ∨ c.Op = 3 ∨ c.Op = 4 ∨ c.Op = 5 ∨ c.Op = 6 ∨ c.Op = 7 ∨ 7 < c.Op := by omega
  rcases hcase with e | e | e | e | e | e | e | e
  ·rw [e] at ha hb ⊢
   simp only [show ((1 : Int) == 1) = true from rfl, cond_true, ra (arg_r ha)]; exact hj _
  ·rw [e] at ha hb ⊢
   simp only [show ((2 : Int) == 1) = false from rfl, show ((2 : Int) == 2) = true from rfl, cond_true, cond_false, ra (arg_r ha), ra (arg_r hb)]; exact hj _
  ·rw [e] at ha hb ⊢
   simp only [show ((3 : Int) == 1) = false from rfl, show ((3 : Int) == 2) = false from rfl, show ((3 : Int) == 3) = true from rfl, cond_true, cond_false, ra (arg_r ha), ra (arg_r hb)]; exact hj _
  ·rw [e] at ha hb ⊢
   simp only [show ((4 : Int) == 1) = false from rfl, show ((4 : Int) == 2) = false from rfl, show ((4 : Int) == 3) = false from rfl, show ((4 : Int) == 4) = true from rfl, cond_true, cond_false, ra (arg_r ha), ra (arg_r hb)]; exact hj _
  ·rw [e] at ha hb ⊢
   simp only [show ((5 : Int) == 1) = false from rfl, show ((5 : Int) == 2) = false from rfl, show ((5 : Int) == 3) = false from rfl, show ((5 : Int) == 4) = false from rfl, show ((5 : Int) == 5) = true from rfl, cond_true, cond_false, ra (arg_r ha), ra (arg_r hb)]
   cases decide (r.get c.A < r.get c.B) <;> exact hj _
  ·rw [e] at ha hb ⊢
   have := arg_c ha
   exact ⟨_, rfl, this.1, by show c.A ≤ _; omega⟩
  ·rw [e] at ha hb ⊢
   have := arg_c hb
   simp only [show ((7 : Int) == 1) = false from rfl, show ((7 : Int) == 2) = false from rfl, show ((7 : Int) == 3) = false from rfl, show ((7 : Int) == 4) = false from rfl, show ((7 : Int) == 5) = false from rfl, show ((7 : Int) == 6) = false from rfl, show ((7 : Int) == 7) = true from rfl, cond_true, cond_false, ra (arg_r ha)]
   cases (r.get c.A == 0) with
   | true => exact ⟨_, rfl, this.1, by show c.B ≤ _; omega⟩
   | false => exact hj _
  ·have f : ∀ n : Int, n ≤ 7 → (c.Op == n) = false := fun n hn => by simp; omega
   simp only [f 1 (by omega), f 2 (by omega), f 3 (by omega), f 4 (by omega), f 5 (by omega), f 6 (by omega), f 7 (by omega), cond_false]
   exact hj _
 obtain ⟨x, hx, h2, h3⟩ := key
 have : did c pc r = x := by unfold did; rw [hx]; rfl
 rw [this]
 exact ⟨hx, h2, h3⟩
end
end Go.Proofs.YtdckaaiidagodaaDoor
end

section
namespace Go.Proofs.YtdckaaiidagodaaDoor
open Go Go.Sx
set_option linter.unusedVariables false
set_option linter.unusedSimpArgs false
noncomputable section
def runN (p : GProgram) : Nat → Int → Int → VArr 8 → Int × VArr 8 × Int
 | 0, pc, n, r => (pc, r, n)
 | k + 1, pc, n, r => if pc < ((p.Code.length : Nat) : Int) ∧ (ix p.Code pc).Op ≤ 7 then runN p k (did (ix p.Code pc) pc r).1 (n + 1) (did (ix p.Code pc) pc r).2 else (pc, r, n)
theorem runN_ok {p : GProgram} (h : Ok p) : ∀ (k : Nat) (pc n : Int) (r : VArr 8), 0 ≤ pc → pc ≤ ((p.Code.length : Nat) : Int) →
  0 ≤ (runN p k pc n r).1 ∧ (runN p k pc n r).1 ≤ ((p.Code.length : Nat) : Int) ∧ n ≤ (runN p k pc n r).2.2 ∧ (runN p k pc n r).2.2 ≤ n + k ∧
   ((runN p k pc n r).2.2 = n + k ∨ (runN p k pc n r).1 = ((p.Code.length : Nat) : Int) ∨ ((runN p k pc n r).1 < ((p.Code.length : Nat) : Int) ∧ 7 < (ix p.Code (runN p k pc n r).1).Op))
 | 0, pc, n, r, h0, h1 => ⟨h0, h1, Int.le_refl _, by show n ≤ n + ((0 : Nat) : Int); omega, .inl (by show n = n + ((0 : Nat) : Int); omega)⟩
 | k + 1, pc, n, r, h0, h1 => by
  simp only [runN]
  split
  ·rename_i hc
   obtain ⟨_, d1, d2⟩ := did_ok h.len (h.at h0 hc.1) h0 hc.1 r
   obtain ⟨a, b, c, d, e⟩ := runN_ok h k _ (n + 1) (did (ix p.Code pc) pc r).2 d1 d2
   refine ⟨a, b, by omega, by push_cast; omega, ?_⟩
   rcases e with e | e | e
   ·exact .inl (by push_cast; omega)
   ·exact .inr (.inl e)
   ·exact .inr (.inr e)
  ·rename_i hc
   refine ⟨h0, h1, Int.le_refl _, by push_cast; omega, .inr ?_⟩
   by_cases hl : pc = ((p.Code.length : Nat) : Int)
   ·exact .inl hl
   ·refine .inr ⟨by show pc < _; omega, ?_⟩
    show 7 < (ix p.Code pc).Op
    by_cases h7 : (ix p.Code pc).Op ≤ 7
    ·exact absurd ⟨by omega, h7⟩ hc
    ·omega
theorem runN_shift (p : GProgram) : ∀ (k : Nat) (pc n d : Int) (r : VArr 8), runN p k pc (n + d) r = ((runN p k pc n r).1, (runN p k pc n r).2.1, (runN p k pc n r).2.2 + d)
 | 0, pc, n, d, r => rfl
 | k + 1, pc, n, d, r => by
  simp only [runN]
  split
  ·rw [show n + d + 1 = n + 1 + d by omega]; exact runN_shift p k _ _ _ _
  ·rfl
theorem runN_add (p : GProgram) : ∀ (j k : Nat) (pc n : Int) (r : VArr 8), runN p (j + k) pc n r = runN p k (runN p j pc n r).1 (runN p j pc n r).2.2 (runN p j pc n r).2.1
 | 0, k, pc, n, r => by rw [Nat.zero_add]; rfl
 | j + 1, k, pc, n, r => by
  rw [show j + 1 + k = (j + k) + 1 by omega]
  simp only [runN]
  split
  ·exact runN_add p j k _ _ _
  ·rename_i hc
   cases k with
   | zero => rfl
   | succ k => simp only [runN]; rw [if_neg hc]
theorem run_step {p : GProgram} (h : Ok p) {fuel pc n : Int} (r : VArr 8) (h0 : 0 ≤ pc) (h1 : pc ≤ ((p.Code.length : Nat) : Int)) (hn : 0 ≤ n) (hf : fuel ≤ 5000) :
  code_Run_l1 p fuel (pc, n, r) = if n < fuel ∧ pc < ((p.Code.length : Nat) : Int) ∧ (ix p.Code pc).Op ≤ 7 then some (.inl ((did (ix p.Code pc) pc r).1, n + 1, (did (ix p.Code pc) pc r).2)) else some (.inr (pc, r, n, ⟨0, 0⟩)) := by
 unfold code_Run_l1
 simp only
 by_cases hn1 : n < fuel
 ·rw [decide_eq_true hn1, cond_true]
  by_cases hl : pc < ((p.Code.length : Nat) : Int)
  ·have hi : (decide ((0 : Int) ≤ pc) && decide (pc < ((p.Code.length : Nat) : Int))) = true := by simp; omega
   have hk := h.at h0 hl
   rw [hi, decide_eq_true hl, cond_true]
   simp only [cond_true, code_Local, Option.bind_some]
   rw [decide_eq_true hk.op.1, Bool.true_and]
   unfold code_Run_j1
   by_cases h7 : (ix p.Code pc).Op ≤ 7
   ·rw [if_pos ⟨hn1, hl, h7⟩, decide_eq_true h7, cond_true, hi, cond_true, do_eq, (did_ok h.len hk h0 hl r).1, Option.bind_some, wrap_id (by omega) (by omega)]
   ·rw [if_neg (fun hh => h7 hh.2.2), decide_eq_false h7, cond_false]; rfl
  ·rw [decide_eq_false hl, cond_false, if_neg (fun hh => hl hh.2.1)]; rfl
 ·rw [decide_eq_false hn1, cond_false, if_neg (fun hh => hn1 hh.1)]; rfl
theorem run_loop {p : GProgram} (h : Ok p) {fuel : Int} (hf : fuel ≤ 5000) : ∀ (k : Nat) (pc n : Int) (r : VArr 8), 0 ≤ pc → pc ≤ ((p.Code.length : Nat) : Int) → 0 ≤ n → n + k = fuel →
  loopO (code_Run_l1 p fuel) (pc, n, r) = some ((runN p k pc n r).1, (runN p k pc n r).2.1, (runN p k pc n r).2.2, ⟨0, 0⟩)
 | 0, pc, n, r, h0, h1, hn, hk => loopO_inr (by rw [run_step h r h0 h1 hn hf, if_neg (by omega)]; rfl)
 | k + 1, pc, n, r, h0, h1, hn, hk => by
  have hs := run_step (fuel := fuel) h r h0 h1 hn hf
  by_cases hc : pc < ((p.Code.length : Nat) : Int) ∧ (ix p.Code pc).Op ≤ 7
  ·rw [if_pos ⟨by omega, hc⟩] at hs
   obtain ⟨_, d1, d2⟩ := did_ok h.len (h.at h0 hc.1) h0 hc.1 r
   rw [loopO_inl hs, run_loop h hf k _ _ _ d1 d2 (by omega) (by omega)]
   simp only [runN]; rw [if_pos hc]
  ·rw [if_neg (fun hh => hc hh.2)] at hs
   rw [loopO_inr hs]
   simp only [runN]; rw [if_neg hc]
def runF (p : GProgram) (pc : Int) (r : VArr 8) (fuel : Int) : Int × VArr 8 × Int × Fault :=
 if (progF p).Code ≠ 0 then (0, default, 0, progF p)
 else if pc < 0 ∨ ((p.Code.length : Nat) : Int) < pc ∨ fuel < 0 ∨ 5000 < fuel then (0, default, 0, ⟨3, -1⟩)
 else ((runN p fuel.toNat pc 0 r).1, (runN p fuel.toNat pc 0 r).2.1, (runN p fuel.toNat pc 0 r).2.2, ⟨0, 0⟩)
theorem run_eq (p : GProgram) (pc : Int) (r : VArr 8) (fuel : Int) : code_Run p pc r fuel = some (runF p pc r fuel) := by
 unfold code_Run runF
 rw [chk_eq, Option.bind_some]
 by_cases hc : (progF p).Code ≠ 0
 ·rw [if_pos hc]
  have : ((progF p).Code != 0) = true := by simpa using hc
  rw [this]; rfl
 ·rw [if_neg hc]
  have : ((progF p).Code != 0) = false := by simpa using hc
  rw [this, cond_false]
  have ok := ok_of (p := p) (by omega)
  by_cases hb : pc < 0 ∨ ((p.Code.length : Nat) : Int) < pc ∨ fuel < 0 ∨ 5000 < fuel
  ·have : ((decide (pc < 0)) || ((decide (((p.Code.length : Nat) : Int) < pc)) || ((decide (fuel < 0)) || (decide ((5000 : Int) < fuel))))) = true := by simpa using hb
   rw [this, if_pos hb]; rfl
  ·have : ((decide (pc < 0)) || ((decide (((p.Code.length : Nat) : Int) < pc)) || ((decide (fuel < 0)) || (decide ((5000 : Int) < fuel))))) = false := by simpa using hb
   rw [this, if_neg hb, cond_false]
   exact run_loop ok (by omega) fuel.toNat pc 0 r (by omega) (by omega) (by omega) (by omega)
theorem vast_eq (p : GProgram) : taskmilllaw_vastProgram p = some (decide (2000 < p.Code.length) || decide (2000 < p.Pipes.length)) := by
 unfold taskmilllaw_vastProgram
 congr 2
 ·exact decide_eq_decide.2 (by omega)
 ·exact decide_eq_decide.2 (by omega)
theorem halves_law (p : GProgram) (pc : Int) (regs : VArr 8) (m n : Int) : taskmilllaw_CodeHalves p pc regs m n = some true := by
 unfold taskmilllaw_CodeHalves
 rw [vast_eq]
 simp only [taskmilllaw_codeBegun, Option.bind_some, Bool.not_true, cond_false]
 have jt : taskmilllaw_CodeHalves_j1 p pc regs m n true = some true := rfl
 have key : 0 ≤ m → 0 ≤ n → m ≤ 2000 → n ≤ 2000 → taskmilllaw_CodeHalves_j1 p pc regs m n false = some true := by
  intro hm hn hm2 hn2
  unfold taskmilllaw_CodeHalves_j1
  rw [cond_false, run_eq, Option.bind_some]
  have hw : IntKind.i64.wrap (m + n) = m + n := wrap_id (by omega) (by omega)
  rw [hw]
  by_cases hc : (runF p pc regs m).2.2.2.Code ≠ 0
  ·have : ((runF p pc regs m).2.2.2.Code != 0) = true := by simpa using hc
   rw [this]; rfl
  ·have : ((runF p pc regs m).2.2.2.Code != 0) = false := by simpa using hc
   rw [this, cond_false, run_eq, run_eq]
   simp only [Option.bind_some]
   have h1 : ¬ (progF p).Code ≠ 0 := by
    intro h; apply hc; unfold runF; rw [if_pos h]; exact h
   have h2 : ¬ (pc < 0 ∨ ((p.Code.length : Nat) : Int) < pc ∨ m < 0 ∨ 5000 < m) := by
    intro h; apply hc; unfold runF; rw [if_neg h1, if_pos h]; simp
   have ok := ok_of (p := p) (by omega)
   have e1 : runF p pc regs m = ((runN p m.toNat pc 0 regs).1, (runN p m.toNat pc 0 regs).2.1, (runN p m.toNat pc 0 regs).2.2, ⟨0, 0⟩) := by unfold runF; rw [if_neg h1, if_neg h2]
   obtain ⟨a1, a2, a3, a4, a5⟩ := runN_ok ok m.toNat pc 0 regs (by omega) (by omega)
   have e2 : runF p pc regs (m + n) = ((runN p (m + n).toNat pc 0 regs).1, (runN p (m + n).toNat pc 0 regs).2.1, (runN p (m + n).toNat pc 0 regs).2.2, ⟨0, 0⟩) := by unfold runF; rw [if_neg h1, if_neg (by omega)]
   rw [e1, e2]
   generalize hA : runN p m.toNat pc 0 regs = A at *
   have e3 : runF p A.1 A.2.1 n = ((runN p n.toNat A.1 0 A.2.1).1, (runN p n.toNat A.1 0 A.2.1).2.1, (runN p n.toNat A.1 0 A.2.1).2.2, ⟨0, 0⟩) := by unfold runF; rw [if_neg h1, if_neg (by omega)]
   simp only [e3]
   have hT : (m + n).toNat = m.toNat + n.toNat := by omega
   have hadd := runN_add p m.toNat n.toNat pc 0 regs
   rw [hA] at hadd
   have hsh := runN_shift p n.toNat A.1 0 A.2.2 A.2.1
   rw [Int.zero_add] at hsh
   rw [hsh] at hadd
   obtain ⟨b1, b2, b3, b4, b5⟩ := runN_ok ok n.toNat A.1 0 A.2.1 (by omega) (by omega)
   obtain ⟨c1, c2, c3, c4, c5⟩ := runN_ok ok (m.toNat + n.toNat) pc 0 regs (by omega) (by omega)
   rw [hT, hadd]
   rw [hadd] at c1 c2 c3 c4 c5
   generalize runN p n.toNat A.1 0 A.2.1 = B at *
   simp only at c1 c2 c3 c4 c5 ⊢
   have hB : IntKind.i64.wrap (A.2.2 + B.2.2) = B.2.2 + A.2.2 := by rw [wrap_id (by omega) (by omega)]; omega
   rw [hB]
   simp only [bne_self_eq_false, beq_self_eq_true, Bool.and_self, Bool.not_true, Bool.false_or, show ((0 : Int) != 0) = false from rfl, decide_eq_false (show ¬ m < A.2.2 by omega), decide_eq_false (show ¬ m + n < B.2.2 + A.2.2 by omega), cond_false]
   rcases c5 with c5 | c5 | c5
   ·rw [show (B.2.2 + A.2.2 == m + n) = true from by simp; push_cast at c5; omega]
    simp
   ·rw [show (B.1 == ((p.Code.length : Nat) : Int)) = true from by simpa using c5]
    simp
   ·rw [decide_eq_true c1, decide_eq_true c5.1, decide_eq_true c5.2]
    simp
 cases hv : (decide (2000 < p.Code.length) || decide (2000 < p.Pipes.length)) with
 | true => exact jt
 | false =>
  rw [cond_false]
  by_cases h1 : m < 0
  ·rw [decide_eq_true h1]; exact jt
  ·rw [decide_eq_false h1, cond_false]
   by_cases h2 : n < 0
   ·rw [decide_eq_true h2]; exact jt
   ·rw [decide_eq_false h2, cond_false]
    by_cases h3 : 2000 < m
    ·rw [decide_eq_true h3]; exact jt
    ·rw [decide_eq_false h3, cond_false]
     by_cases h4 : 2000 < n
     ·rw [decide_eq_true h4]; exact jt
     ·rw [decide_eq_false h4]; exact key (by omega) (by omega) (by omega) (by omega)
end
end Go.Proofs.YtdckaaiidagodaaDoor
end
