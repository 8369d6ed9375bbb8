/-
  Sx, part M: every operation.
-/
import Derived.Test.YtnnpjaoddniifaaSxL
set_option linter.unusedSimpArgs false
set_option linter.unusedVariables false
namespace Go.Sx
set_option linter.unusedVariables false
open Go.RowKit
variable {X : Cx} {hp : Hp} {nx : Nat} {ids : Ids} {w : World}

/-- s[:0:0]: a slice of nothing, with no room. -/
def slice0S (P : Program) (t : TypeId) (x : SV) (hi mx : SV) (nx : Nat) (hp : Hp) : Res :=
  match sliceT P t, hi, mx with
  | some (e, _), .v (.int _ h), .v (.int _ m) => match x with
    | .own k _ _ => liveS (getH hp k) (.ok (h = 0 ∧ m = 0) ⟨.own nx 0 0, [(nx, .row e [])], nx + 1, [k]⟩)
    | .sl _ _ => .ok (h = 0 ∧ m = 0) ⟨.own nx 0 0, [(nx, .row e [])], nx + 1, []⟩
    | .v (.slice none 0 0) => .ok (h = 0 ∧ m = 0) ⟨.own nx 0 0, [(nx, .row e [])], nx + 1, []⟩
    | _ => .bad
  | _, _, _ => .bad

theorem run_slice0 {P : Program} {t e : TypeId} {i : TypeInfo} (hu : P.underlying t = some (.slice e)) (hi : P.info? e = some i) (a : Option Addr) (len cap : Nat) (k k' : IntKind) (w : World) :
    ∃ a', (Instr.sliceAt t (.slice a len cap) none (some (.int k 0)) (some (.int k' 0))).run P w = .ok (.slice a' 0 0) w := by
  refine ⟨a, ?_⟩
  have h1 : (Instr.sliceBounds true len cap none (some (.int k 0)) (some (.int k' 0))).run P w = .ok (0, 0, 0) w := by
    simp [Instr.sliceBounds, Instr.sliceBound, asIntOf]
  simp [Instr.sliceAt, Instr.slice, run_underlying hu, h1, sizeOf, typeInfo, hi]

theorem den_slice {P : Program} {C : Nat → Chunk} {I : Nat → Prop} {y : Value} {k off n} (h : Den P C ids I w (.own k off n) y) : ∃ a n' cap, y = .slice a n' cap := by
  cases h with
  | ownDead h => exact ⟨_, _, _, rfl⟩
  | own a cap _ _ => exact ⟨_, _, _, rfl⟩

theorem sound_slice0 (h : HeapX X hp nx ids w) {t : TypeId} {s q r : SV} {x y z : Value} (hd : DenX X hp ids w s x) (hq : DenX X hp ids w q y) (hr : DenX X hp ids w r z) {side : Prop} {e : Eff} (he : slice0S X.P t s q r nx hp = .ok side e) (hs : side) :
    Sound X hp ids w ((Instr.sliceAt t x none (some y) (some z)).run X.P w) e := by
  unfold slice0S at he
  split at he
  · rename_i e' n' k1 hh k2 m hst
    obtain ⟨i, hu, hi, _⟩ := sliceT_some hst
    obtain rfl := den_v hq
    obtain rfl := den_v hr
    have fin : ∀ a len cap rds, x = .slice a len cap → hh = 0 ∧ m = 0 → Sound X hp ids w ((Instr.sliceAt t x none (some (.int k1 hh)) (some (.int k2 m))).run X.P w) ⟨.own nx 0 0, [(nx, .row e' [])], nx + 1, rds⟩ := by
      rintro a len cap rds rfl ⟨rfl, rfl⟩
      obtain ⟨a', hrun⟩ := run_slice0 hu hi a len cap k1 k2 w
      obtain ⟨r1, r2⟩ := heap_reid h none
      obtain ⟨g1, g2⟩ := heap_absent r1 e' (upd_same _ _ _)
      refine ⟨_, _, _, hrun, g1, Ext_trans' r2 g2, .own a' 0 ?_ ⟨Nat.le_refl _, by unfold maxLen; omega, fun e2 cs2 hc2 => ?_, .inl ⟨rfl, rfl⟩⟩⟩
      · rw [List.singleton_append, getH_upd, upd_same]; rfl
      · rw [List.singleton_append, getH_upd, upd_same] at hc2
        cases hc2; exact Nat.zero_le _
    split at he
    · obtain ⟨_, hf⟩ := liveS_ok he
      cases hf
      obtain ⟨a, n1, cap, rfl⟩ := den_slice hd
      exact fin _ _ _ _ rfl hs
    · cases he
      obtain ⟨a, cap, rfl, _⟩ := den_sl hd
      exact fin _ _ _ _ rfl hs
    · cases he
      obtain rfl := den_v hd
      exact fin _ _ _ _ rfl hs
    · cases he
  · cases he

/-- Leaves of symbolic cells that are plain values. -/
def eqS : List SV → List SV → Option Bool
  | [], [] => some true
  | .v a :: xs, .v b :: ys => match a, b with
    | .int k x, .int k' y => bif k == k' then (eqS xs ys).map fun r => (x == y) && r else none
    | .bool x, .bool y => (eqS xs ys).map fun r => (x == y) && r
    | .string x, .string y => (eqS xs ys).map fun r => decide (x = y) && r
    | _, _ => none
  | _, _ => none
def leafS : List TypeDesc → List SV → Bool
  | [], [] => true
  | d :: ds, .v x :: xs => leafV d x && leafS ds xs
  | _, _ => false

theorem eqS_ok {P : Program} {C : Nat → Chunk} {I : Nat → Prop} : ∀ (xs ys : List SV) (r : Bool) (A B : Array Value) (off : Nat), eqS xs ys = some r → (∀ i x, xs[i]? = some x → Den P C ids I w x (A.getD (off + i) undef)) → (∀ i x, ys[i]? = some x → Den P C ids I w x (B.getD (off + i) undef)) →
    eqR A B off xs.length = r
  | [], [], r, A, B, off, h, _, _ => by cases h; rfl
  | [], _ :: _, r, A, B, off, h, _, _ => by cases h
  | .any :: _, _, r, A, B, off, h, _, _ => by simp [eqS] at h
  | .agg _ :: _, _, r, A, B, off, h, _, _ => by simp [eqS] at h
  | .tup _ :: _, _, r, A, B, off, h, _, _ => by simp [eqS] at h
  | .sl _ _ :: _, _, r, A, B, off, h, _, _ => by simp [eqS] at h
  | .own _ _ _ :: _, _, r, A, B, off, h, _, _ => by simp [eqS] at h
  | .ptr _ _ :: _, _, r, A, B, off, h, _, _ => by simp [eqS] at h
  | .iptr _ _ :: _, _, r, A, B, off, h, _, _ => by simp [eqS] at h
  | .mp _ :: _, _, r, A, B, off, h, _, _ => by simp [eqS] at h
  | .it _ :: _, _, r, A, B, off, h, _, _ => by simp [eqS] at h
  | .clo _ _ :: _, _, r, A, B, off, h, _, _ => by simp [eqS] at h
  | .gd _ _ :: _, _, r, A, B, off, h, _, _ => by simp [eqS] at h
  | .v a :: xs, ys, r, A, B, off, h, hx, hy => by
    cases ys with
    | nil => simp [eqS] at h
    | cons y ys =>
      cases y <;> try (simp [eqS] at h; done)
      rename_i b
      have ha := den_v (hx 0 _ rfl)
      have hb := den_v (hy 0 _ rfl)
      simp only [Nat.add_zero] at ha hb
      have ih := fun r' h' => eqS_ok xs ys r' A B (off + 1) h' (fun i x hi => by have := hx (i + 1) x (by simpa using hi); rwa [show off + (i + 1) = off + 1 + i from by omega] at this) (fun i x hi => by have := hy (i + 1) x (by simpa using hi); rwa [show off + (i + 1) = off + 1 + i from by omega] at this)
      rw [List.length_cons, Nat.add_comm, eqR_add, eqR_one, ha, hb]
      cases a <;> cases b <;> try (simp [eqS] at h; done)
      · simp only [eqS] at h
        cases hr : eqS xs ys with
        | none => rw [hr] at h; cases h
        | some r' => rw [hr] at h; cases h; rw [ih r' hr]; rfl
      · rename_i k x k' y
        simp only [eqS] at h
        cases hk : (k == k') with
        | false => rw [hk] at h; cases h
        | true =>
          rw [hk] at h
          cases hr : eqS xs ys with
          | none => rw [hr] at h; cases h
          | some r' => rw [hr] at h; cases h; rw [ih r' hr]; rfl
      · simp only [eqS] at h
        cases hr : eqS xs ys with
        | none => rw [hr] at h; cases h
        | some r' => rw [hr] at h; cases h; rw [ih r' hr]; rfl

theorem leafS_ok {P : Program} {C : Nat → Chunk} {I : Nat → Prop} : ∀ (ds : List TypeDesc) (xs : List SV) (A : Array Value) (off : Nat), leafS ds xs = true → (∀ i x, xs[i]? = some x → Den P C ids I w x (A.getD (off + i) undef)) →
    ds.length = xs.length ∧ ∀ j d, ds[j]? = some d → leafV d (A.getD (off + j) undef) = true
  | [], [], A, off, _, _ => ⟨rfl, fun j d h => by simp at h⟩
  | [], _ :: _, A, off, h, _ => by cases h
  | d :: ds, [], A, off, h, _ => by cases h
  | d :: ds, x :: xs, A, off, h, hx => by
    cases x <;> try (simp [leafS] at h; done)
    rename_i x
    simp only [leafS, Bool.and_eq_true] at h
    obtain ⟨h1, h2⟩ := h
    obtain ⟨g1, g2⟩ := leafS_ok ds xs A (off + 1) h2 (fun i x hi => by have := hx (i + 1) x (by simpa using hi); rwa [show off + (i + 1) = off + 1 + i from by omega] at this)
    refine ⟨by simp [g1], fun j d' hj => ?_⟩
    cases j with
    | zero =>
      simp at hj; subst hj
      have := den_v (hx 0 _ rfl)
      rw [this]; exact h1
    | succ j =>
      have := g2 j d' (by simpa using hj)
      rwa [show off + (j + 1) = off + 1 + j from by omega]

def strS (op : BinOp) (a b : ByteArray) (nx : Nat) : Res :=
  match op with
  | .add => .ok (a.size + b.size ≤ 9223372036854775807) ⟨.v (.string (a ++ b)), [], nx, []⟩
  | .eql => pureR (.v (.bool (decide (a = b)))) nx
  | .neq => pureR (.v (.bool (!decide (a = b)))) nx
  | .lss => pureR (.v (.bool (Op.bytesLess a.toList b.toList))) nx
  | .leq => pureR (.v (.bool (Op.bytesLess a.toList b.toList || decide (a = b)))) nx
  | .gtr => pureR (.v (.bool (!(Op.bytesLess a.toList b.toList || decide (a = b))))) nx
  | .geq => pureR (.v (.bool (!Op.bytesLess a.toList b.toList))) nx
  | _ => .bad

theorem toList_beq (a b : ByteArray) : (a.toList == b.toList) = decide (a = b) := by
  rw [← beq_toListBytes, Bool.eq_iff_iff, decide_eq_true_eq]
  exact ⟨fun h => ba_eq h, fun h => h ▸ ba_self a⟩

theorem sound_str (h : HeapX X hp nx ids w) {op : BinOp} {a b : ByteArray} {side : Prop} {e : Eff} (he : strS op a b nx = .ok side e) (hs : side) (t : TypeId) : Sound X hp ids w ((binOp op t (.string a) (.string b)).run X.P w) e := by
  have hadd : a.size + b.size ≤ 9223372036854775807 → (Op.stringOp .add a b).run X.P w = .ok (.string (a ++ b)) w := fun hle => by
    have : ¬ (((a.size + b.size : Nat) : Int) > IntKind.i64.max) := by
      have : IntKind.i64.max = 9223372036854775807 := by decide
      omega
    simp only [Op.stringOp, this, if_false]; rfl
  cases op <;> simp only [strS, pureR] at he <;> cases he <;> refine sound_pure h ?_ .v
  case add => simpa [binOp] using hadd hs
  all_goals simp [binOp, Op.stringOp, toList_beq]

def flatN : Nat := 12
def aggEqS (P : Program) (neg : Bool) (t : TypeId) (xs ys : List SV) (nx : Nat) : Res :=
  match flatT P flatN t, szT P t, eqS xs ys with
  | some l, some n, some r => bif (n == l.length && (xs.length == n && ys.length == n)) && (leafS l xs && leafS l ys) then pureR (.v (.bool (bif neg then !r else r))) nx else .bad
  | _, _, _ => .bad

theorem sound_aggEq (h : HeapX X hp nx ids w) {neg : Bool} {t : TypeId} {xs ys : List SV} {A B : Array Value} (hx : DenX X hp ids w (.agg xs) (.agg A)) (hy : DenX X hp ids w (.agg ys) (.agg B)) {side : Prop} {e : Eff} (he : aggEqS X.P neg t xs ys nx = .ok side e)
    (hrow : aggT X.P t = some true) : Sound X hp ids w ((binOp (if neg then .neq else .eql) t (.agg A) (.agg B)).run X.P w) e := by
  unfold aggEqS at he
  split at he
  · rename_i l n r hl hn hr
    cases hb : ((n == l.length && (xs.length == n && ys.length == n)) && (leafS l xs && leafS l ys)) with
    | false => rw [hb] at he; cases he
    | true =>
      rw [hb] at he; cases he
      simp only [Bool.and_eq_true, beq_iff_eq] at hb
      obtain ⟨⟨rfl, h1, h2⟩, h3, h4⟩ := hb
      obtain ⟨A', hA, hal, had⟩ := den_agg hx
      cases hA
      obtain ⟨B', hB, hbl, hbd⟩ := den_agg hy
      cases hB
      have had' : ∀ i x, xs[i]? = some x → DenX X hp ids w x (A.getD (0 + i) undef) := fun i x hi => by rw [Nat.zero_add]; exact had i x hi
      have hbd' : ∀ i x, ys[i]? = some x → DenX X hp ids w x (B.getD (0 + i) undef) := fun i x hi => by rw [Nat.zero_add]; exact hbd i x hi
      obtain ⟨_, la⟩ := leafS_ok l xs A 0 h3 had'
      obtain ⟨_, lb⟩ := leafS_ok l ys B 0 h4 hbd'
      have hE := eq_flat (P := X.P) flatN t l 10000 (by unfold flatN; omega) hl hn A B 0 w ⟨by omega, la⟩ ⟨by omega, lb⟩
      obtain ⟨a, b, ha, hb2, he2⟩ := hE
      have hd : ∃ d, X.P.underlying t = some d ∧ d.isRow = true := by
        unfold aggT at hrow
        cases hu : X.P.underlying t with
        | none => rw [hu] at hrow; cases hrow
        | some d => rw [hu] at hrow; exact ⟨d, rfl, by cases d <;> first | rfl | exact absurd hrow (by simp)⟩
      obtain ⟨d, hu, hdr⟩ := hd
      have hpa := part_agg hu hdr hn A 0 w
      have hpb := part_agg hu hdr hn B 0 w
      rw [hpa] at ha; rw [hpb] at hb2
      cases ha; cases hb2
      have eA : A.extract 0 (0 + l.length) = A := by rw [Nat.zero_add, ← h1, hal]; simp
      have eB : B.extract 0 (0 + l.length) = B := by rw [Nat.zero_add, ← h2, hbl]; simp
      rw [eA, eB, ← h1, eqS_ok xs ys r A B 0 hr had' hbd'] at he2
      cases neg with
      | false => exact sound_pure h (by simp only [Bool.false_eq_true, if_false]; rw [run_eql_struct, he2]; rfl) .v
      | true => exact sound_pure h (by simp only [if_true]; rw [run_neq_struct, he2]; rfl) .v
  · cases he

end Go.Sx
