/-
 Lemmas, put together: HV, HW, HU, IA, HR, HT, IB, IC, ID, IE.
 No conditions.
-/
import Derived.Test.YtelegonboeacaaaraceA3
import Derived.Shelf.Sort.Plain
import Derived.Shelf.Slices.In.SortNone
import Derived.Shelf.SlSortCmp.NoneTotal
import Derived.Shelf.SlicesG.Cmp
import Derived.Shelf.SlSortCmp.Whole1
set_option linter.unusedSimpArgs false
set_option linter.unusedVariables false
section
namespace Go.Sx
open Go.RowKit
set_option linter.unusedVariables false
set_option linter.unusedSimpArgs false
variable {P : Program} {hp hin : Hp} {nx : Nat}
mutual
def wkV (τ : Nm → Option Nm) : SV → SV
 | .any => .any
 | .v x => .v x
 | .agg xs => .agg (wkL τ xs)
 | .tup xs => .tup (wkL τ xs)
 | .sl n xs => bif clL xs then .sl n xs else .any
 | .own k o n => match τ k with
  | some j => .own j o n
  | none => .any
 | .ptr k o => match τ k with
  | some j => .ptr j o
  | none => .any
 | .iptr xs o => bif clL xs then .iptr xs o else .any
 | .mp k => match τ k with
  | some j => .mp j
  | none => .any
 | .it k => match τ k with
  | some j => .it j
  | none => .any
 | .clo f xs => .clo f (wkL τ xs)
 | .ifc t x => .ifc t (wkV τ x)
 | .mth t x => .mth t (wkV τ x)
 | .asl _ _ _ => .any
 | .gd g x => bif x.cl then .gd g x else .any
def wkL (τ : Nm → Option Nm) : List SV → List SV
 | [] => []
 | x :: xs => wkV τ x :: wkL τ xs
end
def wkM (τ : Nm → Option Nm) : List (Value × SV) → List (Value × SV)
 | [] => []
 | p :: r => (p.1, wkV τ p.2) :: wkM τ r
def wkC (τ : Nm → Option Nm) : Chunk → Chunk
 | .row e cs => .row e (wkL τ cs)
 | .map es => .map (wkM τ es)
 | .obj s p => .obj s p
 | _ => .dead
theorem wkC_live {τ : Nm → Option Nm} {c : Chunk} (h : c.live = true) : (wkC τ c).live = true := by cases c <;> first | rfl | cases h
def TauOk (τ : Nm → Option Nm) (σ : List (Nm × Nm)) (hin : Hp) : Prop := ∀ k j, τ k = some j → getN σ j = some k ∧ (getH hin j).live = true
mutual
theorem wk_le {τ : Nm → Option Nm} {σ : List (Nm × Nm)} (H : TauOk τ σ hin) : ∀ s : SV, leS hp hin σ [] s (wkV τ s)
 | .any => by simp only [wkV, leS]
 | .v x => by simp only [wkV, leS]
 | .agg xs => by simp only [wkV, leS]; exact .inr (wkL_le H xs)
 | .tup xs => by simp only [wkV, leS]; exact wkL_le H xs
 | .sl n xs => by
  simp only [wkV]
  cases h : clL xs with
  | true => simp only [cond_true, leS]; exact ⟨trivial, trivial, h⟩
  | false => simp only [cond_false, leS]
 | .own k o n => by
  simp only [wkV]
  cases h : τ k with
  | none => simp only [leS]
  | some j => simp only [leS]; exact ⟨(H k j h).1, trivial, trivial, (H k j h).2⟩
 | .ptr k o => by
  simp only [wkV]
  cases h : τ k with
  | none => simp only [leS]
  | some j => simp only [leS]; exact ⟨(H k j h).1, trivial, (H k j h).2⟩
 | .iptr xs o => by
  simp only [wkV]
  cases h : clL xs with
  | true => simp only [cond_true, leS]; exact ⟨trivial, trivial, h⟩
  | false => simp only [cond_false, leS]
 | .mp k => by
  simp only [wkV]
  cases h : τ k with
  | none => simp only [leS]
  | some j => simp only [leS]; exact H k j h
 | .it k => by
  simp only [wkV]
  cases h : τ k with
  | none => simp only [leS]
  | some j => simp only [leS]; exact H k j h
 | .clo f xs => by simp only [wkV, leS]; exact ⟨trivial, wkL_le H xs⟩
 | .ifc t x => by simp only [wkV, leS]; exact ⟨trivial, wk_le H x⟩
 | .mth t x => by simp only [wkV, leS]; exact ⟨trivial, wk_le H x⟩
 | .asl _ _ _ => by simp only [wkV, leS]
 | .gd g x => by
  simp only [wkV]
  cases h : x.cl with
  | true => simp only [cond_true, leS]; exact ⟨trivial, h⟩
  | false => simp only [cond_false, leS]
theorem wkL_le {τ : Nm → Option Nm} {σ : List (Nm × Nm)} (H : TauOk τ σ hin) : ∀ xs : List SV, leL hp hin σ [] xs (wkL τ xs)
 | [] => by simp only [wkL, leL]
 | x :: xs => by simp only [wkL, leL]; exact ⟨wk_le H x, wkL_le H xs⟩
end
mutual
theorem wk_st {τ : Nm → Option Nm} : ∀ s : SV, (wkV τ s).st = true → wkV τ s = s
 | .any, h => rfl
 | .v x, h => rfl
 | .agg xs, h => by simp only [wkV]; rw [wkL_st xs (by simpa only [wkV, SV.st] using h)]
 | .tup xs, h => by simp only [wkV]; rw [wkL_st xs (by simpa only [wkV, SV.st] using h)]
 | .sl n xs, h => by
  simp only [wkV] at h ⊢
  cases hc : clL xs with
  | true => rfl
  | false => rw [hc] at h; cases h
 | .own k o n, h => by
  simp only [wkV] at h ⊢
  cases hc : τ k with
  | none => rw [hc] at h; cases h
  | some j => rw [hc] at h; cases h
 | .ptr k o, h => by
  simp only [wkV] at h ⊢
  cases hc : τ k with
  | none => rw [hc] at h; cases h
  | some j => rw [hc] at h; cases h
 | .iptr xs o, h => by
  simp only [wkV] at h ⊢
  cases hc : clL xs with
  | true => rfl
  | false => rw [hc] at h; cases h
 | .mp k, h => by
  simp only [wkV] at h ⊢
  cases hc : τ k with
  | none => rw [hc] at h; cases h
  | some j => rw [hc] at h; cases h
 | .it k, h => by
  simp only [wkV] at h ⊢
  cases hc : τ k with
  | none => rw [hc] at h; cases h
  | some j => rw [hc] at h; cases h
 | .clo f xs, h => by simp only [wkV]; rw [wkL_st xs (by simpa only [wkV, SV.st] using h)]
 | .asl _ _ _, h => by simp only [wkV, SV.st] at h; cases h
 | .mth t x, h => by simp only [wkV]; rw [wk_st x (by simpa only [wkV, SV.st] using h)]
 | .ifc t x, h => by simp only [wkV]; rw [wk_st x (by simpa only [wkV, SV.st] using h)]
 | .gd g x, h => by
  simp only [wkV] at h ⊢
  cases hc : x.cl with
  | true => rfl
  | false => rw [hc] at h; cases h
theorem wkL_st {τ : Nm → Option Nm} : ∀ xs : List SV, stL (wkL τ xs) = true → wkL τ xs = xs
 | [], _ => rfl
 | x :: xs, h => by
  simp only [wkL, stL, Bool.and_eq_true] at h
  simp only [wkL]; rw [wk_st x h.1, wkL_st xs h.2]
end
theorem wkM_st {τ : Nm → Option Nm} : ∀ es : List (Value × SV), stM (wkM τ es) = true → wkM τ es = es
 | [], _ => rfl
 | p :: r, h => by
  simp only [wkM, stM, Bool.and_eq_true] at h
  simp only [wkM]; rw [wk_st p.2 h.1, wkM_st r h.2]
theorem wkM_le {τ : Nm → Option Nm} {σ : List (Nm × Nm)} (H : TauOk τ σ hin) : ∀ es : List (Value × SV), leM hp hin σ [] es (wkM τ es)
 | [] => by simp only [wkM, leM]
 | p :: r => by simp only [wkM, leM]; exact ⟨trivial, wk_le H p.2, wkM_le H r⟩
theorem wkC_le {τ : Nm → Option Nm} {σ : List (Nm × Nm)} (H : TauOk τ σ hin) {j k : Nm} (hj : getN σ j = some k) : leC1 hp hin σ [] j (wkC τ (getH hp k)) := by
 cases hc : getH hp k with
 | row e cs =>
  simp only [wkC, leC1]; rw [hj]; simp only; rw [hc]
  exact ⟨rfl, .inr (.inl (wkL_le H cs))⟩
 | map es =>
  simp only [wkC, leC1]; rw [hj]; simp only; rw [hc]
  simp only
  cases hs : stM (wkM τ es) with
  | true => simp only [cond_true]; exact (wkM_st es hs).symm
  | false => simp only [cond_false]; exact wkM_le H es
 | obj s p => simp only [wkC, leC1]; rw [hj]; exact hc
 | _ => simp only [wkC, leC1]
mutual
def namesV : SV → List Nm
 | .agg xs => namesVL xs
 | .tup xs => namesVL xs
 | .own k _ _ => [k]
 | .ptr k _ => [k]
 | .mp k => [k]
 | .it k => [k]
 | .clo _ xs => namesVL xs
 | .ifc _ x => namesV x
 | .mth _ x => namesV x
 | .asl k _ _ => [k]
 | _ => []
def namesVL : List SV → List Nm
 | [] => []
 | x :: xs => namesV x ++ namesVL xs
end
def namesM : List (Value × SV) → List Nm
 | [] => []
 | p :: r => namesV p.2 ++ namesM r
def namesCh : Chunk → List Nm
 | .row _ cs => namesVL cs
 | .map es => namesM es
 | _ => []
def closeN (hp : Hp) : Nat → List Nm → List Nm → List Nm
 | 0, _, R => R
 | _ + 1, [], R => R
 | n + 1, k :: todo, R => bif (R.any fun j => j == k) || !(getH hp k).live then closeN hp n todo R else closeN hp n (namesCh (getH hp k) ++ todo) (R ++ [k])
def numN : Nat → List Nm → List (Nm × Nm)
 | _, [] => []
 | b, k :: r => (.t b, k) :: numN (b + 1) r
def selfN : List Nm → List (Nm × Nm)
 | [] => []
 | k :: r => (k, k) :: selfN r
def oldN : List (Nm × Nm) → Nm → Option Nm
 | [], _ => none
 | p :: r, k => bif p.2 == k then some p.1 else oldN r k
def isT : Nm → Bool
 | .t _ => true
 | _ => false
def tauN (pr : List (Nm × Nm)) (hp : Hp) (k : Nm) : Option Nm := match oldN pr k with
 | some j => bif (getH hp k).live && (isT j && getN pr j == some k) then some j else none
 | none => none
def hinN (τ : Nm → Option Nm) (hp : Hp) : List (Nm × Nm) → Hp
 | [] => []
 | p :: r => (p.1, wkC τ (getH hp p.2)) :: hinN τ hp r
def prOk (pr : List (Nm × Nm)) : Bool := pr.all fun p => isT p.1 && getN pr p.1 == some p.2
theorem hin_get (τ : Nm → Option Nm) (hp : Hp) {j k : Nm} (hj : isT j = true) : ∀ {pr : List (Nm × Nm)}, getN pr j = some k → getH (hinN τ hp pr) j = wkC τ (getH hp k)
 | [], h => by cases h
 | p :: r, h => by
  obtain ⟨a, b⟩ := p
  simp only [hinN, getH]
  rw [getN_cons] at h
  cases j with
  | s F i => cases hj
  | t x =>
   cases he : a.eqk (.t x) with
   | true => rw [he] at h; simp only [cond_true, Option.some.injEq, Nm.to] at h; subst h; simp only [cond_true, Chunk.mem]
   | false => rw [he] at h; simp only [cond_false] at h ⊢; exact hin_get τ hp hj h
theorem tau_ok (pr : List (Nm × Nm)) (hp : Hp) : TauOk (tauN pr hp) pr (hinN (tauN pr hp) hp pr) := fun k j h => by
 unfold tauN at h
 split at h
 ·rename_i j' hj'
  rw [Bool.cond_eq_ite] at h
  split at h
  ·rename_i hb
   simp only [Bool.and_eq_true, beq_iff_eq] at hb
   obtain ⟨hl, ht, hn⟩ := hb
   cases h
   refine ⟨hn, ?_⟩
   rw [hin_get _ hp ht hn]; exact wkC_live hl
  ·cases h
 ·cases h
theorem hin_le {τ : Nm → Option Nm} {σ : List (Nm × Nm)} (H : TauOk τ σ hin) : ∀ pr : List (Nm × Nm), (∀ p ∈ pr, isT p.1 = true ∧ getN σ p.1 = some p.2) → leH hp hin σ [] (hinN τ hp pr)
 | [], _ => trivial
 | p :: r, h => by
  refine ⟨?_, hin_le H r fun q hq => h q (by simp [hq])⟩
  obtain ⟨h1, h2⟩ := h p (by simp)
  have := wkC_le (hp := hp) H h2
  cases hp1 : p.1 with
  | s F i => rw [hp1] at h1; cases h1
  | t a => rw [hp1] at this; exact this
theorem hin_le' {pr : List (Nm × Nm)} {hp : Hp} (h : prOk pr = true) : leH hp (hinN (tauN pr hp) hp pr) pr [] (hinN (tauN pr hp) hp pr) := hin_le (tau_ok pr hp) pr fun p hp => by
 have := List.all_eq_true.1 h p hp
 simpa only [Bool.and_eq_true, beq_iff_eq] using this
def srcC (P : Program) (tx : TypeId) (z : Nat) (y : SV) (hp : Hp) : Option (Nat × List SV × Bool) := match y with
 | .own k off m => match getH hp k with
  | .row _ cs => some (m, appCells cs off (m * z), Nat.ble (off + m * z) cs.length)
  | _ => none
 | .sl m cs => some (m, cs, cs.length == m * z)
 | .v (.slice none 0 0) => some (0, [], true)
 | .v (.string s) => some (s.size, byteS s, z == 1)
 | _ => none
def appC (P : Program) (t tx : TypeId) (x y : SV) (hp : Hp) : Bool := match sliceT P t with
 | some (e, z) => match srcC P tx z y hp with
  | some (m, news, b) => match x with
   | .own k off n => match getH hp k with
    | .row e' cs => b && (e' == e && (news.length == m * z && (news.all oneS && (Nat.ble (off + n * z) cs.length && (Nat.blt 0 (P.bytesOf e) && Nat.ble ((n + m) * P.bytesOf e) 140737488355328)))))
    | _ => false
   | .v (.slice none 0 0) => b && (news.length == m * z && (news.all oneS && (Nat.blt 0 (P.bytesOf e) && Nat.ble (m * P.bytesOf e) 140737488355328)))
   | _ => false
  | none => false
 | none => false
theorem src_side {tx : TypeId} {z : Nat} {y : SV} {f : Nat → List SV → List Nm → Prop → Res} {s : Prop} {e : Eff} (h : srcS P tx z y hp f = .ok s e) {m : Nat} {news : List SV} {b : Bool} (hb : srcC P tx z y hp = some (m, news, b)) :
  ∃ rds s0, f m news rds s0 = .ok s e ∧ (b = true → s0) := by
 unfold srcS at h
 unfold srcC at hb
 split at h
 ·split at h
  ·obtain ⟨t, cs, hk, hf⟩ := rowS_ok h
   simp only [hk, Option.some.injEq, Prod.mk.injEq] at hb
   obtain ⟨rfl, rfl, rfl⟩ := hb
   exact ⟨_, _, hf, fun hb => Nat.le_of_ble_eq_true hb⟩
  ·cases h
 ·split at h
  ·simp only [Option.some.injEq, Prod.mk.injEq] at hb
   obtain ⟨rfl, rfl, rfl⟩ := hb
   exact ⟨_, _, h, fun hb => by simpa using hb⟩
  ·cases h
 ·split at h
  ·simp only [Option.some.injEq, Prod.mk.injEq] at hb
   obtain ⟨rfl, rfl, rfl⟩ := hb
   exact ⟨_, _, h, fun _ => trivial⟩
  ·cases h
 ·split at h
  ·simp only [Option.some.injEq, Prod.mk.injEq] at hb
   obtain ⟨rfl, rfl, rfl⟩ := hb
   exact ⟨_, _, h, fun hb => by simpa using hb⟩
  ·cases h
 ·cases h
theorem app_side {t tx : TypeId} {x y : SV} {s : Prop} {e : Eff} (h : appendS P t tx x y hp nx = .ok s e) (hb : appC P t tx x y hp = true) : s := by
 unfold appendS at h
 unfold appC at hb
 cases ht : sliceT P t with
 | none => rw [ht] at h; cases h
 | some ez =>
  obtain ⟨e1, z⟩ := ez
  rw [ht] at h hb
  simp only at h hb
  cases hs : srcC P tx z y hp with
  | none => rw [hs] at hb; cases hb
  | some q =>
   obtain ⟨m, news, b⟩ := q
   rw [hs] at hb
   simp only at hb
   obtain ⟨rds, s0, hf, h0⟩ := src_side h hs
   split at hf
   ·obtain ⟨t', cs, hk, hf2⟩ := rowS_ok hf
    simp only [hk] at hb
    cases hf2
    simp only [Bool.and_eq_true, beq_iff_eq, Nat.blt_eq] at hb
    obtain ⟨b1, b2, b3, b4, b5, b6, b7⟩ := hb
    exact ⟨h0 b1, b2, b3, b4, Nat.le_of_ble_eq_true b5, b6, Nat.le_of_ble_eq_true b7⟩
   ·cases hf
    simp only [Bool.and_eq_true, beq_iff_eq, Nat.blt_eq] at hb
    obtain ⟨b1, b3, b4, b6, b7⟩ := hb
    exact ⟨h0 b1, b3, b4, b6, Nat.le_of_ble_eq_true b7⟩
   ·cases hf
def sliceC (P : Program) (t : TypeId) (x : SV) (lo hi : Option SV) (hp : Hp) : Bool := match x with
 | .own k off n => match boundS lo 0, boundS hi n, sliceT P t with
  | some l, some h, some (_, z) => match getH hp k with
   | .row e _ => P.cellsOf e == z && (decide (0 ≤ l) && (decide (l ≤ h) && decide (h ≤ n)))
   | _ => false
  | _, _, _ => false
 | .sl n _ => match boundS lo 0, boundS hi n with
  | some l, some h => decide (0 ≤ l) && (decide (l ≤ h) && decide (h ≤ n))
  | _, _ => false
 | .v (.slice none 0 0) => match boundS lo 0, boundS hi 0 with
  | some l, some h => l == 0 && h == 0
  | _, _ => false
 | .v (.string s) => match boundS lo 0, boundS hi s.size with
  | some l, some h => decide (0 ≤ l) && (decide (l ≤ h) && decide (h ≤ s.size))
  | _, _ => false
 | .ptr _ _ => true
 | _ => false
theorem slice_side {t : TypeId} {x : SV} {lo hi : Option SV} {s : Prop} {e : Eff} (h : sliceS P t x lo hi hp nx = .ok s e) (hb : sliceC P t x lo hi hp = true) : s := by
 unfold sliceS at h
 unfold sliceC at hb
 split at h
 ·split at h
  ·rename_i h1 h2 h3
   simp only [h1, h2, h3] at hb
   obtain ⟨t', cs, hk, hf2⟩ := rowS_ok h
   simp only [hk, Bool.and_eq_true, beq_iff_eq, decide_eq_true_eq] at hb
   cases hf2
   exact hb
  ·cases h
 ·split at h
  ·rename_i h1 h2 h3
   simp only [h1, h2, Bool.and_eq_true, decide_eq_true_eq] at hb
   cases h
   exact hb
  ·cases h
 ·split at h
  ·rename_i h1 h2 h3
   simp only [h1, h2, Bool.and_eq_true, beq_iff_eq] at hb
   cases h
   exact hb
  ·cases h
 ·split at h
  ·rename_i h1 h2 h3
   simp only [h1, h2, Bool.and_eq_true, decide_eq_true_eq] at hb
   cases h
   exact hb
  ·cases h
 ·split at h
  ·rw [Bool.cond_eq_ite] at h
   split at h
   ·have := (liveS_ok h).2; cases this; trivial
   ·cases h
  ·cases h
 ·cases h
def mapKC (P : Program) (t : TypeId) (x key : SV) (hp : Hp) : Bool := match x, key, mapT P t with
 | .mp k, .v kv, some (d, _) => match getH hp k with
  | .map es => keyOk d kv && es.all (fun p => keyAlike kv p.1)
  | _ => false
 | .mp k, .agg cs, some _ => match plainA cs, mapA P t with
  | some vs, some (_, l, _) => match getH hp k with
   | .map es => leavesV l vs && es.all (fun p => aggFits l p.1)
   | _ => false
  | _, _ => false
 | _, _, _ => false
theorem look_side {t : TypeId} {x key : SV} {ok : Bool} {s : Prop} {e : Eff} (h : lookupS P t x key ok hp nx = .ok s e) (hb : mapKC P t x key hp = true) : s := by
 unfold lookupS at h
 unfold mapKC at hb
 split at h
 ·rename_i h3
  simp only [h3] at hb
  split at h
  ·obtain ⟨es, hk, hf⟩ := mapC_ok h
   simp only [hk, Bool.and_eq_true] at hb
   cases hf
   exact hb
  ·cases h
 ·rename_i h3
  simp only [h3] at hb
  split at h
  ·rename_i h1 h2
   simp only [h1, h2] at hb
   split at h
   ·obtain ⟨es, hk, hf⟩ := mapC_ok h
    simp only [hk, Bool.and_eq_true] at hb
    cases hf
    exact hb
   ·cases h
  ·cases h
 ·cases h
theorem mupd_side {t : TypeId} {x key v : SV} {s : Prop} {e : Eff} (h : mapUpdS P t x key v hp nx = .ok s e) (hb : mapKC P t x key hp = true) : s := by
 unfold mapUpdS at h
 unfold mapKC at hb
 split at h
 ·rename_i h3
  simp only [h3] at hb
  obtain ⟨es, hk, hf⟩ := mapC_ok h
  simp only [hk, Bool.and_eq_true] at hb
  cases hf
  exact hb
 ·rename_i h3
  simp only [h3] at hb
  split at h
  ·rename_i h1 h2
   simp only [h1, h2] at hb
   obtain ⟨es, hk, hf⟩ := mapC_ok h
   simp only [hk, Bool.and_eq_true] at hb
   cases hf
   exact hb
  ·cases h
 ·cases h
def mkC (P : Program) (t : TypeId) (l c : SV) : Bool := match l, c, sliceT P t with
 | .v (.int _ n), .v (.int _ m), some (e, z) => match zeroT P e with
  | some zs => decide (0 ≤ n) && (decide (n ≤ m) && (decide (m ≤ 4611686018427387904) && (decide ((P.bytesOf e : Int) * m ≤ 140737488355328) && (zs.length == z && Nat.blt 0 z))))
  | none => false
 | _, _, _ => false
theorem mk_side {t : TypeId} {l c : SV} {s : Prop} {e : Eff} (h : makeSliceS P t l c nx = .ok s e) (hb : mkC P t l c = true) : s := by
 unfold makeSliceS at h
 unfold mkC at hb
 split at h
 ·rename_i h3
  simp only [h3] at hb
  split at h
  ·rename_i h4
   simp only [h4, Bool.and_eq_true, decide_eq_true_eq, beq_iff_eq, Nat.blt_eq] at hb
   cases h
   exact hb
  ·cases h
 ·cases h
def convC (P : Program) (s d : TypeId) (x : SV) (hp : Hp) : Bool := match x with
 | .v (.int _ _) => true
 | .v (.string b) => (match P.underlying d with
  | some .string => true
  | _ => Nat.ble (runesOf b).length 70368744177664)
 | x => match srcC P s 1 x hp with
  | some (m, news, b) => b && news.length == m * 1
  | none => false
theorem conv_side {t d : TypeId} {x : SV} {s : Prop} {e : Eff} (h : convS P t d x hp nx = .ok s e) (hb : convC P t d x hp = true) : s := by
 unfold convS at h
 split at h
 ·split at h
  ·exact pureR_s h
  ·cases h
 ·split at h
  ·exact pureR_s h
  ·rename_i hn h1 h2
   split at h
   ·rename_i h3 h4
    cases h
    simp only [convC, h2] at hb
    exact Nat.le_of_ble_eq_true hb
   ·cases h
  ·cases h
 ·rename_i hx1 hx2
  have hc : convC P t d x hp = match srcC P t 1 x hp with
   | some (m, news, b) => b && news.length == m * 1
   | none => false := by
   unfold convC
   split
   ·exact absurd rfl (hx1 _ _)
   ·exact absurd rfl (hx2 _)
   ·rfl
  rw [hc] at hb
  cases hs : srcC P t 1 x hp with
  | none => rw [hs] at hb; cases hb
  | some q =>
   obtain ⟨m, news, b⟩ := q
   rw [hs] at hb
   simp only [Bool.and_eq_true, beq_iff_eq] at hb
   unfold strS' at h
   split at h
   ·split at h
    ·obtain ⟨rds, s0, hf, h0⟩ := src_side h hs
     simp only [Bool.cond_eq_ite] at hf
     split at hf
     ·cases hf; exact ⟨h0 hb.1, hb.2⟩
     ·cases hf
    ·obtain ⟨rds, s0, hf, h0⟩ := src_side h hs
     simp only [Bool.cond_eq_ite] at hf
     split at hf
     ·cases hf; exact ⟨h0 hb.1, hb.2⟩
     ·cases hf
    ·cases h
   ·cases h
def sideC (P : Program) (fr : Fr) (hp : Hp) (o : Op) : Bool := match o with
 | .convert s d x => convC P s d (evS true fr x) hp
 | .slice t x lo hi none => sliceC P t (evS true fr x) (lo.map (evS true fr)) (hi.map (evS true fr)) hp
 | .lookup t x i _ => mapKC P t (evS true fr x) (evS true fr i) hp
 | .mapUpdate t m k _ => mapKC P t (evS true fr m) (evS true fr k) hp
 | .insert t m k _ => mapKC P t (evS true fr m) (evS true fr k) hp
 | .makeSlice t l c => mkC P t (evS true fr l) (evS true fr c)
 | .range _ _ => true
 | .next _ _ => true
 | .slice t x none (some hh) (some m) => (match evS true fr hh, evS true fr m with
  | .v (.int _ a), .v (.int _ b) => a == 0 && b == 0
  | _, _ => false)
 | .binOp op t x y q => (match evS true fr x, evS true fr y with
  | .v (.string a), .v (.string b) => Nat.ble (a.size + b.size) 9223372036854775807
  | _, _ => sideOk P true fr hp (.binOp op t x y q))
 | .index t x i => (match evS true fr x, evS true fr i with
  | .v (.string s), .v (.int _ n) => decide (0 ≤ n) && decide (n < s.size)
  | _, _ => sideOk P true fr hp (.index t x i))
 | .call c => (match c.callee with
  | .builtin .append => (match c.args.toList, c.argTypes.toList with
   | [x, y], [t, tx] => appC P t tx (evS true fr x) (evS true fr y) hp
   | _, _ => false)
  | _ => sideOk P true fr hp (.call c))
 | o => sideOk P true fr hp o
theorem sideC_ok {fr : Fr} {ty : TypeId} {o : Op} {s : Prop} {e : Eff} (h : opS P true fr hp nx ty o = .ok s e) (hb : sideC P fr hp o = true) : s := by
 unfold sideC at hb
 split at hb
 ·exact conv_side (by simpa only [opS] using h) hb
 ·exact slice_side (by simpa only [opS] using h) hb
 ·exact look_side (by simpa only [opS] using h) hb
 ·exact mupd_side (by simpa only [opS] using h) hb
 ·exact mupd_side (by simpa only [opS] using h) hb
 ·exact mk_side (by simpa only [opS] using h) hb
 ·simp only [opS] at h
  unfold rangeS at h
  split at h
  ·split at h
   ·cases h; trivial
   ·cases h
  ·cases h
 ·simp only [opS] at h
  unfold nextS at h
  rw [Bool.cond_eq_ite] at h
  split at h
  ·split at h
   ·obtain ⟨t, pos, hk, hf⟩ := itC_ok h
    simp only [Bool.cond_eq_ite] at hf
    split at hf <;> (cases hf; trivial)
   ·cases h
  ·cases h
 ·simp only [opS] at h
  unfold slice0S at h
  split at hb
  ·rename_i h1 h2
   simp only [h1, h2] at h
   simp only [Bool.and_eq_true, beq_iff_eq] at hb
   split at h
   ·rename_i h3 h4 h5
    cases h4; cases h5
    split at h
    ·have := (liveS_ok h).2; cases this; exact hb
    ·cases h; exact hb
    ·cases h; exact hb
    ·cases h
   ·cases h
  ·cases hb
 ·split at hb
  ·rename_i h1 h2
   simp only [opS, binOpS, h1, h2] at h
   unfold strS at h
   split at h <;> first | exact pureR_s h | (cases h; exact Nat.le_of_ble_eq_true hb) | cases h
  ·exact sideOk_ok h hb
 ·split at hb
  ·rename_i h1 h2
   simp only [opS, indexS, h1, h2] at h
   simp only [Bool.and_eq_true, decide_eq_true_eq] at hb
   split at h
   ·cases h; exact hb
   ·cases h
  ·exact sideOk_ok h hb
 ·split at hb
  ·rename_i hcal
   simp only [opS, hcal] at h
   split at hb
   ·rename_i h1 h2
    simp only [h1, h2] at h
    split at h
    ·rw [Bool.cond_eq_ite] at h
     split at h
     ·exact app_side h hb
     ·cases h
    ·cases h
   ·cases hb
  ·exact sideOk_ok h hb
 ·exact sideOk_ok h hb
def ceCall (call : FuncId → List SV → Hp → Nat → Option (SV × Hp × Nat)) (f : FuncId) (args : List SV) (hp : Hp) (nx : Nat) : Option (SV × Hp × Nat × List Nm) :=
 ceCall1 call f args hp nx (numN 0 (closeN hp 100000 (namesVL args) []))
where ceCall1 (call : FuncId → List SV → Hp → Nat → Option (SV × Hp × Nat)) (f : FuncId) (args : List SV) (hp : Hp) (nx : Nat) (pr : List (Nm × Nm)) : Option (SV × Hp × Nat × List Nm) :=
 bif prOk pr && (okN 0 pr [] && (okH 0 pr.length pr (hinN (tauN pr hp) hp pr) && okC pr.length (hinN (tauN pr hp) hp pr) pr)) then
  match call f (wkL (tauN pr hp) args) (hinN (tauN pr hp) hp pr) pr.length with
  | some (x, h, n) => bif wfH h then some (renS (bck (getN pr) nx) x, back (getN pr) nx pr.length h hp, nx + n, passK (getN pr) pr.length) else none
  | none => none
 else none
def CallOk (P : Program) (call : FuncId → List SV → Hp → Nat → Option (SV × Hp × Nat)) : Prop := ∀ f args hin m x h n, call f args hin m = some (x, h, n) → SpecW P f args hin m (fun r h' n' => r = x ∧ h' = h ∧ n' = n)
theorem fam_numT {hp hin : Hp} : ∀ {pr : List (Nm × Nm)}, (∀ p ∈ pr, isT p.1 = true) → famOk hp hin pr
 | [], _ => trivial
 | p :: r, h => by
  have h1 := h p (by simp)
  refine ⟨?_, fam_numT fun q hq => h q (by simp [hq])⟩
  cases hp1 : p.1 with
  | t a => trivial
  | s F i => rw [hp1] at h1; cases h1
theorem ceCall_ok {call : FuncId → List SV → Hp → Nat → Option (SV × Hp × Nat)} (hc : CallOk P call) {d : Bool} {f : FuncId} {args : List SV} {K : SV → Hp → Nat → List Nm → Prop} {v : SV} {u : Hp} {n' : Nat} {ks : List Nm} (h : ceCall call f args hp nx = some (v, u, n', ks)) (hk : K v u n' ks) : CallW d P f args hp nx K := by
 unfold ceCall at h
 generalize numN 0 (closeN hp 100000 (namesVL args) []) = pr at h
 unfold ceCall.ceCall1 at h
 rw [Bool.cond_eq_ite] at h
 split at h
 ·rename_i hb
  simp only [Bool.and_eq_true] at hb
  obtain ⟨b1, b2, b3, b4⟩ := hb
  split at h
  ·rename_i x h' n he
   rw [Bool.cond_eq_ite] at h
   split at h
   ·rename_i hw
    cases h
    have spec := hc _ _ _ _ _ _ _ he
    have hT : ∀ p ∈ pr, isT p.1 = true := fun p hp => by
     have := List.all_eq_true.1 b1 p hp
     simp only [Bool.and_eq_true] at this
     exact this.1
    have hok := handed_ok b4 (fam_numT (hp := hp) hT)
    obtain ⟨l1, l2⟩ := leL_get (wkL_le (hp := hp) (tau_ok pr hp) args)
    refine ⟨_, _, pr.length, _, getN pr, [], spec, sub_mk (hin_le' b1) b2, getN_sig pr, fun k hk => ⟨?_, okH_fresh b3 k hk⟩, ?_, fun k j hk => (hok k j hk).2, l1, fun i y z hy hz => leS_sound (l2 i y z hy hz), ⟨x, h', n, rfl, rfl, rfl⟩, fun _ => ?_, ?_⟩
    ·cases hn : getN pr k with
     | none => rfl
     | some j => have := (hok k j hn).1; omega
    ·simp only [okN, Bool.and_eq_true] at b2
     exact nodupN_inj b2.1.1 b2.1.2
    ·rintro r1 h1 n1 r2 h2 n2 ⟨rfl, rfl, rfl⟩ ⟨rfl, rfl, rfl⟩; exact ⟨rfl, rfl, rfl⟩
    ·rintro res hp' nx' ⟨rfl, rfl, rfl⟩
     exact ⟨hw, .inl rfl, _, Trim.refl _ _ _, by simpa using hk⟩
   ·cases h
  ·cases h
 ·cases h
def ceOps (P : Program) (call : FuncId → List SV → Hp → Nat → Option (SV × Hp × Nat)) (d : Bool) (ops : Array Oper) : List Oper → Fr → Hp → Nat → List Nms → Option (Fr × Hp × Nat × List Nms)
 | [], fr, hp, nx, acc => some (fr, hp, nx, acc)
 | o :: rest, fr, hp, nx, acc => match doneS ops fr o with
  | none => none
  | some false => ceOps P call d ops rest (putF o.dst (skipV P o.op) fr) hp (bif d then nx + 1 else nx) (acc ++ [⟨[], [], nx, nx⟩])
  | some true => match callOf true fr o.op with
   | some c => match ceCall call c.1 c.2 hp nx with
    | some (v, u, n', ks) => ceOps P call d ops rest (putF o.dst v fr) (u ++ hp) (bif d then n' + 1 else n') (acc ++ [⟨u.map (·.1.key), ks, nx, n'⟩])
    | none => none
   | none => match opS P true fr hp nx o.type o.op with
    | .bad => match o.guard, opX P fr hp nx o.op with
     | none, some ⟨val, upd, nx', rds⟩ => ceOps P call d ops rest (putF o.dst val fr) (upd ++ hp) (bif d then nx' + 1 else nx') (acc ++ [⟨upd.map (·.1.key), rds, nx, nx'⟩])
     | _, _ => none
    | .ok _ ⟨val, upd, nx', rds⟩ => bif sideC P fr hp o.op && !quietBad P o nx ⟨val, upd, nx', rds⟩ then
      ceOps P call d ops rest (putF o.dst (wrapV P o val) fr) (upd ++ hp) (bif d then nx' + 1 else nx') (acc ++ [⟨upd.map (·.1.key), rds, nx, nx'⟩])
     else match o.guard, opX P fr hp nx o.op with
     | none, some ⟨val, upd, nx', rds⟩ => ceOps P call d ops rest (putF o.dst val fr) (upd ++ hp) (bif d then nx' + 1 else nx') (acc ++ [⟨upd.map (·.1.key), rds, nx, nx'⟩])
     | _, _ => none
theorem stepW_call {dt : Bool} {ops : Array Oper} {o : Oper} {fr : Fr} {c : FuncId × List SV} {K2 : SV → Hp → Nat → List Nm → Prop} (hd : doneS ops fr o = some true) (hc : callOf true fr o.op = some c) (hk : CallW dt P c.1 c.2 hp nx K2) : stepW dt P ops o fr hp nx K2 := by
 have hq : quietP P o.op = false := by unfold quietP; rw [quietS_call hc]; rfl
 unfold stepW
 unfold doneS at hd
 cases hg : o.guard with
 | none => simp only; unfold coreW; rw [hc]; exact hk
 | some jw =>
  rw [hg] at hd
  simp only at hd ⊢
  rw [hd]
  simp only [hq, cond_false]
  refine ⟨fun _ => ?_, (fun he => by cases he)⟩
  unfold coreW; rw [hc]; exact hk
theorem opX_sem {fr : Fr} {o : Op} {e : Eff} (h : opX P fr hp nx o = some e) : semOk o = true := by
 cases o <;> first | rfl | (unfold opX at h; cases h)
theorem stepW_x {dt : Bool} {ops : Array Oper} {o : Oper} {fr : Fr} {K : SV → Hp → Nat → List Nm → Prop} {v : SV} {u : Hp} {n : Nat} {r : List Nm} (hg : o.guard = none) (hc : callOf true fr o.op = none) (hx : opX P fr hp nx o.op = some ⟨v, u, n, r⟩) (hk : K v u n r) : stepW dt P ops o fr hp nx K := by
 obtain ⟨h1, h2⟩ := opX_ok hx
 unfold stepW
 rw [hg]
 simp only
 unfold coreW
 rw [hc]
 refine .inl ⟨rfl, opX_sem hx, ?_⟩
 cases dt with
 | false => exact h2.mono rfl fun v u n r he => by obtain ⟨rfl, rfl, rfl, rfl⟩ := he; exact hk
 | true => exact ⟨_, h1, hk, h2⟩
theorem ceOps_run {call : FuncId → List SV → Hp → Nat → Option (SV × Hp × Nat)} (hcall : CallOk P call) {ops : Array Oper} {K : Fr → Hp → Nat → Prop} {fr' : Fr} {hp' : Hp} {nx' : Nat} {acc' : List Nms} : ∀ (l : List Oper) (fr : Fr) (hp : Hp) (nx : Nat) (acc : List Nms), ceOps P call false ops l fr hp nx acc = some (fr', hp', nx', acc') → K fr' hp' nx' → runOps P ops l fr hp nx K
 | [], fr, hp, nx, acc, h, hk => by cases h; exact hk
 | o :: rest, fr, hp, nx, acc, h, hk => by
  unfold ceOps at h
  split at h
  ·cases h
  ·rename_i hd
   exact stepW_skip hd (ceOps_run hcall rest _ _ _ _ h hk)
  ·rename_i hd
   split at h
   ·rename_i c hc
    split at h
    ·rename_i v u n' ks he
     exact stepW_call hd hc (ceCall_ok hcall he (ceOps_run hcall rest _ _ _ _ h hk))
    ·cases h
   ·rename_i hc
    split at h
    ·split at h
     ·rename_i hg hx
      exact stepW_x hg hc hx (ceOps_run hcall rest _ _ _ _ h hk)
     ·cases h
    ·rename_i sd val upd nx2 rds hop
     rw [Bool.cond_eq_ite] at h
     split at h
     ·rename_i hq
      simp only [Bool.and_eq_true, Bool.not_eq_true'] at hq
      exact stepW_done hd hc hop (sideC_ok hop hq.1) hq.2 (ceOps_run hcall rest _ _ _ _ h hk)
     ·split at h
      ·rename_i hg hx
       exact stepW_x hg hc hx (ceOps_run hcall rest _ _ _ _ h hk)
      ·cases h
theorem ceOps_draw {call : FuncId → List SV → Hp → Nat → Option (SV × Hp × Nat)} (hcall : CallOk P call) {ops : Array Oper} {K : List Nms → Fr → Hp → Nat → Prop} {fr' : Fr} {hp' : Hp} {nx' : Nat} {acc' : List Nms} : ∀ (l : List Oper) (fr : Fr) (hp : Hp) (nx : Nat) (acc : List Nms), ceOps P call true ops l fr hp nx acc = some (fr', hp', nx', acc') → K acc' fr' hp' nx' → runD P ops l fr hp nx acc K
 | [], fr, hp, nx, acc, h, hk => by cases h; exact hk
 | o :: rest, fr, hp, nx, acc, h, hk => by
  unfold ceOps at h
  split at h
  ·cases h
  ·rename_i hd
   exact stepW_skip hd (ceOps_draw hcall rest _ _ _ _ h hk)
  ·rename_i hd
   split at h
   ·rename_i c hc
    split at h
    ·rename_i v u n' ks he
     exact stepW_call hd hc (ceCall_ok hcall he (ceOps_draw hcall rest _ _ _ _ h hk))
    ·cases h
   ·rename_i hc
    split at h
    ·split at h
     ·rename_i hg hx
      exact stepW_x hg hc hx (ceOps_draw hcall rest _ _ _ _ h hk)
     ·cases h
    ·rename_i sd val upd nx2 rds hop
     rw [Bool.cond_eq_ite] at h
     split at h
     ·rename_i hq
      simp only [Bool.and_eq_true, Bool.not_eq_true'] at hq
      exact stepW_done hd hc hop (sideC_ok hop hq.1) hq.2 (ceOps_draw hcall rest _ _ _ _ h hk)
     ·split at h
      ·rename_i hg hx
       exact stepW_x hg hc hx (ceOps_draw hcall rest _ _ _ _ h hk)
      ·cases h
def cmpF : Nat → Fr → Fr
 | 0, fr => fr
 | _ + 1, [] => []
 | n + 1, p :: r => p :: (cmpF n r).filter fun q => !(q.1 == p.1)
def cmpH : Nat → Hp → Hp
 | 0, hp => hp
 | _ + 1, [] => []
 | n + 1, p :: r => p :: (cmpH n r).filter fun q => !(q.1.eqk p.1)
theorem getF_filter (a d : Nat) (h : a ≠ d) : ∀ fr : Fr, getF (fr.filter fun q => !(q.1 == a)) d = getF fr d
 | [] => rfl
 | p :: r => by
  simp only [List.filter]
  cases he : p.1 == a with
  | true =>
   simp only [Bool.not_true, getF]
   rw [getF_filter a d h r]
   have : p.1 = a := by simpa using he
   rw [show (p.1 == d) = false from by simpa using fun e => h (this ▸ e)]; rfl
  | false => simp only [Bool.not_false, getF]; rw [getF_filter a d h r]
theorem cmpF_get : ∀ (n : Nat) (fr : Fr) (d : Nat), getF (cmpF n fr) d = getF fr d
 | 0, fr, d => rfl
 | n + 1, [], d => rfl
 | n + 1, p :: r, d => by
  simp only [cmpF, getF]
  cases he : p.1 == d with
  | true => rfl
  | false => simp only [cond_false]; rw [getF_filter p.1 d (by simpa using he), cmpF_get n r d]
theorem getH_filter (a d : Nm) (h : a.key ≠ d.key) : ∀ hp : Hp, getH (hp.filter fun q => !(q.1.eqk a)) d = getH hp d
 | [] => rfl
 | p :: r => by
  simp only [List.filter]
  cases he : p.1.eqk a with
  | true =>
   simp only [Bool.not_true, getH]
   rw [getH_filter a d h r]
   have : p.1.key = a.key := Nm.eqk_iff.1 he
   rw [Nm.eqk_no (fun e => h (this ▸ e))]; rfl
  | false => simp only [Bool.not_false, getH]; rw [getH_filter a d h r]
theorem cmpH_get : ∀ (n : Nat) (hp : Hp) (d : Nm), getH (cmpH n hp) d = getH hp d
 | 0, hp, d => rfl
 | n + 1, [], d => rfl
 | n + 1, p :: r, d => by
  simp only [cmpH, getH]
  cases he : p.1.eqk d with
  | true => rfl
  | false =>
   simp only [cond_false]
   rw [getH_filter p.1 d (fun e => by rw [Nm.eqk_iff.2 e] at he; cases he), cmpH_get n r d]
theorem cmp_eq (a b : Nat) (fr : Fr) (hp : Hp) : EqSt fr (cmpF a fr) hp (cmpH b hp) := ⟨fun d => .inl (cmpF_get a fr d), fun k => cmpH_get b hp k⟩
def ceLoop (body : Fr → Hp → Nat → Option (SExit × Fr × Hp × Nat)) : Nat → Fr → Hp → Nat → Option (SExit × Fr × Hp × Nat)
 | 0, _, _, _ => none
 | n + 1, fr, hp, nx => match body fr hp nx with
  | some (.normal, fr', hp', nx') => ceLoop body n fr' hp' nx'
  | r => r
def ceReg (P : Program) (call : FuncId → List SV → Hp → Nat → Option (SV × Hp × Nat)) (ops : Array Oper) (d : Bool) (fr : Fr) (hp : Hp) (nx : Nat) : Option (SExit × Fr × Hp × Nat) := match ceOps P call d ops ops.toList fr hp nx [] with
 | some (fr', hp', nx', acc) => bif !d || orderOk ops acc (aheads ops.toList) then some (.normal, cmpF (fr'.length - fr.length) fr', cmpH (hp'.length - hp.length) hp', nx') else none
 | none => none
def ceC (P : Program) (call : FuncId → List SV → Hp → Nat → Option (SV × Hp × Nat)) (fuel : Nat) : Code → Fr → Hp → Nat → Option (SExit × Fr × Hp × Nat)
 | .skip, fr, hp, nx => some (.normal, fr, hp, nx)
 | .label _, fr, hp, nx => some (.normal, fr, hp, nx)
 | .region _ ops d, fr, hp, nx => ceReg P call ops d fr hp nx
 | .seq x y, fr, hp, nx => match ceC P call fuel x fr hp nx with
  | some (.normal, fr', hp', nx') => ceC P call fuel y fr' hp' nx'
  | r => r
 | .cond c x y, fr, hp, nx => match evS true fr c with
  | .v (.bool b) => bif b then ceC P call fuel x fr hp nx else ceC P call fuel y fr hp nx
  | _ => none
 | .block id c, fr, hp, nx => match ceC P call fuel c fr hp nx with
  | some (.exit j, fr', hp', nx') => bif j == id then some (.normal, fr', hp', nx') else some (.exit j, fr', hp', nx')
  | r => r
 | .exit id, fr, hp, nx => some (.exit id, fr, hp, nx)
 | .loop c, fr, hp, nx => ceLoop (ceC P call fuel c) fuel fr hp nx
 | .scope c, fr, hp, nx => ceC P call fuel c fr hp nx
 | .ret, fr, hp, nx => some (.ret, fr, hp, nx)
 | _, _, _, _ => none
theorem ceC_ok {call : FuncId → List SV → Hp → Nat → Option (SV × Hp × Nat)} (hcall : CallOk P call) (hfol : P.follows .mixedOrders = true) {fuel m N : Nat} : ∀ (c : Code) (Q : SPost) (fr : Fr) (hp : Hp) (nx : Nat) (e : SExit) (fr' : Fr) (hp' : Hp) (nx' : Nat), ceC P call fuel c fr hp nx = some (e, fr', hp', nx') → Q e fr' hp' nx' → Swp P m N c Q fr hp nx := by
 intro c
 induction c with
 | skip => intro Q fr hp nx e fr' hp' nx' h hq; simp only [ceC] at h; cases h; exact hq
 | label l => intro Q fr hp nx e fr' hp' nx' h hq; simp only [ceC] at h; cases h; exact hq
 | exit id => intro Q fr hp nx e fr' hp' nx' h hq; simp only [ceC] at h; cases h; exact hq
 | ret => intro Q fr hp nx e fr' hp' nx' h hq; simp only [ceC] at h; cases h; exact hq
 | region id ops d =>
  intro Q fr hp nx e fr' hp' nx' h hq
  simp only [ceC] at h
  unfold ceReg at h
  split at h
  ·rename_i f1 h1 n1 acc he
   rw [Bool.cond_eq_ite] at h
   split at h
   ·rename_i ho
    cases h
    cases d with
    | false => exact ceOps_run hcall (K := EqW (Q .normal)) _ _ _ _ _ he ⟨_, _, cmp_eq _ _ _ _, hq⟩
    | true => exact ceOps_draw hcall (K := fun ns fr' hp' nx' => Need (P.follows .mixedOrders = true ∧ orderOk ops ns (aheads ops.toList) = true) (EqW (Q .normal) fr' hp' nx')) _ _ _ _ _ he ⟨⟨hfol, by simpa using ho⟩, _, _, cmp_eq _ _ _ _, hq⟩
   ·cases h
  ·cases h
 | seq x y hx hy =>
  intro Q fr hp nx e fr' hp' nx' h hq
  simp only [ceC] at h
  show Swp P m N x (thenS (Wk P m (Swp P m N y Q)) Q) fr hp nx
  split at h
  ·rename_i f1 h1 n1 he
   exact hx _ _ _ _ _ _ _ _ he (.inl (.inl (hy Q _ _ _ _ _ _ _ h hq)))
  ·rename_i hn
   refine hx _ _ _ _ _ _ _ _ h ?_
   cases e with
   | normal => exact absurd h (hn _ _ _)
   | exit j => exact hq
   | ret => exact hq
 | cond c x y hx hy =>
  intro Q fr hp nx e fr' hp' nx' h hq
  simp only [ceC] at h
  show match evS true fr c with
   | .v (.bool b) => Br b (Swp P m N x Q fr hp nx) (Swp P m N y Q fr hp nx)
   | _ => False
  split at h
  ·rename_i b hb
   cases b with
   | true => rw [br_true]; exact hx Q _ _ _ _ _ _ _ h hq
   | false => rw [br_false]; exact hy Q _ _ _ _ _ _ _ h hq
  ·cases h
 | block id c ih =>
  intro Q fr hp nx e fr' hp' nx' h hq
  simp only [ceC] at h
  show Swp P m N c (blockS id (wkS P m Q)) fr hp nx
  split at h
  ·rename_i j f1 h1 n1 he
   rw [Bool.cond_eq_ite] at h
   split at h
   ·rename_i hj
    cases h
    refine ih _ _ _ _ _ _ _ _ he ?_
    simp only [blockS]
    rw [if_pos (by simpa using hj)]
    exact .inl (.inl hq)
   ·rename_i hj
    cases h
    refine ih _ _ _ _ _ _ _ _ he ?_
    simp only [blockS]
    rw [if_neg (by simpa using hj)]
    exact hq
  ·rename_i hn
   refine ih _ _ _ _ _ _ _ _ h ?_
   cases e with
   | normal => exact .inl (.inl hq)
   | exit j => exact absurd h (hn _ _ _ _)
   | ret => exact hq
 | scope c ih => intro Q fr hp nx e fr' hp' nx' h hq; simp only [ceC] at h; exact ih Q _ _ _ _ _ _ _ h hq
 | loop c ih =>
  intro Q fr hp nx e fr' hp' nx' h hq
  simp only [ceC] at h
  have key : ∀ (k : Nat) (fr : Fr) (hp : Hp) (nx : Nat), ceLoop (ceC P call fuel c) k fr hp nx = some (e, fr', hp', nx') → LoopR P m (Swp P m N c) Q k fr hp nx := by
   intro k
   induction k with
   | zero => intro fr hp nx h; cases h
   | succ k ihk =>
    intro fr hp nx h
    unfold ceLoop at h
    split at h
    ·rename_i f1 h1 n1 he
     exact ih _ _ _ _ _ _ _ _ he (ihk _ _ _ h)
    ·rename_i hn
     refine ih _ _ _ _ _ _ _ _ h ?_
     cases e with
     | normal => exact absurd h (hn _ _ _)
     | exit j => exact hq
     | ret => exact hq
  exact ⟨fuel, key fuel _ _ _ h⟩
 | _ => intro Q fr hp nx e fr' hp' nx' h hq; simp only [ceC] at h; cases h
def ceLoad (P : Program) (t : TypeId) (x : SV) (hp : Hp) (nx : Nat) : Option SV := match x with
 | .ptr k off => match getH hp k with
  | .row _ cs => match takeS P t cs off [k.key] nx with
   | .ok _ e => bif takeB P t cs off then some e.val else none
   | .bad => none
  | _ => none
 | .iptr cs off => match takeS P t cs off [] nx with
   | .ok _ e => bif takeB P t cs off then some e.val else none
   | .bad => none
 | _ => none
theorem ceLoad_ok {t : TypeId} {x v : SV} (h : ceLoad P t x hp nx = some v) : ∃ s e, loadS P t x hp nx = .ok s e ∧ s ∧ e.val = v := by
 unfold ceLoad at h
 unfold loadS
 split at h
 ·split at h
  ·rename_i hk
   split at h
   ·rename_i s e ht
    rw [Bool.cond_eq_ite] at h
    split at h
    ·rename_i hb
     cases h
     exact ⟨s, e, by simp only [hk, rowS]; exact ht, takeB_ok ht hb, rfl⟩
    ·cases h
   ·cases h
  ·cases h
 ·split at h
  ·rename_i s e ht
   rw [Bool.cond_eq_ite] at h
   split at h
   ·rename_i hb
    cases h
    exact ⟨s, e, ht, takeB_ok ht hb, rfl⟩
   ·cases h
  ·cases h
 ·cases h
def ceRes (P : Program) (fr : Fr) (hp : Hp) (nx : Nat) : List ResultVar → Option (List SV)
 | [] => some []
 | .tmp t :: r => match ceRes P fr hp nx r with
  | some xs => some (getF fr t :: xs)
  | none => none
 | .cell a t :: r => match ceLoad P t (getF fr a) hp nx, ceRes P fr hp nx r with
  | some v, some xs => some (v :: xs)
  | _, _ => none
theorem ceRes_ok {fr : Fr} : ∀ (rs : List ResultVar) (K : List SV → Prop) (xs : List SV), ceRes P fr hp nx rs = some xs → K xs → resW P fr hp nx rs K
 | [], K, xs, h, hk => by cases h; exact hk
 | .tmp t :: r, K, xs, h, hk => by
  unfold ceRes at h
  split at h
  ·rename_i ys he
   cases h
   exact ceRes_ok r _ ys he hk
  ·cases h
 | .cell a t :: r, K, xs, h, hk => by
  unfold ceRes at h
  split at h
  ·rename_i v ys h1 h2
   cases h
   obtain ⟨s, e, g1, g2, rfl⟩ := ceLoad_ok h1
   show (loadS P t (getF fr a) hp nx).wp fun e => resW P fr hp nx r fun xs => K (e.val :: xs)
   rw [g1]
   exact ⟨g2, ceRes_ok r _ ys h2 hk⟩
  ·cases h
def gaveN (hp : Hp) (m : Nat) : List Nm := (List.range m).map Nm.t
def ceEnd0 (m : Nat) (x : SV) (hp : Hp) (pr : List (Nm × Nm)) (n : Nat) : Option (SV × Hp × Nat) :=
 bif prOk pr && (okN m pr [] && (okH m n pr (hinN (tauN pr hp) hp pr) && Nat.ble m n)) then some (wkV (tauN pr hp) x, hinN (tauN pr hp) hp pr, n) else none
def ceEnd1 (m : Nat) (x : SV) (hp : Hp) (nx : Nat) (pr : List (Nm × Nm)) : Option (SV × Hp × Nat) := ceEnd0 m x hp pr (bif pr.isEmpty && m == 0 then 0 else nx)
def ceEnd (m : Nat) (x : SV) (hp : Hp) (nx : Nat) : Option (SV × Hp × Nat) := ceEnd1 m x hp nx (selfN (closeN hp 100000 (namesV x ++ gaveN hp m) []))
theorem ceEnd_ok {m : Nat} {x X : SV} {H : Hp} {n : Nat} (h : ceEnd m x hp nx = some (X, H, n)) : RetW P m (fun r h' n' => r = X ∧ h' = H ∧ n' = n) x hp := by
 unfold ceEnd at h
 generalize selfN (closeN hp 100000 (namesV x ++ gaveN hp m) []) = pr at h
 unfold ceEnd1 at h
 generalize (bif pr.isEmpty && m == 0 then 0 else nx) = n0 at h
 unfold ceEnd0 at h
 rw [Bool.cond_eq_ite] at h
 split at h
 ·rename_i hb
  simp only [Bool.and_eq_true] at hb
  obtain ⟨b1, b2, b3, b4⟩ := hb
  cases h
  exact ret_mk _ _ _ pr [] ⟨rfl, rfl, rfl⟩ (wk_le (tau_ok pr hp) x) (hin_le' b1) b2 b3 (Nat.le_of_ble_eq_true b4)
 ·cases h
def ceF (P : Program) (fuel : Nat) : Nat → FuncId → List SV → Hp → Nat → Option (SV × Hp × Nat)
 | 0, _, _, _, _ => none
 | n + 1, f, args, hin, m => match P.funcs[f]? with
  | some fn => match fn.body with
   | some c => bif decide (fn.name ≠ "runtime.NumGoroutine") && (Nat.ble args.length fn.ntmps && codeOk fn.ntmps c) then
     match ceC P (ceF P fuel n) fuel c (frArgs 0 args) hin m with
     | some (.normal, fr, hp, nx) => match ceRes P fr hp nx fn.results.toList with
      | some xs => ceEnd m (oneOf xs) hp nx
      | none => none
     | some (.ret, fr, hp, nx) => match ceRes P fr hp nx fn.results.toList with
      | some xs => ceEnd m (oneOf xs) hp nx
      | none => none
     | _ => none
    else none
   | none => none
  | none => none
theorem ceF_ok (hfol : P.follows .mixedOrders = true) (fuel : Nat) : ∀ n : Nat, CallOk P (ceF P fuel n)
 | 0 => fun f args hin m x h n he => by cases he
 | n + 1 => fun f args hin m x h n' he => by
  unfold ceF at he
  split at he
  ·rename_i fn hf
   split at he
   ·rename_i c hb
    rw [Bool.cond_eq_ite] at he
    split at he
    ·rename_i hc
     simp only [Bool.and_eq_true, decide_eq_true_eq] at hc
     obtain ⟨c1, c2, c3⟩ := hc
     have fin : ∀ {e fr hp nx xs}, (e = .normal ∨ e = .ret) → ceC P (ceF P fuel n) fuel c (frArgs 0 args) hin m = some (e, fr, hp, nx) → ceRes P fr hp nx fn.results.toList = some xs → ceEnd m (oneOf xs) hp nx = some (x, h, n') → SpecW P f args hin m (fun r h' n2 => r = x ∧ h' = h ∧ n2 = n') := by
      intro e fr hp nx xs hee hce hres hend
      refine spec_of (draw_ok _) hf hb c1 c2 c3 (ceC_ok (ceF_ok hfol fuel n) hfol c _ _ _ _ _ _ _ _ hce ?_)
      have := ceRes_ok (P := P) (hp := hp) (nx := nx) fn.results.toList (fun xs => RetW P m (fun r h' n2 => r = x ∧ h' = h ∧ n2 = n') (oneOf xs) hp) xs hres (ceEnd_ok hend)
      rcases hee with rfl | rfl <;> exact this
     split at he
     ·rename_i fr hp nx hce
      split at he
      ·rename_i xs hres; exact fin (.inl rfl) hce hres he
      ·cases he
     ·rename_i fr hp nx hce
      split at he
      ·rename_i xs hres; exact fin (.inr rfl) hce hres he
      ·cases he
     ·cases he
    ·cases he
   ·cases he
  ·cases he
theorem closed_call (hfol : P.follows .mixedOrders = true) (fuel n : Nat) {f : FuncId} {x : SV} (h : ceF P fuel n f [] [] 0 = some (x, [], 0)) : SpecW P f [] [] 0 (fun r h n => r = x ∧ h = [] ∧ n = 0) := ceF_ok hfol fuel n _ _ _ _ _ _ _ h
end Go.Sx
end

section
namespace Go.Sx
open Go.RowKit
set_option linter.unusedVariables false
set_option linter.unusedSimpArgs false
variable {P : Program} {hp : Hp} {nx : Nat}
structure VArr (n : Nat) where
 l : List Int
 h : l.length = n
variable {n : Nat}
theorem VArr.ext : ∀ {a b : VArr n}, a.l = b.l → a = b
 | ⟨_, _⟩, ⟨_, _⟩, h => by simp only at h; subst h; rfl
instance : DecidableEq (VArr n) := fun a b => if h : a.l = b.l then .isTrue (VArr.ext h) else .isFalse fun e => h (e ▸ rfl)
instance : Inhabited (VArr n) := ⟨⟨List.replicate n 0, by simp⟩⟩
def VArr.get (a : VArr n) (i : Int) : Int := a.l.getD i.toNat 0
def VArr.set (a : VArr n) (i v : Int) : VArr n := ⟨a.l.set i.toNat v, by rw [List.length_set]; exact a.h⟩
def VArr.cells (a : VArr n) : List SV := (List.range n).map fun k => .v (.int .i64 (a.l.getD k 0))
theorem VArr.cells_fl (a : VArr n) : a.cells = a.l.map fun x => .v (.int .i64 x) := by
 refine List.ext_getElem (by simp [VArr.cells, a.h]) fun i h1 h2 => ?_
 simp only [VArr.cells, List.getElem_map, List.getElem_range, List.length_map] at h2 ⊢
 rw [List.getD_eq_getElem?_getD, List.getElem?_eq_getElem h2]; rfl
theorem VArr.st (a : VArr n) : stL a.cells = true := by
 rw [VArr.cells_fl]
 induction a.l with
 | nil => rfl
 | cons x l ih => simpa [stL, SV.st] using ih
instance : Enc (VArr n) := ⟨n, VArr.cells, fun a => by simp [VArr.cells], fun a => by simp [VArr.cells, oneS, Value.oneCell'], VArr.st⟩
theorem VArr.len (a : VArr n) : (Enc.cells a).length = n := Enc.len a
theorem VArr.at (a : VArr n) (e : Int) (k : 0 ≤ e ∧ e < ((n : Nat) : Int)) (d : SV) : (Enc.cells a).getD e.toNat d = .v (.int .i64 (a.get e)) := by
 show a.cells.getD e.toNat d = _
 have hl : e.toNat < a.cells.length := by have := VArr.len a; show _ < (Enc.cells a).length; omega
 rw [List.getD_eq_getElem?_getD, List.getElem?_eq_getElem hl]
 simp only [VArr.cells, List.getElem_map, List.getElem_range]
 rfl
theorem VArr.put (a : VArr n) (e v : Int) (k : 0 ≤ e ∧ e < ((n : Nat) : Int)) : (Enc.cells a).set e.toNat (.v (.int .i64 v)) = Enc.cells (a.set e v) := by
 show a.cells.set _ _ = (a.set e v).cells
 rw [VArr.cells_fl, VArr.cells_fl]
 simp only [VArr.set, List.map_set]
theorem leL_arr {hp hp' : Hp} {σ : List (Nm × Nm)} {frz : List Nm} (a : VArr n) (xs ys : List SV) : leL hp hp' σ frz (Enc.cells a ++ xs) (Enc.cells a ++ ys) = leL hp hp' σ frz xs ys := by
 refine propext ?_
 show leL hp hp' σ frz (a.cells ++ xs) (a.cells ++ ys) ↔ _
 rw [VArr.cells_fl]
 induction a.l with
 | nil => exact Iff.rfl
 | cons x l ih =>
  simp only [List.map_cons, List.cons_append, leL]
  rw [ih]
  simp only [leS, true_and]
theorem renL_arr (τ : Nm → Nm) (a : VArr n) (xs : List SV) : renL τ (Enc.cells a ++ xs) = Enc.cells a ++ renL τ xs := by
 show renL τ (a.cells ++ xs) = a.cells ++ _
 rw [VArr.cells_fl]
 induction a.l with
 | nil => rfl
 | cons x l ih => simp only [List.map_cons, List.cons_append, renL, renS, ih]
theorem stL_arr (a : VArr n) (xs : List SV) : stL (Enc.cells a ++ xs) = stL xs := by
 show stL (a.cells ++ xs) = _
 rw [VArr.cells_fl]
 induction a.l with
 | nil => rfl
 | cons x l ih => simpa [stL, SV.st] using ih
theorem clL_arr (a : VArr n) (xs : List SV) : clL (Enc.cells a ++ xs) = clL xs := by
 show clL (a.cells ++ xs) = _
 rw [VArr.cells_fl]
 induction a.l with
 | nil => rfl
 | cons x l ih => simpa [clL, SV.cl] using ih
theorem nimL_arr (a : VArr n) (xs : List SV) : nimL (Enc.cells a ++ xs) = nimL xs := by
 show nimL (a.cells ++ xs) = _
 rw [VArr.cells_fl]
 induction a.l with
 | nil => rfl
 | cons x l ih => simpa [nimL, SV.nim] using ih
theorem nim_VArr (xs : List (VArr n)) : nimL (fl xs) = true := nimL_fl (fun a => by have := nimL_arr a []; simpa [nimL] using this) xs
theorem sz_VArr : Enc.sz (VArr n) = n := rfl
theorem stL_VArr (a : VArr n) : stL (Enc.cells a) = true := Enc.stc a
theorem clL_VArr (a : VArr n) : clL (Enc.cells a) = true := stL_clL (Enc.stc a)
theorem renL_VArr (τ : Nm → Nm) (a : VArr n) : renL τ (Enc.cells a) = Enc.cells a := renL_cl (clL_VArr a)
theorem nimL_VArr (a : VArr n) : nimL (Enc.cells a) = true := by have := nimL_arr a []; simpa [nimL] using this
theorem leL_VArr {hp hp' : Hp} {σ : List (Nm × Nm)} {frz : List Nm} (a : VArr n) : leL hp hp' σ frz (Enc.cells a) (Enc.cells a) = True := by
 have := leL_arr (hp := hp) (hp' := hp') (σ := σ) (frz := frz) a [] []
 simp only [List.append_nil, leL] at this
 exact this
attribute [push_cast] leL_arr renL_arr stL_arr clL_arr nimL_arr nim_VArr sz_VArr stL_VArr clL_VArr renL_VArr nimL_VArr leL_VArr
def VArr.c0 (a : VArr n) : Int := a.l.getD 0 0
def VArr.c1 (a : VArr n) : Int := a.l.getD 1 0
def VArr.c2 (a : VArr n) : Int := a.l.getD 2 0
def VArr.c3 (a : VArr n) : Int := a.l.getD 3 0
def VArr.c4 (a : VArr n) : Int := a.l.getD 4 0
def VArr.c5 (a : VArr n) : Int := a.l.getD 5 0
def VArr.c7 (a : VArr n) : Int := a.l.getD 7 0
end Go.Sx
end

section
namespace Go.Sx
open Go.RowKit
set_option linter.unusedVariables false
set_option linter.unusedSimpArgs false
variable {α β : Type} [Enc α] {P : Program} {hp hp' : Hp} {nx : Nat} {σ : List (Nm × Nm)} {frz : List Nm}
def flP (F n : Nat) : List SV := (List.range n).map fun (i : Nat) => SV.ptr (.s F ((i : Nat) : Int)) 0
def famP (t : TypeId) (xs : List α) : Int → Chunk := fun i => bif decide (0 ≤ i ∧ i < ((xs.length : Nat) : Int)) then .row t (Enc.cells (ix xs i)) else .void
theorem famP_in {t : TypeId} {xs : List α} {i : Int} (k : 0 ≤ i ∧ i < ((xs.length : Nat) : Int)) : famP t xs i = .row t (Enc.cells (ix xs i)) := by
 unfold famP; rw [decide_eq_true k]; rfl
theorem famP_out {t : TypeId} {xs : List α} {i : Int} (k : ¬ (0 ≤ i ∧ i < ((xs.length : Nat) : Int))) : famP t xs i = .void := by
 unfold famP; rw [decide_eq_false k]; rfl
theorem at_famP (t : TypeId) (xs : List α) (i : Int) : (Chunk.fam (famP t xs)).at i = famP t xs i := by
 simp only [Chunk.at]
 by_cases k : 0 ≤ i ∧ i < ((xs.length : Nat) : Int)
 ·rw [famP_in k]
 ·rw [famP_out k]
theorem famP_mem {t : TypeId} {xs : List α} {i : Int} (k : 0 ≤ i ∧ i < ((xs.length : Nat) : Int)) : (Chunk.fam (famP t xs)).at i = .row t (Enc.cells (ix xs i)) := (at_famP t xs i).trans (famP_in k)
structure Birth (C C' : Nm → Chunk) (Q K R : Nm) : Prop where
 vd : C Q = .void
 kl : (C K).live = true
 q : C' Q = C K
 k : C' K = .dead
 oth : ∀ j, j ≠ Q → j ≠ K → j ≠ R → C' j = C j
 kr : K ≠ R
 row : (∃ e cs cs', C R = .row e cs ∧ C' R = .row e cs' ∧ cs'.length = cs.length ∧ ∀ (i : Nat) (x y : SV), cs[i]? = some x → cs'[i]? = some y → x = y ∨ (x = .ptr K 0 ∧ y = .ptr Q 0)) ∨
  ∃ es es', C R = .map es ∧ C' R = .map es' ∧ es'.length = es.length ∧ ∀ (i : Nat) (x y : Value × SV), es[i]? = some x → es'[i]? = some y → x.1 = y.1 ∧ (x.2 = y.2 ∨ (x.2 = .ptr K 0 ∧ y.2 = .ptr Q 0))
section sem
variable {w0 : World} {I0 W0 : Nat → Prop} {C C' : Nm → Chunk} {Q K R : Nm} {ids : Ids} {w : World}
theorem Birth.liveR (hh : Birth C C' Q K R) : (C R).live = true ∧ (C' R).live = true := by
 rcases hh.row with ⟨e, cs, cs', h1, h2, _⟩ | ⟨es, es', h1, h2, _⟩ <;> (rw [h1, h2]; exact ⟨rfl, rfl⟩)
theorem Birth.old (hh : Birth C C' Q K R) {j : Nm} {b o : Nat} (hl : (C' j).live = true) (hi : upd ids Q (ids K) j = some (b, o)) :
  ∃ k0, (C k0).live = true ∧ ids k0 = some (b, o) ∧ ((j ≠ Q ∧ k0 = j ∧ j ≠ K) ∨ (j = Q ∧ k0 = K)) := by
 by_cases hQ : j = Q
 ·subst hQ; rw [upd_same] at hi; exact ⟨K, hh.kl, hi, .inr ⟨rfl, rfl⟩⟩
 ·rw [upd_ne _ _ hQ] at hi
  by_cases hK : j = K
  ·subst hK; rw [hh.k] at hl; cases hl
  by_cases hR : j = R
  ·subst hR; exact ⟨j, hh.liveR.1, hi, .inl ⟨hQ, rfl, hK⟩⟩
  ·rw [hh.oth j hQ hK hR] at hl; exact ⟨j, hl, hi, .inl ⟨hQ, rfl, hK⟩⟩
theorem Birth.ext (h : HSt P w0 I0 W0 C ids w) (hh : Birth C C' Q K R) : Ext C ids (Im w0 I0 W0 C ids w) w C' (upd ids Q (ids K)) (Im w0 I0 W0 C' (upd ids Q (ids K)) w) w := by
 refine ⟨fun b hb => ⟨⟨hb.1, hb.2.1, fun k hk o hi => ?_⟩, rfl⟩, fun j hj => ?_, fun j hj => ?_⟩
 ·obtain ⟨k0, h1, h2, _⟩ := hh.old hk hi
  exact hb.2.2 k0 h1 o h2
 ·have hQ : j ≠ Q := fun e => by rw [e, hh.vd] at hj; cases hj
  have hK : j ≠ K := fun e => by have := hh.kl; rw [← e, hj] at this; cases this
  have hR : j ≠ R := fun e => by have := hh.liveR.1; rw [← e, hj] at this; cases this
  rw [hh.oth j hQ hK hR]; exact hj
 ·have hQ : j ≠ Q := fun e => by rw [e, hh.vd] at hj; cases hj
  by_cases hK : j = K
  ·subst hK; exact .inl hh.k
  by_cases hR : j = R
  ·subst hR
   rcases hh.row with ⟨e, cs, cs', h1, h2, h3, _⟩ | ⟨es, es', h1, h2, _⟩
   ·exact .inr ⟨hh.liveR.2, upd_ne _ _ hQ, by rw [h1, h2]; exact ⟨rfl, Nat.le_of_eq h3⟩, fun _ _ _ => SameShape.refl _⟩
   ·exact .inr ⟨hh.liveR.2, upd_ne _ _ hQ, by rw [h1, h2]; exact trivial, fun _ _ _ => SameShape.refl _⟩
  ·have h1 := hh.oth j hQ hK hR
   exact .inr ⟨by rw [h1]; exact hj, upd_ne _ _ hQ, by rw [h1]; exact SameKind.refl hj, fun _ _ _ => SameShape.refl _⟩
theorem Birth.den {off : Nat} (h : HSt P w0 I0 W0 C ids w) (hh : Birth C C' Q K R) {x y : SV} {v : Value} (hr : x = y ∨ (x = .ptr K off ∧ y = .ptr Q off)) (hd : Den P C ids (Im w0 I0 W0 C ids w) w x v) : Den P C' (upd ids Q (ids K)) (Im w0 I0 W0 C' (upd ids Q (ids K)) w) w y v := by
 rcases hr with rfl | ⟨rfl, rfl⟩
 ·exact hd.mono (hh.ext h)
 ·obtain ⟨b, o, g1, rfl⟩ := den_ptr hd hh.kl
  exact .ptr b o (by rw [hh.q]; exact hh.kl) (by rw [upd_same]; exact g1)
theorem Birth.st (h : HSt P w0 I0 W0 C ids w) (hh : Birth C C' Q K R) : HSt P w0 I0 W0 C' (upd ids Q (ids K)) w := by
 have hE := hh.ext h
 refine ⟨fun j => ?_, fun k k' b o o' hk hk' hi hi' => ?_, fun k b o hk hi => ?_, h.im0, h.evol, h.os, h.tape, h.output, h.size⟩
 ·by_cases hQ : j = Q
  ·subst hQ; rw [hh.q]; exact DenC.rename hE (h.ch K) (upd_same _ _ _)
  by_cases hK : j = K
  ·subst hK; rw [hh.k]; trivial
  by_cases hR : j = R
  ·subst hR
   have hc := h.ch j
   rcases hh.row with ⟨e, cs, cs', h1, h2, h3, h4⟩ | ⟨es, es', h1, h2, h3, h4⟩
   ·rw [h1] at hc
    rw [h2]
    simp only [DenC, upd_ne _ _ hQ] at hc ⊢
    cases hid : ids j with
    | none =>
     rw [hid] at hc
     simp only at hc
     subst hc
     exact List.eq_nil_of_length_eq_zero h3
    | some p =>
     obtain ⟨b, o⟩ := p
     rw [hid] at hc
     obtain ⟨arr, ha, hl, hxx⟩ := hc
     refine ⟨arr, ha, by omega, fun i y hi => ?_⟩
     have hlt := (List.getElem?_eq_some_iff.1 hi).1
     have hi2 := List.getElem?_eq_getElem (show i < cs.length by omega)
     exact hh.den h (h4 i _ y hi2 hi) (hxx i _ hi2)
   ·rw [h1] at hc
    rw [h2]
    simp only [DenC, upd_ne _ _ hQ] at hc ⊢
    obtain ⟨b, arr, clock, g1, g2, g3, g4, hbo⟩ := hc
    refine ⟨b, arr, clock, g1, g2, by omega, fun i y hi => ?_, hbo⟩
    have hlt := (List.getElem?_eq_some_iff.1 hi).1
    have hi2 := List.getElem?_eq_getElem (show i < es.length by omega)
    obtain ⟨a1, a2⟩ := h4 i _ y hi2 hi
    obtain ⟨b1, b2⟩ := g4 i _ hi2
    exact ⟨b1.trans a1, hh.den h a2 b2⟩
  ·rw [hh.oth j hQ hK hR]; exact DenC.rename hE (h.ch j) (upd_ne _ _ hQ)
 ·obtain ⟨k0, a1, a2, a3⟩ := hh.old hk hi
  obtain ⟨k0', b1, b2, b3⟩ := hh.old hk' hi'
  have := h.inj k0 k0' b o o' a1 b1 a2 b2
  subst this
  rcases a3 with ⟨_, a3, a4⟩ | ⟨a3, a4⟩ <;> rcases b3 with ⟨_, b3, b4⟩ | ⟨b3, b4⟩
  ·rw [← a3, ← b3]
  ·rw [← a3] at a4; exact absurd b4 a4
  ·rw [← b3] at b4; exact absurd a4 b4
  ·rw [a3, b3]
 ·obtain ⟨k0, a1, a2, _⟩ := hh.old hk hi
  exact h.lt k0 b o a1 a2
end sem
theorem famP_live {t : TypeId} {xs : List α} {i : Int} (k : 0 ≤ i ∧ i < ((xs.length : Nat) : Int)) : ((Chunk.fam (famP t xs)).at i).live = true := by rw [famP_mem k]; rfl
def lenP (c : Chunk) (m : Nat) : Prop := ∀ i : Nat, i < m → (c.at ((i : Nat) : Int)).live = true
theorem lenP_famP (t : TypeId) (xs : List α) (m : Nat) : lenP (.fam (famP t xs)) m = (m ≤ xs.length) := by
 refine propext ⟨fun h => ?_, fun h i hi => famP_live (by omega)⟩
 by_cases hm : m ≤ xs.length
 ·exact hm
 ·have := h xs.length (by omega)
  rw [at_famP, famP_out (by omega)] at this
  cases this
theorem lenP_same (t : TypeId) (xs : List α) : lenP (.fam (famP t xs)) xs.length = True := eq_true (by rw [lenP_famP]; exact Nat.le_refl _)
theorem lenP_one (t : TypeId) (x : α) : lenP (.fam (famP t [x])) 1 = True := eq_true (by rw [lenP_famP]; exact Nat.le_refl _)
theorem lenP_app (t : TypeId) (xs : List α) (x : α) : lenP (.fam (famP t (xs ++ [x]))) (xs.length + 1) = True := eq_true (by rw [lenP_famP]; simp)
theorem lenP_set (t : TypeId) (xs : List α) (i : Nat) (x : α) : lenP (.fam (famP t (xs.set i x))) xs.length = True := eq_true (by rw [lenP_famP]; simp)
theorem leC1_famP {t : TypeId} {xs : List α} {F' : Nat} {i : Int} (h : famLe hp σ F' (famP t xs)) : leC1 hp hp' σ frz (.s F' i) (famP t xs i) = True := by
 refine eq_true ?_
 unfold famLe at h
 cases hn : getN σ (.s F' 0) with
 | none => rw [hn] at h; exact h.elim
 | some k =>
  rw [hn] at h
  simp only at h
  have hs : getN σ (.s F' i) = some (.s k.base i) := by rw [getN_sig σ F' i, hn]; rfl
  have hg := getE_fam h i
  rw [at_famP] at hg
  by_cases kk : 0 ≤ i ∧ i < ((xs.length : Nat) : Int)
  ·rw [famP_in kk] at hg ⊢
   simp only [leC1, hs, hg]
   exact ⟨trivial, .inl ⟨Enc.stc _, trivial⟩⟩
  ·rw [famP_out kk] at hg ⊢
   simp only [leC1, hs, hg]
theorem ren_famP (τ : Nm → Nm) (t : TypeId) (xs : List α) (i : Int) : renC τ (famP t xs i) = famP t xs i := by
 by_cases kk : 0 ≤ i ∧ i < ((xs.length : Nat) : Int)
 ·rw [famP_in kk]; simp only [renC]; rw [renL_cl (stL_clL (Enc.stc _))]
 ·rw [famP_out kk]; rfl
theorem renL_flP (F n : Nat) : renL (bck (getN σ) nx) (flP F n) = flP (bck (getN σ) nx (.s F 0)).base n := by
 unfold flP
 rw [renL_map, List.map_map]
 refine List.map_congr_left fun i _ => ?_
 simp only [Function.comp, renS]
 rw [bck_s (getN_sig σ)]
theorem famG_P (t : TypeId) (xs : List α) (G : Nat) (z : Int) (r : Hp) (F : Nat) : famG ((.s G z, .fam (famP t xs)) :: r) F = bif G == F then famP t xs else famG r F := by
 funext q
 simp only [famG, getH, Nm.eqk]
 cases G == F with
 | true => simp only [cond_true, Chunk.mem]; exact at_famP t xs q
 | false => rfl
theorem leC_famP {t : TypeId} {xs : List α} {F' : Nat} {z : Int} (h : famLe hp σ F' (famP t xs)) : leC hp hp' σ frz (.s F' z) (.fam (famP t xs)) = True := by
 refine eq_true fun i => ?_
 rw [at_famP]
 exact of_eq_true (leC1_famP h)
theorem famLe_P (F' : Nat) (t : TypeId) (xs : List α) : famLe hp σ F' (famP t xs) = match getN σ (.s F' 0) with
 | some k => getE hp (.s k.base 0) = .fam (famP t xs)
 | none => False := propext Iff.rfl
theorem leH_cons (k : Nm) (c : Chunk) (r : Hp) : leH hp hp' σ frz ((k, c) :: r) = (leC hp hp' σ frz k c ∧ leH hp hp' σ frz r) := propext Iff.rfl
def noN (σ : List (Nm × Nm)) (F : Nat) : Prop := getN σ (.s F 0) = none
theorem noN_eq (σ : List (Nm × Nm)) (F : Nat) : noN σ F = (getN σ (.s F 0) = none) := propext Iff.rfl
theorem leC_famP0 {t : TypeId} {F' : Nat} {z : Int} (h : noN σ F') : leC hp hp' σ frz (.s F' z) (.fam (famP t ([] : List α))) = True := by
 refine eq_true fun i => ?_
 have h : getN σ (.s F' 0) = none := h
 rw [at_famP, famP_out (by simp <;> omega)]
 have : getN σ (.s F' i) = none := by rw [getN_sig σ F' i, h]; rfl
 simp only [leC1, this]
theorem flP_0 (F : Nat) : flP F 0 = [] := rfl
attribute [push_cast high] leC_famP leC_famP0 leH_cons
attribute [push_cast] noN_eq lenP_same lenP_one lenP_app lenP_set flP_0 ren_famP renL_flP famG_P at_famP famLe_P
end Go.Sx
end

section
namespace Go.Sx
open Go.RowKit
set_option linter.unusedVariables false
set_option linter.unusedSimpArgs false
variable {α : Type} [Enc α] {P : Program} {hp hp' : Hp} {nx : Nat} {σ : List (Nm × Nm)} {frz : List Nm}
def mpG (F : Nat) : Nat → List Int → List (Value × SV)
 | _, [] => []
 | n, k :: r => (.int .i64 k, .ptr (.s F ((n : Nat) : Int)) 0) :: mpG F (n + 1) r
def mpP (F : Nat) (ks : List Int) : List (Value × SV) := mpG F 0 ks
section arr
variable {n : Nat}
end arr
theorem stM_mpP (F : Nat) (ks : List Int) : stM (mpP F ks) = true → ks = [] := by
 cases ks with
 | nil => exact fun _ => rfl
 | cons a r => intro h; simp [mpP, mpG, stM, SV.st] at h
def mapLe (hp hp' : Hp) (σ : List (Nm × Nm)) (k' F' : Nat) (ks : List Int) : Prop := match getN σ (.t k'), getN σ (.s F' 0) with
 | some k, some j => (getH hp k = .map (mpP j.base ks) ∧ j = .s j.base 0) ∧ lenP (getE hp' (.s F' 0)) ks.length
 | _, _ => False
theorem mapLe_eq (k' F' : Nat) (ks : List Int) : mapLe hp hp' σ k' F' ks = match getN σ (.t k'), getN σ (.s F' 0) with
 | some k, some j => (getH hp k = .map (mpP j.base ks) ∧ j = .s j.base 0) ∧ lenP (getE hp' (.s F' 0)) ks.length
 | _, _ => False := propext Iff.rfl
theorem leM_mpG {F F' : Nat} (h1 : getN σ (.s F' 0) = some (.s F 0)) (N : Nat) (h2 : lenP (getE hp' (.s F' 0)) N) : ∀ (n : Nat) (ks : List Int), n + ks.length ≤ N → leM hp hp' σ frz (mpG F n ks) (mpG F' n ks)
 | _, [], _ => trivial
 | n, k :: r, h => by
  rw [List.length_cons] at h
  refine ⟨rfl, ?_, leM_mpG h1 N h2 (n + 1) r (by omega)⟩
  simp only [leS]
  refine ⟨getN_s h1 _, trivial, ?_⟩
  have h3 := h2 n (by omega)
  cases hg : getE hp' (.s F' 0) with
  | fam g => rw [getE_fam hg]; rw [hg] at h3; exact h3
  | _ => rw [hg] at h3; cases h3
theorem leC_mpP {k' F' : Nat} {ks : List Int} (h : mapLe hp hp' σ k' F' ks) : leC hp hp' σ frz (.t k') (.map (mpP F' ks)) = True := by
 refine eq_true ?_
 unfold mapLe at h
 show leC1 hp hp' σ frz (.t k') (.map (mpP F' ks))
 simp only [leC1]
 cases hk : getN σ (.t k') with
 | none => rw [hk] at h; exact h.elim
 | some k =>
  cases hj : getN σ (.s F' 0) with
  | none => rw [hk, hj] at h; exact h.elim
  | some j =>
   rw [hk, hj] at h
   obtain ⟨⟨h1, h2⟩, h3⟩ := h
   simp only [h1]
   cases hs : stM (mpP F' ks) with
   | true =>
    have := stM_mpP F' ks hs
    subst this
    rfl
   | false => exact leM_mpG (by rw [hj, h2]; rfl) ks.length h3 0 ks (by omega)
theorem leM_app {hp hp' : Hp} : ∀ {xs ys us vs : List (Value × SV)}, leM hp hp' σ frz xs ys → leM hp hp' σ frz us vs → leM hp hp' σ frz (xs ++ us) (ys ++ vs)
 | [], [], _, _, _, h => h
 | [], _ :: _, _, _, h, _ => h.elim
 | _ :: _, [], _, _, h, _ => h.elim
 | a :: r, b :: s, _, _, h, g => ⟨h.1, h.2.1, leM_app h.2.2 g⟩
def mapLe1 (hp hp' : Hp) (σ : List (Nm × Nm)) (k' F' j' : Nat) (ks : List Int) (q : Int) : Prop := match getN σ (.t k'), getN σ (.s F' 0), getN σ (.t j') with
 | some k, some j, some i => (getH hp k = .map (mpP j.base ks ++ [(.int .i64 q, .ptr i 0)]) ∧ j = .s j.base 0) ∧ lenP (getE hp' (.s F' 0)) ks.length ∧ (getH hp' (.t j')).live = true
 | _, _, _ => False
theorem mapLe1_eq (k' F' j' : Nat) (ks : List Int) (q : Int) : mapLe1 hp hp' σ k' F' j' ks q = match getN σ (.t k'), getN σ (.s F' 0), getN σ (.t j') with
 | some k, some j, some i => (getH hp k = .map (mpP j.base ks ++ [(.int .i64 q, .ptr i 0)]) ∧ j = .s j.base 0) ∧ lenP (getE hp' (.s F' 0)) ks.length ∧ (getH hp' (.t j')).live = true
 | _, _, _ => False := propext Iff.rfl
theorem leC_mpP1 {k' F' j' : Nat} {ks : List Int} {q : Int} (h : mapLe1 hp hp' σ k' F' j' ks q) : leC hp hp' σ frz (.t k') (.map (mpP F' ks ++ [(.int .i64 q, .ptr (.t j') 0)])) = True := by
 refine eq_true ?_
 unfold mapLe1 at h
 show leC1 hp hp' σ frz (.t k') (.map (mpP F' ks ++ [(.int .i64 q, .ptr (.t j') 0)]))
 simp only [leC1]
 cases hk : getN σ (.t k') with
 | none => rw [hk] at h; exact h.elim
 | some k =>
  cases hj : getN σ (.s F' 0) with
  | none => rw [hk, hj] at h; exact h.elim
  | some j =>
   cases hi : getN σ (.t j') with
   | none => rw [hk, hj, hi] at h; exact h.elim
   | some i =>
    rw [hk, hj, hi] at h
    obtain ⟨⟨h1, h2⟩, h3, h4⟩ := h
    simp only [h1]
    have hs : stM (mpP F' ks ++ [(Value.int .i64 q, SV.ptr (.t j') 0)]) = false := by
     induction mpP F' ks with
     | nil => rfl
     | cons a l ih => simp only [List.cons_append, stM, ih, Bool.and_false]
    rw [hs, cond_false]
    refine leM_app (leM_mpG (by rw [hj, h2]; rfl) ks.length h3 0 ks (by omega)) ⟨rfl, ?_, trivial⟩
    simp only [leS]
    exact ⟨hi, trivial, h4⟩
theorem ren_mpG (τ : Nm → Nm) (F F' : Nat) (h : ∀ i, τ (.s F i) = .s F' i) : ∀ (n : Nat) (ks : List Int), (mpG F n ks).map (fun p => (p.1, renS τ p.2)) = mpG F' n ks
 | _, [] => rfl
 | n, k :: r => by simp only [mpG, List.map_cons, renS, h, ren_mpG τ F F' h (n + 1) r]
theorem ren_mpP (F : Nat) (ks : List Int) : renC (bck (getN σ) nx) (.map (mpP F ks)) = .map (mpP (bck (getN σ) nx (.s F 0)).base ks) := by
 simp only [renC]
 congr 1
 exact ren_mpG _ _ _ (fun i => bck_s (getN_sig σ) nx F i) 0 ks
theorem ren_mpP1 (F : Nat) (ks : List Int) (q : Int) (k : Nm) : renC (bck (getN σ) nx) (.map (mpP F ks ++ [(.int .i64 q, .ptr k 0)])) = .map (mpP (bck (getN σ) nx (.s F 0)).base ks ++ [(.int .i64 q, .ptr (bck (getN σ) nx k) 0)]) := by
 simp only [renC, List.map_append, List.map_cons, List.map_nil, renS]
 congr 2
 exact ren_mpG _ _ _ (fun i => bck_s (getN_sig σ) nx F i) 0 ks
attribute [push_cast high] leC_mpP leC_mpP1 ren_mpP ren_mpP1
attribute [push_cast] mapLe_eq mapLe1_eq
end Go.Sx
end

section
namespace Go.Sx
open Go.RowKit
set_option linter.unusedVariables false
set_option linter.unusedSimpArgs false
variable {P : Program} {X : Cx} {hp : Hp} {ids : Ids} {w : World}
end Go.Sx
end

section
namespace Go.Sx
open Go.RowKit
set_option linter.unusedVariables false
set_option linter.unusedSimpArgs false
variable {P : Program}
end Go.Sx
end

section
namespace Go.Sx
open Go.RowKit
set_option linter.unusedVariables false
set_option linter.unusedSimpArgs false
variable {P : Program}
theorem TabOk.on {I I' : Nat → Prop} {w w' : World} (h : TabOk P I w) (hI : ∀ b, I b → I' b ∧ w'.heap[b]? = w.heap[b]?) : TabOk P I' w' := fun g cs hc => by
 obtain ⟨h1, h2⟩ := h g cs hc
 refine ⟨(hI g h1).1, fun i x hi => ?_⟩
 obtain ⟨y, h3, h4⟩ := h2 i x hi
 exact ⟨y, (cell_eq (hI g h1).2).trans h3, h4.mono (fun b hb => (hI b hb).1) fun b hb i => cell_eq (hI b hb).2⟩
end Go.Sx
end

section
namespace Go.Sx
open Go.RowKit
set_option linter.unusedVariables false
set_option linter.unusedSimpArgs false
variable {P : Program} {fr : Fr} {hp : Hp} {nx : Nat} {ops : Array Oper}
def VArr.cut {n : Nat} (A : VArr n) (a b : Int) : List Int := (A.l.drop a.toNat).take (b.toNat - a.toNat)
theorem VArr.cut_len {n : Nat} (A : VArr n) {a b : Int} (h : 0 ≤ a ∧ a ≤ b ∧ b ≤ ((n : Nat) : Int)) : (A.cut a b).length = b.toNat - a.toNat := by
 have := A.h
 simp only [VArr.cut, List.length_take, List.length_drop]; omega
end Go.Sx
end

section
namespace Go.Sx
open Go.RowKit
set_option linter.unusedVariables false
set_option linter.unusedSimpArgs false
def svV : SV → Value
 | .v x => x
 | _ => undef
class KeyE (K : Type) [Enc K] [DecidableEq K] where
 L : List TypeDesc
 op : ∀ k : K, plainA (Enc.cells k) = some ((Enc.cells k).map svV)
 fits : ∀ k : K, leavesV L ((Enc.cells k).map svV) = true
 eq : ∀ a b : K, eqLs ((Enc.cells a).map svV) ((Enc.cells b).map svV) = (a == b)
variable {K : Type} [Enc K] [DecidableEq K] [KeyE K]
def kV (k : K) : Value := .agg ((Enc.cells k).map svV).toArray
def mE (m : List (K × Int)) : List (Value × SV) := m.map fun p => (kV p.1, .v (.int .i64 p.2))
omit [Enc K] [KeyE K] in
def meGet (m : List (K × Int)) (k : K) : Int := ((m.find? fun p => k == p.1).map (·.2)).getD 0
def meSet (m : List (K × Int)) (k : K) (v : Int) : List (K × Int) := match m with
 | [] => [(k, v)]
 | p :: r => bif k == p.1 then (k, v) :: r else p :: meSet r k v
theorem keyEq_E (a b : K) : keyEq (kV a) (kV b) = (a == b) := by
 show eqLs _ _ = _
 rw [← KeyE.eq a b]
omit [DecidableEq K] [KeyE K] in
theorem stM_mE (m : List (K × Int)) : stM (mE m) = true := by
 induction m with
 | nil => rfl
 | cons p r ih => simp only [mE, List.map_cons, stM, SV.st, Bool.true_and]; exact ih
omit [DecidableEq K] [KeyE K] in
@[push_cast] theorem ren_mE (τ : Nm → Nm) (m : List (K × Int)) : (mE m).map (fun p => (p.1, renS τ p.2)) = mE m := by
 simp [mE, renS, Function.comp_def]
attribute [push_cast] stM_mE
omit [DecidableEq K] [KeyE K] in
@[push_cast] theorem mE_nil : mE ([] : List (K × Int)) = [] := rfl
theorem mE_fits (m : List (K × Int)) : (mE m).all (fun p => aggFits (KeyE.L K) p.1) = true := by
 rw [List.all_eq_true]
 intro x hx
 unfold mE at hx
 rw [List.mem_map] at hx
 obtain ⟨p, _, rfl⟩ := hx
 show leavesV _ _ = true
 exact KeyE.fits p.1
theorem mE_find (k : K) : ∀ (m : List (K × Int)) (i : Nat), (findS (kV k) (mE m) i).map (·.2) = (m.find? fun p => k == p.1).map fun p => .v (.int .i64 p.2)
 | [], i => rfl
 | p :: r, i => by
  show (bif keyEq (kV k) (kV p.1) then _ else findS _ (mE r) (i + 1)).map (·.2) = _
  rw [keyEq_E, List.find?_cons]
  cases h : k == p.1 with
  | true => simp
  | false => simpa using mE_find k r (i + 1)
theorem mE_lookV (m : List (K × Int)) (k : K) : lookV (.int .i64 0) (kV k) (mE m) = .v (.int .i64 (meGet m k)) := by
 have := mE_find k m 0
 unfold lookV meGet
 cases h : findS (kV k) (mE m) 0 with
 | none => rw [h] at this; cases hf : m.find? (fun p => k == p.1) with
  | none => rfl
  | some p => rw [hf] at this; simp at this
 | some q => rw [h] at this; cases hf : m.find? (fun p => k == p.1) with
  | none => rw [hf] at this; simp at this
  | some p => rw [hf] at this; simp at this; simp [this]
theorem mE_findI (k : K) : ∀ (m : List (K × Int)) (i : Nat), findS (kV k) (mE m) i = (m.findIdx? fun p => k == p.1).map fun j => (i + j, .v (.int .i64 ((m.map (·.2)).getD j 0)))
 | [], i => rfl
 | p :: r, i => by
  show (bif keyEq (kV k) (kV p.1) then _ else findS _ (mE r) (i + 1)) = _
  rw [keyEq_E, List.findIdx?_cons]
  cases h : k == p.1 with
  | true => simp
  | false =>
   simp only [cond_false, mE_findI k r (i + 1)]
   cases (r.findIdx? fun p => k == p.1) with
   | none => simp
   | some j => simp; omega
theorem mE_updL (m : List (K × Int)) (k : K) (v : Int) : updL (kV k) (.v (.int .i64 v)) (mE m) = mE (meSet m k v) := by
 unfold updL
 rw [mE_findI]
 induction m with
 | nil => rfl
 | cons p r ih =>
  rw [List.findIdx?_cons]
  unfold meSet
  cases h : k == p.1 with
  | true => simp [mE]
  | false =>
   simp only [Bool.false_eq_true, if_false, cond_false]
   cases hr : (r.findIdx? fun p => k == p.1) with
   | none => rw [hr] at ih; simp [mE] at ih ⊢; exact ih
   | some j => rw [hr] at ih; simp [mE] at ih ⊢; exact ih
theorem ob_lookE (k : K) (vs : List Value) (hv : vs = (Enc.cells k).map svV) (mm : List (K × Int)) (kk : Nm) (nx : Nat) :
  resOb (.ok (leavesV (KeyE.L K) vs = true ∧ (mE mm).all (fun p => aggFits (KeyE.L K) p.1) = true) ⟨lookV (.int .i64 0) (.agg vs.toArray) (mE mm), [], nx, [kk.key]⟩) ⟨.v (.int .i64 (meGet mm k)), [], nx, [kk.key]⟩ := by
 subst hv
 exact ob_ok ⟨KeyE.fits k, mE_fits mm⟩ (mE_lookV mm k) rfl
theorem ob_msetE (k : K) (vs : List Value) (hv : vs = (Enc.cells k).map svV) (v : Int) (mm : List (K × Int)) (kk : Nat) (nx : Nat) :
  resOb (.ok (leavesV (KeyE.L K) vs = true ∧ (mE mm).all (fun p => aggFits (KeyE.L K) p.1) = true) ⟨.any, [(Nm.t kk, .map (updL (.agg vs.toArray) (.v (.int .i64 v)) (mE mm)))], nx, [Nm.t kk]⟩) ⟨.any, [(Nm.t kk, .map (mE (meSet mm k v)))], nx, [Nm.t kk]⟩ := by
 subst hv
 exact ob_ok ⟨KeyE.fits k, mE_fits mm⟩ rfl (by rw [show (Value.agg ((Enc.cells k).map svV).toArray) = kV k from rfl, mE_updL])
omit [Enc K] [KeyE K] in
def mePos (m : List (K × Int)) (k : K) : Int := ((m.findIdx? fun p => k == p.1).getD m.length : Nat)
theorem mE_pos (m : List (K × Int)) (k : K) : ((posV (kV k) (mE m) : Nat) : Int) = mePos m k := by
 unfold posV mePos
 rw [mE_findI]
 cases (m.findIdx? fun p => k == p.1) with
 | none => simp [mE]
 | some j => simp
omit [Enc K] [KeyE K] in
theorem mePos_set (k : K) (v : Int) : ∀ m : List (K × Int), (((meSet m k v).findIdx? fun p => k == p.1) = some ((m.findIdx? fun p => k == p.1).getD m.length)) ∧ (m.findIdx? fun p => k == p.1).getD m.length < (meSet m k v).length
 | [] => by simp [meSet]
 | p :: r => by
  obtain ⟨h1, h2⟩ := mePos_set k v r
  unfold meSet
  rw [List.findIdx?_cons]
  cases h : k == p.1 with
  | true => simp [List.findIdx?_cons]
  | false =>
   simp only [cond_false, List.findIdx?_cons, h, Bool.false_eq_true, if_false, h1]
   cases hf : (r.findIdx? fun p => k == p.1) with
   | none => rw [hf] at h2; simp at h2 ⊢; exact h2
   | some j => rw [hf] at h2; simp at h2 ⊢; exact h2
omit [KeyE K] in
theorem mE_mod (k : K) (w v : Int) : ∀ m : List (K × Int), (mE (meSet m k w)).modify ((m.findIdx? fun p => k == p.1).getD m.length) (fun p => (p.1, .v (.int .i64 v))) = mE (meSet m k v)
 | [] => by simp [meSet, mE]
 | p :: r => by
  have ih := mE_mod k w v r
  unfold meSet
  rw [List.findIdx?_cons]
  cases h : k == p.1 with
  | true => simp [mE]
  | false =>
   simp only [cond_false, Bool.false_eq_true, if_false]
   cases hf : (r.findIdx? fun p => k == p.1) with
   | none => rw [hf] at ih; simp [mE] at ih ⊢; exact ih
   | some j => rw [hf] at ih; simp [mE] at ih ⊢; exact ih
theorem ob_mentE (k : K) (vs : List Value) (hv : vs = (Enc.cells k).map svV) (mm : List (K × Int)) (kk : Nat) (nx : Nat) :
  resOb (.ok (leavesV (KeyE.L K) vs = true ∧ (mE mm).all (fun p => aggFits (KeyE.L K) p.1) = true) ⟨.tup [lookV (.int .i64 0) (.agg vs.toArray) (mE mm), .v (.int .i64 (posV (.agg vs.toArray) (mE mm) : Nat))], [(Nm.t kk, .map (updL (.agg vs.toArray) (lookV (.int .i64 0) (.agg vs.toArray) (mE mm)) (mE mm)))], nx, [Nm.t kk]⟩)
   ⟨.tup [.v (.int .i64 (meGet mm k)), .v (.int .i64 (mePos mm k))], [(Nm.t kk, .map (mE (meSet mm k (meGet mm k))))], nx, [Nm.t kk]⟩ := by
 subst hv
 have e : (Value.agg ((Enc.cells k).map svV).toArray) = kV k := rfl
 rw [e, mE_lookV, mE_pos, mE_updL]
 exact ob_ok ⟨KeyE.fits k, mE_fits mm⟩ rfl rfl
omit [KeyE K] in
theorem ob_estE (k : K) (w v : Int) (mm : List (K × Int)) (kk : Nat) (nx : Nat) :
  resOb (.ok (0 ≤ mePos mm k ∧ mePos mm k < ((mE (meSet mm k w)).length : Int)) ⟨.any, [(Nm.t kk, .map ((mE (meSet mm k w)).modify (mePos mm k).toNat fun p => (p.1, .v (.int .i64 v))))], nx, [Nm.t kk]⟩) ⟨.any, [(Nm.t kk, .map (mE (meSet mm k v)))], nx, [Nm.t kk]⟩ := by
 refine ob_ok ⟨by unfold mePos; omega, ?_⟩ rfl ?_
 ·have := (mePos_set k w mm).2
  unfold mePos mE
  rw [List.length_map]; omega
 ·rw [show (mePos mm k).toNat = (mm.findIdx? fun p => k == p.1).getD mm.length from by unfold mePos; omega, mE_mod]
end Go.Sx
end

section
namespace Go.Sx
open Go.RowKit
set_option linter.unusedVariables false
set_option linter.unusedSimpArgs false
variable {P : Program} {fr : Fr} {hp : Hp} {nx : Nat} {ops : Array Oper}
variable {n : Nat}
theorem VArr.vals (a : VArr n) : (Enc.cells a).map svV = a.l.map fun x => Value.int .i64 x := by
 show (VArr.cells a).map svV = _
 rw [VArr.cells_fl, List.map_map]; rfl
end Go.Sx
end
