/-
  Sx, law level: what a reading of the arguments tells of them.
-/
import Derived.Test.YtnnpjaoddniifaaSxZ
import Derived.DataReads
import Derived.ChangeArms
import GoSem.ClaimChange
set_option linter.unusedSimpArgs false
set_option linter.unusedVariables false
namespace Go.Sx
open Go.RowKit

/-- The types that are read. -/
inductive Ty where
  | int (k : IntKind)
  | bool
  | str
  | sl (e : Ty)
  | unit
  | pair (a b : Ty)
  | arr (n : Nat) (e : Ty)
abbrev Ty.den : Ty → Type
  | .int _ => Int
  | .bool => Bool
  | .str => ByteArray
  | .sl e => List e.den
  | .unit => Unit
  | .pair a b => a.den × b.den
  | .arr _ e => List e.den
def Ty.width : Ty → Nat
  | .unit => 0
  | .pair a b => a.width + b.width
  | .arr n e => n * e.width
  | _ => 1
/-- Its cells. -/
def Ty.sv : (T : Ty) → T.den → List SV
  | .int k, x => [.v (.int k x)]
  | .bool, x => [.v (.bool x)]
  | .str, x => [.v (.string x)]
  | .sl e, xs => [.sl xs.length (xs.flatMap e.sv)]
  | .unit, _ => []
  | .pair a b, x => a.sv x.1 ++ b.sv x.2
  | .arr _ e, xs => xs.flatMap e.sv
def Ty.ok : (T : Ty) → T.den → Prop
  | .int k, x => (Lit.int k x).wf = true
  | .bool, _ => True
  | .str, x => x.size ≤ maxLen
  | .sl e, xs => xs.length ≤ maxLen ∧ ∀ x ∈ xs, e.ok x
  | .unit, _ => True
  | .pair a b, x => a.ok x.1 ∧ b.ok x.2
  | .arr n e, xs => xs.length = n ∧ ∀ x ∈ xs, e.ok x
/-- As an argument. -/
def Ty.arg : (T : Ty) → T.den → SV
  | .int k, x => .v (.int k x)
  | .bool, x => .v (.bool x)
  | .str, x => .v (.string x)
  | .sl e, xs => .sl xs.length (xs.flatMap e.sv)
  | .unit, _ => .agg []
  | .pair a b, x => .agg (a.sv x.1 ++ b.sv x.2)
  | .arr _ e, xs => .agg (xs.flatMap e.sv)

theorem Ty.sv_length : ∀ (T : Ty) (x : T.den), T.ok x → (T.sv x).length = T.width
  | .int _, _, _ => rfl
  | .bool, _, _ => rfl
  | .str, _, _ => rfl
  | .sl _, _, _ => rfl
  | .unit, _, _ => rfl
  | .pair a b, x, h => by simp only [Ty.sv, List.length_append, Ty.width, Ty.sv_length a x.1 h.1, Ty.sv_length b x.2 h.2]
  | .arr n e, xs, h => by
    obtain ⟨hn, h⟩ := h
    have : ∀ xs : List e.den, (∀ x ∈ xs, e.ok x) → (xs.flatMap e.sv).length = xs.length * e.width := by
      intro xs
      induction xs with
      | nil => exact fun _ => by simp
      | cons x xs ih => exact fun hx => by rw [List.flatMap_cons, List.length_append, ih fun y hy => hx y (by simp [hy]), Ty.sv_length e x (hx x (by simp)), List.length_cons]; rw [Nat.add_mul]; omega
    simp only [Ty.sv, Ty.width]; rw [this xs h, hn]

mutual
/-- Is it that type? -/
def tyB (P : Program) : Nat → TypeId → Ty → Bool
  | 0, _, _ => false
  | F + 1, t, T => match P.underlying t, T with
    | some (.int k), .int k' => k == k'
    | some .bool, .bool => true
    | some .string, .str => true
    | some (.slice e), .sl E => P.cellsOf e == E.width && !(E.width == 0) && tyB P F e E
    | some (.struct fs), .pair a b => P.cellsOf t == (Ty.pair a b).width && fieldsB P F fs.toList 0 (.pair a b)
    | some (.struct fs), .unit => P.cellsOf t == 0 && fs.toList.isEmpty
    | some (.array n e), .arr n' E => n == n' && P.cellsOf e == E.width && P.cellsOf t == n * E.width && tyB P F e E
    | _, _ => false
def fieldsB (P : Program) : Nat → List Field → Nat → Ty → Bool
  | 0, _, _, _ => false
  | F + 1, fs, off, T => match fs, T with
    | [], .unit => true
    | f :: r, .pair a b => f.offset == off && P.cellsOf f.type == a.width && tyB P F f.type a && fieldsB P F r (off + a.width) b
    | _, _ => false
end

theorem flatMap_get {α : Type} {f : α → List SV} {z : Nat} (hz : 0 < z) : ∀ (xs : List α), (∀ x ∈ xs, (f x).length = z) → ∀ i s, (xs.flatMap f)[i]? = some s → ∃ x, xs[i / z]? = some x ∧ (f x)[i % z]? = some s
  | [], _, i, s, h => by simp at h
  | a :: xs, hl, i, s, h => by
    rw [List.flatMap_cons, List.getElem?_append] at h
    have ha := hl a (by simp)
    rw [ha] at h
    by_cases hi : i < z
    · rw [if_pos hi] at h
      rw [Nat.div_eq_of_lt hi, Nat.mod_eq_of_lt hi]
      exact ⟨a, rfl, h⟩
    · rw [if_neg hi] at h
      obtain ⟨x, h1, h2⟩ := flatMap_get hz xs (fun x hx => hl x (by simp [hx])) (i - z) s h
      refine ⟨x, ?_, ?_⟩
      · rw [show i / z = (i - z) / z + 1 from by rw [Nat.div_eq_sub_div hz (by omega)], List.getElem?_cons_succ]; exact h1
      · rw [Nat.mod_eq_sub_mod (by omega)]; exact h2

def Dens (P : Program) (C : Nat → Chunk) (ids : Ids) (I : Nat → Prop) (w : World) (cs : List Value) (off : Nat) (l : List SV) : Prop :=
  ∀ i s, l[i]? = some s → Den P C ids I w s (cs.getD (off + i) undef)

theorem list_pick {α β : Type} {Q : Nat → α → β → Prop} : ∀ (ys : List α) (o : Nat), (∀ i y, ys[i]? = some y → ∃ x, Q (o + i) y x) → ∃ xs : List β, xs.length = ys.length ∧ ∀ i x, xs[i]? = some x → ∃ y, ys[i]? = some y ∧ Q (o + i) y x
  | [], _, _ => ⟨[], rfl, fun i x h => by simp at h⟩
  | a :: ys, o, h => by
    obtain ⟨x, hx⟩ := h 0 a rfl
    obtain ⟨xs, h1, h2⟩ := list_pick (Q := Q) ys (o + 1) fun i y hy => by
      have := h (i + 1) y (by simpa using hy)
      rwa [show o + (i + 1) = o + 1 + i from by omega] at this
    refine ⟨x :: xs, by simp [h1], fun i z hz => ?_⟩
    cases i with
    | zero => simp at hz; subst hz; exact ⟨a, rfl, hx⟩
    | succ i =>
      obtain ⟨y, g1, g2⟩ := h2 i z (by simpa using hz)
      exact ⟨y, by simpa using g1, by rw [show o + (i + 1) = o + 1 + i from by omega]; exact g2⟩

section
variable {H : Type} {enc : TypeId × Value → H} {P : Program} {w : World} {sp : Nat → Bool} {held : Bool} {C : Nat → Chunk} {ids : Ids} {I : Nat → Prop}

/-- How a reading stands for what is read. -/
def Ty.rep (H : Type) : (T : Ty) → T.den → DataW H → Prop
  | .int k, x, d => d = .lit (.int k x)
  | .bool, x, d => d = .lit (.bool x)
  | .str, x, d => d = .lit (.string x.data.toList)
  | .sl e, xs, d => (xs = [] ∧ d = .nil) ∨ ∃ el spn, d = .slice el spn ∧ el.length = xs.length ∧ ∀ (i : Nat) (x : e.den), (xs : List e.den)[i]? = some x → ∃ y, el[i]? = some y ∧ e.rep H x y
  | .unit, _, _ => True
  | .pair a b, x, d => ∃ p r, d = .agg (p :: r) ∧ a.rep H x.1 p ∧ b.rep H x.2 (.agg r)
  | .arr _ e, xs, d => ∃ el, d = .agg el ∧ el.length = xs.length ∧ ∀ (i : Nat) (x : e.den), (xs : List e.den)[i]? = some x → ∃ y, el[i]? = some y ∧ e.rep H x y

def ReadsT (H : Type) (enc : TypeId × Value → H) (P : Program) (w : World) (sp : Nat → Bool) (held : Bool) (C : Nat → Chunk) (ids : Ids) (I : Nat → Prop) (T : Ty) : Prop :=
  ∀ (F fuel : Nat) (t : TypeId) (cs : List Value) (d : DataW H) (ps : List MemPlace), tyB P F t T = true → DataW.trod enc P w 0 sp held fuel t cs = some (d, ps) →
    ∃ x : T.den, T.ok x ∧ cs.length = T.width ∧ Dens P C ids I w cs 0 (T.sv x) ∧ T.rep H x d
def ReadsF (H : Type) (enc : TypeId × Value → H) (P : Program) (w : World) (sp : Nat → Bool) (held : Bool) (C : Nat → Chunk) (ids : Ids) (I : Nat → Prop) (T : Ty) : Prop :=
  ∀ (F fuel : Nat) (fs : List Field) (off : Nat) (cs : List Value) (xs : List (DataW H × List MemPlace)), fieldsB P F fs off T = true → xs.length = fs.length →
    (∀ (i : Nat) (f : Field), fs[i]? = some f → DataW.trod enc P w 0 sp held fuel f.type ((cs.drop f.offset).take (P.cellsOf f.type)) = xs[i]?) →
    ∃ x : T.den, T.ok x ∧ Dens P C ids I w cs off (T.sv x) ∧ T.rep H x (.agg (xs.map (·.1)))

theorem dens_cat {cs : List Value} {off : Nat} {l r : List SV} {n : Nat} (h : Dens P C ids I w cs off l) (hn : l.length = n) (g : Dens P C ids I w cs (off + n) r) : Dens P C ids I w cs off (l ++ r) := fun i s hi => by
  rw [List.getElem?_append] at hi
  by_cases hl : i < l.length
  · rw [if_pos hl] at hi; exact h i s hi
  · rw [if_neg hl] at hi
    have := g _ s hi
    rwa [show off + n + (i - l.length) = off + i from by omega] at this
theorem dens_one {v : Value} {s : SV} (h : Den P C ids I w s v) : Dens P C ids I w [v] 0 [s] := fun i x hi => by
  cases i with
  | zero => simp at hi; subst hi; exact h
  | succ i => simp at hi

theorem trod_array {fuel : Nat} {t e : TypeId} {n : Nat} {cs : List Value} {x : DataW H × List MemPlace} (ht : P.underlying t = some (.array n e)) (h : DataW.trod enc P w 0 sp held fuel t cs = some x) :
    ∃ (xs : List (DataW H × List MemPlace)) (m : Nat), x.1 = .agg (xs.map (·.1)) ∧ cs.length = P.cellsOf t ∧ xs.length = n ∧ ∀ i, i < n → DataW.trod enc P w 0 sp held m e ((cs.drop (i * P.cellsOf e)).take (P.cellsOf e)) = xs[i]? := by
  cases fuel with
  | zero => simp [DataW.trod] at h
  | succ m =>
    unfold DataW.trod at h
    rw [ht] at h
    split at h <;> simp_all
    obtain ⟨hl, xs, hp, hd⟩ := h
    refine ⟨xs, by rw [← hd], ?_, m, fun i hi => mapM_some_get hp i i (by simp [hi])⟩
    simpa using mapM_some_length hp

/-- A list of things read one by one. -/
theorem reads_list {e : Ty} (ih : ReadsT H enc P w sp held C ids I e) {F m : Nat} {te : TypeId} (hB : tyB P F te e = true) {n : Nat} {row : Nat → List Value} {els : List (DataW H × List MemPlace)} (hl : els.length = n)
    (h : ∀ i, i < n → DataW.trod enc P w 0 sp held m te (row i) = els[i]?) : ∃ xs : List e.den, xs.length = n ∧ (∀ x ∈ xs, e.ok x) ∧ (∀ (i : Nat) (x : e.den), xs[i]? = some x → (row i).length = e.width ∧ Dens P C ids I w (row i) 0 (e.sv x)) ∧ ∀ (i : Nat) (x : e.den), xs[i]? = some x → ∃ y, (els.map (·.1))[i]? = some y ∧ e.rep H x y := by
  obtain ⟨xs, h1, h2⟩ := list_pick (β := e.den) (Q := fun i (y : DataW H × List MemPlace) x => e.ok x ∧ (row i).length = e.width ∧ Dens P C ids I w (row i) 0 (e.sv x) ∧ e.rep H x y.1) els 0 fun i y hy => by
    have hi : i < n := by rw [← hl]; exact (List.getElem?_eq_some_iff.1 hy).1
    rw [Nat.zero_add]
    exact ih F m te (row i) y.1 y.2 hB (by rw [h i hi, hy])
  refine ⟨xs, h1.trans hl, fun x hx => ?_, fun i x hx => ?_, fun i x hx => ?_⟩
  · obtain ⟨i, hi, rfl⟩ := List.getElem_of_mem hx
    obtain ⟨y, _, g, _⟩ := h2 i _ (List.getElem?_eq_getElem hi)
    exact g
  · obtain ⟨y, _, _, g⟩ := h2 i x hx
    rw [Nat.zero_add] at g
    exact ⟨g.1, g.2.1⟩
  · obtain ⟨y, g1, _, _, _, g⟩ := h2 i x hx
    exact ⟨y.1, by rw [List.getElem?_map, g1]; rfl, g⟩

theorem addr_add {a : Addr} {n : Nat} {v : Value} (h : w.cell? (a.add n) = some v) : a.spot = none ∨ 0 < n := by
  unfold Addr.add at h
  by_cases hn : n = 0
  · rw [if_pos hn] at h
    unfold World.cell? at h
    split at h
    · split at h
      · cases h
      · rename_i hs; left; cases hsp : a.spot with
        | none => rfl
        | some _ => rw [hsp] at hs; simp at hs
    · cases h
  · exact .inr (by omega)

theorem reads (hI : ∀ b, b < w.heap.size → I b) : ∀ (T : Ty), ReadsT H enc P w sp held C ids I T ∧ ReadsF H enc P w sp held C ids I T := by
  intro T
  have noF : ∀ {T : Ty}, (∀ a b, T ≠ .pair a b) → T ≠ .unit → ReadsF H enc P w sp held C ids I T := fun {T} h1 h2 F fuel fs off cs xs hB _ _ => by
    cases F with
    | zero => simp [fieldsB] at hB
    | succ F =>
      unfold fieldsB at hB
      cases fs <;> cases T <;> simp at hB <;> first | exact absurd rfl h2 | exact absurd rfl (h1 _ _)
  have inv : ∀ {F : Nat} {t : TypeId} {T : Ty}, tyB P F t T = true → ∃ F' d0, F = F' + 1 ∧ P.underlying t = some d0 := fun {F t T} hB => by
    cases F with
    | zero => simp [tyB] at hB
    | succ F =>
      unfold tyB at hB
      cases hu : P.underlying t with
      | none => rw [hu] at hB; simp at hB
      | some d0 => exact ⟨F, d0, rfl, rfl⟩
  induction T with
  | int k =>
    refine ⟨fun F fuel t cs d ps hB hr => ?_, noF (by simp) (by simp)⟩
    obtain ⟨F, d0, rfl, hu⟩ := inv hB
    unfold tyB at hB
    rw [hu] at hB
    cases d0 <;> simp at hB
    subst hB
    obtain ⟨n, rfl, h1, h2⟩ := DataW.trod_int hu hr
    cases h1
    exact ⟨n, h2, rfl, dens_one .v, rfl⟩
  | bool =>
    refine ⟨fun F fuel t cs d ps hB hr => ?_, noF (by simp) (by simp)⟩
    obtain ⟨F, d0, rfl, hu⟩ := inv hB
    unfold tyB at hB
    rw [hu] at hB
    cases d0 <;> simp at hB
    obtain ⟨n, rfl, h1⟩ := DataW.trod_bool hu hr
    cases h1
    exact ⟨n, trivial, rfl, dens_one .v, rfl⟩
  | str =>
    refine ⟨fun F fuel t cs d ps hB hr => ?_, noF (by simp) (by simp)⟩
    obtain ⟨F, d0, rfl, hu⟩ := inv hB
    unfold tyB at hB
    rw [hu] at hB
    cases d0 <;> simp at hB
    obtain ⟨n, rfl, h1, h2⟩ := DataW.trod_string hu hr
    cases h1
    exact ⟨n, h2, rfl, dens_one .v, rfl⟩
  | sl e ih =>
    refine ⟨fun F fuel t cs d ps hB hr => ?_, noF (by simp) (by simp)⟩
    obtain ⟨F, d0, rfl, hu⟩ := inv hB
    unfold tyB at hB
    rw [hu] at hB
    cases d0 <;> simp at hB
    rename_i te
    obtain ⟨⟨hw, h0⟩, hB⟩ := hB
    rcases DataW.trod_slice hu hr with ⟨rfl, h1⟩ | ⟨a, len, cap, els, rest, m, _, rfl, h1, _, h2, h3, h4, h5, _⟩
    · cases h1
      exact ⟨[], ⟨Nat.zero_le _, fun x hx => by cases hx⟩, rfl, dens_one (.sl0 (Nat.zero_le _)), .inl ⟨rfl, rfl⟩⟩
    · cases h1
      rw [hw] at h5
      -- the rows
      let row : Nat → List Value := fun i => (w.cells? 0 (a.add (i * e.width)) e.width).getD []
      have hrow : ∀ i, i < len → w.cells? 0 (a.add (i * e.width)) e.width = some (row i) := fun i hi => by
        have := h5 i hi
        rw [List.getElem?_eq_getElem (by omega)] at this
        cases hc : w.cells? 0 (a.add (i * e.width)) e.width with
        | none => rw [hc] at this; cases this
        | some cs => simp [row, hc]
      obtain ⟨xs, g1, g2, g3, g4⟩ := reads_list ih.1 hB (row := row) h4 fun i hi => by rw [← h5 i hi, hrow i hi]; rfl
      refine ⟨xs, ⟨by rw [g1]; omega, g2⟩, rfl, ?_, .inr ⟨_, _, rfl, by rw [List.length_map, h4, g1], g4⟩⟩
      refine dens_one ?_
      rw [g1]
      by_cases hlen : len = 0
      · subst hlen
        have : xs = [] := List.eq_nil_of_length_eq_zero g1
        subst this
        exact .sl0 h3
      · -- the first row's first cell
        obtain ⟨_, c1, c2⟩ := World.cells?_some (hrow 0 (by omega))
        have hc0 := c2 0 (by omega)
        rw [List.getElem?_eq_getElem (by omega)] at hc0
        have hspot : a.spot = none := by
          rw [Nat.zero_mul] at hc0
          have e0 : ∀ a : Addr, a.add 0 = a := fun a => by simp [Addr.add]
          rw [e0] at hc0
          rcases addr_add hc0 with h | h
          · exact h
          · omega
        have hblk : a.block < w.heap.size := by
          have := World.cells?_block (hrow 0 (by omega)) (by omega)
          simpa [Addr.add] using this
        obtain ⟨ab, ao, asp⟩ := a
        simp only at hspot hblk
        subst hspot
        have hcell : ∀ i s, (xs.flatMap e.sv)[i]? = some s → ∃ c, w.cell? ⟨ab, ao + i, none⟩ = some c ∧ Den P C ids I w s c := fun i s hi => by
          obtain ⟨x, q1, q2⟩ := flatMap_get (Nat.pos_of_ne_zero h0) xs (fun x hx => Ty.sv_length e x (g2 x hx)) i s hi
          have hq : i / e.width < len := by rw [← g1]; exact (List.getElem?_eq_some_iff.1 q1).1
          obtain ⟨r1, r2⟩ := g3 _ x q1
          have r3 := r2 _ s q2
          rw [Nat.zero_add] at r3
          obtain ⟨_, _, c4⟩ := World.cells?_some (hrow _ hq)
          have hm : i % e.width < e.width := Nat.mod_lt _ (Nat.pos_of_ne_zero h0)
          have c5 := c4 _ hm
          rw [List.getElem?_eq_getElem (by omega)] at c5
          refine ⟨_, ?_, r3⟩
          rw [List.getD_eq_getElem?_getD, List.getElem?_eq_getElem (by omega), Option.getD_some, ← c5]
          congr 1
          have hdm := Nat.div_add_mod i e.width
          rw [Nat.mul_comm] at hdm
          unfold Addr.add
          by_cases hz1 : i / e.width * e.width = 0
          · rw [if_pos hz1]
            by_cases hz2 : i % e.width = 0
            · rw [if_pos hz2]; simp; try omega
            · rw [if_neg hz2]; simp; try omega
          · rw [if_neg hz1]
            by_cases hz2 : i % e.width = 0
            · rw [if_pos hz2]; simp; try omega
            · rw [if_neg hz2]; simp; try omega
        refine .sl ab ao cap (fun i => (w.cell? ⟨ab, ao + i, none⟩).getD undef) (hI _ hblk) h2 h3 (fun i s hi => ?_) fun i s hi => ?_
        · obtain ⟨c, q1, _⟩ := hcell i s hi; rw [q1]; rfl
        · obtain ⟨c, q1, q2⟩ := hcell i s hi; rw [q1]; exact q2
  | unit =>
    refine ⟨fun F fuel t cs d ps hB hr => ?_, fun F fuel fs off cs xs hB hl hx => ⟨(), trivial, fun i s hi => by simp [Ty.sv] at hi, trivial⟩⟩
    obtain ⟨F, d0, rfl, hu⟩ := inv hB
    unfold tyB at hB
    rw [hu] at hB
    cases d0 <;> simp at hB
    obtain ⟨xs, n, _, h1, h2, _⟩ := DataW.trod_struct hu hr
    exact ⟨(), trivial, by rw [h2, hB.1]; rfl, fun i s hi => by simp [Ty.sv] at hi, trivial⟩
  | pair a b iha ihb =>
    have hF : ReadsF H enc P w sp held C ids I (.pair a b) := fun F fuel fs off cs xs hB hl hx => by
      cases F with
      | zero => simp [fieldsB] at hB
      | succ F =>
        unfold fieldsB at hB
        cases fs with
        | nil => simp at hB
        | cons f r =>
          simp only [Bool.and_eq_true, beq_iff_eq] at hB
          obtain ⟨⟨⟨h1, h2⟩, h3⟩, h4⟩ := hB
          cases xs with
          | nil => simp at hl
          | cons y ys =>
            have hy := hx 0 f rfl
            simp only [List.getElem?_cons_zero] at hy
            obtain ⟨x1, p1, p2, p3, p4⟩ := iha.1 F fuel f.type _ y.1 y.2 h3 hy
            obtain ⟨x2, q1, q3, q4⟩ := ihb.2 F fuel r (off + a.width) cs ys h4 (by simpa using hl) fun i f' hf' => by
              have := hx (i + 1) f' (by simpa using hf')
              simpa using this
            refine ⟨(x1, x2), ⟨p1, q1⟩, dens_cat (n := a.width) (fun i s hi => ?_) (Ty.sv_length a x1 p1) q3, ⟨y.1, ys.map (·.1), rfl, p4, q4⟩⟩
            have := p3 i s hi
            have hi2 : i < a.width := by rw [← Ty.sv_length a x1 p1]; exact (List.getElem?_eq_some_iff.1 hi).1
            rw [Nat.zero_add, List.getD_eq_getElem?_getD, List.getElem?_take, if_pos (by omega), List.getElem?_drop, h1] at this
            rw [List.getD_eq_getElem?_getD]
            exact this
    refine ⟨fun F fuel t cs d ps hB hr => ?_, hF⟩
    obtain ⟨F, d0, rfl, hu⟩ := inv hB
    unfold tyB at hB
    rw [hu] at hB
    cases d0 <;> simp at hB
    rename_i fs
    obtain ⟨hw, hB⟩ := hB
    obtain ⟨xs, n, _, h1, h2, h3, h4⟩ := DataW.trod_struct hu hr
    cases h1
    obtain ⟨x, g1, g2, g3⟩ := hF F n fs.toList 0 cs xs (by simpa using hB) (by simpa using h3) fun i f hf => h4 i f (by simpa using hf)
    exact ⟨x, g1, by rw [h2, hw], g2, g3⟩
  | arr n e ih =>
    refine ⟨fun F fuel t cs d ps hB hr => ?_, noF (by simp) (by simp)⟩
    obtain ⟨F, d0, rfl, hu⟩ := inv hB
    unfold tyB at hB
    rw [hu] at hB
    cases d0 <;> simp at hB
    rename_i n' te
    obtain ⟨⟨⟨rfl, h1⟩, h2⟩, hB⟩ := hB
    obtain ⟨els, m, h3, h4, h5, h6⟩ := trod_array hu hr
    simp only at h3
    subst h3
    rw [h1] at h6
    obtain ⟨xs, g1, g2, g3, g4⟩ := reads_list ih.1 hB (row := fun i => (cs.drop (i * e.width)).take e.width) h5 h6
    refine ⟨xs, ⟨g1, g2⟩, by rw [h4, h2]; rfl, fun i s hi => ?_, ⟨_, rfl, by rw [List.length_map, h5, g1], g4⟩⟩
    by_cases h0 : e.width = 0
    · have : xs.flatMap e.sv = [] := List.eq_nil_of_length_eq_zero (by
        have := Ty.sv_length (.arr n' e) xs ⟨g1, g2⟩
        simp only [Ty.sv, Ty.width, h0, Nat.mul_zero] at this
        exact this)
      simp only [Ty.sv, this] at hi
      simp at hi
    · obtain ⟨x, q1, q2⟩ := flatMap_get (Nat.pos_of_ne_zero h0) xs (fun x hx => Ty.sv_length e x (g2 x hx)) i s hi
      obtain ⟨r1, r2⟩ := g3 _ x q1
      have r3 := r2 _ s q2
      have hm : i % e.width < e.width := Nat.mod_lt _ (Nat.pos_of_ne_zero h0)
      have hdm := Nat.div_add_mod i e.width
      rw [Nat.mul_comm] at hdm
      rw [Nat.zero_add, List.getD_eq_getElem?_getD, List.getElem?_take, if_pos hm, List.getElem?_drop, hdm] at r3
      rw [Nat.zero_add, List.getD_eq_getElem?_getD]
      exact r3
end
end Go.Sx
