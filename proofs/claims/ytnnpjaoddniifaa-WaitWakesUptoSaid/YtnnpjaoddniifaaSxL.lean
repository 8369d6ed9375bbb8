/-
  Sx, part L: equality of structs and arrays whose parts are numbers, bools and texts.
-/
import Derived.Test.YtnnpjaoddniifaaSxK
import Derived.ChangeKeysEq
import Derived.Laws.StructEq
set_option linter.unusedSimpArgs false
set_option linter.unusedVariables false
namespace Go.Sx
set_option linter.unusedVariables false
open Go.RowKit
variable {P : Program}

mutual
/-- The leaves of a type, if all of them are numbers, bools or texts, side by side. -/
def flatT (P : Program) : Nat → TypeId → Option (List TypeDesc)
  | 0, _ => none
  | d + 1, t => match P.underlying t with
    | some (.int k) => some [.int k]
    | some .bool => some [.bool]
    | some .string => some [.string]
    | some (.struct fs) => if P.stoodInHeld t || P.eqGuardType P.depth t then none else flatFs P d fs.toList 0
    | some (.array n e) => match flatT P d e with
      | some l => if szT P e = some l.length then some ((List.range n).flatMap fun _ => l) else none
      | none => none
    | _ => none
def flatFs (P : Program) : Nat → List Field → Nat → Option (List TypeDesc)
  | _, [], _ => some []
  | 0, _ :: _, _ => none
  | d + 1, f :: r, off => if f.name = "_" ∨ f.offset ≠ off then none else match flatT P d f.type with
    | some l => if szT P f.type = some l.length then (flatFs P d r (off + l.length)).map (l ++ ·) else none
    | none => none
end

def leafV : TypeDesc → Value → Bool
  | .int k, .int k' _ => k == k'
  | .bool, .bool _ => true
  | .string, .string _ => true
  | _, _ => false
def eqV : Value → Value → Bool
  | .int _ a, .int _ b => a == b
  | .bool a, .bool b => a == b
  | .string a, .string b => decide (a = b)
  | _, _ => false
def eqR (xs ys : Array Value) (off n : Nat) : Bool := (List.range n).all fun j => eqV (xs.getD (off + j) undef) (ys.getD (off + j) undef)
structure Leaves (xs : Array Value) (off : Nat) (l : List TypeDesc) : Prop where
  size : off + l.length ≤ xs.size
  at_ : ∀ j d, l[j]? = some d → leafV d (xs.getD (off + j) undef) = true

theorem Leaves.left {xs : Array Value} {off : Nat} {l r : List TypeDesc} (h : Leaves xs off (l ++ r)) : Leaves xs off l :=
  ⟨by have := h.size; rw [List.length_append] at this; omega, fun j d hj => h.at_ j d (by rw [List.getElem?_append_left (List.getElem?_eq_some_iff.1 hj).1]; exact hj)⟩
theorem Leaves.right {xs : Array Value} {off : Nat} {l r : List TypeDesc} (h : Leaves xs off (l ++ r)) : Leaves xs (off + l.length) r :=
  ⟨by have := h.size; rw [List.length_append] at this; omega, fun j d hj => by
    have := h.at_ (l.length + j) d (by rw [List.getElem?_append_right (by omega)]; rw [Nat.add_sub_cancel_left]; exact hj)
    rwa [← Nat.add_assoc] at this⟩
theorem Leaves.extract {xs : Array Value} {off : Nat} {l : List TypeDesc} (h : Leaves xs off l) : Leaves (xs.extract off (off + l.length)) 0 l :=
  ⟨by have := h.size; simp only [Array.size_extract]; omega, fun j d hj => by
    have := h.at_ j d hj
    have hlt := (List.getElem?_eq_some_iff.1 hj).1
    have hsz := h.size
    rw [Array.getD_eq_getD_getElem?, Array.getElem?_eq_getElem (show off + j < xs.size by omega)] at this
    rw [Array.getD_eq_getD_getElem?, Nat.zero_add, Array.getElem?_extract, if_pos (by omega), Array.getElem?_eq_getElem (show off + j < xs.size by omega)]
    exact this⟩
theorem eqR_extract {xs ys : Array Value} {off n : Nat} (hx : off + n ≤ xs.size) (hy : off + n ≤ ys.size) : eqR (xs.extract off (off + n)) (ys.extract off (off + n)) 0 n = eqR xs ys off n := by
  unfold eqR
  rw [Bool.eq_iff_iff, List.all_eq_true, List.all_eq_true]
  refine forall_congr' fun j => ?_
  refine imp_congr_right fun hj => ?_
  rw [List.mem_range] at hj
  simp only [Array.getD_eq_getD_getElem?, Nat.zero_add, Array.getElem?_extract]
  rw [if_pos (by omega), if_pos (by omega)]
theorem eqR_add (xs ys : Array Value) (off a b : Nat) : eqR xs ys off (a + b) = (eqR xs ys off a && eqR xs ys (off + a) b) := by
  unfold eqR
  rw [List.range_add, List.all_append, List.all_map]
  congr 1
  simp only [Function.comp_def, Nat.add_assoc]

theorem part_leaf {t : TypeId} {d : TypeDesc} (hu : P.underlying t = some d) (hd : d.isRow = false) (xs : Array Value) (off : Nat) (h : off < xs.size) (w : World) : (part t xs off).run P w = .ok (xs.getD off undef) w := by
  have : (isAgg t).run P w = .ok false w := by
    unfold isAgg; rw [Sem.run_bind, run_underlying hu w]
    cases d <;> first | rfl | cases hd
  simp only [part, Sem.run_bind, this, Result.andThen_ok, Bool.false_eq_true, if_false]
  simp [Array.getD_eq_getD_getElem?, Array.getElem?_eq_getElem h]
theorem part_agg {t : TypeId} {d : TypeDesc} (hu : P.underlying t = some d) (hd : d.isRow = true) {n : Nat} (hs : szT P t = some n) (xs : Array Value) (off : Nat) (w : World) : (part t xs off).run P w = .ok (.agg (xs.extract off (off + n))) w := by
  have : (isAgg t).run P w = .ok true w := by
    unfold isAgg; rw [Sem.run_bind, run_underlying hu w]
    cases d <;> first | rfl | cases hd
  obtain ⟨i, hi, rfl⟩ := szT_some hs
  simp [part, Sem.run_bind, this, sizeOf, typeInfo, hi]

theorem eqR_one (xs ys : Array Value) (off : Nat) : eqR xs ys off 1 = eqV (xs.getD off undef) (ys.getD off undef) := by simp [eqR]

/-- What equality of two parts is. -/
def EqPart (P : Program) (D : Nat) (t : TypeId) (l : List TypeDesc) : Prop :=
  ∀ (xs ys : Array Value) (off : Nat) (w : World), Leaves xs off l → Leaves ys off l →
    ∃ a b, (part t xs off).run P w = .ok a w ∧ (part t ys off).run P w = .ok b w ∧ (Op.equalIn D t a b).run P w = .ok (eqR xs ys off l.length) w

theorem eq_leaf {t : TypeId} {d : TypeDesc} (hu : P.underlying t = some d) (hk : (∃ k, d = .int k) ∨ d = .bool ∨ d = .string) (D : Nat) : EqPart P (D + 1) t [d] := by
  intro xs ys off w hx hy
  have hd : d.isRow = false := by rcases hk with ⟨k, rfl⟩ | rfl | rfl <;> rfl
  have lx := hx.at_ 0 d rfl
  have ly := hy.at_ 0 d rfl
  have sx := hx.size
  have sy := hy.size
  simp only [List.length_cons, List.length_nil, Nat.zero_add, Nat.add_zero] at *
  refine ⟨_, _, part_leaf hu hd xs off (by omega) w, part_leaf hu hd ys off (by omega) w, ?_⟩
  rw [eqR_one]
  generalize xs.getD off undef = a at *
  generalize ys.getD off undef = b at *
  rcases hk with ⟨k, rfl⟩ | rfl | rfl
  · cases a <;> simp only [leafV, Bool.false_eq_true] at lx
    cases b <;> simp only [leafV, Bool.false_eq_true] at ly
    have e1 := eq_of_beq lx
    have e2 := eq_of_beq ly
    subst e1; subst e2
    rw [run_equalIn_int w D t _ _ _ _ hu]; rfl
  · cases a <;> simp only [leafV, Bool.false_eq_true] at lx
    cases b <;> simp only [leafV, Bool.false_eq_true] at ly
    rw [run_equalIn_bool' w D t _ _ hu]; rfl
  · cases a <;> simp only [leafV, Bool.false_eq_true] at lx
    cases b <;> simp only [leafV, Bool.false_eq_true] at ly
    rename_i s r
    rw [run_equalIn_string w D t _ _ hu, ← beq_toListBytes]
    congr 1
    rw [eqV, Bool.eq_iff_iff, decide_eq_true_eq]
    exact ⟨fun h => ba_eq h, fun h => h ▸ ba_self s⟩

theorem eq_fields : ∀ (fs : List Field) (D : Nat) (off : Nat) (l : List TypeDesc) (F : Nat),
    (∀ F' t l', F' ≤ F → flatT P F' t = some l' → szT P t = some l'.length → EqPart P D t l') → flatFs P F fs off = some l → ∀ (xs ys : Array Value) (w : World), Leaves xs off l → Leaves ys off l →
    (Op.eqFields D xs ys fs).run P w = .ok (eqR xs ys off l.length) w
  | [], D, off, l, F, hF, h, xs, ys, w, hx, hy => by
    unfold flatFs at h; cases h
    simp [Op.eqFields, eqR]
  | f :: r, D, off, l, 0, hF, h, xs, ys, w, hx, hy => by unfold flatFs at h; cases h
  | f :: r, D, off, l, F + 1, hF, h, xs, ys, w, hx, hy => by
    unfold flatFs at h
    split at h
    · cases h
    · rename_i hn
      simp only [not_or, Decidable.not_not] at hn
      obtain ⟨hn1, rfl⟩ := hn
      split at h
      · rename_i l1 hl1
        split at h
        · rename_i hsz
          cases hr : flatFs P F r (f.offset + l1.length) with
          | none => rw [hr] at h; cases h
          | some l2 =>
            rw [hr] at h; cases h
            obtain ⟨a, b, ha, hb, he⟩ := hF F f.type l1 (by omega) hl1 hsz xs ys f.offset w hx.left hy.left
            have ih := eq_fields r D (f.offset + l1.length) l2 F (fun F' t l' h1 => hF F' t l' (by omega)) hr xs ys w hx.right hy.right
            simp only [Op.eqFields]
            rw [if_pos hn1]
            simp only [Sem.run_bind, ha, Result.andThen_ok, hb, he, List.length_append, eqR_add]
            cases eqR xs ys f.offset l1.length with
            | true => simpa using ih
            | false => simp
        · cases h
      · cases h

theorem eq_items {e : TypeId} {D : Nat} {l : List TypeDesc} (hE : EqPart P D e l) (hs : P.cellsOf e = l.length) : ∀ (n k : Nat) (xs ys : Array Value) (w : World),
    Leaves xs (k * l.length) ((List.range n).flatMap fun _ => l) → Leaves ys (k * l.length) ((List.range n).flatMap fun _ => l) →
    (Op.eqItems D e (P.cellsOf e) xs ys (List.range' k n)).run P w = .ok (eqR xs ys (k * l.length) (n * l.length)) w
  | 0, k, xs, ys, w, hx, hy => by simp [Op.eqItems, eqR]
  | n + 1, k, xs, ys, w, hx, hy => by
    have hsplit : ((List.range (n + 1)).flatMap fun _ => l) = l ++ (List.range n).flatMap fun _ => l := by
      rw [List.range_succ_eq_map, List.flatMap_cons, List.flatMap_map]
    rw [hsplit] at hx hy
    obtain ⟨a, b, ha, hb, he⟩ := hE xs ys (k * l.length) w hx.left hy.left
    have hr1 := hx.right
    have hr2 := hy.right
    rw [← Nat.succ_mul] at hr1 hr2
    have ih := eq_items hE hs n (k + 1) xs ys w hr1 hr2
    rw [List.range'_succ]
    simp only [Op.eqItems, Sem.run_bind]
    rw [hs] at ih ⊢
    simp only [ha, Result.andThen_ok, hb, he]
    rw [Nat.succ_mul n, Nat.add_comm (n * l.length), eqR_add, ← Nat.succ_mul]
    cases eqR xs ys (k * l.length) l.length with
    | true => simpa using ih
    | false => simp

theorem eq_flat : ∀ (F : Nat) (t : TypeId) (l : List TypeDesc) (D : Nat), F ≤ D → flatT P F t = some l → (szT P t = some l.length) → EqPart P D t l := by
  intro F
  induction F using Nat.strongRecOn with
  | _ F ih =>
    intro t l D hD h hsz0
    cases F with
    | zero => unfold flatT at h; cases h
    | succ F =>
      cases D with
      | zero => omega
      | succ D =>
        unfold flatT at h
        split at h
        · rename_i k hu; cases h; exact eq_leaf hu (.inl ⟨k, rfl⟩) D
        · rename_i hu; cases h; exact eq_leaf hu (.inr (.inl rfl)) D
        · rename_i hu; cases h; exact eq_leaf hu (.inr (.inr rfl)) D
        · rename_i fs hu
          split at h
          · cases h
          · rename_i hst
            simp only [Bool.or_eq_true, not_or, Bool.not_eq_true] at hst
            intro xs ys off w hx hy
            refine ⟨_, _, part_agg hu rfl hsz0 xs off w, part_agg hu rfl hsz0 ys off w, ?_⟩
            have hf : P.fieldsOf t = fs := by unfold Program.fieldsOf; rw [hu]
            rw [run_equalIn_struct w D t _ _ (by rw [hf]; exact hu) hst.1, hf]
            rw [eq_fields fs.toList D 0 l F (fun F' t l' h1 h2 h3 => ih F' (by omega) t l' D (by omega) h2 h3) h _ _ w hx.extract hy.extract]
            rw [eqR_extract hx.size hy.size]
        · rename_i n e hu
          split at h
          · rename_i l1 hl1
            split at h
            · rename_i hsz
              cases h
              intro xs ys off w hx hy
              refine ⟨_, _, part_agg hu rfl hsz0 xs off w, part_agg hu rfl hsz0 ys off w, ?_⟩
              obtain ⟨i, hi, _⟩ := szT_some hsz
              rw [run_equalIn_array w D _ _ hu hi]
              have he := ih F (by omega) e l1 D (by omega) hl1 hsz
              have := eq_items he (szT_cells hsz) n 0 (xs.extract off (off + ((List.range n).flatMap fun _ => l1).length)) (ys.extract off (off + ((List.range n).flatMap fun _ => l1).length)) w (by rw [Nat.zero_mul]; exact hx.extract) (by rw [Nat.zero_mul]; exact hy.extract)
              rw [← List.range_eq_range'] at this
              rw [this, Nat.zero_mul, ← length_flatMap_const, eqR_extract hx.size hy.size]
            · cases h
          · cases h
        · cases h

end Go.Sx
