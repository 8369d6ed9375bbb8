/-
  G, part H: texts.
-/
import Derived.Test.YtnnpjaoddniifaaGF
set_option linter.unusedSimpArgs false
set_option linter.unusedVariables false
namespace Go.Sx
open Go.RowKit
set_option linter.unusedVariables false
theorem bsplit_sx {ρ : Type} {b : Bool} {X Y : Option ρ} {o : ρ} {G : Prop} (h : (bif b then X else Y) = some o) (k1 : b = true → X = some o → G) (k2 : b = false → Y = some o → G) : G := by
  cases b with
  | true => exact k1 rfl h
  | false => exact k2 rfl h
theorem ob_range (s : ByteArray) (nx : Nat) : resOb (.ok True ⟨.it nx, [(nx, .obj s 0)], nx + 1, []⟩) ⟨.it nx, [(nx, .obj s 0)], nx + 1, []⟩ := ob_ok trivial rfl rfl
theorem ob_next_t (s : ByteArray) (p k nx : Nat) (hb : decide (p < s.size) = true) :
    resOb (bif decide (p < s.size) then .ok True ⟨.tup [.v (.bool true), .v (.int .i64 ((p : Nat) : Int)), .v (.int .i32 (((Utf8.decode s p).1 : Nat) : Int))], [(k, .obj s (p + (Utf8.decode s p).2))], nx, [k]⟩ else .ok True ⟨.tup [.v (.bool false)], [], nx, [k]⟩)
      ⟨.tup [.v (.bool true), .v (.int .i64 ((p : Nat) : Int)), .v (.int .i32 (((Utf8.decode s p).1 : Nat) : Int))], [(k, .obj s (p + (Utf8.decode s p).2))], nx, [k]⟩ := by rw [hb]; exact ob_ok trivial rfl rfl
theorem ob_next_f (s : ByteArray) (p k nx : Nat) (hb : decide (p < s.size) = false) :
    resOb (bif decide (p < s.size) then .ok True ⟨.tup [.v (.bool true), .v (.int .i64 ((p : Nat) : Int)), .v (.int .i32 (((Utf8.decode s p).1 : Nat) : Int))], [(k, .obj s (p + (Utf8.decode s p).2))], nx, [k]⟩ else .ok True ⟨.tup [.v (.bool false)], [], nx, [k]⟩)
      ⟨.tup [.v (.bool false)], [], nx, [k]⟩ := by rw [hb]; exact ob_ok trivial rfl rfl
theorem fl_ints {α : Type} [Enc α] {k : IntKind} (get : α → Int) (hg : ∀ a, Enc.cells a = [.v (.int k (get a))]) (xs : List α) : fl xs = xs.map fun a => .v (.int k (get a)) := by
  induction xs with
  | nil => rfl
  | cons x r ih =>
    have : fl (x :: r) = Enc.cells x ++ fl r := rfl
    rw [this, ih, hg]; rfl
theorem isI_map {α : Type} {k : IntKind} (get : α → Int) (xs : List α) : (xs.map fun a => SV.v (.int k (get a))).all (isI k) = true := by
  rw [List.all_eq_true]
  intro x hx
  obtain ⟨a, _, rfl⟩ := List.mem_map.1 hx
  simp [isI]
theorem intOf_map {α : Type} {k : IntKind} (get : α → Int) (xs : List α) : (xs.map fun a => SV.v (.int k (get a))).map intOf = xs.map get := by
  rw [List.map_map]; rfl
theorem ob_runes {α : Type} [Enc α] (mk : Int → α) (hm : ∀ n, Enc.cells (mk n) = [.v (.int .i32 n)]) (s : ByteArray) (e : TypeId) (nx : Nat) (k : (runesOf s).length ≤ 70368744177664) :
    resOb (.ok ((runesOf s).length ≤ 70368744177664) ⟨.own nx 0 (runesOf s).length, [(nx, .row e ((runesOf s).map fun n => .v (.int .i32 n)))], nx + 1, []⟩) ⟨.own nx 0 ((runesOf s).map mk).length, [(nx, .row e (fl ((runesOf s).map mk)))], nx + 1, []⟩ := by
  refine ob_ok k (by rw [List.length_map]) ?_
  have : fl ((runesOf s).map mk) = (runesOf s).map fun n => .v (.int .i32 n) := by
    induction (runesOf s) with
    | nil => rfl
    | cons x r ih =>
      have : fl ((x :: r).map mk) = Enc.cells (mk x) ++ fl (r.map mk) := rfl
      rw [this, ih, hm]; rfl
  rw [this]
/-- A text of a list of letters (f: encL), or of bytes (bytL). -/
theorem ob_str_o {α : Type} [Enc α] (kd : IntKind) (f : List Int → ByteArray) (get : α → Int) (hg : ∀ a, Enc.cells a = [.v (.int kd (get a))]) (xs : List α) (kk nx : Nat) :
    resOb (bif (appCells (fl xs) 0 (xs.length * 1)).all (isI kd) then .ok (0 + xs.length * 1 ≤ (fl xs).length ∧ (appCells (fl xs) 0 (xs.length * 1)).length = xs.length * 1) ⟨.v (.string (f ((appCells (fl xs) 0 (xs.length * 1)).map intOf))), [], nx, [kk]⟩ else .bad) ⟨.v (.string (f (xs.map get))), [], nx, [kk]⟩ := by
  rw [fl_ints get hg xs]
  have : appCells (xs.map fun a => SV.v (.int kd (get a))) 0 (xs.length * 1) = xs.map fun a => SV.v (.int kd (get a)) := by
    unfold appCells
    rw [List.drop_zero, Nat.mul_one, List.take_of_length_le (by simp)]
  rw [this, isI_map, cond_true, intOf_map]
  exact ob_ok ⟨by simp, by simp⟩ rfl rfl
theorem ob_str_l {α : Type} [Enc α] (kd : IntKind) (f : List Int → ByteArray) (get : α → Int) (hg : ∀ a, Enc.cells a = [.v (.int kd (get a))]) (xs : List α) (nx : Nat) :
    resOb (bif (fl xs).all (isI kd) then .ok ((fl xs).length = xs.length * 1 ∧ (fl xs).length = xs.length * 1) ⟨.v (.string (f ((fl xs).map intOf))), [], nx, []⟩ else .bad) ⟨.v (.string (f (xs.map get))), [], nx, []⟩ := by
  rw [fl_ints get hg xs, isI_map, cond_true, intOf_map]
  exact ob_ok ⟨by simp, by simp⟩ rfl rfl
theorem ob_str_0 (kd : IntKind) (f : List Int → ByteArray) (nx : Nat) :
    resOb (bif ([] : List SV).all (isI kd) then .ok (True ∧ ([] : List SV).length = 0 * 1) ⟨.v (.string (f (([] : List SV).map intOf))), [], nx, []⟩ else .bad) ⟨.v (.string (f [])), [], nx, []⟩ := ob_ok ⟨trivial, rfl⟩ rfl rfl
/-- A place in a table. -/
theorem ob_tab {α : Type} [Enc α] (tab : List α) (raw : List SV) (hraw : raw = fl tab) (len z nx : Nat) (hl : tab.length = len) (i : Int) (k : 0 ≤ i ∧ i < ((tab.length : Nat) : Int)) :
    resOb (.ok (0 ≤ i ∧ i < ((len : Nat) : Int)) ⟨.iptr raw (0 + i.toNat * z), [], nx, []⟩) ⟨.iptr (fl tab) (i.toNat * z), [], nx, []⟩ := ob_ok (hl ▸ k) (by rw [hraw, Nat.zero_add]) rfl
end Go.Sx
