/-
  G, part H: texts.
-/
import Derived.Test.YtbnhbaehapalnaaGF
set_option linter.unusedSimpArgs false
set_option linter.unusedVariables false
namespace Go.Sx
open Go.RowKit
set_option linter.unusedVariables false
theorem bsplit_sx {ρ : Type} {b : Bool} {X Y : Option ρ} {o : ρ} {G : Prop} (h : (bif b then X else Y) = some o) (k1 : b = true → X = some o → G) (k2 : b = false → Y = some o → G) : G := by
  cases b with
  | true => exact k1 rfl h
  | false => exact k2 rfl h
theorem ob_range (s : ByteArray) (nx : Nat) : resOb (.ok True ⟨.it nx, [(nx, .obj s 0)], nx + 1, []⟩) ⟨.it nx, [(nx, .obj s 0)], nx + 1, []⟩ := ob_ok trivial rfl rfl
theorem ob_next_t (s : ByteArray) (p k nx : Nat) (hb : decide (p < s.size) = true) :
    resOb (bif decide (p < s.size) then .ok True ⟨.tup [.v (.bool true), .v (.int .i64 ((p : Nat) : Int)), .v (.int .i32 (((Utf8.decode s p).1 : Nat) : Int))], [(k, .obj s (p + (Utf8.decode s p).2))], nx, [k]⟩ else .ok True ⟨.tup [.v (.bool false)], [], nx, [k]⟩)
      ⟨.tup [.v (.bool true), .v (.int .i64 ((p : Nat) : Int)), .v (.int .i32 (((Utf8.decode s p).1 : Nat) : Int))], [(k, .obj s (p + (Utf8.decode s p).2))], nx, [k]⟩ := by rw [hb]; exact ob_ok trivial rfl rfl
theorem ob_next_f (s : ByteArray) (p k nx : Nat) (hb : decide (p < s.size) = false) :
    resOb (bif decide (p < s.size) then .ok True ⟨.tup [.v (.bool true), .v (.int .i64 ((p : Nat) : Int)), .v (.int .i32 (((Utf8.decode s p).1 : Nat) : Int))], [(k, .obj s (p + (Utf8.decode s p).2))], nx, [k]⟩ else .ok True ⟨.tup [.v (.bool false)], [], nx, [k]⟩)
      ⟨.tup [.v (.bool false)], [], nx, [k]⟩ := by rw [hb]; exact ob_ok trivial rfl rfl
end Go.Sx
