/-
  The law ClockSets returns true for every input.
  No conditions.
-/
import Derived.Test.YtfgedphhlilpgaaRows
import Derived.ProofKit
import Derived.OpenShut
import Derived.Test.YtfgedphhlilpgaaclockWClockSets2
import Derived.Test.YtfgedphhlilpgaaclockBClockSets1
set_option linter.unusedSimpArgs false
set_option linter.unusedVariables false
namespace Go.Proofs.Ytfgedphhlilpgaa.clockSets
open Go.ChangeShapes Go.WideShapes Go.ChangeAt Go.RowKit Go Go.Sx
theorem own : ownKnob Try.prog.godebug = none := by kernel_rfl
abbrev TAlarm : Ty := (.pair (.int .i64) (.pair (.int .i64) (.pair (.int .i64) (.pair (.int .i64) .unit))))
def cvAlarm (x : TAlarm.den) : Alarm := Alarm.mk x.1 x.2.1 x.2.2.1 x.2.2.2.1
theorem cvAlarm_cells (x : TAlarm.den) : TAlarm.sv x = Enc.cells (cvAlarm x) := by
  obtain ⟨x0, x1, x2, x3, u⟩ := x
  rfl
theorem sl_conv {α : Type} [Enc α] {e : Ty} (cv : e.den → α) (h : ∀ x, e.sv x = Enc.cells (cv x)) (xs : List e.den) : fl (xs.map cv) = xs.flatMap e.sv := by
  simp only [fl, List.flatMap_map]
  congr 1
  funext x
  exact (h x).symm
abbrev Ts : List Ty := [(.pair (.int .i64) (.pair (.int .i64) (.pair (.sl (.pair (.int .i64) (.pair (.int .i64) (.pair (.int .i64) (.pair (.int .i64) .unit))))) .unit))), (.int .i64), (.int .i64), (.int .i64)]
theorem spec (x : Tys.den Ts) (h : Tys.ok Ts x) : SpecW Try.prog 7 (Tys.args Ts x) [] 0 (fun r _ _ => r = .v (.bool true)) := by
  have ok := h
  obtain ⟨⟨a1, a2, l3, u4⟩, a5, a6, a7, u⟩ := x
  have S := taskmilllaw_ClockSets_spec (⟨a1, a2, (l3.map cvAlarm)⟩ : Clock) a5 a6 a7 true (clockSets (⟨a1, a2, (l3.map cvAlarm)⟩ : Clock) a5 a6 a7)
  simp only [cells_Clock, List.length_map, sl_conv cvAlarm cvAlarm_cells l3] at S
  refine SpecW.mono S ?_
  rintro r hp n ⟨rfl, _, _⟩
  rfl
set_option maxRecDepth 100000 in
theorem lifted (os : Os) (started : os.Started) (H : Type) (enc : TypeId × Value → H) :
    ReturnsInHanded {} Try.checked os 7 .any (Rows.clockSetsSpec.pre6 enc Try.prog Try.f7 Rows.clockSetsRow.domain false) (Rows.clockSetsSpec.post enc Try.prog Try.f7 false true false false) := by
  refine returnsInHanded_of_change (C := Try.checked) own started (by kernel_rfl) Try.func7
    (ChangeSpec.witness6 (enc := enc) (C := Try.checked) false ⟨#[], #[.agg #[.int .i64 0, .int .i64 0, .slice none 0 0], .int .i64 0, .int .i64 0, .int .i64 0], []⟩ 8 (by kernel_rfl) (by kernel_rfl) (by kernel_rfl) (by kernel_rfl)) ?_
  intro W base args ds gs before hval hW _ _
  exact law_contract Ts 12 (by kernel_rfl) rfl (fun ds h => by
    match ds, h with
    | [d0, d1, d2, d3], _ => rfl) (by kernel_rfl) (tb := 4) rfl (by kernel_rfl) W base args ds gs before hval (fun x hx _ => spec x hx) hW
theorem over : Rows.clockSetsRow.holds Try.pinned (OpenSpec.ofChange Rows.clockSetsSpec) :=
  OpenClaim.holds_of_wide 7 Try.f7 rfl rfl rfl rfl rfl rfl rfl ⟨rfl, rfl, rfl, rfl, rfl⟩ rfl rfl rfl rfl rfl (by kernel_rfl) Try.func7 (by kernel_rfl)
    (of_decide_eq_true (by kernel_rfl)) (by unfold Func.isWrapper; first | (rw [if_pos (by decide +kernel)]; kernel_rfl) | (rw [if_neg (by decide +kernel)]; exact ⟨rfl, rfl⟩))
    (fun os started H enc _ => lifted os started H enc)
theorem proved : Rows.ClockSetsSaid := over
end Go.Proofs.Ytfgedphhlilpgaa.clockSets
