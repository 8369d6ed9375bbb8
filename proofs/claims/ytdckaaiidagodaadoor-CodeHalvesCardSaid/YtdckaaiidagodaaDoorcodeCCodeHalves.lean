/-
 The law CodeHalves returns true for every input.
 No conditions.
-/
import Derived.Test.YtdckaaiidagodaaDoorRows
import Derived.Test.YtdckaaiidagodaaDoorTie
import Derived.Test.YtdckaaiidagodaaDoorCards
import Derived.LaidMore
import Derived.Lay
import Derived.SevenTiedAt
import Derived.Stop.Joined
import Derived.Lib.LaidU8
import Derived.Test.YtdckaaiidagodaaDoorcodeA3
import Derived.ProofKit
import Derived.OpenShut
import Derived.Test.YtdckaaiidagodaaDoorcodeWCodeHalves1
import Derived.Test.YtdckaaiidagodaaDoorcodeBCodeHalves1
set_option linter.unusedSimpArgs false
set_option linter.unusedVariables false
namespace Go.Proofs.YtdckaaiidagodaaDoor.codeHalves
open Go.Proofs Go.ChangeShapes Go.WideShapes Go.ChangeAt Go.RowKit Go Go.Sx
theorem own : ownKnob Tryd.prog.godebug = none := by kernel_rfl
abbrev TGInstr : Ty := (.pair (.int .i64) (.pair (.int .i64) (.pair (.int .i64) .unit)))
def cvGInstr (x : TGInstr.den) : GInstr := GInstr.mk x.1 x.2.1 x.2.2.1
theorem sl_conv {α : Type} [Enc α] {e : Ty} (cv : e.den → α) (h : ∀ x, e.sv x = Enc.cells (cv x)) (xs : List e.den) : fl (xs.map cv) = xs.flatMap e.sv := by
 simp only [fl, List.flatMap_map]
 congr 1
 funext x
 exact (h x).symm
theorem cvGInstr_cells (x : TGInstr.den) : TGInstr.sv x = Enc.cells (cvGInstr x) := by
 obtain ⟨x0, x1, x2, u⟩ := x
 rfl
theorem arr8_ {α : Type} {xs : List α} (h : xs.length = 8) : ∃ x0 x1 x2 x3 x4 x5 x6 x7, xs = [x0, x1, x2, x3, x4, x5, x6, x7] := by
 match xs, h with
 | [x0, x1, x2, x3, x4, x5, x6, x7], _ => exact ⟨x0, x1, x2, x3, x4, x5, x6, x7, rfl⟩
abbrev Ts : List Ty := [(.pair (.sl (.pair (.int .i64) (.pair (.int .i64) (.pair (.int .i64) .unit)))) (.pair (.int .i64) (.pair (.sl (.int .i64)) (.pair (.int .i64) (.pair (.int .i64) .unit))))), (.int .i64), (.arr 8 (.int .i64)), (.int .i64), (.int .i64)]
theorem spec (x : Tys.den Ts) (h : Tys.ok Ts x) : SpecW Tryd.prog 4 (Tys.args Ts x) [] 0 (fun r _ _ => r = .v (.bool true)) := by
 have ok := h
 obtain ⟨⟨l1, a2, l3, a4, a5, u6⟩, a7, r8, a17, a18, u⟩ := x
 obtain ⟨a9, a10, a11, a12, a13, a14, a15, a16, rfl⟩ := arr8_ (xs := r8) (by have q := h; simp only [Tys.ok, Ty.ok] at q; omega)
 have S := taskmilllaw_CodeHalves_spec (⟨(l1.map cvGInstr), a2, l3, a4, a5⟩ : GProgram) a7 (⟨[a9, a10, a11, a12, a13, a14, a15, a16], rfl⟩ : (VArr 8)) a17 a18 true (halves_law (⟨(l1.map cvGInstr), a2, l3, a4, a5⟩ : GProgram) a7 (⟨[a9, a10, a11, a12, a13, a14, a15, a16], rfl⟩ : (VArr 8)) a17 a18)
 simp only [cells_GProgram, List.length_map, sl_conv cvGInstr cvGInstr_cells l1] at S
 refine SpecW.mono S ?_
 rintro r hp n ⟨rfl, _, _⟩
 rfl
theorem tabs (W : World) (hL : laidMetH Tryd.prog Rows.codeHalvesRow.laid W) : TabOk Tryd.prog (fun b => b < W.heap.size) W := by
 rw [MakeChecks.laidMetH_plain _ _ _ (by kernel_rfl)] at hL
 refine tabs_of [0] (by kernel_rfl) fun g hg cs hc => ?_
 simp only [List.mem_cons, List.not_mem_nil, or_false] at hg
 rcases hg with rfl
 ·obtain rfl : cs = kindsTab := Option.some.inj (hc.symm.trans (by kernel_rfl))
  exact tab_read (n := "taskmill/code.kinds") (d := Rows.laid_taskmill_code_kinds) (.arr 23 (.pair .str (.pair .str .unit))) 100 (Lib.laidMet.reads hL (.tail _ (.tail _ (.tail _ (.head _))))) (by kernel_rfl) rfl (by kernel_rfl) (by kernel_rfl) (by kernel_rfl) (by decide)
set_option maxRecDepth 100000 in
theorem lifted (os : Os) (started : os.Started) (H : Type) (enc : TypeId × Value → H) :
  ReturnsInHanded {} Tryd.checked os 4 .any (fun w args => (Rows.codeHalvesSpec.pre enc Tryd.prog Tryd.f4 Rows.codeHalvesRow.domain false w args ∧ laidMetH Tryd.prog Rows.codeHalvesRow.laid w) ∧ sizedMet enc Tryd.prog Tryd.f4 (OpenSpec.ofChange Rows.codeHalvesSpec) false w args)
   (Rows.codeHalvesSpec.post enc Tryd.prog Tryd.f4 false true false false) := by
 refine returnsInHanded_of_change_and (C := Tryd.checked) (X := fun w _ => laidMetH Tryd.prog Rows.codeHalvesRow.laid w) (fun _ _ _ hh h => h.of_heap hh) own started (by kernel_rfl) Tryd.func4
  (ChangeSpec.witness_shaped (enc := enc) (C := Tryd.checked) (os := os) (X := fun w _ => laidMetH Tryd.prog Rows.codeHalvesRow.laid w) false (World.laidAll Tryd.prog os Rows.codeHalvesRow.laid) #[.agg #[.slice none 0 0, .int .i64 0, .slice none 0 0, .int .i64 0, .int .i64 0], .int .i64 0, .agg #[.int .i64 0, .int .i64 0, .int .i64 0, .int .i64 0, .int .i64 0, .int .i64 0, .int .i64 0, .int .i64 0], .int .i64 0, .int .i64 0] 8 (World.laidAll_os _ _ _)
   (World.shaped_of_ZipB (by kernel_rfl) (by kernel_rfl)) (by kernel_rfl) (by kernel_rfl) (by kernel_rfl)
   (by rw [MakeChecks.laidMetH_plain _ _ _ (by kernel_rfl)]; exact laidMet_laidAll _ (by kernel_rfl) (by kernel_rfl))) ?_
 intro W base args ds gs before hval hW _ _ hL _
 exact law_contract_tab Ts 40 (by kernel_rfl) rfl (fun ds h => by
  match ds, h with
  | [d0, d1, d2, d3, d4], _ => rfl) (by kernel_rfl) (tb := 4) rfl (by kernel_rfl) W base args ds gs before hval (fun x hx _ => spec x hx) hW (tabs W hL)
theorem over : Rows.codeHalvesRow.holds Tryd.pinned (OpenSpec.ofChange Rows.codeHalvesSpec) :=
 OpenClaim.holds_of_wide 4 Tryd.f4 rfl rfl rfl rfl rfl rfl rfl ⟨rfl, rfl, rfl, rfl, rfl⟩ rfl rfl rfl rfl rfl (by kernel_rfl) Tryd.func4 (by kernel_rfl)
  (of_decide_eq_true (by kernel_rfl)) (by unfold Func.isWrapper; first | (rw [if_pos (by decide +kernel)]; kernel_rfl) | (rw [if_neg (by decide +kernel)]; exact ⟨rfl, rfl⟩))
  (fun os started H enc _ => lifted os started H enc)
theorem proved : Rows.CodeHalvesCardSaid :=
 Claim7.holds_tied_plain_at .later [] [.data, .data, .data, .widerDeep] true Rows.codeHalvesCard.stood.harness true over (fun _ h => by cases h) (by kernel_rfl) (fun _ h => by cases h) codeHalves_row_tie rfl ⟨rfl, rfl⟩ (by kernel_rfl) rfl
  (fun f fn hf hfn => by
   obtain rfl : f = 4 := Option.some.inj ((show Tryd.prog.funcNamed "taskmill/taskmilllaw.CodeHalves" = some 4 by kernel_rfl).symm.trans hf) |>.symm
   obtain rfl : fn = Tryd.f4 := (Option.some.inj (Tryd.func4.symm.trans hfn)).symm
   refine ⟨by kernel_rfl, fun j t ht => ?_⟩
   have hm : t ∈ Tryd.f4.params.toList := by simpa using Array.mem_of_getElem? ht
   have hall : (Tryd.f4.params.toList.all fun u => !Tryd.prog.wantsStandIn u) = true := by kernel_rfl
   exact (show Tryd.prog.wantsStandIn t = false by simpa using List.all_eq_true.1 hall t hm))
  (by kernel_rfl)
end Go.Proofs.YtdckaaiidagodaaDoor.codeHalves
