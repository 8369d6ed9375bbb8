/-
 The law WorldAlone returns true for every input.
 No conditions.
-/
import Derived.Test.YthcdpjkgdcpkmaaGreatDoorRows
import Derived.Test.YthcdpjkgdcpkmaaGreatDoorTie
import Derived.Test.YthcdpjkgdcpkmaaGreatDoorCards
import Derived.LaidMore
import Derived.Lay
import Derived.SevenTiedAt
import Derived.Stop.Joined
import Derived.Lib.LaidU8
import Derived.Test.YthcdpjkgdcpkmaaGreatDooraloneA3
import Derived.ProofKit
import Derived.OpenShut
import Derived.Test.YthcdpjkgdcpkmaaGreatDooraloneWWorldAlone8
import Derived.Test.YthcdpjkgdcpkmaaGreatDooraloneBWorldAlone1
set_option linter.unusedSimpArgs false
set_option linter.unusedVariables false
namespace Go.Proofs.YthcdpjkgdcpkmaaGreatDoor.worldAlone
open Go.Proofs Go.ChangeShapes Go.WideShapes Go.ChangeAt Go.RowKit Go Go.Sx
theorem own:ownKnob Tryz.prog.godebug = none:=by kernel_rfl
abbrev TGInstr:Ty:=(.pair (.int .i64) (.pair (.int .i64) (.pair (.int .i64) .unit)))
def cvGInstr (x:TGInstr.den):GInstr:=GInstr.mk x.1 x.2.1 x.2.2.1
theorem sl_conv {α:Type} [Enc α] {e:Ty} (cv:e.den→α) (h:∀ x,e.sv x = Enc.cells (cv x)) (xs:List e.den):fl (xs.map cv) = xs.flatMap e.sv:=by
 simp only [fl,List.flatMap_map]
 congr 1
 funext x
 exact (h x).symm
theorem cvGInstr_cells (x:TGInstr.den):TGInstr.sv x = Enc.cells (cvGInstr x):=by
 obtain ⟨x0,x1,x2,u⟩:=x
 rfl
abbrev Ts:List Ty:=[(.pair (.sl (.pair (.int .i64) (.pair (.int .i64) (.pair (.int .i64) .unit)))) (.pair (.int .i64) (.pair (.sl (.int .i64)) (.pair (.int .i64) (.pair (.int .i64) .unit))))),(.int .i64),(.sl (.int .i64)),(.sl (.int .i64))]
theorem spec (x:Tys.den Ts) (h:Tys.ok Ts x):SpecW Tryz.prog 11 (Tys.args Ts x) [] 0 (fun r _ _=>r = .v (.bool true)):=by
 have ok:=h
 obtain ⟨⟨l1,a2,l3,a4,a5,u6⟩,a7,l8,l9,u⟩:=x
 have S:=taskmilllaw_WorldAlone_spec (⟨(l1.map cvGInstr),a2,l3,a4,a5⟩:GProgram) a7 l8 l9 true (alone_law (⟨(l1.map cvGInstr),a2,l3,a4,a5⟩:GProgram) a7 l8 l9)
 simp only [cells_GProgram,List.length_map,sl_conv cvGInstr cvGInstr_cells l1] at S
 refine SpecW.mono S ?_
 rintro r hp n ⟨rfl,_,_⟩
 rfl
theorem tabs (W:World) (hL:laidMetH Tryz.prog Rows.worldAloneRow.laid W):TabOk Tryz.prog (fun b=>b < W.heap.size) W:=by
 rw [MakeChecks.laidMetH_plain _ _ _ (by kernel_rfl)] at hL
 refine tabs_of [0,1] (by kernel_rfl) fun g hg cs hc=>?_
 simp only [List.mem_cons,List.not_mem_nil,or_false] at hg
 rcases hg with rfl | rfl
 ·obtain rfl:cs = kindsTab:=Option.some.inj (hc.symm.trans (by kernel_rfl))
  exact tab_read (n := "taskmill/code.kinds") (d := Rows.laid_taskmill_code_kinds) (.arr 23 (.pair .str (.pair .str .unit))) 100 (Lib.laidMet.reads hL (.tail _ (.head _))) (by kernel_rfl) rfl (by kernel_rfl) (by kernel_rfl) (by kernel_rfl) (by decide)
 ·obtain rfl:cs = [.sl 23 argsTab]:=Option.some.inj (hc.symm.trans (by kernel_rfl))
  exact tab_read (n := "taskmill/taskmillref.Args") (d := Rows.laid_taskmill_taskmillref_Args) (.sl .str) 100 (Lib.laidMet.reads hL (.head _)) (by kernel_rfl) rfl (by kernel_rfl) (by kernel_rfl) (by kernel_rfl) (by decide)
set_option maxRecDepth 100000 in
theorem lifted (os:Os) (started:os.Started) (H:Type) (enc:TypeId×Value→H) :
  ReturnsInHanded {} Tryz.checked os 11 .any (fun w args=>(Rows.worldAloneSpec.pre enc Tryz.prog Tryz.f11 Rows.worldAloneRow.domain false w args∧laidMetH Tryz.prog Rows.worldAloneRow.laid w)∧sizedMet enc Tryz.prog Tryz.f11 (OpenSpec.ofChange Rows.worldAloneSpec) false w args)
   (Rows.worldAloneSpec.post enc Tryz.prog Tryz.f11 false true false false):=by
 refine returnsInHanded_of_change_and (C:=Tryz.checked) (X:=fun w _=>laidMetH Tryz.prog Rows.worldAloneRow.laid w) (fun _ _ _ hh h=>h.of_heap hh) own started (by kernel_rfl) Tryz.func11
  (ChangeSpec.witness_shaped (enc:=enc) (C:=Tryz.checked) (os:=os) (X:=fun w _=>laidMetH Tryz.prog Rows.worldAloneRow.laid w) false (World.laidAll Tryz.prog os Rows.worldAloneRow.laid) #[.agg #[.slice none 0 0,.int .i64 0,.slice none 0 0,.int .i64 0,.int .i64 0],.int .i64 0,.slice none 0 0,.slice none 0 0] 8 (World.laidAll_os _ _ _)
   (World.shaped_of_ZipB (by kernel_rfl) (by kernel_rfl)) (by kernel_rfl) (by kernel_rfl) (by kernel_rfl)
   (by rw [MakeChecks.laidMetH_plain _ _ _ (by kernel_rfl)]; exact laidMet_laidAll _ (by kernel_rfl) (by kernel_rfl))) ?_
 intro W base args ds gs before hval hW _ _ hL _
 exact law_contract_tab Ts 40 (by kernel_rfl) rfl (fun ds h=>by
  match ds,h with
  | [d0,d1,d2,d3],_=>rfl) (by kernel_rfl) (tb:=4) rfl (by kernel_rfl) W base args ds gs before hval (fun x hx _=>spec x hx) hW (tabs W hL)
theorem over:Rows.worldAloneRow.holds Tryz.pinned (OpenSpec.ofChange Rows.worldAloneSpec) :=
 OpenClaim.holds_of_wide 11 Tryz.f11 rfl rfl rfl rfl rfl rfl rfl ⟨rfl,rfl,rfl,rfl,rfl⟩ rfl rfl rfl rfl rfl (by kernel_rfl) Tryz.func11 (by kernel_rfl)
  (of_decide_eq_true (by kernel_rfl)) (by unfold Func.isWrapper; first | (rw [if_pos (by decide +kernel)]; kernel_rfl) | (rw [if_neg (by decide +kernel)]; exact ⟨rfl,rfl⟩))
  (fun os started H enc _=>lifted os started H enc)
theorem proved:Rows.WorldAloneCardSaid :=
 Claim7.holds_tied_plain_at .later [] [.data,.widerDeep] true Rows.worldAloneCard.stood.harness false over (fun _ h=>by cases h) (by kernel_rfl) (fun _ h=>by cases h) worldAlone_row_tie rfl ⟨rfl,rfl⟩ (by kernel_rfl) rfl
  (fun f fn hf hfn=>by
   obtain rfl : f = 11 := Option.some.inj ((show Tryz.prog.funcNamed "taskmill/taskmilllaw.WorldAlone" = some 11 by kernel_rfl).symm.trans hf) |>.symm
   obtain rfl:fn = Tryz.f11:=(Option.some.inj (Tryz.func11.symm.trans hfn)).symm
   refine ⟨by kernel_rfl,fun j t ht=>?_⟩
   have hm:t ∈ Tryz.f11.params.toList:=by simpa using Array.mem_of_getElem? ht
   have hall:(Tryz.f11.params.toList.all fun u=>!Tryz.prog.wantsStandIn u) = true:=by kernel_rfl
   exact (show Tryz.prog.wantsStandIn t = false by simpa using List.all_eq_true.1 hall t hm))
  (by kernel_rfl)
end Go.Proofs.YthcdpjkgdcpkmaaGreatDoor.worldAlone
