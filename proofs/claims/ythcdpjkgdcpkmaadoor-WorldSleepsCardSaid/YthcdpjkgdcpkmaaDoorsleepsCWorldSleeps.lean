/-
 The law WorldSleeps returns true for every input.
 No conditions.
-/
import Derived.Test.YthcdpjkgdcpkmaaDoorRows
import Derived.Test.YthcdpjkgdcpkmaaDoorTie
import Derived.Test.YthcdpjkgdcpkmaaDoorCards
import Derived.LaidMore
import Derived.Lay
import Derived.SevenTiedAt
import Derived.Stop.Joined
import Derived.Lib.LaidU8
import Derived.Test.YthcdpjkgdcpkmaaDoorsleepsA3
import Derived.ProofKit
import Derived.OpenShut
import Derived.Test.YthcdpjkgdcpkmaaDoorsleepsWWorldSleeps5
import Derived.Test.YthcdpjkgdcpkmaaDoorsleepsBWorldSleeps1
set_option linter.unusedSimpArgs false
set_option linter.unusedVariables false
namespace Go.Proofs.YthcdpjkgdcpkmaaDoor.worldSleeps
open Go.Proofs Go.ChangeShapes Go.WideShapes Go.ChangeAt Go.RowKit Go Go.Sx
theorem own:ownKnob Tryd.prog.godebug = none:=by kernel_rfl
abbrev Ts:List Ty:=[(.int .i64),(.int .i64)]
theorem spec (x:Tys.den Ts) (h:Tys.ok Ts x):SpecW Tryd.prog 3 (Tys.args Ts x) [] 0 (fun r _ _=>r = .v (.bool true)):=by
 have ok:=h
 obtain ⟨a1,a2,u⟩:=x
 refine SpecW.mono (taskmilllaw_WorldSleeps_spec a1 a2 true (sleeps_law a1 a2)) ?_
 rintro r hp n ⟨rfl,_,_⟩
 rfl
theorem tabs (W:World) (hL:laidMetH Tryd.prog Rows.worldSleepsRow.laid W):TabOk Tryd.prog (fun b=>b < W.heap.size) W:=by
 rw [MakeChecks.laidMetH_plain _ _ _ (by kernel_rfl)] at hL
 refine tabs_of [0] (by kernel_rfl) fun g hg cs hc=>?_
 simp only [List.mem_cons,List.not_mem_nil,or_false] at hg
 rcases hg with rfl
 ·obtain rfl:cs = kindsTab:=Option.some.inj (hc.symm.trans (by kernel_rfl))
  exact tab_read (n := "taskmill/code.kinds") (d := Rows.laid_taskmill_code_kinds) (.arr 23 (.pair .str (.pair .str .unit))) 100 (Lib.laidMet.reads hL (.head _)) (by kernel_rfl) rfl (by kernel_rfl) (by kernel_rfl) (by kernel_rfl) (by decide)
set_option maxRecDepth 100000 in
theorem lifted (os:Os) (started:os.Started) (H:Type) (enc:TypeId×Value→H) :
  ReturnsInHanded {} Tryd.checked os 3 .any (fun w args=>(Rows.worldSleepsSpec.pre enc Tryd.prog Tryd.f3 Rows.worldSleepsRow.domain false w args∧laidMetH Tryd.prog Rows.worldSleepsRow.laid w)∧sizedMet enc Tryd.prog Tryd.f3 (OpenSpec.ofChange Rows.worldSleepsSpec) false w args)
   (Rows.worldSleepsSpec.post enc Tryd.prog Tryd.f3 false true false false):=by
 refine returnsInHanded_of_change_and (C:=Tryd.checked) (X:=fun w _=>laidMetH Tryd.prog Rows.worldSleepsRow.laid w) (fun _ _ _ hh h=>h.of_heap hh) own started (by kernel_rfl) Tryd.func3
  (ChangeSpec.witness_shaped (enc:=enc) (C:=Tryd.checked) (os:=os) (X:=fun w _=>laidMetH Tryd.prog Rows.worldSleepsRow.laid w) false (World.laidAll Tryd.prog os Rows.worldSleepsRow.laid) #[.int .i64 0,.int .i64 0] 8 (World.laidAll_os _ _ _)
   (World.shaped_of_ZipB (by kernel_rfl) (by kernel_rfl)) (by kernel_rfl) (by kernel_rfl) (by kernel_rfl)
   (by rw [MakeChecks.laidMetH_plain _ _ _ (by kernel_rfl)]; exact laidMet_laidAll _ (by kernel_rfl) (by kernel_rfl))) ?_
 intro W base args ds gs before hval hW _ _ hL _
 exact law_contract_tab Ts 40 (by kernel_rfl) rfl (fun ds h=>by
  match ds,h with
  | [d0,d1],_=>rfl) (by kernel_rfl) (tb:=4) rfl (by kernel_rfl) W base args ds gs before hval (fun x hx _=>spec x hx) hW (tabs W hL)
theorem over:Rows.worldSleepsRow.holds Tryd.pinned (OpenSpec.ofChange Rows.worldSleepsSpec) :=
 OpenClaim.holds_of_wide 3 Tryd.f3 rfl rfl rfl rfl rfl rfl rfl ⟨rfl,rfl,rfl,rfl,rfl⟩ rfl rfl rfl rfl rfl (by kernel_rfl) Tryd.func3 (by kernel_rfl)
  (of_decide_eq_true (by kernel_rfl)) (by unfold Func.isWrapper; first | (rw [if_pos (by decide +kernel)]; kernel_rfl) | (rw [if_neg (by decide +kernel)]; exact ⟨rfl,rfl⟩))
  (fun os started H enc _=>lifted os started H enc)
theorem proved:Rows.WorldSleepsCardSaid :=
 Claim7.holds_tied_plain_at .later [] [.widerDeep] true Rows.worldSleepsCard.stood.harness false over (fun _ h=>by cases h) (by kernel_rfl) (fun _ h=>by cases h) worldSleeps_row_tie rfl ⟨rfl,rfl⟩ (by kernel_rfl) rfl
  (fun f fn hf hfn=>by
   obtain rfl : f = 3 := Option.some.inj ((show Tryd.prog.funcNamed "taskmill/taskmilllaw.WorldSleeps" = some 3 by kernel_rfl).symm.trans hf) |>.symm
   obtain rfl:fn = Tryd.f3:=(Option.some.inj (Tryd.func3.symm.trans hfn)).symm
   refine ⟨by kernel_rfl,fun j t ht=>?_⟩
   have hm:t ∈ Tryd.f3.params.toList:=by simpa using Array.mem_of_getElem? ht
   have hall:(Tryd.f3.params.toList.all fun u=>!Tryd.prog.wantsStandIn u) = true:=by kernel_rfl
   exact (show Tryd.prog.wantsStandIn t = false by simpa using List.all_eq_true.1 hall t hm))
  (by kernel_rfl)
end Go.Proofs.YthcdpjkgdcpkmaaDoor.worldSleeps
