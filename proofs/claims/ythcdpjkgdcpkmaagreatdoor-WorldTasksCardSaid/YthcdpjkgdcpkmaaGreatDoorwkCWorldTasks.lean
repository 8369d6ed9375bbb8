/-
 The law WorldTasks returns true for every input.
 No conditions.
-/
import Derived.Test.YthcdpjkgdcpkmaaGreatDoorRows
import Derived.Test.YthcdpjkgdcpkmaaGreatDoorTie
import Derived.Test.YthcdpjkgdcpkmaaGreatDoorCards
import Derived.LaidMore
import Derived.Lay
import Derived.SevenTiedAt
import Derived.Stop.Joined
import Derived.Lib.LaidU8
import Derived.Test.YthcdpjkgdcpkmaaGreatDoorwkA3
import Derived.ProofKit
import Derived.OpenShut
import Derived.Test.YthcdpjkgdcpkmaaGreatDoorwkWWorldTasks8
import Derived.Test.YthcdpjkgdcpkmaaGreatDoorwkBWorldTasks2
set_option linter.unusedSimpArgs false
set_option linter.unusedVariables false
set_option linter.unusedSectionVars false
namespace Go.Proofs.YthcdpjkgdcpkmaaGreatDoor.worldTasks
open Go.Proofs Go.ChangeShapes Go.WideShapes Go.ChangeAt Go.RowKit Go Go.Sx
theorem own:ownKnob Tryz.prog.godebug = none:=by kernel_rfl
abbrev AP:Ty:=(.pair (.int .i64) (.pair (.int .i64) (.pair (.int .i64) .unit)))
def vw (x:AP.den):df:=df.mk x.1 x.2.1 x.2.2.1
theorem Ly {α:Type} [b_ α] {e:Ty} (cv:e.den->α) (h:∀ x,e.sv x = b_.cells (cv x)) (xs:List e.den):fl (xs.map cv) = xs.flatMap e.sv:=by
 simp only [fl,List.flatMap_map]
 congr 1
 funext x
 exact (h x).symm
theorem AQ (x:AP.den):AP.sv x = b_.cells (vw x):=by
 obtain ⟨x0,x1,x2,u⟩:=x
 rfl
abbrev Ts:List Ty:=[(.pair (.sl (.pair (.int .i64) (.pair (.int .i64) (.pair (.int .i64) .unit)))) (.pair (.int .i64) (.pair (.sl (.int .i64)) (.pair (.int .i64) (.pair (.int .i64) .unit))))),(.int .i64),(.sl (.int .i64))]
theorem m_ (x:Tys.den Ts) (h:Tys.ok Ts x):cS Tryz.prog 9 (Tys.args Ts x) [] 0 (λr _ _=>r = .v (.bool true)):=by
 have ok:=h
 obtain ⟨⟨l1,a2,l3,a4,a5,u6⟩,a7,l8,u⟩:=x
 have S:=rU (⟨(l1.map vw),a2,l3,a4,a5⟩:cx) a7 l8 true (Ii (⟨(l1.map vw),a2,l3,a4,a5⟩:cx) a7 l8)
 simp only [AF,List.length_map,Ly vw AQ l1] at S
 refine cS.mono S ?_
 rintro r hp n ⟨rfl,_,_⟩
 rfl
theorem OF (W:World) (hL:laidMetH Tryz.prog Rows.worldTasksRow.laid W):sa Tryz.prog (λb=>b < W.heap.size) W:=by
 rw [MakeChecks.laidMetH_plain _ _ _ (by kernel_rfl)] at hL
 refine Kf [0,1] (by kernel_rfl) λg hg cs hc=>?_
 simp only [List.mem_cons,List.not_mem_nil,or_false] at hg
 rcases hg with rfl | rfl
 ·obtain rfl:cs = ye:=Option.some.inj (hc.symm.trans (by kernel_rfl))
  exact CR (n := "taskmill/code.kinds") (d := Rows.laid_taskmill_code_kinds) (.arr 23 (.pair .str (.pair .str .unit))) 100 (Lib.laidMet.reads hL (.tail _ (.head _))) (by kernel_rfl) rfl (by kernel_rfl) (by kernel_rfl) (by kernel_rfl) (by decide)
 ·obtain rfl:cs = [.sl 23 EC]:=Option.some.inj (hc.symm.trans (by kernel_rfl))
  exact CR (n := "taskmill/taskmillref.Args") (d := Rows.laid_taskmill_taskmillref_Args) (.sl .str) 100 (Lib.laidMet.reads hL (.head _)) (by kernel_rfl) rfl (by kernel_rfl) (by kernel_rfl) (by kernel_rfl) (by decide)
set_option maxRecDepth 100000 in
theorem M9 (os:Os) (started:os.Started) (H:Type) (enc:TypeId×Value->H) :
  ReturnsInHanded {} Tryz.checked os 9 .any (λw args=>(Rows.worldTasksSpec.pre enc Tryz.prog Tryz.f9 Rows.worldTasksRow.domain false w args/\laidMetH Tryz.prog Rows.worldTasksRow.laid w)/\sizedMet enc Tryz.prog Tryz.f9 (OpenSpec.ofChange Rows.worldTasksSpec) false w args) (Rows.worldTasksSpec.post enc Tryz.prog Tryz.f9 false true false false):=by
 refine returnsInHanded_of_change_and (C:=Tryz.checked) (X:=λw _=>laidMetH Tryz.prog Rows.worldTasksRow.laid w) (λ_ _ _ hh h=>h.of_heap hh) own started (by kernel_rfl) Tryz.func9 (ChangeSpec.witness_shaped (enc:=enc) (C:=Tryz.checked) (os:=os) (X:=λw _=>laidMetH Tryz.prog Rows.worldTasksRow.laid w) false (World.laidAll Tryz.prog os Rows.worldTasksRow.laid) #[.agg #[.slice none 0 0,.int .i64 0,.slice none 0 0,.int .i64 0,.int .i64 0],.int .i64 0,.slice none 0 0] 8 (World.laidAll_os _ _ _) (World.shaped_of_ZipB (by kernel_rfl) (by kernel_rfl)) (by kernel_rfl) (by kernel_rfl) (by kernel_rfl) (by rw [MakeChecks.laidMetH_plain _ _ _ (by kernel_rfl)]; exact laidMet_laidAll _ (by kernel_rfl) (by kernel_rfl))) ?_
 intro W base args ds gs before hval hW _ _ hL _
 exact yw Ts 40 (by kernel_rfl) rfl (λds h=>by
  match ds,h with
  | [d0,d1,d2],_=>rfl) (by kernel_rfl) (tb:=4) rfl (by kernel_rfl) W base args ds gs before hval (λx hx _=>m_ x hx) hW (OF W hL)
theorem OG:Rows.worldTasksRow.holds Tryz.pinned (OpenSpec.ofChange Rows.worldTasksSpec) :=
 OpenClaim.holds_of_wide 9 Tryz.f9 rfl rfl rfl rfl rfl rfl rfl ⟨rfl,rfl,rfl,rfl,rfl⟩ rfl rfl rfl rfl rfl (by kernel_rfl) Tryz.func9 (by kernel_rfl) (of_decide_eq_true (by kernel_rfl)) (by unfold Func.isWrapper; first | (rw [if_pos (by decide +kernel)]; kernel_rfl) | (rw [if_neg (by decide +kernel)]; exact ⟨rfl,rfl⟩)) (λos started H enc _=>M9 os started H enc)
theorem proved:Rows.WorldTasksCardSaid :=
 Claim7.holds_tied_plain_at .later [] [.data,.widerDeep] true Rows.worldTasksCard.stood.harness false OG (λ_ h=>by cases h) (by kernel_rfl) (λ_ h=>by cases h) worldTasks_row_tie rfl ⟨rfl,rfl⟩ (by kernel_rfl) rfl (λf fn hf hfn=>by
   obtain rfl : f = 9 := Option.some.inj ((show Tryz.prog.funcNamed "taskmill/taskmilllaw.WorldTasks" = some 9 by kernel_rfl).symm.trans hf) |>.symm
   obtain rfl:fn = Tryz.f9:=(Option.some.inj (Tryz.func9.symm.trans hfn)).symm
   refine ⟨by kernel_rfl,λj t ht=>?_⟩
   have hm:t ∈ Tryz.f9.params.toList:=by simpa using Array.mem_of_getElem? ht
   have hall:(Tryz.f9.params.toList.all λu=>!Tryz.prog.wantsStandIn u) = true:=by kernel_rfl
   exact (show Tryz.prog.wantsStandIn t = false by simpa using List.all_eq_true.1 hall t hm))
  (by kernel_rfl)
end Go.Proofs.YthcdpjkgdcpkmaaGreatDoor.worldTasks
