/-
 The law WorldPrefix returns true for every input.
 No conditions.
-/
import Derived.Test.YthcdpjkgdcpkmaaGreatDoorRows
import Derived.Test.YthcdpjkgdcpkmaaGreatDoorTie
import Derived.Test.YthcdpjkgdcpkmaaGreatDoorCards
import Derived.LaidMore
import Derived.Lay
import Derived.SevenTiedAt
import Derived.Stop.Joined
import Derived.Lib.LaidU8
import Derived.Test.YthcdpjkgdcpkmaaGreatDoorwkA3
import Derived.ProofKit
import Derived.OpenShut
import Derived.Test.YthcdpjkgdcpkmaaGreatDoorwkWWorldPrefix8
import Derived.Test.YthcdpjkgdcpkmaaGreatDoorwkBWorldPrefix2
set_option linter.unusedSimpArgs false
set_option linter.unusedVariables false
set_option linter.unusedSectionVars false
namespace Go.Proofs.YthcdpjkgdcpkmaaGreatDoor.worldPrefix
open Go.Proofs Go.ChangeShapes Go.WideShapes Go.ChangeAt Go.RowKit Go Go.Sx
theorem own:ownKnob Tryz.prog.godebug = none:=by kernel_rfl
abbrev AI:Ty:=(.pair (.int .i64) (.pair (.int .i64) (.pair (.int .i64) .unit)))
def vn (x:AI.den):df:=df.mk x.1 x.2.1 x.2.2.1
theorem Lq {α:Type} [bZ α] {e:Ty} (cv:e.den->α) (h:∀ x,e.sv x = bZ.cells (cv x)) (xs:List e.den):fl (xs.map cv) = xs.flatMap e.sv:=by
 simp only [fl,List.flatMap_map]
 congr 1
 funext x
 exact (h x).symm
theorem AJ (x:AI.den):AI.sv x = bZ.cells (vn x):=by
 obtain ⟨x0,x1,x2,u⟩:=x
 rfl
abbrev Ts:List Ty:=[(.pair (.sl (.pair (.int .i64) (.pair (.int .i64) (.pair (.int .i64) .unit)))) (.pair (.int .i64) (.pair (.sl (.int .i64)) (.pair (.int .i64) (.pair (.int .i64) .unit))))),(.int .i64),(.sl (.int .i64)),(.int .i64)]
theorem m5 (x:Tys.den Ts) (h:Tys.ok Ts x):cS Tryz.prog 4 (Tys.args Ts x) [] 0 (λr _ _=>r = .v (.bool true)):=by
 have ok:=h
 obtain ⟨⟨l1,a2,l3,a4,a5,u6⟩,a7,l8,a9,u⟩:=x
 have S:=qX (⟨(l1.map vn),a2,l3,a4,a5⟩:cz) a7 l8 a9 true (GI (⟨(l1.map vn),a2,l3,a4,a5⟩:cz) a7 l8 a9)
 simp only [Ax,List.length_map,Lq vn AJ l1] at S
 refine cS.mono S ?_
 rintro r hp n ⟨rfl,_,_⟩
 rfl
theorem Oy (W:World) (hL:laidMetH Tryz.prog Rows.worldPrefixRow.laid W):r5 Tryz.prog (λb=>b < W.heap.size) W:=by
 rw [MakeChecks.laidMetH_plain _ _ _ (by kernel_rfl)] at hL
 refine J9 [0,1] (by kernel_rfl) λg hg cs hc=>?_
 simp only [List.mem_cons,List.not_mem_nil,or_false] at hg
 rcases hg with rfl | rfl
 ·obtain rfl:cs = x7:=Option.some.inj (hc.symm.trans (by kernel_rfl))
  exact CL (n := "taskmill/code.kinds") (d := Rows.laid_taskmill_code_kinds) (.arr 23 (.pair .str (.pair .str .unit))) 100 (Lib.laidMet.reads hL (.tail _ (.head _))) (by kernel_rfl) rfl (by kernel_rfl) (by kernel_rfl) (by kernel_rfl) (by decide)
 ·obtain rfl:cs = [.sl 23 Ez]:=Option.some.inj (hc.symm.trans (by kernel_rfl))
  exact CL (n := "taskmill/taskmillref.Args") (d := Rows.laid_taskmill_taskmillref_Args) (.sl .str) 100 (Lib.laidMet.reads hL (.head _)) (by kernel_rfl) rfl (by kernel_rfl) (by kernel_rfl) (by kernel_rfl) (by decide)
set_option maxRecDepth 100000 in
theorem MT (os:Os) (started:os.Started) (H:Type) (enc:TypeId×Value->H) :
  ReturnsInHanded {} Tryz.checked os 4 .any (λw args=>(Rows.worldPrefixSpec.pre enc Tryz.prog Tryz.f4 Rows.worldPrefixRow.domain false w args/\laidMetH Tryz.prog Rows.worldPrefixRow.laid w)/\sizedMet enc Tryz.prog Tryz.f4 (OpenSpec.ofChange Rows.worldPrefixSpec) false w args) (Rows.worldPrefixSpec.post enc Tryz.prog Tryz.f4 false true false false):=by
 refine returnsInHanded_of_change_and (C:=Tryz.checked) (X:=λw _=>laidMetH Tryz.prog Rows.worldPrefixRow.laid w) (λ_ _ _ hh h=>h.of_heap hh) own started (by kernel_rfl) Tryz.func4 (ChangeSpec.witness_shaped (enc:=enc) (C:=Tryz.checked) (os:=os) (X:=λw _=>laidMetH Tryz.prog Rows.worldPrefixRow.laid w) false (World.laidAll Tryz.prog os Rows.worldPrefixRow.laid) #[.agg #[.slice none 0 0,.int .i64 0,.slice none 0 0,.int .i64 0,.int .i64 0],.int .i64 0,.slice none 0 0,.int .i64 0] 8 (World.laidAll_os _ _ _) (World.shaped_of_ZipB (by kernel_rfl) (by kernel_rfl)) (by kernel_rfl) (by kernel_rfl) (by kernel_rfl) (by rw [MakeChecks.laidMetH_plain _ _ _ (by kernel_rfl)]; exact laidMet_laidAll _ (by kernel_rfl) (by kernel_rfl))) ?_
 intro W base args ds gs before hval hW _ _ hL _
 exact yn Ts 40 (by kernel_rfl) rfl (λds h=>by
  match ds,h with
  | [d0,d1,d2,d3],_=>rfl) (by kernel_rfl) (tb:=4) rfl (by kernel_rfl) W base args ds gs before hval (λx hx _=>m5 x hx) hW (Oy W hL)
theorem Oz:Rows.worldPrefixRow.holds Tryz.pinned (OpenSpec.ofChange Rows.worldPrefixSpec) :=
 OpenClaim.holds_of_wide 4 Tryz.f4 rfl rfl rfl rfl rfl rfl rfl ⟨rfl,rfl,rfl,rfl,rfl⟩ rfl rfl rfl rfl rfl (by kernel_rfl) Tryz.func4 (by kernel_rfl) (of_decide_eq_true (by kernel_rfl)) (by unfold Func.isWrapper; first | (rw [if_pos (by decide +kernel)]; kernel_rfl) | (rw [if_neg (by decide +kernel)]; exact ⟨rfl,rfl⟩)) (λos started H enc _=>MT os started H enc)
theorem proved:Rows.WorldPrefixCardSaid :=
 Claim7.holds_tied_plain_at .later [] [.data,.widerDeep] true Rows.worldPrefixCard.stood.harness false Oz (λ_ h=>by cases h) (by kernel_rfl) (λ_ h=>by cases h) worldPrefix_row_tie rfl ⟨rfl,rfl⟩ (by kernel_rfl) rfl (λf fn hf hfn=>by
   obtain rfl : f = 4 := Option.some.inj ((show Tryz.prog.funcNamed "taskmill/taskmilllaw.WorldPrefix" = some 4 by kernel_rfl).symm.trans hf) |>.symm
   obtain rfl:fn = Tryz.f4:=(Option.some.inj (Tryz.func4.symm.trans hfn)).symm
   refine ⟨by kernel_rfl,λj t ht=>?_⟩
   have hm:t ∈ Tryz.f4.params.toList:=by simpa using Array.mem_of_getElem? ht
   have hall:(Tryz.f4.params.toList.all λu=>!Tryz.prog.wantsStandIn u) = true:=by kernel_rfl
   exact (show Tryz.prog.wantsStandIn t = false by simpa using List.all_eq_true.1 hall t hm))
  (by kernel_rfl)
end Go.Proofs.YthcdpjkgdcpkmaaGreatDoor.worldPrefix
