/-
 The law CodeTexts returns true for every input.
 No conditions.
-/
import Derived.Test.YtdckaaiidagodaaDoorRows
import Derived.Test.YtdckaaiidagodaaDoorTie
import Derived.Test.YtdckaaiidagodaaDoorCards
import Derived.LaidMore
import Derived.Lay
import Derived.SevenTiedAt
import Derived.Stop.Joined
import Derived.Lib.LaidU8
import Derived.Test.YtdckaaiidagodaaDoorcodeA3
import Derived.ProofKit
import Derived.OpenShut
import Derived.Test.YtdckaaiidagodaaDoorcodeWCodeTexts2
import Derived.Test.YtdckaaiidagodaaDoorcodeBCodeTexts1
set_option linter.unusedSimpArgs false
set_option linter.unusedVariables false
set_option linter.unusedSectionVars false
namespace Go.Proofs.YtdckaaiidagodaaDoor.codeTexts
open Go.Proofs Go.ChangeShapes Go.WideShapes Go.ChangeAt Go.RowKit Go Go.Sx
theorem own:ownKnob Tryd.prog.godebug = none:=by kernel_rfl
abbrev TGInstr:Ty:=(.pair (.int .i64) (.pair (.int .i64) (.pair (.int .i64) .unit)))
def cvGInstr (x:TGInstr.den):GInstr:=GInstr.mk x.1 x.2.1 x.2.2.1
theorem sl_conv {α:Type} [Enc α] {e:Ty} (cv:e.den→α) (h:∀ x,e.sv x = Enc.cells (cv x)) (xs:List e.den):fl (xs.map cv) = xs.flatMap e.sv:=by
 simp only [fl,List.flatMap_map]
 congr 1
 funext x
 exact (h x).symm
theorem cvGInstr_cells (x:TGInstr.den):TGInstr.sv x = Enc.cells (cvGInstr x):=by
 obtain ⟨x0,x1,x2,u⟩:=x
 rfl
abbrev Ts:List Ty:=[(.pair (.sl (.pair (.int .i64) (.pair (.int .i64) (.pair (.int .i64) .unit)))) (.pair (.int .i64) (.pair (.sl (.int .i64)) (.pair (.int .i64) (.pair (.int .i64) .unit))))),.str]
theorem spec (x:Tys.den Ts) (h:Tys.ok Ts x):SpecW Tryd.prog 5 (Tys.args Ts x) [] 0 (fun r _ _=>r = .v (.bool true)):=by
 have ok:=h
 obtain ⟨⟨l1,a2,l3,a4,a5,u6⟩,a7,u⟩:=x
 have hin:∀ c ∈ (l1.map cvGInstr),(-9223372036854775808≤c.A∧c.A≤9223372036854775807)∧-9223372036854775808≤c.B∧c.B≤9223372036854775807:=by
  intro c hc
  obtain ⟨x,hx,rfl⟩:=List.mem_map.1 hc
  obtain ⟨-,h2,h3,-⟩:=ok.1.1.2 x hx
  exact ⟨wf64 h2,wf64 h3⟩
 have S:=taskmilllaw_CodeTexts_spec (⟨(l1.map cvGInstr),a2,l3,a4,a5⟩:GProgram) a7 true (texts_law (⟨(l1.map cvGInstr),a2,l3,a4,a5⟩:GProgram) a7 hin)
 simp only [cells_GProgram,List.length_map,sl_conv cvGInstr cvGInstr_cells l1] at S
 refine SpecW.mono S ?_
 rintro r hp n ⟨rfl,_,_⟩
 rfl
theorem tabs (W:World) (hL:laidMetH Tryd.prog Rows.codeTextsRow.laid W) (hsh:W.ShapedOpen Tryd.prog):TabOk Tryd.prog (fun b=>b < W.heap.size) W:=by
 rw [MakeChecks.laidMetH_plain _ _ _ (by kernel_rfl)] at hL
 refine tabs_of [0,4,1,2,3,5,6] (by kernel_rfl) fun g hg cs hc=>?_
 simp only [List.mem_cons,List.not_mem_nil,or_false] at hg
 rcases hg with rfl | rfl | rfl | rfl | rfl | rfl | rfl
 ·obtain rfl:cs = kindsTab:=Option.some.inj (hc.symm.trans (by kernel_rfl))
  exact tab_read (n := "taskmill/code.kinds") (d := Rows.laid_taskmill_code_kinds) (.arr 23 (.pair .str (.pair .str .unit))) 100 (Lib.laidMet.reads hL (.tail _ (.tail _ (.tail _ (.tail _ (.tail _ (.tail _ (.tail _ (.tail _ (.head _)))))))))) (by kernel_rfl) rfl (by kernel_rfl) (by kernel_rfl) (by kernel_rfl) (by decide) (by kernel_rfl)
 ·obtain rfl:cs = powS:=Option.some.inj (hc.symm.trans (by kernel_rfl))
  exact tab_read (n := "internal/strconv.uint64pow10") (d := Rows.laid_internal_strconv_uint64pow10) (.arr 20 (.int .u64)) 100 (Lib.laidMet.reads hL (.tail _ (.tail _ (.head _)))) (by kernel_rfl) rfl (by kernel_rfl) (by kernel_rfl) (by kernel_rfl) (by decide) (by kernel_rfl)
 ·obtain rfl:cs = [.sl 23 argsTab]:=Option.some.inj (hc.symm.trans (by kernel_rfl))
  exact tab_read (n := "taskmill/taskmillref.Args") (d := Rows.laid_taskmill_taskmillref_Args) (.sl .str) 100 (Lib.laidMet.reads hL (.tail _ (.tail _ (.tail _ (.tail _ (.head _)))))) (by kernel_rfl) rfl (by kernel_rfl) (by kernel_rfl) (by kernel_rfl) (by decide) (by kernel_rfl)
 ·obtain rfl:cs = [.sl 23 namesTab]:=Option.some.inj (hc.symm.trans (by kernel_rfl))
  exact tab_read (n := "taskmill/taskmillref.Names") (d := Rows.laid_taskmill_taskmillref_Names) (.sl .str) 100 (Lib.laidMet.reads hL (.tail _ (.tail _ (.tail _ (.head _))))) (by kernel_rfl) rfl (by kernel_rfl) (by kernel_rfl) (by kernel_rfl) (by decide) (by kernel_rfl)
 ·obtain rfl:cs = [.any]:=Option.some.inj (hc.symm.trans (by kernel_rfl))
  exact tab_shape hsh (by decide) (t:=3) (zero:=#[.int .i64 0]) (by kernel_rfl) rfl (by kernel_rfl) (by kernel_rfl) Tryd.underlying3 (by kernel_rfl)
 ·obtain rfl:cs = [.any]:=Option.some.inj (hc.symm.trans (by kernel_rfl))
  exact tab_sent (n := "strconv.ErrSyntax") (Lib.laidMet.reads hL (.tail _ (.tail _ (.tail _ (.tail _ (.tail _ (.tail _ (.tail _ (.head _))))))))) (by kernel_rfl) rfl Tryd.underlying69 (by kernel_rfl)
 ·obtain rfl:cs = [.any]:=Option.some.inj (hc.symm.trans (by kernel_rfl))
  exact tab_sent (n := "strconv.ErrRange") (Lib.laidMet.reads hL (.tail _ (.tail _ (.tail _ (.tail _ (.tail _ (.tail _ (.head _)))))))) (by kernel_rfl) rfl Tryd.underlying69 (by kernel_rfl)
theorem and_shaped {H:Type} {enc:TypeId×Value→H} {a:Assume} {C:Checked} {os:Os} {f:FuncId} {fn:Func} {s:ChangeSpec} {conds:List PathCond} {apart fresh handsOn again:Bool} {X:World→Array Value→Prop}
  (hX:∀ (w w':World) (args:Array Value),w.heap = w'.heap→X w args→X w' args)
  (own:ownKnob C.prog.godebug = none) (started:os.Started) (noInit:C.prog.inits.idxOf? f = none) (hfn:C.prog.funcs[f]? = some fn)
  (witness:∃ (w:World) (tape:Tape) (i:Input),w.os = os∧(w.forCall tape i).Shaped C.prog∧i.vars = []∧Input.okWide C.prog (w.forCall tape i) .any w.heap.size f i∧((s.pre enc C.prog fn conds apart (w.forCall tape i).memory i.args∧X (w.forCall tape i).memory i.args)∧sizedMet enc C.prog fn (OpenSpec.ofChange s) apart (w.forCall tape i).memory i.args)∧a.holds C.prog (lone (Frame.enter C.prog f i.args .normal) [] (w.forCall tape i)))
  (contract:∀ (W:World) (base:Nat) (args:Array Value) (ds gs:List (DataW H)) (before:List MemPlace),(∀ (j:Nat) t v,fn.params[j]? = some t→args[j]? = some v→Value.okWide C.prog W .any base t v) →
   DataW.Whole enc C.prog fn.params.toList s.vars apart W args.toList ds gs before→X W args→W.ShapedOpen C.prog →
   Calls C.prog f args W fun e W'=>∃ v,e = .returned v∧s.post enc C.prog fn apart fresh handsOn again W args v W') :
  ReturnsInHanded a C os f .any (fun w args=>(s.pre enc C.prog fn conds apart w args∧X w args)∧sizedMet enc C.prog fn (OpenSpec.ofChange s) apart w args) (s.post enc C.prog fn apart fresh handsOn again):=by
 refine returnsInHanded_of_calls own started noInit witness ?_
 intro w tape i _ hsh _ hok hpre hholds
 obtain ⟨_,_,_,fn',hfn',_,_,_,_,hval⟩:=hok
 have e:fn' = fn:=Option.some.inj (hfn'.symm.trans hfn)
 subst e
 obtain ⟨⟨⟨ds,gs,before,hw,_⟩,hx⟩,_⟩:=hpre
 have hw':=DataW.Whole.of_heap (w':=w.forCall tape i) (by rfl) hw
 refine (contract (w.forCall tape i) w.heap.size i.args ds gs before hval hw' (hX _ _ _ (by rfl) hx) hsh).mono fun e W' ⟨v,he,hp⟩=>?_
 subst he
 exact ChangeSpec.post_blind hp
set_option maxRecDepth 100000 in
theorem lifted (os:Os) (started:os.Started) (H:Type) (enc:TypeId×Value→H) :
  ReturnsInHanded {} Tryd.checked os 5 .any (fun w args=>(Rows.codeTextsSpec.pre enc Tryd.prog Tryd.f5 Rows.codeTextsRow.domain false w args∧laidMetH Tryd.prog Rows.codeTextsRow.laid w)∧sizedMet enc Tryd.prog Tryd.f5 (OpenSpec.ofChange Rows.codeTextsSpec) false w args) (Rows.codeTextsSpec.post enc Tryd.prog Tryd.f5 false true false false):=by
 refine and_shaped (C:=Tryd.checked) (X:=fun w _=>laidMetH Tryd.prog Rows.codeTextsRow.laid w) (fun _ _ _ hh h=>h.of_heap hh) own started (by kernel_rfl) Tryd.func5 (ChangeSpec.witness_shaped (enc:=enc) (C:=Tryd.checked) (os:=os) (X:=fun w _=>laidMetH Tryd.prog Rows.codeTextsRow.laid w) false (World.laidAll Tryd.prog os Rows.codeTextsRow.laid) #[.agg #[.slice none 0 0,.int .i64 0,.slice none 0 0,.int .i64 0,.int .i64 0],.string ByteArray.empty] 8 (World.laidAll_os _ _ _) (World.shaped_of_ZipB (by kernel_rfl) (by kernel_rfl)) (by kernel_rfl) (by kernel_rfl) (by kernel_rfl) (by rw [MakeChecks.laidMetH_plain _ _ _ (by kernel_rfl)]; exact laidMet_laidAll _ (by kernel_rfl) (by kernel_rfl))) ?_
 intro W base args ds gs before hval hW hL hsh
 exact law_contract_tab Ts 40 (by kernel_rfl) rfl (fun ds h=>by
  match ds,h with
  | [d0,d1],_=>rfl) (by kernel_rfl) (tb:=4) rfl (by kernel_rfl) W base args ds gs before hval (fun x hx _=>spec x hx) hW (tabs W hL hsh)
theorem over:Rows.codeTextsRow.holds Tryd.pinned (OpenSpec.ofChange Rows.codeTextsSpec) :=
 OpenClaim.holds_of_wide 5 Tryd.f5 rfl rfl rfl rfl rfl rfl rfl ⟨rfl,rfl,rfl,rfl,rfl⟩ rfl rfl rfl rfl rfl (by kernel_rfl) Tryd.func5 (by kernel_rfl) (of_decide_eq_true (by kernel_rfl)) (by unfold Func.isWrapper; first | (rw [if_pos (by decide +kernel)]; kernel_rfl) | (rw [if_neg (by decide +kernel)]; exact ⟨rfl,rfl⟩)) (fun os started H enc _=>lifted os started H enc)
theorem proved:Rows.CodeTextsCardSaid :=
 Claim7.holds_tied_plain_at .later [] [.data,.data,.data,.data,.data,.data,.sentinel,.sentinel,.widerDeep,.pinned] true Rows.codeTextsCard.stood.harness true over (fun _ h=>by cases h) (by kernel_rfl) (fun _ h=>by cases h) codeTexts_row_tie rfl ⟨rfl,rfl⟩ (by kernel_rfl) rfl (fun f fn hf hfn=>by
   obtain rfl : f = 5 := Option.some.inj ((show Tryd.prog.funcNamed "taskmill/taskmilllaw.CodeTexts" = some 5 by kernel_rfl).symm.trans hf) |>.symm
   obtain rfl:fn = Tryd.f5:=(Option.some.inj (Tryd.func5.symm.trans hfn)).symm
   refine ⟨by kernel_rfl,fun j t ht=>?_⟩
   have hm:t ∈ Tryd.f5.params.toList:=by simpa using Array.mem_of_getElem? ht
   have hall:(Tryd.f5.params.toList.all fun u=>!Tryd.prog.wantsStandIn u) = true:=by kernel_rfl
   exact (show Tryd.prog.wantsStandIn t = false by simpa using List.all_eq_true.1 hall t hm))
  (by kernel_rfl)
end Go.Proofs.YtdckaaiidagodaaDoor.codeTexts
