/-
 The law CodeJoins returns true for every input.
 No conditions.
-/
import Derived.Test.YtdckaaiidagodaaDoorRows
import Derived.Test.YtdckaaiidagodaaDoorTie
import Derived.Test.YtdckaaiidagodaaDoorCards
import Derived.LaidMore
import Derived.Lay
import Derived.SevenTiedAt
import Derived.Stop.Joined
import Derived.Lib.LaidU8
import Derived.Test.YtdckaaiidagodaaDoorcodeA3
import Derived.ProofKit
import Derived.OpenShut
import Derived.JoinedCond
import Derived.Test.YtdckaaiidagodaaDoorcodeWCodeJoinsUpto1
import Derived.Test.YtdckaaiidagodaaDoorcodeBCodeJoinsUpto1
set_option linter.unusedSimpArgs false
set_option linter.unusedVariables false
set_option linter.unusedSectionVars false
namespace Go.Proofs.YtdckaaiidagodaaDoor.codeJoinsUpto
open Go.Proofs Go.ChangeShapes Go.WideShapes Go.ChangeAt Go.RowKit Go Go.Sx
theorem own:ownKnob Tryd.prog.godebug = none:=by kernel_rfl
abbrev Ts:List Ty:=[.str,.str]
def tb:(T:Ty)→T.den→Nat
 | .int _,_=>1
 | .bool,_=>1
 | .str,x=>x.size+1
 | .sl e,xs=>(List.map (tb e) xs).sum+1
 | .unit,_=>0
 | .pair a b,x=>tb a x.1+tb b x.2
 | .arr _ e,xs=>(List.map (tb e) xs).sum+1
def tbs:(l:List Ty)→Tys.den l→Nat
 | [],_=>0
 | T::r,x=>tb T x.1+tbs r x.2
theorem bulk_pos {H:Type} (d:DataW H):1≤Rows.uptoBulk d:=by
 cases d with
 | lit l=>cases l <;> simp [Rows.uptoBulk]
 | _=>simp [Rows.uptoBulk]
theorem rep_all {H:Type} {e:Ty} (ih:∀ (x:e.den) (d:DataW H),e.rep H x d→tb e x≤Rows.uptoBulk d):∀ (xs:List e.den) (el:List (DataW H)),el.length = xs.length→(∀ (i:Nat) (x:e.den),xs[i]? = some x→∃ y,el[i]? = some y∧e.rep H x y)→(List.map (tb e) xs).sum≤Rows.uptoBulkAll el
 | [],[],_,_=>by simp [Rows.uptoBulkAll]
 | [],_::_,h,_=>by simp at h
 | _::_,[],h,_=>by simp at h
 | x::xs,d::el,h,hx=>by
  obtain ⟨y,h1,h2⟩:=hx 0 x rfl
  simp only [List.getElem?_cons_zero,Option.some.injEq] at h1
  subst h1
  have h3:=ih x d h2
  have h4:=rep_all ih xs el (by simpa using h) fun i x hi=>by
   have:=hx (i+1) x (by simpa using hi)
   simpa using this
  simp only [List.map_cons,List.sum_cons,Rows.uptoBulkAll]; omega
theorem rep_tb {H:Type}:∀ (T:Ty) (x:T.den) (d:DataW H),T.rep H x d→tb T x≤Rows.uptoBulk d
 | .int k,x,d,h=>by cases h; exact Nat.le_refl _
 | .bool,x,d,h=>by cases h; exact Nat.le_refl _
 | .str,x,d,h=>by
  cases h
  show x.size+1≤x.data.toList.length+1
  exact Nat.le_refl _
 | .sl e,xs,d,h=>by
  rcases h with ⟨h1,rfl⟩ | ⟨el,spn,rfl,hl,hx⟩
  ·have h1':(xs:List e.den) = []:=h1
   show (List.map (tb e) xs).sum+1≤1
   rw [h1']; exact Nat.le_refl _
  ·have:=rep_all (fun x d=>rep_tb e x d) xs el hl hx
   show (List.map (tb e) xs).sum+1≤Rows.uptoBulkAll el+Rows.uptoBulkAll spn+1
   omega
 | .unit,x,d,h=>Nat.zero_le _
 | .pair a b,x,d,h=>by
  obtain ⟨p,r,rfl,h1,h2⟩:=h
  have g1:=rep_tb a x.1 p h1
  have g2:=rep_tb b x.2 (.agg r) h2
  show tb a x.1+tb b x.2≤Rows.uptoBulk p+Rows.uptoBulkAll r+1
  have:Rows.uptoBulk (.agg r:DataW H) = Rows.uptoBulkAll r+1:=rfl
  omega
 | .arr n e,xs,d,h=>by
  obtain ⟨el,rfl,hl,hx⟩:=h
  have:=rep_all (fun x d=>rep_tb e x d) xs el hl hx
  show (List.map (tb e) xs).sum+1≤Rows.uptoBulkAll el+1
  omega
theorem reps_tb {H:Type}:∀ (l:List Ty) (x:Tys.den l) (ds:List (DataW H)),Tys.rep H l x ds→tbs l x≤Rows.uptoBulkAll ds
 | [],_,_,_=>Nat.zero_le _
 | T::r,x,ds,h=>by
  obtain ⟨d,s,rfl,h1,h2⟩:=h
  have:=rep_tb T x.1 d h1
  have:=reps_tb r x.2 s h2
  show tb T x.1+tbs r x.2≤Rows.uptoBulk d+Rows.uptoBulkAll s
  omega

theorem spec {H:Type} (x:Tys.den Ts) (h:Tys.ok Ts x) (ds:List (DataW H)) (hr:Tys.rep H Ts x ds) (hk:Rows.uptoSmall H ds = true):SpecW Tryd.prog 6 (Tys.args Ts x) [] 0 (fun r _ _=>r = .v (.bool true)):=by
 have ok:=h
 have hB:tbs Ts x≤1048576:=Nat.le_trans (reps_tb Ts x ds hr) (of_decide_eq_true hk)
 obtain ⟨a1,a2,u⟩:=x
 have e:tbs Ts ⟨a1,a2,u⟩ = (ByteArray.size a1+1)+((ByteArray.size a2+1)+0):=rfl
 rw [e] at hB
 have h1:ByteArray.size a1+ByteArray.size a2≤100000000:=by omega
 refine SpecW.mono (taskmilllaw_CodeJoins_spec a1 a2 true (joins_law a1 a2 h1)) ?_
 rintro r hp n ⟨rfl,_,_⟩
 rfl
theorem tabs (W:World) (hL:laidMetH Tryd.prog Rows.codeJoinsUptoRow.laid W) (hsh:W.ShapedOpen Tryd.prog):TabOk Tryd.prog (fun b=>b < W.heap.size) W:=by
 rw [MakeChecks.laidMetH_plain _ _ _ (by kernel_rfl)] at hL
 refine tabs_of [0,4,3,5,6] (by kernel_rfl) fun g hg cs hc=>?_
 simp only [List.mem_cons,List.not_mem_nil,or_false] at hg
 rcases hg with rfl | rfl | rfl | rfl | rfl
 ·obtain rfl:cs = kindsTab:=Option.some.inj (hc.symm.trans (by kernel_rfl))
  exact tab_read (n := "taskmill/code.kinds") (d := Rows.laid_taskmill_code_kinds) (.arr 23 (.pair .str (.pair .str .unit))) 100 (Lib.laidMet.reads hL (.tail _ (.tail _ (.tail _ (.tail _ (.tail _ (.tail _ (.head _)))))))) (by kernel_rfl) rfl (by kernel_rfl) (by kernel_rfl) (by kernel_rfl) (by decide) (by kernel_rfl)
 ·obtain rfl:cs = powS:=Option.some.inj (hc.symm.trans (by kernel_rfl))
  exact tab_read (n := "internal/strconv.uint64pow10") (d := Rows.laid_internal_strconv_uint64pow10) (.arr 20 (.int .u64)) 100 (Lib.laidMet.reads hL (.tail _ (.tail _ (.head _)))) (by kernel_rfl) rfl (by kernel_rfl) (by kernel_rfl) (by kernel_rfl) (by decide) (by kernel_rfl)
 ·obtain rfl:cs = [.any]:=Option.some.inj (hc.symm.trans (by kernel_rfl))
  exact tab_shape hsh (by decide) (t:=3) (zero:=#[.int .i64 0]) (by kernel_rfl) rfl (by kernel_rfl) (by kernel_rfl) Tryd.underlying3 (by kernel_rfl)
 ·obtain rfl:cs = [.any]:=Option.some.inj (hc.symm.trans (by kernel_rfl))
  exact tab_sent (n := "strconv.ErrSyntax") (Lib.laidMet.reads hL (.tail _ (.tail _ (.tail _ (.tail _ (.tail _ (.head _))))))) (by kernel_rfl) rfl Tryd.underlying69 (by kernel_rfl)
 ·obtain rfl:cs = [.any]:=Option.some.inj (hc.symm.trans (by kernel_rfl))
  exact tab_sent (n := "strconv.ErrRange") (Lib.laidMet.reads hL (.tail _ (.tail _ (.tail _ (.tail _ (.head _)))))) (by kernel_rfl) rfl Tryd.underlying69 (by kernel_rfl)
theorem cond_and {H:Type} {enc:TypeId×Value→H} {a:Assume} {C:Checked} {os:Os} {f:FuncId} {fn:Func} {s:OpenSpec} {k:(H:Type)→List (DataW H)→Bool} (hk:s.cond = some k) {F:Stop.Interp} {conds:List PathCond} {apart fresh handsOn again:Bool} {X:World→Array Value→Prop}
  (hX:∀ (w w':World) (args:Array Value),w.heap = w'.heap→X w args→X w' args)
  (own:ownKnob C.prog.godebug = none) (started:os.Started) (noInit:C.prog.inits.idxOf? f = none) (hfn:C.prog.funcs[f]? = some fn)
  (witness:∃ (w:World) (tape:Tape) (i:Input),w.os = os∧(w.forCall tape i).Shaped C.prog∧i.vars = []∧Input.okWide C.prog (w.forCall tape i) .any w.heap.size f i∧((s.pre enc C.prog fn conds apart (w.forCall tape i).memory i.args∧X (w.forCall tape i).memory i.args)∧sizedMet enc C.prog fn s apart (w.forCall tape i).memory i.args)∧a.holds C.prog (lone (Frame.enter C.prog f i.args .normal) [] (w.forCall tape i)))
  (contract:∀ (W:World) (base:Nat) (args:Array Value) (ds gs:List (DataW H)) (before:List MemPlace),(∀ (j:Nat) t v,fn.params[j]? = some t→args[j]? = some v→Value.okWide C.prog W .any base t v) →
   DataW.Whole enc C.prog fn.params.toList s.vars apart W args.toList ds gs before→k H (ds++gs) = true→X W args→W.ShapedOpen C.prog →
   Calls C.prog f args W fun e W'=>∃ v,e = .returned v∧(s.at F).post enc C.prog fn apart fresh handsOn again W args v W') :
  ReturnsInHanded a C os f .any (fun w args=>(s.pre enc C.prog fn conds apart w args∧X w args)∧sizedMet enc C.prog fn s apart w args) ((s.at F).post enc C.prog fn apart fresh handsOn again):=by
 refine returnsInHanded_of_calls own started noInit witness ?_
 intro w tape i _ hsh _ hok hpre hholds
 obtain ⟨_,_,_,fn',hfn',_,_,_,_,hval⟩:=hok
 have e:fn' = fn:=Option.some.inj (hfn'.symm.trans hfn)
 subst e
 obtain ⟨⟨hp0,hx⟩,_⟩:=hpre
 obtain ⟨ds,gs,before,hw,_,hkk⟩:=(OpenSpec.pre_some hk conds apart _ _).1 hp0
 have hw':=DataW.Whole.of_heap (w':=w.forCall tape i) (by rfl) hw
 refine (contract (w.forCall tape i) w.heap.size i.args ds gs before hval hw' hkk (hX _ _ _ (by rfl) hx) hsh).mono fun e W' ⟨v,he,hp⟩=>?_
 subst he
 exact ChangeSpec.post_blind hp
theorem witness_and {H:Type} {enc:TypeId×Value→H} {C:Checked} {os:Os} {f:FuncId} {fn:Func} {s:OpenSpec} {k:(H:Type)→List (DataW H)→Bool} (hk:s.cond = some k) {conds:List PathCond} {apart:Bool} {X:World→Array Value→Prop} (modest:Bool) (w0:World) (args:Array Value) (fuel:Nat) (hos:w0.os = os)
  (hsh:(w0.forCall (fun _ _=>0) ⟨#[],args,[]⟩).Shaped C.prog)
  (hok:Input.okWideB C.prog (w0.forCall (fun _ _=>0) ⟨#[],args,[]⟩) f ⟨#[],args,[]⟩ = true)
  {x:List (DataW H)×List (DataW H)×List MemPlace} (hx:DataW.whole enc C.prog (w0.forCall (fun _ _=>0) ⟨#[],args,[]⟩).memory fn.params.toList s.vars apart args.toList fuel = some x)
  (hconds:conds.all (PathCond.test C.prog ⟨fn.params.toList,x.1,s.bare.plain.varTypes C.prog,x.2.1⟩) = true) (hkk:k H (x.1++x.2.1) = true)
  (hsz:s.bare.sizedB enc C.prog fn apart (w0.forCall (fun _ _=>0) ⟨#[],args,[]⟩).memory args fuel = true)
  (hxx:X (w0.forCall (fun _ _=>0) ⟨#[],args,[]⟩).memory args) :
 ∃(w:World) (tape:Tape) (i:Input),w.os = os∧(w.forCall tape i).Shaped C.prog∧i.vars = []∧Input.okWide C.prog (w.forCall tape i) .any w.heap.size f i∧((s.pre enc C.prog fn conds apart (w.forCall tape i).memory i.args∧X (w.forCall tape i).memory i.args)∧sizedMet enc C.prog fn s apart (w.forCall tape i).memory i.args)∧({ modest:=modest }:Assume).holds C.prog (lone (Frame.enter C.prog f i.args .normal) [] (w.forCall tape i)) :=
 ⟨w0,fun _ _=>0,⟨#[],args,[]⟩,hos,hsh,(Input.okWide_of_okWideB (base:=0) hok).1,(Input.okWide_of_okWideB hok).2,⟨⟨(OpenSpec.pre_some hk conds apart _ _).2 ⟨x.1,x.2.1,x.2.2,DataW.Whole_of_whole hx,hconds,hkk⟩,hxx⟩,sizedMet_of_sizedB hsz⟩,by
  simp only [Assume.holds]
  exact ⟨by simp,by simp,fun _=>Modest.zero,by simp,by simp⟩⟩
set_option maxRecDepth 100000 in
theorem lifted (os:Os) (started:os.Started) (H:Type) (enc:TypeId×Value→H) (F:Stop.Interp) :
  ReturnsInHanded {} Tryd.checked os 6 .any (fun w args=>((Rows.OpenSpec.upto Rows.codeJoinsSpec).pre enc Tryd.prog Tryd.f6 Rows.codeJoinsUptoRow.domain false w args∧laidMetH Tryd.prog Rows.codeJoinsUptoRow.laid w)∧sizedMet enc Tryd.prog Tryd.f6 (Rows.OpenSpec.upto Rows.codeJoinsSpec) false w args) (((Rows.OpenSpec.upto Rows.codeJoinsSpec).at F).post enc Tryd.prog Tryd.f6 false true false false):=by
 refine cond_and (C:=Tryd.checked) (s:=Rows.OpenSpec.upto Rows.codeJoinsSpec) (k:=Rows.uptoSmall) rfl (F:=F) (X:=fun w _=>laidMetH Tryd.prog Rows.codeJoinsUptoRow.laid w) (fun _ _ _ hh h=>h.of_heap hh) own started (by kernel_rfl) Tryd.func6 (witness_and (enc:=enc) (C:=Tryd.checked) (os:=os) (s:=Rows.OpenSpec.upto Rows.codeJoinsSpec) (k:=Rows.uptoSmall) rfl (x:=([.lit (.string []),.lit (.string [])],[],[])) (X:=fun w _=>laidMetH Tryd.prog Rows.codeJoinsUptoRow.laid w) false (World.laidAll Tryd.prog os Rows.codeJoinsUptoRow.laid) #[.string ByteArray.empty,.string ByteArray.empty] 8 (World.laidAll_os _ _ _) (World.shaped_of_ZipB (by kernel_rfl) (by kernel_rfl)) (by kernel_rfl) (by kernel_rfl) (by kernel_rfl) (by kernel_rfl) (by kernel_rfl) (by rw [MakeChecks.laidMetH_plain _ _ _ (by kernel_rfl)]; exact laidMet_laidAll _ (by kernel_rfl) (by kernel_rfl))) ?_
 intro W base args ds gs before hval hW hk hL hsh
 exact law_contract_tab Ts 40 (by kernel_rfl) rfl (fun ds h=>by
  match ds,h with
  | [d0,d1],_=>rfl) (by kernel_rfl) (tb:=4) rfl (by kernel_rfl) W base args ds gs before hval (fun x hx hr=>spec x hx _ hr hk) hW (tabs W hL hsh)
theorem over:Rows.codeJoinsUptoRow.holds Tryd.pinned (Rows.OpenSpec.upto Rows.codeJoinsSpec) :=
 OpenClaim.holds_of_cond 6 Tryd.f6 rfl rfl rfl rfl rfl rfl rfl ⟨rfl,rfl,rfl,rfl,rfl⟩ rfl rfl rfl rfl rfl (by kernel_rfl) Tryd.func6 (by kernel_rfl) (of_decide_eq_true (by kernel_rfl)) (by unfold Func.isWrapper; first | (rw [if_pos (by decide +kernel)]; kernel_rfl) | (rw [if_neg (by decide +kernel)]; exact ⟨rfl,rfl⟩)) (fun os started H enc _ F=>lifted os started H enc F)
theorem proved:Rows.CodeJoinsUptoCardSaid :=
 Claim7.holds_tied_plain_at .later [] [.data,.data,.data,.data,.sentinel,.sentinel,.widerDeep,.pinned] true Rows.codeJoinsUptoCard.stood.harness true over (fun _ h=>by cases h) (by kernel_rfl) (fun _ h=>by cases h) codeJoinsUpto_row_tie rfl ⟨rfl,rfl⟩ (by kernel_rfl) rfl (fun f fn hf hfn=>by
   obtain rfl : f = 6 := Option.some.inj ((show Tryd.prog.funcNamed "taskmill/taskmilllaw.CodeJoins" = some 6 by kernel_rfl).symm.trans hf) |>.symm
   obtain rfl:fn = Tryd.f6:=(Option.some.inj (Tryd.func6.symm.trans hfn)).symm
   refine ⟨by kernel_rfl,fun j t ht=>?_⟩
   have hm:t ∈ Tryd.f6.params.toList:=by simpa using Array.mem_of_getElem? ht
   have hall:(Tryd.f6.params.toList.all fun u=>!Tryd.prog.wantsStandIn u) = true:=by kernel_rfl
   exact (show Tryd.prog.wantsStandIn t = false by simpa using List.all_eq_true.1 hall t hm))
  (by kernel_rfl)
end Go.Proofs.YtdckaaiidagodaaDoor.codeJoinsUpto
