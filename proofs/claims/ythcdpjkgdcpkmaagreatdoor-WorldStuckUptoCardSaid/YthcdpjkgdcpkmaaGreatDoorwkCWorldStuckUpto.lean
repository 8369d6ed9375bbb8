/-
 The law WorldStuck returns true for every input.
 No conditions.
-/
import Derived.Test.YthcdpjkgdcpkmaaGreatDoorRows
import Derived.Test.YthcdpjkgdcpkmaaGreatDoorTie
import Derived.Test.YthcdpjkgdcpkmaaGreatDoorCards
import Derived.LaidMore
import Derived.Lay
import Derived.SevenTiedAt
import Derived.Stop.Joined
import Derived.Lib.LaidU8
import Derived.Test.YthcdpjkgdcpkmaaGreatDoorwkA3
import Derived.ProofKit
import Derived.OpenShut
import Derived.JoinedCond
import Derived.Test.YthcdpjkgdcpkmaaGreatDoorwkWWorldStuckUpto8
import Derived.Test.YthcdpjkgdcpkmaaGreatDoorwkBWorldStuckUpto2
set_option linter.unusedSimpArgs false
set_option linter.unusedVariables false
set_option linter.unusedSectionVars false
namespace Go.Proofs.YthcdpjkgdcpkmaaGreatDoor.worldStuckUpto
open Go.Proofs Go.ChangeShapes Go.WideShapes Go.ChangeAt Go.RowKit Go Go.Sx
theorem own:ownKnob Tryz.prog.godebug = none:=by kernel_rfl
abbrev xL:Ty:=(.pair (.int .i64) (.pair (.int .i64) (.pair (.int .i64) .unit)))
def vV (x:xL.den):df:=df.mk x.1 x.2.1 x.2.2.1
theorem LC {α:Type} [b_ α] {e:Ty} (cv:e.den->α) (h:∀ x,e.sv x = b_.cells (cv x)) (xs:List e.den):fl (xs.map cv) = xs.flatMap e.sv:=by
 simp only [fl,List.flatMap_map]
 congr 1
 funext x
 exact (h x).symm
theorem AN (x:xL.den):xL.sv x = b_.cells (vV x):=by
 obtain ⟨x0,x1,x2,u⟩:=x
 rfl
abbrev Ts:List Ty:=[(.pair (.sl (.pair (.int .i64) (.pair (.int .i64) (.pair (.int .i64) .unit)))) (.pair (.int .i64) (.pair (.sl (.int .i64)) (.pair (.int .i64) (.pair (.int .i64) .unit))))),(.int .i64),(.sl (.int .i64)),(.sl (.int .i64))]
def tb:(T:Ty)->T.den->Nat
 | .int _,_=>1
 | .bool,_=>1
 | .str,x=>x.size+1
 | .sl e,xs=>(List.map (tb e) xs).sum+1
 | .unit,_=>0
 | .pair a b,x=>tb a x.1+tb b x.2
 | .arr _ e,xs=>(List.map (tb e) xs).sum+1
def Is:(l:List Ty)->Tys.den l->Nat
 | [],_=>0
 | T::r,x=>tb T x.1+Is r x.2
theorem OM {H:Type} (d:DataW H):1<=Rows.uptoBulk d:=by
 cases d with
 | lit l=>cases l <;> simp [Rows.uptoBulk]
 | _=>simp [Rows.uptoBulk]
theorem AO {H:Type} {e:Ty} (ih:∀ (x:e.den) (d:DataW H),e.rep H x d->tb e x<=Rows.uptoBulk d):∀ (xs:List e.den) (el:List (DataW H)),el.length = xs.length->(∀ (i:Nat) (x:e.den),xs[i]? = some x->∃ y,el[i]? = some y/\e.rep H x y)->(List.map (tb e) xs).sum<=Rows.uptoBulkAll el
 | [],[],_,_=>by simp [Rows.uptoBulkAll]
 | [],_::_,h,_=>by simp at h
 | _::_,[],h,_=>by simp at h
 | x::xs,d::el,h,hx=>by
  obtain ⟨y,h1,h2⟩:=hx 0 x rfl
  simp only [List.getElem?_cons_zero,Option.some.injEq] at h1
  subst h1
  have h3:=ih x d h2
  have h4:=AO ih xs el (by simpa using h) λi x hi=>by
   have:=hx (i+1) x (by simpa using hi)
   simpa using this
  simp only [List.map_cons,List.sum_cons,Rows.uptoBulkAll]; omega
theorem xm {H:Type}:∀ (T:Ty) (x:T.den) (d:DataW H),T.rep H x d->tb T x<=Rows.uptoBulk d
 | .int k,x,d,h=>by cases h; exact Nat.le_refl _
 | .bool,x,d,h=>by cases h; exact Nat.le_refl _
 | .str,x,d,h=>by
  cases h
  show x.size+1<=x.data.toList.length+1
  exact Nat.le_refl _
 | .sl e,xs,d,h=>by
  rcases h with ⟨h1,rfl⟩ | ⟨el,spn,rfl,hl,hx⟩
  ·have h1':(xs:List e.den) = []:=h1
   show (List.map (tb e) xs).sum+1<=1
   rw [h1']; exact Nat.le_refl _
  ·have:=AO (λx d=>xm e x d) xs el hl hx
   show (List.map (tb e) xs).sum+1<=Rows.uptoBulkAll el+Rows.uptoBulkAll spn+1
   omega
 | .unit,x,d,h=>Nat.zero_le _
 | .pair a b,x,d,h=>by
  obtain ⟨p,r,rfl,h1,h2⟩:=h
  have g1:=xm a x.1 p h1
  have g2:=xm b x.2 (.agg r) h2
  show tb a x.1+tb b x.2<=Rows.uptoBulk p+Rows.uptoBulkAll r+1
  have:Rows.uptoBulk (.agg r:DataW H) = Rows.uptoBulkAll r+1:=rfl
  omega
 | .arr n e,xs,d,h=>by
  obtain ⟨el,rfl,hl,hx⟩:=h
  have:=AO (λx d=>xm e x d) xs el hl hx
  show (List.map (tb e) xs).sum+1<=Rows.uptoBulkAll el+1
  omega
theorem FB {H:Type}:∀ (l:List Ty) (x:Tys.den l) (ds:List (DataW H)),Tys.rep H l x ds->Is l x<=Rows.uptoBulkAll ds
 | [],_,_,_=>Nat.zero_le _
 | T::r,x,ds,h=>by
  obtain ⟨d,s,rfl,h1,h2⟩:=h
  have:=xm T x.1 d h1
  have:=FB r x.2 s h2
  show tb T x.1+Is r x.2<=Rows.uptoBulk d+Rows.uptoBulkAll s
  omega
theorem FC {e:Ty} (he:∀ x:e.den,1<=tb e x):∀ xs:List e.den,xs.length<=(List.map (tb e) xs).sum
 | []=>by simp
 | x::xs=>by
  have:=FC he xs
  have:=he x
  simp only [List.map_cons,List.sum_cons,List.length_cons]; omega
theorem LD (x:(Ty.int .i64).den):1<=tb (.int .i64) x:=Nat.le_refl _
theorem na {H:Type} (x:Tys.den Ts) (h:Tys.ok Ts x) (ds:List (DataW H)) (hr:Tys.rep H Ts x ds) (hk:Rows.uptoSmall H ds = true):cS Tryz.prog 10 (Tys.args Ts x) [] 0 (λr _ _=>r = .v (.bool true)):=by
 have ok:=h
 have hB:Is Ts x<=1048576:=Nat.le_trans (FB Ts x ds hr) (of_decide_eq_true hk)
 obtain ⟨⟨l1,a2,l3,a4,a5,u6⟩,a7,l8,l9,u⟩:=x
 have e:Is Ts ⟨⟨l1,a2,l3,a4,a5,u6⟩,a7,l8,l9,u⟩ = tb (.pair (.sl xL) (.pair (.int .i64) (.pair (.sl (.int .i64)) (.pair (.int .i64) (.pair (.int .i64) .unit))))) ⟨l1,a2,l3,a4,a5,u6⟩+(1+((List.map (tb (.int .i64)) l8).sum+1+((List.map (tb (.int .i64)) l9).sum+1+0))):=rfl
 rw [e] at hB
 have h1:=FC LD l9
 have hm:List.length (α:=Int) l9<=1048576:=by
  have e3:List.length (α:=Int) l9 = List.length (α:=(Ty.int .i64).den) l9:=rfl
  omega
 have S:=rW (⟨(l1.map vV),a2,l3,a4,a5⟩:cz) a7 l8 l9 true (Ir (⟨(l1.map vV),a2,l3,a4,a5⟩:cz) a7 l8 l9 hm)
 simp only [AD,List.length_map,LC vV AN l1] at S
 refine cS.mono S ?_
 rintro r hp n ⟨rfl,_,_⟩
 rfl
theorem ON (W:World) (hL:laidMetH Tryz.prog Rows.worldStuckUptoRow.laid W):sb Tryz.prog (λb=>b < W.heap.size) W:=by
 rw [MakeChecks.laidMetH_plain _ _ _ (by kernel_rfl)] at hL
 refine Kj [0,1] (by kernel_rfl) λg hg cs hc=>?_
 simp only [List.mem_cons,List.not_mem_nil,or_false] at hg
 rcases hg with rfl | rfl
 ·obtain rfl:cs = yg:=Option.some.inj (hc.symm.trans (by kernel_rfl))
  exact CR (n := "taskmill/code.kinds") (d := Rows.laid_taskmill_code_kinds) (.arr 23 (.pair .str (.pair .str .unit))) 100 (Lib.laidMet.reads hL (.tail _ (.head _))) (by kernel_rfl) rfl (by kernel_rfl) (by kernel_rfl) (by kernel_rfl) (by decide)
 ·obtain rfl:cs = [.sl 23 EG]:=Option.some.inj (hc.symm.trans (by kernel_rfl))
  exact CR (n := "taskmill/taskmillref.Args") (d := Rows.laid_taskmill_taskmillref_Args) (.sl .str) 100 (Lib.laidMet.reads hL (.head _)) (by kernel_rfl) rfl (by kernel_rfl) (by kernel_rfl) (by kernel_rfl) (by decide)
theorem Jt {H:Type} {enc:TypeId×Value->H} {a:Assume} {C:Checked} {os:Os} {f:FuncId} {fn:Func} {s:OpenSpec} {k:(H:Type)->List (DataW H)->Bool} (hk:s.cond = some k) {F:Stop.Interp} {conds:List PathCond} {apart fresh handsOn again:Bool} {X:World->Array Value->Prop}
  (hX:∀ (w w':World) (args:Array Value),w.heap = w'.heap->X w args->X w' args)
  (own:ownKnob C.prog.godebug = none) (started:os.Started) (noInit:C.prog.inits.idxOf? f = none) (hfn:C.prog.funcs[f]? = some fn)
  (witness:∃ (w:World) (tape:Tape) (i:Input),w.os = os/\(w.forCall tape i).Shaped C.prog/\i.vars = []/\Input.okWide C.prog (w.forCall tape i) .any w.heap.size f i/\((s.pre enc C.prog fn conds apart (w.forCall tape i).memory i.args/\X (w.forCall tape i).memory i.args)/\sizedMet enc C.prog fn s apart (w.forCall tape i).memory i.args)/\a.holds C.prog (lone (Frame.enter C.prog f i.args .normal) [] (w.forCall tape i)))
  (contract:∀ (W:World) (base:Nat) (args:Array Value) (ds gs:List (DataW H)) (before:List MemPlace),(∀ (j:Nat) t v,fn.params[j]? = some t->args[j]? = some v->Value.okWide C.prog W .any base t v) ->
   DataW.Whole enc C.prog fn.params.toList s.vars apart W args.toList ds gs before->k H (ds++gs) = true->X W args ->
   Calls C.prog f args W λe W'=>∃ v,e = .returned v/\(s.at F).post enc C.prog fn apart fresh handsOn again W args v W') :
  ReturnsInHanded a C os f .any (λw args=>(s.pre enc C.prog fn conds apart w args/\X w args)/\sizedMet enc C.prog fn s apart w args) ((s.at F).post enc C.prog fn apart fresh handsOn again):=by
 refine returnsInHanded_of_calls own started noInit witness ?_
 intro w tape i _ _ _ hok hpre hholds
 obtain ⟨_,_,_,fn',hfn',_,_,_,_,hval⟩:=hok
 have e:fn' = fn:=Option.some.inj (hfn'.symm.trans hfn)
 subst e
 obtain ⟨⟨hp0,hx⟩,_⟩:=hpre
 obtain ⟨ds,gs,before,hw,_,hkk⟩:=(OpenSpec.pre_some hk conds apart _ _).1 hp0
 have hw':=DataW.Whole.of_heap (w':=w.forCall tape i) (by rfl) hw
 refine (contract (w.forCall tape i) w.heap.size i.args ds gs before hval hw' hkk (hX _ _ _ (by rfl) hx)).mono λe W' ⟨v,he,hp⟩=>?_
 subst he
 exact ChangeSpec.post_blind hp
theorem EF {H:Type} {enc:TypeId×Value->H} {C:Checked} {os:Os} {f:FuncId} {fn:Func} {s:OpenSpec} {k:(H:Type)->List (DataW H)->Bool} (hk:s.cond = some k) {conds:List PathCond} {apart:Bool} {X:World->Array Value->Prop} (modest:Bool) (w0:World) (args:Array Value) (fuel:Nat) (hos:w0.os = os)
  (hsh:(w0.forCall (λ_ _=>0) ⟨#[],args,[]⟩).Shaped C.prog)
  (hok:Input.okWideB C.prog (w0.forCall (λ_ _=>0) ⟨#[],args,[]⟩) f ⟨#[],args,[]⟩ = true)
  {x:List (DataW H)×List (DataW H)×List MemPlace} (hx:DataW.whole enc C.prog (w0.forCall (λ_ _=>0) ⟨#[],args,[]⟩).memory fn.params.toList s.vars apart args.toList fuel = some x)
  (hconds:conds.all (PathCond.test C.prog ⟨fn.params.toList,x.1,s.bare.plain.varTypes C.prog,x.2.1⟩) = true) (hkk:k H (x.1++x.2.1) = true)
  (hsz:s.bare.sizedB enc C.prog fn apart (w0.forCall (λ_ _=>0) ⟨#[],args,[]⟩).memory args fuel = true)
  (hxx:X (w0.forCall (λ_ _=>0) ⟨#[],args,[]⟩).memory args) :
 ∃(w:World) (tape:Tape) (i:Input),w.os = os/\(w.forCall tape i).Shaped C.prog/\i.vars = []/\Input.okWide C.prog (w.forCall tape i) .any w.heap.size f i/\((s.pre enc C.prog fn conds apart (w.forCall tape i).memory i.args/\X (w.forCall tape i).memory i.args)/\sizedMet enc C.prog fn s apart (w.forCall tape i).memory i.args)/\({ modest:=modest }:Assume).holds C.prog (lone (Frame.enter C.prog f i.args .normal) [] (w.forCall tape i)) :=
 ⟨w0,λ_ _=>0,⟨#[],args,[]⟩,hos,hsh,(Input.okWide_of_okWideB (base:=0) hok).1,(Input.okWide_of_okWideB hok).2,⟨⟨(OpenSpec.pre_some hk conds apart _ _).2 ⟨x.1,x.2.1,x.2.2,DataW.Whole_of_whole hx,hconds,hkk⟩,hxx⟩,sizedMet_of_sizedB hsz⟩,by
  simp only [Assume.holds]
  exact ⟨by simp,by simp,λ_=>Modest.zero,by simp,by simp⟩⟩
set_option maxRecDepth 100000 in
theorem Nf (os:Os) (started:os.Started) (H:Type) (enc:TypeId×Value->H) (F:Stop.Interp) :
  ReturnsInHanded {} Tryz.checked os 10 .any (λw args=>((Rows.OpenSpec.upto Rows.worldStuckSpec).pre enc Tryz.prog Tryz.f10 Rows.worldStuckUptoRow.domain false w args/\laidMetH Tryz.prog Rows.worldStuckUptoRow.laid w)/\sizedMet enc Tryz.prog Tryz.f10 (Rows.OpenSpec.upto Rows.worldStuckSpec) false w args) (((Rows.OpenSpec.upto Rows.worldStuckSpec).at F).post enc Tryz.prog Tryz.f10 false true false false):=by
 refine Jt (C:=Tryz.checked) (s:=Rows.OpenSpec.upto Rows.worldStuckSpec) (k:=Rows.uptoSmall) rfl (F:=F) (X:=λw _=>laidMetH Tryz.prog Rows.worldStuckUptoRow.laid w) (λ_ _ _ hh h=>h.of_heap hh) own started (by kernel_rfl) Tryz.func10 (EF (enc:=enc) (C:=Tryz.checked) (os:=os) (s:=Rows.OpenSpec.upto Rows.worldStuckSpec) (k:=Rows.uptoSmall) rfl (x:=([.agg [.nil,.lit (.int .i64 0),.nil,.lit (.int .i64 0),.lit (.int .i64 0)],.lit (.int .i64 0),.nil,.nil],[],[])) (X:=λw _=>laidMetH Tryz.prog Rows.worldStuckUptoRow.laid w) false (World.laidAll Tryz.prog os Rows.worldStuckUptoRow.laid) #[.agg #[.slice none 0 0,.int .i64 0,.slice none 0 0,.int .i64 0,.int .i64 0],.int .i64 0,.slice none 0 0,.slice none 0 0] 8 (World.laidAll_os _ _ _) (World.shaped_of_ZipB (by kernel_rfl) (by kernel_rfl)) (by kernel_rfl) (by kernel_rfl) (by kernel_rfl) (by kernel_rfl) (by kernel_rfl) (by rw [MakeChecks.laidMetH_plain _ _ _ (by kernel_rfl)]; exact laidMet_laidAll _ (by kernel_rfl) (by kernel_rfl))) ?_
 intro W base args ds gs before hval hW hk hL
 exact yy Ts 40 (by kernel_rfl) rfl (λds h=>by
  match ds,h with
  | [d0,d1,d2,d3],_=>rfl) (by kernel_rfl) (tb:=4) rfl (by kernel_rfl) W base args ds gs before hval (λx hx hr=>na x hx _ hr hk) hW (ON W hL)
theorem OO:Rows.worldStuckUptoRow.holds Tryz.pinned (Rows.OpenSpec.upto Rows.worldStuckSpec) :=
 OpenClaim.holds_of_cond 10 Tryz.f10 rfl rfl rfl rfl rfl rfl rfl ⟨rfl,rfl,rfl,rfl,rfl⟩ rfl rfl rfl rfl rfl (by kernel_rfl) Tryz.func10 (by kernel_rfl) (of_decide_eq_true (by kernel_rfl)) (by unfold Func.isWrapper; first | (rw [if_pos (by decide +kernel)]; kernel_rfl) | (rw [if_neg (by decide +kernel)]; exact ⟨rfl,rfl⟩)) (λos started H enc _ F=>Nf os started H enc F)
theorem proved:Rows.WorldStuckUptoCardSaid :=
 Claim7.holds_tied_plain_at .later [] [.data,.widerDeep] true Rows.worldStuckUptoCard.stood.harness false OO (λ_ h=>by cases h) (by kernel_rfl) (λ_ h=>by cases h) worldStuckUpto_row_tie rfl ⟨rfl,rfl⟩ (by kernel_rfl) rfl (λf fn hf hfn=>by
   obtain rfl : f = 10 := Option.some.inj ((show Tryz.prog.funcNamed "taskmill/taskmilllaw.WorldStuck" = some 10 by kernel_rfl).symm.trans hf) |>.symm
   obtain rfl:fn = Tryz.f10:=(Option.some.inj (Tryz.func10.symm.trans hfn)).symm
   refine ⟨by kernel_rfl,λj t ht=>?_⟩
   have hm:t ∈ Tryz.f10.params.toList:=by simpa using Array.mem_of_getElem? ht
   have hall:(Tryz.f10.params.toList.all λu=>!Tryz.prog.wantsStandIn u) = true:=by kernel_rfl
   exact (show Tryz.prog.wantsStandIn t = false by simpa using List.all_eq_true.1 hall t hm))
  (by kernel_rfl)
end Go.Proofs.YthcdpjkgdcpkmaaGreatDoor.worldStuckUpto
