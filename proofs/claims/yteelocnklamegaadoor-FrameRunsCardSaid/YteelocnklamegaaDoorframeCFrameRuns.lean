/-
 The law FrameRuns returns true for every input.
 No conditions.
-/
import Derived.Test.YteelocnklamegaaDoorRows
import Derived.Test.YteelocnklamegaaDoorTie
import Derived.Test.YteelocnklamegaaDoorCards
import Derived.LaidMore
import Derived.Lay
import Derived.SevenTiedAt
import Derived.Stop.Joined
import Derived.Lib.LaidU8
import Derived.LaidHandle
import Derived.LaidLaws
import Derived.ChangeArms
import Derived.Test.YteelocnklamegaaDoorframeA3
import Derived.ProofKit
import Derived.OpenShut
import Derived.Test.YteelocnklamegaaDoorframeWFrameRuns3
import Derived.Test.YteelocnklamegaaDoorframeBFrameRuns1
set_option linter.unusedSimpArgs false
set_option linter.unusedVariables false
set_option linter.unusedSectionVars false
namespace Go.Proofs.YteelocnklamegaaDoor.frameRuns
open Go.Proofs Go.ChangeShapes Go.WideShapes Go.ChangeAt Go.RowKit Go Go.Sx
theorem own:ownKnob Tryd.prog.godebug = none:=by kernel_rfl
abbrev TDeed:Ty:=(.pair (.int .i64) (.pair (.int .i64) .unit))
def cvDeed (x:TDeed.den):Deed:=Deed.mk x.1 x.2.1
def cvlDeed (x:(Ty.sl TDeed).den):List Deed:=List.map cvDeed (x:List TDeed.den)
theorem sl_conv {α:Type} [Enc α] {e:Ty} (cv:e.den→α) (h:∀ x,e.sv x = Enc.cells (cv x)) (xs:List e.den):fl (xs.map cv) = xs.flatMap e.sv:=by
 simp only [fl,List.flatMap_map]
 congr 1
 funext x
 exact (h x).symm
theorem cvDeed_cells (x:TDeed.den):TDeed.sv x = Enc.cells (cvDeed x):=by
 obtain ⟨x0,x1,u⟩:=x
 rfl
theorem cvlDeed_cells (x:(Ty.sl TDeed).den):(Ty.sl TDeed).sv x = Enc.cells (cvlDeed x):=by
 have e:=sl_conv cvDeed cvDeed_cells x
 show [SV.sl (List.length (α:=TDeed.den) x) (List.flatMap TDeed.sv x)] = [SV.sl (cvlDeed x).length (fl (cvlDeed x))]
 rw [← e]
 simp only [cvlDeed,List.length_map]
abbrev Ts:List Ty:=[(.sl (.sl (.pair (.int .i64) (.pair (.int .i64) .unit))))]
theorem spec (x:Tys.den Ts) (h:Tys.ok Ts x):SpecW Tryd.prog 3 (Tys.args Ts x) [] 0 (fun r _ _=>r = .v (.bool true)):=by
 have ok:=h
 obtain ⟨l1,u⟩:=x
 have S:=taskmilllaw_FrameRuns_spec (l1.map cvlDeed) true (runs_law (l1.map cvlDeed) (by rw [List.length_map]; have hm:maxLen = 9223372036854775807:=(by decide +kernel); have o2:=ok; simp only [Tys.ok,Ty.ok] at o2; rw [hm] at o2; exact o2.1.1))
 simp only [List.length_map,sl_conv cvlDeed cvlDeed_cells l1] at S
 refine SpecW.mono S ?_
 rintro r hp n ⟨rfl,_,_⟩
 rfl
theorem trod_iface {H:Type} {enc:TypeId×Value→H} {P:Program} {w:World} {base:Nat} {sp:Nat→Bool} {fuel:Nat} {t:TypeId} {ms:Array (String×TypeId)} {cs:List Value} {nm:String} {d:DataW H} {p:List MemPlace} (ht:P.underlying t = some (.interface ms))
  (h:DataW.trod enc P w base sp false fuel t cs = some (.iface nm d,p)):∃ u v n,cs = [.iface u v]∧P.typeName? 3 u = some nm∧DataW.trod enc P w base sp false n u v.cells.toList = some (d,p):=by
 cases fuel with
 | zero=>simp [DataW.trod] at h
 | succ n =>
  unfold DataW.trod at h
  rw [ht] at h
  split at h <;> try (rename_i h1 _; simp at h1; done)
  all_goals try (rename_i h1; simp at h1; done)
  all_goals try (cases h; done)
  ·rename_i u v _
   cases hn:P.typeName? 3 u with
   | none=>rw [hn] at h; cases h
   | some name =>
    rw [hn] at h
    obtain ⟨x,hx,he⟩:=Option.map_eq_some_iff.1 h
    simp only [Prod.mk.injEq,DataW.iface.injEq] at he
    obtain ⟨⟨rfl,rfl⟩,rfl⟩:=he
    exact ⟨u,v,n,rfl,hn,hx⟩
theorem star : "*" ++ "errors.errorString" = "*errors.errorString" := by decide
theorem row91 (u : TypeId) (h : Tryd.prog.typeName? 3 u = some "*errors.errorString") : u = 91 :=
 typeName_ptr_named (nm := "errors.errorString") (by rw [star]; kernel_rfl) (by kernel_rfl) (by decide) u (by rw [star]; exact h)
theorem lt_of_cell {W:World} {b i:Nat} {x:Value} (h:W.cell? ⟨b,i,none⟩ = some x):b < W.heap.size:=by
 unfold World.cell? at h
 cases hb:W.heap[b]? with
 | none=>simp [hb] at h
 | some o=>exact (Array.getElem?_eq_some_iff.1 hb).1
set_option maxRecDepth 100000 in
theorem tired_cell {W : World} (h : laidMet Tryd.prog [("taskmill/frame.errTired", Rows.laid_taskmill_frame_errTired)] W) : ∃ a, W.cell? ⟨0, 0, none⟩ = some (.iface 91 (.pointer (some a))) := by
 obtain ⟨ps,⟨g,t,cs,fuel,p,q,h1,h2,h3,h4,_,h6⟩,_,hok⟩:=h
 obtain rfl := Option.some.inj ((show Tryd.prog.globalNamed "taskmill/frame.errTired" = some 0 by kernel_rfl).symm.trans h1)
 obtain rfl:=Option.some.inj ((show (Tryd.prog.globals[0]?).map (·.type) = some 46 by kernel_rfl).symm.trans h2)
 obtain ⟨u,v,n,hcs,hn,hv⟩:=trod_iface Tryd.underlying46 h4
 obtain rfl:=row91 u hn
 have hcell:W.cell? ⟨0,0,none⟩ = some (.iface 91 v):=by
  have:=World.var?_cell h1 h3 0
  rw [Array.eq_one_of_toList hcs] at this
  simpa using this
 have hmem:MemPlace.cell 0 0 ∈ MemPlace.row ⟨0,0,none⟩ cs.size:=by
  rw [Array.eq_one_of_toList hcs]
  exact List.mem_map.2 ⟨0,by simp,rfl⟩
 subst h6
 have hok0:=hok 0 0 (List.mem_append_left _ (List.mem_append_left _ hmem))
 have hw:=hok0.2 91 v hcell
 obtain ⟨a,rfl⟩:=okWide_pointer Tryd.underlying91 hw
 cases a with
 | some a=>exact ⟨a,hcell⟩
 | none =>
  rcases DataW.trod_pointer Tryd.underlying91 hv with ⟨_,hx⟩ | hh
  ·cases hx
  ·obtain ⟨a,cs',y,n1,_,hc,_⟩:=hh
   have hc:[Value.pointer none] = [Value.pointer (some a)]:=hc
   simp at hc
theorem tabs (W:World) (hL:laidMetH Tryd.prog Rows.frameRunsRow.laid W):TabOk Tryd.prog (fun b=>b < W.heap.size) W:=by
 have hL : laidMet Tryd.prog [("taskmill/frame.errTired", Rows.laid_taskmill_frame_errTired)] W ∧ handlesMet Tryd.prog [("errors.errorType", Rows.laid_errors_errorType)] W := hL
 obtain ⟨a,ha⟩:=tired_cell hL.1
 obtain ⟨name,u,ty,e1,e2,e3,e4,e5⟩:=hL.2 _ (List.mem_singleton.2 rfl)
 have en:name = [101,114,114,111,114]:=(Option.some.inj e1).symm
 subst en
 obtain rfl := Option.some.inj ((show (Tryd.prog.cutTypes.find? (·.1 == "internal/reflectlite.rtype")).map (·.2) = some 76 by kernel_rfl).symm.trans e2)
 have hm:ty ∈ (List.range Tryd.prog.types.size).filter fun t=>Tryd.prog.rowNamed t [101,114,114,111,114]:=List.mem_filter.2 ⟨List.mem_range.2 e3,e4⟩
 rw [show ((List.range Tryd.prog.types.size).filter fun t=>Tryd.prog.rowNamed t [101,114,114,111,114]) = [46] from by kernel_rfl] at hm
 obtain rfl:=List.mem_singleton.1 hm
 rw [show typeHandle Tryd.prog 46 = .pointer (some ⟨2,46,none⟩) from by kernel_rfl] at e5
 have hb:W.cell? ⟨1,0,none⟩ = some (.iface 76 (.agg #[.pointer (some ⟨2,46,none⟩)])):=by
  simpa using World.var?_cell (show Tryd.prog.globalNamed "errors.errorType" = some 1 by kernel_rfl) e5 0
 intro g cs hg
 match g with
 | 0 =>
  obtain rfl:cs = [.er 48 91 0 .tired]:=Option.some.inj (hg.symm.trans (by kernel_rfl))
  refine ⟨lt_of_cell ha,fun i x hi=>?_⟩
  match i,hi with
  | 0,hi=>cases hi; exact ⟨_,ha,rfl,lt_of_cell ha,a,rfl,ha⟩
  | i+1,hi=>simp at hi
 | 1 =>
  obtain rfl:cs = [.v (.iface 76 (.agg #[.pointer (some ⟨2,46,none⟩)]))]:=Option.some.inj (hg.symm.trans (by kernel_rfl))
  refine ⟨lt_of_cell hb,fun i x hi=>?_⟩
  match i,hi with
  | 0,hi=>cases hi; exact ⟨_,hb,rfl⟩
  | i+1,hi=>simp at hi
 | g+2 =>
  have:Tryd.prog.globals[g+2]? = none:=by
   rw [Array.getElem?_eq_none_iff,show Tryd.prog.globals.size = 2 from by kernel_rfl]; omega
  unfold tabOf at hg
  rw [this] at hg
  cases hg
theorem door_met (os:Os) (args:Array Value):laidMetH Tryd.prog Rows.frameRunsRow.laid ((World.doorLaid Tryd.prog 200 os).forCall (fun _ _=>0) ⟨#[],args,[]⟩).memory :=
 laidMetH_of_parts3 (fuel:=8) (laidMet_of_run' 8 (by kernel_rfl) (by kernel_rfl)) (by kernel_rfl) (by kernel_rfl)
set_option maxRecDepth 100000 in
theorem lifted (os:Os) (started:os.Started) (H:Type) (enc:TypeId×Value→H) :
  ReturnsInHanded {} Tryd.checked os 3 .any (fun w args=>(Rows.frameRunsSpec.pre enc Tryd.prog Tryd.f3 Rows.frameRunsRow.domain false w args∧laidMetH Tryd.prog Rows.frameRunsRow.laid w)∧sizedMet enc Tryd.prog Tryd.f3 (OpenSpec.ofChange Rows.frameRunsSpec) false w args) (Rows.frameRunsSpec.post enc Tryd.prog Tryd.f3 false true false false):=by
 refine returnsInHanded_of_change_and (C:=Tryd.checked) (X:=fun w _=>laidMetH Tryd.prog Rows.frameRunsRow.laid w) (fun _ _ _ hh h=>h.of_heap hh) own started (by kernel_rfl) Tryd.func3 (ChangeSpec.witness_shaped (enc:=enc) (C:=Tryd.checked) (os:=os) (X:=fun w _=>laidMetH Tryd.prog Rows.frameRunsRow.laid w) false (World.doorLaid Tryd.prog 200 os) #[.slice none 0 0] 8 rfl (World.shaped_of_RefB (by kernel_rfl) (by kernel_rfl)) (by kernel_rfl) (by kernel_rfl) (by kernel_rfl) (door_met os _)) ?_
 intro W base args ds gs before hval hW _ _ hL _
 exact law_contract_tab Ts 40 (by kernel_rfl) rfl (fun ds h=>by
  match ds,h with
  | [d0],_=>rfl) (by kernel_rfl) (tb:=4) rfl (by kernel_rfl) W base args ds gs before hval (fun x hx _=>spec x hx) hW (tabs W hL)
theorem over:Rows.frameRunsRow.holds Tryd.pinned (OpenSpec.ofChange Rows.frameRunsSpec) :=
 OpenClaim.holds_of_wide 3 Tryd.f3 rfl rfl rfl rfl rfl rfl rfl ⟨rfl,rfl,rfl,rfl,rfl⟩ rfl rfl rfl rfl rfl (by kernel_rfl) Tryd.func3 (by kernel_rfl) (of_decide_eq_true (by kernel_rfl)) (by unfold Func.isWrapper; first | (rw [if_pos (by decide +kernel)]; kernel_rfl) | (rw [if_neg (by decide +kernel)]; exact ⟨rfl,rfl⟩)) (fun os started H enc _=>lifted os started H enc)
theorem proved:Rows.FrameRunsCardSaid :=
 Claim7.holds_tied_plain_at .later [] [.handle,.sentinel] true Rows.frameRunsCard.stood.harness true over (fun _ h=>by cases h) (by kernel_rfl) (fun _ h=>by cases h) frameRuns_row_tie rfl ⟨rfl,rfl⟩ (by kernel_rfl) rfl (fun f fn hf hfn=>by
   obtain rfl : f = 3 := Option.some.inj ((show Tryd.prog.funcNamed "taskmill/taskmilllaw.FrameRuns" = some 3 by kernel_rfl).symm.trans hf) |>.symm
   obtain rfl:fn = Tryd.f3:=(Option.some.inj (Tryd.func3.symm.trans hfn)).symm
   refine ⟨by kernel_rfl,fun j t ht=>?_⟩
   have hm:t ∈ Tryd.f3.params.toList:=by simpa using Array.mem_of_getElem? ht
   have hall:(Tryd.f3.params.toList.all fun u=>!Tryd.prog.wantsStandIn u) = true:=by kernel_rfl
   exact (show Tryd.prog.wantsStandIn t = false by simpa using List.all_eq_true.1 hall t hm))
  (by kernel_rfl)
end Go.Proofs.YteelocnklamegaaDoor.frameRuns
