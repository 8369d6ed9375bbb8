/-
 The law RaceOnline returns true for every input.
 No conditions.
-/
import Derived.Test.YtelegonboeacaaaRows
import Derived.ProofKit
import Derived.OpenShut
import Derived.Test.YtelegonboeacaaaraceWRaceOnline3
import Derived.Test.YtelegonboeacaaaraceBRaceOnline1
set_option linter.unusedSimpArgs false
set_option linter.unusedVariables false
set_option linter.unusedSectionVars false
namespace Go.Proofs.Ytelegonboeacaaa.raceOnline
open Go.ChangeShapes Go.WideShapes Go.ChangeAt Go.RowKit Go Go.Sx
theorem own:ownKnob Try.prog.godebug = none:=by kernel_rfl
abbrev TGEvent:Ty:=(.pair (.int .i64) (.pair (.int .i64) (.pair (.int .i64) (.pair (.int .i64) .unit))))
def cvGEvent (x:TGEvent.den):GEvent:=GEvent.mk x.1 x.2.1 x.2.2.1 x.2.2.2.1
theorem sl_conv {α:Type} [Enc α] {e:Ty} (cv:e.den→α) (h:∀ x,e.sv x = Enc.cells (cv x)) (xs:List e.den):fl (xs.map cv) = xs.flatMap e.sv:=by
 simp only [fl,List.flatMap_map]
 congr 1
 funext x
 exact (h x).symm
theorem cvGEvent_cells (x:TGEvent.den):TGEvent.sv x = Enc.cells (cvGEvent x):=by
 obtain ⟨x0,x1,x2,x3,u⟩:=x
 rfl
abbrev Ts:List Ty:=[(.sl (.pair (.int .i64) (.pair (.int .i64) (.pair (.int .i64) (.pair (.int .i64) .unit))))),(.sl (.int .i64))]
theorem spec (x:Tys.den Ts) (h:Tys.ok Ts x):SpecW Try.prog 8 (Tys.args Ts x) [] 0 (fun r _ _=>r = .v (.bool true)):=by
 have ok:=h
 obtain ⟨l1,l2,u⟩:=x
 have S:=taskmilllaw_RaceOnline_spec (l1.map cvGEvent) l2 true (online_law (l1.map cvGEvent) l2)
 simp only [List.length_map,sl_conv cvGEvent cvGEvent_cells l1] at S
 refine SpecW.mono S ?_
 rintro r hp n ⟨rfl,_,_⟩
 rfl
set_option maxRecDepth 100000 in
theorem lifted (os:Os) (started:os.Started) (H:Type) (enc:TypeId×Value→H) :
  ReturnsInHanded {} Try.checked os 8 .any (Rows.raceOnlineSpec.pre6 enc Try.prog Try.f8 Rows.raceOnlineRow.domain false) (Rows.raceOnlineSpec.post enc Try.prog Try.f8 false true false false):=by
 refine returnsInHanded_of_change (C:=Try.checked) own started (by kernel_rfl) Try.func8 (ChangeSpec.witness6 (enc:=enc) (C:=Try.checked) false ⟨#[],#[.slice none 0 0,.slice none 0 0],[]⟩ 8 (by kernel_rfl) (by kernel_rfl) (by kernel_rfl) (by kernel_rfl)) ?_
 intro W base args ds gs before hval hW _ _
 exact law_contract Ts 40 (by kernel_rfl) rfl (fun ds h=>by
  match ds,h with
  | [d0,d1],_=>rfl) (by kernel_rfl) (tb:=4) rfl (by kernel_rfl) W base args ds gs before hval (fun x hx _=>spec x hx) hW
theorem over:Rows.raceOnlineRow.holds Try.pinned (OpenSpec.ofChange Rows.raceOnlineSpec) :=
 OpenClaim.holds_of_wide 8 Try.f8 rfl rfl rfl rfl rfl rfl rfl ⟨rfl,rfl,rfl,rfl,rfl⟩ rfl rfl rfl rfl rfl (by kernel_rfl) Try.func8 (by kernel_rfl) (of_decide_eq_true (by kernel_rfl)) (by unfold Func.isWrapper; first | (rw [if_pos (by decide +kernel)]; kernel_rfl) | (rw [if_neg (by decide +kernel)]; exact ⟨rfl,rfl⟩)) (fun os started H enc _=>lifted os started H enc)
theorem proved:Rows.RaceOnlineSaid:=over
end Go.Proofs.Ytelegonboeacaaa.raceOnline
