/-
 The law BuddyWhole returns true for every input.
 No conditions.
-/
import Derived.Test.YtpeaimfdeonpgaaRows
import Derived.ProofKit
import Derived.OpenShut
import Derived.Test.YtpeaimfdeonpgaabuddyWBuddyWhole2
import Derived.Test.YtpeaimfdeonpgaabuddyBBuddyWhole1
set_option linter.unusedSimpArgs false
set_option linter.unusedVariables false
set_option linter.unusedSectionVars false
namespace Go.Proofs.Ytpeaimfdeonpgaa.buddyWhole
open Go.ChangeShapes Go.WideShapes Go.ChangeAt Go.RowKit Go Go.Sx
theorem own:ownKnob Try.prog.godebug = none:=by kernel_rfl
abbrev Ts:List Ty:=[(.int .i64),(.sl (.int .i64))]
theorem spec (x:Tys.den Ts) (h:Tys.ok Ts x):SpecW Try.prog 6 (Tys.args Ts x) [] 0 (fun r _ _=>r = .v (.bool true)):=by
 have ok:=h
 obtain ⟨a1,l2,u⟩:=x
 refine SpecW.mono (taskmilllaw_BuddyWhole_spec a1 l2 true (whole_law a1 l2)) ?_
 rintro r hp n ⟨rfl,_,_⟩
 rfl
set_option maxRecDepth 100000 in
theorem lifted (os:Os) (started:os.Started) (H:Type) (enc:TypeId×Value→H) :
  ReturnsInHanded {} Try.checked os 6 .any (Rows.buddyWholeSpec.pre6 enc Try.prog Try.f6 Rows.buddyWholeRow.domain false) (Rows.buddyWholeSpec.post enc Try.prog Try.f6 false true false false):=by
 refine returnsInHanded_of_change (C:=Try.checked) own started (by kernel_rfl) Try.func6 (ChangeSpec.witness6 (enc:=enc) (C:=Try.checked) false ⟨#[],#[.int .i64 0,.slice none 0 0],[]⟩ 8 (by kernel_rfl) (by kernel_rfl) (by kernel_rfl) (by kernel_rfl)) ?_
 intro W base args ds gs before hval hW _ _
 exact law_contract Ts 40 (by kernel_rfl) rfl (fun ds h=>by
  match ds,h with
  | [d0,d1],_=>rfl) (by kernel_rfl) (tb:=4) rfl (by kernel_rfl) W base args ds gs before hval (fun x hx _=>spec x hx) hW
theorem over:Rows.buddyWholeRow.holds Try.pinned (OpenSpec.ofChange Rows.buddyWholeSpec) :=
 OpenClaim.holds_of_wide 6 Try.f6 rfl rfl rfl rfl rfl rfl rfl ⟨rfl,rfl,rfl,rfl,rfl⟩ rfl rfl rfl rfl rfl (by kernel_rfl) Try.func6 (by kernel_rfl) (of_decide_eq_true (by kernel_rfl)) (by unfold Func.isWrapper; first | (rw [if_pos (by decide +kernel)]; kernel_rfl) | (rw [if_neg (by decide +kernel)]; exact ⟨rfl,rfl⟩)) (fun os started H enc _=>lifted os started H enc)
theorem proved:Rows.BuddyWholeSaid:=over
end Go.Proofs.Ytpeaimfdeonpgaa.buddyWhole
