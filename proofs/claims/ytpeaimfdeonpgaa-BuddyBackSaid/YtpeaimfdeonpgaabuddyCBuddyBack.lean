/-
 The law BuddyBack returns true for every input.
 No conditions.
-/
import Derived.Test.YtpeaimfdeonpgaaRows
import Derived.ProofKit
import Derived.OpenShut
import Derived.Test.YtpeaimfdeonpgaabuddyWBuddyBack1
import Derived.Test.YtpeaimfdeonpgaabuddyBBuddyBack1
set_option linter.unusedSimpArgs false
set_option linter.unusedVariables false
set_option linter.unusedSectionVars false
namespace Go.Proofs.Ytpeaimfdeonpgaa.buddyBack
open Go.ChangeShapes Go.WideShapes Go.ChangeAt Go.RowKit Go Go.Sx
theorem own:ownKnob Try.prog.godebug = none:=by kernel_rfl
abbrev TGBlock:Ty:=(.pair (.int .i64) (.pair (.int .i64) .unit))
def cvGBlock (x:TGBlock.den):GBlock:=GBlock.mk x.1 x.2.1
theorem sl_conv {α:Type} [Enc α] {e:Ty} (cv:e.den→α) (h:∀ x,e.sv x = Enc.cells (cv x)) (xs:List e.den):fl (xs.map cv) = xs.flatMap e.sv:=by
 simp only [fl,List.flatMap_map]
 congr 1
 funext x
 exact (h x).symm
theorem cvGBlock_cells (x:TGBlock.den):TGBlock.sv x = Enc.cells (cvGBlock x):=by
 obtain ⟨x0,x1,u⟩:=x
 rfl
abbrev Ts:List Ty:=[(.pair (.int .i64) (.pair (.sl (.pair (.int .i64) (.pair (.int .i64) .unit))) (.pair (.sl (.pair (.int .i64) (.pair (.int .i64) .unit))) .unit))),(.int .i64)]
theorem wl_of (l:List TGBlock.den) (h:l.length≤maxLen∧∀ x ∈ l,(Lit.int .i64 x.1).wf = true∧(Lit.int .i64 x.2.1).wf = true∧True):Wl (l.map cvGBlock):=by
 have hm:maxLen = 9223372036854775807:=by decide +kernel
 refine ⟨by rw [List.length_map,← hm]; exact h.1,fun b hb=>?_⟩
 obtain ⟨x,hx,rfl⟩:=List.mem_map.1 hb
 obtain ⟨h1,h2,_⟩:=h.2 x hx
 exact ⟨wf64 h1,wf64 h2⟩
theorem spec (x:Tys.den Ts) (h:Tys.ok Ts x):SpecW Try.prog 5 (Tys.args Ts x) [] 0 (fun r _ _=>r = .v (.bool true)):=by
 have ok:=h
 obtain ⟨⟨a1,l2,l3,u4⟩,a5,u⟩:=x
 have S:=taskmilllaw_BuddyBack_spec (⟨a1,(l2.map cvGBlock),(l3.map cvGBlock)⟩:Space) a5 true (back_law (⟨a1,(l2.map cvGBlock),(l3.map cvGBlock)⟩:Space) a5 (by have o2:=ok; simp only [Tys.ok,Ty.ok] at o2; exact ⟨wl_of l2 o2.1.2.1,wl_of l3 o2.1.2.2.1⟩))
 simp only [cells_Space,List.length_map,sl_conv cvGBlock cvGBlock_cells l2,sl_conv cvGBlock cvGBlock_cells l3] at S
 refine SpecW.mono S ?_
 rintro r hp n ⟨rfl,_,_⟩
 rfl
set_option maxRecDepth 100000 in
theorem lifted (os:Os) (started:os.Started) (H:Type) (enc:TypeId×Value→H) :
  ReturnsInHanded {} Try.checked os 5 .any (Rows.buddyBackSpec.pre6 enc Try.prog Try.f5 Rows.buddyBackRow.domain false) (Rows.buddyBackSpec.post enc Try.prog Try.f5 false true false false):=by
 refine returnsInHanded_of_change (C:=Try.checked) own started (by kernel_rfl) Try.func5 (ChangeSpec.witness6 (enc:=enc) (C:=Try.checked) false ⟨#[],#[.agg #[.int .i64 0,.slice none 0 0,.slice none 0 0],.int .i64 0],[]⟩ 8 (by kernel_rfl) (by kernel_rfl) (by kernel_rfl) (by kernel_rfl)) ?_
 intro W base args ds gs before hval hW _ _
 exact law_contract Ts 40 (by kernel_rfl) rfl (fun ds h=>by
  match ds,h with
  | [d0,d1],_=>rfl) (by kernel_rfl) (tb:=4) rfl (by kernel_rfl) W base args ds gs before hval (fun x hx _=>spec x hx) hW
theorem over:Rows.buddyBackRow.holds Try.pinned (OpenSpec.ofChange Rows.buddyBackSpec) :=
 OpenClaim.holds_of_wide 5 Try.f5 rfl rfl rfl rfl rfl rfl rfl ⟨rfl,rfl,rfl,rfl,rfl⟩ rfl rfl rfl rfl rfl (by kernel_rfl) Try.func5 (by kernel_rfl) (of_decide_eq_true (by kernel_rfl)) (by unfold Func.isWrapper; first | (rw [if_pos (by decide +kernel)]; kernel_rfl) | (rw [if_neg (by decide +kernel)]; exact ⟨rfl,rfl⟩)) (fun os started H enc _=>lifted os started H enc)
theorem proved:Rows.BuddyBackSaid:=over
end Go.Proofs.Ytpeaimfdeonpgaa.buddyBack
