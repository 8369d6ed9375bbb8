/-
 The law BuddyGives returns true for every input.
 No conditions.
-/
import Derived.Test.YtpeaimfdeonpgaaRows
import Derived.ProofKit
import Derived.OpenShut
import Derived.JoinedCond
import Derived.Test.YtpeaimfdeonpgaabuddyWBuddyGivesUpto2
import Derived.Test.YtpeaimfdeonpgaabuddyBBuddyGivesUpto1
set_option linter.unusedSimpArgs false
set_option linter.unusedVariables false
set_option linter.unusedSectionVars false
namespace Go.Proofs.Ytpeaimfdeonpgaa.buddyGivesUpto
open Go.ChangeShapes Go.WideShapes Go.ChangeAt Go.RowKit Go Go.Sx
theorem own:ownKnob Try.prog.godebug = none:=by kernel_rfl
abbrev TGBlock:Ty:=(.pair (.int .i64) (.pair (.int .i64) .unit))
def cvGBlock (x:TGBlock.den):GBlock:=GBlock.mk x.1 x.2.1
theorem sl_conv {α:Type} [Enc α] {e:Ty} (cv:e.den→α) (h:∀ x,e.sv x = Enc.cells (cv x)) (xs:List e.den):fl (xs.map cv) = xs.flatMap e.sv:=by
 simp only [fl,List.flatMap_map]
 congr 1
 funext x
 exact (h x).symm
theorem cvGBlock_cells (x:TGBlock.den):TGBlock.sv x = Enc.cells (cvGBlock x):=by
 obtain ⟨x0,x1,u⟩:=x
 rfl
abbrev Ts:List Ty:=[(.pair (.int .i64) (.pair (.sl (.pair (.int .i64) (.pair (.int .i64) .unit))) (.pair (.sl (.pair (.int .i64) (.pair (.int .i64) .unit))) .unit))),(.int .i64)]
def tb:(T:Ty)→T.den→Nat
 | .int _,_=>1
 | .bool,_=>1
 | .str,x=>x.size+1
 | .sl e,xs=>(List.map (tb e) xs).sum+1
 | .unit,_=>0
 | .pair a b,x=>tb a x.1+tb b x.2
 | .arr _ e,xs=>(List.map (tb e) xs).sum+1
def tbs:(l:List Ty)→Tys.den l→Nat
 | [],_=>0
 | T::r,x=>tb T x.1+tbs r x.2
theorem bulk_pos {H:Type} (d:DataW H):1≤Rows.uptoBulk d:=by
 cases d with
 | lit l=>cases l <;> simp [Rows.uptoBulk]
 | _=>simp [Rows.uptoBulk]
theorem rep_all {H:Type} {e:Ty} (ih:∀ (x:e.den) (d:DataW H),e.rep H x d→tb e x≤Rows.uptoBulk d):∀ (xs:List e.den) (el:List (DataW H)),el.length = xs.length→(∀ (i:Nat) (x:e.den),xs[i]? = some x→∃ y,el[i]? = some y∧e.rep H x y)→(List.map (tb e) xs).sum≤Rows.uptoBulkAll el
 | [],[],_,_=>by simp [Rows.uptoBulkAll]
 | [],_::_,h,_=>by simp at h
 | _::_,[],h,_=>by simp at h
 | x::xs,d::el,h,hx=>by
  obtain ⟨y,h1,h2⟩:=hx 0 x rfl
  simp only [List.getElem?_cons_zero,Option.some.injEq] at h1
  subst h1
  have h3:=ih x d h2
  have h4:=rep_all ih xs el (by simpa using h) fun i x hi=>by
   have:=hx (i+1) x (by simpa using hi)
   simpa using this
  simp only [List.map_cons,List.sum_cons,Rows.uptoBulkAll]; omega
theorem rep_tb {H:Type}:∀ (T:Ty) (x:T.den) (d:DataW H),T.rep H x d→tb T x≤Rows.uptoBulk d
 | .int k,x,d,h=>by cases h; exact Nat.le_refl _
 | .bool,x,d,h=>by cases h; exact Nat.le_refl _
 | .str,x,d,h=>by
  cases h
  show x.size+1≤x.data.toList.length+1
  exact Nat.le_refl _
 | .sl e,xs,d,h=>by
  rcases h with ⟨h1,rfl⟩ | ⟨el,spn,rfl,hl,hx⟩
  ·have h1':(xs:List e.den) = []:=h1
   show (List.map (tb e) xs).sum+1≤1
   rw [h1']; exact Nat.le_refl _
  ·have:=rep_all (fun x d=>rep_tb e x d) xs el hl hx
   show (List.map (tb e) xs).sum+1≤Rows.uptoBulkAll el+Rows.uptoBulkAll spn+1
   omega
 | .unit,x,d,h=>Nat.zero_le _
 | .pair a b,x,d,h=>by
  obtain ⟨p,r,rfl,h1,h2⟩:=h
  have g1:=rep_tb a x.1 p h1
  have g2:=rep_tb b x.2 (.agg r) h2
  show tb a x.1+tb b x.2≤Rows.uptoBulk p+Rows.uptoBulkAll r+1
  have:Rows.uptoBulk (.agg r:DataW H) = Rows.uptoBulkAll r+1:=rfl
  omega
 | .arr n e,xs,d,h=>by
  obtain ⟨el,rfl,hl,hx⟩:=h
  have:=rep_all (fun x d=>rep_tb e x d) xs el hl hx
  show (List.map (tb e) xs).sum+1≤Rows.uptoBulkAll el+1
  omega
theorem reps_tb {H:Type}:∀ (l:List Ty) (x:Tys.den l) (ds:List (DataW H)),Tys.rep H l x ds→tbs l x≤Rows.uptoBulkAll ds
 | [],_,_,_=>Nat.zero_le _
 | T::r,x,ds,h=>by
  obtain ⟨d,s,rfl,h1,h2⟩:=h
  have:=rep_tb T x.1 d h1
  have:=reps_tb r x.2 s h2
  show tb T x.1+tbs r x.2≤Rows.uptoBulk d+Rows.uptoBulkAll s
  omega
theorem len_sum {e:Ty} (he:∀ x:e.den,1≤tb e x):∀ xs:List e.den,xs.length≤(List.map (tb e) xs).sum
 | []=>by simp
 | x::xs=>by
  have:=len_sum he xs
  have:=he x
  simp only [List.map_cons,List.sum_cons,List.length_cons]; omega
theorem one_blk (x:TGBlock.den):1≤tb TGBlock x:=by
 show 1≤1+(1+0); omega
theorem wl_of (l:List TGBlock.den) (h:l.length≤maxLen∧∀ x ∈ l,(Lit.int .i64 x.1).wf = true∧(Lit.int .i64 x.2.1).wf = true∧True):Wl (l.map cvGBlock):=by
 have hm:maxLen = 9223372036854775807:=by decide +kernel
 refine ⟨by rw [List.length_map,← hm]; exact h.1,fun b hb=>?_⟩
 obtain ⟨x,hx,rfl⟩:=List.mem_map.1 hb
 obtain ⟨h1,h2,_⟩:=h.2 x hx
 exact ⟨wf64 h1,wf64 h2⟩
theorem spec {H:Type} (x:Tys.den Ts) (h:Tys.ok Ts x) (ds:List (DataW H)) (hr:Tys.rep H Ts x ds) (hk:Rows.uptoSmall H ds = true):SpecW Try.prog 4 (Tys.args Ts x) [] 0 (fun r _ _=>r = .v (.bool true)):=by
 have ok:=h
 have hB:tbs Ts x≤1048576:=Nat.le_trans (reps_tb Ts x ds hr) (of_decide_eq_true hk)
 obtain ⟨⟨a1,l2,l3,u4⟩,a5,u⟩:=x
 have e:tbs Ts ⟨⟨a1,l2,l3,u4⟩,a5,u⟩ = (1+((List.map (tb TGBlock) l2).sum+1+((List.map (tb TGBlock) l3).sum+1+0)))+(1+0):=rfl
 rw [e] at hB
 have h2:=len_sum one_blk l2
 have h3:=len_sum one_blk l3
 have hu:(List.map cvGBlock l2).length≤1048576:=by
  rw [List.length_map]
  exact Nat.le_trans h2 (by omega)
 have hf:(List.map cvGBlock l3).length≤1048576:=by
  rw [List.length_map]
  exact Nat.le_trans h3 (by omega)
 have S:=taskmilllaw_BuddyGives_spec (⟨a1,(l2.map cvGBlock),(l3.map cvGBlock)⟩:Space) a5 true (gives_law (⟨a1,(l2.map cvGBlock),(l3.map cvGBlock)⟩:Space) a5 (by have o2:=ok; simp only [Tys.ok,Ty.ok] at o2; exact ⟨wl_of l2 o2.1.2.1,wl_of l3 o2.1.2.2.1⟩) hu hf)
 simp only [cells_Space,List.length_map,sl_conv cvGBlock cvGBlock_cells l2,sl_conv cvGBlock cvGBlock_cells l3] at S
 refine SpecW.mono S ?_
 rintro r hp n ⟨rfl,_,_⟩
 rfl
set_option maxRecDepth 100000 in
theorem lifted (os:Os) (started:os.Started) (H:Type) (enc:TypeId×Value→H) (F:Stop.Interp) :
  ReturnsInHanded {} Try.checked os 4 .any ((Rows.OpenSpec.upto Rows.buddyGivesSpec).pre6 enc Try.prog Try.f4 Rows.buddyGivesUptoRow.domain false) (((Rows.OpenSpec.upto Rows.buddyGivesSpec).at F).post enc Try.prog Try.f4 false true false false):=by
 refine returnsInHanded_of_cond (C:=Try.checked) (s:=Rows.OpenSpec.upto Rows.buddyGivesSpec) (k:=Rows.uptoSmall) rfl (F:=F) own started (by kernel_rfl) Try.func4 (OpenSpec.witness (enc:=enc) (C:=Try.checked) (s:=Rows.OpenSpec.upto Rows.buddyGivesSpec) (k:=Rows.uptoSmall) rfl (x:=([.agg [.lit (.int .i64 0),.nil,.nil],.lit (.int .i64 0)],[],[])) false ⟨#[],#[.agg #[.int .i64 0,.slice none 0 0,.slice none 0 0],.int .i64 0],[]⟩ 8 (by kernel_rfl) (by kernel_rfl) (by kernel_rfl) (by kernel_rfl) (by kernel_rfl) (by kernel_rfl)) ?_
 intro W base args ds gs before hval hW _ hk _
 exact law_contract Ts 40 (by kernel_rfl) rfl (fun ds h=>by
  match ds,h with
  | [d0,d1],_=>rfl) (by kernel_rfl) (tb:=4) rfl (by kernel_rfl) W base args ds gs before hval (fun x hx hr=>spec x hx _ hr hk) hW
theorem over:Rows.buddyGivesUptoRow.holds Try.pinned (Rows.OpenSpec.upto Rows.buddyGivesSpec) :=
 OpenClaim.holds_of_cond 4 Try.f4 rfl rfl rfl rfl rfl rfl rfl ⟨rfl,rfl,rfl,rfl,rfl⟩ rfl rfl rfl rfl rfl (by kernel_rfl) Try.func4 (by kernel_rfl) (of_decide_eq_true (by kernel_rfl)) (by unfold Func.isWrapper; first | (rw [if_pos (by decide +kernel)]; kernel_rfl) | (rw [if_neg (by decide +kernel)]; exact ⟨rfl,rfl⟩)) (fun os started H enc _ F=>lifted os started H enc F)
theorem proved:Rows.BuddyGivesUptoSaid:=over
end Go.Proofs.Ytpeaimfdeonpgaa.buddyGivesUpto
