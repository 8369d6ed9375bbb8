/-
 The law DictPuts returns true for every input.
 No conditions.
-/
import Derived.Test.YticigkhhhmiglaaRows
import Derived.ProofKit
import Derived.OpenShut
import Derived.JoinedCond
import Derived.Test.YticigkhhhmiglaadictWDictPutsUpto3
import Derived.Test.YticigkhhhmiglaadictBDictPutsUpto2
set_option linter.unusedSimpArgs false
set_option linter.unusedVariables false
namespace Go.Proofs.Yticigkhhhmiglaa.dictPutsUpto
open Go.ChangeShapes Go.WideShapes Go.ChangeAt Go.RowKit Go Go.Sx
theorem own:ownKnob Try.prog.godebug = none:=by kernel_rfl
abbrev TGItem:Ty:=(.pair (.int .i64) (.pair (.int .i64) .unit))
def cvGItem (x:TGItem.den):GItem:=GItem.mk x.1 x.2.1
abbrev TBucket:Ty:=(.pair (.int .i64) (.pair (.sl (.pair (.int .i64) (.pair (.int .i64) .unit))) .unit))
def cvBucket (x:TBucket.den):Bucket:=Bucket.mk x.1 (x.2.1.map cvGItem)
theorem sl_conv {α:Type} [Enc α] {e:Ty} (cv:e.den→α) (h:∀ x,e.sv x = Enc.cells (cv x)) (xs:List e.den):fl (xs.map cv) = xs.flatMap e.sv:=by
 simp only [fl,List.flatMap_map]
 congr 1
 funext x
 exact (h x).symm
theorem cvGItem_cells (x:TGItem.den):TGItem.sv x = Enc.cells (cvGItem x):=by
 obtain ⟨x0,x1,u⟩:=x
 rfl
theorem cvBucket_cells (x:TBucket.den):TBucket.sv x = Enc.cells (cvBucket x):=by
 obtain ⟨x0,x1,u⟩:=x
 rw [cells_Bucket]
 simp only [cvBucket,List.length_map,sl_conv cvGItem cvGItem_cells x1]
 rfl
abbrev Ts:List Ty:=[(.pair (.int .i64) (.pair (.sl (.int .i64)) (.pair (.sl (.pair (.int .i64) (.pair (.sl (.pair (.int .i64) (.pair (.int .i64) .unit))) .unit))) .unit))),(.int .i64),(.int .i64)]
def tb:(T:Ty)→T.den→Nat
 | .int _,_=>1
 | .bool,_=>1
 | .str,x=>x.size + 1
 | .sl e,xs=>(List.map (tb e) xs).sum + 1
 | .unit,_=>0
 | .pair a b,x=>tb a x.1 + tb b x.2
 | .arr _ e,xs=>(List.map (tb e) xs).sum + 1
def tbs:(l:List Ty)→Tys.den l→Nat
 | [],_=>0
 | T :: r,x=>tb T x.1 + tbs r x.2
theorem bulk_pos {H:Type} (d:DataW H):1≤Rows.uptoBulk d:=by
 cases d with
 | lit l=>cases l <;> simp [Rows.uptoBulk]
 | _=>simp [Rows.uptoBulk]
theorem rep_all {H:Type} {e:Ty} (ih:∀ (x:e.den) (d:DataW H),e.rep H x d→tb e x≤Rows.uptoBulk d):∀ (xs:List e.den) (el:List (DataW H)),el.length = xs.length→(∀ (i:Nat) (x:e.den),xs[i]? = some x→∃ y,el[i]? = some y∧e.rep H x y)→(List.map (tb e) xs).sum≤Rows.uptoBulkAll el
 | [],[],_,_=>by simp [Rows.uptoBulkAll]
 | [],_ :: _,h,_=>by simp at h
 | _ :: _,[],h,_=>by simp at h
 | x :: xs,d :: el,h,hx=>by
  obtain ⟨y,h1,h2⟩:=hx 0 x rfl
  simp only [List.getElem?_cons_zero,Option.some.injEq] at h1
  subst h1
  have h3:=ih x d h2
  have h4:=rep_all ih xs el (by simpa using h) fun i x hi=>by
   have:=hx (i + 1) x (by simpa using hi)
   simpa using this
  simp only [List.map_cons,List.sum_cons,Rows.uptoBulkAll]; omega
theorem rep_tb {H:Type}:∀ (T:Ty) (x:T.den) (d:DataW H),T.rep H x d→tb T x≤Rows.uptoBulk d
 | .int k,x,d,h=>by cases h; exact Nat.le_refl _
 | .bool,x,d,h=>by cases h; exact Nat.le_refl _
 | .str,x,d,h=>by
  cases h
  show x.size + 1≤x.data.toList.length + 1
  exact Nat.le_refl _
 | .sl e,xs,d,h=>by
  rcases h with ⟨h1,rfl⟩ | ⟨el,spn,rfl,hl,hx⟩
  ·have h1':(xs:List e.den) = []:=h1
   show (List.map (tb e) xs).sum + 1≤1
   rw [h1']; exact Nat.le_refl _
  ·have:=rep_all (fun x d=>rep_tb e x d) xs el hl hx
   show (List.map (tb e) xs).sum + 1≤Rows.uptoBulkAll el + Rows.uptoBulkAll spn + 1
   omega
 | .unit,x,d,h=>Nat.zero_le _
 | .pair a b,x,d,h=>by
  obtain ⟨p,r,rfl,h1,h2⟩:=h
  have g1:=rep_tb a x.1 p h1
  have g2:=rep_tb b x.2 (.agg r) h2
  show tb a x.1 + tb b x.2≤Rows.uptoBulk p + Rows.uptoBulkAll r + 1
  have:Rows.uptoBulk (.agg r:DataW H) = Rows.uptoBulkAll r + 1:=rfl
  omega
 | .arr n e,xs,d,h=>by
  obtain ⟨el,rfl,hl,hx⟩:=h
  have:=rep_all (fun x d=>rep_tb e x d) xs el hl hx
  show (List.map (tb e) xs).sum + 1≤Rows.uptoBulkAll el + 1
  omega
theorem reps_tb {H:Type}:∀ (l:List Ty) (x:Tys.den l) (ds:List (DataW H)),Tys.rep H l x ds→tbs l x≤Rows.uptoBulkAll ds
 | [],_,_,_=>Nat.zero_le _
 | T :: r,x,ds,h=>by
  obtain ⟨d,s,rfl,h1,h2⟩:=h
  have:=rep_tb T x.1 d h1
  have:=reps_tb r x.2 s h2
  show tb T x.1 + tbs r x.2≤Rows.uptoBulk d + Rows.uptoBulkAll s
  omega
theorem len_sum {e:Ty} (he:∀ x:e.den,1≤tb e x):∀ xs:List e.den,xs.length≤(List.map (tb e) xs).sum
 | []=>by simp
 | x :: xs=>by
  have:=len_sum he xs
  have:=he x
  simp only [List.map_cons,List.sum_cons,List.length_cons]; omega
theorem len_sum2 {e:Ty} (he:∀ x:e.den,2≤tb e x):∀ xs:List e.den,2 * xs.length≤(List.map (tb e) xs).sum
 | []=>by simp
 | x :: xs=>by
  have:=len_sum2 he xs
  have:=he x
  simp only [List.map_cons,List.sum_cons,List.length_cons]; omega
theorem two_item (x:TGItem.den):2≤tb TGItem x:=by
 show 2≤1 + (1 + 0); omega
theorem bucket_tb (x:TBucket.den):2 + 2 * (cvBucket x).Items.length≤tb TBucket x:=by
 have h1:=len_sum2 two_item x.2.1
 have e:tb TBucket x = 1 + ((List.map (tb TGItem) x.2.1).sum + 1 + 0):=rfl
 have e2:(cvBucket x).Items.length = (List.map cvGItem x.2.1).length:=rfl
 rw [e2,List.length_map]
 omega
theorem fit_of (xs:List TBucket.den) (h:(List.map (tb TBucket) xs).sum≤1048576):(xs.map cvBucket).length≤1000000∧∀ b ∈ xs.map cvBucket,b.Items.length≤1000000:=by
 have h1:=len_sum2 (fun x=>Nat.le_trans (by omega) (bucket_tb x)) xs
 have mem:∀ (xs:List TBucket.den) (x:TBucket.den),x ∈ xs→tb TBucket x≤(List.map (tb TBucket) xs).sum:=fun xs x hx=>by
  induction xs with
  | nil=>cases hx
  | cons y ys ih =>
   simp only [List.map_cons,List.sum_cons]
   rcases List.mem_cons.1 hx with rfl | hx
   ·omega
   ·have:=ih hx; omega
 refine ⟨by rw [List.length_map]; omega,fun p hp=>?_⟩
 obtain ⟨x,hx,rfl⟩:=List.mem_map.1 hp
 have:=mem xs x hx
 have:=bucket_tb x
 omega
theorem spec {H:Type} (x:Tys.den Ts) (h:Tys.ok Ts x) (ds:List (DataW H)) (hr:Tys.rep H Ts x ds) (hk:Rows.uptoSmall H ds = true):SpecW Try.prog 5 (Tys.args Ts x) [] 0 (fun r _ _=>r = .v (.bool true)):=by
 have ok:=h
 have hB:tbs Ts x≤1048576:=Nat.le_trans (reps_tb Ts x ds hr) (of_decide_eq_true hk)
 obtain ⟨⟨a1,l2,l3,u4⟩,a5,a6,u⟩:=x
 have e:tbs Ts ⟨⟨a1,l2,l3,u4⟩,a5,a6,u⟩ = (1 + ((List.map (tb (.int .i64)) l2).sum + 1 + ((List.map (tb TBucket) l3).sum + 1 + 0))) + (1 + (1 + 0)):=rfl
 rw [e] at hB
 have hF:=fit_of l3 (by omega)
 have S:=taskmilllaw_DictPuts_spec (⟨a1,l2,(l3.map cvBucket)⟩:Dict) a5 a6 true (puts_law (⟨a1,l2,(l3.map cvBucket)⟩:Dict) a5 a6 hF.1 hF.2)
 simp only [cells_Dict,List.length_map,sl_conv cvBucket cvBucket_cells l3] at S
 refine SpecW.mono S ?_
 rintro r hp n ⟨rfl,_,_⟩
 rfl
set_option maxRecDepth 100000 in
theorem lifted (os:Os) (started:os.Started) (H:Type) (enc:TypeId × Value→H) (F:Stop.Interp) :
  ReturnsInHanded {} Try.checked os 5 .any ((Rows.OpenSpec.upto Rows.dictPutsSpec).pre6 enc Try.prog Try.f5 Rows.dictPutsUptoRow.domain false) (((Rows.OpenSpec.upto Rows.dictPutsSpec).at F).post enc Try.prog Try.f5 false true false false):=by
 refine returnsInHanded_of_cond (C:=Try.checked) (s:=Rows.OpenSpec.upto Rows.dictPutsSpec) (k:=Rows.uptoSmall) rfl (F:=F) own started (by kernel_rfl) Try.func5
  (OpenSpec.witness (enc:=enc) (C:=Try.checked) (s:=Rows.OpenSpec.upto Rows.dictPutsSpec) (k:=Rows.uptoSmall) rfl (x:=([.agg [.lit (.int .i64 0),.nil,.nil],.lit (.int .i64 0),.lit (.int .i64 0)],[],[])) false ⟨#[],#[.agg #[.int .i64 0,.slice none 0 0,.slice none 0 0],.int .i64 0,.int .i64 0],[]⟩ 8 (by kernel_rfl) (by kernel_rfl) (by kernel_rfl) (by kernel_rfl) (by kernel_rfl) (by kernel_rfl)) ?_
 intro W base args ds gs before hval hW _ hk _
 exact law_contract Ts 40 (by kernel_rfl) rfl (fun ds h=>by
  match ds,h with
  | [d0,d1,d2],_=>rfl) (by kernel_rfl) (tb:=4) rfl (by kernel_rfl) W base args ds gs before hval (fun x hx hr=>spec x hx _ hr hk) hW
theorem over:Rows.dictPutsUptoRow.holds Try.pinned (Rows.OpenSpec.upto Rows.dictPutsSpec) :=
 OpenClaim.holds_of_cond 5 Try.f5 rfl rfl rfl rfl rfl rfl rfl ⟨rfl,rfl,rfl,rfl,rfl⟩ rfl rfl rfl rfl rfl (by kernel_rfl) Try.func5 (by kernel_rfl)
  (of_decide_eq_true (by kernel_rfl)) (by unfold Func.isWrapper; first | (rw [if_pos (by decide +kernel)]; kernel_rfl) | (rw [if_neg (by decide +kernel)]; exact ⟨rfl,rfl⟩))
  (fun os started H enc _ F=>lifted os started H enc F)
theorem proved:Rows.DictPutsUptoSaid:=over
end Go.Proofs.Yticigkhhhmiglaa.dictPutsUpto
