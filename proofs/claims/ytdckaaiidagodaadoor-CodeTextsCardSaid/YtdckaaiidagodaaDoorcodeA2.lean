/-
 Lemmas, put together: TxN, TxO, TxP, TxQ, TxR, TxS, TxT, TxU, TxV, TxW.
 No conditions.
-/
import Derived.Test.YtdckaaiidagodaaDoorcodeA1
import Derived.Defers
import Derived.Orders
import Derived.Scope
import Derived.StillTail
set_option linter.unusedSimpArgs false
set_option linter.unusedVariables false
set_option linter.unusedSectionVars false
section
namespace Go.Sx
set_option linter.unusedVariables false
open Go.RowKit
variable {X:Cx} {hp:Hp} {nx:Nat} {ids:Ids} {w:World}
def shiftS (op:BinOp) (k:IntKind) (a b:Int) (nx:Nat):Res :=
 match op with
 | .shl=>.ok (0≤b) ⟨.v (.int k (k.wrap (a * 2 ^ (min b.toNat k.bits)))),[],nx,[]⟩
 | .shr=>.ok (0≤b) ⟨.v (.int k (a.fdiv (2 ^ (min b.toNat k.bits)))),[],nx,[]⟩
 | _=>.bad
def isShift:BinOp→Bool
 | .shl=>true
 | .shr=>true
 | _=>false
def isEq:BinOp→Bool
 | .eql=>true
 | .neq=>true
 | _=>false
def isNeg:BinOp→Bool
 | .neq=>true
 | _=>false
def nilEqS (P:Program) (op:BinOp) (t:TypeId) (r:Bool) (rds:List Nm) (nx:Nat):Res :=
 match P.underlying t with
 | some (.pointer _)=>bif isEq op then .ok True ⟨.v (.bool (bif isNeg op then !r else r)),[],nx,rds⟩ else .bad
 | _=>.bad
def binOpS (P:Program) (op:BinOp) (t:TypeId) (x y:SV) (hp:Hp) (nx:Nat):Res :=
 match x,y with
 | .v (.int k a),.v (.int k' b)=>bif isShift op then shiftS op k a b nx else bif k == k' then intS op k a b nx else .bad
 | .v (.string a),.v (.string b)=>strS op a b nx
 | .v (.bool a),.v (.bool b)=>match P.underlying t with
  | some .bool=>bif isEq op then pureR (.v (.bool (bif isNeg op then a != b else a == b))) nx else .bad
  | _=>.bad
 | .agg xs,.agg ys=>match aggT P t with
  | some true=>bif isEq op && !P.eqGuardType P.depth t then aggEqS P (isNeg op) t xs ys nx else .bad
  | _=>.bad
 | .ptr _ _,.v (.pointer none)=>nilEqS P op t false [] nx
 | .iptr _ _,.v (.pointer none)=>nilEqS P op t false [] nx
 | .v (.pointer none),.v (.pointer none)=>nilEqS P op t true [] nx
 | _,_=>.bad
theorem sound_shift (h:HeapX X hp nx ids w) {op:BinOp} {k k':IntKind} {a b:Int} {side:Prop} {e:Eff} (he:shiftS op k a b nx = .ok side e) (hs:side) (t:TypeId):Sound X hp ids w ((binOp op t (.int k a) (.int k' b)).run X.P w) e:=by
 have hsh:0≤b→(Op.shift .shl k a k' b).run X.P w = .ok (.int k (k.wrap (a * 2 ^ (min b.toNat k.bits)))) w∧(Op.shift .shr k a k' b).run X.P w = .ok (.int k (a.fdiv (2 ^ (min b.toNat k.bits)))) w:=fun hb=>by
  have:¬ b < 0:=by omega
  simp [Op.shift,this]
 cases op <;> simp only [shiftS] at he <;> cases he <;> refine sound_pure h ?_ .v
 ·simpa [binOp] using (hsh hs).1
 ·simpa [binOp] using (hsh hs).2
theorem eqGuard_plain {op:BinOp} {t:TypeId} {x y:Operand} {a b:Value} (h:∀ xs ys,¬ (a = .agg xs∧b = .agg ys)) (h2:¬ (a = .nilIface∧b = .nilIface)) (P:Program) (w:World):(eqGuard op t x y a b).run P w = .ok () w:=by
 unfold eqGuard
 cases op <;> cases a <;> cases b <;> first | rfl | exact absurd ⟨rfl,rfl⟩ (h _ _) | exact absurd ⟨rfl,rfl⟩ h2
theorem run_nilEq {P:Program} {op:BinOp} {t e:TypeId} (hu:P.underlying t = some (.pointer e)) (a:Option Addr) (ho:isEq op = true) (w:World) :
  (binOp op t (.pointer a) (.pointer none)).run P w = .ok (.bool (bif isNeg op then !a.isNone else a.isNone)) w:=by
 have h0:∀ D,(Op.equalIn (D+1) t (.pointer a) (.pointer none)).run P w = .ok a.isNone w:=fun D=>by
  cases a <;> simp [Op.equalIn,run_underlying hu]
 have h:(Op.equal t (.pointer a) (.pointer none)).run P w = .ok a.isNone w:=h0 9999
 cases op <;> simp [isEq] at ho
 ·simp only [binOp,Sem.run_bind,h]; cases a <;> rfl
 ·simp only [binOp,Sem.run_bind,h]; cases a <;> rfl
def erNilS (P:Program) (op:BinOp) (t:TypeId) (s:SV) (y:Operand) (nx:Nat):Option Res :=
 match s,y with
 | .er _ _ _ e,.const .nilIface=>match P.underlying t with
  | some (.interface _)=>bif isEq op then some (pureR (.v (.bool (bif isNeg op then !(decide (e = .nil)) else decide (e = .nil)))) nx) else some .bad
  | _=>some .bad
 | .ifc _ _,.const .nilIface=>match P.underlying t with
  | some (.interface _)=>bif isEq op then some (pureR (.v (.bool (bif isNeg op then !false else false))) nx) else some .bad
  | _=>some .bad
 | .v .nilIface,.const .nilIface=>match P.underlying t with
  | some (.interface _)=>bif isEq op then some (pureR (.v (.bool (bif isNeg op then !true else true))) nx) else some .bad
  | _=>some .bad
 | _,_=>none
theorem erNilS_pure {P:Program} {op:BinOp} {t:TypeId} {s:SV} {y:Operand} {nx:Nat} {r:Res} (h:erNilS P op t s y nx = some r):r = .bad∨∃ v,r = pureR v nx:=by
 unfold erNilS at h
 split at h
 ·split at h
  ·cases ho:isEq op with
   | true=>rw [ho] at h; cases h; exact .inr ⟨_,rfl⟩
   | false=>rw [ho] at h; cases h; exact .inl rfl
  ·cases h; exact .inl rfl
 ·split at h
  ·cases ho:isEq op with
   | true=>rw [ho] at h; cases h; exact .inr ⟨_,rfl⟩
   | false=>rw [ho] at h; cases h; exact .inl rfl
  ·cases h; exact .inl rfl
 ·split at h
  ·cases ho:isEq op with
   | true=>rw [ho] at h; cases h; exact .inr ⟨_,rfl⟩
   | false=>rw [ho] at h; cases h; exact .inl rfl
  ·cases h; exact .inl rfl
 ·cases h
theorem run_erNil {P:Program} {op:BinOp} {t:TypeId} {ms:Array (String×TypeId)} (hu:P.underlying t = some (.interface ms)) {x:Value} {b:Bool} (hx:(x = .nilIface∧b = true)∨((∃ a z,x = .iface a z)∧b = false)) (ho:isEq op = true) (w:World) (ox:Operand) :
  ((do eqGuard op t ox (.const .nilIface) x .nilIface; binOp op t x .nilIface:Sem Value)).run P w = .ok (.bool (bif isNeg op then !b else b)) w:=by
 have h0:∀ D,(Op.equalIn (D+1) t x .nilIface).run P w = .ok b w:=fun D=>by
  rcases hx with ⟨rfl,rfl⟩ | ⟨⟨a,z,rfl⟩,rfl⟩ <;> simp [Op.equalIn,run_underlying hu]
 have h:(Op.equal t x .nilIface).run P w = .ok b w:=h0 9999
 have hg:(eqGuard op t ox (.const .nilIface) x .nilIface).run P w = .ok () w:=by
  unfold eqGuard
  rcases hx with ⟨rfl,rfl⟩ | ⟨⟨a,z,rfl⟩,rfl⟩ <;> cases op <;> first | rfl | simp
 rw [Sem.run_bind,hg,Result.andThen_ok]
 cases op <;> simp [isEq] at ho
 ·rcases hx with ⟨rfl,rfl⟩ | ⟨⟨a,z,rfl⟩,rfl⟩ <;> simp only [binOp,Sem.run_bind,h] <;> rfl
 ·rcases hx with ⟨rfl,rfl⟩ | ⟨⟨a,z,rfl⟩,rfl⟩ <;> simp only [binOp,Sem.run_bind,h] <;> rfl
theorem sound_erNil (h:HeapX X hp nx ids w) {op:BinOp} {t:TypeId} {s q:SV} {x y:Value} {oy:Operand} (hd:DenX X hp ids w s x) (hy:oy = .const .nilIface→y = .nilIface) {side:Prop} {e:Eff} (hr:erNilS X.P op t s oy nx = some (.ok side e)) (ox:Operand) :
  Sound X hp ids w ((do eqGuard op t ox oy x y; binOp op t x y:Sem Value).run X.P w) e:=by
 unfold erNilS at hr
 split at hr
 ·rename_i tp te g er
  obtain rfl:=hy rfl
  split at hr
  ·rename_i ms hu
   cases ho:isEq op with
   | false=>rw [ho] at hr; cases hr
   | true =>
    rw [ho] at hr
    cases hr
    refine sound_pure h (run_erNil hu (b:=decide (er = .nil)) ?_ ho w ox) .v
    cases hd with
    | erN=>exact .inl ⟨rfl,rfl⟩
    | erP b o hb hc=>exact .inr ⟨⟨_,_,rfl⟩,rfl⟩
    | erT a hb hc=>exact .inr ⟨⟨_,_,rfl⟩,rfl⟩
  ·cases hr
 ·rename_i t1 s1
  obtain rfl:=hy rfl
  split at hr
  ·rename_i ms hu
   cases ho:isEq op with
   | false=>rw [ho] at hr; cases hr
   | true =>
    rw [ho] at hr
    cases hr
    refine sound_pure h (run_erNil hu (b:=false) ?_ ho w ox) .v
    cases hd with
    | ifc h1=>exact .inr ⟨⟨_,_,rfl⟩,rfl⟩
  ·cases hr
 ·obtain rfl:=hy rfl
  split at hr
  ·rename_i ms hu
   cases ho:isEq op with
   | false=>rw [ho] at hr; cases hr
   | true =>
    rw [ho] at hr
    cases hr
    refine sound_pure h (run_erNil hu (b:=true) ?_ ho w ox) .v
    cases hd with
    | v=>exact .inl ⟨rfl,rfl⟩
  ·cases hr
 ·cases hr
theorem sound_binOp (h:HeapX X hp nx ids w) {op:BinOp} {t:TypeId} {s q:SV} {x y:Value} (hd:DenX X hp ids w s x) (hq:DenX X hp ids w q y) {side:Prop} {e:Eff} (he:binOpS X.P op t s q hp nx = .ok side e) (hs:side) (ox oy:Operand) :
  Sound X hp ids w ((do eqGuard op t ox oy x y; binOp op t x y:Sem Value).run X.P w) e:=by
 unfold binOpS at he
 split at he
 ·rename_i k a k' b
  obtain rfl:=den_v hd
  obtain rfl:=den_v hq
  rw [Sem.run_bind,eqGuard_plain (by simp) (by simp),Result.andThen_ok]
  cases hsh:isShift op with
  | true=>rw [hsh] at he; exact sound_shift h he hs t
  | false =>
   rw [hsh] at he
   cases hk:(k == k') with
   | false=>simp only [hk,cond_false] at he; cases he
   | true =>
    simp only [hk,cond_false,cond_true] at he
    have:k = k':=by simpa using hk
    subst this
    exact sound_int h he hs t
 ·rename_i a b
  obtain rfl:=den_v hd
  obtain rfl:=den_v hq
  rw [Sem.run_bind,eqGuard_plain (by simp) (by simp),Result.andThen_ok]
  exact sound_str h he hs t
 ·rename_i a b
  obtain rfl:=den_v hd
  obtain rfl:=den_v hq
  rw [Sem.run_bind,eqGuard_plain (by simp) (by simp),Result.andThen_ok]
  split at he
  ·rename_i hu
   cases ho:isEq op with
   | false=>rw [ho] at he; cases he
   | true =>
    rw [ho] at he; cases he
    have hr:(Op.equal t (.bool a) (.bool b)).run X.P w = .ok (a == b) w:=run_equalIn_bool' w 9999 t a b hu
    refine sound_pure h ?_ .v
    cases op <;> simp [isEq] at ho
    ·simp only [binOp,Sem.run_bind,hr]; rfl
    ·simp only [binOp,Sem.run_bind,hr]; rfl
  ·cases he
 ·rename_i xs ys
  split at he
  ·rename_i hagg
   cases ho:(isEq op && !X.P.eqGuardType X.P.depth t) with
   | false=>rw [ho] at he; cases he
   | true =>
    rw [ho] at he
    simp only [Bool.and_eq_true,Bool.not_eq_true'] at ho
    obtain ⟨A,rfl,_,_⟩:=den_agg hd
    obtain ⟨B,rfl,_,_⟩:=den_agg hq
    rw [Sem.run_bind,run_eqGuard_agg w op t ox oy A B ho.2,Result.andThen_ok]
    have:=sound_aggEq h hd hq he hagg
    cases op <;> simp [isEq] at ho <;> exact this
  ·cases he
 ·rename_i k off
  obtain rfl:=den_v hq
  obtain ⟨b,o,rfl⟩:∃ b o,x = .pointer (some ⟨b,o,none⟩):=by
   rcases den_ptr' hd with ⟨_,b,o,rfl⟩ | ⟨_,b,o,_,rfl⟩ <;> exact ⟨_,_,rfl⟩
  rw [Sem.run_bind,eqGuard_plain (by simp) (by simp),Result.andThen_ok]
  unfold nilEqS at he
  split at he
  ·rename_i e' hu
   cases ho:isEq op with
   | false=>rw [ho] at he; cases he
   | true=>rw [ho] at he; cases he; exact sound_pure h (run_nilEq hu _ ho w) .v
  ·cases he
 ·rename_i cs off
  obtain rfl:=den_v hq
  obtain ⟨b,o,c,_,rfl,_,_⟩:=den_iptr hd
  rw [Sem.run_bind,eqGuard_plain (by simp) (by simp),Result.andThen_ok]
  unfold nilEqS at he
  split at he
  ·rename_i e' hu
   cases ho:isEq op with
   | false=>rw [ho] at he; cases he
   | true=>rw [ho] at he; cases he; exact sound_pure h (run_nilEq hu _ ho w) .v
  ·cases he
 ·obtain rfl:=den_v hd
  obtain rfl:=den_v hq
  rw [Sem.run_bind,eqGuard_plain (by simp) (by simp),Result.andThen_ok]
  unfold nilEqS at he
  split at he
  ·rename_i e' hu
   cases ho:isEq op with
   | false=>rw [ho] at he; cases he
   | true=>rw [ho] at he; cases he; exact sound_pure h (run_nilEq hu _ ho w) .v
  ·cases he
 ·cases he
def minmaxS (mx:Bool):Int→IntKind→List SV→Option Int
 | a,_,[]=>some a
 | a,k,.v (.int k' b)::r=>bif k == k' then minmaxS mx (bif mx then max a b else min a b) k r else none
 | _,_,_=>none
def minmaxR (mx:Bool) (l:List SV) (nx:Nat):Res :=
 match l with
 | .v (.int k a)::r=>match minmaxS mx a k r with
  | some b=>pureR (.v (.int k b)) nx
  | none=>.bad
 | _=>.bad
theorem minmax_run {P:Program} {C:Nm→Chunk} {I:Nat→Prop} (mx:Bool) {k:IntKind}:∀ (l:List SV) (vs:List Value) (a b:Int),minmaxS mx a k l = some b→l.length = vs.length→(∀ i x,l[i]? = some x→Den P C ids I w x (vs.getD i undef)) →
  (vs.foldlM (if mx then Builtin.max2 else Builtin.min2) (.int k a)).run P w = .ok (.int k b) w
 | [],[],a,b,h,_,_=>by cases h; rfl
 | [],_::_,_,_,_,h,_=>by simp at h
 | _::_,[],_,_,_,h,_=>by simp at h
 | s::l,v::vs,a,b,h,hl,hd=>by
  cases s <;> try (simp [minmaxS] at h; done)
  rename_i y
  cases y <;> try (simp [minmaxS] at h; done)
  rename_i k' c
  have hv:=den_v (hd 0 _ rfl)
  simp only [List.getD_cons_zero] at hv
  subst hv
  simp only [minmaxS] at h
  cases hk:(k == k') with
  | false=>rw [hk] at h; cases h
  | true =>
   rw [hk] at h
   have ih:=minmax_run mx l vs _ b h (by simpa using hl) (fun i x hi=>by have:=hd (i+1) x (by simpa using hi); simpa using this)
   rw [List.foldlM_cons,Sem.run_bind]
   cases mx with
   | true =>
    have:(Builtin.max2 (.int k a) (.int k' c)).run P w = .ok (.int k (max a c)) w:=by
     simp only [Builtin.max2,Sem.run_pure]; congr 2; by_cases hh:c > a
     ·rw [if_pos hh]; omega
     ·rw [if_neg hh]; omega
    simp only [if_true,this,Result.andThen_ok]
    simpa using ih
   | false =>
    have:(Builtin.min2 (.int k a) (.int k' c)).run P w = .ok (.int k (min a c)) w:=by
     simp only [Builtin.min2,Sem.run_pure]; congr 2; by_cases hh:c < a
     ·rw [if_pos hh]; omega
     ·rw [if_neg hh]; omega
    simp only [Bool.false_eq_true,if_false,this,Result.andThen_ok]
    simpa using ih
theorem sound_minmax (h:HeapX X hp nx ids w) {mx:Bool} {l:List SV} {vs:Array Value} (hl:l.length = vs.size) (hd:∀ i x,l[i]? = some x→DenX X hp ids w x (vs.getD i undef)) {side:Prop} {e:Eff} (he:minmaxR mx l nx = .ok side e) (ats:Array TypeId) (ty:TypeId) :
  Sound X hp ids w ((if mx then Builtin.max_ ats ty vs else Builtin.min_ ats ty vs).run X.P w) e:=by
 obtain ⟨vs⟩:=vs
 unfold minmaxR at he
 split at he
 ·rename_i k a r
  split at he
  ·rename_i b hb
   cases he
   cases vs with
   | nil=>simp at hl
   | cons v vs =>
    have hv:=den_v (hd 0 _ rfl)
    have hv':v = .int k a:=by simpa using hv
    subst hv'
    have:=minmax_run (P:=X.P) (C:=getH hp) (I:=Im X.w0 X.I0 X.W0 (getH hp) ids w) mx r vs a b hb (by simpa using hl) (fun i x hi=>by
     have:=hd (i+1) x (by simpa using hi)
     simpa [Array.getD_eq_getD_getElem?,List.getD_eq_getElem?_getD] using this)
    refine sound_pure h ?_ .v
    cases mx with
    | true=>simpa [Builtin.max_] using this
    | false=>simpa [Builtin.min_] using this
  ·cases he
 ·cases he
def recvOk (d:TypeDesc) (pr:Bool):Bool:=match d with
 | .pointer _=>pr
 | _=>!pr
def mthOk (P:Program) (t:TypeId) (name:String):Bool:=match (P.info? t).bind (fun i=>i.methods.find? (·.name == name)),P.underlying t with
 | some m,some d=>m.path.isEmpty && (match m.func with
  | some q=>recvOk d q.2
  | none=>false)
 | _,_=>false
theorem made_pos (P:Program):∃ n,P.types.size+Made.depth = n+1:=by
 have:0 < Made.depth:=by decide
 exact ⟨P.types.size+Made.depth - 1,by omega⟩
theorem run_nilAhead {P:Program} {t:TypeId} {name:String} (h:mthOk P t name = true) (v:Value) (n:Nat) (w:World):(nilAhead (n+1) t v name).run P w = .ok (some false) w:=by
 unfold mthOk at h
 split at h
 ·rename_i m d hm hu
  obtain ⟨i,hi,hm⟩:=Option.bind_eq_some_iff.1 hm
  simp only [Bool.and_eq_true] at h
  obtain ⟨h1,h2⟩:=h
  have hp:m.path = #[]:=by simpa using h1
  split at h2
  ·rename_i q hq
   obtain ⟨f,pr⟩:=q
   have ht:(typeInfo t).run P w = .ok i w:=by simp [typeInfo,hi]
   unfold nilAhead
   simp only [Sem.run_bind,ht,Result.andThen_ok,hm,hp,followBlind,Sem.run_pure]
   cases pr with
   | true=>simp only [hq]; rfl
   | false =>
    simp only [hq,Sem.run_bind,run_underlying hu,Result.andThen_ok]
    cases d <;> first | rfl | (simp [recvOk] at h2)
  ·cases h2
 ·cases h
def opS (P:Program) (g:Bool) (fr:Fr) (hp:Hp) (nx:Nat) (ty:TypeId) (o:Op):Res :=
 match o with
 | .move x=>pureR (evS g fr x) nx
 | .assign x=>pureR (evS g fr x) nx
 | .pick c a b=>match evS g fr c with
  | .v (.bool t)=>pickS g t (rawS fr a) (rawS fr b) nx
  | _=>.bad
 | .alloc e=>allocS P e nx
 | .box e x=>boxS e (evS g fr x) nx
 | .build t parts=>buildS P t (parts.toList.map fun p=>(p.1,evS g fr p.2)) nx
 | .buildSlice t len parts=>buildSliceS P t len (parts.toList.map fun p=>(p.1,evS g fr p.2)) nx
 | .load t a=>loadS P t (tabS P (evS g fr a)) hp nx
 | .store t a x=>storeS P t (evS g fr a) (evS g fr x) hp nx
 | .nilCheck x=>match evS g fr x with
  | .ptr k off=>pureR (.ptr k off) nx
  | .iptr cs off=>pureR (.iptr cs off) nx
  | .clo f caps=>pureR (.clo f caps) nx
  | .mth name (.ifc t y)=>bif mthOk P t name then pureR (.mth name (.ifc t y)) nx else .bad
  | _=>.bad
 | .binOp op t x y _=>(erNilS P op t (evS g fr x) y nx).getD (binOpS P op t (evS g fr x) (evS g fr y) hp nx)
 | .unOp op _ x=>unS op (evS g fr x) nx
 | .convert s d x=>convS P s d (evS g fr x) hp nx
 | .makeFunc fn first caps=>match fn with
  | .func f=>bif first.size == 0 then pureR (.clo f (caps.toList.map (evS g fr))) nx else .bad
  | .method name=>match first.toList with
   | [x]=>bif caps.size == 0 then pureR (.mth name (evS g fr x)) nx else .bad
   | _=>.bad
  | _=>.bad
 | .makeMap _ r=>match r with
  | none=>makeMapS nx
  | some _=>.bad
 | .makeSlice t l c=>makeSliceS P t (evS g fr l) (evS g fr c) nx
 | .slice t x lo hi mx=>match mx with
  | none=>sliceS P t (tabS P (evS g fr x)) (lo.map (evS g fr)) (hi.map (evS g fr)) hp nx
  | some m=>match lo,hi with
   | none,some hh=>slice0S P t (evS g fr x) (evS g fr hh) (evS g fr m) nx hp
   | _,_=>.bad
 | .fieldAddr t x f=>fieldAddrS' P t (evS g fr x) f hp nx
 | .field t x f=>fieldS P t (evS g fr x) f nx
 | .indexAddr t x i=>indexAddrS P t (tabS P (evS g fr x)) (evS g fr i) hp nx
 | .index t x i=>indexS P t (evS g fr x) (evS g fr i) nx
 | .lookup t x i ok=>lookupS P t (evS g fr x) (evS g fr i) ok hp nx
 | .mapUpdate t m k x=>mapUpdS P t (evS g fr m) (evS g fr k) (evS g fr x) hp nx
 | .insert t m k x=>mapUpdS P t (evS g fr m) (evS g fr k) (evS g fr x) hp nx
 | .mapEntry t m k=>mapEntryS P t (evS g fr m) (evS g fr k) hp nx
 | .entryStore _ m s x=>entryStoreS (evS g fr m) (evS g fr s) (evS g fr x) hp nx
 | .extract x i=>extractS (evS g fr x) i nx
 | .makeInterface t x=>makeIfcS P t (evS g fr x) nx
 | .typeAssert x _ a ok=>assertS P (evS g fr x) a ok nx
 | .range t x=>rangeS P t (evS g fr x) nx
 | .next x str=>nextS (evS g fr x) str hp nx
 | .call c=>match c.callee with
  | .builtin b=>match b,c.args.toList,c.argTypes.toList with
   | .len,[x],[t]=>lenS P t (evS g fr x) hp nx
   | .append,[x,y],[t,tx]=>match sliceT P t with
    | some (e,_)=>bif zokT P e then appendS P t tx (evS g fr x) (evS g fr y) hp nx else .bad
    | none=>.bad
   | .copy,[x,y],[t,tx]=>copyS P t tx (evS g fr x) (evS g fr y) hp nx
   | .min,l,_=>minmaxR false (l.map (evS g fr)) nx
   | .max,l,_=>minmaxR true (l.map (evS g fr)) nx
   | _,_,_=>.bad
  | _=>.bad
 | _=>.bad
def SoundN (X:Cx) (hp:Hp) (ids:Ids) (w:World) (r:Result Next) (e:Eff):Prop :=
∃x w' ids',(r = .ok (.value x) w'∨(r = .ok .skip w'∧x = undef))∧HeapC X (e.upd++hp) ids' w'∧ExtX X hp ids w (e.upd++hp) ids' w'∧DenX X (e.upd++hp) ids' w' e.val x
theorem soundN_value {m:Sem Value} {e:Eff} (h:Sound X hp ids w (m.run X.P w) e):SoundN X hp ids w ((do pure (.value (← m)):Sem Next).run X.P w) e:=by
 obtain ⟨x,w',ids',h1,h2,h3,h4⟩:=h
 exact ⟨x,w',ids',.inl (by simp [Sem.run_bind,h1]),h2,h3,h4⟩
theorem soundN_unit {m:Sem Unit} {e:Eff} (h:SoundU X hp ids w (m.run X.P w) e) (hv:e.val = .any):SoundN X hp ids w ((do m; pure .skip:Sem Next).run X.P w) e:=by
 obtain ⟨w',ids',h1,h2,h3⟩:=h
 exact ⟨undef,w',ids',.inr ⟨by simp [Sem.run_bind,h1],rfl⟩,h2,h3,by rw [hv]; exact .any⟩
theorem raw_den {fr:Fr} {a:Act} (hf:∀ d,DenX X hp ids w (getF fr d) (a.tmps.getD d undef)) (o:Operand):DenX X hp ids w (rawS fr o) (a.eval o):=by
 cases o with
 | tmp t=>exact hf t
 | const v=>exact .v
 | global n=>exact .v
 | func f=>exact .v
theorem ev_den {fr:Fr} {a:Act} (hf:∀ d,DenX X hp ids w (getF fr d) (a.tmps.getD d undef)) {g:Bool} (hg:g = true) (o:Operand):DenX X hp ids w (evS g fr o) (a.eval o):=by
 cases o with
 | tmp t=>exact den_unw hg (hf t)
 | const v=>exact .v
 | global n=>exact .v
 | func f=>exact .v
theorem storeS_val {P:Program} {t:TypeId} {s v:SV} {side:Prop} {e:Eff} (he:storeS P t s v hp nx = .ok side e):e.val = .any:=by
 unfold storeS at he
 split at he
 ·obtain ⟨_,_,_,hf⟩:=rowS_ok he; cases hf; rfl
 ·cases he
theorem mapUpdS_val {P:Program} {t:TypeId} {s q v:SV} {side:Prop} {e:Eff} (he:mapUpdS P t s q v hp nx = .ok side e):e.val = .any:=by
 unfold mapUpdS at he
 split at he
 ·obtain ⟨_,_,hf⟩:=mapC_ok he; cases hf; rfl
 ·split at he
  ·obtain ⟨_,_,hf⟩:=mapC_ok he; cases hf; rfl
  ·cases he
 ·cases he
theorem entryStoreS_val {s q v:SV} {side:Prop} {e:Eff} (he:entryStoreS s q v hp nx = .ok side e):e.val = .any:=by
 unfold entryStoreS at he
 split at he
 ·obtain ⟨_,_,hf⟩:=mapC_ok he; cases hf; rfl
 ·cases he
theorem op_sound (h:HeapX X hp nx ids w) {fr:Fr} {a:Act} (hf:∀ d,DenX X hp ids w (getF fr d) (a.tmps.getD d undef)) {g:Bool} (hg:g = true) {o:Oper} {side:Prop} {e:Eff} (he:opS X.P g fr hp nx o.type o.op = .ok side e) (hs:side) :
  SoundN X hp ids w ((execOp a.eval o).run X.P w) e:=by
 have ev:=fun o=>ev_den hf hg o
 have ev1:=fun o=>ev_den hf (g:=true) rfl o
 unfold execOp
 cases ho:o.op <;> rw [ho] at he <;> simp only [opS] at he
 case move x =>
  cases he
  exact ⟨_,w,ids,.inl rfl,h.toHeapC,Ext.refl _ _ _ _,ev x⟩
 case assign x =>
  cases he
  exact ⟨_,w,ids,.inl rfl,h.toHeapC,Ext.refl _ _ _ _,ev x⟩
 case pick c x y =>
  split at he
  ·rename_i t hc
   have hcv:=ev c
   rw [hc] at hcv
   have:=sound_pick h hg (raw_den hf x) (raw_den hf y) he
   obtain ⟨v,w',ids',h1,h2,h3,h4⟩:=this
   refine ⟨v,w',ids',.inl ?_,h2,h3,h4⟩
   simp only [den_v hcv,asBool,Sem.run_bind,Sem.run_pure,Result.andThen_ok]
   cases t <;> simpa using h1
  ·cases he
 case alloc t=>exact soundN_value (sound_alloc h he _)
 case box t x=>exact soundN_value (sound_box h (ev x) he hs)
 case build t parts =>
  refine soundN_value (sound_build h (by simp) (fun i p q hp hq=>?_) he)
  rw [List.getElem?_map] at hp
  simp only [Array.toList_map,List.getElem?_map] at hq
  cases hi:parts.toList[i]? with
  | none=>rw [hi] at hp; cases hp
  | some r=>rw [hi] at hp hq; cases hp; cases hq; exact ⟨rfl,ev _⟩
 case buildSlice t len parts =>
  refine soundN_value (sound_buildSlice h (by simp) (fun i p q hp hq=>?_) he)
  rw [List.getElem?_map] at hp
  simp only [Array.toList_map,List.getElem?_map] at hq
  cases hi:parts.toList[i]? with
  | none=>rw [hi] at hp; cases hp
  | some r=>rw [hi] at hp hq; cases hp; cases hq; exact ⟨rfl,ev _⟩
 case load t x=>exact soundN_value (sound_load h (tab_den h.toHeapC (ev x)) he hs)
 case store t x y=>exact soundN_unit (sound_store h (ev x) (ev y) he hs) (storeS_val he)
 case nilCheck x =>
  split at he
  ·rename_i k off hx
   cases he
   have hd:=ev x
   rw [hx] at hd
   obtain ⟨b,o',hv⟩:∃ b o,a.eval x = .pointer (some ⟨b,o,none⟩):=by
    rcases den_ptr' hd with ⟨_,b,o,h⟩ | ⟨_,b,o,_,h⟩ <;> exact ⟨_,_,h⟩
   exact ⟨_,w,ids,.inl (by simp only [hv]; rfl),h.toHeapC,Ext.refl _ _ _ _,by rw [hv] at hd; exact hd⟩
  ·rename_i cs off hx
   cases he
   have hd:=ev x
   rw [hx] at hd
   obtain ⟨b,o',c,_,hv,_,_⟩:=den_iptr hd
   exact ⟨_,w,ids,.inl (by simp only [hv]; rfl),h.toHeapC,Ext.refl _ _ _ _,by rw [hv] at hd; exact hd⟩
  ·rename_i f caps hx
   cases he
   have hd:=ev x
   rw [hx] at hd
   obtain ⟨arr,hv,_,_⟩:=den_clo hd
   exact ⟨_,w,ids,.inl (by simp only [hv]; rfl),h.toHeapC,Ext.refl _ _ _ _,by rw [hv] at hd; exact hd⟩
  ·rename_i name t y hx
   rw [Bool.cond_eq_ite] at he
   split at he
   ·rename_i hm
    cases he
    have hd:=ev x
    rw [hx] at hd
    obtain ⟨z,hv,hz⟩:=den_mth hd
    obtain ⟨u,rfl,hu⟩:=den_ifc hz
    refine ⟨_,w,ids,.inl ?_,h.toHeapC,Ext.refl _ _ _ _,by rw [hv] at hd; exact hd⟩
    obtain ⟨n,hn⟩:=made_pos X.P
    have h0:(#[Value.iface t u]:Array Value)[0]? = some (.iface t u):=rfl
    simp only [hv,h0,Sem.run_bind,run_program,Result.andThen_ok,hn,run_nilAhead hm]
    rfl
   ·cases he
  ·cases he
 case binOp op t x y yt =>
  cases hr:erNilS X.P op t (evS g fr x) y nx with
  | none=>rw [hr,Option.getD_none] at he; exact soundN_value (sound_binOp h (ev x) (ev y) he hs x y)
  | some r =>
   rw [hr,Option.getD_some] at he
   subst he
   exact soundN_value (sound_erNil (q:=.any) h (ev x) (fun e=>by subst e; exact den_v (ev (.const .nilIface))) hr x)
 case unOp op t x=>exact soundN_value (sound_un h (ev x) he)
 case convert s d x=>exact soundN_value (sound_conv h (ev x) he hs)
 case makeFunc fn first caps =>
  split at he
  ·rename_i f
   cases hz:(first.size == 0) with
   | false=>rw [hz] at he; cases he
   | true =>
    rw [hz] at he; cases he
    have:first = #[]:=by simpa using hz
    subst this
    refine soundN_value (sound_pure h (x:=.func (.func f) #[] (caps.map a.eval)) (by simp [Instr.makeFunc]) (.clo (caps.map a.eval) (by simp) fun i x hi=>?_))
    rw [List.getElem?_map] at hi
    cases hci:caps.toList[i]? with
    | none=>rw [hci] at hi; cases hi
    | some q =>
     rw [hci] at hi; cases hi
     have:caps[i]? = some q:=by simpa using hci
     rw [Array.getD_eq_getD_getElem?,Array.getElem?_map,this]
     exact ev q
  ·rename_i name
   split at he
   ·rename_i y hfl
    rw [Bool.cond_eq_ite] at he
    split at he
    ·rename_i hz
     cases he
     have h1:first = #[y]:=by
      obtain ⟨l⟩:=first
      simp only at hfl; rw [hfl]
     have h2:caps = #[]:=by simpa using hz
     subst h1; subst h2
     exact soundN_value (sound_pure h (x:=.func (.method name) #[a.eval y] #[]) (by simp [Instr.makeFunc]) (.mth (ev y)))
    ·cases he
   ·cases he
  ·cases he
 case makeMap t r =>
  split at he
  ·exact soundN_value (sound_makeMap h t he)
  ·cases he
 case makeSlice t l c=>exact soundN_value (sound_makeSlice h (ev l) (ev c) he hs)
 case slice t x lo hi mx =>
  split at he
  ·refine soundN_value (sound_slice h (tab_den h.toHeapC (ev x)) (fun hn=>?_) (fun s hs'=>?_) (fun hn=>?_) (fun s hs'=>?_) he hs)
   ·cases lo with
    | none=>rfl
    | some q=>cases hn
   ·cases lo with
    | none=>cases hs'
    | some q=>cases hs'; exact ⟨_,rfl,ev q⟩
   ·cases hi with
    | none=>rfl
    | some q=>cases hn
   ·cases hi with
    | none=>cases hs'
    | some q=>cases hs'; exact ⟨_,rfl,ev q⟩
  ·split at he
   ·exact soundN_value (sound_slice0 h (ev x) (ev _) (ev _) he hs)
   ·cases he
 case fieldAddr t x f=>exact soundN_value (sound_fieldAddr h (ev x) he hs)
 case field t x f=>exact soundN_value (sound_field h (ev x) he hs)
 case indexAddr t x i=>exact soundN_value (sound_indexAddr h (tab_den h.toHeapC (ev x)) (ev i) he hs)
 case index t x i=>exact soundN_value (sound_index h (ev x) (ev i) he hs)
 case lookup t x i ok=>exact soundN_value (sound_lookup h (ev x) (ev i) he hs)
 case mapUpdate t m k x=>exact soundN_unit (sound_mapUpd h (ev m) (ev k) (ev x) he hs) (mapUpdS_val he)
 case insert t m k x=>exact soundN_unit (sound_mapUpd h (ev m) (ev k) (ev x) he hs) (mapUpdS_val he)
 case mapEntry t m k=>exact soundN_value (sound_mapEntry h (ev m) (ev k) he hs)
 case entryStore t m q x=>exact soundN_unit (sound_entryStore h (ev m) (ev q) (ev x) he hs) (entryStoreS_val he)
 case makeInterface t x=>exact soundN_value (sound_makeIfc h (ev x) he)
 case typeAssert x t a ok=>exact soundN_value (sound_assert h (ev x) he)
 case extract x i=>exact soundN_value (sound_extract h (ev x) he)
 case range t x=>exact soundN_value (sound_range h (ev x) he)
 case next x str=>exact soundN_value (sound_next h (ev x) he _)
 case call c =>
  obtain ⟨callee,args,argTypes⟩:=c
  split at he
  ·rename_i b hcb
   simp only at hcb; subst hcb
   simp only [resolve,Sem.run_bind,Sem.run_pure,Result.andThen_ok,invoke,builtin]
   obtain ⟨args⟩:=args
   obtain ⟨argTypes⟩:=argTypes
   split at he
   ·rename_i x t hargs htys
    simp only at hargs htys; subst hargs; subst htys
    refine soundN_value ?_
    simp only [List.map_toArray,List.map_cons,List.map_nil]
    exact sound_len h (ev x) he hs _
   ·rename_i x y t tx hargs htys
    simp only at hargs htys; subst hargs; subst htys
    split at he
    ·rename_i e' z hst
     cases hz:zokT X.P e' with
     | false=>rw [hz] at he; cases he
     | true =>
      rw [hz] at he
      refine soundN_value ?_
      simp only [List.map_toArray,List.map_cons,List.map_nil]
      exact (sound_append h (ev x) (ev y) he hs (fun et z' hh=>by rw [hst] at hh; cases hh; exact hz))
    ·cases he
   ·rename_i x y t tx hargs htys
    simp only at hargs htys; subst hargs; subst htys
    refine soundN_value ?_
    simp only [List.map_toArray,List.map_cons,List.map_nil]
    exact sound_copy h (ev x) (ev y) he hs
   ·have hmm:=sound_minmax (mx:=false) h (vs:=(args.toArray).map a.eval) (by simp) (fun i x hi=>by
     rw [List.getElem?_map] at hi
     cases hai:args[i]? with
     | none=>simp [hai] at hi
     | some q =>
      simp [hai] at hi; subst hi
      rw [Array.getD_eq_getD_getElem?,Array.getElem?_map,List.getElem?_toArray,hai]
      exact ev q) he argTypes.toArray o.type
    exact soundN_value (by simpa using hmm)
   ·have hmm:=sound_minmax (mx:=true) h (vs:=(args.toArray).map a.eval) (by simp) (fun i x hi=>by
     rw [List.getElem?_map] at hi
     cases hai:args[i]? with
     | none=>simp [hai] at hi
     | some q =>
      simp [hai] at hi; subst hi
      rw [Array.getD_eq_getD_getElem?,Array.getElem?_map,List.getElem?_toArray,hai]
      exact ev q) he argTypes.toArray o.type
    exact soundN_value (by simpa using hmm)
   ·cases he
  ·cases he
 all_goals cases he
end Go.Sx
end

section
namespace Go.Sx
set_option linter.unusedVariables false
open Go.RowKit
variable {X:Cx} {hp:Hp} {nx:Nat} {ids:Ids} {w:World}
mutual
def SV.cl:SV→Bool
 | .any=>true
 | .v _=>true
 | .agg xs=>clL xs
 | .tup xs=>clL xs
 | .sl _ xs=>clL xs
 | .iptr xs _=>clL xs
 | .clo _ xs=>clL xs
 | .ifc _ x=>x.cl
 | .er _ _ _ _=>true
 | .mth _ x=>x.cl
 | .asl _ _ _=>false
 | .bp _ _ _=>false
 | .gd _ x=>x.cl
 | .own _ _ _=>false
 | .ptr _ _=>false
 | .mp _=>false
 | .it _=>false
def clL:List SV→Bool
 | []=>true
 | x::xs=>x.cl && clL xs
end
theorem clL_get:∀ {xs:List SV},clL xs = true→∀ (i:Nat) (x:SV),xs[i]? = some x→x.cl = true
 | [],_,i,x,h=>by simp at h
 | y::ys,hc,i,x,h=>by
  simp only [clL,Bool.and_eq_true] at hc
  cases i with
  | zero=>simp at h; subst h; exact hc.1
  | succ i=>exact clL_get hc.2 i x (by simpa using h)
theorem den_cl {P:Program} {C C':Nm→Chunk} {ids ids':Ids} {I I':Nat→Prop} {w w':World} (hI:∀ b,I b→I' b∧w'.heap[b]? = w.heap[b]?) {s:SV} {x:Value} (h:Den P C ids I w s x):s.cl = true→Den P C' ids' I' w' s x:=by
 induction h with
 | any=>exact fun _=>.any
 | v=>exact fun _=>.v
 | agg arr h _ ih=>exact fun hc=>.agg arr h fun i x hi=>ih i x hi (clL_get hc i x hi)
 | tup arr h _ ih=>exact fun hc=>.tup arr h fun i x hi=>ih i x hi (clL_get hc i x hi)
 | sl0 hc=>exact fun _=>.sl0 hc
 | sl b o cap c hb hn hcap hc _ ih =>
  obtain ⟨hb',hw⟩:=hI b hb
  exact fun hcl=>.sl b o cap c hb' hn hcap (fun i x hi=>(cell_eq hw).trans (hc i x hi)) fun i x hi=>ih i x hi (clL_get hcl i x hi)
 | iptr b o c hb hc _ ih =>
  obtain ⟨hb',hw⟩:=hI b hb
  exact fun hcl=>.iptr b o c hb' (fun i x hi=>(cell_eq hw).trans (hc i x hi)) fun i x hi=>ih i x hi (clL_get hcl i x hi)
 | clo arr h _ ih=>exact fun hc=>.clo arr h fun i x hi=>ih i x hi (clL_get hc i x hi)
 | ifc _ ih=>exact fun hc=>.ifc (ih hc)
 | erN=>exact fun _=>.erN
 | erP b o hb hc =>
  obtain ⟨hb',hw⟩:=hI b hb
  exact fun _=>.erP b o hb' ((cell_eq hw).trans hc)
 | erT a hb hc =>
  obtain ⟨hb',hw⟩:=hI _ hb
  exact fun _=>.erT a hb' ((cell_eq hw).trans hc)
 | mth _ ih=>exact fun hc=>.mth (ih hc)
 | aslDead h=>intro hc; cases hc
 | asl b o hl h=>intro hc; cases hc
 | bpDead b h=>intro hc; cases hc
 | bp b arr hl h hw hn=>intro hc; cases hc
 | gd _ hn ih=>exact fun hc=>.gd (fun hg=>ih hg hc) hn
 | ownDead h=>intro hc; cases hc
 | own a cap hl h=>intro hc; cases hc
 | ptrDead b q h=>intro hc; cases hc
 | ptr b o hl h=>intro hc; cases hc
 | mpDead h=>intro hc; cases hc
 | mp b hl h=>intro hc; cases hc
 | itDead h=>intro hc; cases hc
 | it b hl h=>intro hc; cases hc
def InK (l:List Nm) (k:Nm):Prop:=∃ j ∈ l,j.key = k.key
theorem inK_nil (k:Nm):¬ InK [] k:=fun ⟨_,h,_⟩=>by cases h
theorem inK_mem {l:List Nm} {k:Nm} (h:InK l k):k.key ∈ l.map Nm.key:=by
 obtain ⟨j,hj,he⟩:=h
 exact List.mem_map.2 ⟨j,hj,he⟩
inductive LeS (P:Program) (C C':Nm→Chunk) (σ:Nm→Option Nm) (frz:Nm→Prop):SV→SV→Prop
 | any {s}:LeS P C C' σ frz s .any
 | cl {s} (h:s.cl = true):LeS P C C' σ frz s s
 | own {k k' off n} (hs:σ k' = some k) (hl:(C' k').live = true):LeS P C C' σ frz (.own k off n) (.own k' off n)
 | absent {k'} (hl:(C' k').live = true) (hs:σ k' = none):LeS P C C' σ frz (.v (.slice none 0 0)) (.own k' 0 0)
 | ptr {k k' off} (hs:σ k' = some k) (hl:(C' k').live = true):LeS P C C' σ frz (.ptr k off) (.ptr k' off)
 | mp {k k'} (hs:σ k' = some k) (hl:(C' k').live = true):LeS P C C' σ frz (.mp k) (.mp k')
 | bp {k k' e n} (hs:σ k' = some k) (hl:(C' k').live = true):LeS P C C' σ frz (.bp k e n) (.bp k' e n)
 | it {k k'} (hs:σ k' = some k) (hl:(C' k').live = true):LeS P C C' σ frz (.it k) (.it k')
 | agg {xs ys:List SV} (h:xs.length = ys.length) (hx:∀ (i:Nat) (x y:SV),xs[i]? = some x→ys[i]? = some y→LeS P C C' σ frz x y):LeS P C C' σ frz (.agg xs) (.agg ys)
 | tup {xs ys:List SV} (h:xs.length = ys.length) (hx:∀ (i:Nat) (x y:SV),xs[i]? = some x→ys[i]? = some y→LeS P C C' σ frz x y):LeS P C C' σ frz (.tup xs) (.tup ys)
 | clo {f} {xs ys:List SV} (h:xs.length = ys.length) (hx:∀ (i:Nat) (x y:SV),xs[i]? = some x→ys[i]? = some y→LeS P C C' σ frz x y):LeS P C C' σ frz (.clo f xs) (.clo f ys)
 | mth {t} {x y:SV} (h:LeS P C C' σ frz x y):LeS P C C' σ frz (.mth t x) (.mth t y)
 | ifc {t} {x y:SV} (h:LeS P C C' σ frz x y):LeS P C C' σ frz (.ifc t x) (.ifc t y)
 | frz {k off n e} {cs cs2:List SV} (hk:C k = .row e cs) (hf:frz k) (hl:cs2.length≤cs.length) (hx:∀ (i:Nat) (x y:SV),cs[i]? = some x→cs2[i]? = some y→LeS P C C' σ frz x y) (q:Nat) (hq:n = 0→q = 0):LeS P C C' σ frz (.own k off n) (.sl n (appCells cs2 off q))
 | fptr {k off e} {cs cs2:List SV} (hk:C k = .row e cs) (hf:frz k) (hl:cs2.length≤cs.length) (hx:∀ (i:Nat) (x y:SV),cs[i]? = some x→cs2[i]? = some y→LeS P C C' σ frz x y):LeS P C C' σ frz (.ptr k off) (.iptr cs2 off)
 | nilsl:LeS P C C' σ frz (.v (.slice none 0 0)) (.sl 0 [])
 | erN {tp te g}:LeS P C C' σ frz (.v .nilIface) (.er tp te g .nil)
 | erP {tp te g v k e} (hk:C k = .row e [.v (.int .i64 v)]) (hf:frz k):LeS P C C' σ frz (.ifc tp (.ptr k 0)) (.er tp te g (.pan v))
def ChLe (P:Program) (C C':Nm→Chunk) (σ:Nm→Option Nm) (frz:Nm→Prop) (k':Nm):Chunk→Prop
 | .unborn=>True
 | .dead=>True
 | .void=>∀ k,σ k' = some k→C k = .void
 | .row e cs'=>(σ k' = none∧cs' = [])∨∃ k cs,σ k' = some k∧C k = .row e cs∧cs'.length≤cs.length∧∀ (i:Nat) (x y:SV),cs[i]? = some x→cs'[i]? = some y→LeS P C C' σ frz x y
 | .map es'=>∃ k es,σ k' = some k∧C k = .map es∧es.length = es'.length∧∀ (i:Nat) (x y:Value×SV),es[i]? = some x→es'[i]? = some y→x.1 = y.1∧LeS P C C' σ frz x.2 y.2
 | .obj s pos=>∃ k,σ k' = some k∧C k = .obj s pos
 | .fam _=>True
structure Sub (P:Program) (C C':Nm→Chunk) (σ:Nm→Option Nm) (frz:Nm→Prop):Prop where
 ch:∀ k',ChLe P C C' σ frz k' (C' k')
 inj:∀ k1 k2 k,(C' k1).live = true→(C' k2).live = true→σ k1 = some k→σ k2 = some k→k1 = k2
 frz:∀ k,frz k→∀ k',(C' k').live = true→σ k'≠some k
theorem ChLe.live {P:Program} {C C':Nm→Chunk} {σ:Nm→Option Nm} {frz:Nm→Prop} {k k':Nm} (h:ChLe P C C' σ frz k' (C' k')) (hl:(C' k').live = true) (hs:σ k' = some k):(C k).live = true∧∀ e cs,C k = .row e cs→∃ cs',C' k' = .row e cs':=by
 cases hc:C' k' with
 | unborn=>rw [hc] at hl; cases hl
 | dead=>rw [hc] at hl; cases hl
 | void=>rw [hc] at hl; cases hl
 | row e cs' =>
  rw [hc] at h
  rcases h with ⟨h1,_⟩ | ⟨k2,cs,h1,h2,_⟩
  ·rw [hs] at h1; cases h1
  ·rw [hs] at h1; cases h1
   exact ⟨by rw [h2]; rfl,fun e2 cs2 h3=>by rw [h2] at h3; cases h3; exact ⟨cs',rfl⟩⟩
 | map es' =>
  rw [hc] at h
  obtain ⟨k2,es,h1,h2,_⟩:=h
  rw [hs] at h1; cases h1
  exact ⟨by rw [h2]; rfl,fun e2 cs2 h3=>by rw [h2] at h3; cases h3⟩
 | obj s pos =>
  rw [hc] at h
  obtain ⟨k2,h1,h2⟩:=h
  rw [hs] at h1; cases h1
  exact ⟨by rw [h2]; rfl,fun e2 cs2 h3=>by rw [h2] at h3; cases h3⟩
 | fam g=>rw [hc] at hl; cases hl
theorem ChLe.kind {P:Program} {C C':Nm→Chunk} {σ:Nm→Option Nm} {frz:Nm→Prop} {k k':Nm} (h:ChLe P C C' σ frz k' (C' k')) (hl:(C' k').live = true) (hs:σ k' = some k):SameKind (C k) (C' k'):=by
 cases hc:C' k' with
 | unborn=>rw [hc] at hl; cases hl
 | dead=>rw [hc] at hl; cases hl
 | void=>rw [hc] at hl; cases hl
 | row e cs' =>
  rw [hc] at h
  rcases h with ⟨h1,_⟩ | ⟨k2,cs,h1,h2,h3,_⟩
  ·rw [hs] at h1; cases h1
  ·rw [hs] at h1; cases h1; rw [h2]; exact ⟨rfl,h3⟩
 | map es' =>
  rw [hc] at h
  obtain ⟨k2,es,h1,h2,_⟩:=h
  rw [hs] at h1; cases h1; rw [h2]; trivial
 | obj s pos =>
  rw [hc] at h
  obtain ⟨k2,h1,h2⟩:=h
  rw [hs] at h1; cases h1; rw [h2]; trivial
 | fam g=>rw [hc] at hl; cases hl
structure SubW (P:Program) (C C':Nm→Chunk) (σ:Nm→Option Nm) (frz:Nm→Prop) (ids ids':Ids) (I I':Nat→Prop) (w:World):Prop where
 sub:Sub P C C' σ frz
 im:∀ b,I b→I' b
 idsEq:∀ k' k,σ k' = some k→(C' k').live = true→ids' k' = ids k
 fz:∀ k,frz k→(C k).live = true→∀ b o,ids k = some (b,o)→I' b
 ch:∀ k e cs,C k = .row e cs→DenC P C ids I w k (.row e cs)
theorem den_le {P:Program} {C C':Nm→Chunk} {σ:Nm→Option Nm} {frz:Nm→Prop} {ids ids':Ids} {I I':Nat→Prop} {w:World} (hW:SubW P C C' σ frz ids ids' I I' w) {s s':SV} (h:LeS P C C' σ frz s s') :
 ∀{x:Value},Den P C ids I w s x→Den P C' ids' I' w s' x:=by
 have hI:∀ b,I b→I' b∧w.heap[b]? = w.heap[b]?:=fun b hb=>⟨hW.im b hb,rfl⟩
 induction h with
 | any=>exact fun _=>.any
 | cl h=>exact fun hd=>den_cl hI hd h
 | own hs hl =>
  rename_i k k' off n
  intro x hd
  obtain ⟨hlk,hrow⟩:=(hW.sub.ch k').live hl hs
  obtain ⟨a,cap,rfl,h1,h2,h4,h3⟩:=den_own hd hlk
  refine .own a cap hl ⟨h1,h2,fun e cs hc=>?_,?_⟩
  ·have h:=hW.sub.ch k'
   rw [hc] at h
   rcases h with ⟨g1,_⟩ | ⟨k2,cs2,g1,g2,g3,_⟩
   ·rw [hs] at g1; cases g1
   ·rw [hs] at g1; cases g1
    exact Nat.le_trans g3 (h4 _ _ g2)
  rcases h3 with h3 | ⟨b,o,e,cs,arr,hC,hid,ha,hw,hsz⟩
  ·exact .inl h3
  ·obtain ⟨cs',hc'⟩:=hrow e cs hC
   exact .inr ⟨b,o,e,cs',arr,hc',by rw [hW.idsEq k' k hs hl]; exact hid,ha,hw,hsz⟩
 | absent hl hs =>
  rename_i k'
  intro x hd
  obtain rfl:=den_v hd
  refine .own none 0 hl ⟨Nat.le_refl _,by unfold maxLen; omega,fun e cs hc=>?_,.inl ⟨rfl,rfl⟩⟩
  have h:=hW.sub.ch k'
  rw [hc] at h
  rcases h with ⟨_,g⟩ | ⟨k2,cs2,g1,_⟩
  ·subst g; exact Nat.zero_le _
  ·rw [hs] at g1; cases g1
 | ptr hs hl =>
  rename_i k k' off
  intro x hd
  obtain ⟨hlk,_⟩:=(hW.sub.ch k').live hl hs
  obtain ⟨b,o,hid,rfl⟩:=den_ptr hd hlk
  exact .ptr b o hl (by rw [hW.idsEq k' k hs hl]; exact hid)
 | bp hs hl =>
  rename_i k k' e n
  intro x hd
  obtain ⟨hlk,_⟩:=(hW.sub.ch k').live hl hs
  obtain ⟨b,arr,hid,rfl,hw,hn⟩:=den_bp hd hlk
  exact .bp b arr hl (by rw [hW.idsEq k' k hs hl]; exact hid) hw hn
 | mp hs hl =>
  rename_i k k'
  intro x hd
  obtain ⟨hlk,_⟩:=(hW.sub.ch k').live hl hs
  obtain ⟨b,hid,rfl⟩:=den_mp hd hlk
  exact .mp b hl (by rw [hW.idsEq k' k hs hl]; exact hid)
 | it hs hl =>
  rename_i k k'
  intro x hd
  obtain ⟨hlk,_⟩:=(hW.sub.ch k').live hl hs
  cases hd with
  | itDead h=>rw [h] at hlk; cases hlk
  | it b hl2 hid=>exact .it b hl (by rw [hW.idsEq k' k hs hl]; exact hid)
 | agg h _ ih =>
  intro x hd
  obtain ⟨arr,rfl,hl,hx⟩:=den_agg hd
  refine .agg arr (by omega) fun i y hi=>?_
  have hlt:=(List.getElem?_eq_some_iff.1 hi).1
  exact ih i _ y (List.getElem?_eq_getElem (by omega)) hi (hx i _ (List.getElem?_eq_getElem (by omega)))
 | tup h _ ih =>
  intro x hd
  obtain ⟨arr,rfl,hl,hx⟩:=den_tup hd
  refine .tup arr (by omega) fun i y hi=>?_
  have hlt:=(List.getElem?_eq_some_iff.1 hi).1
  exact ih i _ y (List.getElem?_eq_getElem (by omega)) hi (hx i _ (List.getElem?_eq_getElem (by omega)))
 | clo h _ ih =>
  intro x hd
  obtain ⟨arr,rfl,hl,hx⟩:=den_clo hd
  refine .clo arr (by omega) fun i y hi=>?_
  have hlt:=(List.getElem?_eq_some_iff.1 hi).1
  exact ih i _ y (List.getElem?_eq_getElem (by omega)) hi (hx i _ (List.getElem?_eq_getElem (by omega)))
 | mth h ih =>
  intro x hd
  obtain ⟨z,rfl,hz⟩:=den_mth hd
  exact .mth (ih hz)
 | ifc h ih =>
  intro x hd
  obtain ⟨z,rfl,hz⟩:=den_ifc hd
  exact .ifc (ih hz)
 | frz hk hf hlc hcs q hq ih =>
  rename_i k off n e cs cs2
  intro x hd
  have hlk:(C k).live = true:=by rw [hk]; rfl
  obtain ⟨a,cap,rfl,h1,h2,_,h3⟩:=den_own hd hlk
  rcases h3 with ⟨rfl,rfl⟩ | ⟨b,o,e',cs',arr,hC,hid,rfl,hw,hsz⟩
  ·rw [hq rfl,show appCells cs2 off 0 = [] from by simp [appCells]]
   exact .sl0 h2
  ·rw [hk] at hC; cases hC
   have hc':=cells_row (hW.ch k e cs hk) hid
   obtain ⟨l,hll,hx⟩:=cells_list hc'
   have old:∀ i y,cs2[i]? = some y→∃ x,cs[i]? = some x:=fun i y hy=>by
    have:=(List.getElem?_eq_some_iff.1 hy).1
    exact ⟨_,List.getElem?_eq_getElem (show i < cs.length by omega)⟩
   exact .sl b (o+off) cap (fun i=>l.getD (off+i) undef) (hW.fz k hf hlk b o hid) h1 h2 (fun i y hi=>by
     obtain ⟨_,hi2⟩:=appCells_get hi
     obtain ⟨x,hx2⟩:=old _ _ hi2
     rw [Nat.add_assoc]; exact (hx _ _ hx2).1)
    (fun i y hi=>by
     obtain ⟨_,hi2⟩:=appCells_get hi
     obtain ⟨x,hx2⟩:=old _ _ hi2
     exact ih _ x y hx2 hi2 (hx _ _ hx2).2)
 | fptr hk hf hlc hcs ih =>
  rename_i k off e cs cs2
  intro x hd
  have hlk:(C k).live = true:=by rw [hk]; rfl
  obtain ⟨b,o,hid,rfl⟩:=den_ptr hd hlk
  have hc':=cells_row (hW.ch k e cs hk) hid
  obtain ⟨l,hll,hx⟩:=cells_list hc'
  have old:∀ i y,cs2[i]? = some y→∃ x,cs[i]? = some x:=fun i y hy=>by
   have:=(List.getElem?_eq_some_iff.1 hy).1
   exact ⟨_,List.getElem?_eq_getElem (show i < cs.length by omega)⟩
  exact .iptr b o (fun i=>l.getD i undef) (hW.fz k hf hlk b o hid) (fun i y hi=>by
   obtain ⟨x,hx2⟩:=old _ _ hi
   exact (hx _ _ hx2).1) (fun i y hi=>by
   obtain ⟨x,hx2⟩:=old _ _ hi
   exact ih _ x y hx2 hi (hx _ _ hx2).2)
 | nilsl =>
  intro x hd
  obtain rfl:=den_v hd
  exact .sl0 (by unfold maxLen; omega)
 | erN =>
  intro x hd
  obtain rfl:=den_v hd
  exact .erN
 | erP hk hf =>
  rename_i tp te g v k e
  intro x hd
  have hlk:(C k).live = true:=by rw [hk]; rfl
  obtain ⟨z,rfl,hz⟩:=den_ifc hd
  obtain ⟨b,o,hid,rfl⟩:=den_ptr hz hlk
  have hc':=cells_row (hW.ch k e _ hk) hid
  obtain ⟨l,hll,hx⟩:=cells_list hc'
  have h0:=hx 0 (.v (.int .i64 v)) rfl
  have h1:=den_v h0.2
  have h2:=h0.1
  rw [h1] at h2
  exact .erP b o (hW.fz k hf hlk b o hid) h2
theorem denC_le {P:Program} {C C':Nm→Chunk} {σ:Nm→Option Nm} {frz:Nm→Prop} {ids ids':Ids} {I I':Nat→Prop} {w:World} (hW:SubW P C C' σ frz ids ids' I I' w) (hall:∀ k,DenC P C ids I w k (C k)) (k':Nm) (hn:σ k' = none→ids' k' = none) :
  DenC P C' ids' I' w k' (C' k'):=by
 have h:=hW.sub.ch k'
 cases hc:C' k' with
 | unborn=>trivial
 | dead=>trivial
 | void=>trivial
 | row e cs' =>
  have hl:(C' k').live = true:=by rw [hc]; rfl
  rw [hc] at h
  simp only [DenC]
  rcases h with ⟨h1,rfl⟩ | ⟨k,cs,h1,h2,h3,h4⟩
  ·rw [hn h1]
  ·have hk:=hall k
   rw [h2] at hk
   simp only [DenC] at hk
   rw [hW.idsEq k' k h1 hl]
   cases hid:ids k with
   | none =>
    rw [hid] at hk; simp only at hk; subst hk
    exact List.eq_nil_of_length_eq_zero (by simpa using h3)
   | some p =>
    obtain ⟨b,o⟩:=p
    rw [hid] at hk
    obtain ⟨arr,ha,hs,hx⟩:=hk
    refine ⟨arr,ha,by omega,fun i y hi=>?_⟩
    have hlt:=(List.getElem?_eq_some_iff.1 hi).1
    exact den_le hW (h4 i _ y (List.getElem?_eq_getElem (by omega)) hi) (hx i _ (List.getElem?_eq_getElem (by omega)))
 | map es' =>
  have hl:(C' k').live = true:=by rw [hc]; rfl
  rw [hc] at h
  obtain ⟨k,es,h1,h2,h3,h4⟩:=h
  have hk:=hall k
  rw [h2] at hk
  obtain ⟨b,arr,clock,hid,hw,hsz,hx,hbo⟩:=hk
  refine ⟨b,arr,clock,by rw [hW.idsEq k' k h1 hl]; exact hid,hw,by omega,fun i y hi=>?_,hbo⟩
  have hlt:=(List.getElem?_eq_some_iff.1 hi).1
  obtain ⟨g1,g2⟩:=h4 i _ y (List.getElem?_eq_getElem (by omega)) hi
  obtain ⟨g3,g4⟩:=hx i _ (List.getElem?_eq_getElem (by omega))
  exact ⟨g3.trans g1,den_le hW g2 g4⟩
 | obj s pos =>
  have hl:(C' k').live = true:=by rw [hc]; rfl
  rw [hc] at h
  obtain ⟨k,h1,h2⟩:=h
  have hk:=hall k
  rw [h2] at hk
  obtain ⟨b,hid,hw⟩:=hk
  exact ⟨b,by rw [hW.idsEq k' k h1 hl]; exact hid,hw⟩
 | fam g=>trivial
def idsOf (σ:Nm→Option Nm) (ids:Ids):Ids:=fun k=>(σ k).bind ids
theorem weaken {hp':Hp} {nx':Nat} {σ:Nm→Option Nm} {frz:Nm→Prop} (h:HeapC X hp ids w) (hS:Sub X.P (getH hp) (getH hp') σ frz) (hf:∀ k:Nm,nx'≤k.base→getH hp' k = .unborn) (hm:∀ k:Nm,k.base < X.m→(getH hp' k).live = true→σ k = some k) (hmv:∀ k:Nm,k.base < X.m→getH hp' k = .void→σ k = some k) (hmn:X.m≤nx') :
 ∃ids',HeapF X hp' nx' ids' w∧∀ s s' x,LeS X.P (getH hp) (getH hp') σ frz s s'→DenX X hp ids w s x→DenX X hp' ids' w s' x:=by
 have hold:∀ k' b o,(getH hp' k').live = true→idsOf σ ids k' = some (b,o)→∃ k,σ k' = some k∧(getH hp k).live = true∧ids k = some (b,o):=fun k' b o hl hi=>by
  unfold idsOf at hi
  cases hs:σ k' with
  | none=>rw [hs] at hi; cases hi
  | some k=>rw [hs] at hi; exact ⟨k,rfl,((hS.ch k').live hl hs).1,hi⟩
 have hW:SubW X.P (getH hp) (getH hp') σ frz ids (idsOf σ ids) (Im X.w0 X.I0 X.W0 (getH hp) ids w) (Im X.w0 X.I0 X.W0 (getH hp') (idsOf σ ids) w) w:=by
  refine ⟨hS,fun b hb=>⟨hb.1,hb.2.1,fun k' hl o hi=>?_⟩,fun k' k hs hl=>by simp [idsOf,hs],fun k hk hl b o hi=>⟨?_,(h.st.lt k b o hl hi).1,fun k' hl' o' hi'=>?_⟩,fun k e cs hk=>by have:=h.st.ch k; rwa [hk] at this⟩
  ·obtain ⟨k,_,h2,h3⟩:=hold k' b o hl hi
   exact hb.2.2 k h2 o h3
  ·rcases (h.st.lt k b o hl hi).2 with h1 | h1
   ·exact .inr (.inl h1)
   ·exact .inr (.inr h1)
  ·obtain ⟨k2,h1,h2,h3⟩:=hold k' b o' hl' hi'
   have:=h.st.inj k k2 b o o' hl h2 hi h3
   subst this
   exact hS.frz k hk k' hl' h1
 refine ⟨idsOf σ ids,⟨⟨⟨fun k'=>denC_le hW h.st.ch k' (fun hn=>by simp [idsOf,hn]),fun k1 k2 b o1 o2 hl1 hl2 hi1 hi2=>?_,fun k' b o hl hi=>?_,h.st.im0,h.st.evol,h.st.os,h.st.tape,h.st.output,h.st.size⟩,fun k hk h0 hl=>?_,fun k hk hv=>h.nov k hk (by have:=hS.ch k; rw [hv] at this; exact this k (hmv k hk hv))⟩,hf,hmn⟩,fun s s' x hle hd=>den_le hW hle hd⟩
 ·obtain ⟨q1,a1,a2,a3⟩:=hold k1 b o1 hl1 hi1
  obtain ⟨q2,b1,b2,b3⟩:=hold k2 b o2 hl2 hi2
  have:=h.st.inj q1 q2 b o1 o2 a2 b2 a3 b3
  subst this
  exact hS.inj k1 k2 q1 hl1 hl2 a1 b1
 ·obtain ⟨q,_,a2,a3⟩:=hold k' b o hl hi
  exact h.st.lt q b o a2 a3
 ·have hs:=hm k hk hl
  have hlk:=((hS.ch k).live hl hs).1
  have hkp:=h.kept k hk h0 hlk
  have hidk:idsOf σ ids k = ids k:=by simp [idsOf,hs]
  exact ⟨hidk.trans hkp.id,hkp.kind.trans ((hS.ch k).kind hl hs),fun b o hi=>hkp.shape b o (hidk ▸ hi)⟩
end Go.Sx
end

section
namespace Go.Sx
set_option linter.unusedVariables false
open Go.RowKit
variable {X:Cx} {hp:Hp} {nx:Nat} {ids:Ids} {w:World}
def SpecW (P:Program) (f:FuncId) (args:List SV) (hin:Hp) (m:Nat) (Post:SV→Hp→Nat→Prop):Prop :=
 (∃ fn body, P.funcs[f]? = some fn ∧ fn.body = some body ∧ fn.name ≠ "runtime.NumGoroutine") ∧ ∀ (X : Cx) (vals : Array Value), X.P = P → X.m = m → X.df = [] → HeapF X hin m X.ids0 X.w0 → vals.size = args.length → (∀ i x, args[i]? = some x → DenX X hin X.ids0 X.w0 x (vals.getD i undef)) →
  Calls P f vals X.w0 fun e w'=>∃ r res hp' nx' ids',e = .returned r∧Post res hp' nx'∧HeapF X hp' nx' ids' w'∧DenX X hp' ids' w' res r
mutual
def renS (τ:Nm→Nm):SV→SV
 | .any=>.any
 | .v x=>.v x
 | .agg xs=>.agg (renL τ xs)
 | .tup xs=>.tup (renL τ xs)
 | .sl n xs=>.sl n (renL τ xs)
 | .own k o n=>.own (τ k) o n
 | .ptr k o=>.ptr (τ k) o
 | .iptr xs o=>.iptr (renL τ xs) o
 | .mp k=>.mp (τ k)
 | .it k=>.it (τ k)
 | .clo f xs=>.clo f (renL τ xs)
 | .ifc t x=>.ifc t (renS τ x)
 | .er a b c d=>.er a b c d
 | .mth t x=>.mth t (renS τ x)
 | .asl k o n=>.asl (τ k) o n
 | .bp k e n=>.bp (τ k) e n
 | .gd g x=>.gd g (renS τ x)
def renL (τ:Nm→Nm):List SV→List SV
 | []=>[]
 | x::xs=>renS τ x::renL τ xs
end
theorem renL_map (τ:Nm→Nm):∀ xs:List SV,renL τ xs = xs.map (renS τ)
 | []=>rfl
 | x::xs=>by rw [renL,renL_map τ xs]; rfl
def renC (τ:Nm→Nm):Chunk→Chunk
 | .unborn=>.unborn
 | .dead=>.dead
 | .void=>.void
 | .row e cs=>.row e (renL τ cs)
 | .map es=>.map (es.map fun p=>(p.1,renS τ p.2))
 | .obj s pos=>.obj s pos
 | .fam g=>.fam fun i=>renC τ (g i)
theorem renC_live (τ:Nm→Nm) (c:Chunk):(renC τ c).live = c.live:=by cases c <;> rfl
mutual
def SV.nim:SV→Bool
 | .any=>true
 | .v _=>true
 | .agg xs=>nimL xs
 | .tup xs=>nimL xs
 | .sl n xs=>n == 0 && xs.isEmpty
 | .iptr _ _=>false
 | .clo _ xs=>nimL xs
 | .ifc _ x=>x.nim
 | .er _ _ _ _=>false
 | .mth _ x=>x.nim
 | .asl _ _ _=>true
 | .bp _ _ _=>true
 | .gd _ x=>x.nim
 | .own _ _ _=>true
 | .ptr _ _=>true
 | .mp _=>true
 | .it _=>true
def nimL:List SV→Bool
 | []=>true
 | x::xs=>x.nim && nimL xs
end
theorem nimL_get:∀ {xs:List SV},nimL xs = true→∀ (i:Nat) (x:SV),xs[i]? = some x→x.nim = true
 | [],_,i,x,h=>by simp at h
 | y::ys,hc,i,x,h=>by
  simp only [nimL,Bool.and_eq_true] at hc
  cases i with
  | zero=>simp at h; subst h; exact hc.1
  | succ i=>exact nimL_get hc.2 i x (by simpa using h)
def nimC:Chunk→Bool
 | .row _ cs=>nimL cs
 | .map es=>es.all fun p=>p.2.nim
 | .fam _=>false
 | _=>true
def nimH (hp:Hp):Bool:=hp.all fun p=>nimC p.2
theorem nimC_at (c:Chunk) (h:nimC c = true) (k:Nm):nimC (c.mem k) = true:=by
 cases k with
 | t a=>exact h
 | s F i=>cases c <;> first | rfl | cases h
theorem nimH_get {hp:Hp} (h:nimH hp = true) (k:Nm):nimC (getH hp k) = true:=by
 induction hp with
 | nil=>rfl
 | cons p r ih =>
  simp only [nimH,List.all_cons,Bool.and_eq_true] at h
  simp only [getH]
  cases p.1.eqk k with
  | true=>exact nimC_at _ h.1 k
  | false=>exact ih h.2
theorem renS_get {τ:Nm→Nm} {xs:List SV} {i:Nat} {y:SV} (h:(renL τ xs)[i]? = some y):∃ x,xs[i]? = some x∧y = renS τ x:=by
 rw [renL_map,List.getElem?_map] at h
 cases hx:xs[i]? with
 | none=>rw [hx] at h; cases h
 | some x=>rw [hx] at h; cases h; exact ⟨x,rfl,rfl⟩
theorem den_ren {P:Program} {C C2:Nm→Chunk} {ids ids2:Ids} {I I2:Nat→Prop} {w:World} {τ:Nm→Nm} (hC:∀ k,C k≠.unborn→C2 (τ k) = renC τ (C k)∧((C k).live = true→ids2 (τ k) = ids k)) {im:Bool} (hI:im = true→∀ b,I b→I2 b)
  {s:SV} {x:Value} (h:Den P C ids I w s x):(im = false→s.nim = true)→Den P C2 ids2 I2 w (renS τ s) x:=by
 induction h with
 | any=>exact fun _=>.any
 | v=>exact fun _=>.v
 | agg arr h _ ih =>
  intro hn
  refine .agg arr (by rw [renL_map,List.length_map]; exact h) fun i y hy=>?_
  obtain ⟨x,hx,rfl⟩:=renS_get hy
  exact ih i x hx fun he=>nimL_get (hn he) i x hx
 | tup arr h _ ih =>
  intro hn
  refine .tup arr (by rw [renL_map,List.length_map]; exact h) fun i y hy=>?_
  obtain ⟨x,hx,rfl⟩:=renS_get hy
  exact ih i x hx fun he=>nimL_get (hn he) i x hx
 | clo arr h _ ih =>
  intro hn
  refine .clo arr (by rw [renL_map,List.length_map]; exact h) fun i y hy=>?_
  obtain ⟨x,hx,rfl⟩:=renS_get hy
  exact ih i x hx fun he=>nimL_get (hn he) i x hx
 | sl0 hc=>exact fun _=>.sl0 hc
 | sl b o cap c hb hn hcap hc _ ih =>
  intro hnim
  cases him:im with
  | false =>
   have:=hnim him
   simp only [SV.nim,Bool.and_eq_true,beq_iff_eq,List.isEmpty_iff] at this
   obtain ⟨rfl,rfl⟩:=this
   exact .sl0 hcap
  | true =>
   refine .sl b o cap c (hI him b hb) hn hcap (fun i y hy=>?_) (fun i y hy=>?_)
   ·obtain ⟨x,hx,rfl⟩:=renS_get hy; exact hc i x hx
   ·obtain ⟨x,hx,rfl⟩:=renS_get hy; exact ih i x hx fun he=>by rw [him] at he; cases he
 | iptr b o c hb hc _ ih =>
  intro hnim
  cases him:im with
  | false=>have:=hnim him; cases this
  | true =>
   refine .iptr b o c (hI him b hb) (fun i y hy=>?_) (fun i y hy=>?_)
   ·obtain ⟨x,hx,rfl⟩:=renS_get hy; exact hc i x hx
   ·obtain ⟨x,hx,rfl⟩:=renS_get hy; exact ih i x hx fun he=>by rw [him] at he; cases he
 | ifc _ ih=>exact fun hnim=>.ifc (ih fun he=>hnim he)
 | erN=>exact fun _=>.erN
 | erP b o hb hc =>
  intro hnim
  cases him:im with
  | false=>have:=hnim him; cases this
  | true=>exact .erP b o (hI him b hb) hc
 | erT a hb hc =>
  intro hnim
  cases him:im with
  | false=>have:=hnim him; cases this
  | true=>exact .erT a (hI him _ hb) hc
 | mth _ ih=>exact fun hnim=>.mth (ih fun he=>hnim he)
 | aslDead h=>exact fun _=>.aslDead (by rw [(hC _ (by rw [h]; simp)).1,h]; rfl)
 | asl b o hl h =>
  rename_i k off n
  obtain ⟨h1,h2⟩:=hC k (fun e=>by rw [e] at hl; cases hl)
  exact fun _=>.asl b o (by rw [h1,renC_live]; exact hl) (by rw [h2 hl]; exact h)
 | bpDead b h=>exact fun _=>.bpDead b (by rw [(hC _ (by rw [h]; simp)).1,h]; rfl)
 | bp b arr hl h hw hn =>
  rename_i k e n
  obtain ⟨h1,h2⟩:=hC k (fun e=>by rw [e] at hl; cases hl)
  exact fun _=>.bp b arr (by rw [h1,renC_live]; exact hl) (by rw [h2 hl]; exact h) hw hn
 | gd _ hn ih=>exact fun hnim=>.gd (fun hg=>ih hg fun he=>hnim he) hn
 | ownDead h=>exact fun _=>.ownDead (by rw [(hC _ (by rw [h]; simp)).1,h]; rfl)
 | own a cap hl h =>
  rename_i k off n
  intro _
  obtain ⟨h1,h2⟩:=hC k (fun e=>by rw [e] at hl; cases hl)
  refine .own a cap (by rw [h1,renC_live]; exact hl) ⟨h.1,h.2.1,fun e2 cs2 hc2=>?_,?_⟩
  ·rw [h1] at hc2
   cases hck:C k with
   | row e3 cs3 =>
    rw [hck,renC] at hc2
    cases hc2
    rw [renL_map,List.length_map]
    exact h.2.2.1 _ _ hck
   | _=>rw [hck,renC] at hc2; cases hc2
  rcases h.2.2.2 with h3 | ⟨b,o,e,cs,arr,hc,hid,ha,hw,hsz⟩
  ·exact .inl h3
  ·exact .inr ⟨b,o,e,renL τ cs,arr,by rw [h1,hc]; rfl,by rw [h2 hl]; exact hid,ha,hw,hsz⟩
 | ptrDead b q h=>exact fun _=>.ptrDead b q (by rw [(hC _ (by rw [h]; simp)).1,h]; rfl)
 | ptr b o hl h =>
  rename_i k off
  obtain ⟨h1,h2⟩:=hC k (fun e=>by rw [e] at hl; cases hl)
  exact fun _=>.ptr b o (by rw [h1,renC_live]; exact hl) (by rw [h2 hl]; exact h)
 | mpDead h=>exact fun _=>.mpDead (by rw [(hC _ (by rw [h]; simp)).1,h]; rfl)
 | mp b hl h =>
  rename_i k
  obtain ⟨h1,h2⟩:=hC k (fun e=>by rw [e] at hl; cases hl)
  exact fun _=>.mp b (by rw [h1,renC_live]; exact hl) (by rw [h2 hl]; exact h)
 | itDead h=>exact fun _=>.itDead (by rw [(hC _ (by rw [h]; simp)).1,h]; rfl)
 | it b hl h =>
  rename_i k
  obtain ⟨h1,h2⟩:=hC k (fun e=>by rw [e] at hl; cases hl)
  exact fun _=>.it b (by rw [h1,renC_live]; exact hl) (by rw [h2 hl]; exact h)
def Nm.sh (nx:Nat):Nm→Nm
 | .t k=>.t (nx+k)
 | .s F i=>.s (nx+F) i
@[simp] theorem Nm.sh_base (nx:Nat) (k:Nm):(k.sh nx).base = nx+k.base:=by cases k <;> rfl
theorem Nm.sh_inj {nx:Nat} {a b:Nm} (h:a.sh nx = b.sh nx):a = b:=by
 cases a <;> cases b <;> simp_all [Nm.sh]
def SigOk (σ:Nm→Option Nm):Prop:=∀ F i,σ (.s F i) = (σ (.s F 0)).map fun j=>.s j.base i
def bck (σ:Nm→Option Nm) (nx:Nat) (k:Nm):Nm:=match σ k with
 | some j=>j
 | none=>k.sh nx
theorem bck_s {σ:Nm→Option Nm} (h:SigOk σ) (nx F:Nat) (i:Int):bck σ nx (.s F i) = .s (bck σ nx (.s F 0)).base i:=by
 unfold bck
 rw [h F i]
 cases hs:σ (.s F 0) with
 | none=>rfl
 | some j=>rfl
def entB (σ:Nm→Option Nm) (nx:Nat) (p:Nm×Chunk) (H:Hp):Nm×Chunk:=match p.1 with
 | .t k=>updE (bck σ nx (.t k)) (renC (bck σ nx) p.2) H
 | .s F _=>(.s (bck σ nx (.s F 0)).base 0,renC (bck σ nx) p.2)
def backE (σ:Nm→Option Nm) (nx:Nat):Hp→Hp→Hp
 | [],_=>[]
 | p::r,hp=>entB σ nx p (backE σ nx r hp++hp)::backE σ nx r hp
def passE (σ:Nm→Option Nm) (m:Nat):Hp:=(List.range m).flatMap fun k=>(bif (σ (.t k)).isSome then [(Nm.t k,Chunk.dead)] else [])++(bif (σ (.s k 0)).isSome then [(Nm.s k 0,Chunk.dead)] else [])
def passK (σ:Nm→Option Nm) (m:Nat):List Nm:=(List.range m).flatMap fun k=>((σ (.t k)).map Nm.key).toList++((σ (.s k 0)).map Nm.key).toList
def back (σ:Nm→Option Nm) (nx m:Nat) (hp' hp:Hp):Hp:=backE σ nx (hp'++passE σ m) hp
theorem getH_append (l r:Hp) (k:Nm):getH (l++r) k = if (∃ p ∈ l,p.1.key = k.key) then getH l k else getH r k:=by
 induction l with
 | nil=>simp [getH]
 | cons p l ih =>
  simp only [List.cons_append,getH]
  by_cases h:p.1.key = k.key
  ·rw [Nm.eqk_iff.2 h,cond_true,cond_true,if_pos ⟨p,by simp,h⟩]
  ·rw [Nm.eqk_no h,cond_false,cond_false,ih]
   by_cases h2:∃ q ∈ l,q.1.key = k.key
   ·rw [if_pos h2,if_pos]
    obtain ⟨q,hq,hk⟩:=h2
    exact ⟨q,by simp [hq],hk⟩
   ·rw [if_neg h2,if_neg]
    rintro ⟨q,hq,hk⟩
    rcases List.mem_cons.1 hq with rfl | hq
    ·exact h hk
    ·exact h2 ⟨q,hq,hk⟩
theorem getH_unlisted {l:Hp} {k:Nm} (h:¬∃p ∈ l,p.1.key = k.key):getH l k = .unborn:=by
 induction l with
 | nil=>rfl
 | cons p l ih =>
  simp only [getH]
  rw [Nm.eqk_no (fun e=>h ⟨p,by simp,e⟩),cond_false]
  exact ih fun ⟨q,hq,hk⟩=>h ⟨q,by simp [hq],hk⟩
theorem renC_at (τ:Nm→Nm) (c:Chunk) (i:Int):(renC τ c).at i = renC τ (c.at i):=by
 cases c with
 | fam g=>simp only [renC,Chunk.at]; cases g i <;> rfl
 | _=>rfl
end Go.Sx
end

section
namespace Go.Sx
set_option linter.unusedVariables false
open Go.RowKit
variable {X:Cx} {hp:Hp} {nx:Nat} {ids:Ids} {w:World}
def wfH (hp:Hp):Bool:=hp.all fun p=>match p.1 with
 | .t _=>match p.2 with
  | .unborn=>false
  | .fam _=>false
  | _=>true
 | .s _ _=>true
theorem wfH_cons {p:Nm×Chunk} {r:Hp} (h:wfH (p::r) = true):(∀ k,p.1.key = k.key→p.2.mem k≠.unborn∧∀ g,p.2.mem k≠.fam g)∧wfH r = true:=by
 simp only [wfH,List.all_cons,Bool.and_eq_true] at h
 refine ⟨fun k hk=>?_,h.2⟩
 have h1:=h.1
 cases k with
 | t a =>
  rw [Nm.key_t,Nm.key_eq_t] at hk
  rw [hk] at h1
  simp only [Chunk.mem]
  cases hp:p.2 <;> simp_all
 | s F i=>exact ⟨at_born _ _,at_nofam _ _⟩
theorem wfH_get {hp:Hp} (h:wfH hp = true) {k:Nm} (hk:∃ p ∈ hp,p.1.key = k.key):getH hp k≠.unborn:=by
 induction hp with
 | nil=>obtain ⟨p,hp,_⟩:=hk; cases hp
 | cons p r ih =>
  obtain ⟨h1,h2⟩:=wfH_cons h
  simp only [getH]
  by_cases hpk:p.1.key = k.key
  ·rw [Nm.eqk_iff.2 hpk,cond_true]; exact (h1 k hpk).1
  ·rw [Nm.eqk_no hpk,cond_false]
   obtain ⟨q,hq,hqk⟩:=hk
   rcases List.mem_cons.1 hq with rfl | hq
   ·exact absurd hqk hpk
   ·exact ih h2 ⟨q,hq,hqk⟩
theorem wfH_nofam {hp:Hp} (h:wfH hp = true) {k:Nm} (g:Int→Chunk):getH hp k≠.fam g:=by
 induction hp with
 | nil=>simp [getH]
 | cons p r ih =>
  obtain ⟨h1,h2⟩:=wfH_cons h
  simp only [getH]
  by_cases hpk:p.1.key = k.key
  ·rw [Nm.eqk_iff.2 hpk,cond_true]; exact (h1 k hpk).2 g
  ·rw [Nm.eqk_no hpk,cond_false]; exact ih h2
theorem wfH_append (l r:Hp):wfH (l++r) = (wfH l && wfH r):=by simp [wfH]
theorem wfH_pass (σ:Nm→Option Nm) (m:Nat):wfH (passE σ m) = true:=by
 unfold wfH passE
 rw [List.all_eq_true]
 intro p hp
 obtain ⟨k,_,hk⟩:=List.mem_flatMap.1 hp
 rcases List.mem_append.1 hk with h | h
 ·cases hs:(σ (.t k)).isSome <;> rw [hs] at h <;> simp at h
  subst h; rfl
 ·cases hs:(σ (.s k 0)).isSome <;> rw [hs] at h <;> simp at h
  subst h; rfl
theorem SameKind.ren {a b:Chunk} (h:SameKind a b) (τ:Nm→Nm):SameKind a (renC τ b):=by cases a <;> cases b <;> simp_all [SameKind,renC,renL_map]
theorem renC_born {τ:Nm→Nm} {c:Chunk} (h:c≠.unborn∧∀ g,c≠.fam g):renC τ c≠.unborn∧∀ g,renC τ c≠.fam g:=by
 cases c <;> simp_all [renC]
theorem cons_born {p:Nm×Chunk} {H:Hp} {j:Nm} (h:getH H j≠.unborn) (hp:∀ k,p.1.key = k.key→p.2.mem k≠.unborn):getH (p::H) j≠.unborn:=by
 simp only [getH]
 by_cases hk:p.1.key = j.key
 ·rw [Nm.eqk_iff.2 hk,cond_true]; exact hp j hk
 ·rw [Nm.eqk_no hk,cond_false]; exact h
theorem entB_born (σ:Nm→Option Nm) (nx:Nat) {p:Nm×Chunk} {H:Hp} (hp:∀ k,p.1.key = k.key→p.2.mem k≠.unborn∧∀ g,p.2.mem k≠.fam g):∀ k,(entB σ nx p H).1.key = k.key→(entB σ nx p H).2.mem k≠.unborn:=by
 intro k hk
 cases k with
 | s F i=>exact at_born _ _
 | t a =>
  unfold entB at hk ⊢
  cases hp1:p.1 with
  | t b =>
   rw [hp1] at hk hp
   simp only at hk ⊢
   have h1:=(renC_born (τ:=bck σ nx) (hp (.t b) rfl)).1
   cases hb:bck σ nx (.t b) with
   | t c=>simp only [updE,Chunk.mem]; exact h1
   | s G z=>rw [hb] at hk; simp [updE,Nm.key] at hk
  | s F z=>rw [hp1] at hk; simp [Nm.key] at hk
theorem backE_born (σ:Nm→Option Nm) (nx:Nat) {H0:Hp} {j:Nm} (h:getH H0 j≠.unborn):∀ {l:Hp},wfH l = true→getH (backE σ nx l H0++H0) j≠.unborn
 | [],_=>h
 | p::r,hw=>by
  obtain ⟨h1,h2⟩:=wfH_cons hw
  exact cons_born (backE_born σ nx h h2) (entB_born σ nx h1)
theorem backE_get {σ:Nm→Option Nm} {nx nx':Nat} (hsig:SigOk σ) (hτ:∀ a b:Nm,a.base < nx'→b.base < nx'→bck σ nx a = bck σ nx b→a = b) {H0:Hp} (hb:∀ k j,σ k = some j→getH H0 j≠.unborn):∀ {l:Hp},wfH l = true→(∀ p ∈ l,p.1.base < nx') →
  (∀ k:Nm,(∃ p ∈ l,p.1.key = k.key)→getH (backE σ nx l H0++H0) (bck σ nx k) = renC (bck σ nx) (getH l k)) ∧
  (∀ j,(∀ k:Nm,(∃ p ∈ l,p.1.key = k.key)→bck σ nx k≠j)→getH (backE σ nx l H0++H0) j = getH H0 j)
 | [],_,_=>⟨fun k hk=>(by obtain ⟨p,hp,_⟩:=hk; cases hp),fun j _=>rfl⟩
 | p::r,hw,hl=>by
  obtain ⟨w1,w2⟩:=wfH_cons hw
  obtain ⟨ih1,ih2⟩:=backE_get hsig hτ hb w2 fun q hq=>hl q (by simp [hq])
  have hlp:=hl p (by simp)
  have base_of:∀ k:Nm,(∃ q ∈ p::r,q.1.key = k.key)→k.base < nx':=fun k ⟨q,hq,hk⟩=>by
   have:=hl q hq
   rw [← Nm.key_base,hk,Nm.key_base] at this
   exact this
  -- what the first entry does
  have E:(∀ k:Nm,p.1.key = k.key→getH (backE σ nx (p::r) H0++H0) (bck σ nx k) = renC (bck σ nx) (p.2.mem k))∧(∀ j,(∀ k:Nm,p.1.key = k.key→bck σ nx k≠j)→getH (backE σ nx (p::r) H0++H0) j = getH (backE σ nx r H0++H0) j):=by
   simp only [backE,List.cons_append]
   unfold entB
   cases hp1:p.1 with
   | t a =>
    simp only
    have hc:=renC_born (τ:=bck σ nx) (w1 (.t a) (by rw [hp1]))
    have hput:getH (updE (bck σ nx (.t a)) (renC (bck σ nx) p.2) (backE σ nx r H0++H0)::(backE σ nx r H0++H0)) = upd (getH (backE σ nx r H0++H0)) (bck σ nx (.t a)) (renC (bck σ nx) p.2):=by
     cases hb2:bck σ nx (.t a) with
     | t c=>exact getH_upd _ _ _
     | s G z =>
      refine getH_put (backE_born σ nx ?_ w2) hc
      unfold bck at hb2
      cases hs:σ (.t a) with
      | none=>rw [hs] at hb2; simp [Nm.sh] at hb2
      | some j=>rw [hs] at hb2; simp only at hb2; rw [← hb2]; exact hb _ _ hs
    refine ⟨fun k hk=>?_,fun j hj=>?_⟩
    ·rw [Nm.key_t] at hk
     have:=Nm.key_eq_t.1 hk.symm
     subst this
     rw [hput,upd_same]; rfl
    ·rw [hput,upd_ne _ _ (fun e=>hj (.t a) (by simp) e.symm)]
   | s F z =>
    simp only
    refine ⟨fun k hk=>?_,fun j hj=>?_⟩
    ·cases k with
     | t a=>simp [Nm.key] at hk
     | s G i =>
      simp only [Nm.key_s,Nm.s.injEq,and_true] at hk
      subst hk
      have hbs:=bck_s hsig nx F i
      rw [hbs]
      simp only [Nm.base_s,getH,Nm.eqk,beq_self_eq_true,cond_true,Chunk.mem]
      exact renC_at _ _ _
    ·simp only [getH]
     cases hq:Nm.eqk (.s (bck σ nx (.s F 0)).base 0) j with
     | false=>rfl
     | true =>
      cases j with
      | t a=>simp [Nm.eqk] at hq
      | s G i =>
       simp only [Nm.eqk,beq_iff_eq] at hq
       exact absurd ((bck_s hsig nx F i).trans (by rw [hq])) (hj (.s F i) rfl)
  refine ⟨fun k hk=>?_,fun j hj=>?_⟩
  ·have hkb:=base_of k hk
   simp only [getH]
   by_cases hpk:p.1.key = k.key
   ·rw [Nm.eqk_iff.2 hpk,cond_true]; exact E.1 k hpk
   ·rw [Nm.eqk_no hpk,cond_false,E.2 _ fun k2 hk2 he=>hpk ?_]
    ·refine ih1 k ?_
     obtain ⟨q,hq,hqk⟩:=hk
     rcases List.mem_cons.1 hq with rfl | hq
     ·exact absurd hqk hpk
     ·exact ⟨q,hq,hqk⟩
    ·have:=hτ k2 k (base_of k2 ⟨p,by simp,hk2⟩) hkb he
     rw [hk2,this]
  ·rw [E.2 j fun k hk=>hj k ⟨p,by simp,hk⟩]
   exact ih2 j fun k ⟨q,hq,hqk⟩=>hj k ⟨q,by simp [hq],hqk⟩
theorem denC_ren {P:Program} {C C2:Nm→Chunk} {ids ids2:Ids} {I I2:Nat→Prop} {w:World} {τ:Nm→Nm} (hC:∀ k,C k≠.unborn→C2 (τ k) = renC τ (C k)∧((C k).live = true→ids2 (τ k) = ids k)) {im:Bool} (hI:im = true→∀ b,I b→I2 b)
  {k:Nm} {c:Chunk} (hl:c.live = true) (hid:ids2 (τ k) = ids k) (h:DenC P C ids I w k c) (hn:im = false→nimC c = true):DenC P C2 ids2 I2 w (τ k) (renC τ c):=by
 cases c with
 | unborn=>cases hl
 | dead=>cases hl
 | void=>cases hl
 | row e cs =>
  simp only [DenC,renC,hid] at h ⊢
  cases hik:ids k with
  | none=>rw [hik] at h; simp only at h; subst h; rfl
  | some p =>
   obtain ⟨b,o⟩:=p
   rw [hik] at h
   obtain ⟨arr,ha,hs,hx⟩:=h
   refine ⟨arr,ha,by rw [renL_map,List.length_map]; exact hs,fun i y hy=>?_⟩
   obtain ⟨x,hxi,rfl⟩:=renS_get hy
   exact den_ren hC hI (hx i x hxi) fun he=>nimL_get (hn he) i x hxi
 | map es =>
  obtain ⟨b,arr,clock,h1,h2,h3,h4,hbo⟩:=h
  refine ⟨b,arr,clock,hid.trans h1,h2,by simp [h3],fun i y hy=>?_,hbo⟩
  rw [List.getElem?_map] at hy
  cases hei:es[i]? with
  | none=>rw [hei] at hy; cases hy
  | some x =>
   rw [hei] at hy; cases hy
   obtain ⟨g1,g2⟩:=h4 i x hei
   refine ⟨g1,den_ren hC hI g2 fun he=>?_⟩
   have:=hn he
   simp only [nimC,List.all_eq_true] at this
   exact this x (List.mem_of_getElem? hei)
 | obj s pos =>
  obtain ⟨b,h1,h2⟩:=h
  exact ⟨b,hid.trans h1,h2⟩
 | fam g=>cases hl
set_option maxHeartbeats 1000000 in
theorem call_soundG {Cal:Array Value→World→(Ending→World→Prop)→Prop} (hmono:∀ {vals:Array Value} {w:World} {R R2:Ending→World→Prop},Cal vals w R→(∀ e w2,R e w2→R2 e w2)→Cal vals w R2) (h:HeapC X hp ids w) (hmnx:X.m≤nx) {args args':List SV} {hin:Hp} {m:Nat} {Post:SV→Hp→Nat→Prop} (hspec:∀ (Y:Cx) (vals:Array Value),Y.P = X.P→Y.m = m→Y.df = []→HeapF Y hin m Y.ids0 Y.w0→vals.size = args'.length→(∀ i x,args'[i]? = some x→DenX Y hin Y.ids0 Y.w0 x (vals.getD i undef))→Cal vals Y.w0 fun e w'=>∃ r res hp' nx' ids',e = .returned r∧Post res hp' nx'∧HeapF Y hp' nx' ids' w'∧DenX Y hp' ids' w' res r) {σ:Nm→Option Nm} {bor:Nm→Prop}
  (hS:Sub X.P (getH hp) (getH hin) σ bor) (hsig:SigOk σ) (hσm:∀ k:Nm,m≤k.base→σ k = none∧getH hin k = .unborn) (hσi:∀ k1 k2 j,σ k1 = some j→σ k2 = some j→k1 = k2) (hσl:∀ k j,σ k = some j→(getH hin k).live = true∨(getH hin k = .dead∧getH hp j = .dead)∨(getH hin k = .void∧getH hp j = .void))
  (hal:args.length = args'.length) (hargs:∀ (i:Nat) (x y:SV),args[i]? = some x→args'[i]? = some y→LeS X.P (getH hp) (getH hin) σ bor x y) {vals:Array Value} (hv:vals.size = args.length) (hd:∀ i x,args[i]? = some x→DenX X hp ids w x (vals.getD i undef)) :
  Cal vals w fun e w'=>∃ r res hp' nx',e = .returned r∧Post res hp' nx'∧((∀ k:Nm,nx'≤k.base→getH hp' k = .unborn)∧m≤nx')∧(wfH hp' = true∧(∀ k:Nm,k.base < nx'→getH hp (k.sh nx) = .unborn)∧((∀ k,¬ bor k)∨(res.nim = true∧nimH hp' = true)) →
  ∃ids2,HeapC X (back σ nx m hp' hp++hp) ids2 w'∧ExtX X hp ids w (back σ nx m hp' hp++hp) ids2 w'∧DenX X (back σ nx m hp' hp++hp) ids2 w' (renS (bck σ nx) res) r):=by
 have hold:∀ k' b o,(getH hin k').live = true→idsOf σ ids k' = some (b,o)→∃ k,σ k' = some k∧(getH hp k).live = true∧ids k = some (b,o):=fun k' b o hl hi=>by
  unfold idsOf at hi
  cases hs:σ k' with
  | none=>rw [hs] at hi; cases hi
  | some k=>rw [hs] at hi; exact ⟨k,rfl,((hS.ch k').live hl hs).1,hi⟩
 have hgl:TabOk X.P (fun b=>Im X.w0 X.I0 X.W0 (getH hp) ids w b∨∃ k o,bor k∧(getH hp k).live = true∧ids k = some (b,o)) w:=fun g cs hc=>by
  obtain ⟨h1,⟨arr,te,tf,ha1,ha2⟩,h2⟩:=X.gl g cs hc
  obtain ⟨h3,h4⟩:=h.st.im0 g h1
  have him:∀ b,X.I0 b→Im X.w0 X.I0 X.W0 (getH hp) ids w b:=fun b hb=>by
   obtain ⟨h3,h4⟩:=h.st.im0 b hb
   refine ⟨.inl hb,Nat.lt_of_lt_of_le h3 h.st.size,fun k hl o hi=>?_⟩
   rcases (h.st.lt k b o hl hi).2 with h5 | h5
   ·exact h4 h5
   ·omega
  refine ⟨.inl (him g h1),⟨arr,te,tf,(h.st.evol g h3 h4).trans ha1,ha2⟩,fun i x hi=>?_⟩
  obtain ⟨y,hy,hd⟩:=h2 i x hi
  exact ⟨y,(cell_eq (h.st.evol g h3 h4)).trans hy,hd.mono (fun b hb=>.inl (him b hb)) fun b hb i=>cell_eq (h.st.evol b (h.st.im0 b hb).1 (h.st.im0 b hb).2)⟩
 let Y:Cx:={ gl:=hgl,P:=X.P,w0:=w,I0:=fun b=>Im X.w0 X.I0 X.W0 (getH hp) ids w b∨∃ k o,bor k∧(getH hp k).live = true∧ids k = some (b,o),W0:=fun b=>∃ k' o,(getH hin k').live = true∧idsOf σ ids k' = some (b,o),m:=m,ids0:=idsOf σ ids,C0:=getH hin }
 have hYI:∀ b,Y.I0 b→b < w.heap.size∧¬ Y.W0 b:=by
  rintro b (hb | ⟨k,o,hk,hl,hi⟩)
  ·refine ⟨hb.2.1,?_⟩
   rintro ⟨k',o',hl',hi'⟩
   obtain ⟨k,_,h2,h3⟩:=hold k' b o' hl' hi'
   exact hb.2.2 k h2 o' h3
  ·refine ⟨(h.st.lt k b o hl hi).1,?_⟩
   rintro ⟨k',o',hl',hi'⟩
   obtain ⟨k2,h1,h2,h3⟩:=hold k' b o' hl' hi'
   have:=h.st.inj k k2 b o o' hl h2 hi h3
   subst this
   exact hS.frz k hk k' hl' h1
 have hIm:∀ b,Y.I0 b→Im Y.w0 Y.I0 Y.W0 (getH hin) (idsOf σ ids) w b:=fun b hb=>⟨.inl hb,(hYI b hb).1,fun k' hl' o hi=>(hYI b hb).2 ⟨k',o,hl',hi⟩⟩
 have hW:SubW X.P (getH hp) (getH hin) σ bor ids (idsOf σ ids) (Im X.w0 X.I0 X.W0 (getH hp) ids w) (Im Y.w0 Y.I0 Y.W0 (getH hin) (idsOf σ ids) w) w :=
  ⟨hS,fun b hb=>hIm b (.inl hb),fun k' k hs hl=>by simp [idsOf,hs],fun k hk hl b o hi=>hIm b (.inr ⟨k,o,hk,hl,hi⟩),fun k e cs hk=>by have:=h.st.ch k; rwa [hk] at this⟩
 have hY:HeapF Y hin m (idsOf σ ids) w:=by
  refine ⟨⟨⟨fun k'=>denC_le hW h.st.ch k' (fun hn=>by simp [idsOf,hn]),fun k1 k2 b o1 o2 hl1 hl2 hi1 hi2=>?_,fun k' b o hl hi=>?_,hYI,fun b _ _=>rfl,rfl,⟨rfl,.of (Nat.le_refl _)⟩,rfl,Nat.le_refl _⟩,fun k hk _ hl=>⟨rfl,SameKind.refl hl,fun b o _=>SameShape.refl _⟩,fun k _ hv=>hv⟩,fun k hk=>(hσm k hk).2,Nat.le_refl _⟩
  ·obtain ⟨q1,a1,a2,a3⟩:=hold k1 b o1 hl1 hi1
   obtain ⟨q2,b1,b2,b3⟩:=hold k2 b o2 hl2 hi2
   have:=h.st.inj q1 q2 b o1 o2 a2 b2 a3 b3
   subst this
   exact hσi k1 k2 q1 a1 b1
  ·obtain ⟨q,_,a2,a3⟩:=hold k' b o hl hi
   exact ⟨(h.st.lt q b o a2 a3).1,.inl ⟨k',o,hl,hi⟩⟩
 refine hmono (hspec Y vals rfl rfl rfl hY (by rw [hv,hal]) fun i y hy=>?_) fun e w'=>?_
 ·have hlt:=(List.getElem?_eq_some_iff.1 hy).1
  have hx:=List.getElem?_eq_getElem (show i < args.length by omega)
  exact den_le hW (hargs i _ y hx hy) (hd i _ hx)
 rintro ⟨r,res,hp',nx',ids',rfl,hpost,h',hres⟩
 refine ⟨r,res,hp',nx',rfl,hpost,⟨h'.fresh,h'.m_le⟩,fun ⟨hwf,hfr,hbor⟩=>?_⟩
 -- names
 have hσnx:∀ k j,σ k = some j→getH hp j≠.unborn∧k.base < m:=fun k j hk=>by
  refine ⟨?_,?_⟩
  ·rcases hσl k j hk with hl | ⟨_,hl⟩ | ⟨_,hl⟩
   ·exact live_born ((hS.ch k).live hl hk).1
   ·rw [hl]; simp
   ·rw [hl]; simp
  by_cases hkm:k.base < m
  ·exact hkm
  ·have:=(hσm k (by omega)).1; rw [hk] at this; cases this
 have hτ:∀ a b:Nm,(a.base < nx'∨∃ j,σ a = some j)→(b.base < nx'∨∃ j,σ b = some j)→bck σ nx a = bck σ nx b→a = b:=fun a b hKa hKb hab=>by
  unfold bck at hab
  cases ha:σ a with
  | none=>cases hb:σ b with
   | none=>rw [ha,hb] at hab; simp only at hab; exact Nm.sh_inj hab
   | some j =>
    rw [ha,hb] at hab; simp only at hab
    have hl:=(hσnx b j hb).1
    rcases hKa with hKa | ⟨j',hj'⟩
    ·rw [← hab,hfr a hKa] at hl; exact absurd rfl hl
    ·rw [ha] at hj'; cases hj'
  | some i=>cases hb:σ b with
   | none =>
    rw [ha,hb] at hab; simp only at hab
    have hl:=(hσnx a i ha).1
    rcases hKb with hKb | ⟨j',hj'⟩
    ·rw [hab,hfr b hKb] at hl; exact absurd rfl hl
    ·rw [hb] at hj'; cases hj'
   | some j=>rw [ha,hb] at hab; simp only at hab; subst hab; exact hσi a b i ha hb
 have hlk:∀ p ∈ hp',p.1.base < nx':=fun p hp1=>by
  by_cases hlt:p.1.base < nx'
  ·exact hlt
  ·exact absurd (h'.fresh p.1 (by omega)) (wfH_get hwf ⟨p,hp1,rfl⟩)
 have hlkk:∀ k:Nm,(∃ p ∈ hp',p.1.key = k.key)→k.base < nx':=fun k ⟨p,hp1,hk⟩=>by
  have:=hlk p hp1
  rw [← Nm.key_base,hk,Nm.key_base] at this
  exact this
 have hpass:∀ k j,σ k = some j→∃ p ∈ passE σ m,p.1.key = k.key:=fun k j hk=>by
  have hkm:=(hσnx k j hk).2
  unfold passE
  cases k with
  | t a=>exact ⟨(.t a,.dead),List.mem_flatMap.2 ⟨a,List.mem_range.2 hkm,by simp [hk]⟩,rfl⟩
  | s F i =>
   have h0:(σ (.s F 0)).isSome = true:=by
    rw [hsig F i] at hk
    cases hs:σ (.s F 0) with
    | none=>rw [hs] at hk; cases hk
    | some j=>rfl
   exact ⟨(.s F 0,.dead),List.mem_flatMap.2 ⟨F,List.mem_range.2 hkm,by simp [h0]⟩,rfl⟩
 have hpassL:∀ p ∈ passE σ m,p.1.base < nx'∧∃ j,σ p.1 = some j:=fun p hp1=>by
  unfold passE at hp1
  have hmn:=h'.m_le
  obtain ⟨k,hk,hkk⟩:=List.mem_flatMap.1 hp1
  have hk:=List.mem_range.1 hk
  have hmn2:m≤nx':=hmn
  rcases List.mem_append.1 hkk with h1 | h1
  ·cases hs:(σ (.t k)).isSome <;> rw [hs] at h1 <;> simp at h1
   subst h1; exact ⟨by simp; omega,Option.isSome_iff_exists.1 hs⟩
  ·cases hs:(σ (.s k 0)).isSome <;> rw [hs] at h1 <;> simp at h1
   subst h1; exact ⟨by simp; omega,Option.isSome_iff_exists.1 hs⟩
 have hwf2:wfH (hp'++passE σ m) = true:=by rw [wfH_append,hwf,wfH_pass]; rfl
 obtain ⟨B1,B2⟩:=backE_get (nx:=nx) (nx':=nx') hsig (fun a b ha hb=>hτ a b (.inl ha) (.inl hb)) (H0:=hp) (fun k j hk=>(hσnx k j hk).1) hwf2 (fun p hp1=>(List.mem_append.1 hp1).elim (hlk p) fun h1=>(hpassL p h1).1)
 generalize hTdef:bck σ nx = τ at hτ B1 B2
 have hτs:∀ k j,σ k = some j→τ k = j:=fun k j hk=>by rw [← hTdef]; simp [bck,hk]
 have hτn:∀ k,σ k = none→τ k = k.sh nx:=fun k hk=>by rw [← hTdef]; simp [bck,hk]
 -- F1
 have F1:∀ k,getH hp' k≠.unborn→getH (back σ nx m hp' hp++hp) (τ k) = renC τ (getH hp' k):=fun k hk=>by
  have hlist:∃ p ∈ hp',p.1.key = k.key:=Classical.byContradiction fun hn=>hk (getH_unlisted hn)
  unfold back
  rw [B1 k (by obtain ⟨p,hp1,hp2⟩:=hlist; exact ⟨p,by simp [hp1],hp2⟩),getH_append,if_pos hlist]
 -- passed ones that are not told of
 have F2:∀ k j,σ k = some j→getH hp' k = .unborn→getH (back σ nx m hp' hp++hp) j = .dead:=fun k j hs hk=>by
  have hnl:¬∃p ∈ hp',p.1.key = k.key:=fun hh=>wfH_get hwf hh hk
  obtain ⟨p,hp1,hp2⟩:=hpass k j hs
  have:=B1 k ⟨p,by simp [hp1],hp2⟩
  unfold back
  rw [hτs k j hs] at this
  rw [this,getH_append,if_neg hnl]
  have hd:∀ (l:Hp),(∀ p ∈ l,p.2 = .dead∨p.2 = .fam fun _=>.dead)→wfH l = true→(∃ p ∈ l,p.1.key = k.key)→getH l k = .dead:=by
   intro l
   induction l with
   | nil=>exact fun _ _ ⟨p,hp,_⟩=>by cases hp
   | cons q l ih =>
    intro hl hwl hq
    simp only [getH]
    by_cases hqk:q.1.key = k.key
    ·rw [Nm.eqk_iff.2 hqk,cond_true]
     have h0:=((wfH_cons hwl).1 k hqk).2
     rcases hl q (by simp) with h1 | h1
     ·rw [h1]; cases k <;> rfl
     ·rw [h1] at h0 ⊢
      cases k with
      | t a=>exact absurd rfl (h0 _)
      | s F i=>rfl
    ·rw [Nm.eqk_no hqk,cond_false]
     refine ih (fun p hp=>hl p (by simp [hp])) (wfH_cons hwl).2 ?_
     obtain ⟨p,hp1,hp2⟩:=hq
     rcases List.mem_cons.1 hp1 with rfl | hp1
     ·exact absurd hp2 hqk
     ·exact ⟨p,hp1,hp2⟩
  rw [hd (passE σ m) (fun p hp1=>?_) (wfH_pass σ m) ⟨p,hp1,hp2⟩]
  ·rfl
  ·unfold passE at hp1
   obtain ⟨q,_,hkk⟩:=List.mem_flatMap.1 hp1
   rcases List.mem_append.1 hkk with h1 | h1
   ·cases hs:(σ (.t q)).isSome <;> rw [hs] at h1 <;> simp at h1
    subst h1; exact .inl rfl
   ·cases hs:(σ (.s q 0)).isSome <;> rw [hs] at h1 <;> simp at h1
    subst h1; exact .inl rfl
 -- the others
 have F3:∀ j,(∀ k:Nm,(∃ p ∈ hp',p.1.key = k.key)→τ k≠j)→(∀ k,σ k≠some j)→getH (back σ nx m hp' hp++hp) j = getH hp j:=fun j hj hn=>by
  unfold back
  refine B2 j fun k ⟨p,hp1,hp2⟩=>?_
  rcases List.mem_append.1 hp1 with h1 | h1
  ·exact hj k ⟨p,h1,hp2⟩
  ·intro he
   obtain ⟨_,q,hq⟩:=hpassL p h1
   have:∃ i,σ k = some i:=by
    cases k with
    | t a=>rw [Nm.key_t,Nm.key_eq_t] at hp2; rw [hp2] at hq; exact ⟨_,hq⟩
    | s F i =>
     cases hp3:p.1 with
     | t a=>rw [hp3] at hp2; simp [Nm.key] at hp2
     | s G z =>
      rw [hp3] at hp2 hq
      simp only [Nm.key_s,Nm.s.injEq,and_true] at hp2
      subst hp2
      rw [hsig G z] at hq
      rw [hsig G i]
      cases hs:σ (.s G 0) with
      | none=>rw [hs] at hq; cases hq
      | some y=>exact ⟨_,rfl⟩
   obtain ⟨i,hi⟩:=this
   rw [hτs k i hi] at he
   subst he
   exact hn k hi
 have hσlive:∀ k j,σ k = some j→(getH hp' k).live = true→(getH hin k).live = true∨(getH hin k = .void∧getH hp j = .void):=fun k j hk hl=>by
  rcases hσl k j hk with h1 | ⟨h1,_⟩ | h1
  ·exact .inl h1
  ·have h2:SameKind (getH hin k) (getH hp' k):=(h'.kept k (hσnx k j hk).2 (by show getH hin k≠_; rw [h1]; simp) hl).kind
   rw [h1] at h2; exact h2.elim
  ·exact .inr h1
 generalize hC2:getH (back σ nx m hp' hp++hp) = C2 at F1 F2 F3
 -- whoever lives in the old heap bears no new name
 have hold2:∀ j,(getH hp j).live = true→(∀ k,σ k≠some j)→∀ k:Nm,(∃ p ∈ hp',p.1.key = k.key)→τ k≠j:=fun j hl hn k hk he=>by
  cases hs:σ k with
  | none=>rw [hτn _ hs] at he; rw [← he,hfr _ (hlkk k hk)] at hl; cases hl
  | some i=>rw [hτs _ i hs] at he; subst he; exact hn _ hs
 have hcls:∀ j,(C2 j).live = true→(∃ k,j = τ k∧(k.base < nx'∨∃ j,σ k = some j)∧(getH hp' k).live = true∧C2 j = renC τ (getH hp' k))∨((∀ k,σ k≠some j)∧C2 j = getH hp j∧(getH hp j).live = true):=fun j hj=>by
  by_cases hp2:∃ k,σ k = some j
  ·obtain ⟨k,hk⟩:=hp2
   left
   by_cases hu:getH hp' k = .unborn
   ·rw [F2 k j hk hu] at hj; cases hj
   ·have:=F1 k hu
    rw [hτs k j hk] at this
    exact ⟨k,(hτs k j hk).symm,.inr ⟨j,hk⟩,by rw [this,renC_live] at hj; exact hj,this⟩
  ·have hn:∀ k,σ k≠some j:=fun k hk=>hp2 ⟨k,hk⟩
   by_cases hli:∃ k:Nm,(∃ p ∈ hp',p.1.key = k.key)∧τ k = j
   ·obtain ⟨k,hk,rfl⟩:=hli
    left
    have:=F1 k (wfH_get hwf hk)
    exact ⟨k,rfl,.inl (hlkk k hk),by rw [this,renC_live] at hj; exact hj,this⟩
   ·right
    have:=F3 j (fun k hk he=>hli ⟨k,hk,he⟩) hn
    exact ⟨hn,this,by rw [this] at hj; exact hj⟩
 open Classical in
 let ids2:Ids:=fun j=>if hk:∃ k,(k.base < nx'∨∃ j,σ k = some j)∧τ k = j then ids' hk.choose else ids j
 have hi1:∀ k,(k.base < nx'∨∃ j,σ k = some j)→ids2 (τ k) = ids' k:=fun k hK=>by
  have hk:∃ q,(q.base < nx'∨∃ j,σ q = some j)∧τ q = τ k:=⟨k,hK,rfl⟩
  simp only [ids2,dif_pos hk]
  rw [hτ _ _ hk.choose_spec.1 hK hk.choose_spec.2]
 have hi2:∀ j,(getH hp j).live = true→(∀ k,σ k≠some j)→ids2 j = ids j:=fun j hj hn=>by
  have:¬∃k,(k.base < nx'∨∃ j,σ k = some j)∧τ k = j:=fun ⟨k,hK,hk⟩=>by
   cases hs:σ k with
   | none =>
    rcases hK with hK | ⟨j',hj'⟩
    ·rw [hτn k hs] at hk; rw [← hk,hfr k hK] at hj; cases hj
    ·rw [hs] at hj'; cases hj'
   | some i=>rw [hτs k i hs] at hk; subst hk; exact hn k hs
  simp only [ids2,dif_neg this]
 have hW0:∀ b,Y.W0 b→∃ k j o,σ k = some j∧(getH hp j).live = true∧ids j = some (b,o):=fun b ⟨k',o,hl,hi⟩=>by
  obtain ⟨k,h1,h2,h3⟩:=hold k' b o hl hi
  exact ⟨k',k,o,h1,h2,h3⟩
 have hE:Ext (getH hp) ids (Im X.w0 X.I0 X.W0 (getH hp) ids w) w C2 ids2 (Im X.w0 X.I0 X.W0 C2 ids2 w') w':=by
  refine ⟨fun b hb=>?_,fun j hj=>?_,fun j hj=>?_⟩
  ·have hnW:¬ Y.W0 b:=fun hh=>by
    obtain ⟨k,j,o,h1,h2,h3⟩:=hW0 b hh
    exact hb.2.2 j h2 o h3
   refine ⟨⟨hb.1,Nat.lt_of_lt_of_le hb.2.1 h'.st.size,fun j hj o hi=>?_⟩,h'.st.evol b hb.2.1 hnW⟩
   rcases hcls j hj with ⟨k,rfl,hK,hl,_⟩ | ⟨hn,_,hl⟩
   ·rw [hi1 k hK] at hi
    rcases (h'.st.lt k b o hl hi).2 with h1 | h1
    ·exact hnW h1
    ·have:w.heap.size≤b:=h1
     have:=hb.2.1; omega
   ·rw [hi2 j hl hn] at hi
    exact hb.2.2 j hl o hi
  ·by_cases hp2:∃ k,σ k = some j
   ·obtain ⟨k,hk⟩:=hp2
    by_cases hu:getH hp' k = .unborn
    ·exact F2 k j hk hu
    ·have hc:=F1 k hu
     rw [hτs k j hk] at hc
     rw [hc]
     have hdd:getH hin k = .dead:=by
      rcases hσl k j hk with hl | ⟨hl,_⟩ | ⟨_,hl⟩
      ·have:=((hS.ch k).live hl hk).1; rw [hj] at this; cases this
      ·exact hl
      ·rw [hj] at hl; cases hl
     have hnl:(getH hp' k).live≠true:=fun hl=>by
      have h1:SameKind (getH hin k) (getH hp' k):=(h'.kept k (hσnx k j hk).2 (by show getH hin k≠_; rw [hdd]; simp) hl).kind
      rw [hdd] at h1; exact h1
     cases hcc:getH hp' k with
     | dead=>rfl
     | void=>exact absurd (h'.nov k (hσnx k j hk).2 hcc) (by show getH hin k≠_; rw [hdd]; simp)
     | unborn=>exact absurd hcc hu
     | fam g=>exact absurd hcc (wfH_nofam hwf g)
     | _=>rw [hcc] at hnl; exact absurd rfl hnl
   ·have hn:∀ k,σ k≠some j:=fun k hk=>hp2 ⟨k,hk⟩
    rw [F3 j (fun k hkl he=>?_) hn]
    ·exact hj
    ·cases hs:σ k with
     | none=>rw [hτn _ hs] at he; have:=hfr _ (hlkk k hkl); rw [he,hj] at this; cases this
     | some i=>rw [hτs _ i hs] at he; subst he; exact hn _ hs
  ·by_cases hp2:∃ k,σ k = some j
   ·obtain ⟨k,hk⟩:=hp2
    by_cases hu:getH hp' k = .unborn
    ·exact .inl (F2 k j hk hu)
    ·have hc:=F1 k hu
     rw [hτs k j hk] at hc
     by_cases hl:(getH hp' k).live = true
     ·have hkl:(getH hin k).live = true:=by
       rcases hσlive k j hk hl with h1 | ⟨_,h1⟩
       ·exact h1
       ·rw [h1] at hj; cases hj
      have hkp:=h'.kept k (hσnx k j hk).2 (by show getH hin k≠_; intro e; rw [e] at hkl; cases hkl) hl
      have hidj:ids2 j = ids j:=by
       have h1:=hi1 k (.inr ⟨j,hk⟩)
       rw [hτs k j hk] at h1
       rw [h1,hkp.id]
       show idsOf σ ids k = ids j
       simp [idsOf,hk]
      refine .inr ⟨by rw [hc,renC_live]; exact hl,hidj,?_,fun b o hid=>?_⟩
      ·rw [hc]
       exact (((hS.ch k).kind hkl hk).trans hkp.kind).ren τ
      ·have h1:=hi1 k (.inr ⟨j,hk⟩)
       rw [hτs k j hk,hidj,hid] at h1
       exact hkp.shape b o h1.symm
     ·left
      rw [hc]
      cases hcc:getH hp' k with
      | fam g=>exact absurd hcc (wfH_nofam hwf g)
      | void =>
       have h1:getH hin k = .void:=h'.nov k (hσnx k j hk).2 hcc
       rcases hσl k j hk with h2 | ⟨h2,_⟩ | ⟨_,h2⟩
       ·rw [h1] at h2; cases h2
       ·rw [h1] at h2; cases h2
       ·rw [h2] at hj; cases hj
      | _=>rw [hcc] at hl hu; first | rfl | exact absurd rfl hu | exact absurd rfl hl
   ·have hn:∀ k,σ k≠some j:=fun k hk=>hp2 ⟨k,hk⟩
    have hF:=F3 j (hold2 j hj hn) hn
    refine .inr ⟨by rw [hF]; exact hj,hi2 j hj hn,by rw [hF]; exact SameKind.refl hj,fun b o hid=>SameShape.of_eq (h'.st.evol b (h.st.lt j b o hj hid).1 fun hh=>?_)⟩
    obtain ⟨k,j2,o2,h1,h2,h3⟩:=hW0 b hh
    have:=h.st.inj j j2 b o o2 hj h2 hid h3
    subst this
    exact hn k h1
 have hCτ:∀ k,getH hp' k≠.unborn→C2 (τ k) = renC τ (getH hp' k)∧((getH hp' k).live = true→ids2 (τ k) = ids' k):=fun k hk=>⟨F1 k hk,fun _=>hi1 k (.inl (by
  exact hlkk k (Classical.byContradiction fun hn=>hk (getH_unlisted hn))))⟩
 -- the immutable blocks of the callee, as the caller sees them
 obtain ⟨im,him1,him2⟩:∃ im:Bool,(im = true→∀ k,¬ bor k)∧(im = false→res.nim = true∧nimH hp' = true):=by
  rcases hbor with hb | hb
  ·exact ⟨true,(fun _=>hb),(fun e=>by cases e)⟩
  ·exact ⟨false,(fun e=>by cases e),(fun _=>hb)⟩
 have hII:im = true→∀ b,Im Y.w0 Y.I0 Y.W0 (getH hp') ids' w' b→Im X.w0 X.I0 X.W0 C2 ids2 w' b:=fun hi b hb=>by
  have hnb:=him1 hi
  have hlive:∀ j,(C2 j).live = true→∀ o,ids2 j≠some (b,o):=fun j hj o hij=>by
   rcases hcls j hj with ⟨k,rfl,hK,hl,_⟩ | ⟨hn,_,hl⟩
   ·rw [hi1 k hK] at hij; exact hb.2.2 k hl o hij
   ·rw [hi2 j hl hn] at hij
    have hlt:=(h.st.lt j b o hl hij).1
    rcases hb.1 with (h1 | ⟨k,o2,h1,_⟩) | h1 | h1
    ·exact h1.2.2 j hl o hij
    ·exact hnb k h1
    ·obtain ⟨k,j2,o2,h4,h5,h6⟩:=hW0 b h1
     have:=h.st.inj j j2 b o o2 hl h5 hij h6
     subst this; exact hn k h4
    ·have:w.heap.size≤b:=h1
     omega
  refine ⟨?_,hb.2.1,hlive⟩
  rcases hb.1 with (h1 | ⟨k,o,h1,_⟩) | h1 | h1
  ·exact h1.1
  ·exact absurd h1 (hnb k)
  ·obtain ⟨k,j2,o2,_,h5,h6⟩:=hW0 b h1
   exact .inr ((h.st.lt j2 b o2 h5 h6).2)
  ·have h2:w.heap.size≤b:=h1
   have:=h.st.size
   exact .inr (.inr (by omega))
 refine ⟨ids2,⟨⟨fun j=>?_,fun j1 j2 b o1 o2 hl1 hl2 he1 he2=>?_,fun j b o hl hi=>?_,h.st.im0,fun b hb hWb=>?_,h'.st.os.trans h.st.os,⟨h'.st.tape.1.trans h.st.tape.1,h.st.tape.2.trans h'.st.tape.2⟩,h'.st.output.trans h.st.output,Nat.le_trans h.st.size h'.st.size⟩,fun j hj h0 hl=>?_,fun j hj hv=>?_⟩,?_,?_⟩
 ·rw [hC2]
  by_cases hl:(C2 j).live = true
  ·rcases hcls j hl with ⟨k,rfl,hK,hlk2,hc⟩ | ⟨hn,hc,hlj⟩
   ·rw [hc]
    exact denC_ren hCτ hII hlk2 (hi1 k hK) (h'.st.ch k) fun hi=>nimH_get (him2 hi).2 k
   ·rw [hc]
    refine (h.st.ch j).mono hE (hi2 j hlj hn) fun b o hid=>h'.st.evol b (h.st.lt j b o hlj hid).1 fun hh=>?_
    obtain ⟨k,j2,o2,h1,h2,h3⟩:=hW0 b hh
    have:=h.st.inj j j2 b o o2 hlj h2 hid h3
    subst this
    exact hn k h1
  ·cases hcj:C2 j <;> rw [hcj] at hl <;> first | trivial | exact absurd rfl hl
 ·rw [hC2] at hl1 hl2
  rcases hcls j1 hl1 with ⟨k1,rfl,aK,a1,_⟩ | ⟨a2,_,a3⟩ <;> rcases hcls j2 hl2 with ⟨k2,rfl,bK,b1,_⟩ | ⟨b2,_,b3⟩
  ·rw [hi1 k1 aK] at he1; rw [hi1 k2 bK] at he2
   rw [h'.st.inj k1 k2 b o1 o2 a1 b1 he1 he2]
  ·rw [hi1 k1 aK] at he1; rw [hi2 j2 b3 b2] at he2
   have hlt:=(h.st.lt j2 b o2 b3 he2).1
   rcases (h'.st.lt k1 b o1 a1 he1).2 with h1 | h1
   ·obtain ⟨k,j3,o3,h4,h5,h6⟩:=hW0 b h1
    have:=h.st.inj j2 j3 b o2 o3 b3 h5 he2 h6
    subst this; exact absurd h4 (b2 k)
   ·have:w.heap.size≤b:=h1
    omega
  ·rw [hi1 k2 bK] at he2; rw [hi2 j1 a3 a2] at he1
   have hlt:=(h.st.lt j1 b o1 a3 he1).1
   rcases (h'.st.lt k2 b o2 b1 he2).2 with h1 | h1
   ·obtain ⟨k,j3,o3,h4,h5,h6⟩:=hW0 b h1
    have:=h.st.inj j1 j3 b o1 o3 a3 h5 he1 h6
    subst this; exact absurd h4 (a2 k)
   ·have:w.heap.size≤b:=h1
    omega
  ·rw [hi2 j1 a3 a2] at he1; rw [hi2 j2 b3 b2] at he2
   exact h.st.inj j1 j2 b o1 o2 a3 b3 he1 he2
 ·rw [hC2] at hl
  rcases hcls j hl with ⟨k,rfl,aK,a1,_⟩ | ⟨a2,_,a3⟩
  ·rw [hi1 k aK] at hi
   obtain ⟨g1,g2⟩:=h'.st.lt k b o a1 hi
   refine ⟨g1,?_⟩
   rcases g2 with h1 | h1
   ·obtain ⟨q,j2,o2,_,h5,h6⟩:=hW0 b h1
    exact (h.st.lt j2 b o2 h5 h6).2
   ·have h2:w.heap.size≤b:=h1
    have:=h.st.size
    exact .inr (by omega)
  ·rw [hi2 j a3 a2] at hi
   obtain ⟨g1,g2⟩:=h.st.lt j b o a3 hi
   exact ⟨Nat.lt_of_lt_of_le g1 h'.st.size,g2⟩
 ·have hsz:=h.st.size
  have:w'.heap[b]? = w.heap[b]?:=h'.st.evol b (show b < w.heap.size by omega) fun hh=>by
   obtain ⟨k,j2,o2,_,h5,h6⟩:=hW0 b hh
   rcases (h.st.lt j2 b o2 h5 h6).2 with h1 | h1
   ·exact hWb h1
   ·omega
  rw [this]; exact h.st.evol b hb hWb
 ·rw [hC2] at hl ⊢
  have hlo:(getH hp j).live = true:=by
   rcases hcls j hl with ⟨k,rfl,aK,a1,_⟩ | ⟨a2,_,a3⟩
   ·cases hs:σ k with
    | none=>rw [hτn k hs] at hj; simp at hj; omega
    | some i =>
     rw [hτs k i hs] at hj h0 ⊢
     rcases hσlive k i hs a1 with h1 | ⟨_,h1⟩
     ·exact ((hS.ch k).live h1 hs).1
     ·exact absurd (h.nov i hj h1) h0
   ·exact a3
  exact (h.kept j hj h0 hlo).step hE hlo hl
 ·rw [hC2] at hv
  by_cases hp2:∃ k,σ k = some j
  ·obtain ⟨k,hk⟩:=hp2
   by_cases hu:getH hp' k = .unborn
   ·rw [F2 k j hk hu] at hv; cases hv
   ·have hc:=F1 k hu
    rw [hτs k j hk,hv] at hc
    have hcc:getH hp' k = .void:=by cases h9:getH hp' k <;> rw [h9] at hc <;> first | rfl | cases hc
    have h1:getH hin k = .void:=h'.nov k (hσnx k j hk).2 hcc
    rcases hσl k j hk with h2 | ⟨h2,_⟩ | ⟨_,h2⟩
    ·rw [h1] at h2; cases h2
    ·rw [h1] at h2; cases h2
    ·exact h.nov j hj h2
  ·have hn:∀ k,σ k≠some j:=fun k hk=>hp2 ⟨k,hk⟩
   by_cases hli:∃ k:Nm,(∃ p ∈ hp',p.1.key = k.key)∧τ k = j
   ·obtain ⟨k,hk,he⟩:=hli
    cases hs:σ k with
    | none=>rw [hτn k hs] at he; rw [← he] at hj; simp at hj; omega
    | some i=>rw [hτs k i hs] at he; rw [he] at hs; exact absurd hs (hn k)
   ·rw [F3 j (fun k hk he=>hli ⟨k,hk,he⟩) hn] at hv
    exact h.nov j hj hv
 ·simp only [ExtX,hC2]; exact hE
 ·simp only [DenX,hC2]
  exact den_ren hCτ hII hres fun hi=>(him2 hi).1
theorem call_sound (h:HeapC X hp ids w) (hmnx:X.m≤nx) {f:FuncId} {args args':List SV} {hin:Hp} {m:Nat} {Post:SV→Hp→Nat→Prop} (hspec:SpecW X.P f args' hin m Post) {σ:Nm→Option Nm} {bor:Nm→Prop}
  (hS:Sub X.P (getH hp) (getH hin) σ bor) (hsig:SigOk σ) (hσm:∀ k:Nm,m≤k.base→σ k = none∧getH hin k = .unborn) (hσi:∀ k1 k2 j,σ k1 = some j→σ k2 = some j→k1 = k2) (hσl:∀ k j,σ k = some j→(getH hin k).live = true∨(getH hin k = .dead∧getH hp j = .dead)∨(getH hin k = .void∧getH hp j = .void))
  (hal:args.length = args'.length) (hargs:∀ (i:Nat) (x y:SV),args[i]? = some x→args'[i]? = some y→LeS X.P (getH hp) (getH hin) σ bor x y) {vals:Array Value} (hv:vals.size = args.length) (hd:∀ i x,args[i]? = some x→DenX X hp ids w x (vals.getD i undef)) :
  Calls X.P f vals w fun e w'=>∃ r res hp' nx',e = .returned r∧Post res hp' nx'∧((∀ k:Nm,nx'≤k.base→getH hp' k = .unborn)∧m≤nx')∧(wfH hp' = true∧(∀ k:Nm,k.base < nx'→getH hp (k.sh nx) = .unborn)∧((∀ k,¬ bor k)∨(res.nim = true∧nimH hp' = true)) →
  ∃ids2,HeapC X (back σ nx m hp' hp++hp) ids2 w'∧ExtX X hp ids w (back σ nx m hp' hp++hp) ids2 w'∧DenX X (back σ nx m hp' hp++hp) ids2 w' (renS (bck σ nx) res) r) :=
 call_soundG (Cal:=Calls X.P f) (fun h g=>h.mono g) h hmnx (fun Y vals h1 h2 h3 hH hs hv=>hspec.2 Y vals h1 h2 h3 hH hs hv) hS hsig hσm hσi hσl hal hargs hv hd
end Go.Sx
end

section
namespace Go.Sx
set_option linter.unusedVariables false
open Go.RowKit
variable {P:Program} {hp hp':Hp} {nx:Nat}
theorem updE_local {k:Nm} {c:Chunk} {rds:List Nm} (hr:∀ k:Nm,k.key ∈ rds→getH hp' k = getH hp k) (hk:k.key ∈ rds):updE k c hp' = updE k c hp:=by
 cases k with
 | t a=>rfl
 | s F i =>
  simp only [updE]
  rw [show (fun j=>getH hp' (.s F j)) = (fun j=>getH hp (.s F j)) from funext fun j=>hr _ (by simpa [Nm.key] using hk)]
theorem rowS_local {k:Nm} {f:TypeId→List SV→Res} {s:Prop} {e:Eff} (h:rowS (getH hp k) f = .ok s e) (hk:getH hp' k = getH hp k):rowS (getH hp' k) f = .ok s e:=by rw [hk]; exact h
theorem rowS_rds {c:Chunk} {f:TypeId→List SV→Res} {s:Prop} {e:Eff} {k:Nm} (h:rowS c f = .ok s e) (hf:∀ t cs,f t cs = .ok s e→k ∈ e.rds):k ∈ e.rds:=by
 obtain ⟨t,cs,_,hh⟩:=rowS_ok h; exact hf t cs hh
theorem takeS_rds {t:TypeId} {cs:List SV} {off:Nat} {rds:List Nm} {s:Prop} {e:Eff} (h:takeS P t cs off rds nx = .ok s e):e.rds = rds:=by
 unfold takeS at h; split at h <;> cases h <;> rfl
theorem loadS_local {t:TypeId} {x:SV} {s:Prop} {e:Eff} (h:loadS P t x hp nx = .ok s e) (hr:∀ k:Nm,k.key ∈ e.rds→getH hp' k = getH hp k):loadS P t x hp' nx = .ok s e:=by
 unfold loadS at h ⊢
 split at h
 ·rename_i k off
  have:k.key ∈ e.rds:=rowS_rds h fun t cs hh=>by rw [takeS_rds hh]; simp
  exact rowS_local h (hr k this)
 ·exact h
 ·cases h
theorem storeS_local {t:TypeId} {x v:SV} {s:Prop} {e:Eff} (h:storeS P t x v hp nx = .ok s e) (hr:∀ k:Nm,k.key ∈ e.rds→getH hp' k = getH hp k):storeS P t x v hp' nx = .ok s e:=by
 unfold storeS at h ⊢
 split at h
 ·rename_i k off
  have:k.key ∈ e.rds:=rowS_rds h fun t cs hh=>by cases hh; simp
  simp only [fun c=>updE_local (c:=c) hr this]
  exact rowS_local h (hr k this)
 ·cases h
theorem liveS_local {k:Nm} {r:Res} {s:Prop} {e:Eff} (h:liveS (getH hp k) r = .ok s e) (hk:getH hp' k = getH hp k):liveS (getH hp' k) r = .ok s e:=by rw [hk]; exact h
theorem liveS_rds {c:Chunk} {r:Res} {s:Prop} {e:Eff} {k:Nm} (h:liveS c r = .ok s e) (hf:r = .ok s e→k ∈ e.rds):k ∈ e.rds:=hf (liveS_ok h).2
theorem fieldAddrS_local {t:TypeId} {x:SV} {f:Nat} {s:Prop} {e:Eff} (h:fieldAddrS' P t x f hp nx = .ok s e) (hr:∀ k:Nm,k.key ∈ e.rds→getH hp' k = getH hp k):fieldAddrS' P t x f hp' nx = .ok s e:=by
 unfold fieldAddrS' at h ⊢
 split at h
 ·rename_i o ft n hf
  split at h
  ·exact h
  ·exact h
  ·cases h
 ·cases h
theorem indexAddrS_local {t:TypeId} {x i:SV} {s:Prop} {e:Eff} (h:indexAddrS P t x i hp nx = .ok s e) (hr:∀ k:Nm,k.key ∈ e.rds→getH hp' k = getH hp k):indexAddrS P t x i hp' nx = .ok s e:=by
 unfold indexAddrS at h ⊢
 split at h
 ·rename_i kd n
  split at h
  ·split at h
   ·rename_i k off len
    have:k.key ∈ e.rds:=liveS_rds h fun hh=>by cases hh; simp
    exact liveS_local h (hr k this)
   ·exact h
   ·cases h
  ·split at h
   ·split at h
    ·exact h
    ·exact h
    ·cases h
   ·cases h
 ·cases h
theorem mapC_local {k:Nm} {f:List (Value×SV)→Res} {s:Prop} {e:Eff} (h:mapC (getH hp k) f = .ok s e) (hk:getH hp' k = getH hp k):mapC (getH hp' k) f = .ok s e:=by rw [hk]; exact h
theorem mapC_rds {c:Chunk} {f:List (Value×SV)→Res} {s:Prop} {e:Eff} {k:Nm} (h:mapC c f = .ok s e) (hf:∀ es,f es = .ok s e→k ∈ e.rds):k ∈ e.rds:=by
 obtain ⟨es,_,hh⟩:=mapC_ok h; exact hf es hh
theorem lookupS_local {t:TypeId} {x key:SV} {ok:Bool} {s:Prop} {e:Eff} (h:lookupS P t x key ok hp nx = .ok s e) (hr:∀ k:Nm,k.key ∈ e.rds→getH hp' k = getH hp k):lookupS P t x key ok hp' nx = .ok s e:=by
 unfold lookupS at h ⊢
 split at h
 ·rename_i k kv d e' hm
  split at h
  ·have:k.key ∈ e.rds:=mapC_rds h fun es hh=>by cases hh; simp
   exact mapC_local h (hr k this)
  ·cases h
 ·rename_i k cs d' hm
  split at h
  ·split at h
   ·have:k.key ∈ e.rds:=mapC_rds h fun es hh=>by cases hh; simp
    exact mapC_local h (hr k this)
   ·cases h
  ·cases h
 ·cases h
theorem mapEntryS_local {t:TypeId} {x key:SV} {s:Prop} {e:Eff} (h:mapEntryS P t x key hp nx = .ok s e) (hr:∀ k:Nm,k.key ∈ e.rds→getH hp' k = getH hp k):mapEntryS P t x key hp' nx = .ok s e:=by
 unfold mapEntryS at h ⊢
 split at h
 ·rename_i k kv S e' hm
  split at h
  ·have:k.key ∈ e.rds:=mapC_rds h fun es hh=>by cases hh; simp
   simp only [fun c=>updE_local (c:=c) hr this]
   exact mapC_local h (hr k this)
  ·cases h
 ·cases h
theorem entryStoreS_local {x q v:SV} {s:Prop} {e:Eff} (h:entryStoreS x q v hp nx = .ok s e) (hr:∀ k:Nm,k.key ∈ e.rds→getH hp' k = getH hp k):entryStoreS x q v hp' nx = .ok s e:=by
 unfold entryStoreS at h ⊢
 split at h
 ·rename_i k i
  have:k.key ∈ e.rds:=mapC_rds h fun es hh=>by cases hh; simp
  simp only [fun c=>updE_local (c:=c) hr this]
  exact mapC_local h (hr k this)
 ·cases h
theorem mapUpdS_local {t:TypeId} {x key v:SV} {s:Prop} {e:Eff} (h:mapUpdS P t x key v hp nx = .ok s e) (hr:∀ k:Nm,k.key ∈ e.rds→getH hp' k = getH hp k):mapUpdS P t x key v hp' nx = .ok s e:=by
 unfold mapUpdS at h ⊢
 split at h
 ·rename_i k kv d e' hm
  have:k.key ∈ e.rds:=mapC_rds h fun es hh=>by cases hh; simp
  simp only [fun c=>updE_local (c:=c) hr this]
  exact mapC_local h (hr k this)
 ·rename_i k cs d' hm
  split at h
  ·have:k.key ∈ e.rds:=mapC_rds h fun es hh=>by cases hh; simp
   simp only [fun c=>updE_local (c:=c) hr this]
   exact mapC_local h (hr k this)
  ·cases h
 ·cases h
theorem sliceS_local {t:TypeId} {x:SV} {lo hi:Option SV} {s:Prop} {e:Eff} (h:sliceS P t x lo hi hp nx = .ok s e) (hr:∀ k:Nm,k.key ∈ e.rds→getH hp' k = getH hp k):sliceS P t x lo hi hp' nx = .ok s e:=by
 unfold sliceS at h ⊢
 split at h
 ·rename_i k off n
  split at h
  ·have:k.key ∈ e.rds:=rowS_rds h fun t cs hh=>by cases hh; simp
   exact rowS_local h (hr k this)
  ·cases h
 ·exact h
 ·exact h
 ·exact h
 ·rename_i k off
  split at h
  ·rename_i n el hu
   rw [Bool.cond_eq_ite] at h
   split at h
   ·rename_i hz
    have:k.key ∈ e.rds:=liveS_rds h fun hh=>by cases hh; simp
    rw [hz,cond_true]
    exact liveS_local h (hr k this)
   ·cases h
  ·cases h
 ·exact h
 ·cases h
theorem slice0S_local {t:TypeId} {x hi mx:SV} {s:Prop} {e:Eff} (h:slice0S P t x hi mx nx hp = .ok s e) (hr:∀ k:Nm,k.key ∈ e.rds→getH hp' k = getH hp k):slice0S P t x hi mx nx hp' = .ok s e:=by
 unfold slice0S at h ⊢
 split at h
 ·split at h
  ·rename_i k _ _
   have:k.key ∈ e.rds:=liveS_rds h fun hh=>by cases hh; simp
   exact liveS_local h (hr k this)
  ·exact h
  ·exact h
  ·cases h
 ·cases h
theorem lenS_local {t:TypeId} {x:SV} {s:Prop} {e:Eff} (h:lenS P t x hp nx = .ok s e) (hr:∀ k:Nm,k.key ∈ e.rds→getH hp' k = getH hp k):lenS P t x hp' nx = .ok s e:=by
 unfold lenS at h ⊢
 split at h
 ·exact h
 ·split at h
  ·rename_i k off n
   split at h
   ·have:k.key ∈ e.rds:=rowS_rds h fun t cs hh=>by cases hh; simp
    exact rowS_local h (hr k this)
   ·cases h
  ·exact h
  ·exact h
  ·exact h
  ·rename_i k
   split at h
   ·rename_i k1 e1 es hu hk
    cases h
    have:=hr k (by simp)
    simp only [hu,this,hk]
   ·cases h
  ·cases h
theorem srcS_local {tx:TypeId} {z:Nat} {y:SV} {f:Nat→List SV→List Nm→Prop→Res} {s:Prop} {e:Eff} (h:srcS P tx z y hp f = .ok s e) (hf:∀ m news rds s0,f m news rds s0 = .ok s e→∀ k ∈ rds,k ∈ e.rds) (hr:∀ k:Nm,k.key ∈ e.rds→getH hp' k = getH hp k):srcS P tx z y hp' f = .ok s e:=by
 unfold srcS at h ⊢
 split at h
 ·rename_i k off m
  split at h
  ·have:k.key ∈ e.rds:=rowS_rds h fun t cs hh=>hf _ _ _ _ hh k.key (by simp)
   exact rowS_local h (hr k this)
  ·cases h
 ·exact h
 ·exact h
 ·exact h
 ·cases h
theorem srcS_congr {tx:TypeId} {z:Nat} {y:SV} {f f':Nat→List SV→List Nm→Prop→Res} {s:Prop} {e:Eff} (h:srcS P tx z y hp f = .ok s e) (hf:∀ m news rds s0,f m news rds s0 = .ok s e→f' m news rds s0 = .ok s e):srcS P tx z y hp f' = .ok s e:=by
 unfold srcS at h ⊢
 split at h
 ·split at h
  ·obtain ⟨t,cs,hk,hh⟩:=rowS_ok h
   rw [hk]; exact hf _ _ _ _ hh
  ·cases h
 ·split at h
  ·exact hf _ _ _ _ h
  ·cases h
 ·split at h
  ·exact hf _ _ _ _ h
  ·cases h
 ·split at h
  ·exact hf _ _ _ _ h
  ·cases h
 ·cases h
theorem convS_local {t d:TypeId} {x:SV} {s:Prop} {e:Eff} (h:convS P t d x hp nx = .ok s e) (hr:∀ k:Nm,k.key ∈ e.rds→getH hp' k = getH hp k):convS P t d x hp' nx = .ok s e:=by
 unfold convS at h ⊢
 split at h
 ·exact h
 ·exact h
 ·unfold strS' at h ⊢
  split at h
  ·split at h
   ·refine srcS_local h (fun m news rds s0 hf=>?_) hr
    cases hb:news.all (isI .i32) <;> rw [hb] at hf <;> cases hf
    exact fun k hk=>hk
   ·refine srcS_local h (fun m news rds s0 hf=>?_) hr
    cases hb:news.all (isI .u8) <;> rw [hb] at hf <;> cases hf
    exact fun k hk=>hk
   ·cases h
  ·cases h
theorem srcS_inv {tx:TypeId} {z:Nat} {y:SV} {f:Nat→List SV→List Nm→Prop→Res} {s:Prop} {e:Eff} (h:srcS P tx z y hp f = .ok s e):∃ m news rds s0,f m news rds s0 = .ok s e:=by
 unfold srcS at h
 split at h
 ·split at h
  ·obtain ⟨_,_,_,hh⟩:=rowS_ok h; exact ⟨_,_,_,_,hh⟩
  ·cases h
 ·split at h
  ·exact ⟨_,_,_,_,h⟩
  ·cases h
 ·split at h
  ·exact ⟨_,_,_,_,h⟩
  ·cases h
 ·split at h
  ·exact ⟨_,_,_,_,h⟩
  ·cases h
 ·cases h
theorem appendS_local {t tx:TypeId} {x y:SV} {s:Prop} {e:Eff} (h:appendS P t tx x y hp nx = .ok s e) (hr:∀ k:Nm,k.key ∈ e.rds→getH hp' k = getH hp k):appendS P t tx x y hp' nx = .ok s e:=by
 unfold appendS at h ⊢
 split at h
 ·rename_i e' z hz
  refine srcS_congr (srcS_local h (fun m news rds s0 hf k hk=>?_) hr) fun m news rds s0 hf=>?_
  ·split at hf
   ·obtain ⟨_,_,_,hh⟩:=rowS_ok hf; cases hh; exact List.mem_cons_of_mem _ hk
   ·cases hf; exact hk
   ·cases hf
  ·split at hf
   ·rename_i k off n
    have:k.key ∈ e.rds:=rowS_rds hf fun t cs hh=>by cases hh; simp
    simp only [fun c=>updE_local (c:=c) hr this]
    exact rowS_local hf (hr k this)
   ·exact hf
   ·cases hf
 ·cases h
theorem copyS_local {t tx:TypeId} {x y:SV} {s:Prop} {e:Eff} (h:copyS P t tx x y hp nx = .ok s e) (hr:∀ k:Nm,k.key ∈ e.rds→getH hp' k = getH hp k):copyS P t tx x y hp' nx = .ok s e:=by
 unfold copyS at h ⊢
 split at h
 ·rename_i k off n e' hz
  have hk:k.key ∈ e.rds:=rowS_rds h fun t cs hh=>by obtain ⟨m,news,rds,s0,hf⟩:=srcS_inv hh; cases hf; simp
  obtain ⟨t',cs,hc,hf⟩:=rowS_ok h
  rw [hr k hk,hc]
  simp only [rowS]
  refine srcS_congr (srcS_local hf (fun m news rds s0 hf j hj=>?_) hr) fun m news rds s0 hf=>?_
  ·cases hf; exact List.mem_cons_of_mem _ hj
  ·simp only [fun c=>updE_local (c:=c) hr hk]; exact hf
 ·cases h
theorem binOpS_local {op:BinOp} {t:TypeId} {x y:SV} {s:Prop} {e:Eff} (h:binOpS P op t x y hp nx = .ok s e) (hr:∀ k:Nm,k.key ∈ e.rds→getH hp' k = getH hp k):binOpS P op t x y hp' nx = .ok s e:=by
 unfold binOpS at h ⊢
 split at h
 all_goals first | exact h | cases h
def namesOf (o:Op):List Tmp:=o.operands.toList.filterMap fun | .tmp t=>some t | _=>none
theorem evS_local {g:Bool} {fr fr':Fr} {o:Operand} (h:∀ t,o = .tmp t→getF fr' t = getF fr t):evS g fr' o = evS g fr o:=by
 cases o with
 | tmp t=>simp [evS,h t rfl]
 | _=>rfl
theorem mem_names {o:Op} {x:Operand} (hx:x ∈ o.operands.toList) {t:Nat} (ht:x = .tmp t):t ∈ namesOf o:=by
 subst ht; exact List.mem_filterMap.2 ⟨_,hx,rfl⟩
set_option maxHeartbeats 1000000 in
theorem opS_local {g:Bool} {fr fr':Fr} {ty:TypeId} {o:Op} {s:Prop} {e:Eff} (h:opS P g fr hp nx ty o = .ok s e) (hf:∀ t ∈ namesOf o,getF fr' t = getF fr t) (hr:∀ k:Nm,k.key ∈ e.rds→getH hp' k = getH hp k) :
  opS P g fr' hp' nx ty o = .ok s e:=by
 have raw:∀ (x:Operand),x ∈ o.operands.toList→rawS fr' x = rawS fr x:=fun x hx=>by
  cases x with
  | tmp t=>exact hf t (mem_names hx rfl)
  | _=>rfl
 have ev:∀ (g:Bool) (x:Operand),x ∈ o.operands.toList→evS g fr' x = evS g fr x:=fun g x hx=>evS_local fun t ht=>hf t (mem_names hx ht)
 cases o <;> simp only [opS,Op.operands] at h ev raw ⊢
 case move x=>rw [ev g x (by simp)]; exact h
 case assign x=>rw [ev g x (by simp)]; exact h
 case pick c x y=>rw [ev g c (by simp),raw x (by simp),raw y (by simp)]; exact h
 case alloc t=>exact h
 case box t x=>rw [ev g x (by simp)]; exact h
 case build t ps =>
  rw [show (ps.toList.map fun p=>(p.1,evS g fr' p.2)) = ps.toList.map fun p=>(p.1,evS g fr p.2) from List.map_congr_left fun p hp=>by rw [ev g p.2 (by simpa using ⟨p.1,by simpa using hp⟩)]]
  exact h
 case buildSlice t n ps =>
  rw [show (ps.toList.map fun p=>(p.1,evS g fr' p.2)) = ps.toList.map fun p=>(p.1,evS g fr p.2) from List.map_congr_left fun p hp=>by rw [ev g p.2 (by simpa using ⟨p.1,by simpa using hp⟩)]]
  exact h
 case insert t m k x=>rw [ev g m (by simp),ev g k (by simp),ev g x (by simp)]; exact mapUpdS_local h hr
 case mapEntry t m k=>rw [ev g m (by simp),ev g k (by simp)]; exact mapEntryS_local h hr
 case entryStore t m q x=>rw [ev g m (by simp),ev g q (by simp),ev g x (by simp)]; exact entryStoreS_local h hr
 case load t x=>rw [ev g x (by simp)]; exact loadS_local h hr
 case store t x y=>rw [ev g x (by simp),ev g y (by simp)]; exact storeS_local h hr
 case nilCheck x =>
  rw [ev g x (by simp)]
  split at h
  ·exact h
  ·exact h
  ·exact h
  ·exact h
  ·cases h
 case binOp op t x y yt =>
  rw [ev g x (by simp),ev g y (by simp)]
  cases he:erNilS P op t (evS g fr x) y nx with
  | none=>rw [he,Option.getD_none] at h; exact binOpS_local h hr
  | some r=>rw [he,Option.getD_some] at h; exact h
 case unOp op t x=>rw [ev g x (by simp)]; exact h
 case convert a b x=>rw [ev g x (by simp)]; exact convS_local h hr
 case makeFunc fn first caps =>
  split at h
  ·rw [show caps.toList.map (evS g fr') = caps.toList.map (evS g fr) from List.map_congr_left fun p hp=>ev g p (by simp; exact .inr (by simpa using hp))]
   exact h
  ·split at h
   ·rename_i y hfl
    rw [ev g y (by simp [hfl])]
    exact h
   ·cases h
  ·cases h
 case makeMap t r=>cases r <;> first | exact h | cases h
 case makeSlice t l c=>rw [ev g l (by simp),ev g c (by simp)]; exact h
 case slice t x lo hi mx =>
  split at h
  ·rw [ev g x (by simp)]
   rw [show lo.map (evS g fr') = lo.map (evS g fr) from by cases lo <;> simp; exact ev g _ (by simp)]
   rw [show hi.map (evS g fr') = hi.map (evS g fr) from by cases hi <;> simp; exact ev g _ (by simp)]
   exact sliceS_local h hr
  ·split at h
   ·rw [ev g x (by simp),ev g _ (by simp),ev g _ (by simp)]
    exact slice0S_local h hr
   ·cases h
 case fieldAddr t x f=>rw [ev g x (by simp)]; exact fieldAddrS_local h hr
 case field t x f=>rw [ev g x (by simp)]; exact h
 case indexAddr t x i=>rw [ev g x (by simp),ev g i (by simp)]; exact indexAddrS_local h hr
 case index t x i=>rw [ev g x (by simp),ev g i (by simp)]; exact h
 case lookup t x i ok=>rw [ev g x (by simp),ev g i (by simp)]; exact lookupS_local h hr
 case mapUpdate t m k x=>rw [ev g m (by simp),ev g k (by simp),ev g x (by simp)]; exact mapUpdS_local h hr
 case extract x i=>rw [ev g x (by simp)]; exact h
 case makeInterface t x=>rw [ev g x (by simp)]; exact h
 case typeAssert x t a ok=>rw [ev g x (by simp)]; exact h
 case range t x=>rw [ev g x (by simp)]; exact h
 case next x str =>
  rw [ev g x (by simp)]
  unfold nextS at h ⊢
  cases str with
  | false=>cases h
  | true =>
   simp only [cond_true] at h ⊢
   split at h
   ·rename_i k hx
    obtain ⟨s,pos,hk,hf⟩:=itC_ok h
    have hm:k.key ∈ e.rds:=by cases hb:decide (pos < s.size) <;> rw [hb] at hf <;> cases hf <;> simp
    simp only [fun c=>updE_local (c:=c) hr hm,hr k hm,hk,itC]; exact hf
   ·cases h
 case call c =>
  obtain ⟨callee,args,argTypes⟩:=c
  split at h
  ·rename_i b hcb
   simp only at hcb; subst hcb
   simp only [Call.operands] at ev
   have ev':∀ x ∈ args.toList,evS g fr' x = evS g fr x:=fun x hx=>ev g x (by simp; simpa using hx)
   split at h
   ·rename_i x t hargs htys
    simp only at hargs htys
    rw [ev' x (by rw [hargs]; simp)]
    exact lenS_local h hr
   ·rename_i x y t tx hargs htys
    simp only at hargs htys
    rw [ev' x (by rw [hargs]; simp),ev' y (by rw [hargs]; simp)]
    split at h
    ·rename_i e' z hst
     cases hz:zokT P e' with
     | false=>rw [hz] at h; cases h
     | true =>
      rw [hz] at h
      simp only [hst,hz,cond_true] at h ⊢
      exact appendS_local h hr
    ·cases h
   ·rename_i x y t tx hargs htys
    simp only at hargs htys
    rw [ev' x (by rw [hargs]; simp),ev' y (by rw [hargs]; simp)]
    exact copyS_local h hr
   ·rw [show args.toList.map (evS g fr') = args.toList.map (evS g fr) from List.map_congr_left ev']; exact h
   ·rw [show args.toList.map (evS g fr') = args.toList.map (evS g fr) from List.map_congr_left ev']; exact h
   ·cases h
  ·cases h
 all_goals cases h
def KeysOk (hp:Hp) (nx:Nat) (e:Eff):Prop:=nx≤e.nx∧∀ p ∈ e.upd,(p.1 = Nm.t nx∧e.nx = nx+1)∨(p.1.key ∈ e.rds∧∃ k:Nm,k.key = p.1.key∧getH hp k≠.unborn)
theorem keys_none {e:Eff} (h:e.upd = []∧e.nx = nx):KeysOk hp nx e:=⟨by rw [h.2]; exact Nat.le_refl _,fun p hp=>by rw [h.1] at hp; cases hp⟩
theorem pureR_keys {x:SV} {s:Prop} {e:Eff} (h:pureR x nx = .ok s e):e.upd = []∧e.nx = nx:=by cases h; exact ⟨rfl,rfl⟩
theorem takeS_keys {t:TypeId} {cs:List SV} {off:Nat} {rds:List Nm} {s:Prop} {e:Eff} (h:takeS P t cs off rds nx = .ok s e):e.upd = []∧e.nx = nx:=by
 unfold takeS at h; split at h <;> cases h <;> exact ⟨rfl,rfl⟩
theorem loadS_keys {t:TypeId} {x:SV} {s:Prop} {e:Eff} (h:loadS P t x hp nx = .ok s e):e.upd = []∧e.nx = nx:=by
 unfold loadS at h
 split at h
 ·obtain ⟨_,_,_,hh⟩:=rowS_ok h; exact takeS_keys hh
 ·exact takeS_keys h
 ·cases h
theorem intS_keys {op:BinOp} {k:IntKind} {a b:Int} {s:Prop} {e:Eff} (h:intS op k a b nx = .ok s e):e.upd = []∧e.nx = nx:=by cases op <;> simp only [intS,pureR] at h <;> cases h <;> exact ⟨rfl,rfl⟩
theorem strS_keys {op:BinOp} {a b:ByteArray} {s:Prop} {e:Eff} (h:strS op a b nx = .ok s e):e.upd = []∧e.nx = nx:=by cases op <;> simp only [strS,pureR] at h <;> cases h <;> exact ⟨rfl,rfl⟩
theorem nilEqS_keys {op:BinOp} {t:TypeId} {r:Bool} {rds:List Nm} {s:Prop} {e:Eff} (h:nilEqS P op t r rds nx = .ok s e):e.upd = []∧e.nx = nx:=by
 unfold nilEqS at h
 split at h
 ·cases ho:isEq op with
  | false=>rw [ho] at h; cases h
  | true=>rw [ho] at h; cases h; exact ⟨rfl,rfl⟩
 ·cases h
theorem binOpS_keys {op:BinOp} {t:TypeId} {x y:SV} {s:Prop} {e:Eff} (h:binOpS P op t x y hp nx = .ok s e):e.upd = []∧e.nx = nx:=by
 unfold binOpS at h
 split at h
 ·rename_i k a k' b
  cases h1:isShift op with
  | true=>rw [h1] at h; cases op <;> simp only [shiftS] at h <;> cases h <;> exact ⟨rfl,rfl⟩
  | false =>
   rw [h1] at h
   cases h2:(k == k') with
   | true=>simp only [h2,cond_true,cond_false] at h; exact intS_keys h
   | false=>simp only [h2,cond_false] at h; cases h
 ·exact strS_keys h
 ·split at h
  ·cases ho:isEq op with
   | false=>rw [ho] at h; cases h
   | true=>rw [ho] at h; exact pureR_keys h
  ·cases h
 ·split at h
  ·cases ho:(isEq op && !P.eqGuardType P.depth t) with
   | false=>rw [ho] at h; cases h
   | true =>
    rw [ho] at h
    unfold aggEqS at h
    split at h
    ·rename_i l n r _ _ _
     rename_i xs ys _ _ _ _ _ _
     generalize hb:((n == l.length && (_ == n && _ == n)) && (leafS l _ && leafS l _)) = bb at h
     cases bb with
     | false=>cases h
     | true=>exact pureR_keys h
    ·cases h
  ·cases h
 ·exact nilEqS_keys h
 ·exact nilEqS_keys h
 ·exact nilEqS_keys h
 ·cases h
theorem indexS_keys {t:TypeId} {x i:SV} {s:Prop} {e:Eff} (h:indexS P t x i nx = .ok s e):e.upd = []∧e.nx = nx:=by
 unfold indexS at h
 split at h
 ·split at h
  ·split at h
   ·rename_i s' r hp; cases h; exact takeS_keys hp
   ·cases h
  ·cases h
 ·split at h
  ·cases h; exact ⟨rfl,rfl⟩
  ·cases h
 ·cases h
theorem lenS_keys {t:TypeId} {x:SV} {s:Prop} {e:Eff} (h:lenS P t x hp nx = .ok s e):e.upd = []∧e.nx = nx:=by
 unfold lenS at h
 split at h
 ·exact pureR_keys h
 ·split at h
  ·split at h
   ·obtain ⟨_,_,_,hh⟩:=rowS_ok h; cases hh; exact ⟨rfl,rfl⟩
   ·cases h
  ·split at h
   ·exact pureR_keys h
   ·cases h
  ·split at h
   ·exact pureR_keys h
   ·cases h
  ·split at h
   ·exact pureR_keys h
   ·cases h
  ·split at h
   ·cases h; exact ⟨rfl,rfl⟩
   ·cases h
  ·cases h
theorem sliceS_keys {t:TypeId} {x:SV} {lo hi:Option SV} {s:Prop} {e:Eff} (h:sliceS P t x lo hi hp nx = .ok s e):e.upd = []∧e.nx = nx:=by
 unfold sliceS at h
 split at h
 ·split at h
  ·obtain ⟨_,_,_,hh⟩:=rowS_ok h; cases hh; exact ⟨rfl,rfl⟩
  ·cases h
 ·split at h
  ·cases h; exact ⟨rfl,rfl⟩
  ·cases h
 ·split at h
  ·cases h; exact ⟨rfl,rfl⟩
  ·cases h
 ·split at h
  ·cases h; exact ⟨rfl,rfl⟩
  ·cases h
 ·split at h
  ·rw [Bool.cond_eq_ite] at h
   split at h
   ·have:=(liveS_ok h).2; cases this; exact ⟨rfl,rfl⟩
   ·cases h
  ·cases h
 ·split at h
  ·split at h
   ·rw [Bool.cond_eq_ite] at h
    split at h
    ·cases h; exact ⟨rfl,rfl⟩
    ·cases h
   ·cases h
  ·cases h
 ·cases h
theorem fieldAddrS_keys {t:TypeId} {x:SV} {f:Nat} {s:Prop} {e:Eff} (h:fieldAddrS' P t x f hp nx = .ok s e):e.upd = []∧e.nx = nx:=by
 unfold fieldAddrS' at h
 split at h
 ·split at h
  ·cases h; exact ⟨rfl,rfl⟩
  ·cases h; exact ⟨rfl,rfl⟩
  ·cases h
 ·cases h
theorem indexAddrS_keys {t:TypeId} {x i:SV} {s:Prop} {e:Eff} (h:indexAddrS P t x i hp nx = .ok s e):e.upd = []∧e.nx = nx:=by
 unfold indexAddrS at h
 split at h
 ·split at h
  ·split at h
   ·have:=(liveS_ok h).2; cases this; exact ⟨rfl,rfl⟩
   ·cases h; exact ⟨rfl,rfl⟩
   ·cases h
  ·split at h
   ·split at h
    ·cases h; exact ⟨rfl,rfl⟩
    ·cases h; exact ⟨rfl,rfl⟩
    ·cases h
   ·cases h
 ·cases h
theorem lookupS_keys {t:TypeId} {x key:SV} {ok:Bool} {s:Prop} {e:Eff} (h:lookupS P t x key ok hp nx = .ok s e):e.upd = []∧e.nx = nx:=by
 unfold lookupS at h
 split at h
 ·split at h
  ·obtain ⟨_,_,hh⟩:=mapC_ok h; cases hh; exact ⟨rfl,rfl⟩
  ·cases h
 ·split at h
  ·split at h
   ·obtain ⟨_,_,hh⟩:=mapC_ok h; cases hh; exact ⟨rfl,rfl⟩
   ·cases h
  ·cases h
 ·cases h
theorem makeIfcS_keys {t:TypeId} {x:SV} {s:Prop} {e:Eff} (h:makeIfcS P t x nx = .ok s e):e.upd = []∧e.nx = nx:=by
 unfold makeIfcS at h
 split at h
 ·cases h
 ·exact pureR_keys h
 ·cases h
theorem assertS_keys {x:SV} {a:TypeId} {ok:Bool} {s:Prop} {e:Eff} (h:assertS P x a ok nx = .ok s e):e.upd = []∧e.nx = nx:=by
 unfold assertS at h
 split at h
 ·cases h
 ·split at h
  ·rw [Bool.cond_eq_ite] at h
   split at h
   ·exact pureR_keys h
   ·rw [Bool.cond_eq_ite] at h
    split at h
    ·split at h
     ·exact pureR_keys h
     ·cases h
    ·cases h
  ·rw [Bool.cond_eq_ite] at h
   split at h
   ·split at h
    ·exact pureR_keys h
    ·cases h
   ·cases h
  ·cases h
 ·cases h
theorem minmaxR_keys {mx:Bool} {l:List SV} {s:Prop} {e:Eff} (h:minmaxR mx l nx = .ok s e):e.upd = []∧e.nx = nx:=by
 unfold minmaxR at h
 split at h
 ·split at h
  ·exact pureR_keys h
  ·cases h
 ·cases h
theorem keys_new {e:Eff} {c:Chunk} (h:e.upd = [(Nm.t nx,c)]∧e.nx = nx+1):KeysOk hp nx e:=⟨by rw [h.2]; exact Nat.le_succ _,fun p hp=>by rw [h.1] at hp; simp at hp; subst hp; exact .inl ⟨rfl,h.2⟩⟩
theorem appendS_keys {t tx:TypeId} {x y:SV} {s:Prop} {e:Eff} (h:appendS P t tx x y hp nx = .ok s e):KeysOk hp nx e:=by
 unfold appendS at h
 split at h
 ·obtain ⟨m,news,rds,s0,hf⟩:=srcS_inv h
  split at hf
  ·rename_i k off n
   obtain ⟨t',cs,hk,hh⟩:=rowS_ok hf
   cases hh
   refine ⟨Nat.le_succ _,fun p hp=>?_⟩
   simp at hp
   rcases hp with rfl | rfl
   ·exact .inl ⟨rfl,rfl⟩
   ·exact .inr ⟨by simp [updE_key],k,by simp [updE_key],by rw [hk]; simp⟩
  ·cases hf; exact keys_new ⟨rfl,rfl⟩
  ·cases hf
 ·cases h
theorem copyS_keys {t tx:TypeId} {x y:SV} {s:Prop} {e:Eff} (h:copyS P t tx x y hp nx = .ok s e):KeysOk hp nx e:=by
 unfold copyS at h
 split at h
 ·rename_i k off n e' hz
  obtain ⟨t',cs,hk,hf⟩:=rowS_ok h
  obtain ⟨m,news,rds,s0,hf⟩:=srcS_inv hf
  cases hf
  exact ⟨Nat.le_refl _,fun p hp=>by simp at hp; subst hp; exact .inr ⟨by simp [updE_key],k,by simp [updE_key],by rw [hk]; simp⟩⟩
 ·cases h
theorem storeS_keys {t:TypeId} {x v:SV} {s:Prop} {e:Eff} (h:storeS P t x v hp nx = .ok s e):KeysOk hp nx e:=by
 unfold storeS at h
 split at h
 ·rename_i k off
  obtain ⟨t',cs,hk,hh⟩:=rowS_ok h
  cases hh
  exact ⟨Nat.le_refl _,fun p hp=>by simp at hp; subst hp; exact .inr ⟨by simp [updE_key],k,by simp [updE_key],by rw [hk]; simp⟩⟩
 ·cases h
theorem mapEntryS_keys {t:TypeId} {x q:SV} {s:Prop} {e:Eff} (h:mapEntryS P t x q hp nx = .ok s e):KeysOk hp nx e:=by
 unfold mapEntryS at h
 split at h
 ·rename_i k kv S e' hm
  split at h
  ·obtain ⟨es,hk,hh⟩:=mapC_ok h
   cases hh
   exact ⟨Nat.le_refl _,fun p hp=>by simp at hp; subst hp; exact .inr ⟨by simp [updE_key],k,by simp [updE_key],by rw [hk]; simp⟩⟩
  ·cases h
 ·cases h
theorem entryStoreS_keys {x q v:SV} {s:Prop} {e:Eff} (h:entryStoreS x q v hp nx = .ok s e):KeysOk hp nx e:=by
 unfold entryStoreS at h
 split at h
 ·rename_i k i
  obtain ⟨es,hk,hh⟩:=mapC_ok h
  cases hh
  exact ⟨Nat.le_refl _,fun p hp=>by simp at hp; subst hp; exact .inr ⟨by simp [updE_key],k,by simp [updE_key],by rw [hk]; simp⟩⟩
 ·cases h
theorem mapUpdS_keys {t:TypeId} {x q v:SV} {s:Prop} {e:Eff} (h:mapUpdS P t x q v hp nx = .ok s e):KeysOk hp nx e:=by
 unfold mapUpdS at h
 split at h
 ·rename_i k kv d e' hm
  obtain ⟨es,hk,hh⟩:=mapC_ok h
  cases hh
  exact ⟨Nat.le_refl _,fun p hp=>by simp at hp; subst hp; exact .inr ⟨by simp [updE_key],k,by simp [updE_key],by rw [hk]; simp⟩⟩
 ·rename_i k cs d' hm
  split at h
  ·obtain ⟨es,hk,hh⟩:=mapC_ok h
   cases hh
   exact ⟨Nat.le_refl _,fun p hp=>by simp at hp; subst hp; exact .inr ⟨by simp [updE_key],k,by simp [updE_key],by rw [hk]; simp⟩⟩
  ·cases h
 ·cases h
set_option maxHeartbeats 1000000 in
theorem opS_keys {g:Bool} {fr:Fr} {ty:TypeId} {o:Op} {s:Prop} {e:Eff} (h:opS P g fr hp nx ty o = .ok s e):KeysOk hp nx e:=by
 cases o <;> simp only [opS] at h
 case move x=>exact keys_none (pureR_keys h)
 case assign x=>exact keys_none (pureR_keys h)
 case pick c x y =>
  split at h
  ·unfold pickS at h
   split at h
   ·exact keys_none (pureR_keys h)
   ·rename_i k p k' q _ _
    cases hk:(k == k') with
    | false=>rw [hk] at h; exact keys_none (pureR_keys h)
    | true=>rw [hk] at h; exact keys_none (pureR_keys h)
   ·exact keys_none (pureR_keys h)
  ·cases h
 case alloc t =>
  unfold allocS at h
  split at h
  ·cases h; exact keys_new ⟨rfl,rfl⟩
  ·cases h
 case box t x=>cases h; exact keys_new ⟨rfl,rfl⟩
 case build t ps =>
  unfold buildS at h
  split at h
  ·split at h
   ·split at h
    ·cases h; exact keys_none ⟨rfl,rfl⟩
    ·cases h
   ·split at h
    ·split at h
     ·cases h; exact keys_none ⟨rfl,rfl⟩
     ·cases h
    ·cases h
  ·cases h
 case buildSlice t n ps =>
  unfold buildSliceS at h
  split at h
  ·split at h
   ·rename_i _ e1 q hq _ z hz
    generalize hb:((Nat.ble (n * q) 16777216 && !(n * q == 0)) && z.length == q) = bb at h
    cases bb with
    | false=>cases h
    | true =>
     simp only [cond_true] at h
     split at h
     ·cases h; exact keys_new ⟨rfl,rfl⟩
     ·cases h
   ·cases h
  ·cases h
 case insert t m k x=>exact mapUpdS_keys h
 case mapEntry t m k=>exact mapEntryS_keys h
 case entryStore t m q x=>exact entryStoreS_keys h
 case load t x=>exact keys_none (loadS_keys h)
 case store t x y=>exact storeS_keys h
 case nilCheck x =>
  split at h
  ·exact keys_none (pureR_keys h)
  ·exact keys_none (pureR_keys h)
  ·exact keys_none (pureR_keys h)
  ·rw [Bool.cond_eq_ite] at h
   split at h
   ·exact keys_none (pureR_keys h)
   ·cases h
  ·cases h
 case binOp op t x y yt =>
  cases he:erNilS P op t (evS g fr x) y nx with
  | none=>rw [he,Option.getD_none] at h; exact keys_none (binOpS_keys h)
  | some r =>
   rw [he,Option.getD_some] at h
   subst h
   rcases erNilS_pure he with h | ⟨v,h⟩
   ·cases h
   ·exact keys_none (pureR_keys h.symm)
 case unOp op t x =>
  unfold unS at h
  split at h
  ·exact keys_none (pureR_keys h)
  ·exact keys_none (pureR_keys h)
  ·cases h
 case convert a b x =>
  unfold convS at h
  split at h
  ·split at h
   ·exact keys_none (pureR_keys h)
   ·exact keys_none (pureR_keys h)
   ·cases h
  ·split at h
   ·exact keys_none (pureR_keys h)
   ·split at h
    ·cases h; exact keys_new ⟨rfl,rfl⟩
    ·cases h
   ·cases h
  ·unfold strS' at h
   split at h
   ·split at h
    ·obtain ⟨m,news,rds,s0,hf⟩:=srcS_inv h
     cases hb:news.all (isI .i32) <;> rw [hb] at hf <;> cases hf
     exact keys_none ⟨rfl,rfl⟩
    ·obtain ⟨m,news,rds,s0,hf⟩:=srcS_inv h
     cases hb:news.all (isI .u8) <;> rw [hb] at hf <;> cases hf
     exact keys_none ⟨rfl,rfl⟩
    ·cases h
   ·cases h
 case makeFunc fn first caps =>
  split at h
  ·cases hz:(first.size == 0) with
   | false=>rw [hz] at h; cases h
   | true=>rw [hz] at h; exact keys_none (pureR_keys h)
  ·split at h
   ·rw [Bool.cond_eq_ite] at h
    split at h
    ·exact keys_none (pureR_keys h)
    ·cases h
   ·cases h
  ·cases h
 case makeMap t r =>
  split at h
  ·cases h; exact keys_new ⟨rfl,rfl⟩
  ·cases h
 case makeSlice t l c =>
  unfold makeSliceS at h
  split at h
  ·split at h
   ·cases h; exact keys_new ⟨rfl,rfl⟩
   ·cases h
  ·cases h
 case slice t x lo hi mx =>
  split at h
  ·exact keys_none (sliceS_keys h)
  ·split at h
   ·unfold slice0S at h
    split at h
    ·split at h
     ·have:=(liveS_ok h).2; cases this; exact keys_new ⟨rfl,rfl⟩
     ·cases h; exact keys_new ⟨rfl,rfl⟩
     ·cases h; exact keys_new ⟨rfl,rfl⟩
     ·cases h
    ·cases h
   ·cases h
 case fieldAddr t x f=>exact keys_none (fieldAddrS_keys h)
 case field t x f =>
  unfold fieldS at h
  split at h
  ·exact keys_none (takeS_keys h)
  ·cases h
 case indexAddr t x i=>exact keys_none (indexAddrS_keys h)
 case index t x i=>exact keys_none (indexS_keys h)
 case lookup t x i ok=>exact keys_none (lookupS_keys h)
 case mapUpdate t m k x=>exact mapUpdS_keys h
 case range t x =>
  unfold rangeS at h
  split at h
  ·split at h
   ·cases h; exact keys_new ⟨rfl,rfl⟩
   ·cases h
  ·cases h
 case next x str =>
  unfold nextS at h
  cases str with
  | false=>cases h
  | true =>
   simp only [cond_true] at h
   split at h
   ·rename_i k hx
    obtain ⟨s,pos,hk,hf⟩:=itC_ok h
    cases hb:decide (pos < s.size) with
    | true =>
     rw [hb] at hf; cases hf
     exact ⟨Nat.le_refl _,fun p hp=>by simp at hp; subst hp; exact .inr ⟨by simp [updE_key],k,by simp [updE_key],by rw [hk]; simp⟩⟩
    | false=>rw [hb] at hf; cases hf; exact keys_none ⟨rfl,rfl⟩
   ·cases h
 case makeInterface t x=>exact keys_none (makeIfcS_keys h)
 case typeAssert x t a ok=>exact keys_none (assertS_keys h)
 case extract x i =>
  unfold extractS at h
  split at h
  ·split at h
   ·exact keys_none (pureR_keys h)
   ·cases h
  ·cases h
 case call c =>
  split at h
  ·split at h
   ·exact keys_none (lenS_keys h)
   ·split at h
    ·rename_i e' z hst
     cases hz:zokT P e' with
     | false=>rw [hz] at h; cases h
     | true=>rw [hz] at h; exact appendS_keys h
    ·cases h
   ·exact copyS_keys h
   ·exact keys_none (minmaxR_keys h)
   ·exact keys_none (minmaxR_keys h)
   ·cases h
  ·cases h
 all_goals cases h
end Go.Sx
end

section
namespace Go.Sx
set_option linter.unusedVariables false
open Go.RowKit
variable {X:Cx} {hp:Hp} {nx:Nat} {ids:Ids} {w:World}
def putF (dst:Option Tmp) (x:SV) (fr:Fr):Fr:=match dst with
 | some d=>(d,x)::fr
 | none=>fr
def Br (b:Bool) (A B:Prop):Prop:=(b = true→A)∧(b = false→B)
theorem Br.mk {b:Bool} {A B:Prop} (h:b = true→A) (g:b = false→B):Br b A B:=⟨h,g⟩
theorem br_true {A B:Prop}:Br true A B = A:=by simp [Br]
theorem br_false {A B:Prop}:Br false A B = B:=by simp [Br]
def guardS (ops:Array Oper) (fr:Fr) (j:Nat) (want:Bool):Option Bool :=
 match (ops[j]?).bind (·.dst) with
 | some d=>match getF fr d with
  | .v (.bool b)=>some (bif want then b else !b)
  | .gd g (.v (.bool b))=>some (g && (bif want then b else !b))
  | .gd g _=>bif g then none else some false
  | _=>none
 | none=>none
def quietS:Op→Bool
 | .move _=>true
 | .assign _=>true
 | .pick _ _ _=>true
 | .load _ _=>true
 | .nilCheck _=>true
 | .binOp _ _ _ _ _=>true
 | .unOp _ _ _=>true
 | .convert _ _ _=>true
 | .slice _ _ _ _ none=>true
 | .fieldAddr _ _ _=>true
 | .field _ _ _=>true
 | .indexAddr _ _ _=>true
 | .index _ _ _=>true
 | .lookup _ _ _ _=>true
 | .extract _ _=>true
 | .build _ _=>true
 | .call c=>match c.callee with
  | .builtin .len=>true
  | .builtin .min=>true
  | .builtin .max=>true
  | _=>false
 | _=>false
def arrIdx (P:Program):Op→Bool
 | .indexAddr t _ (.tmp _)=>(arrT P t).isSome
 | .index t _ (.tmp _)=>(arrT P t).isSome
 | _=>false
def quietP (P:Program) (o:Op):Bool:=quietS o && !arrIdx P o
def callOf (g:Bool) (fr:Fr) (o:Op):Option (FuncId×List SV) :=
 match o with
 | .call c=>match c.callee with
  | .value f=>match evS g fr f with
   | .v (.func (.func id) fs cs)=>bif fs.size == 0 && cs.size == 0 then some (id,c.args.toList.map (evS g fr)) else none
   | .clo id caps=>some (id,c.args.toList.map (evS g fr)++caps)
   | _=>none
  | _=>none
 | _=>none
structure Trim (hp b u:Hp) (rds:List Nm):Prop where
 keys:∀ p ∈ u,∃ q ∈ b,q.1.key = p.1.key
 drop:∀ p ∈ b,(∃ q ∈ u,q.1.key = p.1.key)∨p.1.key ∈ rds
 eq:∀ k,getH (u++hp) k = getH (b++hp) k
theorem Trim.refl (hp b:Hp) (rds:List Nm):Trim hp b b rds:=⟨fun p h=>⟨p,h,rfl⟩,fun p h=>.inl ⟨p,h,rfl⟩,fun _=>rfl⟩
theorem Trim.local {hp hp' b u:Hp} {rds:List Nm} (h:Trim hp b u rds) (hr:∀ k:Nm,k.key ∈ rds→getH hp' k = getH hp k):getH (u++hp') = getH (b++hp'):=funext fun k=>by
 have e:=h.eq k
 rw [getH_append,getH_append] at e
 rw [getH_append,getH_append]
 by_cases hu:∃ p ∈ u,p.1.key = k.key
 ·have hb:∃ p ∈ b,p.1.key = k.key:=by
   obtain ⟨p,hp1,hp2⟩:=hu
   obtain ⟨q,hq1,hq2⟩:=h.keys p hp1
   exact ⟨q,hq1,hq2.trans hp2⟩
  rw [if_pos hu,if_pos hb] at e ⊢
  exact e
 ·by_cases hb:∃ p ∈ b,p.1.key = k.key
  ·rw [if_neg hu,if_pos hb] at e ⊢
   obtain ⟨p,hp1,hp2⟩:=hb
   rcases h.drop p hp1 with ⟨q,hq1,hq2⟩ | hd
   ·exact absurd ⟨q,hq1,hq2.trans hp2⟩ hu
   ·rw [hp2] at hd
    rw [hr k hd]; exact e
  ·rw [if_neg hu,if_neg hb]
theorem HeapC.congr {hp':Hp} (h:HeapC X hp ids w) (he:getH hp = getH hp'):HeapC X hp' ids w:=by
 obtain ⟨h1,h2,h3⟩:=h
 exact ⟨he ▸ h1,fun k=>by rw [← he]; exact h2 k,fun k=>by rw [← he]; exact h3 k⟩
theorem DenX.congr {hp':Hp} {s:SV} {x:Value} (h:DenX X hp ids w s x) (he:getH hp = getH hp'):DenX X hp' ids w s x:=by
 unfold DenX at h ⊢; rw [← he]; exact h
theorem ExtX.congr {hp1 hp2:Hp} {ids':Ids} {w':World} (h:ExtX X hp ids w hp1 ids' w') (he:getH hp1 = getH hp2):ExtX X hp ids w hp2 ids' w':=by
 unfold ExtX at h ⊢; rw [← he]; exact h
def CallW (d:Bool) (P:Program) (f:FuncId) (args:List SV) (hp:Hp) (nx:Nat) (K:SV→Hp→Nat→List Nm→Prop):Prop :=
∃(args':List SV) (hin:Hp) (m:Nat) (Post:SV→Hp→Nat→Prop) (σ:Nm→Option Nm) (bor:List Nm),SpecW P f args' hin m Post∧Sub P (getH hp) (getH hin) σ (InK bor)∧SigOk σ∧(∀ k:Nm,m≤k.base→σ k = none∧getH hin k = .unborn)∧(∀ k1 k2 j,σ k1 = some j→σ k2 = some j→k1 = k2)∧(∀ k j,σ k = some j→(getH hin k).live = true∨(getH hin k = .dead∧getH hp j = .dead)∨(getH hin k = .void∧getH hp j = .void))∧args.length = args'.length∧(∀ (i:Nat) (x y:SV),args[i]? = some x→args'[i]? = some y→LeS P (getH hp) (getH hin) σ (InK bor) x y)∧(∃ res hp' nx',Post res hp' nx')∧(d = true→∀ res hp' nx' res2 hp2 nx2,Post res hp' nx'→Post res2 hp2 nx2→res = res2∧hp' = hp2∧nx' = nx2) ∧
 ∀res hp' nx',Post res hp' nx'→wfH hp' = true∧(bor = []∨(res.nim = true∧nimH hp' = true))∧∃ u,Trim hp (back σ nx m hp' hp) u (bor.map Nm.key++passK σ m)∧K (renS (bck σ nx) res) u (nx+nx') (bor.map Nm.key++passK σ m)
def Res.wp':Res→(SV→Hp→Nat→List Nm→Prop)→Prop
 | .bad,_=>False
 | .ok s e,K=>Need s (K e.val e.upd e.nx e.rds)
structure UpdOk (hp:Hp) (nx:Nat) (upd:Hp) (nx':Nat) (rds:List Nm):Prop where
 le:nx≤nx'
 keys:∀ p ∈ upd,(nx≤p.1.base∧p.1.base < nx')∨(p.1.key ∈ rds∧∃ k:Nm,k.key = p.1.key∧getH hp k≠.unborn)
def SemW (P:Program) (o:Oper) (fr:Fr) (hp:Hp) (nx:Nat) (K:SV→Hp→Nat→List Nm→Prop):Prop :=
∀(X:Cx) (ids:Ids) (w:World) (fr':Fr) (hp':Hp) (a:Act),X.P = P→HeapC X hp' ids w→X.m≤nx→(∀ d,DenX X hp' ids w (getF fr' d) (a.tmps.getD d undef))→(∀ t ∈ namesOf o.op,getF fr' t = getF fr t)→getH hp' (Nm.t nx) = .unborn→(∀ val upd nx' rds,K val upd nx' rds→(∀ k:Nm,nx≤k.base→k.base < nx'→getH hp' k = .unborn)∧∀ k:Nm,k.key ∈ rds→getH hp' k = getH hp k) →
 ∀(KK:Act→World→Prop) (Q:Exit→Act→World→Prop),(∀ val upd nx' rds x w' ids',K val upd nx' rds→UpdOk hp nx upd nx' rds→HeapC X (upd++hp') ids' w'→ExtX X hp' ids w (upd++hp') ids' w'→DenX X (upd++hp') ids' w' val x→KK (a.put o.dst x) w')→o.wp P a w KK Q
def EqEff (e:Eff) (v:SV) (u:Hp) (n:Nat) (r:List Nm):Prop:=v = e.val∧u = e.upd∧n = e.nx∧r = e.rds
def SemX (dt:Bool) (P:Program) (o:Oper) (fr:Fr) (hp:Hp) (nx:Nat) (K:SV→Hp→Nat→List Nm→Prop):Prop:=match dt with
 | false=>SemW P o fr hp nx K
 | true=>∃ e:Eff,nx≤e.nx∧K e.val e.upd e.nx e.rds∧SemW P o fr hp nx (EqEff e)
theorem SemW.mono {P:Program} {o:Oper} {fr fr2:Fr} {hp:Hp} {nx:Nat} {K K':SV→Hp→Nat→List Nm→Prop} (h:SemW P o fr hp nx K) (hf:getF fr = getF fr2) (hK:∀ v u n r,K v u n r→K' v u n r):SemW P o fr2 hp nx K' :=
 fun X ids w fr' hp' a hP h1 h2 h3 h4 h5 h6 KK Q h7=>h X ids w fr' hp' a hP h1 h2 h3 (fun t ht=>by rw [hf]; exact h4 t ht) h5 (fun v u n r hk=>h6 v u n r (hK v u n r hk)) KK Q (fun v u n r x w' ids' hk=>h7 v u n r x w' ids' (hK v u n r hk))
theorem SemX.mono {dt:Bool} {P:Program} {o:Oper} {fr fr2:Fr} {hp:Hp} {nx:Nat} {K K':SV→Hp→Nat→List Nm→Prop} (h:SemX dt P o fr hp nx K) (hf:getF fr = getF fr2) (hK:∀ v u n r,K v u n r→K' v u n r):SemX dt P o fr2 hp nx K':=by
 cases dt with
 | false=>exact SemW.mono (K:=K) h hf hK
 | true =>
  obtain ⟨e,h1,h2,h3⟩:=h
  exact ⟨e,h1,hK _ _ _ _ h2,h3.mono hf fun _ _ _ _ h=>h⟩
def semOk:Op→Bool
 | .lookup _ _ _ _=>false
 | .mapEntry _ _ _=>false
 | _=>true
def coreW (dt:Bool) (P:Program) (g:Bool) (o:Oper) (fr:Fr) (hp:Hp) (nx:Nat) (K:SV→Hp→Nat→List Nm→Prop):Prop :=
 match callOf g fr o.op with
 | some c=>CallW dt P c.1 c.2 hp nx K
 | none=>(g = true∧semOk o.op = true∧SemX dt P o fr hp nx K)∨(opS P g fr hp nx o.type o.op).wp' K
def quietW (g:Bool) (r:Res) (nx:Nat) (K:SV→Hp→Nat→List Nm→Prop):Prop :=
 (g = false∧K (.gd g .any) [] nx [])∨match r with
 | .bad=>False
 | .ok s e=>match e.upd with
  | []=>Need (g = true→s) (K (.gd g e.val) [] nx e.rds)
  | _=>False
def stepW (dt:Bool) (P:Program) (ops:Array Oper) (o:Oper) (fr:Fr) (hp:Hp) (nx:Nat) (K:SV→Hp→Nat→List Nm→Prop):Prop :=
 match o.guard with
 | none=>coreW dt P true o fr hp nx K
 | some jw=>match guardS ops fr jw.1 jw.2 with
  | some g=>bif quietP P o.op then quietW g (opS P g fr hp nx o.type o.op) nx K else Br g (coreW dt P g o fr hp nx K) (K (.v undef) [] nx [])
  | none=>False
def runOps (P:Program) (ops:Array Oper):List Oper→Fr→Hp→Nat→(Fr→Hp→Nat→Prop)→Prop
 | [],fr,hp,nx,K=>K fr hp nx
 | o::rest,fr,hp,nx,K=>stepW false P ops o fr hp nx fun val upd nx' _=>runOps P ops rest (putF o.dst val fr) (upd++hp) nx' K
theorem frame_put {fr:Fr} {a:Act} {N:Nat} (hf:∀ d,DenX X hp ids w (getF fr d) (a.tmps.getD d undef)) (hN:a.tmps.size = N) {dst:Option Tmp} (hd:∀ d,dst = some d→d < N) {x:Value} {s:SV} (hs:DenX X hp ids w s x) :
 ∀d,DenX X hp ids w (getF (putF dst s fr) d) ((a.put dst x).tmps.getD d undef):=by
 intro d
 cases dst with
 | none=>exact hf d
 | some t =>
  simp only [putF,getF,Act.put]
  have ht:=hd t rfl
  by_cases htd:t = d
  ·subst htd
   rw [show (t == t) = true from by simp,cond_true,Array.getD_eq_getD_getElem?,Array.getElem?_setIfInBounds_self_of_lt (by rw [hN]; exact ht)]
   exact hs
  ·rw [show (t == d) = false from by simpa using htd,cond_false,Array.getD_eq_getD_getElem?,Array.getElem?_setIfInBounds_ne htd,← Array.getD_eq_getD_getElem?]
   exact hf d
theorem put_size {a:Act} {dst:Option Tmp} {x:Value}:(a.put dst x).tmps.size = a.tmps.size:=by cases dst <;> simp [Act.put]
theorem put_defers {a:Act} {dst:Option Tmp} {x:Value}:(a.put dst x).defers = a.defers:=by cases dst <;> rfl
theorem frame_ext {fr:Fr} {a:Act} {hp':Hp} {ids':Ids} {w':World} (hE:ExtX X hp ids w hp' ids' w') (hf:∀ d,DenX X hp ids w (getF fr d) (a.tmps.getD d undef)):∀ d,DenX X hp' ids' w' (getF fr d) (a.tmps.getD d undef):=fun d=>(hf d).mono hE
theorem wpOp_of {P:Program} {ops:Array Oper} {Q:Exit→Act→World→Prop} {i:Nat} {o:Oper} (ho:ops[i]? = some o) {a:Act} {w:World} {K:Act→World→Prop} (hw:Region.wanted o (yielded ops a.tmps) = true) (h:o.wp P a w K Q):wpOp P ops Q i K a w:=by
 unfold wpOp; rw [ho]; simp only [hw,if_true]; exact .inl h
theorem wpOp_skip {P:Program} {ops:Array Oper} {Q:Exit→Act→World→Prop} {i:Nat} {o:Oper} (ho:ops[i]? = some o) {a:Act} {w:World} {K:Act→World→Prop} (hw:Region.wanted o (yielded ops a.tmps) = false) (h:K (a.put o.dst undef) w):wpOp P ops Q i K a w:=by
 unfold wpOp; rw [ho]; simp only [hw,Bool.false_eq_true,if_false]; exact h
theorem wp_of_soundN {P:Program} {o:Oper} {a:Act} {w:World} {K:Act→World→Prop} {Q:Exit→Act→World→Prop} {x:Value} {w':World} (h:(execOp a.eval o).run P w = .ok (.value x) w'∨((execOp a.eval o).run P w = .ok .skip w'∧x = undef)) (hK:K (a.put o.dst x) w'):o.wp P a w K Q:=by
 unfold Oper.wp
 rcases h with h | ⟨h,rfl⟩ <;> rw [h] <;> exact hK
theorem guard_ok {fr:Fr} {a:Act} (hf:∀ d,DenX X hp ids w (getF fr d) (a.tmps.getD d undef)) {ops:Array Oper} {j:Nat} {want g:Bool} (hg:guardS ops fr j want = some g) {o:Oper} (ho:o.guard = some (j,want)):Region.wanted o (yielded ops a.tmps) = g:=by
 unfold Region.wanted
 rw [ho]
 simp only
 unfold guardS at hg
 unfold yielded
 cases hd:(ops[j]?).bind (·.dst) with
 | none=>rw [hd] at hg; cases hg
 | some d =>
  rw [hd] at hg
  have hfd:=hf d
  simp only [Option.bind_some]
  have hget:∀ b,a.tmps.getD d undef = .bool b→a.tmps[d]? = some (.bool b):=fun b hb=>by
   rw [Array.getD_eq_getD_getElem?] at hb
   cases hq:a.tmps[d]? with
   | none=>rw [hq] at hb; cases hb
   | some v=>rw [hq] at hb; simp only [Option.getD_some] at hb; rw [hb]
  simp only at hg
  split at hg
  ·rename_i b hb
   rw [hb] at hfd
   rw [hget b (den_v hfd)]
   cases hg
   cases b <;> cases want <;> rfl
  ·rename_i g0 b hb
   rw [hb] at hfd
   cases hg
   cases hfd with
   | gd h1 h2 =>
    cases g0 with
    | true =>
     rw [hget b (den_v (h1 rfl))]
     cases b <;> cases want <;> rfl
    | false =>
     have hu:=h2 rfl
     rw [Array.getD_eq_getD_getElem?] at hu
     cases hq:a.tmps[d]? with
     | none=>cases want <;> rfl
     | some v=>rw [hq] at hu; simp only [Option.getD_some] at hu; subst hu; cases want <;> rfl
  ·rename_i g0 y _ hb
   rw [hb] at hfd
   cases g0 with
   | true=>cases hg
   | false =>
    cases hg
    cases hfd with
    | gd h1 h2 =>
     have hu:=h2 rfl
     rw [Array.getD_eq_getD_getElem?] at hu
     cases hq:a.tmps[d]? with
     | none=>cases want <;> rfl
     | some v=>rw [hq] at hu; simp only [Option.getD_some] at hu; subst hu; cases want <;> rfl
  ·cases hg
theorem call_op {P:Program} {o:Oper} {a:Act} {w:World} {K:Act→World→Prop} {Q:Exit→Act→World→Prop} {fr:Fr} {g:Bool} {c:FuncId×List SV} (hc:callOf g fr o.op = some c)
  (hf : ∀ x, Den P (getH hp) ids (Im X.w0 X.I0 X.W0 (getH hp) ids w) w (evS g fr x) (a.eval x)) (hbody : ∃ fn body, P.funcs[c.1]? = some fn ∧ fn.body = some body ∧ fn.name ≠ "runtime.NumGoroutine")
  (h:∀ vals:Array Value,vals.size = c.2.length→(∀ i x,c.2[i]? = some x→Den P (getH hp) ids (Im X.w0 X.I0 X.W0 (getH hp) ids w) w x (vals.getD i undef)) →
   Calls P c.1 vals w fun e w'=>∃ r,e = .returned r∧K (a.put o.dst r) w'):o.wp P a w K Q:=by
 obtain ⟨fn,body,hfn,hbd,hnm⟩:=hbody
 have run:∀ vals w,(callFunc c.1 vals).run P w = .ok (.enter c.1 vals) w:=fun vals w=>by
  unfold callFunc
  have hnm' : (fn.name == "runtime.NumGoroutine") = false := by simpa using hnm
  simp only [Sem.run_bind,run_program,Result.andThen_ok,hfn,hnm',Bool.false_eq_true,if_false,hbd,Option.isNone_some]
  rfl
 cases hop:o.op <;> rw [hop] at hc <;> simp only [callOf] at hc <;> try (cases hc; done)
 rename_i cl
 obtain ⟨callee,args,argTypes⟩:=cl
 cases hcal:callee <;> rw [hcal] at hc <;> simp only at hc <;> try (cases hc; done)
 rename_i f
 have fin:∀ (id:FuncId) (svs:List SV) (vals:Array Value),c = (id,svs)→(execOp a.eval o).run P w = .ok (.enter id vals) w→vals.size = svs.length→(∀ i x,svs[i]? = some x→Den P (getH hp) ids (Im X.w0 X.I0 X.W0 (getH hp) ids w) w x (vals.getD i undef))→o.wp P a w K Q:=by
  rintro id svs vals rfl hr hs hd
  unfold Oper.wp
  rw [hr]
  show Calls P id vals w _
  refine (h vals hs hd).mono fun e w' he=>?_
  obtain ⟨r,rfl,hk⟩:=he
  exact hk
 have hargs:∀ i x,(args.toList.map (evS g fr))[i]? = some x→Den P (getH hp) ids (Im X.w0 X.I0 X.W0 (getH hp) ids w) w x ((args.map a.eval).getD i undef):=fun i x hi=>by
  rw [List.getElem?_map] at hi
  cases hai:args.toList[i]? with
  | none=>rw [hai] at hi; cases hi
  | some q =>
   rw [hai] at hi; cases hi
   have:args[i]? = some q:=by simpa using hai
   rw [Array.getD_eq_getD_getElem?,Array.getElem?_map,this]
   exact hf q
 have hff:=hf f
 split at hc
 ·rename_i id fs cs hev
  rw [hev] at hff
  cases hz:(fs.size == 0 && cs.size == 0) with
  | false=>rw [hz] at hc; cases hc
  | true =>
   rw [hz] at hc
   simp only [cond_true,Option.some.injEq] at hc
   simp only [Bool.and_eq_true,beq_iff_eq] at hz
   have h1:fs = #[]:=Array.eq_empty_of_size_eq_zero hz.1
   have h2:cs = #[]:=Array.eq_empty_of_size_eq_zero hz.2
   subst h1; subst h2
   have hv:=den_v hff
   refine fin id _ (args.map a.eval) hc.symm ?_ (by simp) hargs
   unfold execOp
   rw [hop,hcal]
   simp only [resolve,Sem.run_bind,hv,Deferred.ofValue,Sem.run_pure,Result.andThen_ok,invoke]
   have:=run (args.map a.eval) w
   rw [← hc] at this
   simpa using this
 ·rename_i id caps hev
  rw [hev] at hff
  simp only [Option.some.injEq] at hc
  obtain ⟨arr,hv,hl,hx⟩:=den_clo hff
  refine fin id _ (args.map a.eval++arr) hc.symm ?_ (by simp [hl]) fun i x hi=>?_
  ·unfold execOp
   rw [hop,hcal]
   simp only [resolve,Sem.run_bind,hv,Deferred.ofValue,Sem.run_pure,Result.andThen_ok,invoke]
   have:=run (args.map a.eval++arr) w
   rw [← hc] at this
   simpa using this
  ·rw [List.getElem?_append] at hi
   rw [Array.getD_eq_getD_getElem?]
   split at hi
   ·rename_i hlt
    rw [Array.getElem?_append_left (by simpa using hlt),← Array.getD_eq_getD_getElem?]
    exact hargs i x hi
   ·rename_i hlt
    rw [List.length_map,Array.length_toList] at hi hlt
    rw [Array.getElem?_append_right (by simpa using hlt),Array.size_map,← Array.getD_eq_getD_getElem?]
    exact hx _ x hi
 ·cases hc
theorem LeS.local {P:Program} {C C2 C':Nm→Chunk} {σ:Nm→Option Nm} {bor:List Nm} (hC:∀ k,InK bor k→C2 k = C k) {x y:SV} (h:LeS P C C' σ (InK bor) x y):LeS P C2 C' σ (InK bor) x y:=by
 induction h with
 | any=>exact .any
 | cl h=>exact .cl h
 | own hs hl=>exact .own hs hl
 | absent hl hs=>exact .absent hl hs
 | ptr hs hl=>exact .ptr hs hl
 | bp hs hl=>exact .bp hs hl
 | mp hs hl=>exact .mp hs hl
 | it hs hl=>exact .it hs hl
 | agg h _ ih=>exact .agg h ih
 | tup h _ ih=>exact .tup h ih
 | clo h _ ih=>exact .clo h ih
 | ifc _ ih=>exact .ifc ih
 | erN=>exact .erN
 | erP hk hf=>exact .erP ((hC _ hf).trans hk) hf
 | mth _ ih=>exact .mth ih
 | frz hk hf hl _ q hq ih=>exact .frz ((hC _ hf).trans hk) hf hl ih q hq
 | fptr hk hf hl _ ih=>exact .fptr ((hC _ hf).trans hk) hf hl ih
 | nilsl=>exact .nilsl
theorem Sub.local {P:Program} {C C2 C':Nm→Chunk} {σ:Nm→Option Nm} {bor:List Nm} (hC:∀ k,InK bor k→C2 k = C k) (hσ:∀ k j,σ k = some j→C2 j = C j) (h:Sub P C C' σ (InK bor)):Sub P C2 C' σ (InK bor):=by
 refine ⟨fun k'=>?_,h.inj,h.frz⟩
 have hh:=h.ch k'
 cases hc:C' k' with
 | unborn=>trivial
 | dead=>trivial
 | void=>rw [hc] at hh; exact fun k hk=>(hσ _ _ hk).trans (hh k hk)
 | row e cs' =>
  rw [hc] at hh
  rcases hh with hh | ⟨k,cs,h1,h2,h3,h4⟩
  ·exact .inl hh
  ·exact .inr ⟨k,cs,h1,(hσ _ _ h1).trans h2,h3,fun i x y hx hy=>(h4 i x y hx hy).local hC⟩
 | map es' =>
  rw [hc] at hh
  obtain ⟨k,es,h1,h2,h3,h4⟩:=hh
  exact ⟨k,es,h1,(hσ _ _ h1).trans h2,h3,fun i x y hx hy=>⟨(h4 i x y hx hy).1,(h4 i x y hx hy).2.local hC⟩⟩
 | obj s pos =>
  rw [hc] at hh
  obtain ⟨k,h1,h2⟩:=hh
  exact ⟨k,h1,(hσ _ _ h1).trans h2⟩
 | fam g=>trivial
theorem callOf_local {g:Bool} {fr fr':Fr} {o:Op} (hf:∀ t ∈ namesOf o,getF fr' t = getF fr t):callOf g fr' o = callOf g fr o:=by
 cases o <;> simp only [callOf]
 rename_i c
 obtain ⟨callee,args,argTypes⟩:=c
 cases callee <;> simp only
 rename_i f
 have hff:evS g fr' f = evS g fr f:=evS_local fun t ht=>hf t (mem_names (o:=.call ⟨.value f,args,argTypes⟩) (by simp [Op.operands,Call.operands]) ht)
 have hargs:args.toList.map (evS g fr') = args.toList.map (evS g fr):=List.map_congr_left fun x hx=>evS_local fun t ht=>hf t (mem_names (o:=.call ⟨.value f,args,argTypes⟩) (by simp [Op.operands,Call.operands]; exact .inr (by simpa using hx)) ht)
 rw [hff,hargs]
theorem passK_mem {σ:Nm→Option Nm} {m:Nat} (hσm:∀ k:Nm,m≤k.base→σ k = none) (hsig:SigOk σ) {k j:Nm} (hk:σ k = some j):j.key ∈ passK σ m:=by
 have hkm:k.base < m:=by
  by_cases hkm:k.base < m
  ·exact hkm
  ·have:=hσm k (by omega); rw [hk] at this; cases this
 unfold passK
 refine List.mem_flatMap.2 ⟨k.base,List.mem_range.2 hkm,?_⟩
 cases k with
 | t a=>simp only [Nm.base_t]; rw [hk]; simp
 | s F i =>
  rw [hsig F i] at hk
  simp only [Nm.base_s]
  cases hs:σ (.s F 0) with
  | none=>rw [hs] at hk; cases hk
  | some y =>
   rw [hs] at hk; cases hk
   have h0:=hsig F 0
   rw [hs] at h0
   simp only [Option.map_some,Option.some.injEq] at h0
   refine List.mem_append_right _ ?_
   simp only [Option.map_some,Option.mem_toList,Option.some.injEq]
   rw [h0]; rfl
theorem backE_local {σ:Nm→Option Nm} {nx m:Nat} (hσm:∀ k:Nm,m≤k.base→σ k = none) (hsig:SigOk σ) {h1 h2:Hp} (hh:∀ k:Nm,k.key ∈ passK σ m→getH h2 k = getH h1 k):∀ l:Hp,backE σ nx l h2 = backE σ nx l h1
 | []=>rfl
 | p::r=>by
  have ih:=backE_local (nx:=nx) hσm hsig hh r
  simp only [backE,ih]
  congr 1
  unfold entB
  cases hp:p.1 with
  | s F z=>rfl
  | t k =>
   simp only
   cases hb:bck σ nx (.t k) with
   | t c=>rfl
   | s G z =>
    simp only [updE]
    have hs:σ (.t k) = some (.s G z):=by
     unfold bck at hb
     cases hs:σ (.t k) with
     | none=>rw [hs] at hb; simp [Nm.sh] at hb
     | some j=>rw [hs] at hb; rw [← hb]
    have hm:=passK_mem hσm hsig hs
    rw [show (fun j=>getH (backE σ nx r h1++h2) (.s G j)) = (fun j=>getH (backE σ nx r h1++h1) (.s G j)) from funext fun j=>by
     rw [getH_append,getH_append]
     split
     ·rfl
     ·exact hh _ hm]
theorem back_local {σ:Nm→Option Nm} {nx m:Nat} (hσm:∀ k:Nm,m≤k.base→σ k = none) (hsig:SigOk σ) {h1 h2:Hp} (hh:∀ k:Nm,k.key ∈ passK σ m→getH h2 k = getH h1 k) (l:Hp):back σ nx m l h2 = back σ nx m l h1:=backE_local hσm hsig hh _
theorem backE_keys {σ:Nm→Option Nm} {nx:Nat} {H:Hp}:∀ {l:Hp} {p:Nm×Chunk},p ∈ backE σ nx l H→∃ q ∈ l,p.1.key = (bck σ nx (match q.1 with | .t k=>.t k | .s F _=>.s F 0)).key∨(∃ F z,q.1 = .s F z∧p.1 = .s (bck σ nx (.s F 0)).base 0)
 | [],p,h=>by cases h
 | q::r,p,h=>by
  simp only [backE] at h
  rcases List.mem_cons.1 h with rfl | h
  ·refine ⟨q,by simp,?_⟩
   unfold entB
   cases hq:q.1 with
   | t k=>left; simp only [updE_key,Nm.key_key]
   | s F z=>right; exact ⟨F,z,rfl,rfl⟩
  ·obtain ⟨q2,hq2,h2⟩:=backE_keys h
   exact ⟨q2,by simp [hq2],h2⟩
theorem back_keys {P:Program} {C:Nm→Chunk} {hp':Hp} {m nx nx':Nat} {σ:Nm→Option Nm} {bor:Nm→Prop} (hS:Sub P (getH hp) C σ bor) (hsig:SigOk σ) (hσm:∀ k:Nm,m≤k.base→σ k = none) (hσl:∀ k j,σ k = some j→(C k).live = true∨(C k = .dead∧getH hp j = .dead)∨(C k = .void∧getH hp j = .void))
  (hwf:wfH hp' = true) (hmn:m≤nx') (hb:∀ k:Nm,nx'≤k.base→getH hp' k = .unborn) (rds:List Nm):UpdOk hp nx (back σ nx m hp' hp) (nx+nx') (rds++passK σ m):=by
 refine ⟨Nat.le_add_right _ _,fun p hp1=>?_⟩
 have old:∀ k j,σ k = some j→j.key ∈ rds++passK σ m∧getH hp j≠.unborn:=fun k j hk=>⟨List.mem_append_right _ (passK_mem hσm hsig hk),by
  rcases hσl k j hk with h1 | ⟨_,h1⟩ | ⟨_,h1⟩
  ·exact live_born ((hS.ch k).live h1 hk).1
  ·rw [h1]; simp
  ·rw [h1]; simp⟩
 unfold back at hp1
 obtain ⟨q,hq,hp2⟩:=backE_keys hp1
 have hqb:q.1.base < nx':=by
  rcases List.mem_append.1 hq with h1 | h1
  ·by_cases hlt:q.1.base < nx'
   ·exact hlt
   ·exact absurd (hb q.1 (by omega)) (wfH_get hwf ⟨q,h1,rfl⟩)
  ·unfold passE at h1
   obtain ⟨k,hk,hkk⟩:=List.mem_flatMap.1 h1
   have hk:=List.mem_range.1 hk
   rcases List.mem_append.1 hkk with h2 | h2
   ·cases hs:(σ (.t k)).isSome <;> rw [hs] at h2 <;> simp at h2
    subst h2; simp; omega
   ·cases hs:(σ (.s k 0)).isSome <;> rw [hs] at h2 <;> simp at h2
    subst h2; simp; omega
 -- the name, and what it is in the caller
 have fin:∀ k:Nm,k.base < nx'→p.1.key = (bck σ nx k).key→(nx≤p.1.base∧p.1.base < nx+nx')∨(p.1.key ∈ rds++passK σ m∧∃ k:Nm,k.key = p.1.key∧getH hp k≠.unborn):=fun k hk he=>by
  have hbase:p.1.base = (bck σ nx k).base:=by rw [← Nm.key_base,he,Nm.key_base]
  unfold bck at he hbase
  cases hs:σ k with
  | some j =>
   rw [hs] at he
   obtain ⟨g1,g2⟩:=old k j hs
   exact .inr ⟨by rw [he]; exact g1,j,he.symm,g2⟩
  | none =>
   rw [hs] at hbase
   simp only [Nm.sh_base] at hbase
   exact .inl ⟨by omega,by omega⟩
 rcases hp2 with hp2 | ⟨F,z,hq1,hp2⟩
 ·cases hq1:q.1 with
  | t k=>rw [hq1] at hp2 hqb; exact fin (.t k) hqb hp2
  | s F z=>rw [hq1] at hp2 hqb; exact fin (.s F 0) hqb hp2
 ·rw [hq1] at hqb
  refine fin (.s F 0) hqb ?_
  rw [hp2,bck_s hsig nx F 0]; rfl
theorem core_local {dt g:Bool} (hg:g = true) {o:Oper} {fr fr':Fr} {hp':Hp} {a:Act} (h:HeapC X hp' ids w) (hmn:X.m≤nx) (hf':∀ d,DenX X hp' ids w (getF fr' d) (a.tmps.getD d undef)) (hn:∀ t ∈ namesOf o.op,getF fr' t = getF fr t)
  {K:SV→Hp→Nat→List Nm→Prop} (hc:coreW dt X.P g o fr hp nx K) {KK:Act→World→Prop} {Q:Exit→Act→World→Prop} (hfr0:getH hp' (Nm.t nx) = .unborn)
  (hAg:∀ val upd nx' rds,K val upd nx' rds→(∀ k:Nm,nx≤k.base→k.base < nx'→getH hp' k = .unborn)∧∀ k:Nm,k.key ∈ rds→getH hp' k = getH hp k)
  (hK:∀ val upd nx' rds x w' ids',K val upd nx' rds→UpdOk hp nx upd nx' rds→HeapC X (upd++hp') ids' w'→ExtX X hp' ids w (upd++hp') ids' w'→DenX X (upd++hp') ids' w' val x→KK (a.put o.dst x) w'):o.wp X.P a w KK Q:=by
 unfold coreW at hc
 split at hc
 ·rename_i c hcall
  obtain ⟨args',hin,m,Post,σ,bor,hspec,hS,hsig,hσm,hσi,hσl,hal,hargs,⟨res0,hp0,nx0,hp00⟩,_,hpost⟩:=hc
  -- what the call looks at
  have hev:=fun x=>ev_den hf' hg x
  rw [← callOf_local hn] at hcall
  refine call_op (X:=X) (hp:=hp') (ids:=ids) hcall hev hspec.1 fun vals hvs hvd=>?_
  obtain ⟨_,_,u0,ht0,hk0⟩:=hpost _ _ _ hp00
  obtain ⟨_,hag0⟩:=hAg _ _ _ _ hk0
  have hC1:∀ k,InK bor k→getH hp' k = getH hp k:=fun k hk=>hag0 k (List.mem_append_left _ (inK_mem hk))
  have hC3:∀ k:Nm,k.key ∈ passK σ m→getH hp' k = getH hp k:=fun k hk=>hag0 k (List.mem_append_right _ hk)
  have hC2:∀ k j,σ k = some j→getH hp' j = getH hp j:=fun k j hk=>hC3 j (passK_mem (fun k hk=>(hσm k hk).1) hsig hk)
  refine (call_sound h hmn hspec (hS.local hC1 hC2) hsig hσm hσi (fun k j hk=>(hσl k j hk).imp id fun h=>h.imp (fun h=>⟨h.1,(hC2 k j hk).trans h.2⟩) fun h=>⟨h.1,(hC2 k j hk).trans h.2⟩) hal (fun i x y hx hy=>(hargs i x y hx hy).local hC1) hvs hvd).mono fun e w' he=>?_
  obtain ⟨r,res,hp2,nx2,rfl,hp3,⟨hfr2,hmle⟩,himp⟩:=he
  obtain ⟨hwf,hbor,u,htr,hk⟩:=hpost _ _ _ hp3
  obtain ⟨hag,hag2⟩:=hAg _ _ _ _ hk
  obtain ⟨ids2,g1,g2,g3⟩:=himp ⟨hwf,fun k hk=>hag _ (by simp) (by simp; omega),hbor.imp (fun hb k hk=>by rw [hb] at hk; exact inK_nil k hk) id⟩
  rw [back_local (fun k hk=>(hσm k hk).1) hsig hC3] at g1 g2 g3
  have he:=(htr.local hag2).symm
  have hu:=back_keys (nx:=nx) hS hsig (fun k hk=>(hσm k hk).1) hσl hwf hmle hfr2 (bor.map Nm.key)
  refine ⟨r,rfl,hK _ _ _ _ _ _ _ hk ⟨hu.le,fun p hp1=>?_⟩ (g1.congr he) (ExtX.congr g2 he) (DenX.congr g3 he)⟩
  obtain ⟨q,hq1,hq2⟩:=htr.keys p hp1
  have hb:q.1.base = p.1.base:=by rw [← Nm.key_base,hq2,Nm.key_base]
  have:=hu.keys q hq1
  rw [hb,hq2] at this
  exact this
 ·rename_i hcall
  rcases hc with hc | hc
  ·have hsem:∃ K':SV→Hp→Nat→List Nm→Prop,(∀ v u n r,K' v u n r→K v u n r)∧SemW X.P o fr hp nx K':=by
    obtain ⟨_,_,hc⟩:=hc
    cases dt with
    | false=>exact ⟨K,fun _ _ _ _ h=>h,hc⟩
    | true =>
     obtain ⟨e,_,h2,h3⟩:=hc
     exact ⟨_,fun v u n r h=>by obtain ⟨rfl,rfl,rfl,rfl⟩:=h; exact h2,h3⟩
   obtain ⟨K',hKK,hsem⟩:=hsem
   exact hsem X ids w fr' hp' a rfl h hmn hf' hn hfr0 (fun v u n r hk=>hAg v u n r (hKK v u n r hk)) KK Q (fun v u n r x w' ids' hk=>hK v u n r x w' ids' (hKK v u n r hk))
  cases hop:opS X.P g fr hp nx o.type o.op with
  | bad=>rw [hop] at hc; exact hc.elim
  | ok side e =>
   rw [hop] at hc
   obtain ⟨hs,hk⟩:=hc
   obtain ⟨_,hag⟩:=hAg _ _ _ _ hk
   have hop':=opS_local hop hn hag
   obtain ⟨x,w',ids',g1,g2,g3,g4⟩:=op_sound (X:=X) ⟨h,hfr0,hmn⟩ hf' hg hop' hs
   obtain ⟨k1,k2⟩:=opS_keys hop
   exact wp_of_soundN g1 (hK _ _ _ _ _ _ _ hk ⟨k1,fun p hp1=>(k2 p hp1).imp (fun hh=>by rw [hh.1]; simp; omega) id⟩ g2 g3 g4)
end Go.Sx
end

section
namespace Go.Sx
set_option linter.unusedVariables false
open Go.RowKit
variable {X:Cx} {hp:Hp} {nx:Nat} {ids:Ids} {w:World}
def looks (ops:Array Oper) (o:Oper):List Tmp:=(match o.guard with
 | some jw=>((ops[jw.1]?).bind (·.dst)).toList
 | none=>[])++namesOf o.op
theorem guardS_local {ops:Array Oper} {o:Oper} {jw:Nat×Bool} (ho:o.guard = some jw) {fr fr':Fr} (hn:∀ t ∈ looks ops o,getF fr' t = getF fr t):guardS ops fr' jw.1 jw.2 = guardS ops fr jw.1 jw.2:=by
 unfold guardS
 cases hd:(ops[jw.1]?).bind (·.dst) with
 | none=>rfl
 | some d=>simp only; rw [hn d (by unfold looks; rw [ho]; simp [hd])]
theorem quiet_local {g:Bool} {o:Oper} {fr fr':Fr} {hp':Hp} {a:Act} (h:HeapC X hp' ids w) (hmn:X.m≤nx) (hf':∀ d,DenX X hp' ids w (getF fr' d) (a.tmps.getD d undef)) (hn:∀ t ∈ namesOf o.op,getF fr' t = getF fr t) (hfr0:getH hp' (Nm.t nx) = .unborn)
  {K:SV→Hp→Nat→List Nm→Prop} (hc:quietW g (opS X.P g fr hp nx o.type o.op) nx K) (hg:g = true)
  (hAg:∀ val upd nx' rds,K val upd nx' rds→∀ k:Nm,k.key ∈ rds→getH hp' k = getH hp k) {KK:Act→World→Prop} {Q:Exit→Act→World→Prop}
  (hK:∀ val rds x w' ids',K (.gd g val) [] nx rds→HeapC X hp' ids' w'→ExtX X hp' ids w hp' ids' w'→DenX X hp' ids' w' val x→KK (a.put o.dst x) w'):o.wp X.P a w KK Q:=by
 rcases hc with hc | hc
 ·exact absurd (hc.1.symm.trans hg) (by simp)
 cases hop:opS X.P g fr hp nx o.type o.op with
 | bad=>rw [hop] at hc; exact hc.elim
 | ok side e =>
  rw [hop] at hc
  simp only at hc
  split at hc
  ·rename_i hu
   obtain ⟨hs,hk⟩:=hc
   have hop':=opS_local hop hn (hAg _ _ _ _ hk)
   obtain ⟨x,w',ids',g1,g2,g3,g4⟩:=op_sound (X:=X) ⟨h,hfr0,hmn⟩ hf' hg hop' (hs hg)
   rw [hu] at g2 g3 g4
   exact wp_of_soundN g1 (hK _ _ _ _ _ hk g2 g3 g4)
  ·exact hc.elim
theorem quiet_K {g:Bool} {r:Res} {K:SV→Hp→Nat→List Nm→Prop} (hc:quietW g r nx K):∃ val rds,K (.gd g val) [] nx rds:=by
 rcases hc with hc | hc
 ·exact ⟨_,_,hc.2⟩
 cases r with
 | bad=>exact hc.elim
 | ok side e =>
  simp only at hc
  split at hc
  ·exact ⟨_,_,hc.2⟩
  ·exact hc.elim
theorem step_local {dt:Bool} {ops:Array Oper} {i:Nat} {o:Oper} (ho:ops[i]? = some o) {fr fr':Fr} {hp':Hp} {a:Act} (h:HeapC X hp' ids w) (hmn:X.m≤nx) (hf':∀ d,DenX X hp' ids w (getF fr' d) (a.tmps.getD d undef)) (hn:∀ t ∈ looks ops o,getF fr' t = getF fr t)
  {K:SV→Hp→Nat→List Nm→Prop} (hc:stepW dt X.P ops o fr hp nx K) {KK:Act→World→Prop} {Q:Exit→Act→World→Prop} (hfr0:getH hp' (Nm.t nx) = .unborn)
  (hAg:∀ val upd nx' rds,K val upd nx' rds→(∀ k:Nm,nx≤k.base→k.base < nx'→getH hp' k = .unborn)∧∀ k:Nm,k.key ∈ rds→getH hp' k = getH hp k)
  (hK:∀ val upd nx' rds x w' ids',K val upd nx' rds→UpdOk hp nx upd nx' rds→HeapC X (upd++hp') ids' w'→ExtX X hp' ids w (upd++hp') ids' w'→DenX X (upd++hp') ids' w' val x→KK (a.put o.dst x) w'):wpOp X.P ops Q i KK a w:=by
 have hn2:∀ t ∈ namesOf o.op,getF fr' t = getF fr t:=fun t ht=>hn t (List.mem_append_right _ ht)
 have uok:∀ rds,UpdOk hp nx [] nx rds:=fun rds=>⟨Nat.le_refl _,fun p hp=>by cases hp⟩
 unfold stepW at hc
 cases hgd:o.guard with
 | none =>
  rw [hgd] at hc
  exact wpOp_of ho (by unfold Region.wanted; rw [hgd]) (core_local rfl h hmn hf' hn2 hc hfr0 hAg hK)
 | some jw =>
  rw [hgd] at hc
  simp only at hc
  cases hgs:guardS ops fr jw.1 jw.2 with
  | none=>rw [hgs] at hc; exact hc.elim
  | some g =>
   rw [hgs] at hc
   simp only at hc
   have hwant:Region.wanted o (yielded ops a.tmps) = g:=guard_ok hf' (j:=jw.1) (want:=jw.2) ((guardS_local hgd hn).trans hgs) hgd
   cases hq:quietP X.P o.op with
   | true =>
    rw [hq,cond_true] at hc
    by_cases hg:g = true
    ·exact wpOp_of ho (hwant.trans hg) (quiet_local h hmn hf' hn2 hfr0 hc hg (fun _ _ _ _ hk=>(hAg _ _ _ _ hk).2) fun val rds x w' ids' hk h1 h2 h3 =>
      hK _ _ _ _ x w' ids' hk (uok _) h1 h2 (.gd (fun _=>h3) (fun he=>by rw [he] at hg; cases hg)))
    ·have hg':g = false:=by simpa using hg
     obtain ⟨val,rds,hk⟩:=quiet_K hc
     exact wpOp_skip ho (hwant.trans hg') (hK _ _ _ _ _ _ _ hk (uok _) h (Ext.refl _ _ _ _) (.gd (fun he=>absurd he hg) (fun _=>rfl)))
   | false =>
    rw [hq,cond_false] at hc
    by_cases hg:g = true
    ·exact wpOp_of ho (hwant.trans hg) (core_local hg h hmn hf' hn2 (hc.1 hg) hfr0 hAg hK)
    ·have hg':g = false:=by simpa using hg
     exact wpOp_skip ho (hwant.trans hg') (hK _ _ _ _ _ _ _ (hc.2 hg') (uok _) h (Ext.refl _ _ _ _) .v)
def DfOk (X:Cx) (a:Act):Prop:=a.defers = X.df∧∀ p ∈ X.kept,a.tmps.getD p.1 undef = p.2
def kpFree (ks:List (Nat×Value)) (d:Nat):Bool:=ks.all fun p=>!Nat.beq p.1 d
theorem DfOk.put {a:Act} (h:DfOk X a) {dst:Option Tmp} {x:Value} (hd:∀ d,dst = some d→kpFree X.kept d = true):DfOk X (a.put dst x):=by
 refine ⟨by rw [put_defers]; exact h.1,fun p hp=>?_⟩
 cases dst with
 | none=>exact h.2 p hp
 | some t =>
  have h1:=List.all_eq_true.1 (hd t rfl) p hp
  have hne:t≠p.1:=fun e=>by rw [e] at h1; simp at h1
  simp only [Act.put]
  rw [Array.getD_eq_getD_getElem?,Array.getElem?_setIfInBounds_ne hne,← Array.getD_eq_getD_getElem?]
  exact h.2 p hp
def StX (X:Cx) (N:Nat) (fr:Fr) (hp:Hp) (nx:Nat) (a:Act) (w:World):Prop :=
∃ids,HeapF X hp nx ids w∧(∀ d,DenX X hp ids w (getF fr d) (a.tmps.getD d undef))∧a.tmps.size = N∧DfOk X a
theorem fresh_upd (h:∀ k:Nm,nx≤k.base→getH hp k = .unborn) {upd:Hp} {nx':Nat} {rds:List Nm} (hu:UpdOk hp nx upd nx' rds) {k:Nm} (hk:nx'≤k.base):getH (upd++hp) k = .unborn:=by
 rw [getH_append,if_neg]
 ·exact h k (by have:=hu.le; omega)
 ·rintro ⟨p,hp1,hpk⟩
  have hb:p.1.base = k.base:=by rw [← Nm.key_base,hpk,Nm.key_base]
  rcases hu.keys p hp1 with ⟨_,h2⟩ | ⟨_,k2,h2,h3⟩
  ·omega
  ·have hb2:k2.base = p.1.base:=by rw [← Nm.key_base,h2,Nm.key_base]
   exact h3 (h k2 (by have:=hu.le; omega))
theorem step_sound {dt:Bool} {N:Nat} {ops:Array Oper} {i:Nat} {o:Oper} (ho:ops[i]? = some o) (hd:∀ d,o.dst = some d→d < N∧kpFree X.kept d = true) {fr:Fr} {a:Act} (h:StX X N fr hp nx a w)
  {K:SV→Hp→Nat→List Nm→Prop} (hc:stepW dt X.P ops o fr hp nx K) {KK:Act→World→Prop} {Q:Exit→Act→World→Prop}
  (hK:∀ val upd nx' rds a' w',K val upd nx' rds→StX X N (putF o.dst val fr) (upd++hp) nx' a' w'→KK a' w'):wpOp X.P ops Q i KK a w:=by
 obtain ⟨ids,hH,hF,hN,hD⟩:=h
 refine step_local ho hH.toHeapC hH.m_le hF (fun _ _=>rfl) hc (hH.fresh (Nm.t nx) (Nat.le_refl _)) (fun _ _ _ _ _=>⟨fun k hk _=>hH.fresh k hk,fun _ _=>rfl⟩) fun val upd nx' rds x w' ids' hk hu h1 h2 h3=>?_
 exact hK _ _ _ _ _ _ hk ⟨ids',⟨h1,fun k hk=>fresh_upd hH.fresh hu hk,Nat.le_trans hH.m_le hu.le⟩,frame_put (frame_ext h2 hF) hN (fun d h=>(hd d h).1) h3,by rw [put_size,hN],hD.put fun d h=>(hd d h).2⟩
theorem run_sound {N:Nat} {ops:Array Oper} {Q:Exit→Act→World→Prop} {K:Fr→Hp→Nat→Prop} (hQ:∀ fr hp nx a w,K fr hp nx→StX X N fr hp nx a w→Q .normal a w):∀ (l:List Oper) (k:Nat) (fr:Fr) (hp:Hp) (nx:Nat) (a:Act) (w:World),
  (∀ i,l[i]? = ops[k+i]?)→(∀ o ∈ l,∀ d,o.dst = some d→d < N∧kpFree X.kept d = true)→StX X N fr hp nx a w→runOps X.P ops l fr hp nx K→wpOps X.P ops Q (List.range' k l.length) a w
 | [],k,fr,hp,nx,a,w,_,_,hs,hr=>hQ _ _ _ _ _ hr hs
 | o::l,k,fr,hp,nx,a,w,hl,hd,hs,hr=>by
  rw [List.length_cons,List.range'_succ,wpOps_cons]
  refine step_sound (by simpa using (hl 0).symm) (hd o (by simp)) hs hr fun val upd nx' rds a' w' hk hs'=>?_
  exact run_sound hQ l (k+1) _ _ _ a' w' (fun i=>by have:=hl (i+1); simpa [Nat.add_assoc,Nat.add_comm 1 i] using this) (fun o' ho'=>hd o' (by simp [ho'])) hs' hk
def dstOk (N:Nat) (ops:Array Oper):Bool:=ops.toList.all fun o=>match o.dst with
 | some d=>decide (d < N)
 | none=>true
theorem dstOk_spec {N:Nat} {ops:Array Oper} (h:dstOk N ops = true):∀ o ∈ ops.toList,∀ d,o.dst = some d→d < N:=fun o ho d hd=>by
 have:=List.all_eq_true.1 h o ho
 rw [hd] at this
 simpa using this
def dstKp (ks:List (Nat×Value)) (ops:Array Oper):Bool:=ops.toList.all fun o=>match o.dst with
 | some d=>kpFree ks d
 | none=>true
theorem dstKp_nil (ops:Array Oper):dstKp [] ops = true:=List.all_eq_true.2 fun o _=>by cases o.dst <;> rfl
def DstX (X:Cx) (N:Nat) (ops:Array Oper):Prop:=dstOk N ops = true∧dstKp X.kept ops = true
theorem DstX.spec {N:Nat} {ops:Array Oper} (h:DstX X N ops):∀ o ∈ ops.toList,∀ d,o.dst = some d→d < N∧kpFree X.kept d = true:=fun o ho d hd=>by
 refine ⟨dstOk_spec h.1 o ho d hd,?_⟩
 have:=List.all_eq_true.1 h.2 o ho
 rw [hd] at this
 exact this
theorem region_sound {N id:Nat} {ops:Array Oper} {Q:Exit→Act→World→Prop} {K:Fr→Hp→Nat→Prop} (hd:DstX X N ops) (hQ:∀ fr hp nx a w,K fr hp nx→StX X N fr hp nx a w→Q .normal a w) {fr:Fr} {a:Act} (h:StX X N fr hp nx a w)
  (hr:runOps X.P ops ops.toList fr hp nx K):(Code.region id ops false).wp X.P Q a w:=by
 refine wp_region ?_
 rw [List.range_eq_range',show ops.size = ops.toList.length from by simp]
 exact run_sound hQ ops.toList 0 fr hp nx a w (fun i=>by simp) hd.spec h hr
end Go.Sx
end

section
namespace Go.Sx
set_option linter.unusedVariables false
open Go.RowKit
variable {X:Cx} {hp:Hp} {nx:Nat} {ids:Ids} {w:World}
inductive SExit where
 | normal
 | exit (id:Nat)
 | ret
abbrev SPost:=SExit→Fr→Hp→Nat→Prop
structure LeSt (P:Program) (m:Nat) (fr:Fr) (hp:Hp) (fr':Fr) (hp':Hp) (nx':Nat):Prop where
 ex:∃ (σ:Nm→Option Nm) (frz:List Nm),Sub P (getH hp) (getH hp') σ (InK frz)∧(∀ k:Nm,k.base < m→((getH hp' k).live = true∨getH hp' k = .void)→σ k = some k)∧∀ d,LeS P (getH hp) (getH hp') σ (InK frz) (getF fr d) (getF fr' d)
 fresh:∀ k:Nm,nx'≤k.base→getH hp' k = .unborn
 le:m≤nx'
theorem StX.weaken {N:Nat} {fr fr':Fr} {hp':Hp} {nx':Nat} {a:Act} (h:StX X N fr hp nx a w) (hl:LeSt X.P X.m fr hp fr' hp' nx'):StX X N fr' hp' nx' a w:=by
 obtain ⟨ids,hH,hF,hN,hD⟩:=h
 obtain ⟨σ,frz,hS,hm,hd⟩:=hl.ex
 obtain ⟨ids',h1,h2⟩:=Sx.weaken hH.toHeapC hS hl.fresh (fun k hk hl=>hm k hk (.inl hl)) (fun k hk hv=>hm k hk (.inr hv)) hl.le
 exact ⟨ids',h1,fun d=>h2 _ _ _ (hd d) (hF d),hN,hD⟩
def LoopI (P:Program) (m:Nat) (body:SPost→Fr→Hp→Nat→Prop) (Q:SPost) (fr:Fr) (hp:Hp) (nx:Nat):Prop :=
∃(S:Type) (fr0:S→Fr) (hp0:S→Hp) (nx0:S→Nat) (I:S→Prop) (μ:S→Nat),(∃ s,I s∧LeSt P m fr hp (fr0 s) (hp0 s) (nx0 s)) ∧
 ∀s,I s→body (fun e fr' hp' nx'=>match e with
   | .normal=>∃ s',I s'∧μ s' < μ s∧LeSt P m fr' hp' (fr0 s') (hp0 s') (nx0 s')
   | e=>Q e fr' hp' nx') (fr0 s) (hp0 s) (nx0 s)
def LoopR (P:Program) (m:Nat) (body:SPost→Fr→Hp→Nat→Prop) (Q:SPost):Nat→Fr→Hp→Nat→Prop
 | 0,fr,hp,nx=>LoopI P m body Q fr hp nx
 | n+1,fr,hp,nx=>body (fun e fr' hp' nx'=>match e with
   | .normal=>LoopR P m body Q n fr' hp' nx'
   | e=>Q e fr' hp' nx') fr hp nx
def LoopW (P:Program) (m:Nat) (body:SPost→Fr→Hp→Nat→Prop) (Q:SPost) (fr:Fr) (hp:Hp) (nx:Nat):Prop:=∃ n,LoopR P m body Q n fr hp nx
def Wk0 (P:Program) (m:Nat) (K:Fr→Hp→Nat→Prop) (fr:Fr) (hp:Hp) (nx:Nat):Prop:=K fr hp nx∨∃ fr' hp' nx',LeSt P m fr hp fr' hp' nx'∧K fr' hp' nx'
def GhW (P:Program) (m:Nat) (fr:Fr) (hp:Hp) (nx:Nat) (fr':Fr) (hp':Hp) (nx':Nat):Prop :=
∀(X:Cx) (N:Nat) (a:Act) (w:World),X.P = P→X.m = m→StX X N fr hp nx a w→StX X N fr' hp' nx' a w
def Wk (P:Program) (m:Nat) (K:Fr→Hp→Nat→Prop) (fr:Fr) (hp:Hp) (nx:Nat):Prop:=Wk0 P m K fr hp nx∨∃ fr' hp' nx',GhW P m fr hp nx fr' hp' nx'∧Wk0 P m K fr' hp' nx'
theorem Wk.go {N:Nat} {a:Act} {K:Fr→Hp→Nat→Prop} {fr:Fr} (h:Wk X.P X.m K fr hp nx) (hs:StX X N fr hp nx a w):∃ fr' hp' nx',K fr' hp' nx'∧StX X N fr' hp' nx' a w:=by
 have go0:∀ {fr:Fr} {hp:Hp} {nx:Nat},Wk0 X.P X.m K fr hp nx→StX X N fr hp nx a w→∃ fr' hp' nx',K fr' hp' nx'∧StX X N fr' hp' nx' a w:=by
  rintro fr hp nx (hk | ⟨fr',hp',nx',hle,hk⟩) hs
  ·exact ⟨fr,hp,nx,hk,hs⟩
  ·exact ⟨fr',hp',nx',hk,hs.weaken hle⟩
 rcases h with h | ⟨fr',hp',nx',hg,h⟩
 ·exact go0 h hs
 ·exact go0 h (hg X N a w rfl rfl hs)
theorem GhW.refl (P:Program) (m:Nat) (fr:Fr) (hp:Hp) (nx:Nat):GhW P m fr hp nx fr hp nx:=fun _ _ _ _ _ _ h=>h
theorem GhW.trans {P:Program} {m:Nat} {f1 f2 f3:Fr} {h1 h2 h3:Hp} {n1 n2 n3:Nat} (a:GhW P m f1 h1 n1 f2 h2 n2) (b:GhW P m f2 h2 n2 f3 h3 n3):GhW P m f1 h1 n1 f3 h3 n3:=fun X N c w hP hm h=>b X N c w hP hm (a X N c w hP hm h)
def EqSt (fr fr':Fr) (hp hp':Hp):Prop:=(∀ d,getF fr' d = getF fr d∨getF fr' d = .any)∧∀ k,getH hp' k = getH hp k
def EqW (K:Fr→Hp→Nat→Prop) (fr:Fr) (hp:Hp) (nx:Nat):Prop:=∃ fr' hp',EqSt fr fr' hp hp'∧K fr' hp' nx
theorem StX.eqSt {N:Nat} {fr fr':Fr} {hp':Hp} {a:Act} (h:StX X N fr hp nx a w) (e:EqSt fr fr' hp hp'):StX X N fr' hp' nx a w:=by
 obtain ⟨ids,hH,hF,hN,hD⟩:=h
 have he:getH hp = getH hp':=funext fun k=>(e.2 k).symm
 refine ⟨ids,?_,fun d=>?_,hN,hD⟩
 ·refine ⟨?_,fun k hk=>by rw [e.2]; exact hH.fresh k hk,hH.m_le⟩
  have:=hH.toHeapC
  exact ⟨by rw [← he]; exact this.1,by rw [← he]; exact this.2,by rw [← he]; exact this.3⟩
 ·rcases e.1 d with h1 | h1
  ·rw [h1]; have:=hF d; unfold DenX at this ⊢; rw [← he]; exact this
  ·rw [h1]; exact .any
def thenS (K:Fr→Hp→Nat→Prop) (Q:SPost):SPost
 | .normal=>K
 | e=>Q e
def blockS (id:Nat) (Q:SPost):SPost
 | .exit j=>if j = id then Q .normal else Q (.exit j)
 | e=>Q e
def wkS (P:Program) (m:Nat) (Q:SPost):SPost
 | .normal=>Wk P m (Q .normal)
 | e=>Q e
def SwpD (D:(id:Nat)→(ops:Array Oper)→(Fr→Hp→Nat→Prop)→Fr→Hp→Nat→Prop) (P:Program) (m N:Nat):Code→SPost→Fr→Hp→Nat→Prop
 | .skip,Q,fr,hp,nx=>Q .normal fr hp nx
 | .label _,Q,fr,hp,nx=>Q .normal fr hp nx
 | .region id ops false,Q,fr,hp,nx=>runOps P ops ops.toList fr hp nx (EqW (Q .normal))
 | .region id ops true,Q,fr,hp,nx=>D id ops (EqW (Q .normal)) fr hp nx
 | .seq x y,Q,fr,hp,nx=>SwpD D P m N x (thenS (Wk P m (SwpD D P m N y Q)) Q) fr hp nx
 | .cond c x y,Q,fr,hp,nx=>match evS true fr c with
  | .v (.bool b)=>Br b (SwpD D P m N x Q fr hp nx) (SwpD D P m N y Q fr hp nx)
  | _=>False
 | .block id c,Q,fr,hp,nx=>SwpD D P m N c (blockS id (wkS P m Q)) fr hp nx
 | .exit id,Q,fr,hp,nx=>Q (.exit id) fr hp nx
 | .loop c,Q,fr,hp,nx=>LoopW P m (SwpD D P m N c) Q fr hp nx
 | .scope c,Q,fr,hp,nx=>SwpD D P m N c Q fr hp nx
 | .ret,Q,fr,hp,nx=>Q .ret fr hp nx
 | _,_,_,_,_=>False
def codeOk (N:Nat):Code→Bool
 | .region _ ops _=>dstOk N ops
 | .seq x y=>codeOk N x && codeOk N y
 | .cond _ x y=>codeOk N x && codeOk N y
 | .block _ c=>codeOk N c
 | .loop c=>codeOk N c
 | .scope c=>codeOk N c
 | _=>true
def codeKp (ks:List (Nat×Value)):Code→Bool
 | .region _ ops _=>dstKp ks ops
 | .seq x y=>codeKp ks x && codeKp ks y
 | .cond _ x y=>codeKp ks x && codeKp ks y
 | .block _ c=>codeKp ks c
 | .loop c=>codeKp ks c
 | .scope c=>codeKp ks c
 | _=>true
theorem codeKp_nil (c:Code):codeKp [] c = true:=by
 induction c <;> simp_all [codeKp,dstKp_nil]
def CodeX (X:Cx) (N:Nat) (c:Code):Prop:=codeOk N c = true∧codeKp X.kept c = true
theorem CodeX.of {N:Nat} {c:Code} (h:codeOk N c = true) (hd:X.df = []):CodeX X N c:=⟨h,by rw [Cx.kept_nil hd]; exact codeKp_nil c⟩
theorem CodeX.seq {N:Nat} {x y:Code} (h:CodeX X N (.seq x y)):CodeX X N x∧CodeX X N y:=by
 have h1:=h.1; have h2:=h.2
 simp only [codeOk,codeKp,Bool.and_eq_true] at h1 h2
 exact ⟨⟨h1.1,h2.1⟩,h1.2,h2.2⟩
theorem CodeX.cond {N:Nat} {c:Operand} {x y:Code} (h:CodeX X N (.cond c x y)):CodeX X N x∧CodeX X N y:=by
 have h1:=h.1; have h2:=h.2
 simp only [codeOk,codeKp,Bool.and_eq_true] at h1 h2
 exact ⟨⟨h1.1,h2.1⟩,h1.2,h2.2⟩
def liftQ (X:Cx) (N:Nat) (Q:SPost):Exit→Act→World→Prop
 | .normal,a,w=>∃ fr hp nx,Q .normal fr hp nx∧StX X N fr hp nx a w
 | .exit id,a,w=>∃ fr hp nx,Q (.exit id) fr hp nx∧StX X N fr hp nx a w
 | .ret,a,w=>∃ fr hp nx,Q .ret fr hp nx∧StX X N fr hp nx a w
 | _,_,_=>False
def DrawOk (D:(id:Nat)→(ops:Array Oper)→(Fr→Hp→Nat→Prop)→Fr→Hp→Nat→Prop) (P:Program):Prop :=
∀(X:Cx) (N id:Nat) (ops:Array Oper) (K:Fr→Hp→Nat→Prop) (Q:Exit→Act→World→Prop) (fr:Fr) (hp:Hp) (nx:Nat) (a:Act) (w:World),X.P = P→DstX X N ops→(∀ fr hp nx a w,K fr hp nx→StX X N fr hp nx a w→Q .normal a w)→StX X N fr hp nx a w→D id ops K fr hp nx→(Code.region id ops true).wp X.P Q a w
theorem swp_sound {D:(id:Nat)→(ops:Array Oper)→(Fr→Hp→Nat→Prop)→Fr→Hp→Nat→Prop} (hD:DrawOk D X.P) {N:Nat}:∀ (c:Code) (Q:SPost) (fr:Fr) (hp:Hp) (nx:Nat) (a:Act) (w:World),CodeX X N c→StX X N fr hp nx a w→SwpD D X.P X.m N c Q fr hp nx→c.wp X.P (liftQ X N Q) a w:=by
 intro c
 induction c with
 | skip=>exact fun Q fr hp nx a w _ hs h=>wp_skip ⟨fr,hp,nx,h,hs⟩
 | label l=>exact fun Q fr hp nx a w _ hs h=>wp_label ⟨fr,hp,nx,h,hs⟩
 | exit id=>exact fun Q fr hp nx a w _ hs h=>wp_exit ⟨fr,hp,nx,h,hs⟩
 | ret=>exact fun Q fr hp nx a w _ hs h=>wp_ret ⟨fr,hp,nx,h,hs⟩
 | region id ops draw =>
  intro Q fr hp nx a w hd hs h
  cases draw with
  | false=>exact region_sound hd (fun fr hp nx a w ⟨fr',hp',he,hk⟩ hs=>⟨fr',hp',nx,hk,hs.eqSt he⟩) hs h
  | true=>exact hD X N id ops _ _ fr hp nx a w rfl hd (fun fr hp nx a w ⟨fr',hp',he,hk⟩ hs=>⟨fr',hp',nx,hk,hs.eqSt he⟩) hs h
 | seq x y hx hy =>
  intro Q fr hp nx a w hd hs h
  have hd:=CodeX.seq hd
  refine wp_seq (wp_mono (hx _ fr hp nx a w hd.1 hs h) fun e a w he=>?_)
  cases e with
  | normal =>
   obtain ⟨fr,hp,nx,hk,hs⟩:=he
   simp only [thenS] at hk
   obtain ⟨fr',hp',nx',hk,hs'⟩:=Wk.go hk hs
   exact hy Q fr' hp' nx' a w hd.2 hs' hk
  | exit id=>exact he
  | ret=>exact he
  | _=>exact he.elim
 | cond c x y hx hy =>
  intro Q fr hp nx a w hd hs h
  have hd:=CodeX.cond hd
  simp only [SwpD] at h
  obtain ⟨ids,hH,hF,hN,hdf⟩:=hs
  have hev:=ev_den (X:=X) hF (g:=true) rfl c
  split at h
  ·rename_i b hb
   rw [hb] at hev
   refine wp_cond (den_v hev) ?_
   cases b with
   | true=>exact hx Q fr hp nx a w hd.1 ⟨ids,hH,hF,hN,hdf⟩ (h.1 rfl)
   | false=>exact hy Q fr hp nx a w hd.2 ⟨ids,hH,hF,hN,hdf⟩ (h.2 rfl)
  ·exact h.elim
 | block id c ih =>
  intro Q fr hp nx a w hd hs h
  refine wp_block (wp_mono (ih _ fr hp nx a w hd hs h) fun e a w he=>?_)
  have wk:∀ {fr hp nx},Wk X.P X.m (Q .normal) fr hp nx→StX X N fr hp nx a w→∃ fr hp nx,Q .normal fr hp nx∧StX X N fr hp nx a w:=by
   intro fr hp nx hk hs
   exact Wk.go hk hs
  cases e with
  | normal=>obtain ⟨fr,hp,nx,hk,hs⟩:=he; exact wk hk hs
  | exit j =>
   obtain ⟨fr,hp,nx,hk,hs⟩:=he
   simp only [blockS] at hk
   simp only [Exit.inBlock]
   split
   ·rename_i hj; rw [if_pos hj] at hk; exact wk hk hs
   ·rename_i hj; rw [if_neg hj] at hk; exact ⟨fr,hp,nx,hk,hs⟩
  | ret=>exact he
  | _=>exact he.elim
 | scope c ih =>
  intro Q fr hp nx a w hd hs h
  refine wp_scope_straight (wp_mono (ih Q fr hp nx a w hd hs h) fun e a w he=>?_)
  cases e with
  | normal=>exact he
  | exit id=>exact he
  | ret=>exact he
  | _=>exact he.elim
 | loop c ih =>
  intro Q fr hp nx a w hd hs h
  obtain ⟨nr,h⟩:=h
  intro b k cs
  have inner:∀ (nr:Nat) (fr:Fr) (hp:Hp) (nx:Nat) (a:Act) (w:World),StX X N fr hp nx a w→LoopR X.P X.m (SwpD D X.P X.m N c) Q nr fr hp nx→∃ e a' w',liftQ X N Q e a' w'∧Arrives X.P (lone (b.at a (.code c::.inLoop c::k)) cs w) b k cs e a' w':=by
   intro nr
   induction nr with
   | succ nr ihr =>
    intro fr hp nx a w hst h
    obtain ⟨e,a1,w1,hq,harr⟩:=ih _ _ _ _ a w hd hst h b (.inLoop c::k) cs
    cases e with
    | normal =>
     obtain ⟨fr',hp',nx',hk,hst'⟩:=hq
     obtain ⟨e2,a2,w2,hq2,harr2⟩:=ihr fr' hp' nx' a1 w1 hst' hk
     exact ⟨e2,a2,w2,hq2,.of_steps (Steps.trans harr (.one step_inLoop)) harr2⟩
    | exit id =>
     obtain ⟨fr',hp',nx',hq,hst'⟩:=hq
     exact ⟨.exit id,a1,w1,⟨fr',hp',nx',hq,hst'⟩,.pass (x:=.inLoop c) rfl (fun _ _=>.inl (by simp)) harr⟩
    | ret =>
     obtain ⟨fr',hp',nx',hq,hst'⟩:=hq
     exact ⟨.ret,a1,w1,⟨fr',hp',nx',hq,hst'⟩,.pass (x:=.inLoop c) rfl (fun _ _=>.inl (by simp)) harr⟩
    | goto l=>exact hq.elim
    | panic ch=>exact hq.elim
    | outgrown=>exact hq.elim
   | zero =>
   intro fr hp nx a w hs h
   obtain ⟨S,fr0,hp0,nx0,I,μ,⟨s0,hI0,hle⟩,hbody⟩:=h
   have key:∀ (n:Nat) (s:S) (a:Act) (w:World),μ s = n→I s→StX X N (fr0 s) (hp0 s) (nx0 s) a w→∃ e a' w',liftQ X N Q e a' w'∧Arrives X.P (lone (b.at a (.code c::.inLoop c::k)) cs w) b k cs e a' w':=by
    intro n
    induction n using Nat.strongRecOn with
    | _ n ihn =>
     intro s a w hn hI hst
     obtain ⟨e,a1,w1,hq,harr⟩:=ih _ _ _ _ a w hd hst (hbody s hI) b (.inLoop c::k) cs
     cases e with
     | normal =>
      obtain ⟨fr',hp',nx',⟨s',hI',hlt,hle'⟩,hst'⟩:=hq
      obtain ⟨e2,a2,w2,hq2,harr2⟩:=ihn (μ s') (hn ▸ hlt) s' a1 w1 rfl hI' (hst'.weaken hle')
      exact ⟨e2,a2,w2,hq2,.of_steps (Steps.trans harr (.one step_inLoop)) harr2⟩
     | exit id =>
      obtain ⟨fr',hp',nx',hq,hst'⟩:=hq
      exact ⟨.exit id,a1,w1,⟨fr',hp',nx',hq,hst'⟩,.pass (x:=.inLoop c) rfl (fun _ _=>.inl (by simp)) harr⟩
     | ret =>
      obtain ⟨fr',hp',nx',hq,hst'⟩:=hq
      exact ⟨.ret,a1,w1,⟨fr',hp',nx',hq,hst'⟩,.pass (x:=.inLoop c) rfl (fun _ _=>.inl (by simp)) harr⟩
     | goto l=>exact hq.elim
     | panic ch=>exact hq.elim
     | outgrown=>exact hq.elim
   exact key _ s0 a w rfl hI0 (hs.weaken hle)
  obtain ⟨e,a',w',hq,harr⟩:=inner nr fr hp nx a w hs h
  exact ⟨e,a',w',hq,.of_steps (.one step_loop) harr⟩
 | _=>exact fun Q fr hp nx a w _ hs h=>h.elim
end Go.Sx
end

section
namespace Go.Sx
set_option linter.unusedVariables false
open Go.RowKit
variable {X:Cx} {hp:Hp} {nx:Nat} {ids:Ids} {w:World}
theorem sem_bind_pure {α:Type} (x:Sem α):x.bind Sem.pure = x:=by
 induction x <;> simp only [Sem.bind] <;> simp only [*]
theorem sem_assoc {α β γ:Type} (x:Sem α) (f:α→Sem β) (g:β→Sem γ):(x.bind f).bind g = x.bind fun a=>(f a).bind g:=by
 induction x <;> simp only [Sem.bind] <;> simp only [*]
instance : LawfulMonad Sem:=LawfulMonad.mk' Sem (fun x=>sem_bind_pure x) (fun x f=>rfl) (fun x f g=>sem_assoc x f g)
def resW (P:Program) (fr:Fr) (hp:Hp) (nx:Nat):List ResultVar→(List SV→Prop)→Prop
 | [],K=>K []
 | .tmp t::r,K=>resW P fr hp nx r fun xs=>K (getF fr t::xs)
 | .cell a t::r,K=>(loadS P t (getF fr a) hp nx).wp fun e=>resW P fr hp nx r fun xs=>K (e.val::xs)
def oneOf:List SV→SV
 | [x]=>x
 | xs=>.tup xs
def RetW (P:Program) (m:Nat) (Post:SV→Hp→Nat→Prop) (x:SV) (hp:Hp):Prop:=∃ x' hp' nx',Post x' hp' nx'∧LeSt P m [(0,x)] hp [(0,x')] hp' nx'
def endS (P:Program) (rs:List ResultVar) (m:Nat) (Post:SV→Hp→Nat→Prop):SPost
 | .exit _,_,_,_=>False
 | _,fr,hp,nx=>resW P fr hp nx rs fun xs=>RetW P m Post (oneOf xs) hp
def frArgs:Nat→List SV→Fr
 | _,[]=>[]
 | i,x::xs=>(i,x)::frArgs (i+1) xs
theorem getF_args:∀ (args:List SV) (i d:Nat),getF (frArgs i args) d = if d < i then .any else args.getD (d - i) .any
 | [],i,d=>by simp [frArgs,getF]
 | x::xs,i,d=>by
  simp only [frArgs,getF,getF_args xs (i+1) d]
  by_cases hid:i = d
  ·subst hid; simp
  ·rw [show (i == d) = false from by simpa using hid,cond_false]
   by_cases hlt:d < i
   ·rw [if_pos (by omega),if_pos hlt]
   ·rw [if_neg (by omega),if_neg hlt,show d - i = (d - (i+1))+1 from by omega]
    rfl
def resVal (tmps:Array Value):ResultVar→Sem Value
 | .tmp t=>pure (tmps.getD t undef)
 | .cell a t=>do loadVar t (← asAddr (tmps.getD a undef))
theorem load_run (h:HeapX X hp nx ids w) {t:TypeId} {s:SV} {x:Value} (hd:DenX X hp ids w s x) {side:Prop} {e:Eff} (he:loadS X.P t s hp nx = .ok side e) (hs:side) :
 ∃y,(do loadVar t (← asAddr x):Sem Value).run X.P w = .ok y w∧DenX X hp ids w e.val y:=by
 have fin:∀ {b o:Nat} {cs:List SV} {off:Nat} {rds:List Nm},Cells X.P (getH hp) ids (Im X.w0 X.I0 X.W0 (getH hp) ids w) w b o cs→takeS X.P t cs off rds nx = .ok side e→x = .pointer (some ⟨b,o+off,none⟩) →
  ∃y,(do loadVar t (← asAddr x):Sem Value).run X.P w = .ok y w∧DenX X hp ids w e.val y:=by
  intro b o cs off rds hc ht hx
  obtain ⟨h1,h2,y,hr,hy⟩:=run_take hc ht hs
  subst hx
  exact ⟨y,by simp only [asAddr,Sem.run_bind,Sem.run_pure,Result.andThen_ok]; exact hr,hy⟩
 unfold loadS at he
 split at he
 ·rename_i k off
  obtain ⟨t',cs,hk,ht⟩:=rowS_ok he
  obtain ⟨b,o,hi,hx⟩:=den_ptr hd (by rw [hk]; rfl)
  exact fin (row_at h hk hi) ht hx
 ·obtain ⟨b,o,c,_,hx,hc,hy⟩:=den_iptr hd
  exact fin ⟨fun i y hi=>⟨c i,hc i y hi,hy i y hi⟩⟩ he hx
 ·cases he
theorem res_sound {a:Act} {fr:Fr} (hH:HeapF X hp nx ids w) (hF:∀ d,DenX X hp ids w (getF fr d) (a.tmps.getD d undef)):∀ (rs:List ResultVar) (K:List SV→Prop),resW X.P fr hp nx rs K →
 ∃(xs:List SV) (vs:List Value),K xs∧(rs.mapM (resVal a.tmps)).run X.P w = .ok vs w∧xs.length = vs.length∧∀ (i:Nat) (x:SV),xs[i]? = some x→DenX X hp ids w x (vs.getD i undef)
 | [],K,h=>⟨[],[],h,by simp [Sem.run_pure],rfl,fun i x hx=>by simp at hx⟩
 | .tmp t::r,K,h=>by
  obtain ⟨xs,vs,h1,h2,h3,h4⟩:=res_sound hH hF r _ h
  refine ⟨_,a.tmps.getD t undef::vs,h1,?_,by simp [h3],fun i x hx=>?_⟩
  ·rw [List.mapM_cons]
   simp only [resVal,Sem.run_bind,Sem.run_pure,Result.andThen_ok,h2]
  ·cases i with
   | zero=>simp at hx; subst hx; exact hF t
   | succ i=>exact h4 i x (by simpa using hx)
 | .cell b t::r,K,h=>by
  unfold resW at h
  cases hl:loadS X.P t (getF fr b) hp nx with
  | bad=>rw [hl] at h; exact h.elim
  | ok side e =>
   rw [hl] at h
   obtain ⟨hs,hk⟩:=h
   obtain ⟨xs,vs,h1,h2,h3,h4⟩:=res_sound hH hF r _ hk
   obtain ⟨hu,hn⟩:=loadS_keys hl
   obtain ⟨y,gy1,gy2⟩:=load_run hH.toX (hF b) hl hs
   refine ⟨_,y::vs,h1,?_,by simp [h3],fun i x hx=>?_⟩
   ·rw [List.mapM_cons]
    simp only [resVal,Sem.run_bind,Sem.run_pure,h2,gy1,Result.andThen_ok]
   ·cases i with
    | zero=>simp at hx; subst hx; exact gy2
    | succ i=>exact h4 i x (by simpa using hx)
def oneVal:List Value→Value
 | [x]=>x
 | vs=>.tuple vs.toArray
theorem results_run {P:Program} {fn:Func} {a:Act} {vs:List Value} (h:(fn.results.toList.mapM (resVal a.tmps)).run P w = .ok vs w):(results fn a.tmps).run P w = .ok (oneVal vs) w:=by
 have he:results fn a.tmps = (fn.results.mapM (resVal a.tmps) >>= fun vs=>pure (if h:vs.size = 1 then vs[0] else .tuple vs)):=by
  unfold results
  congr 2
 rw [he,Sem.run_bind,Array.mapM_eq_mapM_toList,map_eq_pure_bind,Sem.run_bind,h]
 simp only [Result.andThen_ok,Sem.run_pure]
 match vs with
 | []=>rfl
 | [x]=>rfl
 | x::y::r=>rfl
theorem spec_of {D:(id:Nat)→(ops:Array Oper)→(Fr→Hp→Nat→Prop)→Fr→Hp→Nat→Prop} {P:Program} (hD:DrawOk D P) {f:FuncId} {fn:Func} {c:Code} {args:List SV} {hin:Hp} {m:Nat} {Post:SV→Hp→Nat→Prop}
  (hf : P.funcs[f]? = some fn) (hb : fn.body = some c) (hn : fn.name ≠ "runtime.NumGoroutine") (hl : Nat.ble args.length fn.ntmps = true) (hc : codeOk fn.ntmps c = true)
  (h:SwpD D P m fn.ntmps c (endS P fn.results.toList m Post) (frArgs 0 args) hin m):SpecW P f args hin m Post:=by
 refine ⟨⟨fn,c,hf,hb,hn⟩,fun X vals hP hm hdf0 hH hvs hvd=>?_⟩
 subst hP; subst hm
 have hl':args.length≤fn.ntmps:=by simpa using hl
 refine calls_of_wp hf hb ?_
 have hst:StX X fn.ntmps (frArgs 0 args) hin X.m { tmps:=vals++Array.replicate (fn.ntmps - vals.size) undef,defers:=[] } X.w0:=by
  refine ⟨X.ids0,hH,fun d=>?_,by simp; omega,hdf0.symm,fun p hp=>by rw [Cx.kept_nil hdf0] at hp; cases hp⟩
  rw [getF_args,if_neg (by omega)]
  show DenX X hin X.ids0 X.w0 (args.getD (d - 0) .any) _
  rw [Nat.sub_zero,List.getD_eq_getElem?_getD]
  by_cases hd:d < args.length
  ·have:=hvd d (args[d]) (List.getElem?_eq_getElem hd)
   rw [List.getElem?_eq_getElem hd,Option.getD_some]
   rw [Array.getD_eq_getD_getElem?,Array.getElem?_append_left (by omega),← Array.getD_eq_getD_getElem?]
   exact this
  ·rw [List.getElem?_eq_none (by omega)]; exact .any
 refine wp_mono (swp_sound hD c _ _ _ _ _ _ (.of hc hdf0) hst h) fun e a w he=>?_
 have fin:∀ {fr hp nx},(resW X.P fr hp nx fn.results.toList fun xs=>RetW X.P X.m Post (oneOf xs) hp)→StX X fn.ntmps fr hp nx a w→a.defers = []∧∃ v,(results fn a.tmps).run X.P w = .ok v w∧∃ r res hp' nx' ids',Ending.returned v = .returned r∧Post res hp' nx'∧HeapF X hp' nx' ids' w∧DenX X hp' ids' w res r:=by
  rintro fr hp nx hr ⟨ids,hH,hF,hN,hdf⟩
  obtain ⟨xs,vs,⟨x',hp',nx',hpost,hle⟩,hrun,hlen,hx⟩:=res_sound hH hF _ _ hr
  obtain ⟨σ,frz,hS,hm,hd⟩:=hle.ex
  obtain ⟨ids',h1,h2⟩:=Sx.weaken hH.toHeapC hS hle.fresh (fun k hk hl=>hm k hk (.inl hl)) (fun k hk hv=>hm k hk (.inr hv)) hle.le
  refine ⟨hdf.1.trans hdf0,_,results_run hrun,_,x',hp',nx',ids',rfl,hpost,h1,h2 (oneOf xs) x' _ (hd 0) ?_⟩
  match xs,vs,hlen,hx with
  | [],[],_,hx=>exact .tup _ rfl fun i x hi=>by simp at hi
  | [x],[v],_,hx=>exact hx 0 x rfl
  | x::y::r,v::u::s,hlen,hx=>
   refine .tup _ (by simpa using hlen) fun i z hi=>?_
   have hz:=hx i z hi
   rw [List.getD_eq_getElem?_getD] at hz
   rw [Array.getD_eq_getD_getElem?,List.getElem?_toArray]
   exact hz
 cases e with
 | normal=>obtain ⟨fr,hp,nx,hk,hs⟩:=he; exact fin hk hs
 | ret=>obtain ⟨fr,hp,nx,hk,hs⟩:=he; exact fin hk hs
 | exit id=>obtain ⟨fr,hp,nx,hk,hs⟩:=he; exact hk.elim
 | _=>exact he.elim
end Go.Sx
end

section
namespace Go.Sx
set_option linter.unusedVariables false
open Go.RowKit
variable {X:Cx} {hp:Hp} {nx:Nat} {ids:Ids} {w:World}
structure It where
 val:SV
 upd:Hp
 rds:List Nm
 nx:Nat
 nx':Nat
structure Nms where
 keys:List Nm
 rds:List Nm
 nx:Nat
 nx':Nat
def It.nms (t:It):Nms:=⟨t.upd.map (·.1.key),t.rds,t.nx,t.nx'⟩
def runD (P:Program) (ops:Array Oper):List Oper→Fr→Hp→Nat→List Nms→(List Nms→Fr→Hp→Nat→Prop)→Prop
 | [],fr,hp,nx,acc,K=>K acc fr hp nx
 | o::rest,fr,hp,nx,acc,K=>stepW true P ops o fr hp nx fun val upd nx' rds=>runD P ops rest (putF o.dst val fr) (upd++hp) (nx'+1) (acc++[⟨upd.map (·.1.key),rds,nx,nx'⟩]) K
def apartN (ops:Array Oper) (o1:Oper) (n1:Nms) (o2:Oper) (n2:Nms):Bool :=
 (match o1.dst with
  | some d=>!(looks ops o2).contains d && o2.dst != some d
  | none=>true) &&
 (match o2.dst with
  | some d=>!(looks ops o1).contains d
  | none=>true) &&
 n1.keys.all (fun k=>!n2.keys.contains k && !n2.rds.contains k) &&
 n2.keys.all (fun k=>!n1.rds.contains k && !(Nat.ble n1.nx k.base && Nat.ble k.base n1.nx')) &&
 true
def isEntry:Op→Bool
 | .mapEntry _ _ _=>true
 | _=>false
def Nm.isT:Nm→Bool
 | .t _=>true
 | .s _ _=>false
def sameKey (o1 o2:Oper):Bool:=match o1.op,o2.op,o1.guard,o2.guard with
 | .lookup t (.tmp a) (.tmp b) false,.mapEntry t' (.tmp a') (.tmp b'),none,none=>t == t' && (a == a' && b == b')
 | _,_,_,_=>false
def lateN (ops:Array Oper) (o1:Oper) (n1:Nms) (o2:Oper) (n2:Nms):Bool :=
 sameKey o1 o2 && ((ops.toList.filter fun o=>isEntry o.op).length == 1 && (n1.keys.isEmpty &&
 ((match o1.dst with
  | some d=>!(looks ops o2).contains d && o2.dst != some d
  | none=>true) &&
 ((match o2.dst with
  | some d=>!(looks ops o1).contains d
  | none=>true) &&
 (n2.keys.all (fun k=>!(Nat.ble n1.nx k.base && Nat.ble k.base n1.nx')) && n1.rds.all Nm.isT)))))
def farN (ops:Array Oper) (o1:Oper) (n1:Nms) (o2:Oper) (n2:Nms):Bool:=apartN ops o1 n1 o2 n2 || lateN ops o1 n1 o2 n2
def ownN (n1 n2:Nms):Bool:=n1.keys.all fun k=>!(Nat.ble n2.nx k.base && Nat.ble k.base n2.nx')
def aheadOf (o:Oper) (A:List Nat):Nat:=o.after.toList.foldl (fun n e=>if Region.binds .any e then n ||| (1 <<< e.on) ||| A.getD e.on 0 else n) 0
def aheads (l:List Oper):List Nat:=l.foldl (fun A o=>A++[aheadOf o A]) []
def aheadOk (ops:Array Oper) (A:List Nat):Bool:=(List.range ops.size).all fun j=>match ops[j]? with
 | some o=>o.after.toList.all (fun e=>!Region.binds .any e || Nat.blt e.on j) && (List.range ops.size).all fun i=>!(A.getD j 0).testBit i || o.after.toList.any fun e=>Region.binds .any e && (e.on == i || (A.getD e.on 0).testBit i)
 | none=>true
def pairOk (ops:Array Oper) (ns:List Nms) (A:List Nat) (i j:Nat):Bool :=
 match ops[i]?,ns[i]?,ops[j]?,ns[j]? with
 | some o1,some n1,some o2,some n2=>((A.getD j 0).testBit i || farN ops o1 n1 o2 n2) && ownN n1 n2
 | _,_,_,_=>false
def orderOk (ops:Array Oper) (ns:List Nms) (A:List Nat):Bool:=aheadOk ops A && (List.range ops.size).all fun j=>(List.range j).all fun i=>pairOk ops ns A i j
def DrawW (P:Program) (id:Nat) (ops:Array Oper) (K:Fr→Hp→Nat→Prop) (fr:Fr) (hp:Hp) (nx:Nat):Prop :=
 runD P ops ops.toList fr hp nx [] fun ns fr' hp' nx'=>Need (P.follows .mixedOrders = true∧orderOk ops ns (aheads ops.toList) = true) (K fr' hp' nx')
abbrev Zs:=List (Oper×It)
def frSel (sel:Nat→Bool):Nat→Zs→Fr→Fr
 | _,[],fr=>fr
 | i,z::r,fr=>frSel sel (i+1) r (bif sel i then putF z.1.dst z.2.val fr else fr)
def hpSel (sel:Nat→Bool):Nat→Zs→Hp→Hp
 | _,[],hp=>hp
 | i,z::r,hp=>hpSel sel (i+1) r (bif sel i then z.2.upd++hp else hp)
theorem getF_put {dst:Option Tmp} {x:SV} {fr fr':Fr} {d:Nat} (h:dst≠some d→getF fr d = getF fr' d):getF (putF dst x fr) d = getF (putF dst x fr') d:=by
 cases dst with
 | none=>exact h (by simp)
 | some t =>
  simp only [putF,getF]
  by_cases ht:t = d
  ·subst ht; simp
  ·rw [show (t == d) = false from by simpa using ht,cond_false,cond_false]; exact h (by simpa using ht)
theorem getF_put_ne {dst:Option Tmp} {x:SV} {fr:Fr} {d:Nat} (h:dst≠some d):getF (putF dst x fr) d = getF fr d:=by
 cases dst with
 | none=>rfl
 | some t =>
  simp only [putF,getF]
  rw [show (t == d) = false from by simpa using h,cond_false]
theorem getH_app_ne {u hp:Hp} {k:Nm} (h:k.key ∉ u.map (·.1.key)):getH (u++hp) k = getH hp k:=by
 rw [getH_append,if_neg]
 rintro ⟨p,hp,hk⟩
 exact h (List.mem_map.2 ⟨p,hp,hk⟩)
theorem getH_app {u hp hp':Hp} {k:Nm} (h:k.key ∉ u.map (·.1.key)→getH hp k = getH hp' k):getH (u++hp) k = getH (u++hp') k:=by
 rw [getH_append,getH_append]
 split
 ·rfl
 ·rename_i hn
  exact h fun hm=>hn (by obtain ⟨p,hp,hk⟩:=List.mem_map.1 hm; exact ⟨p,hp,hk⟩)
theorem frSel_agree {s1 s2:Nat→Bool} {d:Nat}:∀ (z:Zs) (k:Nat) (fr1 fr2:Fr),(∀ i q,z[i]? = some q→q.1.dst = some d→s1 (k+i) = s2 (k+i))→getF fr1 d = getF fr2 d→getF (frSel s1 k z fr1) d = getF (frSel s2 k z fr2) d
 | [],k,fr1,fr2,_,h=>h
 | q::r,k,fr1,fr2,hs,h=>by
  refine frSel_agree r (k+1) _ _ (fun i p hi hp=>by have:=hs (i+1) p (by simpa using hi) hp; rwa [show k+(i+1) = k+1+i from by omega] at this) ?_
  by_cases hd:q.1.dst = some d
  ·have:=hs 0 q rfl hd
   rw [Nat.add_zero] at this
   rw [this]
   cases s2 k with
   | true=>exact getF_put fun _=>h
   | false=>exact h
  ·have e:∀ (b:Bool) (fr:Fr),getF (bif b then putF q.1.dst q.2.val fr else fr) d = getF fr d:=fun b fr=>by
    cases b with
    | true=>exact getF_put_ne hd
    | false=>rfl
   rw [e,e]; exact h
theorem hpSel_agree {s1 s2:Nat→Bool} {d:Nm}:∀ (z:Zs) (k:Nat) (h1 h2:Hp),(∀ i q,z[i]? = some q→d.key ∈ q.2.upd.map (·.1.key)→s1 (k+i) = s2 (k+i))→getH h1 d = getH h2 d→getH (hpSel s1 k z h1) d = getH (hpSel s2 k z h2) d
 | [],k,h1,h2,_,h=>h
 | q::r,k,h1,h2,hs,h=>by
  refine hpSel_agree r (k+1) _ _ (fun i p hi hp=>by have:=hs (i+1) p (by simpa using hi) hp; rwa [show k+(i+1) = k+1+i from by omega] at this) ?_
  by_cases hd:d.key ∈ q.2.upd.map (·.1.key)
  ·have:=hs 0 q rfl hd
   rw [Nat.add_zero] at this
   rw [this]
   cases s2 k with
   | true=>exact getH_app fun _=>h
   | false=>exact h
  ·have e:∀ (b:Bool) (hp:Hp),getH (bif b then q.2.upd++hp else hp) d = getH hp d:=fun b hp=>by
    cases b with
    | true=>exact getH_app_ne hd
    | false=>rfl
   rw [e,e]; exact h
theorem frSel_put {s1 s2:Nat→Bool} {d:Nat}:∀ (z:Zs) (k:Nat) (fr1 fr2:Fr) (i:Nat) (q:Oper×It),z[i]? = some q→s1 (k+i) = false→s2 (k+i) = true→(∀ j,j≠k+i→s1 j = s2 j) →
  (q.1.dst = some d→∀ j p,i < j→z[j]? = some p→s1 (k+j) = true→p.1.dst≠some d)→getF fr1 d = getF fr2 d→getF (putF q.1.dst q.2.val (frSel s1 k z fr1)) d = getF (frSel s2 k z fr2) d
 | [],k,fr1,fr2,i,q,hi,_,_,_,_,_=>by simp at hi
 | p::r,k,fr1,fr2,i,q,hi,h1,h2,hs,hd,h=>by
  cases i with
  | zero =>
   simp only [List.getElem?_cons_zero,Option.some.injEq] at hi
   subst hi
   simp only [frSel,Nat.add_zero] at h1 h2 ⊢
   rw [h1,h2,cond_false,cond_true]
   by_cases hpd:p.1.dst = some d
   ·have e:getF (putF p.1.dst p.2.val (frSel s1 (k+1) r fr1)) d = getF (putF p.1.dst p.2.val fr2) d:=by rw [hpd]; simp [putF,getF]
    rw [e]
    symm
    have hno:∀ (r:Zs) (m:Nat) (fr:Fr),(∀ j q,r[j]? = some q→s2 (m+j) = true→q.1.dst≠some d)→getF (frSel s2 m r fr) d = getF fr d:=by
     intro r
     induction r with
     | nil=>exact fun _ _ _=>rfl
     | cons q r ih =>
      intro m fr hj
      simp only [frSel]
      rw [ih (m+1) _ fun j q' hq' hs'=>hj (j+1) q' (by simpa using hq') (by rw [show m+(j+1) = m+1+j from by omega]; exact hs')]
      cases hsm:s2 m with
      | true=>exact getF_put_ne (hj 0 q rfl (by rw [Nat.add_zero]; exact hsm))
      | false=>rfl
    exact hno r (k+1) _ fun j q hj hsj=>hd hpd (j+1) q (by omega) (by simpa using hj) (by rw [hs _ (by omega)]; rw [show k+(j+1) = k+1+j from by omega]; exact hsj)
   ·rw [getF_put_ne hpd]
    exact frSel_agree r (k+1) _ _ (fun j q hj _=>hs _ (by omega)) (h.trans (getF_put_ne hpd).symm)
  | succ i =>
   simp only [frSel]
   rw [show s1 k = s2 k from hs k (by omega)]
   refine frSel_put r (k+1) _ _ i q (by simpa using hi) (by rw [show k+1+i = k+(i+1) from by omega]; exact h1) (by rw [show k+1+i = k+(i+1) from by omega]; exact h2) (fun j hj=>hs j (by omega)) (fun hq j p' hij hj hsj=>hd hq (j+1) p' (by omega) (by simpa using hj) (by rw [show k+(j+1) = k+1+j from by omega]; exact hsj)) ?_
   cases s2 k with
   | true=>exact getF_put fun _=>h
   | false=>exact h
theorem hpSel_put {s1 s2:Nat→Bool} {d:Nm}:∀ (z:Zs) (k:Nat) (h1 h2:Hp) (i:Nat) (q:Oper×It),z[i]? = some q→s1 (k+i) = false→s2 (k+i) = true→(∀ j,j≠k+i→s1 j = s2 j) →
  (d.key ∈ q.2.upd.map (·.1.key)→∀ j p,i < j→z[j]? = some p→s1 (k+j) = true→d.key ∉ p.2.upd.map (·.1.key))→getH h1 d = getH h2 d→getH (q.2.upd++hpSel s1 k z h1) d = getH (hpSel s2 k z h2) d
 | [],k,fr1,fr2,i,q,hi,_,_,_,_,_=>by simp at hi
 | p::r,k,fr1,fr2,i,q,hi,h1,h2,hs,hd,h=>by
  cases i with
  | zero =>
   simp only [List.getElem?_cons_zero,Option.some.injEq] at hi
   subst hi
   simp only [hpSel,Nat.add_zero] at h1 h2 ⊢
   rw [h1,h2,cond_false,cond_true]
   by_cases hpd:d.key ∈ p.2.upd.map (·.1.key)
   ·have e:getH (p.2.upd++hpSel s1 (k+1) r fr1) d = getH (p.2.upd++fr2) d:=getH_app fun hn=>absurd hpd hn
    rw [e]
    symm
    have hno:∀ (r:Zs) (m:Nat) (fr:Hp),(∀ j q,r[j]? = some q→s2 (m+j) = true→d.key ∉ q.2.upd.map (·.1.key))→getH (hpSel s2 m r fr) d = getH fr d:=by
     intro r
     induction r with
     | nil=>exact fun _ _ _=>rfl
     | cons q r ih =>
      intro m fr hj
      simp only [hpSel]
      rw [ih (m+1) _ fun j q' hq' hs'=>hj (j+1) q' (by simpa using hq') (by rw [show m+(j+1) = m+1+j from by omega]; exact hs')]
      cases hsm:s2 m with
      | true=>exact getH_app_ne (hj 0 q rfl (by rw [Nat.add_zero]; exact hsm))
      | false=>rfl
    exact hno r (k+1) _ fun j q hj hsj=>hd hpd (j+1) q (by omega) (by simpa using hj) (by rw [hs _ (by omega)]; rw [show k+(j+1) = k+1+j from by omega]; exact hsj)
   ·rw [getH_app_ne hpd]
    exact hpSel_agree r (k+1) _ _ (fun j q hj _=>hs _ (by omega)) (h.trans (getH_app_ne hpd).symm)
  | succ i =>
   simp only [hpSel]
   rw [show s1 k = s2 k from hs k (by omega)]
   refine hpSel_put r (k+1) _ _ i q (by simpa using hi) (by rw [show k+1+i = k+(i+1) from by omega]; exact h1) (by rw [show k+1+i = k+(i+1) from by omega]; exact h2) (fun j hj=>hs j (by omega)) (fun hq j p' hij hj hsj=>hd hq (j+1) p' (by omega) (by simpa using hj) (by rw [show k+(j+1) = k+1+j from by omega]; exact hsj)) ?_
   cases s2 k with
   | true=>exact getH_app fun _=>h
   | false=>exact h
def EqIt (t:It) (v:SV) (u:Hp) (n:Nat) (r:List Nm):Prop:=v = t.val∧u = t.upd∧n = t.nx'∧r = t.rds
def Chain (P:Program) (ops:Array Oper):Zs→Fr→Hp→Nat→Prop
 | [],_,_,_=>True
 | q::r,fr,hp,nx=>q.2.nx = nx∧nx≤q.2.nx'∧stepW true P ops q.1 fr hp nx (EqIt q.2)∧Chain P ops r (putF q.1.dst q.2.val fr) (q.2.upd++hp) (q.2.nx'+1)
theorem core_det {P:Program} {g:Bool} {o:Oper} {fr:Fr} {K:SV→Hp→Nat→List Nm→Prop} (h:coreW true P g o fr hp nx K):∃ t:It,t.nx = nx∧nx≤t.nx'∧K t.val t.upd t.nx' t.rds∧coreW true P g o fr hp nx (EqIt t):=by
 unfold coreW at h ⊢
 split at h
 ·rename_i c hc
  obtain ⟨args',hin,m,Post,σ,bor,h1,h2,hsg,h3,h4,h5,h6,h7,⟨r0,p0,n0,h8⟩,hdet,h9⟩:=h
  obtain ⟨g1,g2,u,gt,g3⟩:=h9 _ _ _ h8
  refine ⟨⟨_,_,_,nx,_⟩,rfl,Nat.le_add_right _ _,g3,?_⟩
  refine ⟨args',hin,m,Post,σ,bor,h1,h2,hsg,h3,h4,h5,h6,h7,⟨r0,p0,n0,h8⟩,hdet,fun res hp' nx' hp1=>?_⟩
  obtain ⟨rfl,rfl,rfl⟩:=hdet rfl _ _ _ _ _ _ h8 hp1
  exact ⟨g1,g2,u,gt,rfl,rfl,rfl,rfl⟩
 ·rcases h with h | h
  ·obtain ⟨hg,hso,e,h1,h2,h3⟩:=h
   exact ⟨⟨e.val,e.upd,e.rds,nx,e.nx⟩,rfl,h1,h2,.inl ⟨hg,hso,e,h1,⟨rfl,rfl,rfl,rfl⟩,h3⟩⟩
  cases hop:opS P g fr hp nx o.type o.op with
  | bad=>rw [hop] at h; exact h.elim
  | ok side e =>
   rw [hop] at h
   obtain ⟨hs,hk⟩:=h
   exact ⟨⟨e.val,e.upd,e.rds,nx,e.nx⟩,rfl,(opS_keys hop).1,hk,.inr ⟨hs,rfl,rfl,rfl,rfl⟩⟩
theorem step_det {P:Program} {ops:Array Oper} {o:Oper} {fr:Fr} {K:SV→Hp→Nat→List Nm→Prop} (h:stepW true P ops o fr hp nx K):∃ t:It,t.nx = nx∧nx≤t.nx'∧K t.val t.upd t.nx' t.rds∧stepW true P ops o fr hp nx (EqIt t):=by
 unfold stepW at h ⊢
 cases hgd:o.guard with
 | none=>rw [hgd] at h; exact core_det h
 | some jw =>
  rw [hgd] at h
  simp only at h ⊢
  cases hgs:guardS ops fr jw.1 jw.2 with
  | none=>rw [hgs] at h; exact h.elim
  | some g =>
   rw [hgs] at h
   simp only at h ⊢
   cases hq:quietP P o.op with
   | true =>
    rw [hq,cond_true] at h
    simp only [cond_true]
    rcases h with h | h
    ·exact ⟨⟨_,_,_,nx,_⟩,rfl,Nat.le_refl _,h.2,.inl ⟨h.1,rfl,rfl,rfl,rfl⟩⟩
    cases hop:opS P g fr hp nx o.type o.op with
    | bad=>rw [hop] at h; exact h.elim
    | ok side e =>
     rw [hop] at h
     unfold quietW
     simp only at h ⊢
     cases hu:e.upd with
     | nil=>rw [hu] at h; exact ⟨⟨_,_,_,nx,_⟩,rfl,Nat.le_refl _,h.2,.inr ⟨h.1,rfl,rfl,rfl,rfl⟩⟩
     | cons a b=>rw [hu] at h; exact h.elim
   | false =>
    rw [hq,cond_false] at h
    simp only [cond_false]
    cases g with
    | true =>
     obtain ⟨t,h1,h2,h3,h4⟩:=core_det (h.1 rfl)
     exact ⟨t,h1,h2,h3,(fun _=>h4),(fun he=>by cases he)⟩
    | false=>exact ⟨⟨_,_,_,nx,_⟩,rfl,Nat.le_refl _,h.2 rfl,(fun he=>by cases he),fun _=>⟨rfl,rfl,rfl,rfl⟩⟩
def lastNx:Zs→Nat→Nat
 | [],nx=>nx
 | q::r,nx=>lastNx r (q.2.nx'+1)
theorem runD_chain {P:Program} {ops:Array Oper} {K:List Nms→Fr→Hp→Nat→Prop}:∀ (l:List Oper) (fr:Fr) (hp:Hp) (nx:Nat) (acc:List Nms) (k:Nat),runD P ops l fr hp nx acc K →
 ∃z:Zs,z.map (·.1) = l∧Chain P ops z fr hp nx∧K (acc++z.map (·.2.nms)) (frSel (fun _=>true) k z fr) (hpSel (fun _=>true) k z hp) (lastNx z nx)
 | [],fr,hp,nx,acc,k,h=>⟨[],rfl,trivial,by simpa [runD,frSel,hpSel,lastNx] using h⟩
 | o::r,fr,hp,nx,acc,k,h=>by
  obtain ⟨t,h1,h2,h3,h4⟩:=step_det h
  obtain ⟨z,g1,g2,g3⟩:=runD_chain r _ _ _ _ (k+1) h3
  refine ⟨(o,t)::z,by simp [g1],⟨h1,h2,h4,g2⟩,?_⟩
  have e:acc++List.map (fun x=>x.2.nms) ((o,t)::z) = acc++[(⟨t.upd.map (·.1.key),t.rds,nx,t.nx'⟩:Nms)]++z.map (·.2.nms):=by simp [It.nms,h1]
  rw [e]
  exact g3
theorem frSel_none {s:Nat→Bool}:∀ (z:Zs) (k:Nat) (fr:Fr),(∀ j,k≤j→s j = false)→frSel s k z fr = fr
 | [],k,fr,_=>rfl
 | q::r,k,fr,h=>by simp only [frSel,h k (Nat.le_refl _),cond_false]; exact frSel_none r (k+1) fr fun j hj=>h j (by omega)
theorem hpSel_none {s:Nat→Bool}:∀ (z:Zs) (k:Nat) (hp:Hp),(∀ j,k≤j→s j = false)→hpSel s k z hp = hp
 | [],k,hp,_=>rfl
 | q::r,k,hp,h=>by simp only [hpSel,h k (Nat.le_refl _),cond_false]; exact hpSel_none r (k+1) hp fun j hj=>h j (by omega)
theorem chain_le {P:Program} {ops:Array Oper}:∀ (z:Zs) (fr:Fr) (hp:Hp) (nx:Nat),Chain P ops z fr hp nx→nx≤lastNx z nx
 | [],_,_,_,_=>Nat.le_refl _
 | q::r,fr,hp,nx,h=>by
  have:=chain_le r _ _ _ h.2.2.2
  have:=h.2.1
  simp only [lastNx]; omega
theorem chain_at {P:Program} {ops:Array Oper}:∀ (z:Zs) (fr:Fr) (hp:Hp) (nx k i:Nat) (q:Oper×It),Chain P ops z fr hp nx→z[i]? = some q →
  nx≤q.2.nx∧q.2.nx≤q.2.nx'∧q.2.nx' < lastNx z nx∧stepW true P ops q.1 (frSel (fun j=>decide (j < k+i)) k z fr) (hpSel (fun j=>decide (j < k+i)) k z hp) q.2.nx (EqIt q.2)
 | [],_,_,_,_,i,q,_,hi=>by simp at hi
 | p::r,fr,hp,nx,k,i,q,h,hi=>by
  obtain ⟨h1,h2,h3,h4⟩:=h
  cases i with
  | zero =>
   simp only [List.getElem?_cons_zero,Option.some.injEq] at hi
   subst hi
   refine ⟨by omega,by omega,?_,?_⟩
   ·have:=chain_le r _ _ _ h4
    simp only [lastNx]; omega
   ·rw [frSel_none _ _ _ fun j hj=>by simp; omega,hpSel_none _ _ _ fun j hj=>by simp; omega,h1]; exact h3
  | succ i =>
   obtain ⟨g1,g2,g3,g4⟩:=chain_at r _ _ _ (k+1) i q h4 (by simpa using hi)
   refine ⟨by omega,g2,g3,?_⟩
   have hk:decide (k < k+(i+1)) = true:=by simp
   simp only [frSel,hpSel,hk,cond_true]
   rw [show k+(i+1) = k+1+i from by omega]
   exact g4
theorem pair_of {ops:Array Oper} {ns:List Nms} {A:List Nat} (h:orderOk ops ns A = true) {i j:Nat} {o1 o2:Oper} {n1 n2:Nms} (hij:i < j) (h1:ops[i]? = some o1) (h2:ops[j]? = some o2) (h3:ns[i]? = some n1) (h4:ns[j]? = some n2) :
  ((A.getD j 0).testBit i = true∨farN ops o1 n1 o2 n2 = true)∧ownN n1 n2 = true:=by
 simp only [orderOk,Bool.and_eq_true,List.all_eq_true,List.mem_range] at h
 have hlt:j < ops.size:=(Array.getElem?_eq_some_iff.1 h2).1
 have:=h.2 j hlt i hij
 unfold pairOk at this
 simp only [h1,h2,h3,h4,Bool.and_eq_true,Bool.or_eq_true] at this
 exact this
theorem apart_all {ops:Array Oper} {o1 o2:Oper} {n1 n2:Nms} (h:apartN ops o1 n1 o2 n2 = true) :
  (∀ d,o1.dst = some d→d ∉ looks ops o2∧o2.dst≠some d)∧(∀ d,o2.dst = some d→d ∉ looks ops o1)∧(∀ k ∈ n1.keys,k ∉ n2.keys∧k ∉ n2.rds)∧∀ k ∈ n2.keys,k ∉ n1.rds∧¬ (n1.nx≤k.base∧k.base≤n1.nx'):=by
 simp only [apartN,Bool.and_eq_true,List.all_eq_true] at h
 obtain ⟨⟨⟨⟨h1,h2⟩,h3⟩,h4⟩,_⟩:=h
 refine ⟨fun d hd=>?_,fun d hd=>?_,fun k hk=>?_,fun k hk=>?_⟩
 ·rw [hd] at h1; simpa using h1
 ·rw [hd] at h2; simpa using h2
 ·have:=h3 k hk; simpa using this
 ·have:=h4 k hk
  simp only [Bool.and_eq_true,Bool.not_eq_true',Bool.and_eq_false_iff,List.contains_eq_mem,decide_eq_false_iff_not] at this
  refine ⟨this.1,fun hh=>?_⟩
  rcases this.2 with h | h
  ·have:=Nat.ble_eq_true_of_le hh.1; rw [h] at this; cases this
  ·have:=Nat.ble_eq_true_of_le hh.2; rw [h] at this; cases this
theorem late_all {ops:Array Oper} {o1 o2:Oper} {n1 n2:Nms} (h:lateN ops o1 n1 o2 n2 = true) :
  sameKey o1 o2 = true∧(ops.toList.filter fun o=>isEntry o.op).length = 1∧n1.keys = []∧(∀ d,o1.dst = some d→d ∉ looks ops o2∧o2.dst≠some d)∧(∀ d,o2.dst = some d→d ∉ looks ops o1)∧(∀ k ∈ n2.keys,¬ (n1.nx≤k.base∧k.base≤n1.nx'))∧∀ k ∈ n1.rds,Nm.isT k = true:=by
 simp only [lateN,Bool.and_eq_true,List.all_eq_true,beq_iff_eq,List.isEmpty_iff] at h
 obtain ⟨h1,h2,h3,h4,h5,h6,h7⟩:=h
 refine ⟨h1,h2,h3,fun d hd=>?_,fun d hd=>?_,fun k hk hh=>?_,h7⟩
 ·rw [hd] at h4; simpa using h4
 ·rw [hd] at h5; simpa using h5
 ·have:=h6 k hk
  simp only [Bool.not_eq_true',Bool.and_eq_false_iff] at this
  rcases this with h | h
  ·have:=Nat.ble_eq_true_of_le hh.1; rw [h] at this; cases this
  ·have:=Nat.ble_eq_true_of_le hh.2; rw [h] at this; cases this
theorem far_all {ops:Array Oper} {o1 o2:Oper} {n1 n2:Nms} (h:farN ops o1 n1 o2 n2 = true) :
  (∀ d,o1.dst = some d→d ∉ looks ops o2∧o2.dst≠some d)∧(∀ d,o2.dst = some d→d ∉ looks ops o1)∧(∀ k ∈ n1.keys,k ∉ n2.keys∧k ∉ n2.rds)∧∀ k ∈ n2.keys,¬ (n1.nx≤k.base∧k.base≤n1.nx'):=by
 simp only [farN,Bool.or_eq_true] at h
 rcases h with h | h
 ·obtain ⟨a1,a2,a3,a4⟩:=apart_all h
  exact ⟨a1,a2,a3,fun k hk=>(a4 k hk).2⟩
 ·obtain ⟨_,_,a3,a4,a5,a6,_⟩:=late_all h
  exact ⟨a4,a5,fun k hk=>(by rw [a3] at hk; cases hk),a6⟩
theorem far_rds {ops:Array Oper} {o1 o2:Oper} {n1 n2:Nms} (h:farN ops o1 n1 o2 n2 = true) (hl:¬ lateN ops o1 n1 o2 n2 = true):∀ k ∈ n2.keys,k ∉ n1.rds:=by
 simp only [farN,Bool.or_eq_true] at h
 rcases h with h | h
 ·exact fun k hk=>((apart_all h).2.2.2 k hk).1
 ·exact absurd h hl
theorem leafEq_self {a b:Value} (h:leafEq a b = true):leafEq a a = true:=by
 cases a <;> cases b <;> simp only [leafEq,Bool.false_eq_true] at h <;> simp [leafEq]
 exact ba_self _
theorem eqLs_self:∀ {x y:List Value},eqLs x y = true→eqLs x x = true
 | [],_,_=>rfl
 | a::x,[],h=>by cases h
 | a::x,b::y,h=>by
  simp only [eqLs,Bool.and_eq_true] at h ⊢
  exact ⟨leafEq_self h.1,eqLs_self h.2⟩
theorem keyEq_self {a b:Value} (h:keyEq a b = true):keyEq a a = true:=by
 unfold keyEq at h
 split at h
 ·exact eqLs_self h
 ·rename_i hn
  have:=leafEq_self h
  unfold keyEq
  split
  ·simp [leafEq] at this
  ·exact this
theorem findS_app (key kv:Value) (v:SV):∀ (es:List (Value×SV)) (i:Nat),findS key (es++[(kv,v)]) i = match findS key es i with
  | some p=>some p
  | none=>bif keyEq key kv then some (i+es.length,v) else none
 | [],i=>by simp [findS]
 | e::es,i=>by
  simp only [List.cons_append,findS]
  cases keyEq key e.1 with
  | true=>rfl
  | false =>
   simp only [cond_false]
   rw [findS_app key kv v es (i+1)]
   cases findS key es (i+1) with
   | some p=>rfl
   | none=>simp only [List.length_cons]; rw [show i+1+es.length = i+(es.length+1) by omega]
theorem findS_mod (key:Value) (v:SV) (hk:keyEq key key = true):∀ (es:List (Value×SV)) (i:Nat) (p:Nat×SV),findS key es i = some p→findS key (es.modify (p.1 - i) fun _=>(key,v)) i = some (p.1,v)
 | [],i,p,h=>by cases h
 | e::es,i,p,h=>by
  simp only [findS] at h
  cases hc:keyEq key e.1 with
  | true =>
   rw [hc] at h; cases h
   simp [findS,hk]
  | false =>
   rw [hc] at h
   simp only [cond_false] at h
   obtain ⟨h1,_⟩:=findS_some es (i+1) p h
   obtain ⟨d,hd⟩:∃ d,p.1 - i = d+1:=⟨p.1 - i - 1,by omega⟩
   rw [hd,List.modify_succ_cons]
   simp only [findS,hc,cond_false]
   have:=findS_mod key v hk es (i+1) p h
   rwa [show p.1 - (i+1) = d by omega] at this
theorem lookV_upd (z key:Value) (es:List (Value×SV)):lookV z key (updL key (lookV z key es) es) = lookV z key es:=by
 cases hf:findS key es 0 with
 | none =>
  have h1:lookV z key es = .v z:=by unfold lookV; rw [hf]
  rw [h1]
  unfold updL lookV
  rw [hf]
  simp only
  rw [findS_app,hf]
  cases keyEq key key <;> rfl
 | some p =>
  have h1:lookV z key es = p.2:=by unfold lookV; rw [hf]
  rw [h1]
  unfold updL lookV
  rw [hf]
  simp only
  obtain ⟨_,q,_,_,hq⟩:=findS_some es 0 p hf
  have:=findS_mod key p.2 (keyEq_self hq) es 0 p hf
  rw [Nat.sub_zero] at this
  rw [this]
theorem all_upd (f:Value→Bool) (key:Value) (v:SV) (es:List (Value×SV)) (h1:es.all (fun p=>f p.1) = true) (h2:f key = true):(updL key v es).all (fun p=>f p.1) = true:=by
 unfold updL
 split
 ·rename_i p _
  rw [List.all_eq_true] at h1 ⊢
  intro x hx
  obtain ⟨i,hi,rfl⟩:=List.getElem_of_mem hx
  rw [List.getElem_modify]
  split
  ·exact h2
  ·exact h1 _ (List.getElem_mem (by simpa using hi))
 ·rw [List.all_append,h1]; simp [h2]
theorem keyS_upd {P:Program} {t e':TypeId} {key:SV} {kv:Value} {S:List (Value×SV)→Prop} (hk:keyS P t key = some (kv,S,e')) {es:List (Value×SV)} (hs:S es) (v:SV):S (updL kv v es):=by
 unfold keyS at hk
 split at hk
 ·cases hk
  refine ⟨hs.1,all_upd (fun x=>keyAlike kv x) kv v es hs.2 ?_⟩
  have:=hs.1
  cases kv <;> simp [keyOk] at this <;> simp [keyAlike]
 ·split at hk
  ·rename_i vs _ l _ _ _
   cases hk
   exact ⟨hs.1,all_upd (fun x=>aggFits l x) _ v es hs.2 (by simpa [aggFits] using hs.1)⟩
  ·cases hk
 ·cases hk
theorem lookupS_key {P:Program} {t:TypeId} {k:Nm} {key:SV} {s:Prop} {e:Eff} (h:lookupS P t (.mp k) key false hp nx = .ok s e):∃ kv S e' z,keyS P t key = some (kv,S,e')∧zeroVal P e' = some z∧(∀ hp2 nx2,lookupS P t (.mp k) key false hp2 nx2 = mapC (getH hp2 k) fun es=>.ok (S es) ⟨lookV z kv es,[],nx2,[k.key]⟩):=by
 unfold lookupS at h
 split at h
 ·rename_i k' kv d e' hx hmt
  cases hx
  split at h
  ·rename_i z hz
   refine ⟨kv,(fun es=>keyOk d kv = true∧es.all (fun p=>keyAlike kv p.1) = true),e',z,by unfold keyS; rw [hmt],hz,fun hp2 nx2=>?_⟩
   unfold lookupS
   rw [hmt]
   simp only [hz,cond_false]
  ·cases h
 ·rename_i k' cs d' hx hmt
  cases hx
  split at h
  ·rename_i vs kt l e' hvs hma
   split at h
   ·rename_i z hz
    refine ⟨.agg vs.toArray,(fun es=>leavesV l vs = true∧es.all (fun p=>aggFits l p.1) = true),e',z,by unfold keyS; rw [hmt]; simp only [hvs,hma],hz,fun hp2 nx2=>?_⟩
    unfold lookupS
    rw [hmt]
    simp only [hvs,hma,hz,cond_false]
   ·cases h
  ·cases h
 ·cases h
theorem look_late {P:Program} {t:TypeId} {x key:SV} {hp2:Hp} {nx2:Nat} {s s2:Prop} {e e2:Eff} (h1:lookupS P t x key false hp nx = .ok s e) (hs:s) (h2:mapEntryS P t x key hp2 nx2 = .ok s2 e2) (hk:∀ k,x = .mp k→Nm.isT k = true∧getH hp2 k = getH hp k) :
  (∃ s',lookupS P t x key false (e2.upd++hp) nx = .ok s' e∧s')∧∃ k,x = .mp k∧e.rds = [k.key]∧e.upd = []∧e2.rds = [k.key]:=by
 unfold mapEntryS at h2
 split at h2
 ·rename_i k kv S e' hke
  obtain ⟨hT,hkk⟩:=hk k rfl
  obtain ⟨kv',S',e'',z,g1,g2,g3⟩:=lookupS_key h1
  rw [hke] at g1; cases g1
  rw [g2] at h2
  simp only at h2
  obtain ⟨es,hes,hf⟩:=mapC_ok h2
  rw [g3,← hkk,hes] at h1
  simp only [mapC] at h1
  cases h1
  cases hf
  cases k with
  | s F i=>cases hT
  | t a =>
   refine ⟨⟨S (updL kv (lookV z kv es) es),?_,keyS_upd hke hs _⟩,.t a,rfl,rfl,rfl,rfl⟩
   rw [g3]
   simp only [updE,List.cons_append,List.nil_append]
   rw [getH_upd,upd_same]
   simp only [mapC,lookV_upd]
 ·cases h2
theorem own_all {n1 n2:Nms} (h:ownN n1 n2 = true):∀ k ∈ n1.keys,¬ (n2.nx≤k.base∧k.base≤n2.nx'):=fun k hk hh=>by
 simp only [ownN,List.all_eq_true] at h
 have:=h k hk
 simp only [Bool.not_eq_true',Bool.and_eq_false_iff] at this
 rcases this with h | h
 ·have:=Nat.ble_eq_true_of_le hh.1; rw [h] at this; cases this
 ·have:=Nat.ble_eq_true_of_le hh.2; rw [h] at this; cases this
structure InvD (X:Cx) (N:Nat) (A:List Nat) (z:Zs) (fr0:Fr) (hp0:Hp) (top:Nat) (sel:Nat→Bool) (a:Act) (w:World):Prop where
 ex:∃ ids,HeapC X (hpSel sel 0 z hp0) ids w∧∀ d,DenX X (hpSel sel 0 z hp0) ids w (getF (frSel sel 0 z fr0) d) (a.tmps.getD d undef)
 fresh:∀ k:Nm,top≤k.base→getH (hpSel sel 0 z hp0) k = .unborn
 size:a.tmps.size = N
 defers:DfOk X a
 closed:∀ j,sel j = true→∀ i,i < z.length→(A.getD j 0).testBit i = true→sel i = true
theorem hp_unborn {sel:Nat→Bool} {k:Nm} (h0:getH hp k = .unborn) (z:Zs) (m:Nat) (h:∀ j q,z[j]? = some q→sel (m+j) = true→k.key ∉ q.2.upd.map (·.1.key)):getH (hpSel sel m z hp) k = .unborn:=by
 have:getH (hpSel sel m z hp) k = getH (hpSel (fun _=>false) m z hp) k:=hpSel_agree z m _ _ (fun i q hi hk=>by
  cases hs:sel (m+i) with
  | false=>rfl
  | true=>exact absurd hk (h i q hi hs)) rfl
 rw [this,hpSel_none _ _ _ fun _ _=>rfl]; exact h0
theorem inv_step {ops:Array Oper} {N:Nat} {A:List Nat} {z:Zs} {fr0:Fr} {hp0:Hp} {nx0:Nat} {sel sel':Nat→Bool} {a:Act} {Q:Exit→Act→World→Prop} {KK:Act→World→Prop} (hz:z.map (·.1) = ops.toList) (hch:Chain X.P ops z fr0 hp0 nx0) (hok:orderOk ops (z.map (·.2.nms)) A = true)
  (hm:X.m≤nx0) (h0:∀ k:Nm,nx0≤k.base→getH hp0 k = .unborn) (hdst:DstX X N ops) {i:Nat} {q:Oper×It} (hi:z[i]? = some q) (hsi:sel i = false) (hsi':sel' i = true) (hss:∀ j,j≠i→sel j = sel' j)
  (hready:∀ e ∈ q.1.after,Region.binds .any e = true→sel e.on = true) (hI:InvD X N A z fr0 hp0 (lastNx z nx0) sel a w) (hK:∀ a' w',InvD X N A z fr0 hp0 (lastNx z nx0) sel' a' w'→KK a' w'):wpOp X.P ops Q i KK a w:=by
 have hlen:z.length = ops.size:=by have:=congrArg List.length hz; simpa using this
 have hops:∀ (j:Nat) (p:Oper×It),z[j]? = some p→ops[j]? = some p.1:=fun j p hj=>by
  have:(z.map (·.1))[j]? = some p.1:=by simp [hj]
  rw [hz] at this; simpa using this
 have hns:∀ (j:Nat) (p:Oper×It),z[j]? = some p→(z.map (·.2.nms))[j]? = some p.2.nms:=fun j p hj=>by simp [hj]
 have hlt:∀ (j:Nat) (p:Oper×It),z[j]? = some p→j < z.length:=fun j p hj=>(List.getElem?_eq_some_iff.1 hj).1
 have hanc:∀ j,j < z.length→(A.getD i 0).testBit j = true→sel j = true:=fun j hj hb=>by
  have hok2:=hok
  simp only [orderOk,Bool.and_eq_true] at hok2
  have h1:=hok2.1
  simp only [aheadOk,List.all_eq_true,List.mem_range] at h1
  have h2:=h1 i (by have:=hlt i q hi; omega)
  rw [hops i q hi] at h2
  simp only [Bool.and_eq_true,List.all_eq_true,List.mem_range] at h2
  have h3:=h2.2 j (by omega)
  rw [hb] at h3
  simp only [Bool.not_true,Bool.false_or,List.any_eq_true,Bool.and_eq_true,Bool.or_eq_true,beq_iff_eq] at h3
  obtain ⟨e,he,hbi,h4⟩:=h3
  have hse:=hready e (by simpa using he) hbi
  rcases h4 with h4 | h4
  ·rw [← h4]; exact hse
  ·exact hI.closed e.on hse j hj h4
 -- who has come, and touches what this one touches, stands ahead of it in the text
 have hsame:∀ (bad:Oper×It→Prop),(∀ (j:Nat) (p:Oper×It),z[j]? = some p→j < i→farN ops p.1 p.2.nms q.1 q.2.nms = true→¬ bad p)→(∀ (j:Nat) (p:Oper×It),z[j]? = some p→i < j→farN ops q.1 q.2.nms p.1 p.2.nms = true→¬ bad p) →
  ∀(j:Nat) (p:Oper×It),z[j]? = some p→bad p→sel j = decide (j < i):=fun bad hb1 hb2 j p hj hb=>by
  rcases Nat.lt_trichotomy j i with hji | hji | hji
  ·rw [decide_eq_true hji]
   rcases (pair_of hok hji (hops j p hj) (hops i q hi) (hns j p hj) (hns i q hi)).1 with h | h
   ·exact hanc j (hlt j p hj) h
   ·exact absurd hb (hb1 j p hj hji h)
  ·subst hji; rw [hsi]; simp
  ·rw [decide_eq_false (by omega)]
   rcases (pair_of hok hji (hops i q hi) (hops j p hj) (hns i q hi) (hns j p hj)).1 with h | h
   ·cases hs:sel j with
    | false=>rfl
    | true=>have:=hI.closed j hs i (hlt i q hi) h; rw [hsi] at this; cases this
   ·exact absurd hb (hb2 j p hj hji h)
 obtain ⟨c1,c2,c3,hst⟩:=chain_at z fr0 hp0 nx0 0 i q hch hi
 rw [Nat.zero_add] at hst
 obtain ⟨ids,hH,hF⟩:=hI.ex
 have hun:∀ k:Nm,q.2.nx≤k.base→k.base≤q.2.nx'→getH (hpSel sel 0 z hp0) k = .unborn:=fun k hk1 hk2=>by
  refine hp_unborn (h0 k (by omega)) z 0 fun j p hj hs hk=>?_
  rw [Nat.zero_add] at hs
  rcases Nat.lt_trichotomy j i with hji | hji | hji
  ·exact own_all (pair_of hok hji (hops j p hj) (hops i q hi) (hns j p hj) (hns i q hi)).2 k.key hk ⟨(Nm.key_base k).symm ▸ hk1,(Nm.key_base k).symm ▸ hk2⟩
  ·subst hji; rw [hsi] at hs; cases hs
  ·rcases (pair_of hok hji (hops i q hi) (hops j p hj) (hns i q hi) (hns j p hj)).1 with h | h
   ·have:=hI.closed j hs i (hlt i q hi) h; rw [hsi] at this; cases this
   ·exact (far_all h).2.2.2 k.key hk ⟨(Nm.key_base k).symm ▸ hk1,(Nm.key_base k).symm ▸ hk2⟩
 have hsel:∀ (j:Nat) (p:Oper×It),z[j]? = some p→i < j→sel j = true→(A.getD j 0).testBit i = true→False:=fun j p hj hij hs hb=>by
  have:=hI.closed j hs i (hlt i q hi) hb; rw [hsi] at this; cases this
 have hrd:∃ hpB,stepW true X.P ops q.1 (frSel (fun j=>decide (j < i)) 0 z fr0) hpB q.2.nx (EqIt q.2)∧∀ k:Nm,k.key ∈ q.2.rds→getH (hpSel sel 0 z hp0) k = getH hpB k:=by
  by_cases hlate:∃ (j:Nat) (p:Oper×It),z[j]? = some p∧i < j∧sel j = true∧lateN ops q.1 q.2.nms p.1 p.2.nms = true
  ·obtain ⟨j,p,hj,hij,hsj,hl⟩:=hlate
   obtain ⟨l1,l2,l3,l4,l5,l6,l7⟩:=late_all hl
   -- there is but one entry
   have hone:∀ (j':Nat) (p':Oper×It),z[j']? = some p'→isEntry p'.1.op = true→isEntry p.1.op = true→j' = j:=fun j' p' hj' h1 h2=>by
    refine Decidable.byContradiction fun hne=>?_
    have h3:ops.toList[j']? = some p'.1:=by simpa using hops j' p' hj'
    have h4:ops.toList[j]? = some p.1:=by simpa using hops j p hj
    have:∀ (l:List Oper) (a b:Nat) (x y:Oper),a < b→l[a]? = some x→l[b]? = some y→isEntry x.op = true→isEntry y.op = true→2≤(l.filter fun o=>isEntry o.op).length:=by
     intro l
     induction l with
     | nil=>intro a b x y _ hx; simp at hx
     | cons o l ih =>
      intro a b x y hab hx hy ex ey
      cases a with
      | zero =>
       simp at hx; subst hx
       rw [List.filter_cons_of_pos (p:=fun o:Oper=>isEntry o.op) ex,List.length_cons]
       have:y ∈ l.filter fun o=>isEntry o.op:=by
        obtain ⟨b',rfl⟩:∃ b',b = b'+1:=⟨b - 1,by omega⟩
        exact List.mem_filter.2 ⟨List.mem_of_getElem? (by simpa using hy),ey⟩
       have:=List.length_pos_of_mem this
       omega
      | succ a =>
       obtain ⟨b',rfl⟩:∃ b',b = b'+1:=⟨b - 1,by omega⟩
       have:=ih a b' x y (by omega) (by simpa using hx) (by simpa using hy) ex ey
       by_cases eo:isEntry o.op = true
       ·rw [List.filter_cons_of_pos (p:=fun o:Oper=>isEntry o.op) eo,List.length_cons]; omega
       ·rw [List.filter_cons_of_neg (p:=fun o:Oper=>isEntry o.op) eo]; exact this
    rcases Nat.lt_or_gt_of_ne hne with h | h
    ·have:=this _ j' j _ _ h h3 h4 h1 h2; omega
    ·have:=this _ j j' _ _ h h4 h3 h2 h1; omega
   -- the two operations
   unfold sameKey at l1
   split at l1
   ·rename_i t a b t' a' b' hq1 hp1 hqg hpg
    simp only [Bool.and_eq_true,beq_iff_eq] at l1
    obtain ⟨rfl,rfl,rfl⟩:=l1
    have hpe:isEntry p.1.op = true:=by rw [hp1]; rfl
    obtain ⟨_,_,_,hstj⟩:=chain_at z fr0 hp0 nx0 0 j p hch hj
    rw [Nat.zero_add] at hstj
    have hlq:∀ d,d = a∨d = b→d ∈ looks ops q.1:=fun d hd=>by
     unfold looks; rw [hqg,hq1]; rcases hd with rfl | rfl <;> simp [namesOf,Op.operands]
    have hlp:∀ d,d = a∨d = b→d ∈ looks ops p.1:=fun d hd=>by
     unfold looks; rw [hpg,hp1]; rcases hd with rfl | rfl <;> simp [namesOf,Op.operands]
    -- nobody between them is ahead of the second, but behind the first
    have hbet:∀ (m:Nat) (r:Oper×It),z[m]? = some r→i < m→m < j→¬ ((A.getD m 0).testBit i = true∧(A.getD j 0).testBit m = true):=fun m r hm him hmj ⟨h1,h2⟩=>by
     have hsm:=hI.closed j hsj m (hlt m r hm) h2
     exact hsel m r hm him hsm h1
    have hfr:∀ d,d = a∨d = b→getF (frSel (fun n=>decide (n < j)) 0 z fr0) d = getF (frSel (fun n=>decide (n < i)) 0 z fr0) d:=fun d hd=>frSel_agree z 0 _ _ (fun m r hm hmd=>by
     rw [Nat.zero_add]
     rcases Nat.lt_trichotomy m i with h | h | h
     ·rw [decide_eq_true h,decide_eq_true (by omega)]
     ·subst h
      rw [hm] at hi; cases hi
      exact absurd (hlp d hd) (l4 d hmd).1
     ·by_cases hmj:m < j
      ·exfalso
       rcases (pair_of hok h (hops i q hi) (hops m r hm) (hns i q hi) (hns m r hm)).1 with h1 | h1
       ·rcases (pair_of hok hmj (hops m r hm) (hops j p hj) (hns m r hm) (hns j p hj)).1 with h2 | h2
        ·exact hbet m r hm h hmj ⟨h1,h2⟩
        ·exact ((far_all h2).1 d hmd).1 (hlp d hd)
       ·exact (far_all h1).2.1 d hmd (hlq d hd)
      ·rw [decide_eq_false (by omega),decide_eq_false (by omega)]) rfl
    have hev:∀ d,d = a∨d = b→evS true (frSel (fun n=>decide (n < j)) 0 z fr0) (.tmp d) = evS true (frSel (fun n=>decide (n < i)) 0 z fr0) (.tmp d):=fun d hd=>by simp only [evS,hfr d hd]
    unfold stepW at hst hstj
    rw [hqg] at hst
    rw [hpg] at hstj
    simp only at hst hstj
    unfold coreW at hst hstj
    rw [hq1] at hst
    rw [hp1] at hstj
    simp only [callOf,semOk,Bool.false_eq_true,false_and,and_false,false_or,opS] at hst hstj
    rw [hev a (.inl rfl),hev b (.inr rfl)] at hstj
    cases hop:lookupS X.P t (evS true (frSel (fun j=>decide (j < i)) 0 z fr0) (.tmp a)) (evS true (frSel (fun j=>decide (j < i)) 0 z fr0) (.tmp b)) false (hpSel (fun j=>decide (j < i)) 0 z hp0) q.2.nx with
    | bad=>rw [hop] at hst; exact hst.elim
    | ok s e =>
     rw [hop] at hst
     obtain ⟨hs,hv1,hv2,hv3,hv4⟩:=hst
     cases hop2:mapEntryS X.P t (evS true (frSel (fun j=>decide (j < i)) 0 z fr0) (.tmp a)) (evS true (frSel (fun j=>decide (j < i)) 0 z fr0) (.tmp b)) (hpSel (fun n=>decide (n < j)) 0 z hp0) p.2.nx with
     | bad=>rw [hop2] at hstj; exact hstj.elim
     | ok s2 e2 =>
      rw [hop2] at hstj
      obtain ⟨hs2,hw1,hw2,hw3,hw4⟩:=hstj
      have hmap:∀ k:Nm,k.key ∈ q.2.rds→k.key ∈ p.2.rds→getH (hpSel (fun n=>decide (n < j)) 0 z hp0) k = getH (hpSel (fun n=>decide (n < i)) 0 z hp0) k:=fun k hkq hkp=>hpSel_agree z 0 _ _ (fun m r hm hkm=>by
       rw [Nat.zero_add]
       rcases Nat.lt_trichotomy m i with h | h | h
       ·rw [decide_eq_true h,decide_eq_true (by omega)]
       ·subst h
        rw [hm] at hi; cases hi
        have:k.key ∈ q.2.nms.keys:=hkm
        rw [l3] at this; cases this
       ·by_cases hmj:m < j
        ·exfalso
         rcases (pair_of hok h (hops i q hi) (hops m r hm) (hns i q hi) (hns m r hm)).1 with h1 | h1
         ·rcases (pair_of hok hmj (hops m r hm) (hops j p hj) (hns m r hm) (hns j p hj)).1 with h2 | h2
          ·exact hbet m r hm h hmj ⟨h1,h2⟩
          ·exact ((far_all h2).2.2.1 k.key hkm).2 hkp
         ·by_cases hl2:lateN ops q.1 q.2.nms r.1 r.2.nms = true
          ·have hre:isEntry r.1.op = true:=by
            have:=(late_all hl2).1
            unfold sameKey at this
            split at this
            ·rename_i h9 _ _; rw [h9]; rfl
            ·cases this
           have:=hone m r hm hre hpe
           omega
          ·exact far_rds h1 hl2 k.key hkm hkq
        ·rw [decide_eq_false (by omega),decide_eq_false (by omega)]) rfl
      have hx:∃ k,evS true (frSel (fun j=>decide (j < i)) 0 z fr0) (.tmp a) = .mp k∧e.rds = [k.key]∧e2.rds = [k.key]:=by
       have h2:=hop2
       unfold mapEntryS at h2
       split at h2
       ·rename_i k kv S e' hxk hke
        split at h2
        ·obtain ⟨es,hes,hf⟩:=mapC_ok h2
         have h1:=hop
         rw [hxk] at h1
         obtain ⟨_,_,_,_,_,_,g3⟩:=lookupS_key h1
         rw [g3] at h1
         obtain ⟨_,_,hf1⟩:=mapC_ok h1
         exact ⟨k,hxk,by cases hf1; rfl,by cases hf; rfl⟩
        ·cases h2
       ·cases h2
      obtain ⟨k,hxk,hr1,hr2⟩:=hx
      have hkq:k.key ∈ q.2.rds:=by rw [← hv4,hr1]; simp
      have hkp:k.key ∈ p.2.rds:=by rw [← hw4,hr2]; simp
      have hkT:Nm.isT k = true:=by
       have:=l7 k.key hkq
       cases k with
       | t a=>rfl
       | s F i=>cases this
      obtain ⟨⟨s',hl1,hl2⟩,_⟩:=look_late hop hs hop2 (fun k' hk'=>by
       rw [hxk] at hk'; cases hk'
       exact ⟨hkT,hmap k hkq hkp⟩)
      refine ⟨e2.upd++hpSel (fun j=>decide (j < i)) 0 z hp0,?_,fun k' hk'=>?_⟩
      ·unfold stepW
       rw [hqg]
       simp only
       unfold coreW
       rw [hq1]
       simp only [callOf,opS]
       rw [hl1]
       exact .inr ⟨hl2,hv1,hv2,hv3,hv4⟩
      ·rw [hw2]
       have e1:getH (p.2.upd++hpSel (fun j=>decide (j < i)) 0 z hp0) k' = getH (hpSel (fun n=>decide (n < i) || decide (n = j)) 0 z hp0) k' :=
        hpSel_put z 0 _ _ j p hj (by rw [Nat.zero_add]; exact decide_eq_false (by omega)) (by rw [Nat.zero_add]; simp) (fun m hm=>by rw [Nat.zero_add] at hm; simp [hm]) (fun _ m r hm _ hs=>by rw [Nat.zero_add] at hs; simp at hs; omega) rfl
       rw [e1]
       refine hpSel_agree z 0 _ _ (fun m r hm hkm=>?_) rfl
       rw [Nat.zero_add]
       rcases Nat.lt_trichotomy m i with h | h | h
       ·rw [show (decide (m < i) || decide (m = j)) = true by simp [h]]
        rcases (pair_of hok h (hops m r hm) (hops i q hi) (hns m r hm) (hns i q hi)).1 with h1 | h1
        ·exact hanc m (hlt m r hm) h1
        ·exact absurd hk' ((far_all h1).2.2.1 k'.key hkm).2
       ·subst h
        rw [hm] at hi; cases hi
        have:k'.key ∈ q.2.nms.keys:=hkm
        rw [l3] at this; cases this
       ·by_cases hmj:m = j
        ·subst hmj; rw [hsj]; simp
        ·rw [show (decide (m < i) || decide (m = j)) = false by simp [hmj]; omega]
         cases hsm:sel m with
         | false=>rfl
         | true =>
          exfalso
          rcases (pair_of hok h (hops i q hi) (hops m r hm) (hns i q hi) (hns m r hm)).1 with h1 | h1
          ·exact hsel m r hm h hsm h1
          ·by_cases hl2:lateN ops q.1 q.2.nms r.1 r.2.nms = true
           ·have hre:isEntry r.1.op = true:=by
             have:=(late_all hl2).1
             unfold sameKey at this
             split at this
             ·rename_i h9 _ _; rw [h9]; rfl
             ·cases this
            exact hmj (hone m r hm hre hpe)
           ·exact far_rds h1 hl2 k'.key hkm hk'
   ·cases l1
  ·refine ⟨_,hst,fun k hk=>hpSel_agree z 0 _ _ (fun j p hj hkj=>?_) rfl⟩
   rw [Nat.zero_add]
   rcases Nat.lt_trichotomy j i with h | h | h
   ·rw [decide_eq_true h]
    rcases (pair_of hok h (hops j p hj) (hops i q hi) (hns j p hj) (hns i q hi)).1 with h1 | h1
    ·exact hanc j (hlt j p hj) h1
    ·exact absurd hk ((far_all h1).2.2.1 k.key hkj).2
   ·subst h; rw [hsi]; simp
   ·rw [decide_eq_false (by omega)]
    cases hs:sel j with
    | false=>rfl
    | true =>
     exfalso
     rcases (pair_of hok h (hops i q hi) (hops j p hj) (hns i q hi) (hns j p hj)).1 with h1 | h1
     ·exact hsel j p hj h hs h1
     ·by_cases hl2:lateN ops q.1 q.2.nms p.1 p.2.nms = true
      ·exact hlate ⟨j,p,hj,h,hs,hl2⟩
      ·exact far_rds h1 hl2 k.key hkj hk
 obtain ⟨hpB,hst,hrd⟩:=hrd
 refine step_local (hops i q hi) (fr:=frSel (fun j=>decide (j < i)) 0 z fr0) (fr':=frSel sel 0 z fr0) (hp:=hpB) (hp':=hpSel sel 0 z hp0) (nx:=q.2.nx) hH (by omega) hF (fun d hd=>?_) hst (hun _ (Nat.le_refl _) c2) (fun val upd nx' rds hk=>?_) fun val upd nx' rds x w' ids' hk hu h1 h2 h3=>hK _ _ ?_
 ·refine frSel_agree z 0 _ _ (fun j p hj hdj=>?_) rfl
  rw [Nat.zero_add]
  exact hsame (fun p=>p.1.dst = some d) (fun j p _ _ h hb=>((far_all h).1 d hb).1 hd) (fun j p _ _ h hb=>(far_all h).2.1 d hb hd) j p hj hdj
 ·obtain ⟨rfl,rfl,rfl,rfl⟩:=hk
  exact ⟨fun k hk1 hk2=>hun k hk1 (by omega),hrd⟩
 ·obtain ⟨rfl,rfl,rfl,rfl⟩:=hk
  have he:getH (q.2.upd++hpSel sel 0 z hp0) = getH (hpSel sel' 0 z hp0):=funext fun k=>hpSel_put z 0 _ _ i q hi (by rw [Nat.zero_add]; exact hsi) (by rw [Nat.zero_add]; exact hsi') (fun j hj=>hss j (by omega)) (fun hk j p hij hj hs hkj=>by
   rw [Nat.zero_add] at hs
   rcases (pair_of hok hij (hops i q hi) (hops j p hj) (hns i q hi) (hns j p hj)).1 with h | h
   ·have:=hI.closed j hs i (hlt i q hi) h; rw [hsi] at this; cases this
   ·exact ((far_all h).2.2.1 k.key hk).1 hkj) rfl
  refine ⟨⟨ids',h1.congr he,fun d=>?_⟩,fun k hk=>?_,by rw [put_size]; exact hI.size,hI.defers.put fun d hd=>(hdst.spec q.1 (Array.mem_toList_iff.2 (Array.mem_of_getElem? (hops i q hi))) d hd).2,fun j hs k hk hb=>?_⟩
  ·have:=frame_put (frame_ext h2 hF) hI.size (dst:=q.1.dst) (fun d hd=>(hdst.spec q.1 (by
    have:=hops i q hi
    exact Array.mem_toList_iff.2 (Array.mem_of_getElem? this)) d hd).1) h3 d
   rw [frSel_put (s2:=sel') z 0 fr0 fr0 i q hi (by rw [Nat.zero_add]; exact hsi) (by rw [Nat.zero_add]; exact hsi') (fun j hj=>hss j (by omega)) (fun hd j p hij hj hs hdj=>by
    rw [Nat.zero_add] at hs
    rcases (pair_of hok hij (hops i q hi) (hops j p hj) (hns i q hi) (hns j p hj)).1 with h | h
    ·have:=hI.closed j hs i (hlt i q hi) h; rw [hsi] at this; cases this
    ·exact ((far_all h).1 d hd).2 hdj) rfl] at this
   exact DenX.congr this he
  ·rw [← he,getH_app_ne]
   ·exact hI.fresh k hk
   ·intro hm
    obtain ⟨p,hp1,hpk⟩:=List.mem_map.1 hm
    have hb:p.1.base = k.base:=by rw [← Nm.key_base,hpk,Nm.key_base]
    rcases hu.keys p hp1 with ⟨_,h⟩ | ⟨h4,k2,h5,h6⟩
    ·omega
    ·have hb2:k2.base = p.1.base:=by rw [← Nm.key_base,h5,Nm.key_base]
     rw [← hrd k2 (by rw [h5]; exact h4),hI.fresh k2 (by omega)] at h6; exact h6 rfl
  ·by_cases hj:j = i
   ·subst hj
    by_cases hkj:k = j
    ·subst hkj; exact hsi'
    ·rw [← hss k hkj]; exact hanc k hk hb
   ·rw [← hss j hj] at hs
    have:=hI.closed j hs k hk hb
    by_cases hkj:k = i
    ·subst hkj; exact hsi'
    ·rw [← hss k hkj]; exact this
theorem left_lt {n:Nat} {p q:Nat→Bool} (h:∀ j,j < n→q j = true→p j = true) {i:Nat} (hi:i < n) (hp:p i = true) (hq:q i = false):((List.range n).filter q).length < ((List.range n).filter p).length:=by
 have gen:∀ (l:List Nat),(∀ j ∈ l,q j = true→p j = true)→(l.filter q).length≤(l.filter p).length∧(i ∈ l→(l.filter q).length < (l.filter p).length):=by
  intro l
  induction l with
  | nil=>exact fun _=>⟨Nat.le_refl _,fun hm=>by cases hm⟩
  | cons a l ih =>
   intro hl
   obtain ⟨h1,h2⟩:=ih fun j hj=>hl j (by simp [hj])
   have ha:=hl a (by simp)
   refine ⟨?_,fun hm=>?_⟩
   ·cases hqa:q a with
    | true=>rw [List.filter_cons_of_pos hqa,List.filter_cons_of_pos (ha hqa)]; simpa using h1
    | false =>
     rw [List.filter_cons_of_neg (by simp [hqa])]
     cases hpa:p a with
     | true=>rw [List.filter_cons_of_pos hpa]; simp; omega
     | false=>rw [List.filter_cons_of_neg (by simp [hpa])]; exact h1
   ·rcases List.mem_cons.1 hm with rfl | hm
    ·rw [List.filter_cons_of_neg (by simp [hq]),List.filter_cons_of_pos hp]; simp; omega
    ·have:=h2 hm
     cases hqa:q a with
     | true=>rw [List.filter_cons_of_pos hqa,List.filter_cons_of_pos (ha hqa)]; simpa using this
     | false =>
      rw [List.filter_cons_of_neg (by simp [hqa])]
      cases hpa:p a with
      | true=>rw [List.filter_cons_of_pos hpa]; simp; omega
      | false=>rw [List.filter_cons_of_neg (by simp [hpa])]; exact this
 exact (gen (List.range n) fun j hj=>h j (List.mem_range.1 hj)).2 (List.mem_range.2 hi)
theorem draw_sound {ops:Array Oper} {N:Nat} {A:List Nat} {z:Zs} {fr0:Fr} {hp0:Hp} {nx0:Nat} {Q:Exit→Act→World→Prop} (hz:z.map (·.1) = ops.toList) (hch:Chain X.P ops z fr0 hp0 nx0) (hok:orderOk ops (z.map (·.2.nms)) A = true)
  (hm:X.m≤nx0) (h0:∀ k:Nm,nx0≤k.base→getH hp0 k = .unborn) (hdst:DstX X N ops) (hQ:∀ a w,StX X N (frSel (fun _=>true) 0 z fr0) (hpSel (fun _=>true) 0 z hp0) (lastNx z nx0) a w→Q .normal a w):∀ (fuel:Nat) (listed:Array Bool) (a:Act) (w:World),listed.size = ops.size →
  ((List.range ops.size).filter fun j=>!listed.getD j false).length≤fuel→InvD X N A z fr0 hp0 (lastNx z nx0) (fun j=>listed.getD j false) a w→wpAny X.P .any ops Q fuel listed a w:=by
 have hlen:z.length = ops.size:=by have:=congrArg List.length hz; simpa using this
 have hops:∀ (j:Nat) (p:Oper×It),z[j]? = some p→ops[j]? = some p.1:=fun j p hj=>by
  have:(z.map (·.1))[j]? = some p.1:=by simp [hj]
  rw [hz] at this; simpa using this
 have hnil:∀ (listed:Array Bool) (a:Act) (w:World),listed.size = ops.size→InvD X N A z fr0 hp0 (lastNx z nx0) (fun j=>listed.getD j false) a w→Region.ready .any ops listed = []→(∀ j,j < ops.size→listed.getD j false = true)∧Q .normal a w:=by
  intro listed a w hsz hI hr
  have hall:∀ j,j < ops.size→listed.getD j false = true:=by
   intro j
   induction j using Nat.strongRecOn with
   | _ j ih =>
    intro hj
    cases hl:listed.getD j false with
    | true=>rfl
    | false =>
     have hmem:j ∈ Region.ready .any ops listed:=by
      refine mem_ready.2 ⟨getD_in (by omega) hl,ops[j],Array.getElem?_eq_getElem hj,fun e he hb=>?_⟩
      have hok2:=hok
      simp only [orderOk,Bool.and_eq_true] at hok2
      have h1:=hok2.1
      simp only [aheadOk,List.all_eq_true,List.mem_range] at h1
      have h2:=h1 j hj
      rw [Array.getElem?_eq_getElem hj] at h2
      simp only [Bool.and_eq_true,List.all_eq_true] at h2
      have h3:=h2.1 e (by simpa using he)
      rw [hb] at h3
      have hlt:e.on < j:=by simpa [Nat.blt_eq] using h3
      exact ih e.on hlt (by omega)
     rw [hr] at hmem; cases hmem
  refine ⟨hall,hQ a w ?_⟩
  obtain ⟨ids,hH,hF⟩:=hI.ex
  have e1:getH (hpSel (fun j=>listed.getD j false) 0 z hp0) = getH (hpSel (fun _=>true) 0 z hp0):=funext fun k=>hpSel_agree z 0 _ _ (fun i q hi _=>by
   have:=(List.getElem?_eq_some_iff.1 hi).1
   rw [Nat.zero_add]; exact hall i (by omega)) rfl
  have e2:∀ d,getF (frSel (fun j=>listed.getD j false) 0 z fr0) d = getF (frSel (fun _=>true) 0 z fr0) d:=fun d=>frSel_agree z 0 _ _ (fun i q hi _=>by
   have:=(List.getElem?_eq_some_iff.1 hi).1
   rw [Nat.zero_add]; exact hall i (by omega)) rfl
  exact ⟨ids,⟨hH.congr e1,fun k hk=>by rw [← e1]; exact hI.fresh k hk,Nat.le_trans hm (chain_le z fr0 hp0 nx0 hch)⟩,fun d=>by rw [← e2]; exact DenX.congr (hF d) e1,hI.size,hI.defers⟩
 intro fuel
 induction fuel with
 | zero =>
  intro listed a w hsz hc hI
  have hr:Region.ready .any ops listed = []:=by
   rw [List.eq_nil_iff_forall_not_mem]
   intro j hj
   obtain ⟨h1,o,h2,_⟩:=mem_ready.1 hj
   have hlt:=(Array.getElem?_eq_some_iff.1 h2).1
   have:((List.range ops.size).filter fun j=>!listed.getD j false) = []:=List.eq_nil_of_length_eq_zero (by omega)
   have hm2:j ∈ (List.range ops.size).filter fun j=>!listed.getD j false:=List.mem_filter.2 ⟨List.mem_range.2 hlt,by
    have:listed.getD j false = false:=by
     rw [Array.getD_eq_getD_getElem?] at h1 ⊢
     rw [Array.getElem?_eq_getElem (by omega)] at h1 ⊢
     exact h1
    rw [this]; rfl⟩
   rw [this] at hm2; cases hm2
  exact ⟨hr,(hnil listed a w hsz hI hr).2⟩
 | succ fuel ih =>
  intro listed a w hsz hc hI
  refine ⟨fun hr=>(hnil listed a w hsz hI hr).2,fun i hi=>?_⟩
  obtain ⟨h1,o,h2,h3⟩:=mem_ready.1 hi
  have hlt:i < ops.size:=(Array.getElem?_eq_some_iff.1 h2).1
  have hzi:z[i]? = some z[i]:=List.getElem?_eq_getElem (by omega)
  have ho:o = z[i].1:=by have:=hops i _ hzi; rw [h2] at this; exact Option.some.inj this
  have hsi:listed.getD i false = false:=by
   rw [Array.getD_eq_getD_getElem?] at h1 ⊢
   rw [Array.getElem?_eq_getElem (by omega)] at h1 ⊢
   exact h1
  have hset:(listed.setIfInBounds i true).getD i false = true:=by
   rw [Array.getD_eq_getD_getElem?,Array.getElem?_setIfInBounds_self_of_lt (by omega)]; rfl
  have hne:∀ j,j≠i→listed.getD j false = (listed.setIfInBounds i true).getD j false:=fun j hj=>(getD_set_ne false (fun e=>hj e.symm)).symm
  refine inv_step (sel:=fun j=>listed.getD j false) (sel':=fun j=>(listed.setIfInBounds i true).getD j false) hz hch hok hm h0 hdst hzi hsi hset hne (fun e he hb=>h3 e (ho ▸ he) hb) hI fun a' w' hI'=>?_
  refine ih _ a' w' (by simp [hsz]) ?_ hI'
  have:=left_lt (n:=ops.size) (p:=fun j=>!listed.getD j false) (q:=fun j=>!(listed.setIfInBounds i true).getD j false) (fun j _ hq=>by
   by_cases hj:j = i
   ·subst hj; simp only [hset] at hq; cases hq
   ·simp only [hne j hj]; exact hq) hlt (by simp [hsi]) (by simp only [hset]; rfl)
  omega
theorem draw_ok (P:Program):DrawOk (DrawW P) P:=by
 intro X N id ops K Q fr hp nx a w hP hd hQ hst h
 subst hP
 obtain ⟨z,h1,h2,h3⟩:=runD_chain ops.toList fr hp nx [] 0 h
 obtain ⟨⟨h4,h5⟩,h6⟩:=h3
 rw [List.nil_append] at h5
 obtain ⟨ids,hH,hF,hN,hD⟩:=hst
 refine wp_region_any h4 ?_
 obtain ⟨g1,g2⟩:=hH.toHeapC.drew
 have e0:∀ j,(Array.replicate ops.size false).getD j false = false:=fun j=>getD_replicate_false _ _
 refine draw_sound (X:=X) (N:=N) h1 h2 h5 hH.m_le hH.fresh hd (fun a w hs=>hQ _ _ _ a w h6 hs) ops.size _ a _ (by simp) (by
  refine Nat.le_trans (List.length_filter_le _ _) (by simp)) ?_
 have e1:hpSel (fun j=>(Array.replicate ops.size false).getD j false) 0 z hp = hp:=hpSel_none z 0 hp fun j _=>e0 j
 have e2:frSel (fun j=>(Array.replicate ops.size false).getD j false) 0 z fr = fr:=frSel_none z 0 fr fun j _=>e0 j
 refine ⟨⟨ids,?_,fun d=>?_⟩,fun k hk=>?_,hN,hD,fun j hj=>by rw [e0] at hj; cases hj⟩
 ·rw [e1]; exact g1
 ·rw [e1,e2]; exact (hF d).mono g2
 ·rw [e1]; exact hH.fresh k (Nat.le_trans (chain_le z fr hp nx h2) hk)
abbrev Swp (P:Program) (m N:Nat):Code→SPost→Fr→Hp→Nat→Prop:=SwpD (DrawW P) P m N
end Go.Sx
end
