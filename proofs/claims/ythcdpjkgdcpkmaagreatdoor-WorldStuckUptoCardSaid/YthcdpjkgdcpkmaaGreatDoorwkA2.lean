/-
 Lemmas, put together: TxN, TxO, TxP, TxQ, TxR, TxS, TxT, TxU, TxV, TxW, TxX, TxY.
 No conditions.
-/
import Derived.Test.YthcdpjkgdcpkmaaGreatDoorwkA1
import Derived.Orders
import Derived.Scope
import Derived.StillTail
set_option linter.unusedSimpArgs false
set_option linter.unusedVariables false
set_option linter.unusedSectionVars false
section
namespace Go.Sx
section
open Go.RowKit
variable {X:Cx} {hp:Hp} {nx:Nat} {ids:dE} {w:World}
def wI (op:BinOp) (k:IntKind) (a b:Int) (nx:Nat):eY :=
 match op with
 | .shl=>.ok (0<=b) ⟨.v (.int k (k.wrap (a*2^(min b.toNat k.bits)))),[],nx,[]⟩
 | .shr=>.ok (0<=b) ⟨.v (.int k (a.fdiv (2^(min b.toNat k.bits)))),[],nx,[]⟩
 | _=>.bad
def un:BinOp->Bool
 | .shl=>true
 | .shr=>true
 | _=>false
def n4:BinOp->Bool
 | .eql=>true
 | .neq=>true
 | _=>false
def BR:BinOp->Bool
 | .neq=>true
 | _=>false
def pj (P:Program) (op:BinOp) (t:TypeId) (r:Bool) (rds:List Nm) (nx:Nat):eY :=
 match P.underlying t with
 | some (.pointer _)=>bif n4 op then .ok True ⟨.v (.bool (bif BR op then !r else r)),[],nx,rds⟩ else .bad
 | _=>.bad
def qh (P:Program) (op:BinOp) (t:TypeId) (x y:SV) (hp:Hp) (nx:Nat):eY :=
 match x,y with
 | .v (.int k a),.v (.int k' b)=>bif un op then wI op k a b nx else bif k==k' then Af op k a b nx else .bad
 | .v (.string a),.v (.string b)=>Cq op a b nx
 | .v (.bool a),.v (.bool b)=>match P.underlying t with
  | some .bool=>bif n4 op then eE (.v (.bool (bif BR op then a != b else a==b))) nx else .bad
  | _=>.bad
 | .agg xs,.agg ys=>match tZ P t with
  | some true=>bif n4 op && !P.eqGuardType P.depth t then wH P (BR op) t xs ys nx else .bad
  | _=>.bad
 | .ptr _ _,.v (.pointer none)=>pj P op t false [] nx
 | .iptr _ _,.v (.pointer none)=>pj P op t false [] nx
 | .v (.pointer none),.v (.pointer none)=>pj P op t true [] nx
 | _,_=>.bad
theorem Ec (h:dS X hp nx ids w) {op:BinOp} {k k':IntKind} {a b:Int} {side:Prop} {e:dx} (he:wI op k a b nx = .ok side e) (hs:side) (t:TypeId):fQ X hp ids w ((binOp op t (.int k a) (.int k' b)).run X.P w) e:=by
 have hsh:0<=b->(Op.shift .shl k a k' b).run X.P w = .ok (.int k (k.wrap (a*2^(min b.toNat k.bits)))) w/\(Op.shift .shr k a k' b).run X.P w = .ok (.int k (a.fdiv (2^(min b.toNat k.bits)))) w:=λhb=>by
  have:¬ b<0:=by omega
  simp [Op.shift,this]
 cases op<;>simp only [wI] at he<;>cases he<;>refine cW h ?_ .v
 ·simpa [binOp] using (hsh hs).1
 ·simpa [binOp] using (hsh hs).2
theorem ld {op:BinOp} {t:TypeId} {x y:Operand} {a b:Value} (h:∀ xs ys,¬ (a = .agg xs/\b = .agg ys)) (h2:¬ (a = .nilIface/\b = .nilIface)) (P:Program) (w:World):(eqGuard op t x y a b).run P w = .ok () w:=by
 unfold eqGuard;cases op<;>cases a<;>cases b<;>first|rfl|exact absurd ⟨rfl,rfl⟩ (h _ _)|exact absurd ⟨rfl,rfl⟩ h2
theorem wJ {P:Program} {op:BinOp} {t e:TypeId} (hu:P.underlying t=some (.pointer e)) (a:Option Addr) (ho:n4 op=true) (w:World) :
  (binOp op t (.pointer a) (.pointer none)).run P w = .ok (.bool (bif BR op then !a.isNone else a.isNone)) w:=by
 have h0:∀ D,(Op.equalIn (D+1) t (.pointer a) (.pointer none)).run P w = .ok a.isNone w:=λD=>by
  cases a<;>simp [Op.equalIn,dF hu]
 have h:(Op.equal t (.pointer a) (.pointer none)).run P w = .ok a.isNone w:=h0 9999;cases op<;>simp [n4] at ho
 ·simp only [binOp,c_,h];cases a<;>rfl
 ·simp only [binOp,c_,h];cases a<;>rfl
theorem Ed (h:dS X hp nx ids w) {op:BinOp} {t:TypeId} {s q:SV} {x y:Value} (hd:cV X hp ids w s x) (hq:cV X hp ids w q y) {side:Prop} {e:dx} (he:qh X.P op t s q hp nx = .ok side e) (hs:side) (ox oy:Operand) :
  fQ X hp ids w ((do eqGuard op t ox oy x y;binOp op t x y:Sem Value).run X.P w) e:=by
 unfold qh at he;split at he
 ·rename_i k a k' b;obtain rfl:=d9 hd;obtain rfl:=d9 hq;rw [c_,ld (by simp) (by simp),dv];cases hsh:un op with
  | true=>rw [hsh] at he;exact Ec h he hs t
  | false =>
   rw [hsh] at he;cases hk:(k==k') with
   | false=>simp only [hk,cj] at he;cases he
   | true =>
    simp only [hk,cj,cd] at he;have:k=k':=by simpa using hk
    subst this;exact GZ h he hs t
 ·rename_i a b;obtain rfl:=d9 hd;obtain rfl:=d9 hq;rw [c_,ld (by simp) (by simp),dv];exact Hd h he hs t
 ·rename_i a b;obtain rfl:=d9 hd;obtain rfl:=d9 hq;rw [c_,ld (by simp) (by simp),dv];split at he
  ·rename_i hu;cases ho:n4 op with
   | false=>rw [ho] at he;cases he
   | true =>
    rw [ho] at he;cases he;have hr:(Op.equal t (.bool a) (.bool b)).run X.P w = .ok (a==b) w:=run_equalIn_bool' w 9999 t a b hu;refine cW h ?_ .v;cases op<;>simp [n4] at ho
    ·simp only [binOp,c_,hr];rfl
    ·simp only [binOp,c_,hr];rfl
  ·cases he
 ·rename_i xs ys;split at he
  ·rename_i hagg;cases ho:(n4 op && !X.P.eqGuardType X.P.depth t) with
   | false=>rw [ho] at he;cases he
   | true =>
    rw [ho] at he;simp only [cT,km] at ho;obtain ⟨A,rfl,_,_⟩:=mW hd;obtain ⟨B,rfl,_,_⟩:=mW hq;rw [c_,run_eqGuard_agg w op t ox oy A B ho.2,dv];have:=Eb h hd hq he hagg;cases op<;>simp [n4] at ho<;>exact this
  ·cases he
 ·rename_i k off;obtain rfl:=d9 hq;obtain ⟨b,o,rfl⟩:∃ b o,x = .pointer (some ⟨b,o,none⟩):=by
   rcases uQ hd with ⟨_,b,o,rfl⟩|⟨_,b,o,_,rfl⟩<;>exact ⟨_,_,rfl⟩
  rw [c_,ld (by simp) (by simp),dv];unfold pj at he;split at he
  ·rename_i e' hu;cases ho:n4 op with
   | false=>rw [ho] at he;cases he
   | true=>rw [ho] at he;cases he;exact cW h (wJ hu _ ho w) .v
  ·cases he
 ·rename_i cs off;obtain rfl:=d9 hq;obtain ⟨b,o,c,_,rfl,_,_⟩:=qN hd;rw [c_,ld (by simp) (by simp),dv];unfold pj at he;split at he
  ·rename_i e' hu;cases ho:n4 op with
   | false=>rw [ho] at he;cases he
   | true=>rw [ho] at he;cases he;exact cW h (wJ hu _ ho w) .v
  ·cases he
 ·obtain rfl:=d9 hd;obtain rfl:=d9 hq;rw [c_,ld (by simp) (by simp),dv];unfold pj at he;split at he
  ·rename_i e' hu;cases ho:n4 op with
   | false=>rw [ho] at he;cases he
   | true=>rw [ho] at he;cases he;exact cW h (wJ hu _ ho w) .v
  ·cases he
 ·cases he
def sI (mx:Bool):Int->IntKind->List SV->Option Int
 | a,_,[]=>some a
 | a,k,.v (.int k' b)::r=>bif k==k' then sI mx (bif mx then max a b else min a b) k r else none
 | _,_,_=>none
def p5 (mx:Bool) (l:List SV) (nx:Nat):eY :=
 match l with
 | .v (.int k a)::r=>match sI mx a k r with
  | some b=>eE (.v (.int k b)) nx
  | none=>.bad
 | _=>.bad
theorem zk {P:Program} {C:Nm->cp} {I:Nat->Prop} (mx:Bool) {k:IntKind}:∀ (l:List SV) (vs:List Value) (a b:Int),sI mx a k l=some b->l.length=vs.length->(∀ i x,l[i]? = some x->dT P C ids I w x (vs.getD i undef)) ->
  (vs.foldlM (if mx then Builtin.max2 else Builtin.min2) (.int k a)).run P w = .ok (.int k b) w
 | [],[],a,b,h,_,_=>by cases h;rfl
 | [],_::_,_,_,_,h,_=>by simp at h
 | _::_,[],_,_,_,h,_=>by simp at h
 | s::l,v::vs,a,b,h,hl,hd=>by
  cases s<;>try (simp [sI] at h;done)
  rename_i y
  cases y<;>try (simp [sI] at h;done)
  rename_i k' c
  have hv:=d9 (hd 0 _ rfl)
  simp only [List.getD_cons_zero] at hv
  subst hv
  simp only [sI] at h
  cases hk:(k==k') with
  | false=>rw [hk] at h;cases h
  | true =>
   rw [hk] at h
   have ih:=zk mx l vs _ b h (by simpa using hl) (λi x hi=>by have:=hd (i+1) x (by simpa using hi);simpa using this)
   rw [List.foldlM_cons,c_]
   cases mx with
   | true =>
    have:(Builtin.max2 (.int k a) (.int k' c)).run P w = .ok (.int k (max a c)) w:=by
     simp only [Builtin.max2,eK];congr 2;by_cases hh:c > a
     ·rw [if_pos hh];omega
     ·rw [if_neg hh];omega
    simp only [if_true,this,dv];simpa using ih
   | false =>
    have:(Builtin.min2 (.int k a) (.int k' c)).run P w = .ok (.int k (min a c)) w:=by
     simp only [Builtin.min2,eK];congr 2;by_cases hh:c<a
     ·rw [if_pos hh];omega
     ·rw [if_neg hh];omega
    simp only [fy,lJ,this,dv];simpa using ih
theorem wK (h:dS X hp nx ids w) {mx:Bool} {l:List SV} {vs:Array Value} (hl:l.length=vs.size) (hd:∀ i x,l[i]? = some x->cV X hp ids w x (vs.getD i undef)) {side:Prop} {e:dx} (he:p5 mx l nx = .ok side e) (ats:Array TypeId) (ty:TypeId) :
  fQ X hp ids w ((if mx then Builtin.max_ ats ty vs else Builtin.min_ ats ty vs).run X.P w) e:=by
 obtain ⟨vs⟩:=vs;unfold p5 at he;split at he
 ·rename_i k a r;split at he
  ·rename_i b hb;cases he;cases vs with
   | nil=>simp at hl
   | cons v vs =>
    have hv:=d9 (hd 0 _ rfl);have hv':v = .int k a:=by simpa using hv
    subst hv';have:=zk (P:=X.P) (C:=bX hp) (I:=Im X.w0 X.I0 X.W0 (bX hp) ids w) mx r vs a b hb (by simpa using hl) (λi x hi=>by
     have:=hd (i+1) x (by simpa using hi);simpa [cQ,dA] using this)
    refine cW h ?_ .v;cases mx with
    | true=>simpa [Builtin.max_] using this
    | false=>simpa [Builtin.min_] using this
  ·cases he
 ·cases he
def He (d:TypeDesc) (pr:Bool):Bool:=match d with
 | .pointer _=>pr
 | _=>!pr
def FR (P:Program) (t:TypeId) (name:String):Bool:=match (P.info? t).bind (λi=>i.methods.find? (·.name==name)),P.underlying t with
 | some m,some d=>m.path.isEmpty&&(match m.func with
  | some q=>He d q.2
  | none=>false)
 | _,_=>false
theorem IB (P:Program):∃ n,P.types.size+Made.depth=n+1:=by
 have:0<Made.depth:=by decide
 exact ⟨P.types.size+Made.depth-1,by omega⟩
theorem Cr {P:Program} {t:TypeId} {name:String} (h:FR P t name=true) (v:Value) (n:Nat) (w:World):(nilAhead (n+1) t v name).run P w = .ok (some false) w:=by
 unfold FR at h;split at h
 ·rename_i m d hm hu;obtain ⟨i,hi,hm⟩:=Option.bind_eq_some_iff.1 hm;simp only [cT] at h;obtain ⟨h1,h2⟩:=h;have hp:m.path = #[]:=by simpa using h1
  split at h2
  ·rename_i q hq;obtain ⟨f,pr⟩:=q;have ht:(typeInfo t).run P w = .ok i w:=by simp [typeInfo,hi]
   unfold nilAhead;simp only [c_,ht,dv,hm,hp,followBlind,eK];cases pr with
   | true=>simp only [hq];rfl
   | false =>
    simp only [hq,c_,dF hu,dv];cases d<;>first|rfl|(simp [He] at h2)
  ·cases h2
 ·cases h
def kK (P:Program) (g:Bool) (fr:Fr) (hp:Hp) (nx:Nat) (ty:TypeId) (o:Op):eY :=
 match o with
 | .move x=>eE (dC g fr x) nx
 | .assign x=>eE (dC g fr x) nx
 | .pick c a b=>match dC g fr c with
  | .v (.bool t)=>yS g t (wb fr a) (wb fr b) nx
  | _=>.bad
 | .alloc e=>wh P e nx
 | .box e x=>LR e (dC g fr x) nx
 | .build t parts=>wm P t (parts.toList.map λp=>(p.1,dC g fr p.2)) nx
 | .buildSlice t len parts=>ph P t len (parts.toList.map λp=>(p.1,dC g fr p.2)) nx
 | .load t a=>oa P t (Aj P (dC g fr a)) hp nx
 | .store t a x=>oz P t (dC g fr a) (dC g fr x) hp nx
 | .nilCheck x=>match dC g fr x with
  | .ptr k off=>eE (.ptr k off) nx
  | .iptr cs off=>eE (.iptr cs off) nx
  | .clo f caps=>eE (.clo f caps) nx
  | .mth name (.ifc t y)=>bif FR P t name then eE (.mth name (.ifc t y)) nx else .bad
  | _=>.bad
 | .binOp op t x y _=>qh P op t (dC g fr x) (dC g fr y) hp nx
 | .unOp op _ x=>G9 op (dC g fr x) nx
 | .convert s d x=>tH P s d (dC g fr x) hp nx
 | .makeFunc fn first caps=>match fn with
  | .func f=>bif first.size==0 then eE (.clo f (caps.toList.map (dC g fr))) nx else .bad
  | .method name=>match first.toList with
   | [x]=>bif caps.size==0 then eE (.mth name (dC g fr x)) nx else .bad
   | _=>.bad
  | _=>.bad
 | .makeMap _ r=>match r with
  | none=>Ce nx
  | some _=>.bad
 | .makeSlice t l c=>sg P t (dC g fr l) (dC g fr c) nx
 | .slice t x lo hi mx=>match mx with
  | none=>qd P t (dC g fr x) (lo.map (dC g fr)) (hi.map (dC g fr)) hp nx
  | some m=>match lo,hi with
   | none,some hh=>qP P t (dC g fr x) (dC g fr hh) (dC g fr m) nx hp
   | _,_=>.bad
 | .fieldAddr t x f=>ky P t (dC g fr x) f hp nx
 | .field t x f=>wl P t (dC g fr x) f nx
 | .indexAddr t x i=>ll P t (Aj P (dC g fr x)) (dC g fr i) hp nx
 | .index t x i=>uj P t (dC g fr x) (dC g fr i) nx
 | .lookup t x i ok=>jW P t (dC g fr x) (dC g fr i) ok hp nx
 | .mapUpdate t m k x=>mY P t (dC g fr m) (dC g fr k) (dC g fr x) hp nx
 | .insert t m k x=>mY P t (dC g fr m) (dC g fr k) (dC g fr x) hp nx
 | .mapEntry t m k=>jo P t (dC g fr m) (dC g fr k) hp nx
 | .entryStore _ m s x=>jy (dC g fr m) (dC g fr s) (dC g fr x) hp nx
 | .extract x i=>sQ (dC g fr x) i nx
 | .makeInterface t x=>qO P t (dC g fr x) nx
 | .typeAssert x _ a ok=>sH P (dC g fr x) a ok nx
 | .range t x=>zh P t (dC g fr x) nx
 | .next x str=>zi (dC g fr x) str hp nx
 | .call c=>match c.callee with
  | .builtin b=>match b,c.args.toList,c.argTypes.toList with
   | .len,[x],[t]=>uU P t (dC g fr x) hp nx
   | .append,[x,y],[t,tx]=>match ja P t with
    | some (e,_)=>bif yj P e then pZ P t tx (dC g fr x) (dC g fr y) hp nx else .bad
    | none=>.bad
   | .copy,[x,y],[t,tx]=>tF P t tx (dC g fr x) (dC g fr y) hp nx
   | .min,l,_=>p5 false (l.map (dC g fr)) nx
   | .max,l,_=>p5 true (l.map (dC g fr)) nx
   | _,_,_=>.bad
  | _=>.bad
 | _=>.bad
def zl (X:Cx) (hp:Hp) (ids:dE) (w:World) (r:Result Next) (e:dx):Prop :=
∃x w' ids',(r = .ok (.value x) w'\/(r = .ok .skip w'/\x=undef))/\HeapC X (e.upd++hp) ids' w'/\fk X hp ids w (e.upd++hp) ids' w'/\cV X (e.upd++hp) ids' w' e.val x
theorem dI {m:Sem Value} {e:dx} (h:fQ X hp ids w (m.run X.P w) e):zl X hp ids w ((do pure (.value (←m)):Sem Next).run X.P w) e:=by
 obtain ⟨x,w',ids',h1,h2,h3,h4⟩:=h;exact ⟨x,w',ids',.inl (by simp [c_,h1]),h2,h3,h4⟩
theorem rh {m:Sem Unit} {e:dx} (h:wc X hp ids w (m.run X.P w) e) (hv:e.val = .any):zl X hp ids w ((do m;pure .skip:Sem Next).run X.P w) e:=by
 obtain ⟨w',ids',h1,h2,h3⟩:=h;exact ⟨undef,w',ids',.inr ⟨by simp [c_,h1],rfl⟩,h2,h3,by rw [hv];exact .any⟩
theorem EP {fr:Fr} {a:Act} (hf:∀ d,cV X hp ids w (cL fr d) (a.tmps.getD d undef)) (o:Operand):cV X hp ids w (wb fr o) (a.eval o):=by
 cases o with
 | tmp t=>exact hf t
 | const v=>exact .v
 | global n=>exact .v
 | func f=>exact .v
theorem rH {fr:Fr} {a:Act} (hf:∀ d,cV X hp ids w (cL fr d) (a.tmps.getD d undef)) {g:Bool} (hg:g=true) (o:Operand):cV X hp ids w (dC g fr o) (a.eval o):=by
 cases o with
 | tmp t=>exact Ah hg (hf t)
 | const v=>exact .v
 | global n=>exact .v
 | func f=>exact .v
theorem FS {P:Program} {t:TypeId} {s v:SV} {side:Prop} {e:dx} (he:oz P t s v hp nx = .ok side e):e.val = .any:=by
 unfold oz at he;split at he
 ·obtain ⟨_,_,_,hf⟩:=gz he;cases hf;rfl
 ·cases he
theorem xY {P:Program} {t:TypeId} {s q v:SV} {side:Prop} {e:dx} (he:mY P t s q v hp nx = .ok side e):e.val = .any:=by
 unfold mY at he;split at he
 ·obtain ⟨_,_,hf⟩:=ir he;cases hf;rfl
 ·split at he
  ·obtain ⟨_,_,hf⟩:=ir he;cases hf;rfl
  ·cases he
 ·cases he
theorem zm {s q v:SV} {side:Prop} {e:dx} (he:jy s q v hp nx = .ok side e):e.val = .any:=by
 unfold jy at he;split at he
 ·obtain ⟨_,_,hf⟩:=ir he;cases hf;rfl
 ·cases he
theorem uX (h:dS X hp nx ids w) {fr:Fr} {a:Act} (hf:∀ d,cV X hp ids w (cL fr d) (a.tmps.getD d undef)) {g:Bool} (hg:g=true) {o:Oper} {side:Prop} {e:dx} (he:kK X.P g fr hp nx o.type o.op = .ok side e) (hs:side) :
  zl X hp ids w ((execOp a.eval o).run X.P w) e:=by
 have ev:=λo=>rH hf hg o;have ev1:=λo=>rH hf (g:=true) rfl o;unfold execOp;cases ho:o.op<;>rw [ho] at he<;>simp only [kK] at he;case move x =>
  cases he;exact ⟨_,w,ids,.inl rfl,h.toHeapC,ku.refl _ _ _ _,ev x⟩
 case assign x =>
  cases he;exact ⟨_,w,ids,.inl rfl,h.toHeapC,ku.refl _ _ _ _,ev x⟩
 case pick c x y =>
  split at he
  ·rename_i t hc;have hcv:=ev c;rw [hc] at hcv;have:=FG h hg (EP hf x) (EP hf y) he;obtain ⟨v,w',ids',h1,h2,h3,h4⟩:=this;refine ⟨v,w',ids',.inl ?_,h2,h3,h4⟩;simp only [d9 hcv,asBool,c_,eK,dv];cases t<;>simpa using h1
  ·cases he
 case alloc t=>exact dI (DV h he _)
 case box t x=>exact dI (GX h (ev x) he hs)
 case build t parts =>
  refine dI (D0 h (by simp) (λi p q hp hq=>?_) he);rw [fZ] at hp;simp only [Array.toList_map,fZ] at hq;cases hi:parts.toList[i]? with
  | none=>rw [hi] at hp;cases hp
  | some r=>rw [hi] at hp hq;cases hp;cases hq;exact ⟨rfl,ev _⟩
 case buildSlice t len parts =>
  refine dI (yi h (by simp) (λi p q hp hq=>?_) he);rw [fZ] at hp;simp only [Array.toList_map,fZ] at hq;cases hi:parts.toList[i]? with
  | none=>rw [hi] at hp;cases hp
  | some r=>rw [hi] at hp hq;cases hp;cases hq;exact ⟨rfl,ev _⟩
 case load t x=>exact dI (FF h (EL h.toHeapC (ev x)) he hs)
 case store t x y=>exact rh (DU h (ev x) (ev y) he hs) (FS he)
 case nilCheck x =>
  split at he
  ·rename_i k off hx;cases he;have hd:=ev x;rw [hx] at hd;obtain ⟨b,o',hv⟩:∃ b o,a.eval x = .pointer (some ⟨b,o,none⟩):=by
    rcases uQ hd with ⟨_,b,o,h⟩|⟨_,b,o,_,h⟩<;>exact ⟨_,_,h⟩
   exact ⟨_,w,ids,.inl (by simp only [hv];rfl),h.toHeapC,ku.refl _ _ _ _,by rw [hv] at hd;exact hd⟩
  ·rename_i cs off hx;cases he;have hd:=ev x;rw [hx] at hd;obtain ⟨b,o',c,_,hv,_,_⟩:=qN hd;exact ⟨_,w,ids,.inl (by simp only [hv];rfl),h.toHeapC,ku.refl _ _ _ _,by rw [hv] at hd;exact hd⟩
  ·rename_i f caps hx;cases he;have hd:=ev x;rw [hx] at hd;obtain ⟨arr,hv,_,_⟩:=xo hd;exact ⟨_,w,ids,.inl (by simp only [hv];rfl),h.toHeapC,ku.refl _ _ _ _,by rw [hv] at hd;exact hd⟩
  ·rename_i name t y hx;rw [ff] at he;split at he
   ·rename_i hm;cases he;have hd:=ev x;rw [hx] at hd;obtain ⟨z,hv,hz⟩:=EI hd;obtain ⟨u,rfl,hu⟩:=Ag hz;refine ⟨_,w,ids,.inl ?_,h.toHeapC,ku.refl _ _ _ _,by rw [hv] at hd;exact hd⟩;obtain ⟨n,hn⟩:=IB X.P;have h0:(#[Value.iface t u]:Array Value)[0]? = some (.iface t u):=rfl;simp only [hv,h0,c_,run_program,dv,hn,Cr hm];rfl
   ·cases he
  ·cases he
 case binOp op t x y yt=>exact dI (Ed h (ev x) (ev y) he hs x y)
 case unOp op t x=>exact dI (Iz h (ev x) he)
 case convert s d x=>exact dI (FL h (ev x) he hs)
 case makeFunc fn first caps =>
  split at he
  ·rename_i f;cases hz:(first.size==0) with
   | false=>rw [hz] at he;cases he
   | true =>
    rw [hz] at he;cases he;have:first = #[]:=by simpa using hz
    subst this;refine dI (cW h (x:=.func (.func f) #[] (caps.map a.eval)) (by simp [Instr.makeFunc]) (.clo (caps.map a.eval) (by simp) λi x hi=>?_));rw [fZ] at hi;cases hci:caps.toList[i]? with
    | none=>rw [hci] at hi;cases hi
    | some q =>
     rw [hci] at hi;cases hi;have:caps[i]? = some q:=by simpa using hci
     rw [cQ,qI,this];exact ev q
  ·rename_i name;split at he
   ·rename_i y hfl;rw [ff] at he;split at he
    ·rename_i hz;cases he;have h1:first = #[y]:=by
      obtain ⟨l⟩:=first
      simp only at hfl;rw [hfl]
     have h2:caps = #[]:=by simpa using hz
     subst h1;subst h2;exact dI (cW h (x:=.func (.method name) #[a.eval y] #[]) (by simp [Instr.makeFunc]) (.mth (ev y)))
    ·cases he
   ·cases he
  ·cases he
 case makeMap t r =>
  split at he
  ·exact dI (BE h t he)
  ·cases he
 case makeSlice t l c=>exact dI (ze h (ev l) (ev c) he hs)
 case slice t x lo hi mx =>
  split at he
  ·refine dI (D7 h (ev x) (λhn=>?_) (λs hs'=>?_) (λhn=>?_) (λs hs'=>?_) he hs)
   ·cases lo with
    | none=>rfl
    | some q=>cases hn
   ·cases lo with
    | none=>cases hs'
    | some q=>cases hs';exact ⟨_,rfl,ev q⟩
   ·cases hi with
    | none=>rfl
    | some q=>cases hn
   ·cases hi with
    | none=>cases hs'
    | some q=>cases hs';exact ⟨_,rfl,ev q⟩
  ·split at he
   ·exact dI (Cp h (ev x) (ev _) (ev _) he hs)
   ·cases he
 case fieldAddr t x f=>exact dI (yV h (ev x) he hs)
 case field t x f=>exact dI (DY h (ev x) he hs)
 case indexAddr t x i=>exact dI (yW h (EL h.toHeapC (ev x)) (ev i) he hs)
 case index t x i=>exact dI (DZ h (ev x) (ev i) he hs)
 case lookup t x i ok=>exact dI (Cl h (ev x) (ev i) he hs)
 case mapUpdate t m k x=>exact rh (wF h (ev m) (ev k) (ev x) he hs) (xY he)
 case insert t m k x=>exact rh (wF h (ev m) (ev k) (ev x) he hs) (xY he)
 case mapEntry t m k=>exact dI (An h (ev m) (ev k) he hs)
 case entryStore t m q x=>exact rh (ym h (ev m) (ev q) (ev x) he hs) (zm he)
 case makeInterface t x=>exact dI (BF h (ev x) he)
 case typeAssert x t a ok=>exact dI (Co h (ev x) he)
 case extract x i=>exact dI (BC h (ev x) he)
 case range t x=>exact dI (D9 h (ev x) he)
 case next x str=>exact dI (FM h (ev x) he _)
 case call c =>
  obtain ⟨callee,args,argTypes⟩:=c;split at he
  ·rename_i b hcb;simp only at hcb;subst hcb;simp only [resolve,c_,eK,dv,invoke,builtin];obtain ⟨args⟩:=args;obtain ⟨argTypes⟩:=argTypes;split at he
   ·rename_i x t hargs htys;simp only at hargs htys;subst hargs;subst htys;refine dI ?_;simp only [List.map_toArray,gv,k9];exact G8 h (ev x) he hs _
   ·rename_i x y t tx hargs htys;simp only at hargs htys;subst hargs;subst htys;split at he
    ·rename_i e' z hst;cases hz:yj X.P e' with
     | false=>rw [hz] at he;cases he
     | true =>
      rw [hz] at he;refine dI ?_;simp only [List.map_toArray,gv,k9];exact (B_ h (ev x) (ev y) he hs (λet z' hh=>by rw [hst] at hh;cases hh;exact hz))
    ·cases he
   ·rename_i x y t tx hargs htys;simp only at hargs htys;subst hargs;subst htys;refine dI ?_;simp only [List.map_toArray,gv,k9];exact FI h (ev x) (ev y) he hs
   ·have hmm:=wK (mx:=false) h (vs:=(args.toArray).map a.eval) (by simp) (λi x hi=>by
     rw [fZ] at hi;cases hai:args[i]? with
     | none=>simp [hai] at hi
     | some q =>
      simp [hai] at hi;subst hi;rw [cQ,qI,pI,hai];exact ev q) he argTypes.toArray o.type
    exact dI (by simpa using hmm)
   ·have hmm:=wK (mx:=true) h (vs:=(args.toArray).map a.eval) (by simp) (λi x hi=>by
     rw [fZ] at hi;cases hai:args[i]? with
     | none=>simp [hai] at hi
     | some q =>
      simp [hai] at hi;subst hi;rw [cQ,qI,pI,hai];exact ev q) he argTypes.toArray o.type
    exact dI (by simpa using hmm)
   ·cases he
  ·cases he
 all_goals cases he
end
section
open Go.RowKit
variable {X:Cx} {hp:Hp} {nx:Nat} {ids:dE} {w:World}
mutual
def SV.cl:SV->Bool
 | .any=>true
 | .v _=>true
 | .agg xs=>mO xs
 | .tup xs=>mO xs
 | .sl _ xs=>mO xs
 | .iptr xs _=>mO xs
 | .clo _ xs=>mO xs
 | .ifc _ x=>x.cl
 | .mth _ x=>x.cl
 | .asl _ _ _=>false
 | .bp _ _ _=>false
 | .gd _ x=>x.cl
 | .own _ _ _=>false
 | .ptr _ _=>false
 | .mp _=>false
 | .it _=>false
def mO:List SV->Bool
 | []=>true
 | x::xs=>x.cl&&mO xs
end
theorem lG:∀ {xs:List SV},mO xs=true->∀ (i:Nat) (x:SV),xs[i]? = some x->x.cl=true
 | [],_,i,x,h=>by simp at h
 | y::ys,hc,i,x,h=>by
  simp only [mO,cT] at hc
  cases i with
  | zero=>simp at h;subst h;exact hc.1
  | succ i=>exact lG hc.2 i x (by simpa using h)
theorem Hf {P:Program} {C C':Nm->cp} {ids ids':dE} {I I':Nat->Prop} {w w':World} (hI:∀ b,I b->I' b/\w'.heap[b]? = w.heap[b]?) {s:SV} {x:Value} (h:dT P C ids I w s x):s.cl=true->dT P C' ids' I' w' s x:=by
 induction h with
 | any=>exact λ_=>.any
 | v=>exact λ_=>.v
 | agg arr h _ ih=>exact λhc=>.agg arr h λi x hi=>ih i x hi (lG hc i x hi)
 | tup arr h _ ih=>exact λhc=>.tup arr h λi x hi=>ih i x hi (lG hc i x hi)
 | sl0 hc=>exact λ_=>.sl0 hc
 | sl b o cap c hb hn hcap hc _ ih =>
  obtain ⟨hb',hw⟩:=hI b hb;exact λhcl=>.sl b o cap c hb' hn hcap (λi x hi=>(nV hw).trans (hc i x hi)) λi x hi=>ih i x hi (lG hcl i x hi)
 | iptr b o c hb hc _ ih =>
  obtain ⟨hb',hw⟩:=hI b hb;exact λhcl=>.iptr b o c hb' (λi x hi=>(nV hw).trans (hc i x hi)) λi x hi=>ih i x hi (lG hcl i x hi)
 | clo arr h _ ih=>exact λhc=>.clo arr h λi x hi=>ih i x hi (lG hc i x hi)
 | ifc _ ih=>exact λhc=>.ifc (ih hc)
 | mth _ ih=>exact λhc=>.mth (ih hc)
 | aslDead h=>intro hc;cases hc
 | asl b o hl h=>intro hc;cases hc
 | bpDead b h=>intro hc;cases hc
 | bp b arr hl h hw hn=>intro hc;cases hc
 | gd _ hn ih=>exact λhc=>.gd (λhg=>ih hg hc) hn
 | ownDead h=>intro hc;cases hc
 | own a cap hl h=>intro hc;cases hc
 | ptrDead b q h=>intro hc;cases hc
 | ptr b o hl h=>intro hc;cases hc
 | mpDead h=>intro hc;cases hc
 | mp b hl h=>intro hc;cases hc
 | itDead h=>intro hc;cases hc
 | it b hl h=>intro hc;cases hc
def mz (l:List Nm) (k:Nm):Prop:=∃ j∈l,j.key=k.key
theorem J9 (k:Nm):¬ mz [] k:=λ⟨_,h,_⟩=>by cases h
theorem J_ {l:List Nm} {k:Nm} (h:mz l k):k.key∈l.map Nm.key:=by
 obtain ⟨j,hj,he⟩:=h;exact fK.2 ⟨j,hj,he⟩
inductive jL (P:Program) (C C':Nm->cp) (σ:Nm->Option Nm) (frz:Nm->Prop):SV->SV->Prop
 | any {s}:jL P C C' σ frz s .any
 | cl {s} (h:s.cl=true):jL P C C' σ frz s s
 | own {k k' off n} (hs:σ k'=some k) (hl:(C' k').live=true):jL P C C' σ frz (.own k off n) (.own k' off n)
 | absent {k'} (hl:(C' k').live=true) (hs:σ k'=none):jL P C C' σ frz (.v (.slice none 0 0)) (.own k' 0 0)
 | ptr {k k' off} (hs:σ k'=some k) (hl:(C' k').live=true):jL P C C' σ frz (.ptr k off) (.ptr k' off)
 | mp {k k'} (hs:σ k'=some k) (hl:(C' k').live=true):jL P C C' σ frz (.mp k) (.mp k')
 | bp {k k' e n} (hs:σ k'=some k) (hl:(C' k').live=true):jL P C C' σ frz (.bp k e n) (.bp k' e n)
 | it {k k'} (hs:σ k'=some k) (hl:(C' k').live=true):jL P C C' σ frz (.it k) (.it k')
 | agg {xs ys:List SV} (h:xs.length=ys.length) (hx:∀ (i:Nat) (x y:SV),xs[i]? = some x->ys[i]? = some y->jL P C C' σ frz x y):jL P C C' σ frz (.agg xs) (.agg ys)
 | tup {xs ys:List SV} (h:xs.length=ys.length) (hx:∀ (i:Nat) (x y:SV),xs[i]? = some x->ys[i]? = some y->jL P C C' σ frz x y):jL P C C' σ frz (.tup xs) (.tup ys)
 | clo {f} {xs ys:List SV} (h:xs.length=ys.length) (hx:∀ (i:Nat) (x y:SV),xs[i]? = some x->ys[i]? = some y->jL P C C' σ frz x y):jL P C C' σ frz (.clo f xs) (.clo f ys)
 | mth {t} {x y:SV} (h:jL P C C' σ frz x y):jL P C C' σ frz (.mth t x) (.mth t y)
 | ifc {t} {x y:SV} (h:jL P C C' σ frz x y):jL P C C' σ frz (.ifc t x) (.ifc t y)
 | frz {k off n e} {cs cs2:List SV} (hk:C k = .row e cs) (hf:frz k) (hl:cs2.length<=cs.length) (hx:∀ (i:Nat) (x y:SV),cs[i]? = some x->cs2[i]? = some y->jL P C C' σ frz x y) (q:Nat) (hq:n=0->q=0):jL P C C' σ frz (.own k off n) (.sl n (da cs2 off q))
 | fptr {k off e} {cs cs2:List SV} (hk:C k = .row e cs) (hf:frz k) (hl:cs2.length<=cs.length) (hx:∀ (i:Nat) (x y:SV),cs[i]? = some x->cs2[i]? = some y->jL P C C' σ frz x y):jL P C C' σ frz (.ptr k off) (.iptr cs2 off)
 | nilsl:jL P C C' σ frz (.v (.slice none 0 0)) (.sl 0 [])
def sT (P:Program) (C C':Nm->cp) (σ:Nm->Option Nm) (frz:Nm->Prop) (k':Nm):cp->Prop
 | .unborn=>True
 | .dead=>True
 | .void=>∀ k,σ k'=some k->C k = .void
 | .row e cs'=>(σ k'=none/\cs'=[])\/∃ k cs,σ k'=some k/\C k = .row e cs/\cs'.length<=cs.length/\∀ (i:Nat) (x y:SV),cs[i]? = some x->cs'[i]? = some y->jL P C C' σ frz x y
 | .map es'=>∃ k es,σ k'=some k/\C k = .map es/\es.length=es'.length/\∀ (i:Nat) (x y:Value×SV),es[i]? = some x->es'[i]? = some y->x.1=y.1/\jL P C C' σ frz x.2 y.2
 | .obj s pos=>∃ k,σ k'=some k/\C k = .obj s pos
 | .fam _=>True
structure vX (P:Program) (C C':Nm->cp) (σ:Nm->Option Nm) (frz:Nm->Prop):Prop where
 ch:∀ k',sT P C C' σ frz k' (C' k')
 inj:∀ k1 k2 k,(C' k1).live=true->(C' k2).live=true->σ k1=some k->σ k2=some k->k1=k2
 frz:∀ k,frz k->∀ k',(C' k').live=true->σ k'≠some k
theorem sT.live {P:Program} {C C':Nm->cp} {σ:Nm->Option Nm} {frz:Nm->Prop} {k k':Nm} (h:sT P C C' σ frz k' (C' k')) (hl:(C' k').live=true) (hs:σ k'=some k):(C k).live=true/\∀ e cs,C k = .row e cs->∃ cs',C' k' = .row e cs':=by
 cases hc:C' k' with
 | unborn=>rw [hc] at hl;cases hl
 | dead=>rw [hc] at hl;cases hl
 | void=>rw [hc] at hl;cases hl
 | row e cs' =>
  rw [hc] at h;rcases h with ⟨h1,_⟩|⟨k2,cs,h1,h2,_⟩
  ·rw [hs] at h1;cases h1
  ·rw [hs] at h1;cases h1;exact ⟨by rw [h2];rfl,λe2 cs2 h3=>by rw [h2] at h3;cases h3;exact ⟨cs',rfl⟩⟩
 | map es' =>
  rw [hc] at h;obtain ⟨k2,es,h1,h2,_⟩:=h;rw [hs] at h1;cases h1;exact ⟨by rw [h2];rfl,λe2 cs2 h3=>by rw [h2] at h3;cases h3⟩
 | obj s pos =>
  rw [hc] at h;obtain ⟨k2,h1,h2⟩:=h;rw [hs] at h1;cases h1;exact ⟨by rw [h2];rfl,λe2 cs2 h3=>by rw [h2] at h3;cases h3⟩
 | fam g=>rw [hc] at hl;cases hl
theorem sT.kind {P:Program} {C C':Nm->cp} {σ:Nm->Option Nm} {frz:Nm->Prop} {k k':Nm} (h:sT P C C' σ frz k' (C' k')) (hl:(C' k').live=true) (hs:σ k'=some k):dZ (C k) (C' k'):=by
 cases hc:C' k' with
 | unborn=>rw [hc] at hl;cases hl
 | dead=>rw [hc] at hl;cases hl
 | void=>rw [hc] at hl;cases hl
 | row e cs' =>
  rw [hc] at h;rcases h with ⟨h1,_⟩|⟨k2,cs,h1,h2,h3,_⟩
  ·rw [hs] at h1;cases h1
  ·rw [hs] at h1;cases h1;rw [h2];exact ⟨rfl,h3⟩
 | map es' =>
  rw [hc] at h;obtain ⟨k2,es,h1,h2,_⟩:=h;rw [hs] at h1;cases h1;rw [h2];trivial
 | obj s pos =>
  rw [hc] at h;obtain ⟨k2,h1,h2⟩:=h;rw [hs] at h1;cases h1;rw [h2];trivial
 | fam g=>rw [hc] at hl;cases hl
structure FT (P:Program) (C C':Nm->cp) (σ:Nm->Option Nm) (frz:Nm->Prop) (ids ids':dE) (I I':Nat->Prop) (w:World):Prop where
 sub:vX P C C' σ frz
 im:∀ b,I b->I' b
 idsEq:∀ k' k,σ k'=some k->(C' k').live=true->ids' k'=ids k
 fz:∀ k,frz k->(C k).live=true->∀ b o,ids k=some (b,o)->I' b
 ch:∀ k e cs,C k = .row e cs->fH P C ids I w k (.row e cs)
theorem zn {P:Program} {C C':Nm->cp} {σ:Nm->Option Nm} {frz:Nm->Prop} {ids ids':dE} {I I':Nat->Prop} {w:World} (hW:FT P C C' σ frz ids ids' I I' w) {s s':SV} (h:jL P C C' σ frz s s') :
 ∀{x:Value},dT P C ids I w s x->dT P C' ids' I' w s' x:=by
 have hI:∀ b,I b->I' b/\w.heap[b]? = w.heap[b]?:=λb hb=>⟨hW.im b hb,rfl⟩;induction h with
 | any=>exact λ_=>.any
 | cl h=>exact λhd=>Hf hI hd h
 | own hs hl =>
  rename_i k k' off n;intro x hd;obtain ⟨hlk,hrow⟩:=(hW.sub.ch k').live hl hs;obtain ⟨a,cap,rfl,h1,h2,h4,h3⟩:=md hd hlk;refine .own a cap hl ⟨h1,h2,λe cs hc=>?_,?_⟩
  ·have h:=hW.sub.ch k';rw [hc] at h;rcases h with ⟨g1,_⟩|⟨k2,cs2,g1,g2,g3,_⟩
   ·rw [hs] at g1;cases g1
   ·rw [hs] at g1;cases g1;exact mb g3 (h4 _ _ g2)
  rcases h3 with h3|⟨b,o,e,cs,arr,hC,hid,ha,hw,hsz⟩
  ·exact .inl h3
  ·obtain ⟨cs',hc'⟩:=hrow e cs hC;exact .inr ⟨b,o,e,cs',arr,hc',by rw [hW.idsEq k' k hs hl];exact hid,ha,hw,hsz⟩
 | absent hl hs =>
  rename_i k';intro x hd;obtain rfl:=d9 hd;refine .own none 0 hl ⟨cF _,by unfold maxLen;omega,λe cs hc=>?_,.inl ⟨rfl,rfl⟩⟩;have h:=hW.sub.ch k';rw [hc] at h;rcases h with ⟨_,g⟩|⟨k2,cs2,g1,_⟩
  ·subst g;exact hU _
  ·rw [hs] at g1;cases g1
 | ptr hs hl =>
  rename_i k k' off;intro x hd;obtain ⟨hlk,_⟩:=(hW.sub.ch k').live hl hs;obtain ⟨b,o,hid,rfl⟩:=pY hd hlk;exact .ptr b o hl (by rw [hW.idsEq k' k hs hl];exact hid)
 | bp hs hl =>
  rename_i k k' e n;intro x hd;obtain ⟨hlk,_⟩:=(hW.sub.ch k').live hl hs;obtain ⟨b,arr,hid,rfl,hw,hn⟩:=LQ hd hlk;exact .bp b arr hl (by rw [hW.idsEq k' k hs hl];exact hid) hw hn
 | mp hs hl =>
  rename_i k k';intro x hd;obtain ⟨hlk,_⟩:=(hW.sub.ch k').live hl hs;obtain ⟨b,hid,rfl⟩:=rG hd hlk;exact .mp b hl (by rw [hW.idsEq k' k hs hl];exact hid)
 | it hs hl =>
  rename_i k k';intro x hd;obtain ⟨hlk,_⟩:=(hW.sub.ch k').live hl hs;cases hd with
  | itDead h=>rw [h] at hlk;cases hlk
  | it b hl2 hid=>exact .it b hl (by rw [hW.idsEq k' k hs hl];exact hid)
 | agg h _ ih =>
  intro x hd;obtain ⟨arr,rfl,hl,hx⟩:=mW hd;refine .agg arr (by omega) λi y hi=>?_
  have hlt:=(dy.1 hi).1;exact ih i _ y (dz (by omega)) hi (hx i _ (dz (by omega)))
 | tup h _ ih =>
  intro x hd;obtain ⟨arr,rfl,hl,hx⟩:=EH hd;refine .tup arr (by omega) λi y hi=>?_
  have hlt:=(dy.1 hi).1;exact ih i _ y (dz (by omega)) hi (hx i _ (dz (by omega)))
 | clo h _ ih =>
  intro x hd;obtain ⟨arr,rfl,hl,hx⟩:=xo hd;refine .clo arr (by omega) λi y hi=>?_
  have hlt:=(dy.1 hi).1;exact ih i _ y (dz (by omega)) hi (hx i _ (dz (by omega)))
 | mth h ih =>
  intro x hd;obtain ⟨z,rfl,hz⟩:=EI hd;exact .mth (ih hz)
 | ifc h ih =>
  intro x hd;obtain ⟨z,rfl,hz⟩:=Ag hd;exact .ifc (ih hz)
 | frz hk hf hlc hcs q hq ih =>
  rename_i k off n e cs cs2;intro x hd;have hlk:(C k).live=true:=by rw [hk];rfl
  obtain ⟨a,cap,rfl,h1,h2,_,h3⟩:=md hd hlk;rcases h3 with ⟨rfl,rfl⟩|⟨b,o,e',cs',arr,hC,hid,rfl,hw,hsz⟩
  ·rw [hq rfl,show da cs2 off 0=[] from by simp [da]];exact .sl0 h2
  ·rw [hk] at hC;cases hC;have hc':=we (hW.ch k e cs hk) hid;obtain ⟨l,hll,hx⟩:=sf hc';have old:∀ i y,cs2[i]? = some y->∃ x,cs[i]? = some x:=λi y hy=>by
    have:=(dy.1 hy).1;exact ⟨_,dz (show i<cs.length by omega)⟩
   exact .sl b (o+off) cap (λi=>l.getD (off+i) undef) (hW.fz k hf hlk b o hid) h1 h2 (λi y hi=>by
     obtain ⟨_,hi2⟩:=jJ hi;obtain ⟨x,hx2⟩:=old _ _ hi2;rw [iT];exact (hx _ _ hx2).1)
    (λi y hi=>by
     obtain ⟨_,hi2⟩:=jJ hi;obtain ⟨x,hx2⟩:=old _ _ hi2;exact ih _ x y hx2 hi2 (hx _ _ hx2).2)
 | fptr hk hf hlc hcs ih =>
  rename_i k off e cs cs2;intro x hd;have hlk:(C k).live=true:=by rw [hk];rfl
  obtain ⟨b,o,hid,rfl⟩:=pY hd hlk;have hc':=we (hW.ch k e cs hk) hid;obtain ⟨l,hll,hx⟩:=sf hc';have old:∀ i y,cs2[i]? = some y->∃ x,cs[i]? = some x:=λi y hy=>by
   have:=(dy.1 hy).1;exact ⟨_,dz (show i<cs.length by omega)⟩
  exact .iptr b o (λi=>l.getD i undef) (hW.fz k hf hlk b o hid) (λi y hi=>by
   obtain ⟨x,hx2⟩:=old _ _ hi;exact (hx _ _ hx2).1) (λi y hi=>by
   obtain ⟨x,hx2⟩:=old _ _ hi;exact ih _ x y hx2 hi (hx _ _ hx2).2)
 | nilsl =>
  intro x hd;obtain rfl:=d9 hd;exact .sl0 (by unfold maxLen;omega)
theorem EQ {P:Program} {C C':Nm->cp} {σ:Nm->Option Nm} {frz:Nm->Prop} {ids ids':dE} {I I':Nat->Prop} {w:World} (hW:FT P C C' σ frz ids ids' I I' w) (hall:∀ k,fH P C ids I w k (C k)) (k':Nm) (hn:σ k'=none->ids' k'=none) :
  fH P C' ids' I' w k' (C' k'):=by
 have h:=hW.sub.ch k';cases hc:C' k' with
 | unborn=>trivial
 | dead=>trivial
 | void=>trivial
 | row e cs' =>
  have hl:(C' k').live=true:=by rw [hc];rfl
  rw [hc] at h;simp only [fH];rcases h with ⟨h1,rfl⟩|⟨k,cs,h1,h2,h3,h4⟩
  ·rw [hn h1]
  ·have hk:=hall k;rw [h2] at hk;simp only [fH] at hk;rw [hW.idsEq k' k h1 hl];cases hid:ids k with
   | none =>
    rw [hid] at hk;simp only at hk;subst hk;exact iV (by simpa using h3)
   | some p =>
    obtain ⟨b,o⟩:=p;rw [hid] at hk;obtain ⟨arr,ha,hs,hx⟩:=hk;refine ⟨arr,ha,by omega,λi y hi=>?_⟩;have hlt:=(dy.1 hi).1;exact zn hW (h4 i _ y (dz (by omega)) hi) (hx i _ (dz (by omega)))
 | map es' =>
  have hl:(C' k').live=true:=by rw [hc];rfl
  rw [hc] at h;obtain ⟨k,es,h1,h2,h3,h4⟩:=h;have hk:=hall k;rw [h2] at hk;obtain ⟨b,arr,clock,hid,hw,hsz,hx,hbo⟩:=hk;refine ⟨b,arr,clock,by rw [hW.idsEq k' k h1 hl];exact hid,hw,by omega,λi y hi=>?_,hbo⟩;have hlt:=(dy.1 hi).1;obtain ⟨g1,g2⟩:=h4 i _ y (dz (by omega)) hi;obtain ⟨g3,g4⟩:=hx i _ (dz (by omega));exact ⟨g3.trans g1,zn hW g2 g4⟩
 | obj s pos =>
  have hl:(C' k').live=true:=by rw [hc];rfl
  rw [hc] at h;obtain ⟨k,h1,h2⟩:=h;have hk:=hall k;rw [h2] at hk;obtain ⟨b,hid,hw⟩:=hk;exact ⟨b,by rw [hW.idsEq k' k h1 hl];exact hid,hw⟩
 | fam g=>trivial
def kz (σ:Nm->Option Nm) (ids:dE):dE:=λk=>(σ k).bind ids
theorem weaken {hp':Hp} {nx':Nat} {σ:Nm->Option Nm} {frz:Nm->Prop} (h:HeapC X hp ids w) (hS:vX X.P (bX hp) (bX hp') σ frz) (hf:∀ k:Nm,nx'<=k.base->bX hp' k = .unborn) (hm:∀ k:Nm,k.base<X.m->(bX hp' k).live=true->σ k=some k) (hmv:∀ k:Nm,k.base<X.m->bX hp' k = .void->σ k=some k) (hmn:X.m<=nx') :
 ∃ids',nm X hp' nx' ids' w/\∀ s s' x,jL X.P (bX hp) (bX hp') σ frz s s'->cV X hp ids w s x->cV X hp' ids' w s' x:=by
 have hold:∀ k' b o,(bX hp' k').live=true->kz σ ids k'=some (b,o)->∃ k,σ k'=some k/\(bX hp k).live=true/\ids k=some (b,o):=λk' b o hl hi=>by
  unfold kz at hi;cases hs:σ k' with
  | none=>rw [hs] at hi;cases hi
  | some k=>rw [hs] at hi;exact ⟨k,rfl,((hS.ch k').live hl hs).1,hi⟩
 have hW:FT X.P (bX hp) (bX hp') σ frz ids (kz σ ids) (Im X.w0 X.I0 X.W0 (bX hp) ids w) (Im X.w0 X.I0 X.W0 (bX hp') (kz σ ids) w) w:=by
  refine ⟨hS,λb hb=>⟨hb.1,hb.2.1,λk' hl o hi=>?_⟩,λk' k hs hl=>by simp [kz,hs],λk hk hl b o hi=>⟨?_,(h.st.lt k b o hl hi).1,λk' hl' o' hi'=>?_⟩,λk e cs hk=>by have:=h.st.ch k;rwa [hk] at this⟩
  ·obtain ⟨k,_,h2,h3⟩:=hold k' b o hl hi;exact hb.2.2 k h2 o h3
  ·rcases (h.st.lt k b o hl hi).2 with h1|h1
   ·exact .inr (.inl h1)
   ·exact .inr (.inr h1)
  ·obtain ⟨k2,h1,h2,h3⟩:=hold k' b o' hl' hi';have:=h.st.inj k k2 b o o' hl h2 hi h3;subst this;exact hS.frz k hk k' hl' h1
 refine ⟨kz σ ids,⟨⟨⟨λk'=>EQ hW h.st.ch k' (λhn=>by simp [kz,hn]),λk1 k2 b o1 o2 hl1 hl2 hi1 hi2=>?_,λk' b o hl hi=>?_,h.st.im0,h.st.evol,h.st.os,h.st.tape,h.st.output,h.st.size⟩,λk hk h0 hl=>?_,λk hk hv=>h.nov k hk (by have:=hS.ch k;rw [hv] at this;exact this k (hmv k hk hv))⟩,hf,hmn⟩,λs s' x hle hd=>zn hW hle hd⟩
 ·obtain ⟨q1,a1,a2,a3⟩:=hold k1 b o1 hl1 hi1;obtain ⟨q2,b1,b2,b3⟩:=hold k2 b o2 hl2 hi2;have:=h.st.inj q1 q2 b o1 o2 a2 b2 a3 b3;subst this;exact hS.inj k1 k2 q1 hl1 hl2 a1 b1
 ·obtain ⟨q,_,a2,a3⟩:=hold k' b o hl hi;exact h.st.lt q b o a2 a3
 ·have hs:=hm k hk hl;have hlk:=((hS.ch k).live hl hs).1;have hkp:=h.kept k hk h0 hlk;have hidk:kz σ ids k=ids k:=by simp [kz,hs]
  exact ⟨hidk.trans hkp.id,hkp.kind.trans ((hS.ch k).kind hl hs),λb o hi=>hkp.shape b o (hidk▸hi)⟩
end
section
open Go.RowKit
variable {X:Cx} {hp:Hp} {nx:Nat} {ids:dE} {w:World}
def cS (P:Program) (f:FuncId) (args:List SV) (hin:Hp) (m:Nat) (Post:SV->Hp->Nat->Prop):Prop :=
 (∃ fn body, P.funcs[f]? = some fn /\ fn.body = some body /\ fn.name ≠ "runtime.NumGoroutine") /\ ∀ (X : Cx) (vals : Array Value), X.P = P -> X.m = m -> nm X hin m X.ids0 X.w0 -> vals.size = args.length -> (∀ i x, args[i]? = some x -> cV X hin X.ids0 X.w0 x (vals.getD i undef)) ->
  Calls P f vals X.w0 λe w'=>∃ r res hp' nx' ids',e = .returned r/\Post res hp' nx'/\nm X hp' nx' ids' w'/\cV X hp' ids' w' res r
mutual
def iA (τ:Nm->Nm):SV->SV
 | .any=>.any
 | .v x=>.v x
 | .agg xs=>.agg (jx τ xs)
 | .tup xs=>.tup (jx τ xs)
 | .sl n xs=>.sl n (jx τ xs)
 | .own k o n=>.own (τ k) o n
 | .ptr k o=>.ptr (τ k) o
 | .iptr xs o=>.iptr (jx τ xs) o
 | .mp k=>.mp (τ k)
 | .it k=>.it (τ k)
 | .clo f xs=>.clo f (jx τ xs)
 | .ifc t x=>.ifc t (iA τ x)
 | .mth t x=>.mth t (iA τ x)
 | .asl k o n=>.asl (τ k) o n
 | .bp k e n=>.bp (τ k) e n
 | .gd g x=>.gd g (iA τ x)
def jx (τ:Nm->Nm):List SV->List SV
 | []=>[]
 | x::xs=>iA τ x::jx τ xs
end
theorem lf (τ:Nm->Nm):∀ xs:List SV,jx τ xs=xs.map (iA τ)
 | []=>rfl
 | x::xs=>by rw [jx,lf τ xs];rfl
def ip (τ:Nm->Nm):cp->cp
 | .unborn=>.unborn
 | .dead=>.dead
 | .void=>.void
 | .row e cs=>.row e (jx τ cs)
 | .map es=>.map (es.map λp=>(p.1,iA τ p.2))
 | .obj s pos=>.obj s pos
 | .fam g=>.fam λi=>ip τ (g i)
theorem mA (τ:Nm->Nm) (c:cp):(ip τ c).live=c.live:=by cases c<;>rfl
mutual
def SV.nim:SV->Bool
 | .any=>true
 | .v _=>true
 | .agg xs=>iX xs
 | .tup xs=>iX xs
 | .sl n xs=>n==0&&xs.isEmpty
 | .iptr _ _=>false
 | .clo _ xs=>iX xs
 | .ifc _ x=>x.nim
 | .mth _ x=>x.nim
 | .asl _ _ _=>true
 | .bp _ _ _=>true
 | .gd _ x=>x.nim
 | .own _ _ _=>true
 | .ptr _ _=>true
 | .mp _=>true
 | .it _=>true
def iX:List SV->Bool
 | []=>true
 | x::xs=>x.nim&&iX xs
end
theorem sU:∀ {xs:List SV},iX xs=true->∀ (i:Nat) (x:SV),xs[i]? = some x->x.nim=true
 | [],_,i,x,h=>by simp at h
 | y::ys,hc,i,x,h=>by
  simp only [iX,cT] at hc
  cases i with
  | zero=>simp at h;subst h;exact hc.1
  | succ i=>exact sU hc.2 i x (by simpa using h)
def wL:cp->Bool
 | .row _ cs=>iX cs
 | .map es=>es.all λp=>p.2.nim
 | .fam _=>false
 | _=>true
def t_ (hp:Hp):Bool:=hp.all λp=>wL p.2
theorem Ka (c:cp) (h:wL c=true) (k:Nm):wL (c.mem k)=true:=by
 cases k with
 | t a=>exact h
 | s F i=>cases c<;>first|rfl|cases h
theorem IC {hp:Hp} (h:t_ hp=true) (k:Nm):wL (bX hp k)=true:=by
 induction hp with
 | nil=>rfl
 | cons p r ih =>
  simp only [t_,mK,cT] at h;simp only [bX];cases p.1.eqk k with
  | true=>exact Ka _ h.1 k
  | false=>exact ih h.2
theorem oC {τ:Nm->Nm} {xs:List SV} {i:Nat} {y:SV} (h:(jx τ xs)[i]? = some y):∃ x,xs[i]? = some x/\y=iA τ x:=by
 rw [lf,fZ] at h;cases hx:xs[i]? with
 | none=>rw [hx] at h;cases h
 | some x=>rw [hx] at h;cases h;exact ⟨x,rfl,rfl⟩
theorem Ao {P:Program} {C C2:Nm->cp} {ids ids2:dE} {I I2:Nat->Prop} {w:World} {τ:Nm->Nm} (hC:∀ k,C k≠.unborn->C2 (τ k)=ip τ (C k)/\((C k).live=true->ids2 (τ k)=ids k)) {im:Bool} (hI:im=true->∀ b,I b->I2 b)
  {s:SV} {x:Value} (h:dT P C ids I w s x):(im=false->s.nim=true)->dT P C2 ids2 I2 w (iA τ s) x:=by
 induction h with
 | any=>exact λ_=>.any
 | v=>exact λ_=>.v
 | agg arr h _ ih =>
  intro hn;refine .agg arr (by rw [lf,ep];exact h) λi y hy=>?_
  obtain ⟨x,hx,rfl⟩:=oC hy;exact ih i x hx λhe=>sU (hn he) i x hx
 | tup arr h _ ih =>
  intro hn;refine .tup arr (by rw [lf,ep];exact h) λi y hy=>?_
  obtain ⟨x,hx,rfl⟩:=oC hy;exact ih i x hx λhe=>sU (hn he) i x hx
 | clo arr h _ ih =>
  intro hn;refine .clo arr (by rw [lf,ep];exact h) λi y hy=>?_
  obtain ⟨x,hx,rfl⟩:=oC hy;exact ih i x hx λhe=>sU (hn he) i x hx
 | sl0 hc=>exact λ_=>.sl0 hc
 | sl b o cap c hb hn hcap hc _ ih =>
  intro hnim;cases him:im with
  | false =>
   have:=hnim him;simp only [SV.nim,cT,jC,List.isEmpty_iff] at this;obtain ⟨rfl,rfl⟩:=this;exact .sl0 hcap
  | true =>
   refine .sl b o cap c (hI him b hb) hn hcap (λi y hy=>?_) (λi y hy=>?_)
   ·obtain ⟨x,hx,rfl⟩:=oC hy;exact hc i x hx
   ·obtain ⟨x,hx,rfl⟩:=oC hy;exact ih i x hx λhe=>by rw [him] at he;cases he
 | iptr b o c hb hc _ ih =>
  intro hnim;cases him:im with
  | false=>have:=hnim him;cases this
  | true =>
   refine .iptr b o c (hI him b hb) (λi y hy=>?_) (λi y hy=>?_)
   ·obtain ⟨x,hx,rfl⟩:=oC hy;exact hc i x hx
   ·obtain ⟨x,hx,rfl⟩:=oC hy;exact ih i x hx λhe=>by rw [him] at he;cases he
 | ifc _ ih=>exact λhnim=>.ifc (ih λhe=>hnim he)
 | mth _ ih=>exact λhnim=>.mth (ih λhe=>hnim he)
 | aslDead h=>exact λ_=>.aslDead (by rw [(hC _ (by rw [h];simp)).1,h];rfl)
 | asl b o hl h =>
  rename_i k off n;obtain ⟨h1,h2⟩:=hC k (λe=>by rw [e] at hl;cases hl);exact λ_=>.asl b o (by rw [h1,mA];exact hl) (by rw [h2 hl];exact h)
 | bpDead b h=>exact λ_=>.bpDead b (by rw [(hC _ (by rw [h];simp)).1,h];rfl)
 | bp b arr hl h hw hn =>
  rename_i k e n;obtain ⟨h1,h2⟩:=hC k (λe=>by rw [e] at hl;cases hl);exact λ_=>.bp b arr (by rw [h1,mA];exact hl) (by rw [h2 hl];exact h) hw hn
 | gd _ hn ih=>exact λhnim=>.gd (λhg=>ih hg λhe=>hnim he) hn
 | ownDead h=>exact λ_=>.ownDead (by rw [(hC _ (by rw [h];simp)).1,h];rfl)
 | own a cap hl h =>
  rename_i k off n;intro _;obtain ⟨h1,h2⟩:=hC k (λe=>by rw [e] at hl;cases hl);refine .own a cap (by rw [h1,mA];exact hl) ⟨h.1,h.2.1,λe2 cs2 hc2=>?_,?_⟩
  ·rw [h1] at hc2;cases hck:C k with
   | row e3 cs3 =>
    rw [hck,ip] at hc2;cases hc2;rw [lf,ep];exact h.2.2.1 _ _ hck
   | _=>rw [hck,ip] at hc2;cases hc2
  rcases h.2.2.2 with h3|⟨b,o,e,cs,arr,hc,hid,ha,hw,hsz⟩
  ·exact .inl h3
  ·exact .inr ⟨b,o,e,jx τ cs,arr,by rw [h1,hc];rfl,by rw [h2 hl];exact hid,ha,hw,hsz⟩
 | ptrDead b q h=>exact λ_=>.ptrDead b q (by rw [(hC _ (by rw [h];simp)).1,h];rfl)
 | ptr b o hl h =>
  rename_i k off;obtain ⟨h1,h2⟩:=hC k (λe=>by rw [e] at hl;cases hl);exact λ_=>.ptr b o (by rw [h1,mA];exact hl) (by rw [h2 hl];exact h)
 | mpDead h=>exact λ_=>.mpDead (by rw [(hC _ (by rw [h];simp)).1,h];rfl)
 | mp b hl h =>
  rename_i k;obtain ⟨h1,h2⟩:=hC k (λe=>by rw [e] at hl;cases hl);exact λ_=>.mp b (by rw [h1,mA];exact hl) (by rw [h2 hl];exact h)
 | itDead h=>exact λ_=>.itDead (by rw [(hC _ (by rw [h];simp)).1,h];rfl)
 | it b hl h =>
  rename_i k;obtain ⟨h1,h2⟩:=hC k (λe=>by rw [e] at hl;cases hl);exact λ_=>.it b (by rw [h1,mA];exact hl) (by rw [h2 hl];exact h)
def Nm.sh (nx:Nat):Nm->Nm
 | .t k=>.t (nx+k)
 | .s F i=>.s (nx+F) i
@[simp] theorem Nm.sh_base (nx:Nat) (k:Nm):(k.sh nx).base=nx+k.base:=by cases k<;>rfl
theorem Nm.sh_inj {nx:Nat} {a b:Nm} (h:a.sh nx=b.sh nx):a=b:=by
 cases a<;>cases b<;>simp_all [Nm.sh]
def rj (σ:Nm->Option Nm):Prop:=∀ F i,σ (.s F i)=(σ (.s F 0)).map λj=>.s j.base i
def ga (σ:Nm->Option Nm) (nx:Nat) (k:Nm):Nm:=match σ k with
 | some j=>j
 | none=>k.sh nx
theorem uY {σ:Nm->Option Nm} (h:rj σ) (nx F:Nat) (i:Int):ga σ nx (.s F i) = .s (ga σ nx (.s F 0)).base i:=by
 unfold ga;rw [h F i];cases hs:σ (.s F 0) with
 | none=>rfl
 | some j=>rfl
def yp (σ:Nm->Option Nm) (nx:Nat) (p:Nm×cp) (H:Hp):Nm×cp:=match p.1 with
 | .t k=>ea (ga σ nx (.t k)) (ip (ga σ nx) p.2) H
 | .s F _=>(.s (ga σ nx (.s F 0)).base 0,ip (ga σ nx) p.2)
def iZ (σ:Nm->Option Nm) (nx:Nat):Hp->Hp->Hp
 | [],_=>[]
 | p::r,hp=>yp σ nx p (iZ σ nx r hp++hp)::iZ σ nx r hp
def pA (σ:Nm->Option Nm) (m:Nat):Hp:=(List.range m).flatMap λk=>(bif (σ (.t k)).isSome then [(Nm.t k,cp.dead)] else [])++(bif (σ (.s k 0)).isSome then [(Nm.s k 0,cp.dead)] else [])
def mT (σ:Nm->Option Nm) (m:Nat):List Nm:=(List.range m).flatMap λk=>((σ (.t k)).map Nm.key).toList++((σ (.s k 0)).map Nm.key).toList
def back (σ:Nm->Option Nm) (nx m:Nat) (hp' hp:Hp):Hp:=iZ σ nx (hp'++pA σ m) hp
theorem fE (l r:Hp) (k:Nm):bX (l++r) k=if (∃ p∈l,p.1.key=k.key) then bX l k else bX r k:=by
 induction l with
 | nil=>simp [bX]
 | cons p l ih =>
  simp only [iz,bX];by_cases h:p.1.key=k.key
  ·rw [Nm.eqk_iff.2 h,cd,cd,if_pos ⟨p,by simp,h⟩]
  ·rw [Nm.eqk_no h,cj,cj,ih];by_cases h2:∃ q∈l,q.1.key=k.key
   ·rw [if_pos h2,if_pos];obtain ⟨q,hq,hk⟩:=h2;exact ⟨q,by simp [hq],hk⟩
   ·rw [if_neg h2,if_neg];rintro ⟨q,hq,hk⟩;rcases fg.1 hq with rfl|hq
    ·exact h hk
    ·exact h2 ⟨q,hq,hk⟩
theorem pB {l:Hp} {k:Nm} (h:¬∃p∈l,p.1.key=k.key):bX l k = .unborn:=by
 induction l with
 | nil=>rfl
 | cons p l ih =>
  simp only [bX];rw [Nm.eqk_no (λe=>h ⟨p,by simp,e⟩),cj];exact ih λ⟨q,hq,hk⟩=>h ⟨q,by simp [hq],hk⟩
theorem Kb (τ:Nm->Nm) (c:cp) (i:Int):(ip τ c).at i=ip τ (c.at i):=by
 cases c with
 | fam g=>simp only [ip,cp.at];cases g i<;>rfl
 | _=>rfl
end
section
open Go.RowKit
variable {X:Cx} {hp:Hp} {nx:Nat} {ids:dE} {w:World}
def o7 (hp:Hp):Bool:=hp.all λp=>match p.1 with
 | .t _=>match p.2 with
  | .unborn=>false
  | .fam _=>false
  | _=>true
 | .s _ _=>true
theorem qQ {p:Nm×cp} {r:Hp} (h:o7 (p::r)=true):(∀ k,p.1.key=k.key->p.2.mem k≠.unborn/\∀ g,p.2.mem k≠.fam g)/\o7 r=true:=by
 simp only [o7,mK,cT] at h;refine ⟨λk hk=>?_,h.2⟩;have h1:=h.1;cases k with
 | t a =>
  rw [Nm.key_t,Nm.key_eq_t] at hk;rw [hk] at h1;simp only [cp.mem];cases hp:p.2<;>simp_all
 | s F i=>exact ⟨xn _ _,B7 _ _⟩
theorem xp {hp:Hp} (h:o7 hp=true) {k:Nm} (hk:∃ p∈hp,p.1.key=k.key):bX hp k≠.unborn:=by
 induction hp with
 | nil=>obtain ⟨p,hp,_⟩:=hk;cases hp
 | cons p r ih =>
  obtain ⟨h1,h2⟩:=qQ h;simp only [bX];by_cases hpk:p.1.key=k.key
  ·rw [Nm.eqk_iff.2 hpk,cd];exact (h1 k hpk).1
  ·rw [Nm.eqk_no hpk,cj];obtain ⟨q,hq,hqk⟩:=hk;rcases fg.1 hq with rfl|hq
   ·exact absurd hqk hpk
   ·exact ih h2 ⟨q,hq,hqk⟩
theorem AX {hp:Hp} (h:o7 hp=true) {k:Nm} (g:Int->cp):bX hp k≠.fam g:=by
 induction hp with
 | nil=>simp [bX]
 | cons p r ih =>
  obtain ⟨h1,h2⟩:=qQ h;simp only [bX];by_cases hpk:p.1.key=k.key
  ·rw [Nm.eqk_iff.2 hpk,cd];exact (h1 k hpk).2 g
  ·rw [Nm.eqk_no hpk,cj];exact ih h2
theorem FU (l r:Hp):o7 (l++r)=(o7 l&&o7 r):=by simp [o7]
theorem Cs (σ:Nm->Option Nm) (m:Nat):o7 (pA σ m)=true:=by
 unfold o7 pA;rw [dQ];intro p hp;obtain ⟨k,_,hk⟩:=pN.1 hp;rcases gy.1 hk with h|h
 ·cases hs:(σ (.t k)).isSome<;>rw [hs] at h<;>simp at h;subst h;rfl
 ·cases hs:(σ (.s k 0)).isSome<;>rw [hs] at h<;>simp at h;subst h;rfl
theorem dZ.ren {a b:cp} (h:dZ a b) (τ:Nm->Nm):dZ a (ip τ b):=by cases a<;>cases b<;>simp_all [dZ,ip,lf]
theorem AY {τ:Nm->Nm} {c:cp} (h:c≠.unborn/\∀ g,c≠.fam g):ip τ c≠.unborn/\∀ g,ip τ c≠.fam g:=by
 cases c<;>simp_all [ip]
theorem Hg {p:Nm×cp} {H:Hp} {j:Nm} (h:bX H j≠.unborn) (hp:∀ k,p.1.key=k.key->p.2.mem k≠.unborn):bX (p::H) j≠.unborn:=by
 simp only [bX];by_cases hk:p.1.key=j.key
 ·rw [Nm.eqk_iff.2 hk,cd];exact hp j hk
 ·rw [Nm.eqk_no hk,cj];exact h
theorem Hh (σ:Nm->Option Nm) (nx:Nat) {p:Nm×cp} {H:Hp} (hp:∀ k,p.1.key=k.key->p.2.mem k≠.unborn/\∀ g,p.2.mem k≠.fam g):∀ k,(yp σ nx p H).1.key=k.key->(yp σ nx p H).2.mem k≠.unborn:=by
 intro k hk;cases k with
 | s F i=>exact xn _ _
 | t a =>
  unfold yp at hk ⊢;cases hp1:p.1 with
  | t b =>
   rw [hp1] at hk hp;simp only at hk ⊢;have h1:=(AY (τ:=ga σ nx) (hp (.t b) rfl)).1;cases hb:ga σ nx (.t b) with
   | t c=>simp only [ea,cp.mem];exact h1
   | s G z=>rw [hb] at hk;simp [ea,Nm.key] at hk
  | s F z=>rw [hp1] at hk;simp [Nm.key] at hk
theorem zo (σ:Nm->Option Nm) (nx:Nat) {H0:Hp} {j:Nm} (h:bX H0 j≠.unborn):∀ {l:Hp},o7 l=true->bX (iZ σ nx l H0++H0) j≠.unborn
 | [],_=>h
 | p::r,hw=>by
  obtain ⟨h1,h2⟩:=qQ hw
  exact Hg (zo σ nx h h2) (Hh σ nx h1)
theorem AZ {σ:Nm->Option Nm} {nx nx':Nat} (hsig:rj σ) (hτ:∀ a b:Nm,a.base<nx'->b.base<nx'->ga σ nx a=ga σ nx b->a=b) {H0:Hp} (hb:∀ k j,σ k=some j->bX H0 j≠.unborn):∀ {l:Hp},o7 l=true->(∀ p∈l,p.1.base<nx') ->
  (∀ k:Nm,(∃ p∈l,p.1.key=k.key)->bX (iZ σ nx l H0++H0) (ga σ nx k)=ip (ga σ nx) (bX l k)) /\
  (∀ j,(∀ k:Nm,(∃ p∈l,p.1.key=k.key)->ga σ nx k≠j)->bX (iZ σ nx l H0++H0) j=bX H0 j)
 | [],_,_=>⟨λk hk=>(by obtain ⟨p,hp,_⟩:=hk;cases hp),λj _=>rfl⟩
 | p::r,hw,hl=>by
  obtain ⟨w1,w2⟩:=qQ hw
  obtain ⟨ih1,ih2⟩:=AZ hsig hτ hb w2 λq hq=>hl q (by simp [hq])
  have hlp:=hl p (by simp)
  have base_of:∀ k:Nm,(∃ q∈p::r,q.1.key=k.key)->k.base<nx':=λk ⟨q,hq,hk⟩=>by
   have:=hl q hq
   rw [←Nm.key_base,hk,Nm.key_base] at this
   exact this
  -- what the first entry does
  have E:(∀ k:Nm,p.1.key=k.key->bX (iZ σ nx (p::r) H0++H0) (ga σ nx k)=ip (ga σ nx) (p.2.mem k))/\(∀ j,(∀ k:Nm,p.1.key=k.key->ga σ nx k≠j)->bX (iZ σ nx (p::r) H0++H0) j=bX (iZ σ nx r H0++H0) j):=by
   simp only [iZ,iz]
   unfold yp
   cases hp1:p.1 with
   | t a =>
    simp only
    have hc:=AY (τ:=ga σ nx) (w1 (.t a) (by rw [hp1]))
    have hput:bX (ea (ga σ nx (.t a)) (ip (ga σ nx) p.2) (iZ σ nx r H0++H0)::(iZ σ nx r H0++H0))=upd (bX (iZ σ nx r H0++H0)) (ga σ nx (.t a)) (ip (ga σ nx) p.2):=by
     cases hb2:ga σ nx (.t a) with
     | t c=>exact dw _ _ _
     | s G z =>
      refine jH (zo σ nx ?_ w2) hc
      unfold ga at hb2
      cases hs:σ (.t a) with
      | none=>rw [hs] at hb2;simp [Nm.sh] at hb2
      | some j=>rw [hs] at hb2;simp only at hb2;rw [←hb2];exact hb _ _ hs
    refine ⟨λk hk=>?_,λj hj=>?_⟩
    ·rw [Nm.key_t] at hk
     have:=Nm.key_eq_t.1 hk.symm
     subst this
     rw [hput,cH];rfl
    ·rw [hput,dP _ _ (λe=>hj (.t a) (by simp) e.symm)]
   | s F z =>
    simp only
    refine ⟨λk hk=>?_,λj hj=>?_⟩
    ·cases k with
     | t a=>simp [Nm.key] at hk
     | s G i =>
      simp only [Nm.key_s,Nm.s.injEq,k_] at hk
      subst hk
      have hbs:=uY hsig nx F i
      rw [hbs]
      simp only [Nm.base_s,bX,Nm.eqk,oO,cd,cp.mem]
      exact Kb _ _ _
    ·simp only [bX]
     cases hq:Nm.eqk (.s (ga σ nx (.s F 0)).base 0) j with
     | false=>rfl
     | true =>
      cases j with
      | t a=>simp [Nm.eqk] at hq
      | s G i =>
       simp only [Nm.eqk,jC] at hq
       exact absurd ((uY hsig nx F i).trans (by rw [hq])) (hj (.s F i) rfl)
  refine ⟨λk hk=>?_,λj hj=>?_⟩
  ·have hkb:=base_of k hk
   simp only [bX]
   by_cases hpk:p.1.key=k.key
   ·rw [Nm.eqk_iff.2 hpk,cd];exact E.1 k hpk
   ·rw [Nm.eqk_no hpk,cj,E.2 _ λk2 hk2 he=>hpk ?_]
    ·refine ih1 k ?_
     obtain ⟨q,hq,hqk⟩:=hk
     rcases fg.1 hq with rfl|hq
     ·exact absurd hqk hpk
     ·exact ⟨q,hq,hqk⟩
    ·have:=hτ k2 k (base_of k2 ⟨p,by simp,hk2⟩) hkb he
     rw [hk2,this]
  ·rw [E.2 j λk hk=>hj k ⟨p,by simp,hk⟩]
   exact ih2 j λk ⟨q,hq,hqk⟩=>hj k ⟨q,by simp [hq],hqk⟩
theorem ID {P:Program} {C C2:Nm->cp} {ids ids2:dE} {I I2:Nat->Prop} {w:World} {τ:Nm->Nm} (hC:∀ k,C k≠.unborn->C2 (τ k)=ip τ (C k)/\((C k).live=true->ids2 (τ k)=ids k)) {im:Bool} (hI:im=true->∀ b,I b->I2 b)
  {k:Nm} {c:cp} (hl:c.live=true) (hid:ids2 (τ k)=ids k) (h:fH P C ids I w k c) (hn:im=false->wL c=true):fH P C2 ids2 I2 w (τ k) (ip τ c):=by
 cases c with
 | unborn=>cases hl
 | dead=>cases hl
 | void=>cases hl
 | row e cs =>
  simp only [fH,ip,hid] at h ⊢;cases hik:ids k with
  | none=>rw [hik] at h;simp only at h;subst h;rfl
  | some p =>
   obtain ⟨b,o⟩:=p;rw [hik] at h;obtain ⟨arr,ha,hs,hx⟩:=h;refine ⟨arr,ha,by rw [lf,ep];exact hs,λi y hy=>?_⟩;obtain ⟨x,hxi,rfl⟩:=oC hy;exact Ao hC hI (hx i x hxi) λhe=>sU (hn he) i x hxi
 | map es =>
  obtain ⟨b,arr,clock,h1,h2,h3,h4,hbo⟩:=h;refine ⟨b,arr,clock,hid.trans h1,h2,by simp [h3],λi y hy=>?_,hbo⟩;rw [fZ] at hy;cases hei:es[i]? with
  | none=>rw [hei] at hy;cases hy
  | some x =>
   rw [hei] at hy;cases hy;obtain ⟨g1,g2⟩:=h4 i x hei;refine ⟨g1,Ao hC hI g2 λhe=>?_⟩;have:=hn he;simp only [wL,dQ] at this;exact this x (pO hei)
 | obj s pos =>
  obtain ⟨b,h1,h2⟩:=h;exact ⟨b,hid.trans h1,h2⟩
 | fam g=>cases hl
set_option maxHeartbeats 1000000 in
theorem FV (h:HeapC X hp ids w) (hmnx:X.m<=nx) {f:FuncId} {args args':List SV} {hin:Hp} {m:Nat} {Post:SV->Hp->Nat->Prop} (hspec:cS X.P f args' hin m Post) {σ:Nm->Option Nm} {bor:Nm->Prop}
  (hS:vX X.P (bX hp) (bX hin) σ bor) (hsig:rj σ) (hσm:∀ k:Nm,m<=k.base->σ k=none/\bX hin k = .unborn) (hσi:∀ k1 k2 j,σ k1=some j->σ k2=some j->k1=k2) (hσl:∀ k j,σ k=some j->(bX hin k).live=true\/(bX hin k = .dead/\bX hp j = .dead)\/(bX hin k = .void/\bX hp j = .void))
  (hal:args.length=args'.length) (hargs:∀ (i:Nat) (x y:SV),args[i]? = some x->args'[i]? = some y->jL X.P (bX hp) (bX hin) σ bor x y) {vals:Array Value} (hv:vals.size=args.length) (hd:∀ i x,args[i]? = some x->cV X hp ids w x (vals.getD i undef)) :
  Calls X.P f vals w λe w'=>∃ r res hp' nx',e = .returned r/\Post res hp' nx'/\((∀ k:Nm,nx'<=k.base->bX hp' k = .unborn)/\m<=nx')/\(o7 hp'=true/\(∀ k:Nm,k.base<nx'->bX hp (k.sh nx) = .unborn)/\((∀ k,¬ bor k)\/(res.nim=true/\t_ hp'=true)) ->
  ∃ids2,HeapC X (back σ nx m hp' hp++hp) ids2 w'/\fk X hp ids w (back σ nx m hp' hp++hp) ids2 w'/\cV X (back σ nx m hp' hp++hp) ids2 w' (iA (ga σ nx) res) r):=by
 have hold:∀ k' b o,(bX hin k').live=true->kz σ ids k'=some (b,o)->∃ k,σ k'=some k/\(bX hp k).live=true/\ids k=some (b,o):=λk' b o hl hi=>by
  unfold kz at hi
  cases hs:σ k' with
  | none=>rw [hs] at hi;cases hi
  | some k=>rw [hs] at hi;exact ⟨k,rfl,((hS.ch k').live hl hs).1,hi⟩
 have hgl:sb X.P (λb=>Im X.w0 X.I0 X.W0 (bX hp) ids w b\/∃ k o,bor k/\(bX hp k).live=true/\ids k=some (b,o)) w:=λg cs hc=>by
  obtain ⟨h1,h2⟩:=X.gl g cs hc
  obtain ⟨h3,h4⟩:=h.st.im0 g h1
  have him:∀ b,X.I0 b->Im X.w0 X.I0 X.W0 (bX hp) ids w b:=λb hb=>by
   obtain ⟨h3,h4⟩:=h.st.im0 b hb
   refine ⟨.inl hb,qG h3 h.st.size,λk hl o hi=>?_⟩
   rcases (h.st.lt k b o hl hi).2 with h5|h5
   ·exact h4 h5
   ·omega
  refine ⟨.inl (him g h1),λi x hi=>?_⟩
  obtain ⟨y,hy,hd⟩:=h2 i x hi
  exact ⟨y,(nV (h.st.evol g h3 h4)).trans hy,hd.mono (λb hb=>.inl (him b hb)) λb hb i=>nV (h.st.evol b (h.st.im0 b hb).1 (h.st.im0 b hb).2)⟩
 let Y:Cx:={ gl:=hgl,P:=X.P,w0:=w,I0:=λb=>Im X.w0 X.I0 X.W0 (bX hp) ids w b\/∃ k o,bor k/\(bX hp k).live=true/\ids k=some (b,o),W0:=λb=>∃ k' o,(bX hin k').live=true/\kz σ ids k'=some (b,o),m:=m,ids0:=kz σ ids,C0:=bX hin }
 have hYI:∀ b,Y.I0 b->b<w.heap.size/\¬ Y.W0 b:=by
  rintro b (hb|⟨k,o,hk,hl,hi⟩)
  ·refine ⟨hb.2.1,?_⟩
   rintro ⟨k',o',hl',hi'⟩
   obtain ⟨k,_,h2,h3⟩:=hold k' b o' hl' hi'
   exact hb.2.2 k h2 o' h3
  ·refine ⟨(h.st.lt k b o hl hi).1,?_⟩
   rintro ⟨k',o',hl',hi'⟩
   obtain ⟨k2,h1,h2,h3⟩:=hold k' b o' hl' hi'
   have:=h.st.inj k k2 b o o' hl h2 hi h3
   subst this
   exact hS.frz k hk k' hl' h1
 have hIm:∀ b,Y.I0 b->Im Y.w0 Y.I0 Y.W0 (bX hin) (kz σ ids) w b:=λb hb=>⟨.inl hb,(hYI b hb).1,λk' hl' o hi=>(hYI b hb).2 ⟨k',o,hl',hi⟩⟩
 have hW:FT X.P (bX hp) (bX hin) σ bor ids (kz σ ids) (Im X.w0 X.I0 X.W0 (bX hp) ids w) (Im Y.w0 Y.I0 Y.W0 (bX hin) (kz σ ids) w) w :=
  ⟨hS,λb hb=>hIm b (.inl hb),λk' k hs hl=>by simp [kz,hs],λk hk hl b o hi=>hIm b (.inr ⟨k,o,hk,hl,hi⟩),λk e cs hk=>by have:=h.st.ch k;rwa [hk] at this⟩
 have hY:nm Y hin m (kz σ ids) w:=by
  refine ⟨⟨⟨λk'=>EQ hW h.st.ch k' (λhn=>by simp [kz,hn]),λk1 k2 b o1 o2 hl1 hl2 hi1 hi2=>?_,λk' b o hl hi=>?_,hYI,λb _ _=>rfl,rfl,⟨rfl,cF _⟩,rfl,cF _⟩,λk hk _ hl=>⟨rfl,dZ.refl hl,λb o _=>dN.refl _⟩,λk _ hv=>hv⟩,λk hk=>(hσm k hk).2,cF _⟩
  ·obtain ⟨q1,a1,a2,a3⟩:=hold k1 b o1 hl1 hi1
   obtain ⟨q2,b1,b2,b3⟩:=hold k2 b o2 hl2 hi2
   have:=h.st.inj q1 q2 b o1 o2 a2 b2 a3 b3
   subst this
   exact hσi k1 k2 q1 a1 b1
  ·obtain ⟨q,_,a2,a3⟩:=hold k' b o hl hi
   exact ⟨(h.st.lt q b o a2 a3).1,.inl ⟨k',o,hl,hi⟩⟩
 refine (hspec.2 Y vals rfl rfl hY (by rw [hv,hal]) λi y hy=>?_).mono λe w'=>?_
 ·have hlt:=(dy.1 hy).1
  have hx:=dz (show i<args.length by omega)
  exact zn hW (hargs i _ y hx hy) (hd i _ hx)
 rintro ⟨r,res,hp',nx',ids',rfl,hpost,h',hres⟩
 refine ⟨r,res,hp',nx',rfl,hpost,⟨h'.fresh,h'.m_le⟩,λ⟨hwf,hfr,hbor⟩=>?_⟩
 -- names
 have hσnx:∀ k j,σ k=some j->bX hp j≠.unborn/\k.base<m:=λk j hk=>by
  refine ⟨?_,?_⟩
  ·rcases hσl k j hk with hl|⟨_,hl⟩|⟨_,hl⟩
   ·exact iY ((hS.ch k).live hl hk).1
   ·rw [hl];simp
   ·rw [hl];simp
  by_cases hkm:k.base<m
  ·exact hkm
  ·have:=(hσm k (by omega)).1;rw [hk] at this;cases this
 have hτ:∀ a b:Nm,(a.base<nx'\/∃ j,σ a=some j)->(b.base<nx'\/∃ j,σ b=some j)->ga σ nx a=ga σ nx b->a=b:=λa b hKa hKb hab=>by
  unfold ga at hab
  cases ha:σ a with
  | none=>cases hb:σ b with
   | none=>rw [ha,hb] at hab;simp only at hab;exact Nm.sh_inj hab
   | some j =>
    rw [ha,hb] at hab;simp only at hab
    have hl:=(hσnx b j hb).1
    rcases hKa with hKa|⟨j',hj'⟩
    ·rw [←hab,hfr a hKa] at hl;exact absurd rfl hl
    ·rw [ha] at hj';cases hj'
  | some i=>cases hb:σ b with
   | none =>
    rw [ha,hb] at hab;simp only at hab
    have hl:=(hσnx a i ha).1
    rcases hKb with hKb|⟨j',hj'⟩
    ·rw [hab,hfr b hKb] at hl;exact absurd rfl hl
    ·rw [hb] at hj';cases hj'
   | some j=>rw [ha,hb] at hab;simp only at hab;subst hab;exact hσi a b i ha hb
 have hlk:∀ p∈hp',p.1.base<nx':=λp hp1=>by
  by_cases hlt:p.1.base<nx'
  ·exact hlt
  ·exact absurd (h'.fresh p.1 (by omega)) (xp hwf ⟨p,hp1,rfl⟩)
 have hlkk:∀ k:Nm,(∃ p∈hp',p.1.key=k.key)->k.base<nx':=λk ⟨p,hp1,hk⟩=>by
  have:=hlk p hp1
  rw [←Nm.key_base,hk,Nm.key_base] at this
  exact this
 have hpass:∀ k j,σ k=some j->∃ p∈pA σ m,p.1.key=k.key:=λk j hk=>by
  have hkm:=(hσnx k j hk).2
  unfold pA
  cases k with
  | t a=>exact ⟨(.t a,.dead),pN.2 ⟨a,jD.2 hkm,by simp [hk]⟩,rfl⟩
  | s F i =>
   have h0:(σ (.s F 0)).isSome=true:=by
    rw [hsig F i] at hk
    cases hs:σ (.s F 0) with
    | none=>rw [hs] at hk;cases hk
    | some j=>rfl
   exact ⟨(.s F 0,.dead),pN.2 ⟨F,jD.2 hkm,by simp [h0]⟩,rfl⟩
 have hpassL:∀ p∈pA σ m,p.1.base<nx'/\∃ j,σ p.1=some j:=λp hp1=>by
  unfold pA at hp1
  have hmn:=h'.m_le
  obtain ⟨k,hk,hkk⟩:=pN.1 hp1
  have hk:=jD.1 hk
  have hmn2:m<=nx':=hmn
  rcases gy.1 hkk with h1|h1
  ·cases hs:(σ (.t k)).isSome<;>rw [hs] at h1<;>simp at h1
   subst h1;exact ⟨by simp;omega,qL.1 hs⟩
  ·cases hs:(σ (.s k 0)).isSome<;>rw [hs] at h1<;>simp at h1
   subst h1;exact ⟨by simp;omega,qL.1 hs⟩
 have hwf2:o7 (hp'++pA σ m)=true:=by rw [FU,hwf,Cs];rfl
 obtain ⟨B1,B2⟩:=AZ (nx:=nx) (nx':=nx') hsig (λa b ha hb=>hτ a b (.inl ha) (.inl hb)) (H0:=hp) (λk j hk=>(hσnx k j hk).1) hwf2 (λp hp1=>(gy.1 hp1).elim (hlk p) λh1=>(hpassL p h1).1)
 generalize hTdef:ga σ nx=τ at hτ B1 B2
 have hτs:∀ k j,σ k=some j->τ k=j:=λk j hk=>by rw [←hTdef];simp [ga,hk]
 have hτn:∀ k,σ k=none->τ k=k.sh nx:=λk hk=>by rw [←hTdef];simp [ga,hk]
 -- F1
 have F1:∀ k,bX hp' k≠.unborn->bX (back σ nx m hp' hp++hp) (τ k)=ip τ (bX hp' k):=λk hk=>by
  have hlist:∃ p∈hp',p.1.key=k.key:=Classical.byContradiction λhn=>hk (pB hn)
  unfold back
  rw [B1 k (by obtain ⟨p,hp1,hp2⟩:=hlist;exact ⟨p,by simp [hp1],hp2⟩),fE,if_pos hlist]
 -- passed ones that are not told of
 have F2:∀ k j,σ k=some j->bX hp' k = .unborn->bX (back σ nx m hp' hp++hp) j = .dead:=λk j hs hk=>by
  have hnl:¬∃p∈hp',p.1.key=k.key:=λhh=>xp hwf hh hk
  obtain ⟨p,hp1,hp2⟩:=hpass k j hs
  have:=B1 k ⟨p,by simp [hp1],hp2⟩
  unfold back
  rw [hτs k j hs] at this
  rw [this,fE,if_neg hnl]
  have hd:∀ (l:Hp),(∀ p∈l,p.2 = .dead\/p.2 = .fam λ_=>.dead)->o7 l=true->(∃ p∈l,p.1.key=k.key)->bX l k = .dead:=by
   intro l
   induction l with
   | nil=>exact λ_ _ ⟨p,hp,_⟩=>by cases hp
   | cons q l ih =>
    intro hl hwl hq
    simp only [bX]
    by_cases hqk:q.1.key=k.key
    ·rw [Nm.eqk_iff.2 hqk,cd]
     have h0:=((qQ hwl).1 k hqk).2
     rcases hl q (by simp) with h1|h1
     ·rw [h1];cases k<;>rfl
     ·rw [h1] at h0 ⊢
      cases k with
      | t a=>exact absurd rfl (h0 _)
      | s F i=>rfl
    ·rw [Nm.eqk_no hqk,cj]
     refine ih (λp hp=>hl p (by simp [hp])) (qQ hwl).2 ?_
     obtain ⟨p,hp1,hp2⟩:=hq
     rcases fg.1 hp1 with rfl|hp1
     ·exact absurd hp2 hqk
     ·exact ⟨p,hp1,hp2⟩
  rw [hd (pA σ m) (λp hp1=>?_) (Cs σ m) ⟨p,hp1,hp2⟩]
  ·rfl
  ·unfold pA at hp1
   obtain ⟨q,_,hkk⟩:=pN.1 hp1
   rcases gy.1 hkk with h1|h1
   ·cases hs:(σ (.t q)).isSome<;>rw [hs] at h1<;>simp at h1
    subst h1;exact .inl rfl
   ·cases hs:(σ (.s q 0)).isSome<;>rw [hs] at h1<;>simp at h1
    subst h1;exact .inl rfl
 -- the others
 have F3:∀ j,(∀ k:Nm,(∃ p∈hp',p.1.key=k.key)->τ k≠j)->(∀ k,σ k≠some j)->bX (back σ nx m hp' hp++hp) j=bX hp j:=λj hj hn=>by
  unfold back
  refine B2 j λk ⟨p,hp1,hp2⟩=>?_
  rcases gy.1 hp1 with h1|h1
  ·exact hj k ⟨p,h1,hp2⟩
  ·intro he
   obtain ⟨_,q,hq⟩:=hpassL p h1
   have:∃ i,σ k=some i:=by
    cases k with
    | t a=>rw [Nm.key_t,Nm.key_eq_t] at hp2;rw [hp2] at hq;exact ⟨_,hq⟩
    | s F i =>
     cases hp3:p.1 with
     | t a=>rw [hp3] at hp2;simp [Nm.key] at hp2
     | s G z =>
      rw [hp3] at hp2 hq
      simp only [Nm.key_s,Nm.s.injEq,k_] at hp2
      subst hp2
      rw [hsig G z] at hq
      rw [hsig G i]
      cases hs:σ (.s G 0) with
      | none=>rw [hs] at hq;cases hq
      | some y=>exact ⟨_,rfl⟩
   obtain ⟨i,hi⟩:=this
   rw [hτs k i hi] at he
   subst he
   exact hn k hi
 have hσlive:∀ k j,σ k=some j->(bX hp' k).live=true->(bX hin k).live=true\/(bX hin k = .void/\bX hp j = .void):=λk j hk hl=>by
  rcases hσl k j hk with h1|⟨h1,_⟩|h1
  ·exact .inl h1
  ·have h2:dZ (bX hin k) (bX hp' k):=(h'.kept k (hσnx k j hk).2 (by show bX hin k≠_;rw [h1];simp) hl).kind
   rw [h1] at h2;exact h2.elim
  ·exact .inr h1
 generalize hC2:bX (back σ nx m hp' hp++hp)=C2 at F1 F2 F3
 -- whoever lives in the old heap bears no new name
 have hold2:∀ j,(bX hp j).live=true->(∀ k,σ k≠some j)->∀ k:Nm,(∃ p∈hp',p.1.key=k.key)->τ k≠j:=λj hl hn k hk he=>by
  cases hs:σ k with
  | none=>rw [hτn _ hs] at he;rw [←he,hfr _ (hlkk k hk)] at hl;cases hl
  | some i=>rw [hτs _ i hs] at he;subst he;exact hn _ hs
 have hcls:∀ j,(C2 j).live=true->(∃ k,j=τ k/\(k.base<nx'\/∃ j,σ k=some j)/\(bX hp' k).live=true/\C2 j=ip τ (bX hp' k))\/((∀ k,σ k≠some j)/\C2 j=bX hp j/\(bX hp j).live=true):=λj hj=>by
  by_cases hp2:∃ k,σ k=some j
  ·obtain ⟨k,hk⟩:=hp2
   left
   by_cases hu:bX hp' k = .unborn
   ·rw [F2 k j hk hu] at hj;cases hj
   ·have:=F1 k hu
    rw [hτs k j hk] at this
    exact ⟨k,(hτs k j hk).symm,.inr ⟨j,hk⟩,by rw [this,mA] at hj;exact hj,this⟩
  ·have hn:∀ k,σ k≠some j:=λk hk=>hp2 ⟨k,hk⟩
   by_cases hli:∃ k:Nm,(∃ p∈hp',p.1.key=k.key)/\τ k=j
   ·obtain ⟨k,hk,rfl⟩:=hli
    left
    have:=F1 k (xp hwf hk)
    exact ⟨k,rfl,.inl (hlkk k hk),by rw [this,mA] at hj;exact hj,this⟩
   ·right
    have:=F3 j (λk hk he=>hli ⟨k,hk,he⟩) hn
    exact ⟨hn,this,by rw [this] at hj;exact hj⟩
 open Classical in
 let ids2:dE:=λj=>if hk:∃ k,(k.base<nx'\/∃ j,σ k=some j)/\τ k=j then ids' hk.choose else ids j
 have hi1:∀ k,(k.base<nx'\/∃ j,σ k=some j)->ids2 (τ k)=ids' k:=λk hK=>by
  have hk:∃ q,(q.base<nx'\/∃ j,σ q=some j)/\τ q=τ k:=⟨k,hK,rfl⟩
  simp only [ids2,dif_pos hk]
  rw [hτ _ _ hk.choose_spec.1 hK hk.choose_spec.2]
 have hi2:∀ j,(bX hp j).live=true->(∀ k,σ k≠some j)->ids2 j=ids j:=λj hj hn=>by
  have:¬∃k,(k.base<nx'\/∃ j,σ k=some j)/\τ k=j:=λ⟨k,hK,hk⟩=>by
   cases hs:σ k with
   | none =>
    rcases hK with hK|⟨j',hj'⟩
    ·rw [hτn k hs] at hk;rw [←hk,hfr k hK] at hj;cases hj
    ·rw [hs] at hj';cases hj'
   | some i=>rw [hτs k i hs] at hk;subst hk;exact hn k hs
  simp only [ids2,dif_neg this]
 have hW0:∀ b,Y.W0 b->∃ k j o,σ k=some j/\(bX hp j).live=true/\ids j=some (b,o):=λb ⟨k',o,hl,hi⟩=>by
  obtain ⟨k,h1,h2,h3⟩:=hold k' b o hl hi
  exact ⟨k',k,o,h1,h2,h3⟩
 have hE:ku (bX hp) ids (Im X.w0 X.I0 X.W0 (bX hp) ids w) w C2 ids2 (Im X.w0 X.I0 X.W0 C2 ids2 w') w':=by
  refine ⟨λb hb=>?_,λj hj=>?_,λj hj=>?_⟩
  ·have hnW:¬ Y.W0 b:=λhh=>by
    obtain ⟨k,j,o,h1,h2,h3⟩:=hW0 b hh
    exact hb.2.2 j h2 o h3
   refine ⟨⟨hb.1,qG hb.2.1 h'.st.size,λj hj o hi=>?_⟩,h'.st.evol b hb.2.1 hnW⟩
   rcases hcls j hj with ⟨k,rfl,hK,hl,_⟩|⟨hn,_,hl⟩
   ·rw [hi1 k hK] at hi
    rcases (h'.st.lt k b o hl hi).2 with h1|h1
    ·exact hnW h1
    ·have:w.heap.size<=b:=h1
     have:=hb.2.1;omega
   ·rw [hi2 j hl hn] at hi
    exact hb.2.2 j hl o hi
  ·by_cases hp2:∃ k,σ k=some j
   ·obtain ⟨k,hk⟩:=hp2
    by_cases hu:bX hp' k = .unborn
    ·exact F2 k j hk hu
    ·have hc:=F1 k hu
     rw [hτs k j hk] at hc
     rw [hc]
     have hdd:bX hin k = .dead:=by
      rcases hσl k j hk with hl|⟨hl,_⟩|⟨_,hl⟩
      ·have:=((hS.ch k).live hl hk).1;rw [hj] at this;cases this
      ·exact hl
      ·rw [hj] at hl;cases hl
     have hnl:(bX hp' k).live≠true:=λhl=>by
      have h1:dZ (bX hin k) (bX hp' k):=(h'.kept k (hσnx k j hk).2 (by show bX hin k≠_;rw [hdd];simp) hl).kind
      rw [hdd] at h1;exact h1
     cases hcc:bX hp' k with
     | dead=>rfl
     | void=>exact absurd (h'.nov k (hσnx k j hk).2 hcc) (by show bX hin k≠_;rw [hdd];simp)
     | unborn=>exact absurd hcc hu
     | fam g=>exact absurd hcc (AX hwf g)
     | _=>rw [hcc] at hnl;exact absurd rfl hnl
   ·have hn:∀ k,σ k≠some j:=λk hk=>hp2 ⟨k,hk⟩
    rw [F3 j (λk hkl he=>?_) hn]
    ·exact hj
    ·cases hs:σ k with
     | none=>rw [hτn _ hs] at he;have:=hfr _ (hlkk k hkl);rw [he,hj] at this;cases this
     | some i=>rw [hτs _ i hs] at he;subst he;exact hn _ hs
  ·by_cases hp2:∃ k,σ k=some j
   ·obtain ⟨k,hk⟩:=hp2
    by_cases hu:bX hp' k = .unborn
    ·exact .inl (F2 k j hk hu)
    ·have hc:=F1 k hu
     rw [hτs k j hk] at hc
     by_cases hl:(bX hp' k).live=true
     ·have hkl:(bX hin k).live=true:=by
       rcases hσlive k j hk hl with h1|⟨_,h1⟩
       ·exact h1
       ·rw [h1] at hj;cases hj
      have hkp:=h'.kept k (hσnx k j hk).2 (by show bX hin k≠_;intro e;rw [e] at hkl;cases hkl) hl
      have hidj:ids2 j=ids j:=by
       have h1:=hi1 k (.inr ⟨j,hk⟩)
       rw [hτs k j hk] at h1
       rw [h1,hkp.id]
       show kz σ ids k=ids j
       simp [kz,hk]
      refine .inr ⟨by rw [hc,mA];exact hl,hidj,?_,λb o hid=>?_⟩
      ·rw [hc]
       exact (((hS.ch k).kind hkl hk).trans hkp.kind).ren τ
      ·have h1:=hi1 k (.inr ⟨j,hk⟩)
       rw [hτs k j hk,hidj,hid] at h1
       exact hkp.shape b o h1.symm
     ·left
      rw [hc]
      cases hcc:bX hp' k with
      | fam g=>exact absurd hcc (AX hwf g)
      | void =>
       have h1:bX hin k = .void:=h'.nov k (hσnx k j hk).2 hcc
       rcases hσl k j hk with h2|⟨h2,_⟩|⟨_,h2⟩
       ·rw [h1] at h2;cases h2
       ·rw [h1] at h2;cases h2
       ·rw [h2] at hj;cases hj
      | _=>rw [hcc] at hl hu;first|rfl|exact absurd rfl hu|exact absurd rfl hl
   ·have hn:∀ k,σ k≠some j:=λk hk=>hp2 ⟨k,hk⟩
    have hF:=F3 j (hold2 j hj hn) hn
    refine .inr ⟨by rw [hF];exact hj,hi2 j hj hn,by rw [hF];exact dZ.refl hj,λb o hid=>dN.of_eq (h'.st.evol b (h.st.lt j b o hj hid).1 λhh=>?_)⟩
    obtain ⟨k,j2,o2,h1,h2,h3⟩:=hW0 b hh
    have:=h.st.inj j j2 b o o2 hj h2 hid h3
    subst this
    exact hn k h1
 have hCτ:∀ k,bX hp' k≠.unborn->C2 (τ k)=ip τ (bX hp' k)/\((bX hp' k).live=true->ids2 (τ k)=ids' k):=λk hk=>⟨F1 k hk,λ_=>hi1 k (.inl (by
  exact hlkk k (Classical.byContradiction λhn=>hk (pB hn))))⟩
 -- the immutable blocks of the callee, as the caller sees them
 obtain ⟨im,him1,him2⟩:∃ im:Bool,(im=true->∀ k,¬ bor k)/\(im=false->res.nim=true/\t_ hp'=true):=by
  rcases hbor with hb|hb
  ·exact ⟨true,(λ_=>hb),(λe=>by cases e)⟩
  ·exact ⟨false,(λe=>by cases e),(λ_=>hb)⟩
 have hII:im=true->∀ b,Im Y.w0 Y.I0 Y.W0 (bX hp') ids' w' b->Im X.w0 X.I0 X.W0 C2 ids2 w' b:=λhi b hb=>by
  have hnb:=him1 hi
  have hlive:∀ j,(C2 j).live=true->∀ o,ids2 j≠some (b,o):=λj hj o hij=>by
   rcases hcls j hj with ⟨k,rfl,hK,hl,_⟩|⟨hn,_,hl⟩
   ·rw [hi1 k hK] at hij;exact hb.2.2 k hl o hij
   ·rw [hi2 j hl hn] at hij
    have hlt:=(h.st.lt j b o hl hij).1
    rcases hb.1 with (h1|⟨k,o2,h1,_⟩)|h1|h1
    ·exact h1.2.2 j hl o hij
    ·exact hnb k h1
    ·obtain ⟨k,j2,o2,h4,h5,h6⟩:=hW0 b h1
     have:=h.st.inj j j2 b o o2 hl h5 hij h6
     subst this;exact hn k h4
    ·have:w.heap.size<=b:=h1
     omega
  refine ⟨?_,hb.2.1,hlive⟩
  rcases hb.1 with (h1|⟨k,o,h1,_⟩)|h1|h1
  ·exact h1.1
  ·exact absurd h1 (hnb k)
  ·obtain ⟨k,j2,o2,_,h5,h6⟩:=hW0 b h1
   exact .inr ((h.st.lt j2 b o2 h5 h6).2)
  ·have h2:w.heap.size<=b:=h1
   have:=h.st.size
   exact .inr (.inr (by omega))
 refine ⟨ids2,⟨⟨λj=>?_,λj1 j2 b o1 o2 hl1 hl2 he1 he2=>?_,λj b o hl hi=>?_,h.st.im0,λb hb hWb=>?_,h'.st.os.trans h.st.os,⟨h'.st.tape.1.trans h.st.tape.1,mb h.st.tape.2 h'.st.tape.2⟩,h'.st.output.trans h.st.output,mb h.st.size h'.st.size⟩,λj hj h0 hl=>?_,λj hj hv=>?_⟩,?_,?_⟩
 ·rw [hC2]
  by_cases hl:(C2 j).live=true
  ·rcases hcls j hl with ⟨k,rfl,hK,hlk2,hc⟩|⟨hn,hc,hlj⟩
   ·rw [hc]
    exact ID hCτ hII hlk2 (hi1 k hK) (h'.st.ch k) λhi=>IC (him2 hi).2 k
   ·rw [hc]
    refine (h.st.ch j).mono hE (hi2 j hlj hn) λb o hid=>h'.st.evol b (h.st.lt j b o hlj hid).1 λhh=>?_
    obtain ⟨k,j2,o2,h1,h2,h3⟩:=hW0 b hh
    have:=h.st.inj j j2 b o o2 hlj h2 hid h3
    subst this
    exact hn k h1
  ·cases hcj:C2 j<;>rw [hcj] at hl<;>first|trivial|exact absurd rfl hl
 ·rw [hC2] at hl1 hl2
  rcases hcls j1 hl1 with ⟨k1,rfl,aK,a1,_⟩|⟨a2,_,a3⟩<;>rcases hcls j2 hl2 with ⟨k2,rfl,bK,b1,_⟩|⟨b2,_,b3⟩
  ·rw [hi1 k1 aK] at he1;rw [hi1 k2 bK] at he2
   rw [h'.st.inj k1 k2 b o1 o2 a1 b1 he1 he2]
  ·rw [hi1 k1 aK] at he1;rw [hi2 j2 b3 b2] at he2
   have hlt:=(h.st.lt j2 b o2 b3 he2).1
   rcases (h'.st.lt k1 b o1 a1 he1).2 with h1|h1
   ·obtain ⟨k,j3,o3,h4,h5,h6⟩:=hW0 b h1
    have:=h.st.inj j2 j3 b o2 o3 b3 h5 he2 h6
    subst this;exact absurd h4 (b2 k)
   ·have:w.heap.size<=b:=h1
    omega
  ·rw [hi1 k2 bK] at he2;rw [hi2 j1 a3 a2] at he1
   have hlt:=(h.st.lt j1 b o1 a3 he1).1
   rcases (h'.st.lt k2 b o2 b1 he2).2 with h1|h1
   ·obtain ⟨k,j3,o3,h4,h5,h6⟩:=hW0 b h1
    have:=h.st.inj j1 j3 b o1 o3 a3 h5 he1 h6
    subst this;exact absurd h4 (a2 k)
   ·have:w.heap.size<=b:=h1
    omega
  ·rw [hi2 j1 a3 a2] at he1;rw [hi2 j2 b3 b2] at he2
   exact h.st.inj j1 j2 b o1 o2 a3 b3 he1 he2
 ·rw [hC2] at hl
  rcases hcls j hl with ⟨k,rfl,aK,a1,_⟩|⟨a2,_,a3⟩
  ·rw [hi1 k aK] at hi
   obtain ⟨g1,g2⟩:=h'.st.lt k b o a1 hi
   refine ⟨g1,?_⟩
   rcases g2 with h1|h1
   ·obtain ⟨q,j2,o2,_,h5,h6⟩:=hW0 b h1
    exact (h.st.lt j2 b o2 h5 h6).2
   ·have h2:w.heap.size<=b:=h1
    have:=h.st.size
    exact .inr (by omega)
  ·rw [hi2 j a3 a2] at hi
   obtain ⟨g1,g2⟩:=h.st.lt j b o a3 hi
   exact ⟨qG g1 h'.st.size,g2⟩
 ·have hsz:=h.st.size
  have:w'.heap[b]? = w.heap[b]?:=h'.st.evol b (show b<w.heap.size by omega) λhh=>by
   obtain ⟨k,j2,o2,_,h5,h6⟩:=hW0 b hh
   rcases (h.st.lt j2 b o2 h5 h6).2 with h1|h1
   ·exact hWb h1
   ·omega
  rw [this];exact h.st.evol b hb hWb
 ·rw [hC2] at hl ⊢
  have hlo:(bX hp j).live=true:=by
   rcases hcls j hl with ⟨k,rfl,aK,a1,_⟩|⟨a2,_,a3⟩
   ·cases hs:σ k with
    | none=>rw [hτn k hs] at hj;simp at hj;omega
    | some i =>
     rw [hτs k i hs] at hj h0 ⊢
     rcases hσlive k i hs a1 with h1|⟨_,h1⟩
     ·exact ((hS.ch k).live h1 hs).1
     ·exact absurd (h.nov i hj h1) h0
   ·exact a3
  exact (h.kept j hj h0 hlo).step hE hlo hl
 ·rw [hC2] at hv
  by_cases hp2:∃ k,σ k=some j
  ·obtain ⟨k,hk⟩:=hp2
   by_cases hu:bX hp' k = .unborn
   ·rw [F2 k j hk hu] at hv;cases hv
   ·have hc:=F1 k hu
    rw [hτs k j hk,hv] at hc
    have hcc:bX hp' k = .void:=by cases h9:bX hp' k<;>rw [h9] at hc<;>first|rfl|cases hc
    have h1:bX hin k = .void:=h'.nov k (hσnx k j hk).2 hcc
    rcases hσl k j hk with h2|⟨h2,_⟩|⟨_,h2⟩
    ·rw [h1] at h2;cases h2
    ·rw [h1] at h2;cases h2
    ·exact h.nov j hj h2
  ·have hn:∀ k,σ k≠some j:=λk hk=>hp2 ⟨k,hk⟩
   by_cases hli:∃ k:Nm,(∃ p∈hp',p.1.key=k.key)/\τ k=j
   ·obtain ⟨k,hk,he⟩:=hli
    cases hs:σ k with
    | none=>rw [hτn k hs] at he;rw [←he] at hj;simp at hj;omega
    | some i=>rw [hτs k i hs] at he;rw [he] at hs;exact absurd hs (hn k)
   ·rw [F3 j (λk hk he=>hli ⟨k,hk,he⟩) hn] at hv
    exact h.nov j hj hv
 ·simp only [fk,hC2];exact hE
 ·simp only [cV,hC2]
  exact Ao hCτ hII hres λhi=>(him2 hi).1
end
section
open Go.RowKit
variable {P:Program} {hp hp':Hp} {nx:Nat}
theorem lu {k:Nm} {c:cp} {rds:List Nm} (hr:∀ k:Nm,k.key∈rds->bX hp' k=bX hp k) (hk:k.key∈rds):ea k c hp'=ea k c hp:=by
 cases k with
 | t a=>rfl
 | s F i =>
  simp only [ea];rw [show (λj=>bX hp' (.s F j))=(λj=>bX hp (.s F j)) from funext λj=>hr _ (by simpa [Nm.key] using hk)]
theorem oR {k:Nm} {f:TypeId->List SV->eY} {s:Prop} {e:dx} (h:o_ (bX hp k) f = .ok s e) (hk:bX hp' k=bX hp k):o_ (bX hp' k) f = .ok s e:=by rw [hk];exact h
theorem pQ {c:cp} {f:TypeId->List SV->eY} {s:Prop} {e:dx} {k:Nm} (h:o_ c f = .ok s e) (hf:∀ t cs,f t cs = .ok s e->k∈e.rds):k∈e.rds:=by
 obtain ⟨t,cs,_,hh⟩:=gz h;exact hf t cs hh
theorem Hi {t:TypeId} {cs:List SV} {off:Nat} {rds:List Nm} {s:Prop} {e:dx} (h:kx P t cs off rds nx = .ok s e):e.rds=rds:=by
 unfold kx at h;split at h<;>cases h<;>rfl
theorem Ee {t:TypeId} {x:SV} {s:Prop} {e:dx} (h:oa P t x hp nx = .ok s e) (hr:∀ k:Nm,k.key∈e.rds->bX hp' k=bX hp k):oa P t x hp' nx = .ok s e:=by
 unfold oa at h ⊢;split at h
 ·rename_i k off;have:k.key∈e.rds:=pQ h λt cs hh=>by rw [Hi hh];simp
  exact oR h (hr k this)
 ·exact h
 ·cases h
theorem Ct {t:TypeId} {x v:SV} {s:Prop} {e:dx} (h:oz P t x v hp nx = .ok s e) (hr:∀ k:Nm,k.key∈e.rds->bX hp' k=bX hp k):oz P t x v hp' nx = .ok s e:=by
 unfold oz at h ⊢;split at h
 ·rename_i k off;have:k.key∈e.rds:=pQ h λt cs hh=>by cases hh;simp
  simp only [λc=>lu (c:=c) hr this];exact oR h (hr k this)
 ·cases h
theorem ua {k:Nm} {r:eY} {s:Prop} {e:dx} (h:tE (bX hp k) r = .ok s e) (hk:bX hp' k=bX hp k):tE (bX hp' k) r = .ok s e:=by rw [hk];exact h
theorem wM {c:cp} {r:eY} {s:Prop} {e:dx} {k:Nm} (h:tE c r = .ok s e) (hf:r = .ok s e->k∈e.rds):k∈e.rds:=hf (nt h).2
theorem yq {t:TypeId} {x:SV} {f:Nat} {s:Prop} {e:dx} (h:ky P t x f hp nx = .ok s e) (hr:∀ k:Nm,k.key∈e.rds->bX hp' k=bX hp k):ky P t x f hp' nx = .ok s e:=by
 unfold ky at h ⊢;split at h
 ·rename_i o ft n hf;split at h
  ·exact h
  ·exact h
  ·cases h
 ·cases h
theorem yr {t:TypeId} {x i:SV} {s:Prop} {e:dx} (h:ll P t x i hp nx = .ok s e) (hr:∀ k:Nm,k.key∈e.rds->bX hp' k=bX hp k):ll P t x i hp' nx = .ok s e:=by
 unfold ll at h ⊢;split at h
 ·rename_i kd n;split at h
  ·split at h
   ·rename_i k off len;have:k.key∈e.rds:=wM h λhh=>by cases hh;simp
    exact ua h (hr k this)
   ·exact h
   ·cases h
  ·split at h
   ·split at h
    ·exact h
    ·exact h
    ·cases h
   ·cases h
 ·cases h
theorem oS {k:Nm} {f:List (Value×SV)->eY} {s:Prop} {e:dx} (h:qe (bX hp k) f = .ok s e) (hk:bX hp' k=bX hp k):qe (bX hp' k) f = .ok s e:=by rw [hk];exact h
theorem qR {c:cp} {f:List (Value×SV)->eY} {s:Prop} {e:dx} {k:Nm} (h:qe c f = .ok s e) (hf:∀ es,f es = .ok s e->k∈e.rds):k∈e.rds:=by
 obtain ⟨es,_,hh⟩:=ir h;exact hf es hh
theorem BG {t:TypeId} {x key:SV} {ok:Bool} {s:Prop} {e:dx} (h:jW P t x key ok hp nx = .ok s e) (hr:∀ k:Nm,k.key∈e.rds->bX hp' k=bX hp k):jW P t x key ok hp' nx = .ok s e:=by
 unfold jW at h ⊢;split at h
 ·rename_i k kv d e' hm;split at h
  ·have:k.key∈e.rds:=qR h λes hh=>by cases hh;simp
   exact oS h (hr k this)
  ·cases h
 ·rename_i k cs d' hm;split at h
  ·split at h
   ·have:k.key∈e.rds:=qR h λes hh=>by cases hh;simp
    exact oS h (hr k this)
   ·cases h
  ·cases h
 ·cases h
theorem zp {t:TypeId} {x key:SV} {s:Prop} {e:dx} (h:jo P t x key hp nx = .ok s e) (hr:∀ k:Nm,k.key∈e.rds->bX hp' k=bX hp k):jo P t x key hp' nx = .ok s e:=by
 unfold jo at h ⊢;split at h
 ·rename_i k kv S e' hm;split at h
  ·have:k.key∈e.rds:=qR h λes hh=>by cases hh;simp
   simp only [λc=>lu (c:=c) hr this];exact oS h (hr k this)
  ·cases h
 ·cases h
theorem xN {x q v:SV} {s:Prop} {e:dx} (h:jy x q v hp nx = .ok s e) (hr:∀ k:Nm,k.key∈e.rds->bX hp' k=bX hp k):jy x q v hp' nx = .ok s e:=by
 unfold jy at h ⊢;split at h
 ·rename_i k i;have:k.key∈e.rds:=qR h λes hh=>by cases hh;simp
  simp only [λc=>lu (c:=c) hr this];exact oS h (hr k this)
 ·cases h
theorem vY {t:TypeId} {x key v:SV} {s:Prop} {e:dx} (h:mY P t x key v hp nx = .ok s e) (hr:∀ k:Nm,k.key∈e.rds->bX hp' k=bX hp k):mY P t x key v hp' nx = .ok s e:=by
 unfold mY at h ⊢;split at h
 ·rename_i k kv d e' hm;have:k.key∈e.rds:=qR h λes hh=>by cases hh;simp
  simp only [λc=>lu (c:=c) hr this];exact oS h (hr k this)
 ·rename_i k cs d' hm;split at h
  ·have:k.key∈e.rds:=qR h λes hh=>by cases hh;simp
   simp only [λc=>lu (c:=c) hr this];exact oS h (hr k this)
  ·cases h
 ·cases h
theorem Cu {t:TypeId} {x:SV} {lo hi:Option SV} {s:Prop} {e:dx} (h:qd P t x lo hi hp nx = .ok s e) (hr:∀ k:Nm,k.key∈e.rds->bX hp' k=bX hp k):qd P t x lo hi hp' nx = .ok s e:=by
 unfold qd at h ⊢;split at h
 ·rename_i k off n;split at h
  ·have:k.key∈e.rds:=pQ h λt cs hh=>by cases hh;simp
   exact oR h (hr k this)
  ·cases h
 ·exact h
 ·exact h
 ·exact h
 ·rename_i k off;split at h
  ·rename_i n el hu;rw [ff] at h;split at h
   ·rename_i hz;have:k.key∈e.rds:=wM h λhh=>by cases hh;simp
    rw [hz,cd];exact ua h (hr k this)
   ·cases h
  ·cases h
 ·cases h
theorem BH {t:TypeId} {x hi mx:SV} {s:Prop} {e:dx} (h:qP P t x hi mx nx hp = .ok s e) (hr:∀ k:Nm,k.key∈e.rds->bX hp' k=bX hp k):qP P t x hi mx nx hp' = .ok s e:=by
 unfold qP at h ⊢;split at h
 ·split at h
  ·rename_i k _ _;have:k.key∈e.rds:=wM h λhh=>by cases hh;simp
   exact ua h (hr k this)
  ·exact h
  ·exact h
  ·cases h
 ·cases h
theorem FW {t:TypeId} {x:SV} {s:Prop} {e:dx} (h:uU P t x hp nx = .ok s e) (hr:∀ k:Nm,k.key∈e.rds->bX hp' k=bX hp k):uU P t x hp' nx = .ok s e:=by
 unfold uU at h ⊢;split at h
 ·exact h
 ·split at h
  ·rename_i k off n;split at h
   ·have:k.key∈e.rds:=pQ h λt cs hh=>by cases hh;simp
    exact oR h (hr k this)
   ·cases h
  ·exact h
  ·exact h
  ·exact h
  ·rename_i k;split at h
   ·rename_i k1 e1 es hu hk;cases h;have:=hr k (by simp);simp only [hu,this,hk]
   ·cases h
  ·cases h
theorem si {tx:TypeId} {z:Nat} {y:SV} {f:Nat->List SV->List Nm->Prop->eY} {s:Prop} {e:dx} (h:pb P tx z y hp f = .ok s e) (hf:∀ m news rds s0,f m news rds s0 = .ok s e->∀ k∈rds,k∈e.rds) (hr:∀ k:Nm,k.key∈e.rds->bX hp' k=bX hp k):pb P tx z y hp' f = .ok s e:=by
 unfold pb at h ⊢;split at h
 ·rename_i k off m;split at h
  ·have:k.key∈e.rds:=pQ h λt cs hh=>hf _ _ _ _ hh k.key (by simp)
   exact oR h (hr k this)
  ·cases h
 ·exact h
 ·exact h
 ·exact h
 ·cases h
theorem zq {tx:TypeId} {z:Nat} {y:SV} {f f':Nat->List SV->List Nm->Prop->eY} {s:Prop} {e:dx} (h:pb P tx z y hp f = .ok s e) (hf:∀ m news rds s0,f m news rds s0 = .ok s e->f' m news rds s0 = .ok s e):pb P tx z y hp f' = .ok s e:=by
 unfold pb at h ⊢;split at h
 ·split at h
  ·obtain ⟨t,cs,hk,hh⟩:=gz h;rw [hk];exact hf _ _ _ _ hh
  ·cases h
 ·split at h
  ·exact hf _ _ _ _ h
  ·cases h
 ·split at h
  ·exact hf _ _ _ _ h
  ·cases h
 ·split at h
  ·exact hf _ _ _ _ h
  ·cases h
 ·cases h
theorem Ef {t d:TypeId} {x:SV} {s:Prop} {e:dx} (h:tH P t d x hp nx = .ok s e) (hr:∀ k:Nm,k.key∈e.rds->bX hp' k=bX hp k):tH P t d x hp' nx = .ok s e:=by
 unfold tH at h ⊢;split at h
 ·exact h
 ·exact h
 ·unfold zb at h ⊢;split at h
  ·split at h
   ·refine si h (λm news rds s0 hf=>?_) hr;cases hb:news.all (tG .i32)<;>rw [hb] at hf<;>cases hf;exact λk hk=>hk
   ·refine si h (λm news rds s0 hf=>?_) hr;cases hb:news.all (tG .u8)<;>rw [hb] at hf<;>cases hf;exact λk hk=>hk
   ·cases h
  ·cases h
theorem sV {tx:TypeId} {z:Nat} {y:SV} {f:Nat->List SV->List Nm->Prop->eY} {s:Prop} {e:dx} (h:pb P tx z y hp f = .ok s e):∃ m news rds s0,f m news rds s0 = .ok s e:=by
 unfold pb at h;split at h
 ·split at h
  ·obtain ⟨_,_,_,hh⟩:=gz h;exact ⟨_,_,_,_,hh⟩
  ·cases h
 ·split at h
  ·exact ⟨_,_,_,_,h⟩
  ·cases h
 ·split at h
  ·exact ⟨_,_,_,_,h⟩
  ·cases h
 ·split at h
  ·exact ⟨_,_,_,_,h⟩
  ·cases h
 ·cases h
theorem BI {t tx:TypeId} {x y:SV} {s:Prop} {e:dx} (h:pZ P t tx x y hp nx = .ok s e) (hr:∀ k:Nm,k.key∈e.rds->bX hp' k=bX hp k):pZ P t tx x y hp' nx = .ok s e:=by
 unfold pZ at h ⊢;split at h
 ·rename_i e' z hz;refine zq (si h (λm news rds s0 hf k hk=>?_) hr) λm news rds s0 hf=>?_
  ·split at hf
   ·obtain ⟨_,_,_,hh⟩:=gz hf;cases hh;exact uN _ hk
   ·cases hf;exact hk
   ·cases hf
  ·split at hf
   ·rename_i k off n;have:k.key∈e.rds:=pQ hf λt cs hh=>by cases hh;simp
    simp only [λc=>lu (c:=c) hr this];exact oR hf (hr k this)
   ·exact hf
   ·cases hf
 ·cases h
theorem Eg {t tx:TypeId} {x y:SV} {s:Prop} {e:dx} (h:tF P t tx x y hp nx = .ok s e) (hr:∀ k:Nm,k.key∈e.rds->bX hp' k=bX hp k):tF P t tx x y hp' nx = .ok s e:=by
 unfold tF at h ⊢;split at h
 ·rename_i k off n e' hz;have hk:k.key∈e.rds:=pQ h λt cs hh=>by obtain ⟨m,news,rds,s0,hf⟩:=sV hh;cases hf;simp
  obtain ⟨t',cs,hc,hf⟩:=gz h;rw [hr k hk,hc];simp only [o_];refine zq (si hf (λm news rds s0 hf j hj=>?_) hr) λm news rds s0 hf=>?_
  ·cases hf;exact uN _ hj
  ·simp only [λc=>lu (c:=c) hr hk];exact hf
 ·cases h
theorem Cv {op:BinOp} {t:TypeId} {x y:SV} {s:Prop} {e:dx} (h:qh P op t x y hp nx = .ok s e) (hr:∀ k:Nm,k.key∈e.rds->bX hp' k=bX hp k):qh P op t x y hp' nx = .ok s e:=by
 unfold qh at h ⊢;split at h;all_goals first|exact h|cases h
def lH (o:Op):List Tmp:=o.operands.toList.filterMap fun | .tmp t=>some t|_=>none
theorem rI {g:Bool} {fr fr':Fr} {o:Operand} (h:∀ t,o = .tmp t->cL fr' t=cL fr t):dC g fr' o=dC g fr o:=by
 cases o with
 | tmp t=>simp [dC,h t rfl]
 | _=>rfl
theorem p6 {o:Op} {x:Operand} (hx:x∈o.operands.toList) {t:Nat} (ht:x = .tmp t):t∈lH o:=by
 subst ht;exact List.mem_filterMap.2 ⟨_,hx,rfl⟩
set_option maxHeartbeats 1000000 in
theorem p7 {g:Bool} {fr fr':Fr} {ty:TypeId} {o:Op} {s:Prop} {e:dx} (h:kK P g fr hp nx ty o = .ok s e) (hf:∀ t∈lH o,cL fr' t=cL fr t) (hr:∀ k:Nm,k.key∈e.rds->bX hp' k=bX hp k) :
  kK P g fr' hp' nx ty o = .ok s e:=by
 have raw:∀ (x:Operand),x∈o.operands.toList->wb fr' x=wb fr x:=λx hx=>by
  cases x with
  | tmp t=>exact hf t (p6 hx rfl)
  | _=>rfl
 have ev:∀ (g:Bool) (x:Operand),x∈o.operands.toList->dC g fr' x=dC g fr x:=λg x hx=>rI λt ht=>hf t (p6 hx ht)
 cases o<;>simp only [kK,Op.operands] at h ev raw ⊢;case move x=>rw [ev g x (by simp)];exact h
 case assign x=>rw [ev g x (by simp)];exact h
 case pick c x y=>rw [ev g c (by simp),raw x (by simp),raw y (by simp)];exact h
 case alloc t=>exact h
 case box t x=>rw [ev g x (by simp)];exact h
 case build t ps =>
  rw [show (ps.toList.map λp=>(p.1,dC g fr' p.2))=ps.toList.map λp=>(p.1,dC g fr p.2) from pP λp hp=>by rw [ev g p.2 (by simpa using ⟨p.1,by simpa using hp⟩)]];exact h
 case buildSlice t n ps =>
  rw [show (ps.toList.map λp=>(p.1,dC g fr' p.2))=ps.toList.map λp=>(p.1,dC g fr p.2) from pP λp hp=>by rw [ev g p.2 (by simpa using ⟨p.1,by simpa using hp⟩)]];exact h
 case insert t m k x=>rw [ev g m (by simp),ev g k (by simp),ev g x (by simp)];exact vY h hr
 case mapEntry t m k=>rw [ev g m (by simp),ev g k (by simp)];exact zp h hr
 case entryStore t m q x=>rw [ev g m (by simp),ev g q (by simp),ev g x (by simp)];exact xN h hr
 case load t x=>rw [ev g x (by simp)];exact Ee h hr
 case store t x y=>rw [ev g x (by simp),ev g y (by simp)];exact Ct h hr
 case nilCheck x =>
  rw [ev g x (by simp)];split at h
  ·exact h
  ·exact h
  ·exact h
  ·exact h
  ·cases h
 case binOp op t x y yt=>rw [ev g x (by simp),ev g y (by simp)];exact Cv h hr
 case unOp op t x=>rw [ev g x (by simp)];exact h
 case convert a b x=>rw [ev g x (by simp)];exact Ef h hr
 case makeFunc fn first caps =>
  split at h
  ·rw [show caps.toList.map (dC g fr')=caps.toList.map (dC g fr) from pP λp hp=>ev g p (by simp;exact .inr (by simpa using hp))];exact h
  ·split at h
   ·rename_i y hfl;rw [ev g y (by simp [hfl])];exact h
   ·cases h
  ·cases h
 case makeMap t r=>cases r<;>first|exact h|cases h
 case makeSlice t l c=>rw [ev g l (by simp),ev g c (by simp)];exact h
 case slice t x lo hi mx =>
  split at h
  ·rw [ev g x (by simp)];rw [show lo.map (dC g fr')=lo.map (dC g fr) from by cases lo<;>simp;exact ev g _ (by simp)];rw [show hi.map (dC g fr')=hi.map (dC g fr) from by cases hi<;>simp;exact ev g _ (by simp)];exact Cu h hr
  ·split at h
   ·rw [ev g x (by simp),ev g _ (by simp),ev g _ (by simp)];exact BH h hr
   ·cases h
 case fieldAddr t x f=>rw [ev g x (by simp)];exact yq h hr
 case field t x f=>rw [ev g x (by simp)];exact h
 case indexAddr t x i=>rw [ev g x (by simp),ev g i (by simp)];exact yr h hr
 case index t x i=>rw [ev g x (by simp),ev g i (by simp)];exact h
 case lookup t x i ok=>rw [ev g x (by simp),ev g i (by simp)];exact BG h hr
 case mapUpdate t m k x=>rw [ev g m (by simp),ev g k (by simp),ev g x (by simp)];exact vY h hr
 case extract x i=>rw [ev g x (by simp)];exact h
 case makeInterface t x=>rw [ev g x (by simp)];exact h
 case typeAssert x t a ok=>rw [ev g x (by simp)];exact h
 case range t x=>rw [ev g x (by simp)];exact h
 case next x str =>
  rw [ev g x (by simp)];unfold zi at h ⊢;cases str with
  | false=>cases h
  | true =>
   simp only [cd] at h ⊢;split at h
   ·rename_i k hx;obtain ⟨s,pos,hk,hf⟩:=Cg h;have hm:k.key∈e.rds:=by cases hb:decide (pos<s.size)<;>rw [hb] at hf<;>cases hf<;>simp
    simp only [λc=>lu (c:=c) hr hm,hr k hm,hk,LU];exact hf
   ·cases h
 case call c =>
  obtain ⟨callee,args,argTypes⟩:=c;split at h
  ·rename_i b hcb;simp only at hcb;subst hcb;simp only [Call.operands] at ev;have ev':∀ x∈args.toList,dC g fr' x=dC g fr x:=λx hx=>ev g x (by simp;simpa using hx);split at h
   ·rename_i x t hargs htys;simp only at hargs htys;rw [ev' x (by rw [hargs];simp)];exact FW h hr
   ·rename_i x y t tx hargs htys;simp only at hargs htys;rw [ev' x (by rw [hargs];simp),ev' y (by rw [hargs];simp)];split at h
    ·rename_i e' z hst;cases hz:yj P e' with
     | false=>rw [hz] at h;cases h
     | true =>
      rw [hz] at h;simp only [hst,hz,cd] at h ⊢;exact BI h hr
    ·cases h
   ·rename_i x y t tx hargs htys;simp only at hargs htys;rw [ev' x (by rw [hargs];simp),ev' y (by rw [hargs];simp)];exact Eg h hr
   ·rw [show args.toList.map (dC g fr')=args.toList.map (dC g fr) from pP ev'];exact h
   ·rw [show args.toList.map (dC g fr')=args.toList.map (dC g fr) from pP ev'];exact h
   ·cases h
  ·cases h
 all_goals cases h
def qi (hp:Hp) (nx:Nat) (e:dx):Prop:=nx<=e.nx/\∀ p∈e.upd,(p.1=Nm.t nx/\e.nx=nx+1)\/(p.1.key∈e.rds/\∃ k:Nm,k.key=p.1.key/\bX hp k≠.unborn)
theorem dX {e:dx} (h:e.upd=[]/\e.nx=nx):qi hp nx e:=⟨by rw [h.2];exact cF _,λp hp=>by rw [h.1] at hp;cases hp⟩
theorem ed {x:SV} {s:Prop} {e:dx} (h:eE x nx = .ok s e):e.upd=[]/\e.nx=nx:=by cases h;exact ⟨rfl,rfl⟩
theorem sj {t:TypeId} {cs:List SV} {off:Nat} {rds:List Nm} {s:Prop} {e:dx} (h:kx P t cs off rds nx = .ok s e):e.upd=[]/\e.nx=nx:=by
 unfold kx at h;split at h<;>cases h<;>exact ⟨rfl,rfl⟩
theorem zr {t:TypeId} {x:SV} {s:Prop} {e:dx} (h:oa P t x hp nx = .ok s e):e.upd=[]/\e.nx=nx:=by
 unfold oa at h;split at h
 ·obtain ⟨_,_,_,hh⟩:=gz h;exact sj hh
 ·exact sj h
 ·cases h
theorem Hj {op:BinOp} {k:IntKind} {a b:Int} {s:Prop} {e:dx} (h:Af op k a b nx = .ok s e):e.upd=[]/\e.nx=nx:=by cases op<;>simp only [Af,eE] at h<;>cases h<;>exact ⟨rfl,rfl⟩
theorem Hk {op:BinOp} {a b:ByteArray} {s:Prop} {e:dx} (h:Cq op a b nx = .ok s e):e.upd=[]/\e.nx=nx:=by cases op<;>simp only [Cq,eE] at h<;>cases h<;>exact ⟨rfl,rfl⟩
theorem ub {op:BinOp} {t:TypeId} {r:Bool} {rds:List Nm} {s:Prop} {e:dx} (h:pj P op t r rds nx = .ok s e):e.upd=[]/\e.nx=nx:=by
 unfold pj at h;split at h
 ·cases ho:n4 op with
  | false=>rw [ho] at h;cases h
  | true=>rw [ho] at h;cases h;exact ⟨rfl,rfl⟩
 ·cases h
theorem Eh {op:BinOp} {t:TypeId} {x y:SV} {s:Prop} {e:dx} (h:qh P op t x y hp nx = .ok s e):e.upd=[]/\e.nx=nx:=by
 unfold qh at h;split at h
 ·rename_i k a k' b;cases h1:un op with
  | true=>rw [h1] at h;cases op<;>simp only [wI] at h<;>cases h<;>exact ⟨rfl,rfl⟩
  | false =>
   rw [h1] at h;cases h2:(k==k') with
   | true=>simp only [h2,cd,cj] at h;exact Hj h
   | false=>simp only [h2,cj] at h;cases h
 ·exact Hk h
 ·split at h
  ·cases ho:n4 op with
   | false=>rw [ho] at h;cases h
   | true=>rw [ho] at h;exact ed h
  ·cases h
 ·split at h
  ·cases ho:(n4 op && !P.eqGuardType P.depth t) with
   | false=>rw [ho] at h;cases h
   | true =>
    rw [ho] at h;unfold wH at h;split at h
    ·rename_i l n r _ _ _;rename_i xs ys _ _ _ _ _ _;generalize hb:((n==l.length&&(_==n&&_==n))&&(rc l _&&rc l _))=bb at h;cases bb with
     | false=>cases h
     | true=>exact ed h
    ·cases h
  ·cases h
 ·exact ub h
 ·exact ub h
 ·exact ub h
 ·cases h
theorem Ei {t:TypeId} {x i:SV} {s:Prop} {e:dx} (h:uj P t x i nx = .ok s e):e.upd=[]/\e.nx=nx:=by
 unfold uj at h;split at h
 ·split at h
  ·split at h
   ·rename_i s' r hp;cases h;exact sj hp
   ·cases h
  ·cases h
 ·split at h
  ·cases h;exact ⟨rfl,rfl⟩
  ·cases h
 ·cases h
theorem Hl {t:TypeId} {x:SV} {s:Prop} {e:dx} (h:uU P t x hp nx = .ok s e):e.upd=[]/\e.nx=nx:=by
 unfold uU at h;split at h
 ·exact ed h
 ·split at h
  ·split at h
   ·obtain ⟨_,_,_,hh⟩:=gz h;cases hh;exact ⟨rfl,rfl⟩
   ·cases h
  ·split at h
   ·exact ed h
   ·cases h
  ·split at h
   ·exact ed h
   ·cases h
  ·split at h
   ·exact ed h
   ·cases h
  ·split at h
   ·cases h;exact ⟨rfl,rfl⟩
   ·cases h
  ·cases h
theorem Ej {t:TypeId} {x:SV} {lo hi:Option SV} {s:Prop} {e:dx} (h:qd P t x lo hi hp nx = .ok s e):e.upd=[]/\e.nx=nx:=by
 unfold qd at h;split at h
 ·split at h
  ·obtain ⟨_,_,_,hh⟩:=gz h;cases hh;exact ⟨rfl,rfl⟩
  ·cases h
 ·split at h
  ·cases h;exact ⟨rfl,rfl⟩
  ·cases h
 ·split at h
  ·cases h;exact ⟨rfl,rfl⟩
  ·cases h
 ·split at h
  ·cases h;exact ⟨rfl,rfl⟩
  ·cases h
 ·split at h
  ·rw [ff] at h;split at h
   ·have:=(nt h).2;cases this;exact ⟨rfl,rfl⟩
   ·cases h
  ·cases h
 ·cases h
theorem zt {t:TypeId} {x:SV} {f:Nat} {s:Prop} {e:dx} (h:ky P t x f hp nx = .ok s e):e.upd=[]/\e.nx=nx:=by
 unfold ky at h;split at h
 ·split at h
  ·cases h;exact ⟨rfl,rfl⟩
  ·cases h;exact ⟨rfl,rfl⟩
  ·cases h
 ·cases h
theorem zu {t:TypeId} {x i:SV} {s:Prop} {e:dx} (h:ll P t x i hp nx = .ok s e):e.upd=[]/\e.nx=nx:=by
 unfold ll at h;split at h
 ·split at h
  ·split at h
   ·have:=(nt h).2;cases this;exact ⟨rfl,rfl⟩
   ·cases h;exact ⟨rfl,rfl⟩
   ·cases h
  ·split at h
   ·split at h
    ·cases h;exact ⟨rfl,rfl⟩
    ·cases h;exact ⟨rfl,rfl⟩
    ·cases h
   ·cases h
 ·cases h
theorem wN {t:TypeId} {x key:SV} {ok:Bool} {s:Prop} {e:dx} (h:jW P t x key ok hp nx = .ok s e):e.upd=[]/\e.nx=nx:=by
 unfold jW at h;split at h
 ·split at h
  ·obtain ⟨_,_,hh⟩:=ir h;cases hh;exact ⟨rfl,rfl⟩
  ·cases h
 ·split at h
  ·split at h
   ·obtain ⟨_,_,hh⟩:=ir h;cases hh;exact ⟨rfl,rfl⟩
   ·cases h
  ·cases h
 ·cases h
theorem BJ {t:TypeId} {x:SV} {s:Prop} {e:dx} (h:qO P t x nx = .ok s e):e.upd=[]/\e.nx=nx:=by
 unfold qO at h;split at h
 ·cases h
 ·exact ed h
 ·cases h
theorem Cw {x:SV} {a:TypeId} {ok:Bool} {s:Prop} {e:dx} (h:sH P x a ok nx = .ok s e):e.upd=[]/\e.nx=nx:=by
 unfold sH at h;split at h
 ·cases h
 ·split at h
  ·rw [ff] at h;split at h
   ·exact ed h
   ·rw [ff] at h;split at h
    ·split at h
     ·exact ed h
     ·cases h
    ·cases h
  ·rw [ff] at h;split at h
   ·split at h
    ·exact ed h
    ·cases h
   ·cases h
  ·cases h
 ·cases h
theorem wO {mx:Bool} {l:List SV} {s:Prop} {e:dx} (h:p5 mx l nx = .ok s e):e.upd=[]/\e.nx=nx:=by
 unfold p5 at h;split at h
 ·split at h
  ·exact ed h
  ·cases h
 ·cases h
theorem lM {e:dx} {c:cp} (h:e.upd=[(Nm.t nx,c)]/\e.nx=nx+1):qi hp nx e:=⟨by rw [h.2];exact ol _,λp hp=>by rw [h.1] at hp;simp at hp;subst hp;exact .inl ⟨rfl,h.2⟩⟩
theorem Cy {t tx:TypeId} {x y:SV} {s:Prop} {e:dx} (h:pZ P t tx x y hp nx = .ok s e):qi hp nx e:=by
 unfold pZ at h;split at h
 ·obtain ⟨m,news,rds,s0,hf⟩:=sV h;split at hf
  ·rename_i k off n;obtain ⟨t',cs,hk,hh⟩:=gz hf;cases hh;refine ⟨ol _,λp hp=>?_⟩;simp at hp;rcases hp with rfl|rfl
   ·exact .inl ⟨rfl,rfl⟩
   ·exact .inr ⟨by simp [g7],k,by simp [g7],by rw [hk];simp⟩
  ·cases hf;exact lM ⟨rfl,rfl⟩
  ·cases hf
 ·cases h
theorem FX {t tx:TypeId} {x y:SV} {s:Prop} {e:dx} (h:tF P t tx x y hp nx = .ok s e):qi hp nx e:=by
 unfold tF at h;split at h
 ·rename_i k off n e' hz;obtain ⟨t',cs,hk,hf⟩:=gz h;obtain ⟨m,news,rds,s0,hf⟩:=sV hf;cases hf;exact ⟨cF _,λp hp=>by simp at hp;subst hp;exact .inr ⟨by simp [g7],k,by simp [g7],by rw [hk];simp⟩⟩
 ·cases h
theorem El {t:TypeId} {x v:SV} {s:Prop} {e:dx} (h:oz P t x v hp nx = .ok s e):qi hp nx e:=by
 unfold oz at h;split at h
 ·rename_i k off;obtain ⟨t',cs,hk,hh⟩:=gz h;cases hh;exact ⟨cF _,λp hp=>by simp at hp;subst hp;exact .inr ⟨by simp [g7],k,by simp [g7],by rw [hk];simp⟩⟩
 ·cases h
theorem Ap {t:TypeId} {x q:SV} {s:Prop} {e:dx} (h:jo P t x q hp nx = .ok s e):qi hp nx e:=by
 unfold jo at h;split at h
 ·rename_i k kv S e' hm;split at h
  ·obtain ⟨es,hk,hh⟩:=ir h;cases hh;exact ⟨cF _,λp hp=>by simp at hp;subst hp;exact .inr ⟨by simp [g7],k,by simp [g7],by rw [hk];simp⟩⟩
  ·cases h
 ·cases h
theorem yu {x q v:SV} {s:Prop} {e:dx} (h:jy x q v hp nx = .ok s e):qi hp nx e:=by
 unfold jy at h;split at h
 ·rename_i k i;obtain ⟨es,hk,hh⟩:=ir h;cases hh;exact ⟨cF _,λp hp=>by simp at hp;subst hp;exact .inr ⟨by simp [g7],k,by simp [g7],by rw [hk];simp⟩⟩
 ·cases h
theorem wP {t:TypeId} {x q v:SV} {s:Prop} {e:dx} (h:mY P t x q v hp nx = .ok s e):qi hp nx e:=by
 unfold mY at h;split at h
 ·rename_i k kv d e' hm;obtain ⟨es,hk,hh⟩:=ir h;cases hh;exact ⟨cF _,λp hp=>by simp at hp;subst hp;exact .inr ⟨by simp [g7],k,by simp [g7],by rw [hk];simp⟩⟩
 ·rename_i k cs d' hm;split at h
  ·obtain ⟨es,hk,hh⟩:=ir h;cases hh;exact ⟨cF _,λp hp=>by simp at hp;subst hp;exact .inr ⟨by simp [g7],k,by simp [g7],by rw [hk];simp⟩⟩
  ·cases h
 ·cases h
set_option maxHeartbeats 1000000 in
theorem yv {g:Bool} {fr:Fr} {ty:TypeId} {o:Op} {s:Prop} {e:dx} (h:kK P g fr hp nx ty o = .ok s e):qi hp nx e:=by
 cases o<;>simp only [kK] at h;case move x=>exact dX (ed h)
 case assign x=>exact dX (ed h)
 case pick c x y =>
  split at h
  ·unfold yS at h;split at h
   ·exact dX (ed h)
   ·rename_i k p k' q _ _;cases hk:(k==k') with
    | false=>rw [hk] at h;exact dX (ed h)
    | true=>rw [hk] at h;exact dX (ed h)
   ·exact dX (ed h)
  ·cases h
 case alloc t =>
  unfold wh at h;split at h
  ·cases h;exact lM ⟨rfl,rfl⟩
  ·cases h
 case box t x=>cases h;exact lM ⟨rfl,rfl⟩
 case build t ps =>
  unfold wm at h;split at h
  ·split at h
   ·split at h
    ·cases h;exact dX ⟨rfl,rfl⟩
    ·cases h
   ·split at h
    ·split at h
     ·cases h;exact dX ⟨rfl,rfl⟩
     ·cases h
    ·cases h
  ·cases h
 case buildSlice t n ps =>
  unfold ph at h;split at h
  ·split at h
   ·rename_i _ e1 q hq _ z hz;generalize hb:((Nat.ble (n*q) 16777216 && !(n*q==0))&&z.length==q)=bb at h;cases bb with
    | false=>cases h
    | true =>
     simp only [cd] at h;split at h
     ·cases h;exact lM ⟨rfl,rfl⟩
     ·cases h
   ·cases h
  ·cases h
 case insert t m k x=>exact wP h
 case mapEntry t m k=>exact Ap h
 case entryStore t m q x=>exact yu h
 case load t x=>exact dX (zr h)
 case store t x y=>exact El h
 case nilCheck x =>
  split at h
  ·exact dX (ed h)
  ·exact dX (ed h)
  ·exact dX (ed h)
  ·rw [ff] at h;split at h
   ·exact dX (ed h)
   ·cases h
  ·cases h
 case binOp op t x y yt=>exact dX (Eh h)
 case unOp op t x =>
  unfold G9 at h;split at h
  ·exact dX (ed h)
  ·exact dX (ed h)
  ·cases h
 case convert a b x =>
  unfold tH at h;split at h
  ·split at h
   ·exact dX (ed h)
   ·cases h
  ·split at h
   ·exact dX (ed h)
   ·split at h
    ·cases h;exact lM ⟨rfl,rfl⟩
    ·cases h
   ·cases h
  ·unfold zb at h;split at h
   ·split at h
    ·obtain ⟨m,news,rds,s0,hf⟩:=sV h;cases hb:news.all (tG .i32)<;>rw [hb] at hf<;>cases hf;exact dX ⟨rfl,rfl⟩
    ·obtain ⟨m,news,rds,s0,hf⟩:=sV h;cases hb:news.all (tG .u8)<;>rw [hb] at hf<;>cases hf;exact dX ⟨rfl,rfl⟩
    ·cases h
   ·cases h
 case makeFunc fn first caps =>
  split at h
  ·cases hz:(first.size==0) with
   | false=>rw [hz] at h;cases h
   | true=>rw [hz] at h;exact dX (ed h)
  ·split at h
   ·rw [ff] at h;split at h
    ·exact dX (ed h)
    ·cases h
   ·cases h
  ·cases h
 case makeMap t r =>
  split at h
  ·cases h;exact lM ⟨rfl,rfl⟩
  ·cases h
 case makeSlice t l c =>
  unfold sg at h;split at h
  ·split at h
   ·cases h;exact lM ⟨rfl,rfl⟩
   ·cases h
  ·cases h
 case slice t x lo hi mx =>
  split at h
  ·exact dX (Ej h)
  ·split at h
   ·unfold qP at h;split at h
    ·split at h
     ·have:=(nt h).2;cases this;exact lM ⟨rfl,rfl⟩
     ·cases h;exact lM ⟨rfl,rfl⟩
     ·cases h;exact lM ⟨rfl,rfl⟩
     ·cases h
    ·cases h
   ·cases h
 case fieldAddr t x f=>exact dX (zt h)
 case field t x f =>
  unfold wl at h;split at h
  ·exact dX (sj h)
  ·cases h
 case indexAddr t x i=>exact dX (zu h)
 case index t x i=>exact dX (Ei h)
 case lookup t x i ok=>exact dX (wN h)
 case mapUpdate t m k x=>exact wP h
 case range t x =>
  unfold zh at h;split at h
  ·split at h
   ·cases h;exact lM ⟨rfl,rfl⟩
   ·cases h
  ·cases h
 case next x str =>
  unfold zi at h;cases str with
  | false=>cases h
  | true =>
   simp only [cd] at h;split at h
   ·rename_i k hx;obtain ⟨s,pos,hk,hf⟩:=Cg h;cases hb:decide (pos<s.size) with
    | true =>
     rw [hb] at hf;cases hf;exact ⟨cF _,λp hp=>by simp at hp;subst hp;exact .inr ⟨by simp [g7],k,by simp [g7],by rw [hk];simp⟩⟩
    | false=>rw [hb] at hf;cases hf;exact dX ⟨rfl,rfl⟩
   ·cases h
 case makeInterface t x=>exact dX (BJ h)
 case typeAssert x t a ok=>exact dX (Cw h)
 case extract x i =>
  unfold sQ at h;split at h
  ·split at h
   ·exact dX (ed h)
   ·cases h
  ·cases h
 case call c =>
  split at h
  ·split at h
   ·exact dX (Hl h)
   ·split at h
    ·rename_i e' z hst;cases hz:yj P e' with
     | false=>rw [hz] at h;cases h
     | true=>rw [hz] at h;exact Cy h
    ·cases h
   ·exact FX h
   ·exact dX (wO h)
   ·exact dX (wO h)
   ·cases h
  ·cases h
 all_goals cases h
end
section
open Go.RowKit
variable {X:Cx} {hp:Hp} {nx:Nat} {ids:dE} {w:World}
def gh (dst:Option Tmp) (x:SV) (fr:Fr):Fr:=match dst with
 | some d=>(d,x)::fr
 | none=>fr
def Br (b:Bool) (A B:Prop):Prop:=(b=true->A)/\(b=false->B)
theorem Br.mk {b:Bool} {A B:Prop} (h:b=true->A) (g:b=false->B):Br b A B:=⟨h,g⟩
def mB (ops:Array Oper) (fr:Fr) (j:Nat) (want:Bool):Option Bool :=
 match (ops[j]?).bind (·.dst) with
 | some d=>match cL fr d with
  | .v (.bool b)=>some (bif want then b else !b)
  | .gd g (.v (.bool b))=>some (g&&(bif want then b else !b))
  | .gd g _=>bif g then none else some false
  | _=>none
 | none=>none
def Hm:Op->Bool
 | .move _=>true
 | .assign _=>true
 | .pick _ _ _=>true
 | .load _ _=>true
 | .nilCheck _=>true
 | .binOp _ _ _ _ _=>true
 | .unOp _ _ _=>true
 | .convert _ _ _=>true
 | .slice _ _ _ _ none=>true
 | .fieldAddr _ _ _=>true
 | .field _ _ _=>true
 | .indexAddr _ _ _=>true
 | .index _ _ _=>true
 | .lookup _ _ _ _=>true
 | .extract _ _=>true
 | .build _ _=>true
 | .call c=>match c.callee with
  | .builtin .len=>true
  | .builtin .min=>true
  | .builtin .max=>true
  | _=>false
 | _=>false
def LY (P:Program):Op->Bool
 | .indexAddr t _ (.tmp _)=>(t7 P t).isSome
 | .index t _ (.tmp _)=>(t7 P t).isSome
 | _=>false
def lN (P:Program) (o:Op):Bool:=Hm o && !LY P o
def jb (g:Bool) (fr:Fr) (o:Op):Option (FuncId×List SV) :=
 match o with
 | .call c=>match c.callee with
  | .value f=>match dC g fr f with
   | .v (.func (.func id) fs cs)=>bif fs.size==0&&cs.size==0 then some (id,c.args.toList.map (dC g fr)) else none
   | .clo id caps=>some (id,c.args.toList.map (dC g fr)++caps)
   | _=>none
  | _=>none
 | _=>none
structure sW (hp b u:Hp) (rds:List Nm):Prop where
 keys:∀ p∈u,∃ q∈b,q.1.key=p.1.key
 drop:∀ p∈b,(∃ q∈u,q.1.key=p.1.key)\/p.1.key∈rds
 eq:∀ k,bX (u++hp) k=bX (b++hp) k
theorem sW.refl (hp b:Hp) (rds:List Nm):sW hp b b rds:=⟨λp h=>⟨p,h,rfl⟩,λp h=>.inl ⟨p,h,rfl⟩,λ_=>rfl⟩
theorem sW.local {hp hp' b u:Hp} {rds:List Nm} (h:sW hp b u rds) (hr:∀ k:Nm,k.key∈rds->bX hp' k=bX hp k):bX (u++hp')=bX (b++hp'):=funext λk=>by
 have e:=h.eq k
 rw [fE,fE] at e
 rw [fE,fE]
 by_cases hu:∃ p∈u,p.1.key=k.key
 ·have hb:∃ p∈b,p.1.key=k.key:=by
   obtain ⟨p,hp1,hp2⟩:=hu;obtain ⟨q,hq1,hq2⟩:=h.keys p hp1;exact ⟨q,hq1,hq2.trans hp2⟩
  rw [if_pos hu,if_pos hb] at e ⊢;exact e
 ·by_cases hb:∃ p∈b,p.1.key=k.key
  ·rw [if_neg hu,if_pos hb] at e ⊢;obtain ⟨p,hp1,hp2⟩:=hb;rcases h.drop p hp1 with ⟨q,hq1,hq2⟩|hd
   ·exact absurd ⟨q,hq1,hq2.trans hp2⟩ hu
   ·rw [hp2] at hd;rw [hr k hd];exact e
  ·rw [if_neg hu,if_neg hb]
theorem HeapC.congr {hp':Hp} (h:HeapC X hp ids w) (he:bX hp=bX hp'):HeapC X hp' ids w:=by
 obtain ⟨h1,h2,h3⟩:=h;exact ⟨he▸h1,λk=>by rw [←he];exact h2 k,λk=>by rw [←he];exact h3 k⟩
theorem cV.congr {hp':Hp} {s:SV} {x:Value} (h:cV X hp ids w s x) (he:bX hp=bX hp'):cV X hp' ids w s x:=by
 unfold cV at h ⊢;rw [←he];exact h
theorem fk.congr {hp1 hp2:Hp} {ids':dE} {w':World} (h:fk X hp ids w hp1 ids' w') (he:bX hp1=bX hp2):fk X hp ids w hp2 ids' w':=by
 unfold fk at h ⊢;rw [←he];exact h
def BS (d:Bool) (P:Program) (f:FuncId) (args:List SV) (hp:Hp) (nx:Nat) (K:SV->Hp->Nat->List Nm->Prop):Prop :=
∃(args':List SV) (hin:Hp) (m:Nat) (Post:SV->Hp->Nat->Prop) (σ:Nm->Option Nm) (bor:List Nm),cS P f args' hin m Post/\vX P (bX hp) (bX hin) σ (mz bor)/\rj σ/\(∀ k:Nm,m<=k.base->σ k=none/\bX hin k = .unborn)/\(∀ k1 k2 j,σ k1=some j->σ k2=some j->k1=k2)/\(∀ k j,σ k=some j->(bX hin k).live=true\/(bX hin k = .dead/\bX hp j = .dead)\/(bX hin k = .void/\bX hp j = .void))/\args.length=args'.length/\(∀ (i:Nat) (x y:SV),args[i]? = some x->args'[i]? = some y->jL P (bX hp) (bX hin) σ (mz bor) x y)/\(∃ res hp' nx',Post res hp' nx')/\(d=true->∀ res hp' nx' res2 hp2 nx2,Post res hp' nx'->Post res2 hp2 nx2->res=res2/\hp'=hp2/\nx'=nx2) /\
 ∀res hp' nx',Post res hp' nx'->o7 hp'=true/\(bor=[]\/(res.nim=true/\t_ hp'=true))/\∃ u,sW hp (back σ nx m hp' hp) u (bor.map Nm.key++mT σ m)/\K (iA (ga σ nx) res) u (nx+nx') (bor.map Nm.key++mT σ m)
def eY.wp':eY->(SV->Hp->Nat->List Nm->Prop)->Prop
 | .bad,_=>False
 | .ok s e,K=>yf s (K e.val e.upd e.nx e.rds)
structure uZ (hp:Hp) (nx:Nat) (upd:Hp) (nx':Nat) (rds:List Nm):Prop where
 le:nx<=nx'
 keys:∀ p∈upd,(nx<=p.1.base/\p.1.base<nx')\/(p.1.key∈rds/\∃ k:Nm,k.key=p.1.key/\bX hp k≠.unborn)
def n7 (P:Program) (o:Oper) (fr:Fr) (hp:Hp) (nx:Nat) (K:SV->Hp->Nat->List Nm->Prop):Prop :=
∀(X:Cx) (ids:dE) (w:World) (fr':Fr) (hp':Hp) (a:Act),X.P=P->HeapC X hp' ids w->X.m<=nx->(∀ d,cV X hp' ids w (cL fr' d) (a.tmps.getD d undef))->(∀ t∈lH o.op,cL fr' t=cL fr t)->bX hp' (Nm.t nx) = .unborn->(∀ val upd nx' rds,K val upd nx' rds->(∀ k:Nm,nx<=k.base->k.base<nx'->bX hp' k = .unborn)/\∀ k:Nm,k.key∈rds->bX hp' k=bX hp k) ->
 ∀(KK:Act->World->Prop) (Q:Exit->Act->World->Prop),(∀ val upd nx' rds x w' ids',K val upd nx' rds->uZ hp nx upd nx' rds->HeapC X (upd++hp') ids' w'->fk X hp' ids w (upd++hp') ids' w'->cV X (upd++hp') ids' w' val x->KK (a.put o.dst x) w')->o.wp P a w KK Q
def tI (e:dx) (v:SV) (u:Hp) (n:Nat) (r:List Nm):Prop:=v=e.val/\u=e.upd/\n=e.nx/\r=e.rds
def wQ (dt:Bool) (P:Program) (o:Oper) (fr:Fr) (hp:Hp) (nx:Nat) (K:SV->Hp->Nat->List Nm->Prop):Prop:=match dt with
 | false=>n7 P o fr hp nx K
 | true=>∃ e:dx,nx<=e.nx/\K e.val e.upd e.nx e.rds/\n7 P o fr hp nx (tI e)
theorem n7.mono {P:Program} {o:Oper} {fr fr2:Fr} {hp:Hp} {nx:Nat} {K K':SV->Hp->Nat->List Nm->Prop} (h:n7 P o fr hp nx K) (hf:cL fr=cL fr2) (hK:∀ v u n r,K v u n r->K' v u n r):n7 P o fr2 hp nx K' :=
 λX ids w fr' hp' a hP h1 h2 h3 h4 h5 h6 KK Q h7=>h X ids w fr' hp' a hP h1 h2 h3 (λt ht=>by rw [hf];exact h4 t ht) h5 (λv u n r hk=>h6 v u n r (hK v u n r hk)) KK Q (λv u n r x w' ids' hk=>h7 v u n r x w' ids' (hK v u n r hk))
theorem wQ.mono {dt:Bool} {P:Program} {o:Oper} {fr fr2:Fr} {hp:Hp} {nx:Nat} {K K':SV->Hp->Nat->List Nm->Prop} (h:wQ dt P o fr hp nx K) (hf:cL fr=cL fr2) (hK:∀ v u n r,K v u n r->K' v u n r):wQ dt P o fr2 hp nx K':=by
 cases dt with
 | false=>exact n7.mono (K:=K) h hf hK
 | true =>
  obtain ⟨e,h1,h2,h3⟩:=h;exact ⟨e,h1,hK _ _ _ _ h2,h3.mono hf λ_ _ _ _ h=>h⟩
def u4:Op->Bool
 | .lookup _ _ _ _=>false
 | .mapEntry _ _ _=>false
 | _=>true
def kA (dt:Bool) (P:Program) (g:Bool) (o:Oper) (fr:Fr) (hp:Hp) (nx:Nat) (K:SV->Hp->Nat->List Nm->Prop):Prop :=
 match jb g fr o.op with
 | some c=>BS dt P c.1 c.2 hp nx K
 | none=>(g=true/\u4 o.op=true/\wQ dt P o fr hp nx K)\/(kK P g fr hp nx o.type o.op).wp' K
def zw (g:Bool) (r:eY) (nx:Nat) (K:SV->Hp->Nat->List Nm->Prop):Prop :=
 (g=false/\K (.gd g .any) [] nx [])\/match r with
 | .bad=>False
 | .ok s e=>match e.upd with
  | []=>yf (g=true->s) (K (.gd g e.val) [] nx e.rds)
  | _=>False
def iw (dt:Bool) (P:Program) (ops:Array Oper) (o:Oper) (fr:Fr) (hp:Hp) (nx:Nat) (K:SV->Hp->Nat->List Nm->Prop):Prop :=
 match o.guard with
 | none=>kA dt P true o fr hp nx K
 | some jw=>match mB ops fr jw.1 jw.2 with
  | some g=>bif lN P o.op then zw g (kK P g fr hp nx o.type o.op) nx K else Br g (kA dt P g o fr hp nx K) (K (.v undef) [] nx [])
  | none=>False
def lO (P:Program) (ops:Array Oper):List Oper->Fr->Hp->Nat->(Fr->Hp->Nat->Prop)->Prop
 | [],fr,hp,nx,K=>K fr hp nx
 | o::rest,fr,hp,nx,K=>iw false P ops o fr hp nx λval upd nx' _=>lO P ops rest (gh o.dst val fr) (upd++hp) nx' K
theorem A0 {fr:Fr} {a:Act} {N:Nat} (hf:∀ d,cV X hp ids w (cL fr d) (a.tmps.getD d undef)) (hN:a.tmps.size=N) {dst:Option Tmp} (hd:∀ d,dst=some d->d<N) {x:Value} {s:SV} (hs:cV X hp ids w s x) :
 ∀d,cV X hp ids w (cL (gh dst s fr) d) ((a.put dst x).tmps.getD d undef):=by
 intro d;cases dst with
 | none=>exact hf d
 | some t =>
  simp only [gh,cL,Act.put];have ht:=hd t rfl;by_cases htd:t=d
  ·subst htd;rw [show (t==t)=true from by simp,cd,cQ,uM (by rw [hN];exact ht)];exact hs
  ·rw [show (t==d)=false from by simpa using htd,cj,cQ,yc htd,←cQ];exact hf d
theorem Cz {a:Act} {dst:Option Tmp} {x:Value} :(a.put dst x).tmps.size=a.tmps.size:=by cases dst<;>simp [Act.put]
theorem zx {a:Act} {dst:Option Tmp} {x:Value} :(a.put dst x).defers=a.defers:=by cases dst<;>rfl
theorem A7 {fr:Fr} {a:Act} {hp':Hp} {ids':dE} {w':World} (hE:fk X hp ids w hp' ids' w') (hf:∀ d,cV X hp ids w (cL fr d) (a.tmps.getD d undef)):∀ d,cV X hp' ids' w' (cL fr d) (a.tmps.getD d undef):=λd=>(hf d).mono hE
theorem Aq {P:Program} {ops:Array Oper} {Q:Exit->Act->World->Prop} {i:Nat} {o:Oper} (ho:ops[i]? = some o) {a:Act} {w:World} {K:Act->World->Prop} (hw:Region.wanted o (yielded ops a.tmps)=true) (h:o.wp P a w K Q):wpOp P ops Q i K a w:=by
 unfold wpOp;rw [ho];simp only [hw,if_true];exact .inl h
theorem A8 {P:Program} {ops:Array Oper} {Q:Exit->Act->World->Prop} {i:Nat} {o:Oper} (ho:ops[i]? = some o) {a:Act} {w:World} {K:Act->World->Prop} (hw:Region.wanted o (yielded ops a.tmps)=false) (h:K (a.put o.dst undef) w):wpOp P ops Q i K a w:=by
 unfold wpOp;rw [ho];simp only [hw,fy,lJ];exact h
theorem mZ {P:Program} {o:Oper} {a:Act} {w w':World} {K:Act->World->Prop} {Q:Exit->Act->World->Prop} {x:Value} (h:(execOp a.eval o).run P w = .ok (.value x) w'\/((execOp a.eval o).run P w = .ok .skip w'/\x=undef)) (hK:K (a.put o.dst x) w'):o.wp P a w K Q:=by
 unfold Oper.wp;rcases h with h|⟨h,rfl⟩<;>rw [h]<;>exact hK
theorem IE {fr:Fr} {a:Act} (hf:∀ d,cV X hp ids w (cL fr d) (a.tmps.getD d undef)) {ops:Array Oper} {j:Nat} {want g:Bool} (hg:mB ops fr j want=some g) {o:Oper} (ho:o.guard=some (j,want)):Region.wanted o (yielded ops a.tmps)=g:=by
 unfold Region.wanted;rw [ho];simp only;unfold mB at hg;unfold yielded;cases hd:(ops[j]?).bind (·.dst) with
 | none=>rw [hd] at hg;cases hg
 | some d =>
  rw [hd] at hg;have hfd:=hf d;simp only [cx];have hget:∀ b,a.tmps.getD d undef = .bool b->a.tmps[d]? = some (.bool b):=λb hb=>by
   rw [cQ] at hb;cases hq:a.tmps[d]? with
   | none=>rw [hq] at hb;cases hb
   | some v=>rw [hq] at hb;simp only [gY] at hb;rw [hb]
  simp only at hg;split at hg
  ·rename_i b hb;rw [hb] at hfd;rw [hget b (d9 hfd)];cases hg;cases b<;>cases want<;>rfl
  ·rename_i g0 b hb;rw [hb] at hfd;cases hg;cases hfd with
   | gd h1 h2 =>
    cases g0 with
    | true =>
     rw [hget b (d9 (h1 rfl))];cases b<;>cases want<;>rfl
    | false =>
     have hu:=h2 rfl;rw [cQ] at hu;cases hq:a.tmps[d]? with
     | none=>cases want<;>rfl
     | some v=>rw [hq] at hu;simp only [gY] at hu;subst hu;cases want<;>rfl
  ·rename_i g0 y _ hb;rw [hb] at hfd;cases g0 with
   | true=>cases hg
   | false =>
    cases hg;cases hfd with
    | gd h1 h2 =>
     have hu:=h2 rfl;rw [cQ] at hu;cases hq:a.tmps[d]? with
     | none=>cases want<;>rfl
     | some v=>rw [hq] at hu;simp only [gY] at hu;subst hu;cases want<;>rfl
  ·cases hg
theorem Kc {P:Program} {o:Oper} {a:Act} {w:World} {K:Act->World->Prop} {Q:Exit->Act->World->Prop} {fr:Fr} {g:Bool} {c:FuncId×List SV} (hc:jb g fr o.op=some c)
  (hf : ∀ x, dT P (bX hp) ids (Im X.w0 X.I0 X.W0 (bX hp) ids w) w (dC g fr x) (a.eval x)) (hbody : ∃ fn body, P.funcs[c.1]? = some fn /\ fn.body = some body /\ fn.name ≠ "runtime.NumGoroutine")
  (h:∀ vals:Array Value,vals.size=c.2.length->(∀ i x,c.2[i]? = some x->dT P (bX hp) ids (Im X.w0 X.I0 X.W0 (bX hp) ids w) w x (vals.getD i undef)) ->
   Calls P c.1 vals w λe w'=>∃ r,e = .returned r/\K (a.put o.dst r) w'):o.wp P a w K Q:=by
 obtain ⟨fn,body,hfn,hbd,hnm⟩:=hbody
 have run:∀ vals w,(callFunc c.1 vals).run P w = .ok (.enter c.1 vals) w:=λvals w=>by
  unfold callFunc
  have hnm' : (fn.name == "runtime.NumGoroutine") = false := by simpa using hnm
  simp only [c_,run_program,dv,hfn,hnm',fy,lJ,hbd,Option.isNone_some]
  rfl
 cases hop:o.op<;>rw [hop] at hc<;>simp only [jb] at hc<;>try (cases hc;done)
 rename_i cl
 obtain ⟨callee,args,argTypes⟩:=cl
 cases hcal:callee<;>rw [hcal] at hc<;>simp only at hc<;>try (cases hc;done)
 rename_i f
 have fin:∀ (id:FuncId) (svs:List SV) (vals:Array Value),c=(id,svs)->(execOp a.eval o).run P w = .ok (.enter id vals) w->vals.size=svs.length->(∀ i x,svs[i]? = some x->dT P (bX hp) ids (Im X.w0 X.I0 X.W0 (bX hp) ids w) w x (vals.getD i undef))->o.wp P a w K Q:=by
  rintro id svs vals rfl hr hs hd
  unfold Oper.wp
  rw [hr]
  show Calls P id vals w _
  refine (h vals hs hd).mono λe w' he=>?_
  obtain ⟨r,rfl,hk⟩:=he
  exact hk
 have hargs:∀ i x,(args.toList.map (dC g fr))[i]? = some x->dT P (bX hp) ids (Im X.w0 X.I0 X.W0 (bX hp) ids w) w x ((args.map a.eval).getD i undef):=λi x hi=>by
  rw [fZ] at hi
  cases hai:args.toList[i]? with
  | none=>rw [hai] at hi;cases hi
  | some q =>
   rw [hai] at hi;cases hi
   have:args[i]? = some q:=by simpa using hai
   rw [cQ,qI,this]
   exact hf q
 have hff:=hf f
 split at hc
 ·rename_i id fs cs hev
  rw [hev] at hff
  cases hz:(fs.size==0&&cs.size==0) with
  | false=>rw [hz] at hc;cases hc
  | true =>
   rw [hz] at hc
   simp only [cd,fP] at hc
   simp only [cT,jC] at hz
   have h1:fs = #[]:=Array.eq_empty_of_size_eq_zero hz.1
   have h2:cs = #[]:=Array.eq_empty_of_size_eq_zero hz.2
   subst h1;subst h2
   have hv:=d9 hff
   refine fin id _ (args.map a.eval) hc.symm ?_ (by simp) hargs
   unfold execOp
   rw [hop,hcal]
   simp only [resolve,c_,hv,Deferred.ofValue,eK,dv,invoke]
   have:=run (args.map a.eval) w
   rw [←hc] at this
   simpa using this
 ·rename_i id caps hev
  rw [hev] at hff
  simp only [fP] at hc
  obtain ⟨arr,hv,hl,hx⟩:=xo hff
  refine fin id _ (args.map a.eval++arr) hc.symm ?_ (by simp [hl]) λi x hi=>?_
  ·unfold execOp
   rw [hop,hcal]
   simp only [resolve,c_,hv,Deferred.ofValue,eK,dv,invoke]
   have:=run (args.map a.eval++arr) w
   rw [←hc] at this
   simpa using this
  ·rw [pK] at hi
   rw [cQ]
   split at hi
   ·rename_i hlt
    rw [nj (by simpa using hlt),←cQ]
    exact hargs i x hi
   ·rename_i hlt
    rw [ep,jA] at hi hlt
    rw [Array.getElem?_append_right (by simpa using hlt),Array.size_map,←cQ]
    exact hx _ x hi
 ·cases hc
theorem jL.local {P:Program} {C C2 C':Nm->cp} {σ:Nm->Option Nm} {bor:List Nm} (hC:∀ k,mz bor k->C2 k=C k) {x y:SV} (h:jL P C C' σ (mz bor) x y):jL P C2 C' σ (mz bor) x y:=by
 induction h with
 | any=>exact .any
 | cl h=>exact .cl h
 | own hs hl=>exact .own hs hl
 | absent hl hs=>exact .absent hl hs
 | ptr hs hl=>exact .ptr hs hl
 | bp hs hl=>exact .bp hs hl
 | mp hs hl=>exact .mp hs hl
 | it hs hl=>exact .it hs hl
 | agg h _ ih=>exact .agg h ih
 | tup h _ ih=>exact .tup h ih
 | clo h _ ih=>exact .clo h ih
 | ifc _ ih=>exact .ifc ih
 | mth _ ih=>exact .mth ih
 | frz hk hf hl _ q hq ih=>exact .frz ((hC _ hf).trans hk) hf hl ih q hq
 | fptr hk hf hl _ ih=>exact .fptr ((hC _ hf).trans hk) hf hl ih
 | nilsl=>exact .nilsl
theorem vX.local {P:Program} {C C2 C':Nm->cp} {σ:Nm->Option Nm} {bor:List Nm} (hC:∀ k,mz bor k->C2 k=C k) (hσ:∀ k j,σ k=some j->C2 j=C j) (h:vX P C C' σ (mz bor)):vX P C2 C' σ (mz bor):=by
 refine ⟨λk'=>?_,h.inj,h.frz⟩;have hh:=h.ch k';cases hc:C' k' with
 | unborn=>trivial
 | dead=>trivial
 | void=>rw [hc] at hh;exact λk hk=>(hσ _ _ hk).trans (hh k hk)
 | row e cs' =>
  rw [hc] at hh;rcases hh with hh|⟨k,cs,h1,h2,h3,h4⟩
  ·exact .inl hh
  ·exact .inr ⟨k,cs,h1,(hσ _ _ h1).trans h2,h3,λi x y hx hy=>(h4 i x y hx hy).local hC⟩
 | map es' =>
  rw [hc] at hh;obtain ⟨k,es,h1,h2,h3,h4⟩:=hh;exact ⟨k,es,h1,(hσ _ _ h1).trans h2,h3,λi x y hx hy=>⟨(h4 i x y hx hy).1,(h4 i x y hx hy).2.local hC⟩⟩
 | obj s pos =>
  rw [hc] at hh;obtain ⟨k,h1,h2⟩:=hh;exact ⟨k,h1,(hσ _ _ h1).trans h2⟩
 | fam g=>trivial
theorem wR {g:Bool} {fr fr':Fr} {o:Op} (hf:∀ t∈lH o,cL fr' t=cL fr t):jb g fr' o=jb g fr o:=by
 cases o<;>simp only [jb];rename_i c;obtain ⟨callee,args,argTypes⟩:=c;cases callee<;>simp only;rename_i f;have hff:dC g fr' f=dC g fr f:=rI λt ht=>hf t (p6 (o:=.call ⟨.value f,args,argTypes⟩) (by simp [Op.operands,Call.operands]) ht)
 have hargs:args.toList.map (dC g fr')=args.toList.map (dC g fr):=pP λx hx=>rI λt ht=>hf t (p6 (o:=.call ⟨.value f,args,argTypes⟩) (by simp [Op.operands,Call.operands];exact .inr (by simpa using hx)) ht)
 rw [hff,hargs]
theorem wS {σ:Nm->Option Nm} {m:Nat} (hσm:∀ k:Nm,m<=k.base->σ k=none) (hsig:rj σ) {k j:Nm} (hk:σ k=some j):j.key∈mT σ m:=by
 have hkm:k.base<m:=by
  by_cases hkm:k.base<m
  ·exact hkm
  ·have:=hσm k (by omega);rw [hk] at this;cases this
 unfold mT;refine pN.2 ⟨k.base,jD.2 hkm,?_⟩;cases k with
 | t a=>simp only [Nm.base_t];rw [hk];simp
 | s F i =>
  rw [hsig F i] at hk;simp only [Nm.base_s];cases hs:σ (.s F 0) with
  | none=>rw [hs] at hk;cases hk
  | some y =>
   rw [hs] at hk;cases hk;have h0:=hsig F 0;rw [hs] at h0;simp only [fp,fP] at h0;refine jE _ ?_;simp only [fp,Option.mem_toList,fP];rw [h0];rfl
theorem xZ {σ:Nm->Option Nm} {nx m:Nat} (hσm:∀ k:Nm,m<=k.base->σ k=none) (hsig:rj σ) {h1 h2:Hp} (hh:∀ k:Nm,k.key∈mT σ m->bX h2 k=bX h1 k):∀ l:Hp,iZ σ nx l h2=iZ σ nx l h1
 | []=>rfl
 | p::r=>by
  have ih:=xZ (nx:=nx) hσm hsig hh r
  simp only [iZ,ih]
  congr 1
  unfold yp
  cases hp:p.1 with
  | s F z=>rfl
  | t k =>
   simp only
   cases hb:ga σ nx (.t k) with
   | t c=>rfl
   | s G z =>
    simp only [ea]
    have hs:σ (.t k)=some (.s G z):=by
     unfold ga at hb;cases hs:σ (.t k) with
     | none=>rw [hs] at hb;simp [Nm.sh] at hb
     | some j=>rw [hs] at hb;rw [←hb]
    have hm:=wS hσm hsig hs;rw [show (λj=>bX (iZ σ nx r h1++h2) (.s G j))=(λj=>bX (iZ σ nx r h1++h1) (.s G j)) from funext λj=>by
     rw [fE,fE];split
     ·rfl
     ·exact hh _ hm]
theorem sk {σ:Nm->Option Nm} {nx m:Nat} (hσm:∀ k:Nm,m<=k.base->σ k=none) (hsig:rj σ) {h1 h2:Hp} (hh:∀ k:Nm,k.key∈mT σ m->bX h2 k=bX h1 k) (l:Hp):back σ nx m l h2=back σ nx m l h1:=xZ hσm hsig hh _
theorem zy {σ:Nm->Option Nm} {nx:Nat} {H:Hp}:∀ {l:Hp} {p:Nm×cp},p∈iZ σ nx l H->∃ q∈l,p.1.key=(ga σ nx (match q.1 with | .t k=>.t k | .s F _=>.s F 0)).key\/(∃ F z,q.1 = .s F z/\p.1 = .s (ga σ nx (.s F 0)).base 0)
 | [],p,h=>by cases h
 | q::r,p,h=>by
  simp only [iZ] at h
  rcases fg.1 h with rfl|h
  ·refine ⟨q,by simp,?_⟩
   unfold yp
   cases hq:q.1 with
   | t k=>left;simp only [g7,Nm.key_key]
   | s F z=>right;exact ⟨F,z,rfl,rfl⟩
  ·obtain ⟨q2,hq2,h2⟩:=zy h
   exact ⟨q2,by simp [hq2],h2⟩
theorem Hn {P:Program} {C:Nm->cp} {hp':Hp} {m nx nx':Nat} {σ:Nm->Option Nm} {bor:Nm->Prop} (hS:vX P (bX hp) C σ bor) (hsig:rj σ) (hσm:∀ k:Nm,m<=k.base->σ k=none) (hσl:∀ k j,σ k=some j->(C k).live=true\/(C k = .dead/\bX hp j = .dead)\/(C k = .void/\bX hp j = .void))
  (hwf:o7 hp'=true) (hmn:m<=nx') (hb:∀ k:Nm,nx'<=k.base->bX hp' k = .unborn) (rds:List Nm):uZ hp nx (back σ nx m hp' hp) (nx+nx') (rds++mT σ m):=by
 refine ⟨uO _ _,λp hp1=>?_⟩
 have old:∀ k j,σ k=some j->j.key∈rds++mT σ m/\bX hp j≠.unborn:=λk j hk=>⟨jE _ (wS hσm hsig hk),by
  rcases hσl k j hk with h1|⟨_,h1⟩|⟨_,h1⟩
  ·exact iY ((hS.ch k).live h1 hk).1
  ·rw [h1];simp
  ·rw [h1];simp⟩
 unfold back at hp1
 obtain ⟨q,hq,hp2⟩:=zy hp1
 have hqb:q.1.base<nx':=by
  rcases gy.1 hq with h1|h1
  ·by_cases hlt:q.1.base<nx'
   ·exact hlt
   ·exact absurd (hb q.1 (by omega)) (xp hwf ⟨q,h1,rfl⟩)
  ·unfold pA at h1
   obtain ⟨k,hk,hkk⟩:=pN.1 h1
   have hk:=jD.1 hk
   rcases gy.1 hkk with h2|h2
   ·cases hs:(σ (.t k)).isSome<;>rw [hs] at h2<;>simp at h2
    subst h2;simp;omega
   ·cases hs:(σ (.s k 0)).isSome<;>rw [hs] at h2<;>simp at h2
    subst h2;simp;omega
 -- the name, and what it is in the caller
 have fin:∀ k:Nm,k.base<nx'->p.1.key=(ga σ nx k).key->(nx<=p.1.base/\p.1.base<nx+nx')\/(p.1.key∈rds++mT σ m/\∃ k:Nm,k.key=p.1.key/\bX hp k≠.unborn):=λk hk he=>by
  have hbase:p.1.base=(ga σ nx k).base:=by rw [←Nm.key_base,he,Nm.key_base]
  unfold ga at he hbase
  cases hs:σ k with
  | some j =>
   rw [hs] at he
   obtain ⟨g1,g2⟩:=old k j hs
   exact .inr ⟨by rw [he];exact g1,j,he.symm,g2⟩
  | none =>
   rw [hs] at hbase
   simp only [Nm.sh_base] at hbase
   exact .inl ⟨by omega,by omega⟩
 rcases hp2 with hp2|⟨F,z,hq1,hp2⟩
 ·cases hq1:q.1 with
  | t k=>rw [hq1] at hp2 hqb;exact fin (.t k) hqb hp2
  | s F z=>rw [hq1] at hp2 hqb;exact fin (.s F 0) hqb hp2
 ·rw [hq1] at hqb
  refine fin (.s F 0) hqb ?_
  rw [hp2,uY hsig nx F 0];rfl
theorem zz {dt g:Bool} (hg:g=true) {o:Oper} {fr fr':Fr} {hp':Hp} {a:Act} (h:HeapC X hp' ids w) (hmn:X.m<=nx) (hf':∀ d,cV X hp' ids w (cL fr' d) (a.tmps.getD d undef)) (hn:∀ t∈lH o.op,cL fr' t=cL fr t)
  {K:SV->Hp->Nat->List Nm->Prop} (hc:kA dt X.P g o fr hp nx K) {KK:Act->World->Prop} {Q:Exit->Act->World->Prop} (hfr0:bX hp' (Nm.t nx) = .unborn)
  (hAg:∀ val upd nx' rds,K val upd nx' rds->(∀ k:Nm,nx<=k.base->k.base<nx'->bX hp' k = .unborn)/\∀ k:Nm,k.key∈rds->bX hp' k=bX hp k)
  (hK:∀ val upd nx' rds x w' ids',K val upd nx' rds->uZ hp nx upd nx' rds->HeapC X (upd++hp') ids' w'->fk X hp' ids w (upd++hp') ids' w'->cV X (upd++hp') ids' w' val x->KK (a.put o.dst x) w'):o.wp X.P a w KK Q:=by
 unfold kA at hc
 split at hc
 ·rename_i c hcall
  obtain ⟨args',hin,m,Post,σ,bor,hspec,hS,hsig,hσm,hσi,hσl,hal,hargs,⟨res0,hp0,nx0,hp00⟩,_,hpost⟩:=hc
  -- what the call looks at
  have hev:=λx=>rH hf' hg x
  rw [←wR hn] at hcall
  refine Kc (X:=X) (hp:=hp') (ids:=ids) hcall hev hspec.1 λvals hvs hvd=>?_
  obtain ⟨_,_,u0,ht0,hk0⟩:=hpost _ _ _ hp00
  obtain ⟨_,hag0⟩:=hAg _ _ _ _ hk0
  have hC1:∀ k,mz bor k->bX hp' k=bX hp k:=λk hk=>hag0 k (lL _ (J_ hk))
  have hC3:∀ k:Nm,k.key∈mT σ m->bX hp' k=bX hp k:=λk hk=>hag0 k (jE _ hk)
  have hC2:∀ k j,σ k=some j->bX hp' j=bX hp j:=λk j hk=>hC3 j (wS (λk hk=>(hσm k hk).1) hsig hk)
  refine (FV h hmn hspec (hS.local hC1 hC2) hsig hσm hσi (λk j hk=>(hσl k j hk).imp id λh=>h.imp (λh=>⟨h.1,(hC2 k j hk).trans h.2⟩) λh=>⟨h.1,(hC2 k j hk).trans h.2⟩) hal (λi x y hx hy=>(hargs i x y hx hy).local hC1) hvs hvd).mono λe w' he=>?_
  obtain ⟨r,res,hp2,nx2,rfl,hp3,⟨hfr2,hmle⟩,himp⟩:=he
  obtain ⟨hwf,hbor,u,htr,hk⟩:=hpost _ _ _ hp3
  obtain ⟨hag,hag2⟩:=hAg _ _ _ _ hk
  obtain ⟨ids2,g1,g2,g3⟩:=himp ⟨hwf,λk hk=>hag _ (by simp) (by simp;omega),hbor.imp (λhb k hk=>by rw [hb] at hk;exact J9 k hk) id⟩
  rw [sk (λk hk=>(hσm k hk).1) hsig hC3] at g1 g2 g3
  have he:=(htr.local hag2).symm
  have hu:=Hn (nx:=nx) hS hsig (λk hk=>(hσm k hk).1) hσl hwf hmle hfr2 (bor.map Nm.key)
  refine ⟨r,rfl,hK _ _ _ _ _ _ _ hk ⟨hu.le,λp hp1=>?_⟩ (g1.congr he) (fk.congr g2 he) (cV.congr g3 he)⟩
  obtain ⟨q,hq1,hq2⟩:=htr.keys p hp1
  have hb:q.1.base=p.1.base:=by rw [←Nm.key_base,hq2,Nm.key_base]
  have:=hu.keys q hq1
  rw [hb,hq2] at this
  exact this
 ·rename_i hcall
  rcases hc with hc|hc
  ·have hsem:∃ K':SV->Hp->Nat->List Nm->Prop,(∀ v u n r,K' v u n r->K v u n r)/\n7 X.P o fr hp nx K':=by
    obtain ⟨_,_,hc⟩:=hc
    cases dt with
    | false=>exact ⟨K,λ_ _ _ _ h=>h,hc⟩
    | true =>
     obtain ⟨e,_,h2,h3⟩:=hc
     exact ⟨_,λv u n r h=>by obtain ⟨rfl,rfl,rfl,rfl⟩:=h;exact h2,h3⟩
   obtain ⟨K',hKK,hsem⟩:=hsem
   exact hsem X ids w fr' hp' a rfl h hmn hf' hn hfr0 (λv u n r hk=>hAg v u n r (hKK v u n r hk)) KK Q (λv u n r x w' ids' hk=>hK v u n r x w' ids' (hKK v u n r hk))
  cases hop:kK X.P g fr hp nx o.type o.op with
  | bad=>rw [hop] at hc;exact hc.elim
  | ok side e =>
   rw [hop] at hc
   obtain ⟨hs,hk⟩:=hc
   obtain ⟨_,hag⟩:=hAg _ _ _ _ hk
   have hop':=p7 hop hn hag
   obtain ⟨x,w',ids',g1,g2,g3,g4⟩:=uX (X:=X) ⟨h,hfr0,hmn⟩ hf' hg hop' hs
   obtain ⟨k1,k2⟩:=yv hop
   exact mZ g1 (hK _ _ _ _ _ _ _ hk ⟨k1,λp hp1=>(k2 p hp1).imp (λhh=>by rw [hh.1];simp;omega) id⟩ g2 g3 g4)
end
section
open Go.RowKit
variable {X:Cx} {hp:Hp} {nx:Nat} {ids:dE} {w:World}
def jM (ops:Array Oper) (o:Oper):List Tmp:=(match o.guard with
 | some jw=>((ops[jw.1]?).bind (·.dst)).toList
 | none=>[])++lH o.op
theorem wT {ops:Array Oper} {o:Oper} {jw:Nat×Bool} (ho:o.guard=some jw) {fr fr':Fr} (hn:∀ t∈jM ops o,cL fr' t=cL fr t):mB ops fr' jw.1 jw.2=mB ops fr jw.1 jw.2:=by
 unfold mB;cases hd:(ops[jw.1]?).bind (·.dst) with
 | none=>rfl
 | some d=>simp only;rw [hn d (by unfold jM;rw [ho];simp [hd])]
theorem Em {g:Bool} {o:Oper} {fr fr':Fr} {hp':Hp} {a:Act} (h:HeapC X hp' ids w) (hmn:X.m<=nx) (hf':∀ d,cV X hp' ids w (cL fr' d) (a.tmps.getD d undef)) (hn:∀ t∈lH o.op,cL fr' t=cL fr t) (hfr0:bX hp' (Nm.t nx) = .unborn)
  {K:SV->Hp->Nat->List Nm->Prop} (hc:zw g (kK X.P g fr hp nx o.type o.op) nx K) (hg:g=true)
  (hAg:∀ val upd nx' rds,K val upd nx' rds->∀ k:Nm,k.key∈rds->bX hp' k=bX hp k) {KK:Act->World->Prop} {Q:Exit->Act->World->Prop}
  (hK:∀ val rds x w' ids',K (.gd g val) [] nx rds->HeapC X hp' ids' w'->fk X hp' ids w hp' ids' w'->cV X hp' ids' w' val x->KK (a.put o.dst x) w'):o.wp X.P a w KK Q:=by
 rcases hc with hc|hc
 ·exact absurd (hc.1.symm.trans hg) (by simp)
 cases hop:kK X.P g fr hp nx o.type o.op with
 | bad=>rw [hop] at hc;exact hc.elim
 | ok side e =>
  rw [hop] at hc;simp only at hc;split at hc
  ·rename_i hu;obtain ⟨hs,hk⟩:=hc;have hop':=p7 hop hn (hAg _ _ _ _ hk);obtain ⟨x,w',ids',g1,g2,g3,g4⟩:=uX (X:=X) ⟨h,hfr0,hmn⟩ hf' hg hop' (hs hg);rw [hu] at g2 g3 g4;exact mZ g1 (hK _ _ _ _ _ hk g2 g3 g4)
  ·exact hc.elim
theorem Kd {g:Bool} {r:eY} {K:SV->Hp->Nat->List Nm->Prop} (hc:zw g r nx K):∃ val rds,K (.gd g val) [] nx rds:=by
 rcases hc with hc|hc
 ·exact ⟨_,_,hc.2⟩
 cases r with
 | bad=>exact hc.elim
 | ok side e =>
  simp only at hc;split at hc
  ·exact ⟨_,_,hc.2⟩
  ·exact hc.elim
theorem sm {dt:Bool} {ops:Array Oper} {i:Nat} {o:Oper} (ho:ops[i]? = some o) {fr fr':Fr} {hp':Hp} {a:Act} (h:HeapC X hp' ids w) (hmn:X.m<=nx) (hf':∀ d,cV X hp' ids w (cL fr' d) (a.tmps.getD d undef)) (hn:∀ t∈jM ops o,cL fr' t=cL fr t)
  {K:SV->Hp->Nat->List Nm->Prop} (hc:iw dt X.P ops o fr hp nx K) {KK:Act->World->Prop} {Q:Exit->Act->World->Prop} (hfr0:bX hp' (Nm.t nx) = .unborn)
  (hAg:∀ val upd nx' rds,K val upd nx' rds->(∀ k:Nm,nx<=k.base->k.base<nx'->bX hp' k = .unborn)/\∀ k:Nm,k.key∈rds->bX hp' k=bX hp k)
  (hK:∀ val upd nx' rds x w' ids',K val upd nx' rds->uZ hp nx upd nx' rds->HeapC X (upd++hp') ids' w'->fk X hp' ids w (upd++hp') ids' w'->cV X (upd++hp') ids' w' val x->KK (a.put o.dst x) w'):wpOp X.P ops Q i KK a w:=by
 have hn2:∀ t∈lH o.op,cL fr' t=cL fr t:=λt ht=>hn t (jE _ ht);have uok:∀ rds,uZ hp nx [] nx rds:=λrds=>⟨cF _,λp hp=>by cases hp⟩;unfold iw at hc;cases hgd:o.guard with
 | none =>
  rw [hgd] at hc;exact Aq ho (by unfold Region.wanted;rw [hgd]) (zz rfl h hmn hf' hn2 hc hfr0 hAg hK)
 | some jw =>
  rw [hgd] at hc;simp only at hc;cases hgs:mB ops fr jw.1 jw.2 with
  | none=>rw [hgs] at hc;exact hc.elim
  | some g =>
   rw [hgs] at hc;simp only at hc;have hwant:Region.wanted o (yielded ops a.tmps)=g:=IE hf' (j:=jw.1) (want:=jw.2) ((wT hgd hn).trans hgs) hgd;cases hq:lN X.P o.op with
   | true =>
    rw [hq,cd] at hc;by_cases hg:g=true
    ·exact Aq ho (hwant.trans hg) (Em h hmn hf' hn2 hfr0 hc hg (λ_ _ _ _ hk=>(hAg _ _ _ _ hk).2) λval rds x w' ids' hk h1 h2 h3 =>
      hK _ _ _ _ x w' ids' hk (uok _) h1 h2 (.gd (λ_=>h3) (λhe=>by rw [he] at hg;cases hg)))
    ·have hg':g=false:=by simpa using hg
     obtain ⟨val,rds,hk⟩:=Kd hc;exact A8 ho (hwant.trans hg') (hK _ _ _ _ _ _ _ hk (uok _) h (ku.refl _ _ _ _) (.gd (λhe=>absurd he hg) (λ_=>rfl)))
   | false =>
    rw [hq,cj] at hc;by_cases hg:g=true
    ·exact Aq ho (hwant.trans hg) (zz hg h hmn hf' hn2 (hc.1 hg) hfr0 hAg hK)
    ·have hg':g=false:=by simpa using hg
     exact A8 ho (hwant.trans hg') (hK _ _ _ _ _ _ _ (hc.2 hg') (uok _) h (ku.refl _ _ _ _) .v)
def lP (X:Cx) (N:Nat) (fr:Fr) (hp:Hp) (nx:Nat) (a:Act) (w:World):Prop :=
∃ids,nm X hp nx ids w/\(∀ d,cV X hp ids w (cL fr d) (a.tmps.getD d undef))/\a.tmps.size=N/\a.defers=[]
theorem Ho (h:∀ k:Nm,nx<=k.base->bX hp k = .unborn) {upd:Hp} {nx':Nat} {rds:List Nm} (hu:uZ hp nx upd nx' rds) {k:Nm} (hk:nx'<=k.base):bX (upd++hp) k = .unborn:=by
 rw [fE,if_neg]
 ·exact h k (by have:=hu.le;omega)
 ·rintro ⟨p,hp1,hpk⟩;have hb:p.1.base=k.base:=by rw [←Nm.key_base,hpk,Nm.key_base]
  rcases hu.keys p hp1 with ⟨_,h2⟩|⟨_,k2,h2,h3⟩
  ·omega
  ·have hb2:k2.base=p.1.base:=by rw [←Nm.key_base,h2,Nm.key_base]
   exact h3 (h k2 (by have:=hu.le;omega))
theorem FY {dt:Bool} {N i:Nat} {ops:Array Oper} {o:Oper} (ho:ops[i]? = some o) (hd:∀ d,o.dst=some d->d<N) {fr:Fr} {a:Act} (h:lP X N fr hp nx a w)
  {K:SV->Hp->Nat->List Nm->Prop} (hc:iw dt X.P ops o fr hp nx K) {KK:Act->World->Prop} {Q:Exit->Act->World->Prop}
  (hK:∀ val upd nx' rds a' w',K val upd nx' rds->lP X N (gh o.dst val fr) (upd++hp) nx' a' w'->KK a' w'):wpOp X.P ops Q i KK a w:=by
 obtain ⟨ids,hH,hF,hN,hD⟩:=h;refine sm ho hH.toHeapC hH.m_le hF (λ_ _=>rfl) hc (hH.fresh (Nm.t nx) (cF _)) (λ_ _ _ _ _=>⟨λk hk _=>hH.fresh k hk,λ_ _=>rfl⟩) λval upd nx' rds x w' ids' hk hu h1 h2 h3=>?_
 exact hK _ _ _ _ _ _ hk ⟨ids',⟨h1,λk hk=>Ho hH.fresh hu hk,mb hH.m_le hu.le⟩,A0 (A7 h2 hF) hN hd h3,by rw [Cz,hN],by rw [zx,hD]⟩
theorem A9 {N:Nat} {ops:Array Oper} {Q:Exit->Act->World->Prop} {K:Fr->Hp->Nat->Prop} (hQ:∀ fr hp nx a w,K fr hp nx->lP X N fr hp nx a w->Q .normal a w):∀ (l:List Oper) (k:Nat) (fr:Fr) (hp:Hp) (nx:Nat) (a:Act) (w:World),
  (∀ i,l[i]? = ops[k+i]?)->(∀ o∈l,∀ d,o.dst=some d->d<N)->lP X N fr hp nx a w->lO X.P ops l fr hp nx K->wpOps X.P ops Q (List.range' k l.length) a w
 | [],k,fr,hp,nx,a,w,_,_,hs,hr=>hQ _ _ _ _ _ hr hs
 | o::l,k,fr,hp,nx,a,w,hl,hd,hs,hr=>by
  rw [gu,List.range'_succ,wpOps_cons]
  refine FY (by simpa using (hl 0).symm) (hd o (by simp)) hs hr λval upd nx' rds a' w' hk hs'=>?_
  exact A9 hQ l (k+1) _ _ _ a' w' (λi=>by have:=hl (i+1);simpa [iT,Nat.add_comm 1 i] using this) (λo' ho'=>hd o' (by simp [ho'])) hs' hk
def xq (N:Nat) (ops:Array Oper):Bool:=ops.toList.all λo=>match o.dst with
 | some d=>decide (d<N)
 | none=>true
theorem zA {N:Nat} {ops:Array Oper} (h:xq N ops=true):∀ o∈ops.toList,∀ d,o.dst=some d->d<N:=λo ho d hd=>by
 have:=dQ.1 h o ho
 rw [hd] at this
 simpa using this
theorem CA {N id:Nat} {ops:Array Oper} {Q:Exit->Act->World->Prop} {K:Fr->Hp->Nat->Prop} (hd:xq N ops=true) (hQ:∀ fr hp nx a w,K fr hp nx->lP X N fr hp nx a w->Q .normal a w) {fr:Fr} {a:Act} (h:lP X N fr hp nx a w)
  (hr:lO X.P ops ops.toList fr hp nx K):(Code.region id ops false).wp X.P Q a w:=by
 refine wp_region ?_;rw [List.range_eq_range',show ops.size=ops.toList.length from by simp];exact A9 hQ ops.toList 0 fr hp nx a w (λi=>by simp) (zA hd) h hr
end
section
open Go.RowKit
variable {X:Cx} {hp:Hp} {nx:Nat} {ids:dE} {w:World}
inductive Nv where
 | normal
 | exit (id:Nat)
 | ret
abbrev g8:=Nv->Fr->Hp->Nat->Prop
structure pd (P:Program) (m:Nat) (fr:Fr) (hp:Hp) (fr':Fr) (hp':Hp) (nx':Nat):Prop where
 ex:∃ (σ:Nm->Option Nm) (frz:List Nm),vX P (bX hp) (bX hp') σ (mz frz)/\(∀ k:Nm,k.base<m->((bX hp' k).live=true\/bX hp' k = .void)->σ k=some k)/\∀ d,jL P (bX hp) (bX hp') σ (mz frz) (cL fr d) (cL fr' d)
 fresh:∀ k:Nm,nx'<=k.base->bX hp' k = .unborn
 le:m<=nx'
theorem lP.weaken {N:Nat} {fr fr':Fr} {hp':Hp} {nx':Nat} {a:Act} (h:lP X N fr hp nx a w) (hl:pd X.P X.m fr hp fr' hp' nx'):lP X N fr' hp' nx' a w:=by
 obtain ⟨ids,hH,hF,hN,hD⟩:=h;obtain ⟨σ,frz,hS,hm,hd⟩:=hl.ex;obtain ⟨ids',h1,h2⟩:=Sx.weaken hH.toHeapC hS hl.fresh (λk hk hl=>hm k hk (.inl hl)) (λk hk hv=>hm k hk (.inr hv)) hl.le;exact ⟨ids',h1,λd=>h2 _ _ _ (hd d) (hF d),hN,hD⟩
def Nw (P:Program) (m:Nat) (body:g8->Fr->Hp->Nat->Prop) (Q:g8) (fr:Fr) (hp:Hp) (nx:Nat):Prop :=
∃(S:Type) (fr0:S->Fr) (hp0:S->Hp) (nx0:S->Nat) (I:S->Prop) (μ:S->Nat),(∃ s,I s/\pd P m fr hp (fr0 s) (hp0 s) (nx0 s)) /\
 ∀s,I s->body (λe fr' hp' nx'=>match e with
   | .normal=>∃ s',I s'/\μ s'<μ s/\pd P m fr' hp' (fr0 s') (hp0 s') (nx0 s')
   | e=>Q e fr' hp' nx') (fr0 s) (hp0 s) (nx0 s)
def FZ (P:Program) (m:Nat) (body:g8->Fr->Hp->Nat->Prop) (Q:g8):Nat->Fr->Hp->Nat->Prop
 | 0,fr,hp,nx=>Nw P m body Q fr hp nx
 | n+1,fr,hp,nx=>body (λe fr' hp' nx'=>match e with
   | .normal=>FZ P m body Q n fr' hp' nx'
   | e=>Q e fr' hp' nx') fr hp nx
def Nx (P:Program) (m:Nat) (body:g8->Fr->Hp->Nat->Prop) (Q:g8) (fr:Fr) (hp:Hp) (nx:Nat):Prop:=∃ n,FZ P m body Q n fr hp nx
def LZ (P:Program) (m:Nat) (K:Fr->Hp->Nat->Prop) (fr:Fr) (hp:Hp) (nx:Nat):Prop:=K fr hp nx\/∃ fr' hp' nx',pd P m fr hp fr' hp' nx'/\K fr' hp' nx'
def zB (P:Program) (m:Nat) (fr:Fr) (hp:Hp) (nx:Nat) (fr':Fr) (hp':Hp) (nx':Nat):Prop :=
∀(X:Cx) (N:Nat) (a:Act) (w:World),X.P=P->X.m=m->lP X N fr hp nx a w->lP X N fr' hp' nx' a w
def Wk (P:Program) (m:Nat) (K:Fr->Hp->Nat->Prop) (fr:Fr) (hp:Hp) (nx:Nat):Prop:=LZ P m K fr hp nx\/∃ fr' hp' nx',zB P m fr hp nx fr' hp' nx'/\LZ P m K fr' hp' nx'
theorem Wk.go {N:Nat} {a:Act} {K:Fr->Hp->Nat->Prop} {fr:Fr} (h:Wk X.P X.m K fr hp nx) (hs:lP X N fr hp nx a w):∃ fr' hp' nx',K fr' hp' nx'/\lP X N fr' hp' nx' a w:=by
 have go0:∀ {fr:Fr} {hp:Hp} {nx:Nat},LZ X.P X.m K fr hp nx->lP X N fr hp nx a w->∃ fr' hp' nx',K fr' hp' nx'/\lP X N fr' hp' nx' a w:=by
  rintro fr hp nx (hk|⟨fr',hp',nx',hle,hk⟩) hs
  ·exact ⟨fr,hp,nx,hk,hs⟩
  ·exact ⟨fr',hp',nx',hk,hs.weaken hle⟩
 rcases h with h|⟨fr',hp',nx',hg,h⟩
 ·exact go0 h hs
 ·exact go0 h (hg X N a w rfl rfl hs)
theorem zB.refl (P:Program) (m:Nat) (fr:Fr) (hp:Hp) (nx:Nat):zB P m fr hp nx fr hp nx:=λ_ _ _ _ _ _ h=>h
theorem zB.trans {P:Program} {m:Nat} {f1 f2 f3:Fr} {h1 h2 h3:Hp} {n1 n2 n3:Nat} (a:zB P m f1 h1 n1 f2 h2 n2) (b:zB P m f2 h2 n2 f3 h3 n3):zB P m f1 h1 n1 f3 h3 n3:=λX N c w hP hm h=>b X N c w hP hm (a X N c w hP hm h)
def F0 (fr fr':Fr) (hp hp':Hp):Prop:=(∀ d,cL fr' d=cL fr d\/cL fr' d = .any)/\∀ k,bX hp' k=bX hp k
def qE (K:Fr->Hp->Nat->Prop) (fr:Fr) (hp:Hp) (nx:Nat):Prop:=∃ fr' hp',F0 fr fr' hp hp'/\K fr' hp' nx
theorem lP.eqSt {N:Nat} {fr fr':Fr} {hp':Hp} {a:Act} (h:lP X N fr hp nx a w) (e:F0 fr fr' hp hp'):lP X N fr' hp' nx a w:=by
 obtain ⟨ids,hH,hF,hN,hD⟩:=h;have he:bX hp=bX hp':=funext λk=>(e.2 k).symm
 refine ⟨ids,?_,λd=>?_,hN,hD⟩
 ·refine ⟨?_,λk hk=>by rw [e.2];exact hH.fresh k hk,hH.m_le⟩;have:=hH.toHeapC;exact ⟨by rw [←he];exact this.1,by rw [←he];exact this.2,by rw [←he];exact this.3⟩
 ·rcases e.1 d with h1|h1
  ·rw [h1];have:=hF d;unfold cV at this ⊢;rw [←he];exact this
  ·rw [h1];exact .any
def tJ (K:Fr->Hp->Nat->Prop) (Q:g8):g8
 | .normal=>K
 | e=>Q e
def zC (id:Nat) (Q:g8):g8
 | .exit j=>if j=id then Q .normal else Q (.exit j)
 | e=>Q e
def wU (P:Program) (m:Nat) (Q:g8):g8
 | .normal=>Wk P m (Q .normal)
 | e=>Q e
def pR (D:(id:Nat)->(ops:Array Oper)->(Fr->Hp->Nat->Prop)->Fr->Hp->Nat->Prop) (P:Program) (m N:Nat):Code->g8->Fr->Hp->Nat->Prop
 | .skip,Q,fr,hp,nx=>Q .normal fr hp nx
 | .label _,Q,fr,hp,nx=>Q .normal fr hp nx
 | .region id ops false,Q,fr,hp,nx=>lO P ops ops.toList fr hp nx (qE (Q .normal))
 | .region id ops true,Q,fr,hp,nx=>D id ops (qE (Q .normal)) fr hp nx
 | .seq x y,Q,fr,hp,nx=>pR D P m N x (tJ (Wk P m (pR D P m N y Q)) Q) fr hp nx
 | .cond c x y,Q,fr,hp,nx=>match dC true fr c with
  | .v (.bool b)=>Br b (pR D P m N x Q fr hp nx) (pR D P m N y Q fr hp nx)
  | _=>False
 | .block id c,Q,fr,hp,nx=>pR D P m N c (zC id (wU P m Q)) fr hp nx
 | .exit id,Q,fr,hp,nx=>Q (.exit id) fr hp nx
 | .loop c,Q,fr,hp,nx=>Nx P m (pR D P m N c) Q fr hp nx
 | .scope c,Q,fr,hp,nx=>pR D P m N c Q fr hp nx
 | .ret,Q,fr,hp,nx=>Q .ret fr hp nx
 | _,_,_,_,_=>False
def oD (N:Nat):Code->Bool
 | .region _ ops _=>xq N ops
 | .seq x y=>oD N x&&oD N y
 | .cond _ x y=>oD N x&&oD N y
 | .block _ c=>oD N c
 | .loop c=>oD N c
 | .scope c=>oD N c
 | _=>true
def F7 (X:Cx) (N:Nat) (Q:g8):Exit->Act->World->Prop
 | .normal,a,w=>∃ fr hp nx,Q .normal fr hp nx/\lP X N fr hp nx a w
 | .exit id,a,w=>∃ fr hp nx,Q (.exit id) fr hp nx/\lP X N fr hp nx a w
 | .ret,a,w=>∃ fr hp nx,Q .ret fr hp nx/\lP X N fr hp nx a w
 | _,_,_=>False
def CB (D:(id:Nat)->(ops:Array Oper)->(Fr->Hp->Nat->Prop)->Fr->Hp->Nat->Prop) (P:Program):Prop :=
∀(X:Cx) (N id:Nat) (ops:Array Oper) (K:Fr->Hp->Nat->Prop) (Q:Exit->Act->World->Prop) (fr:Fr) (hp:Hp) (nx:Nat) (a:Act) (w:World),X.P=P->xq N ops=true->(∀ fr hp nx a w,K fr hp nx->lP X N fr hp nx a w->Q .normal a w)->lP X N fr hp nx a w->D id ops K fr hp nx->(Code.region id ops true).wp X.P Q a w
theorem Hq {D:(id:Nat)->(ops:Array Oper)->(Fr->Hp->Nat->Prop)->Fr->Hp->Nat->Prop} (hD:CB D X.P) {N:Nat}:∀ (c:Code) (Q:g8) (fr:Fr) (hp:Hp) (nx:Nat) (a:Act) (w:World),oD N c=true->lP X N fr hp nx a w->pR D X.P X.m N c Q fr hp nx->c.wp X.P (F7 X N Q) a w:=by
 intro c;induction c with
 | skip=>exact λQ fr hp nx a w _ hs h=>wp_skip ⟨fr,hp,nx,h,hs⟩
 | label l=>exact λQ fr hp nx a w _ hs h=>wp_label ⟨fr,hp,nx,h,hs⟩
 | exit id=>exact λQ fr hp nx a w _ hs h=>wp_exit ⟨fr,hp,nx,h,hs⟩
 | ret=>exact λQ fr hp nx a w _ hs h=>wp_ret ⟨fr,hp,nx,h,hs⟩
 | region id ops draw =>
  intro Q fr hp nx a w hd hs h;cases draw with
  | false=>exact CA hd (λfr hp nx a w ⟨fr',hp',he,hk⟩ hs=>⟨fr',hp',nx,hk,hs.eqSt he⟩) hs h
  | true=>exact hD X N id ops _ _ fr hp nx a w rfl hd (λfr hp nx a w ⟨fr',hp',he,hk⟩ hs=>⟨fr',hp',nx,hk,hs.eqSt he⟩) hs h
 | seq x y hx hy =>
  intro Q fr hp nx a w hd hs h;simp only [oD,cT] at hd;refine wp_seq (wp_mono (hx _ fr hp nx a w hd.1 hs h) λe a w he=>?_);cases e with
  | normal =>
   obtain ⟨fr,hp,nx,hk,hs⟩:=he;simp only [tJ] at hk;obtain ⟨fr',hp',nx',hk,hs'⟩:=Wk.go hk hs;exact hy Q fr' hp' nx' a w hd.2 hs' hk
  | exit id=>exact he
  | ret=>exact he
  | _=>exact he.elim
 | cond c x y hx hy =>
  intro Q fr hp nx a w hd hs h;simp only [oD,cT] at hd;simp only [pR] at h;obtain ⟨ids,hH,hF,hN,hdf⟩:=hs;have hev:=rH (X:=X) hF (g:=true) rfl c;split at h
  ·rename_i b hb;rw [hb] at hev;refine wp_cond (d9 hev) ?_;cases b with
   | true=>exact hx Q fr hp nx a w hd.1 ⟨ids,hH,hF,hN,hdf⟩ (h.1 rfl)
   | false=>exact hy Q fr hp nx a w hd.2 ⟨ids,hH,hF,hN,hdf⟩ (h.2 rfl)
  ·exact h.elim
 | block id c ih =>
  intro Q fr hp nx a w hd hs h;refine wp_block (wp_mono (ih _ fr hp nx a w hd hs h) λe a w he=>?_);have wk:∀ {fr hp nx},Wk X.P X.m (Q .normal) fr hp nx->lP X N fr hp nx a w->∃ fr hp nx,Q .normal fr hp nx/\lP X N fr hp nx a w:=by
   intro fr hp nx hk hs;exact Wk.go hk hs
  cases e with
  | normal=>obtain ⟨fr,hp,nx,hk,hs⟩:=he;exact wk hk hs
  | exit j =>
   obtain ⟨fr,hp,nx,hk,hs⟩:=he;simp only [zC] at hk;simp only [Exit.inBlock];split
   ·rename_i hj;rw [if_pos hj] at hk;exact wk hk hs
   ·rename_i hj;rw [if_neg hj] at hk;exact ⟨fr,hp,nx,hk,hs⟩
  | ret=>exact he
  | _=>exact he.elim
 | scope c ih =>
  intro Q fr hp nx a w hd hs h;refine wp_scope_straight (wp_mono (ih Q fr hp nx a w hd hs h) λe a w he=>?_);cases e with
  | normal=>exact he
  | exit id=>exact he
  | ret=>exact he
  | _=>exact he.elim
 | loop c ih =>
  intro Q fr hp nx a w hd hs h;obtain ⟨nr,h⟩:=h;intro b k cs;have inner:∀ (nr:Nat) (fr:Fr) (hp:Hp) (nx:Nat) (a:Act) (w:World),lP X N fr hp nx a w->FZ X.P X.m (pR D X.P X.m N c) Q nr fr hp nx->∃ e a' w',F7 X N Q e a' w'/\Arrives X.P (lone (b.at a (.code c::.inLoop c::k)) cs w) b k cs e a' w':=by
   intro nr;induction nr with
   | succ nr ihr =>
    intro fr hp nx a w hst h;obtain ⟨e,a1,w1,hq,harr⟩:=ih _ _ _ _ a w hd hst h b (.inLoop c::k) cs;cases e with
    | normal =>
     obtain ⟨fr',hp',nx',hk,hst'⟩:=hq;obtain ⟨e2,a2,w2,hq2,harr2⟩:=ihr fr' hp' nx' a1 w1 hst' hk;exact ⟨e2,a2,w2,hq2,.of_steps (Steps.trans harr (.one step_inLoop)) harr2⟩
    | exit id =>
     obtain ⟨fr',hp',nx',hq,hst'⟩:=hq;exact ⟨.exit id,a1,w1,⟨fr',hp',nx',hq,hst'⟩,.pass (x:=.inLoop c) rfl (λ_ _=>.inl (by simp)) harr⟩
    | ret =>
     obtain ⟨fr',hp',nx',hq,hst'⟩:=hq;exact ⟨.ret,a1,w1,⟨fr',hp',nx',hq,hst'⟩,.pass (x:=.inLoop c) rfl (λ_ _=>.inl (by simp)) harr⟩
    | goto l=>exact hq.elim
    | panic ch=>exact hq.elim
    | outgrown=>exact hq.elim
   | zero =>
   intro fr hp nx a w hs h;obtain ⟨S,fr0,hp0,nx0,I,μ,⟨s0,hI0,hle⟩,hbody⟩:=h;have key:∀ (n:Nat) (s:S) (a:Act) (w:World),μ s=n->I s->lP X N (fr0 s) (hp0 s) (nx0 s) a w->∃ e a' w',F7 X N Q e a' w'/\Arrives X.P (lone (b.at a (.code c::.inLoop c::k)) cs w) b k cs e a' w':=by
    intro n;induction n using Nat.strongRecOn with
    | _ n ihn =>
     intro s a w hn hI hst;obtain ⟨e,a1,w1,hq,harr⟩:=ih _ _ _ _ a w hd hst (hbody s hI) b (.inLoop c::k) cs;cases e with
     | normal =>
      obtain ⟨fr',hp',nx',⟨s',hI',hlt,hle'⟩,hst'⟩:=hq;obtain ⟨e2,a2,w2,hq2,harr2⟩:=ihn (μ s') (hn▸hlt) s' a1 w1 rfl hI' (hst'.weaken hle');exact ⟨e2,a2,w2,hq2,.of_steps (Steps.trans harr (.one step_inLoop)) harr2⟩
     | exit id =>
      obtain ⟨fr',hp',nx',hq,hst'⟩:=hq;exact ⟨.exit id,a1,w1,⟨fr',hp',nx',hq,hst'⟩,.pass (x:=.inLoop c) rfl (λ_ _=>.inl (by simp)) harr⟩
     | ret =>
      obtain ⟨fr',hp',nx',hq,hst'⟩:=hq;exact ⟨.ret,a1,w1,⟨fr',hp',nx',hq,hst'⟩,.pass (x:=.inLoop c) rfl (λ_ _=>.inl (by simp)) harr⟩
     | goto l=>exact hq.elim
     | panic ch=>exact hq.elim
     | outgrown=>exact hq.elim
   exact key _ s0 a w rfl hI0 (hs.weaken hle)
  obtain ⟨e,a',w',hq,harr⟩:=inner nr fr hp nx a w hs h;exact ⟨e,a',w',hq,.of_steps (.one step_loop) harr⟩
 | _=>exact λQ fr hp nx a w _ hs h=>h.elim
end
section
open Go.RowKit
variable {X:Cx} {hp:Hp} {nx:Nat} {ids:dE} {w:World}
theorem BK {α:Type} (x:Sem α):x.bind Sem.pure=x:=by
 induction x<;>simp only [Sem.bind]<;>simp only [*]
theorem Hs {α β γ:Type} (x:Sem α) (f:α->Sem β) (g:β->Sem γ):(x.bind f).bind g=x.bind λa=>(f a).bind g:=by
 induction x<;>simp only [Sem.bind]<;>simp only [*]
instance : LawfulMonad Sem:=LawfulMonad.mk' Sem (λx=>BK x) (λx f=>rfl) (λx f g=>Hs x f g)
def wV (P:Program) (fr:Fr) (hp:Hp) (nx:Nat):List ResultVar->(List SV->Prop)->Prop
 | [],K=>K []
 | .tmp t::r,K=>wV P fr hp nx r λxs=>K (cL fr t::xs)
 | .cell a t::r,K=>(oa P t (cL fr a) hp nx).wp λe=>wV P fr hp nx r λxs=>K (e.val::xs)
def u5:List SV->SV
 | [x]=>x
 | xs=>.tup xs
def wW (P:Program) (m:Nat) (Post:SV->Hp->Nat->Prop) (x:SV) (hp:Hp):Prop:=∃ x' hp' nx',Post x' hp' nx'/\pd P m [(0,x)] hp [(0,x')] hp' nx'
def CC (P:Program) (rs:List ResultVar) (m:Nat) (Post:SV->Hp->Nat->Prop):g8
 | .exit _,_,_,_=>False
 | _,fr,hp,nx=>wV P fr hp nx rs λxs=>wW P m Post (u5 xs) hp
def qj:Nat->List SV->Fr
 | _,[]=>[]
 | i,x::xs=>(i,x)::qj (i+1) xs
theorem A_:∀ (args:List SV) (i d:Nat),cL (qj i args) d=if d<i then .any else args.getD (d-i) .any
 | [],i,d=>by simp [qj,cL]
 | x::xs,i,d=>by
  simp only [qj,cL,A_ xs (i+1) d]
  by_cases hid:i=d
  ·subst hid;simp
  ·rw [show (i==d)=false from by simpa using hid,cj]
   by_cases hlt:d<i
   ·rw [if_pos (by omega),if_pos hlt]
   ·rw [if_neg (by omega),if_neg hlt,show d-i=(d-(i+1))+1 from by omega]
    rfl
def wX (tmps:Array Value):ResultVar->Sem Value
 | .tmp t=>pure (tmps.getD t undef)
 | .cell a t=>do loadVar t (←asAddr (tmps.getD a undef))
theorem IF (h:dS X hp nx ids w) {t:TypeId} {s:SV} {x:Value} (hd:cV X hp ids w s x) {side:Prop} {e:dx} (he:oa X.P t s hp nx = .ok side e) (hs:side) :
 ∃y,(do loadVar t (←asAddr x):Sem Value).run X.P w = .ok y w/\cV X hp ids w e.val y:=by
 have fin:∀ {b o:Nat} {cs:List SV} {off:Nat} {rds:List Nm},Cells X.P (bX hp) ids (Im X.w0 X.I0 X.W0 (bX hp) ids w) w b o cs->kx X.P t cs off rds nx = .ok side e->x = .pointer (some ⟨b,o+off,none⟩) ->
  ∃y,(do loadVar t (←asAddr x):Sem Value).run X.P w = .ok y w/\cV X hp ids w e.val y:=by
  intro b o cs off rds hc ht hx;obtain ⟨h1,h2,y,hr,hy⟩:=B8 hc ht hs;subst hx;exact ⟨y,by simp only [asAddr,c_,eK,dv];exact hr,hy⟩
 unfold oa at he;split at he
 ·rename_i k off;obtain ⟨t',cs,hk,ht⟩:=gz he;obtain ⟨b,o,hi,hx⟩:=pY hd (by rw [hk];rfl);exact fin (yU h hk hi) ht hx
 ·obtain ⟨b,o,c,_,hx,hc,hy⟩:=qN hd;exact fin ⟨λi y hi=>⟨c i,hc i y hi,hy i y hi⟩⟩ he hx
 ·cases he
theorem wY {a:Act} {fr:Fr} (hH:nm X hp nx ids w) (hF:∀ d,cV X hp ids w (cL fr d) (a.tmps.getD d undef)):∀ (rs:List ResultVar) (K:List SV->Prop),wV X.P fr hp nx rs K ->
 ∃(xs:List SV) (vs:List Value),K xs/\(rs.mapM (wX a.tmps)).run X.P w = .ok vs w/\xs.length=vs.length/\∀ (i:Nat) (x:SV),xs[i]? = some x->cV X hp ids w x (vs.getD i undef)
 | [],K,h=>⟨[],[],h,by simp [eK],rfl,λi x hx=>by simp at hx⟩
 | .tmp t::r,K,h=>by
  obtain ⟨xs,vs,h1,h2,h3,h4⟩:=wY hH hF r _ h
  refine ⟨_,a.tmps.getD t undef::vs,h1,?_,by simp [h3],λi x hx=>?_⟩
  ·rw [List.mapM_cons]
   simp only [wX,c_,eK,dv,h2]
  ·cases i with
   | zero=>simp at hx;subst hx;exact hF t
   | succ i=>exact h4 i x (by simpa using hx)
 | .cell b t::r,K,h=>by
  unfold wV at h
  cases hl:oa X.P t (cL fr b) hp nx with
  | bad=>rw [hl] at h;exact h.elim
  | ok side e =>
   rw [hl] at h
   obtain ⟨hs,hk⟩:=h
   obtain ⟨xs,vs,h1,h2,h3,h4⟩:=wY hH hF r _ hk
   obtain ⟨hu,hn⟩:=zr hl
   obtain ⟨y,gy1,gy2⟩:=IF hH.toX (hF b) hl hs
   refine ⟨_,y::vs,h1,?_,by simp [h3],λi x hx=>?_⟩
   ·rw [List.mapM_cons]
    simp only [wX,c_,eK,h2,gy1,dv]
   ·cases i with
    | zero=>simp at hx;subst hx;exact gy2
    | succ i=>exact h4 i x (by simpa using hx)
def L0:List Value->Value
 | [x]=>x
 | vs=>.tuple vs.toArray
theorem En {P:Program} {fn:Func} {a:Act} {vs:List Value} (h:(fn.results.toList.mapM (wX a.tmps)).run P w = .ok vs w):(results fn a.tmps).run P w = .ok (L0 vs) w:=by
 have he:results fn a.tmps=(fn.results.mapM (wX a.tmps) >>= λvs=>pure (if h:vs.size=1 then vs[0] else .tuple vs)):=by
  unfold results;congr 2
 rw [he,c_,Array.mapM_eq_mapM_toList,map_eq_pure_bind,c_,h];simp only [dv,eK];match vs with
 | []=>rfl
 | [x]=>rfl
 | x::y::r=>rfl
theorem cN {D:(id:Nat)->(ops:Array Oper)->(Fr->Hp->Nat->Prop)->Fr->Hp->Nat->Prop} {P:Program} (hD:CB D P) {f:FuncId} {fn:Func} {c:Code} {args:List SV} {hin:Hp} {m:Nat} {Post:SV->Hp->Nat->Prop}
  (hf : P.funcs[f]? = some fn) (hb : fn.body = some c) (hn : fn.name ≠ "runtime.NumGoroutine") (hl : Nat.ble args.length fn.ntmps = true) (hc : oD fn.ntmps c = true)
  (h:pR D P m fn.ntmps c (CC P fn.results.toList m Post) (qj 0 args) hin m):cS P f args hin m Post:=by
 refine ⟨⟨fn,c,hf,hb,hn⟩,λX vals hP hm hH hvs hvd=>?_⟩
 subst hP;subst hm
 have hl':args.length<=fn.ntmps:=by simpa using hl
 refine calls_of_wp hf hb ?_
 have hst:lP X fn.ntmps (qj 0 args) hin X.m { tmps:=vals++Array.replicate (fn.ntmps-vals.size) undef,defers:=[] } X.w0:=by
  refine ⟨X.ids0,hH,λd=>?_,by simp;omega,rfl⟩
  rw [A_,if_neg (by omega)]
  show cV X hin X.ids0 X.w0 (args.getD (d-0) .any) _
  rw [ni,dA]
  by_cases hd:d<args.length
  ·have:=hvd d (args[d]) (dz hd)
   rw [dz hd,gY]
   rw [cQ,nj (by omega),←cQ]
   exact this
  ·rw [nk (by omega)];exact .any
 refine wp_mono (Hq hD c _ _ _ _ _ _ hc hst h) λe a w he=>?_
 have fin:∀ {fr hp nx},(wV X.P fr hp nx fn.results.toList λxs=>wW X.P X.m Post (u5 xs) hp)->lP X fn.ntmps fr hp nx a w->a.defers=[]/\∃ v,(results fn a.tmps).run X.P w = .ok v w/\∃ r res hp' nx' ids',Ending.returned v = .returned r/\Post res hp' nx'/\nm X hp' nx' ids' w/\cV X hp' ids' w res r:=by
  rintro fr hp nx hr ⟨ids,hH,hF,hN,hdf⟩
  obtain ⟨xs,vs,⟨x',hp',nx',hpost,hle⟩,hrun,hlen,hx⟩:=wY hH hF _ _ hr
  obtain ⟨σ,frz,hS,hm,hd⟩:=hle.ex
  obtain ⟨ids',h1,h2⟩:=Sx.weaken hH.toHeapC hS hle.fresh (λk hk hl=>hm k hk (.inl hl)) (λk hk hv=>hm k hk (.inr hv)) hle.le
  refine ⟨hdf,_,En hrun,_,x',hp',nx',ids',rfl,hpost,h1,h2 (u5 xs) x' _ (hd 0) ?_⟩
  match xs,vs,hlen,hx with
  | [],[],_,hx=>exact .tup _ rfl λi x hi=>by simp at hi
  | [x],[v],_,hx=>exact hx 0 x rfl
  | x::y::r,v::u::s,hlen,hx=>
   refine .tup _ (by simpa using hlen) λi z hi=>?_
   have hz:=hx i z hi
   rw [dA] at hz
   rw [cQ,pI]
   exact hz
 cases e with
 | normal=>obtain ⟨fr,hp,nx,hk,hs⟩:=he;exact fin hk hs
 | ret=>obtain ⟨fr,hp,nx,hk,hs⟩:=he;exact fin hk hs
 | exit id=>obtain ⟨fr,hp,nx,hk,hs⟩:=he;exact hk.elim
 | _=>exact he.elim
end
section
open Go.RowKit
variable {X:Cx} {hp:Hp} {nx:Nat} {ids:dE} {w:World}
structure It where
 val:SV
 upd:Hp
 rds:List Nm
 nx:Nat
 nx':Nat
structure fU where
 keys:List Nm
 rds:List Nm
 nx:Nat
 nx':Nat
def It.nms (t:It):fU:=⟨t.upd.map (·.1.key),t.rds,t.nx,t.nx'⟩
def u7 (P:Program) (ops:Array Oper):List Oper->Fr->Hp->Nat->List fU->(List fU->Fr->Hp->Nat->Prop)->Prop
 | [],fr,hp,nx,acc,K=>K acc fr hp nx
 | o::rest,fr,hp,nx,acc,K=>iw true P ops o fr hp nx λval upd nx' rds=>u7 P ops rest (gh o.dst val fr) (upd++hp) (nx'+1) (acc++[⟨upd.map (·.1.key),rds,nx,nx'⟩]) K
def CD (ops:Array Oper) (o1:Oper) (n1:fU) (o2:Oper) (n2:fU):Bool :=
 (match o1.dst with
  | some d=>!(jM ops o2).contains d&&o2.dst != some d
  | none=>true) &&
 (match o2.dst with
  | some d=>!(jM ops o1).contains d
  | none=>true) &&
 n1.keys.all (λk=>!n2.keys.contains k && !n2.rds.contains k) &&
 n2.keys.all (λk=>!n1.rds.contains k && !(Nat.ble n1.nx k.base&&Nat.ble k.base n1.nx')) &&
 true
def kn:Op->Bool
 | .mapEntry _ _ _=>true
 | _=>false
def Nm.isT:Nm->Bool
 | .t _=>true
 | .s _ _=>false
def uo (o1 o2:Oper):Bool:=match o1.op,o2.op,o1.guard,o2.guard with
 | .lookup t (.tmp a) (.tmp b) false,.mapEntry t' (.tmp a') (.tmp b'),none,none=>t==t'&&(a==a'&&b==b')
 | _,_,_,_=>false
def tK (ops:Array Oper) (o1:Oper) (n1:fU) (o2:Oper) (n2:fU):Bool :=
 uo o1 o2&&((ops.toList.filter λo=>kn o.op).length==1&&(n1.keys.isEmpty &&
 ((match o1.dst with
  | some d=>!(jM ops o2).contains d&&o2.dst != some d
  | none=>true) &&
 ((match o2.dst with
  | some d=>!(jM ops o1).contains d
  | none=>true) &&
 (n2.keys.all (λk=>!(Nat.ble n1.nx k.base&&Nat.ble k.base n1.nx'))&&n1.rds.all Nm.isT)))))
def wZ (ops:Array Oper) (o1:Oper) (n1:fU) (o2:Oper) (n2:fU):Bool:=CD ops o1 n1 o2 n2||tK ops o1 n1 o2 n2
def F8 (n1 n2:fU):Bool:=n1.keys.all λk=>!(Nat.ble n2.nx k.base&&Nat.ble k.base n2.nx')
def Ke (o:Oper) (A:List Nat):Nat:=o.after.toList.foldl (λn e=>if Region.binds .any e then n ||| (1 <<< e.on) ||| A.getD e.on 0 else n) 0
def w3 (l:List Oper):List Nat:=l.foldl (λA o=>A++[Ke o A]) []
def Ar (ops:Array Oper) (A:List Nat):Bool:=(List.range ops.size).all λj=>match ops[j]? with
 | some o=>o.after.toList.all (λe=>!Region.binds .any e||Nat.blt e.on j)&&(List.range ops.size).all λi=>!(A.getD j 0).testBit i||o.after.toList.any λe=>Region.binds .any e&&(e.on==i||(A.getD e.on 0).testBit i)
 | none=>true
def Ht (ops:Array Oper) (ns:List fU) (A:List Nat) (i j:Nat):Bool :=
 match ops[i]?,ns[i]?,ops[j]?,ns[j]? with
 | some o1,some n1,some o2,some n2=>((A.getD j 0).testBit i||wZ ops o1 n1 o2 n2)&&F8 n1 n2
 | _,_,_,_=>false
def m3 (ops:Array Oper) (ns:List fU) (A:List Nat):Bool:=Ar ops A&&(List.range ops.size).all λj=>(List.range j).all λi=>Ht ops ns A i j
def Ju (P:Program) (id:Nat) (ops:Array Oper) (K:Fr->Hp->Nat->Prop) (fr:Fr) (hp:Hp) (nx:Nat):Prop :=
 u7 P ops ops.toList fr hp nx [] λns fr' hp' nx'=>yf (P.follows .mixedOrders=true/\m3 ops ns (w3 ops.toList)=true) (K fr' hp' nx')
abbrev Zs:=List (Oper×It)
def gG (sel:Nat->Bool):Nat->Zs->Fr->Fr
 | _,[],fr=>fr
 | i,z::r,fr=>gG sel (i+1) r (bif sel i then gh z.1.dst z.2.val fr else fr)
def fR (sel:Nat->Bool):Nat->Zs->Hp->Hp
 | _,[],hp=>hp
 | i,z::r,hp=>fR sel (i+1) r (bif sel i then z.2.upd++hp else hp)
theorem CE {dst:Option Tmp} {x:SV} {fr fr':Fr} {d:Nat} (h:dst≠some d->cL fr d=cL fr' d):cL (gh dst x fr) d=cL (gh dst x fr') d:=by
 cases dst with
 | none=>exact h (by simp)
 | some t =>
  simp only [gh,cL];by_cases ht:t=d
  ·subst ht;simp
  ·rw [show (t==d)=false from by simpa using ht,cj,cj];exact h (by simpa using ht)
theorem rm {dst:Option Tmp} {x:SV} {fr:Fr} {d:Nat} (h:dst≠some d):cL (gh dst x fr) d=cL fr d:=by
 cases dst with
 | none=>rfl
 | some t =>
  simp only [gh,cL];rw [show (t==d)=false from by simpa using h,cj]
theorem jc {u hp:Hp} {k:Nm} (h:k.key∉u.map (·.1.key)):bX (u++hp) k=bX hp k:=by
 rw [fE,if_neg];rintro ⟨p,hp,hk⟩;exact h (fK.2 ⟨p,hp,hk⟩)
theorem qS {u hp hp':Hp} {k:Nm} (h:k.key∉u.map (·.1.key)->bX hp k=bX hp' k):bX (u++hp) k=bX (u++hp') k:=by
 rw [fE,fE];split
 ·rfl
 ·rename_i hn;exact h λhm=>hn (by obtain ⟨p,hp,hk⟩:=fK.1 hm;exact ⟨p,hp,hk⟩)
theorem pk {s1 s2:Nat->Bool} {d:Nat}:∀ (z:Zs) (k:Nat) (fr1 fr2:Fr),(∀ i q,z[i]? = some q->q.1.dst=some d->s1 (k+i)=s2 (k+i))->cL fr1 d=cL fr2 d->cL (gG s1 k z fr1) d=cL (gG s2 k z fr2) d
 | [],k,fr1,fr2,_,h=>h
 | q::r,k,fr1,fr2,hs,h=>by
  refine pk r (k+1) _ _ (λi p hi hp=>by have:=hs (i+1) p (by simpa using hi) hp;rwa [show k+(i+1)=k+1+i from by omega] at this) ?_
  by_cases hd:q.1.dst=some d
  ·have:=hs 0 q rfl hd
   rw [eG] at this
   rw [this]
   cases s2 k with
   | true=>exact CE λ_=>h
   | false=>exact h
  ·have e:∀ (b:Bool) (fr:Fr),cL (bif b then gh q.1.dst q.2.val fr else fr) d=cL fr d:=λb fr=>by
    cases b with
    | true=>exact rm hd
    | false=>rfl
   rw [e,e];exact h
theorem mL {s1 s2:Nat->Bool} {d:Nm}:∀ (z:Zs) (k:Nat) (h1 h2:Hp),(∀ i q,z[i]? = some q->d.key∈q.2.upd.map (·.1.key)->s1 (k+i)=s2 (k+i))->bX h1 d=bX h2 d->bX (fR s1 k z h1) d=bX (fR s2 k z h2) d
 | [],k,h1,h2,_,h=>h
 | q::r,k,h1,h2,hs,h=>by
  refine mL r (k+1) _ _ (λi p hi hp=>by have:=hs (i+1) p (by simpa using hi) hp;rwa [show k+(i+1)=k+1+i from by omega] at this) ?_
  by_cases hd:d.key∈q.2.upd.map (·.1.key)
  ·have:=hs 0 q rfl hd
   rw [eG] at this
   rw [this]
   cases s2 k with
   | true=>exact qS λ_=>h
   | false=>exact h
  ·have e:∀ (b:Bool) (hp:Hp),bX (bif b then q.2.upd++hp else hp) d=bX hp d:=λb hp=>by
    cases b with
    | true=>exact jc hd
    | false=>rfl
   rw [e,e];exact h
theorem Ba {s1 s2:Nat->Bool} {d:Nat}:∀ (z:Zs) (k:Nat) (fr1 fr2:Fr) (i:Nat) (q:Oper×It),z[i]? = some q->s1 (k+i)=false->s2 (k+i)=true->(∀ j,j≠k+i->s1 j=s2 j) ->
  (q.1.dst=some d->∀ j p,i<j->z[j]? = some p->s1 (k+j)=true->p.1.dst≠some d)->cL fr1 d=cL fr2 d->cL (gh q.1.dst q.2.val (gG s1 k z fr1)) d=cL (gG s2 k z fr2) d
 | [],k,fr1,fr2,i,q,hi,_,_,_,_,_=>by simp at hi
 | p::r,k,fr1,fr2,i,q,hi,h1,h2,hs,hd,h=>by
  cases i with
  | zero =>
   simp only [pJ,fP] at hi
   subst hi
   simp only [gG,eG] at h1 h2 ⊢
   rw [h1,h2,cj,cd]
   by_cases hpd:p.1.dst=some d
   ·have e:cL (gh p.1.dst p.2.val (gG s1 (k+1) r fr1)) d=cL (gh p.1.dst p.2.val fr2) d:=by rw [hpd];simp [gh,cL]
    rw [e]
    symm
    have hno:∀ (r:Zs) (m:Nat) (fr:Fr),(∀ j q,r[j]? = some q->s2 (m+j)=true->q.1.dst≠some d)->cL (gG s2 m r fr) d=cL fr d:=by
     intro r;induction r with
     | nil=>exact λ_ _ _=>rfl
     | cons q r ih =>
      intro m fr hj;simp only [gG];rw [ih (m+1) _ λj q' hq' hs'=>hj (j+1) q' (by simpa using hq') (by rw [show m+(j+1)=m+1+j from by omega];exact hs')];cases hsm:s2 m with
      | true=>exact rm (hj 0 q rfl (by rw [eG];exact hsm))
      | false=>rfl
    exact hno r (k+1) _ λj q hj hsj=>hd hpd (j+1) q (by omega) (by simpa using hj) (by rw [hs _ (by omega)];rw [show k+(j+1)=k+1+j from by omega];exact hsj)
   ·rw [rm hpd];exact pk r (k+1) _ _ (λj q hj _=>hs _ (by omega)) (h.trans (rm hpd).symm)
  | succ i =>
   simp only [gG];rw [show s1 k=s2 k from hs k (by omega)];refine Ba r (k+1) _ _ i q (by simpa using hi) (by rw [show k+1+i=k+(i+1) from by omega];exact h1) (by rw [show k+1+i=k+(i+1) from by omega];exact h2) (λj hj=>hs j (by omega)) (λhq j p' hij hj hsj=>hd hq (j+1) p' (by omega) (by simpa using hj) (by rw [show k+(j+1)=k+1+j from by omega];exact hsj)) ?_;cases s2 k with
   | true=>exact CE λ_=>h
   | false=>exact h
theorem w4 {s1 s2:Nat->Bool} {d:Nm}:∀ (z:Zs) (k:Nat) (h1 h2:Hp) (i:Nat) (q:Oper×It),z[i]? = some q->s1 (k+i)=false->s2 (k+i)=true->(∀ j,j≠k+i->s1 j=s2 j) ->
  (d.key∈q.2.upd.map (·.1.key)->∀ j p,i<j->z[j]? = some p->s1 (k+j)=true->d.key∉p.2.upd.map (·.1.key))->bX h1 d=bX h2 d->bX (q.2.upd++fR s1 k z h1) d=bX (fR s2 k z h2) d
 | [],k,fr1,fr2,i,q,hi,_,_,_,_,_=>by simp at hi
 | p::r,k,fr1,fr2,i,q,hi,h1,h2,hs,hd,h=>by
  cases i with
  | zero =>
   simp only [pJ,fP] at hi
   subst hi
   simp only [fR,eG] at h1 h2 ⊢
   rw [h1,h2,cj,cd]
   by_cases hpd:d.key∈p.2.upd.map (·.1.key)
   ·have e:bX (p.2.upd++fR s1 (k+1) r fr1) d=bX (p.2.upd++fr2) d:=qS λhn=>absurd hpd hn
    rw [e]
    symm
    have hno:∀ (r:Zs) (m:Nat) (fr:Hp),(∀ j q,r[j]? = some q->s2 (m+j)=true->d.key∉q.2.upd.map (·.1.key))->bX (fR s2 m r fr) d=bX fr d:=by
     intro r;induction r with
     | nil=>exact λ_ _ _=>rfl
     | cons q r ih =>
      intro m fr hj;simp only [fR];rw [ih (m+1) _ λj q' hq' hs'=>hj (j+1) q' (by simpa using hq') (by rw [show m+(j+1)=m+1+j from by omega];exact hs')];cases hsm:s2 m with
      | true=>exact jc (hj 0 q rfl (by rw [eG];exact hsm))
      | false=>rfl
    exact hno r (k+1) _ λj q hj hsj=>hd hpd (j+1) q (by omega) (by simpa using hj) (by rw [hs _ (by omega)];rw [show k+(j+1)=k+1+j from by omega];exact hsj)
   ·rw [jc hpd];exact mL r (k+1) _ _ (λj q hj _=>hs _ (by omega)) (h.trans (jc hpd).symm)
  | succ i =>
   simp only [fR];rw [show s1 k=s2 k from hs k (by omega)];refine w4 r (k+1) _ _ i q (by simpa using hi) (by rw [show k+1+i=k+(i+1) from by omega];exact h1) (by rw [show k+1+i=k+(i+1) from by omega];exact h2) (λj hj=>hs j (by omega)) (λhq j p' hij hj hsj=>hd hq (j+1) p' (by omega) (by simpa using hj) (by rw [show k+(j+1)=k+1+j from by omega];exact hsj)) ?_;cases s2 k with
   | true=>exact qS λ_=>h
   | false=>exact h
def CF (t:It) (v:SV) (u:Hp) (n:Nat) (r:List Nm):Prop:=v=t.val/\u=t.upd/\n=t.nx'/\r=t.rds
def xr (P:Program) (ops:Array Oper):Zs->Fr->Hp->Nat->Prop
 | [],_,_,_=>True
 | q::r,fr,hp,nx=>q.2.nx=nx/\nx<=q.2.nx'/\iw true P ops q.1 fr hp nx (CF q.2)/\xr P ops r (gh q.1.dst q.2.val fr) (q.2.upd++hp) (q.2.nx'+1)
theorem CG {P:Program} {g:Bool} {o:Oper} {fr:Fr} {K:SV->Hp->Nat->List Nm->Prop} (h:kA true P g o fr hp nx K):∃ t:It,t.nx=nx/\nx<=t.nx'/\K t.val t.upd t.nx' t.rds/\kA true P g o fr hp nx (CF t):=by
 unfold kA at h ⊢;split at h
 ·rename_i c hc;obtain ⟨args',hin,m,Post,σ,bor,h1,h2,hsg,h3,h4,h5,h6,h7,⟨r0,p0,n0,h8⟩,hdet,h9⟩:=h;obtain ⟨g1,g2,u,gt,g3⟩:=h9 _ _ _ h8;refine ⟨⟨_,_,_,nx,_⟩,rfl,uO _ _,g3,?_⟩;refine ⟨args',hin,m,Post,σ,bor,h1,h2,hsg,h3,h4,h5,h6,h7,⟨r0,p0,n0,h8⟩,hdet,λres hp' nx' hp1=>?_⟩;obtain ⟨rfl,rfl,rfl⟩:=hdet rfl _ _ _ _ _ _ h8 hp1;exact ⟨g1,g2,u,gt,rfl,rfl,rfl,rfl⟩
 ·rcases h with h|h
  ·obtain ⟨hg,hso,e,h1,h2,h3⟩:=h;exact ⟨⟨e.val,e.upd,e.rds,nx,e.nx⟩,rfl,h1,h2,.inl ⟨hg,hso,e,h1,⟨rfl,rfl,rfl,rfl⟩,h3⟩⟩
  cases hop:kK P g fr hp nx o.type o.op with
  | bad=>rw [hop] at h;exact h.elim
  | ok side e =>
   rw [hop] at h;obtain ⟨hs,hk⟩:=h;exact ⟨⟨e.val,e.upd,e.rds,nx,e.nx⟩,rfl,(yv hop).1,hk,.inr ⟨hs,rfl,rfl,rfl,rfl⟩⟩
theorem IG {P:Program} {ops:Array Oper} {o:Oper} {fr:Fr} {K:SV->Hp->Nat->List Nm->Prop} (h:iw true P ops o fr hp nx K):∃ t:It,t.nx=nx/\nx<=t.nx'/\K t.val t.upd t.nx' t.rds/\iw true P ops o fr hp nx (CF t):=by
 unfold iw at h ⊢;cases hgd:o.guard with
 | none=>rw [hgd] at h;exact CG h
 | some jw =>
  rw [hgd] at h;simp only at h ⊢;cases hgs:mB ops fr jw.1 jw.2 with
  | none=>rw [hgs] at h;exact h.elim
  | some g =>
   rw [hgs] at h;simp only at h ⊢;cases hq:lN P o.op with
   | true =>
    rw [hq,cd] at h;simp only [cd];rcases h with h|h
    ·exact ⟨⟨_,_,_,nx,_⟩,rfl,cF _,h.2,.inl ⟨h.1,rfl,rfl,rfl,rfl⟩⟩
    cases hop:kK P g fr hp nx o.type o.op with
    | bad=>rw [hop] at h;exact h.elim
    | ok side e =>
     rw [hop] at h;unfold zw;simp only at h ⊢;cases hu:e.upd with
     | nil=>rw [hu] at h;exact ⟨⟨_,_,_,nx,_⟩,rfl,cF _,h.2,.inr ⟨h.1,rfl,rfl,rfl,rfl⟩⟩
     | cons a b=>rw [hu] at h;exact h.elim
   | false =>
    rw [hq,cj] at h;simp only [cj];cases g with
    | true =>
     obtain ⟨t,h1,h2,h3,h4⟩:=CG (h.1 rfl);exact ⟨t,h1,h2,h3,(λ_=>h4),(λhe=>by cases he)⟩
    | false=>exact ⟨⟨_,_,_,nx,_⟩,rfl,cF _,h.2 rfl,(λhe=>by cases he),λ_=>⟨rfl,rfl,rfl,rfl⟩⟩
def nL:Zs->Nat->Nat
 | [],nx=>nx
 | q::r,nx=>nL r (q.2.nx'+1)
theorem zD {P:Program} {ops:Array Oper} {K:List fU->Fr->Hp->Nat->Prop} :∀ (l:List Oper) (fr:Fr) (hp:Hp) (nx:Nat) (acc:List fU) (k:Nat),u7 P ops l fr hp nx acc K ->
 ∃z:Zs,z.map (·.1)=l/\xr P ops z fr hp nx/\K (acc++z.map (·.2.nms)) (gG (λ_=>true) k z fr) (fR (λ_=>true) k z hp) (nL z nx)
 | [],fr,hp,nx,acc,k,h=>⟨[],rfl,trivial,by simpa [u7,gG,fR,nL] using h⟩
 | o::r,fr,hp,nx,acc,k,h=>by
  obtain ⟨t,h1,h2,h3,h4⟩:=IG h
  obtain ⟨z,g1,g2,g3⟩:=zD r _ _ _ _ (k+1) h3
  refine ⟨(o,t)::z,by simp [g1],⟨h1,h2,h4,g2⟩,?_⟩
  have e:acc++List.map (λx=>x.2.nms) ((o,t)::z)=acc++[(⟨t.upd.map (·.1.key),t.rds,nx,t.nx'⟩:fU)]++z.map (·.2.nms):=by simp [It.nms,h1]
  rw [e]
  exact g3
theorem u9 {s:Nat->Bool}:∀ (z:Zs) (k:Nat) (fr:Fr),(∀ j,k<=j->s j=false)->gG s k z fr=fr
 | [],k,fr,_=>rfl
 | q::r,k,fr,h=>by simp only [gG,h k (cF _),cj];exact u9 r (k+1) fr λj hj=>h j (by omega)
theorem so {s:Nat->Bool}:∀ (z:Zs) (k:Nat) (hp:Hp),(∀ j,k<=j->s j=false)->fR s k z hp=hp
 | [],k,hp,_=>rfl
 | q::r,k,hp,h=>by simp only [fR,h k (cF _),cj];exact so r (k+1) hp λj hj=>h j (by omega)
theorem u_ {P:Program} {ops:Array Oper} :∀ (z:Zs) (fr:Fr) (hp:Hp) (nx:Nat),xr P ops z fr hp nx->nx<=nL z nx
 | [],_,_,_,_=>cF _
 | q::r,fr,hp,nx,h=>by
  have:=u_ r _ _ _ h.2.2.2
  have:=h.2.1
  simp only [nL];omega
theorem yw {P:Program} {ops:Array Oper} :∀ (z:Zs) (fr:Fr) (hp:Hp) (nx k i:Nat) (q:Oper×It),xr P ops z fr hp nx->z[i]? = some q ->
  nx<=q.2.nx/\q.2.nx<=q.2.nx'/\q.2.nx'<nL z nx/\iw true P ops q.1 (gG (λj=>decide (j<k+i)) k z fr) (fR (λj=>decide (j<k+i)) k z hp) q.2.nx (CF q.2)
 | [],_,_,_,_,i,q,_,hi=>by simp at hi
 | p::r,fr,hp,nx,k,i,q,h,hi=>by
  obtain ⟨h1,h2,h3,h4⟩:=h
  cases i with
  | zero =>
   simp only [pJ,fP] at hi
   subst hi
   refine ⟨by omega,by omega,?_,?_⟩
   ·have:=u_ r _ _ _ h4
    simp only [nL];omega
   ·rw [u9 _ _ _ λj hj=>by simp;omega,so _ _ _ λj hj=>by simp;omega,h1];exact h3
  | succ i =>
   obtain ⟨g1,g2,g3,g4⟩:=yw r _ _ _ (k+1) i q h4 (by simpa using hi)
   refine ⟨by omega,g2,g3,?_⟩
   have hk:decide (k<k+(i+1))=true:=by simp
   simp only [gG,fR,hk,cd]
   rw [show k+(i+1)=k+1+i from by omega]
   exact g4
theorem kP {ops:Array Oper} {ns:List fU} {A:List Nat} (h:m3 ops ns A=true) {i j:Nat} {o1 o2:Oper} {n1 n2:fU} (hij:i<j) (h1:ops[i]? = some o1) (h2:ops[j]? = some o2) (h3:ns[i]? = some n1) (h4:ns[j]? = some n2) :
  ((A.getD j 0).testBit i=true\/wZ ops o1 n1 o2 n2=true)/\F8 n1 n2=true:=by
 simp only [m3,cT,dQ,jD] at h;have hlt:j<ops.size:=(qJ.1 h2).1;have:=h.2 j hlt i hij;unfold Ht at this;simp only [h1,h2,h3,h4,cT,kZ] at this;exact this
theorem Bb {ops:Array Oper} {o1 o2:Oper} {n1 n2:fU} (h:CD ops o1 n1 o2 n2=true) :
  (∀ d,o1.dst=some d->d∉jM ops o2/\o2.dst≠some d)/\(∀ d,o2.dst=some d->d∉jM ops o1)/\(∀ k∈n1.keys,k∉n2.keys/\k∉n2.rds)/\∀ k∈n2.keys,k∉n1.rds/\¬ (n1.nx<=k.base/\k.base<=n1.nx'):=by
 simp only [CD,cT,dQ] at h;obtain ⟨⟨⟨⟨h1,h2⟩,h3⟩,h4⟩,_⟩:=h;refine ⟨λd hd=>?_,λd hd=>?_,λk hk=>?_,λk hk=>?_⟩
 ·rw [hd] at h1;simpa using h1
 ·rw [hd] at h2;simpa using h2
 ·have:=h3 k hk;simpa using this
 ·have:=h4 k hk;simp only [cT,km,Bool.and_eq_false_iff,List.contains_eq_mem,uP] at this;refine ⟨this.1,λhh=>?_⟩;rcases this.2 with h|h
  ·have:=qM hh.1;rw [h] at this;cases this
  ·have:=qM hh.2;rw [h] at this;cases this
theorem va {ops:Array Oper} {o1 o2:Oper} {n1 n2:fU} (h:tK ops o1 n1 o2 n2=true) :
  uo o1 o2=true/\(ops.toList.filter λo=>kn o.op).length=1/\n1.keys=[]/\(∀ d,o1.dst=some d->d∉jM ops o2/\o2.dst≠some d)/\(∀ d,o2.dst=some d->d∉jM ops o1)/\(∀ k∈n2.keys,¬ (n1.nx<=k.base/\k.base<=n1.nx'))/\∀ k∈n1.rds,Nm.isT k=true:=by
 simp only [tK,cT,dQ,jC,List.isEmpty_iff] at h;obtain ⟨h1,h2,h3,h4,h5,h6,h7⟩:=h;refine ⟨h1,h2,h3,λd hd=>?_,λd hd=>?_,λk hk hh=>?_,h7⟩
 ·rw [hd] at h4;simpa using h4
 ·rw [hd] at h5;simpa using h5
 ·have:=h6 k hk;simp only [km,Bool.and_eq_false_iff] at this;rcases this with h|h
  ·have:=qM hh.1;rw [h] at this;cases this
  ·have:=qM hh.2;rw [h] at this;cases this
theorem nW {ops:Array Oper} {o1 o2:Oper} {n1 n2:fU} (h:wZ ops o1 n1 o2 n2=true) :
  (∀ d,o1.dst=some d->d∉jM ops o2/\o2.dst≠some d)/\(∀ d,o2.dst=some d->d∉jM ops o1)/\(∀ k∈n1.keys,k∉n2.keys/\k∉n2.rds)/\∀ k∈n2.keys,¬ (n1.nx<=k.base/\k.base<=n1.nx'):=by
 simp only [wZ,kZ] at h;rcases h with h|h
 ·obtain ⟨a1,a2,a3,a4⟩:=Bb h;exact ⟨a1,a2,a3,λk hk=>(a4 k hk).2⟩
 ·obtain ⟨_,_,a3,a4,a5,a6,_⟩:=va h;exact ⟨a4,a5,λk hk=>(by rw [a3] at hk;cases hk),a6⟩
theorem As {ops:Array Oper} {o1 o2:Oper} {n1 n2:fU} (h:wZ ops o1 n1 o2 n2=true) (hl:¬ tK ops o1 n1 o2 n2=true):∀ k∈n2.keys,k∉n1.rds:=by
 simp only [wZ,kZ] at h;rcases h with h|h
 ·exact λk hk=>((Bb h).2.2.2 k hk).1
 ·exact absurd h hl
theorem x6 {a b:Value} (h:kc a b=true):kc a a=true:=by
 cases a<;>cases b<;>simp only [kc,fy] at h<;>simp [kc];exact um _
theorem Bc:∀ {x y:List Value},sR x y=true->sR x x=true
 | [],_,_=>rfl
 | a::x,[],h=>by cases h
 | a::x,b::y,h=>by
  simp only [sR,cT] at h ⊢
  exact ⟨x6 h.1,Bc h.2⟩
theorem F9 {a b:Value} (h:gQ a b=true):gQ a a=true:=by
 unfold gQ at h;split at h
 ·exact Bc h
 ·rename_i hn;have:=x6 h;unfold gQ;split
  ·simp [kc] at this
  ·exact this
theorem Bd (key kv:Value) (v:SV):∀ (es:List (Value×SV)) (i:Nat),fc key (es++[(kv,v)]) i=match fc key es i with
  | some p=>some p
  | none=>bif gQ key kv then some (i+es.length,v) else none
 | [],i=>by simp [fc]
 | e::es,i=>by
  simp only [iz,fc]
  cases gQ key e.1 with
  | true=>rfl
  | false =>
   simp only [cj]
   rw [Bd key kv v es (i+1)]
   cases fc key es (i+1) with
   | some p=>rfl
   | none=>simp only [gu];rw [show i+1+es.length=i+(es.length+1) by omega]
theorem Be (key:Value) (v:SV) (hk:gQ key key=true):∀ (es:List (Value×SV)) (i:Nat) (p:Nat×SV),fc key es i=some p->fc key (es.modify (p.1-i) λ_=>(key,v)) i=some (p.1,v)
 | [],i,p,h=>by cases h
 | e::es,i,p,h=>by
  simp only [fc] at h
  cases hc:gQ key e.1 with
  | true =>
   rw [hc] at h;cases h
   simp [fc,hk]
  | false =>
   rw [hc] at h
   simp only [cj] at h
   obtain ⟨h1,_⟩:=nu es (i+1) p h
   obtain ⟨d,hd⟩:∃ d,p.1-i=d+1:=⟨p.1-i-1,by omega⟩
   rw [hd,List.modify_succ_cons]
   simp only [fc,hc,cj]
   have:=Be key v hk es (i+1) p h
   rwa [show p.1-(i+1)=d by omega] at this
theorem Hu (z key:Value) (es:List (Value×SV)):gA z key (lr key (gA z key es) es)=gA z key es:=by
 cases hf:fc key es 0 with
 | none =>
  have h1:gA z key es = .v z:=by unfold gA;rw [hf]
  rw [h1];unfold lr gA;rw [hf];simp only;rw [Bd,hf];cases gQ key key<;>rfl
 | some p =>
  have h1:gA z key es=p.2:=by unfold gA;rw [hf]
  rw [h1];unfold lr gA;rw [hf];simp only;obtain ⟨_,q,_,_,hq⟩:=nu es 0 p hf;have:=Be key p.2 (F9 hq) es 0 p hf;rw [ni] at this;rw [this]
theorem ER (f:Value->Bool) (key:Value) (v:SV) (es:List (Value×SV)) (h1:es.all (λp=>f p.1)=true) (h2:f key=true):(lr key v es).all (λp=>f p.1)=true:=by
 unfold lr;split
 ·rename_i p _;rw [dQ] at h1 ⊢;intro x hx;obtain ⟨i,hi,rfl⟩:=uI hx;rw [List.getElem_modify];split
  ·exact h2
  ·exact h1 _ (eL (by simpa using hi))
 ·rw [List.all_append,h1];simp [h2]
theorem IH {P:Program} {t e':TypeId} {key:SV} {kv:Value} {S:List (Value×SV)->Prop} (hk:wy P t key=some (kv,S,e')) {es:List (Value×SV)} (hs:S es) (v:SV):S (lr kv v es):=by
 unfold wy at hk;split at hk
 ·cases hk;refine ⟨hs.1,ER (λx=>gM kv x) kv v es hs.2 ?_⟩;have:=hs.1;cases kv<;>simp [lZ] at this<;>simp [gM]
 ·split at hk
  ·rename_i vs _ l _ _ _;cases hk;exact ⟨hs.1,ER (λx=>oP l x) _ v es hs.2 (by simpa [oP] using hs.1)⟩
  ·cases hk
 ·cases hk
theorem x7 {P:Program} {t:TypeId} {k:Nm} {key:SV} {s:Prop} {e:dx} (h:jW P t (.mp k) key false hp nx = .ok s e):∃ kv S e' z,wy P t key=some (kv,S,e')/\mX P e'=some z/\(∀ hp2 nx2,jW P t (.mp k) key false hp2 nx2=qe (bX hp2 k) λes=>.ok (S es) ⟨gA z kv es,[],nx2,[k.key]⟩):=by
 unfold jW at h;split at h
 ·rename_i k' kv d e' hx hmt;cases hx;split at h
  ·rename_i z hz;refine ⟨kv,(λes=>lZ d kv=true/\es.all (λp=>gM kv p.1)=true),e',z,by unfold wy;rw [hmt],hz,λhp2 nx2=>?_⟩;unfold jW;rw [hmt];simp only [hz,cj]
  ·cases h
 ·rename_i k' cs d' hx hmt;cases hx;split at h
  ·rename_i vs kt l e' hvs hma;split at h
   ·rename_i z hz;refine ⟨.agg vs.toArray,(λes=>iK l vs=true/\es.all (λp=>oP l p.1)=true),e',z,by unfold wy;rw [hmt];simp only [hvs,hma],hz,λhp2 nx2=>?_⟩;unfold jW;rw [hmt];simp only [hvs,hma,hz,cj]
   ·cases h
  ·cases h
 ·cases h
theorem Hv {P:Program} {t:TypeId} {x key:SV} {hp2:Hp} {nx2:Nat} {s s2:Prop} {e e2:dx} (h1:jW P t x key false hp nx = .ok s e) (hs:s) (h2:jo P t x key hp2 nx2 = .ok s2 e2) (hk:∀ k,x = .mp k->Nm.isT k=true/\bX hp2 k=bX hp k) :
  (∃ s',jW P t x key false (e2.upd++hp) nx = .ok s' e/\s')/\∃ k,x = .mp k/\e.rds=[k.key]/\e.upd=[]/\e2.rds=[k.key]:=by
 unfold jo at h2;split at h2
 ·rename_i k kv S e' hke;obtain ⟨hT,hkk⟩:=hk k rfl;obtain ⟨kv',S',e'',z,g1,g2,g3⟩:=x7 h1;rw [hke] at g1;cases g1;rw [g2] at h2;simp only at h2;obtain ⟨es,hes,hf⟩:=ir h2;rw [g3,←hkk,hes] at h1;simp only [qe] at h1;cases h1;cases hf;cases k with
  | s F i=>cases hT
  | t a =>
   refine ⟨⟨S (lr kv (gA z kv es) es),?_,IH hke hs _⟩,.t a,rfl,rfl,rfl,rfl⟩;rw [g3];simp only [ea,iz,pL];rw [dw,cH];simp only [qe,Hu]
 ·cases h2
theorem Kf {n1 n2:fU} (h:F8 n1 n2=true):∀ k∈n1.keys,¬ (n2.nx<=k.base/\k.base<=n2.nx'):=λk hk hh=>by
 simp only [F8,dQ] at h
 have:=h k hk
 simp only [km,Bool.and_eq_false_iff] at this
 rcases this with h|h
 ·have:=qM hh.1;rw [h] at this;cases this
 ·have:=qM hh.2;rw [h] at this;cases this
structure F_ (X:Cx) (N:Nat) (A:List Nat) (z:Zs) (fr0:Fr) (hp0:Hp) (top:Nat) (sel:Nat->Bool) (a:Act) (w:World):Prop where
 ex:∃ ids,HeapC X (fR sel 0 z hp0) ids w/\∀ d,cV X (fR sel 0 z hp0) ids w (cL (gG sel 0 z fr0) d) (a.tmps.getD d undef)
 fresh:∀ k:Nm,top<=k.base->bX (fR sel 0 z hp0) k = .unborn
 size:a.tmps.size=N
 defers:a.defers=[]
 closed:∀ j,sel j=true->∀ i,i<z.length->(A.getD j 0).testBit i=true->sel i=true
theorem Hw {sel:Nat->Bool} {k:Nm} (h0:bX hp k = .unborn) (z:Zs) (m:Nat) (h:∀ j q,z[j]? = some q->sel (m+j)=true->k.key∉q.2.upd.map (·.1.key)):bX (fR sel m z hp) k = .unborn:=by
 have:bX (fR sel m z hp) k=bX (fR (λ_=>false) m z hp) k:=mL z m _ _ (λi q hi hk=>by
  cases hs:sel (m+i) with
  | false=>rfl
  | true=>exact absurd hk (h i q hi hs)) rfl
 rw [this,so _ _ _ λ_ _=>rfl];exact h0
theorem II {ops:Array Oper} {N nx0:Nat} {A:List Nat} {z:Zs} {fr0:Fr} {hp0:Hp} {sel sel':Nat->Bool} {a:Act} {Q:Exit->Act->World->Prop} {KK:Act->World->Prop} (hz:z.map (·.1)=ops.toList) (hch:xr X.P ops z fr0 hp0 nx0) (hok:m3 ops (z.map (·.2.nms)) A=true)
  (hm:X.m<=nx0) (h0:∀ k:Nm,nx0<=k.base->bX hp0 k = .unborn) (hdst:xq N ops=true) {i:Nat} {q:Oper×It} (hi:z[i]? = some q) (hsi:sel i=false) (hsi':sel' i=true) (hss:∀ j,j≠i->sel j=sel' j)
  (hready:∀ e∈q.1.after,Region.binds .any e=true->sel e.on=true) (hI:F_ X N A z fr0 hp0 (nL z nx0) sel a w) (hK:∀ a' w',F_ X N A z fr0 hp0 (nL z nx0) sel' a' w'->KK a' w'):wpOp X.P ops Q i KK a w:=by
 have hlen:z.length=ops.size:=by have:=dJ List.length hz;simpa using this
 have hops:∀ (j:Nat) (p:Oper×It),z[j]? = some p->ops[j]? = some p.1:=λj p hj=>by
  have:(z.map (·.1))[j]? = some p.1:=by simp [hj]
  rw [hz] at this;simpa using this
 have hns:∀ (j:Nat) (p:Oper×It),z[j]? = some p->(z.map (·.2.nms))[j]? = some p.2.nms:=λj p hj=>by simp [hj]
 have hlt:∀ (j:Nat) (p:Oper×It),z[j]? = some p->j<z.length:=λj p hj=>(dy.1 hj).1
 have hanc:∀ j,j<z.length->(A.getD i 0).testBit j=true->sel j=true:=λj hj hb=>by
  have hok2:=hok
  simp only [m3,cT] at hok2
  have h1:=hok2.1
  simp only [Ar,dQ,jD] at h1
  have h2:=h1 i (by have:=hlt i q hi;omega)
  rw [hops i q hi] at h2
  simp only [cT,dQ,jD] at h2
  have h3:=h2.2 j (by omega)
  rw [hb] at h3
  simp only [jF,Bool.false_or,nl,cT,kZ,jC] at h3
  obtain ⟨e,he,hbi,h4⟩:=h3
  have hse:=hready e (by simpa using he) hbi
  rcases h4 with h4|h4
  ·rw [←h4];exact hse
  ·exact hI.closed e.on hse j hj h4
 -- who has come, and touches what this one touches, stands ahead of it in the text
 have hsame:∀ (bad:Oper×It->Prop),(∀ (j:Nat) (p:Oper×It),z[j]? = some p->j<i->wZ ops p.1 p.2.nms q.1 q.2.nms=true->¬ bad p)->(∀ (j:Nat) (p:Oper×It),z[j]? = some p->i<j->wZ ops q.1 q.2.nms p.1 p.2.nms=true->¬ bad p) ->
  ∀(j:Nat) (p:Oper×It),z[j]? = some p->bad p->sel j=decide (j<i):=λbad hb1 hb2 j p hj hb=>by
  rcases pU j i with hji|hji|hji
  ·rw [cG hji]
   rcases (kP hok hji (hops j p hj) (hops i q hi) (hns j p hj) (hns i q hi)).1 with h|h
   ·exact hanc j (hlt j p hj) h
   ·exact absurd hb (hb1 j p hj hji h)
  ·subst hji;rw [hsi];simp
  ·rw [cP (by omega)]
   rcases (kP hok hji (hops i q hi) (hops j p hj) (hns i q hi) (hns j p hj)).1 with h|h
   ·cases hs:sel j with
    | false=>rfl
    | true=>have:=hI.closed j hs i (hlt i q hi) h;rw [hsi] at this;cases this
   ·exact absurd hb (hb2 j p hj hji h)
 obtain ⟨c1,c2,c3,hst⟩:=yw z fr0 hp0 nx0 0 i q hch hi
 rw [dm] at hst
 obtain ⟨ids,hH,hF⟩:=hI.ex
 have hun:∀ k:Nm,q.2.nx<=k.base->k.base<=q.2.nx'->bX (fR sel 0 z hp0) k = .unborn:=λk hk1 hk2=>by
  refine Hw (h0 k (by omega)) z 0 λj p hj hs hk=>?_
  rw [dm] at hs
  rcases pU j i with hji|hji|hji
  ·exact Kf (kP hok hji (hops j p hj) (hops i q hi) (hns j p hj) (hns i q hi)).2 k.key hk ⟨(Nm.key_base k).symm▸hk1,(Nm.key_base k).symm▸hk2⟩
  ·subst hji;rw [hsi] at hs;cases hs
  ·rcases (kP hok hji (hops i q hi) (hops j p hj) (hns i q hi) (hns j p hj)).1 with h|h
   ·have:=hI.closed j hs i (hlt i q hi) h;rw [hsi] at this;cases this
   ·exact (nW h).2.2.2 k.key hk ⟨(Nm.key_base k).symm▸hk1,(Nm.key_base k).symm▸hk2⟩
 have hsel:∀ (j:Nat) (p:Oper×It),z[j]? = some p->i<j->sel j=true->(A.getD j 0).testBit i=true->False:=λj p hj hij hs hb=>by
  have:=hI.closed j hs i (hlt i q hi) hb;rw [hsi] at this;cases this
 have hrd:∃ hpB,iw true X.P ops q.1 (gG (λj=>decide (j<i)) 0 z fr0) hpB q.2.nx (CF q.2)/\∀ k:Nm,k.key∈q.2.rds->bX (fR sel 0 z hp0) k=bX hpB k:=by
  by_cases hlate:∃ (j:Nat) (p:Oper×It),z[j]? = some p/\i<j/\sel j=true/\tK ops q.1 q.2.nms p.1 p.2.nms=true
  ·obtain ⟨j,p,hj,hij,hsj,hl⟩:=hlate
   obtain ⟨l1,l2,l3,l4,l5,l6,l7⟩:=va hl
   -- there is but one entry
   have hone:∀ (j':Nat) (p':Oper×It),z[j']? = some p'->kn p'.1.op=true->kn p.1.op=true->j'=j:=λj' p' hj' h1 h2=>by
    refine Decidable.byContradiction λhne=>?_
    have h3:ops.toList[j']? = some p'.1:=by simpa using hops j' p' hj'
    have h4:ops.toList[j]? = some p.1:=by simpa using hops j p hj
    have:∀ (l:List Oper) (a b:Nat) (x y:Oper),a<b->l[a]? = some x->l[b]? = some y->kn x.op=true->kn y.op=true->2<=(l.filter λo=>kn o.op).length:=by
     intro l
     induction l with
     | nil=>intro a b x y _ hx;simp at hx
     | cons o l ih =>
      intro a b x y hab hx hy ex ey
      cases a with
      | zero =>
       simp at hx;subst hx
       rw [kG (p:=λo:Oper=>kn o.op) ex,gu]
       have:y∈l.filter λo=>kn o.op:=by
        obtain ⟨b',rfl⟩:∃ b',b=b'+1:=⟨b-1,by omega⟩
        exact List.mem_filter.2 ⟨pO (by simpa using hy),ey⟩
       have:=List.length_pos_of_mem this
       omega
      | succ a =>
       obtain ⟨b',rfl⟩:∃ b',b=b'+1:=⟨b-1,by omega⟩
       have:=ih a b' x y (by omega) (by simpa using hx) (by simpa using hy) ex ey
       by_cases eo:kn o.op=true
       ·rw [kG (p:=λo:Oper=>kn o.op) eo,gu];omega
       ·rw [nb (p:=λo:Oper=>kn o.op) eo];exact this
    rcases Nat.lt_or_gt_of_ne hne with h|h
    ·have:=this _ j' j _ _ h h3 h4 h1 h2;omega
    ·have:=this _ j j' _ _ h h4 h3 h2 h1;omega
   -- the two operations
   unfold uo at l1
   split at l1
   ·rename_i t a b t' a' b' hq1 hp1 hqg hpg
    simp only [cT,jC] at l1
    obtain ⟨rfl,rfl,rfl⟩:=l1
    have hpe:kn p.1.op=true:=by rw [hp1];rfl
    obtain ⟨_,_,_,hstj⟩:=yw z fr0 hp0 nx0 0 j p hch hj
    rw [dm] at hstj
    have hlq:∀ d,d=a\/d=b->d∈jM ops q.1:=λd hd=>by
     unfold jM;rw [hqg,hq1];rcases hd with rfl|rfl<;>simp [lH,Op.operands]
    have hlp:∀ d,d=a\/d=b->d∈jM ops p.1:=λd hd=>by
     unfold jM;rw [hpg,hp1];rcases hd with rfl|rfl<;>simp [lH,Op.operands]
    -- nobody between them is ahead of the second, but behind the first
    have hbet:∀ (m:Nat) (r:Oper×It),z[m]? = some r->i<m->m<j->¬ ((A.getD m 0).testBit i=true/\(A.getD j 0).testBit m=true):=λm r hm him hmj ⟨h1,h2⟩=>by
     have hsm:=hI.closed j hsj m (hlt m r hm) h2
     exact hsel m r hm him hsm h1
    have hfr:∀ d,d=a\/d=b->cL (gG (λn=>decide (n<j)) 0 z fr0) d=cL (gG (λn=>decide (n<i)) 0 z fr0) d:=λd hd=>pk z 0 _ _ (λm r hm hmd=>by
     rw [dm]
     rcases pU m i with h|h|h
     ·rw [cG h,cG (by omega)]
     ·subst h
      rw [hm] at hi;cases hi
      exact absurd (hlp d hd) (l4 d hmd).1
     ·by_cases hmj:m<j
      ·exfalso
       rcases (kP hok h (hops i q hi) (hops m r hm) (hns i q hi) (hns m r hm)).1 with h1|h1
       ·rcases (kP hok hmj (hops m r hm) (hops j p hj) (hns m r hm) (hns j p hj)).1 with h2|h2
        ·exact hbet m r hm h hmj ⟨h1,h2⟩
        ·exact ((nW h2).1 d hmd).1 (hlp d hd)
       ·exact (nW h1).2.1 d hmd (hlq d hd)
      ·rw [cP (by omega),cP (by omega)]) rfl
    have hev:∀ d,d=a\/d=b->dC true (gG (λn=>decide (n<j)) 0 z fr0) (.tmp d)=dC true (gG (λn=>decide (n<i)) 0 z fr0) (.tmp d):=λd hd=>by simp only [dC,hfr d hd]
    unfold iw at hst hstj
    rw [hqg] at hst
    rw [hpg] at hstj
    simp only at hst hstj
    unfold kA at hst hstj
    rw [hq1] at hst
    rw [hp1] at hstj
    simp only [jb,u4,fy,false_and,and_false,false_or,kK] at hst hstj
    rw [hev a (.inl rfl),hev b (.inr rfl)] at hstj
    cases hop:jW X.P t (dC true (gG (λj=>decide (j<i)) 0 z fr0) (.tmp a)) (dC true (gG (λj=>decide (j<i)) 0 z fr0) (.tmp b)) false (fR (λj=>decide (j<i)) 0 z hp0) q.2.nx with
    | bad=>rw [hop] at hst;exact hst.elim
    | ok s e =>
     rw [hop] at hst
     obtain ⟨hs,hv1,hv2,hv3,hv4⟩:=hst
     cases hop2:jo X.P t (dC true (gG (λj=>decide (j<i)) 0 z fr0) (.tmp a)) (dC true (gG (λj=>decide (j<i)) 0 z fr0) (.tmp b)) (fR (λn=>decide (n<j)) 0 z hp0) p.2.nx with
     | bad=>rw [hop2] at hstj;exact hstj.elim
     | ok s2 e2 =>
      rw [hop2] at hstj
      obtain ⟨hs2,hw1,hw2,hw3,hw4⟩:=hstj
      have hmap:∀ k:Nm,k.key∈q.2.rds->k.key∈p.2.rds->bX (fR (λn=>decide (n<j)) 0 z hp0) k=bX (fR (λn=>decide (n<i)) 0 z hp0) k:=λk hkq hkp=>mL z 0 _ _ (λm r hm hkm=>by
       rw [dm]
       rcases pU m i with h|h|h
       ·rw [cG h,cG (by omega)]
       ·subst h
        rw [hm] at hi;cases hi
        have:k.key∈q.2.nms.keys:=hkm
        rw [l3] at this;cases this
       ·by_cases hmj:m<j
        ·exfalso
         rcases (kP hok h (hops i q hi) (hops m r hm) (hns i q hi) (hns m r hm)).1 with h1|h1
         ·rcases (kP hok hmj (hops m r hm) (hops j p hj) (hns m r hm) (hns j p hj)).1 with h2|h2
          ·exact hbet m r hm h hmj ⟨h1,h2⟩
          ·exact ((nW h2).2.2.1 k.key hkm).2 hkp
         ·by_cases hl2:tK ops q.1 q.2.nms r.1 r.2.nms=true
          ·have hre:kn r.1.op=true:=by
            have:=(va hl2).1
            unfold uo at this
            split at this
            ·rename_i h9 _ _;rw [h9];rfl
            ·cases this
           have:=hone m r hm hre hpe
           omega
          ·exact As h1 hl2 k.key hkm hkq
        ·rw [cP (by omega),cP (by omega)]) rfl
      have hx:∃ k,dC true (gG (λj=>decide (j<i)) 0 z fr0) (.tmp a) = .mp k/\e.rds=[k.key]/\e2.rds=[k.key]:=by
       have h2:=hop2
       unfold jo at h2
       split at h2
       ·rename_i k kv S e' hxk hke
        split at h2
        ·obtain ⟨es,hes,hf⟩:=ir h2
         have h1:=hop
         rw [hxk] at h1
         obtain ⟨_,_,_,_,_,_,g3⟩:=x7 h1
         rw [g3] at h1
         obtain ⟨_,_,hf1⟩:=ir h1
         exact ⟨k,hxk,by cases hf1;rfl,by cases hf;rfl⟩
        ·cases h2
       ·cases h2
      obtain ⟨k,hxk,hr1,hr2⟩:=hx
      have hkq:k.key∈q.2.rds:=by rw [←hv4,hr1];simp
      have hkp:k.key∈p.2.rds:=by rw [←hw4,hr2];simp
      have hkT:Nm.isT k=true:=by
       have:=l7 k.key hkq
       cases k with
       | t a=>rfl
       | s F i=>cases this
      obtain ⟨⟨s',hl1,hl2⟩,_⟩:=Hv hop hs hop2 (λk' hk'=>by
       rw [hxk] at hk';cases hk'
       exact ⟨hkT,hmap k hkq hkp⟩)
      refine ⟨e2.upd++fR (λj=>decide (j<i)) 0 z hp0,?_,λk' hk'=>?_⟩
      ·unfold iw
       rw [hqg]
       simp only
       unfold kA
       rw [hq1]
       simp only [jb,kK]
       rw [hl1]
       exact .inr ⟨hl2,hv1,hv2,hv3,hv4⟩
      ·rw [hw2]
       have e1:bX (p.2.upd++fR (λj=>decide (j<i)) 0 z hp0) k'=bX (fR (λn=>decide (n<i)||decide (n=j)) 0 z hp0) k' :=
        w4 z 0 _ _ j p hj (by rw [dm];exact cP (by omega)) (by rw [dm];simp) (λm hm=>by rw [dm] at hm;simp [hm]) (λ_ m r hm _ hs=>by rw [dm] at hs;simp at hs;omega) rfl
       rw [e1]
       refine mL z 0 _ _ (λm r hm hkm=>?_) rfl
       rw [dm]
       rcases pU m i with h|h|h
       ·rw [show (decide (m<i)||decide (m=j))=true by simp [h]]
        rcases (kP hok h (hops m r hm) (hops i q hi) (hns m r hm) (hns i q hi)).1 with h1|h1
        ·exact hanc m (hlt m r hm) h1
        ·exact absurd hk' ((nW h1).2.2.1 k'.key hkm).2
       ·subst h
        rw [hm] at hi;cases hi
        have:k'.key∈q.2.nms.keys:=hkm
        rw [l3] at this;cases this
       ·by_cases hmj:m=j
        ·subst hmj;rw [hsj];simp
        ·rw [show (decide (m<i)||decide (m=j))=false by simp [hmj];omega]
         cases hsm:sel m with
         | false=>rfl
         | true =>
          exfalso
          rcases (kP hok h (hops i q hi) (hops m r hm) (hns i q hi) (hns m r hm)).1 with h1|h1
          ·exact hsel m r hm h hsm h1
          ·by_cases hl2:tK ops q.1 q.2.nms r.1 r.2.nms=true
           ·have hre:kn r.1.op=true:=by
             have:=(va hl2).1
             unfold uo at this
             split at this
             ·rename_i h9 _ _;rw [h9];rfl
             ·cases this
            exact hmj (hone m r hm hre hpe)
           ·exact As h1 hl2 k'.key hkm hk'
   ·cases l1
  ·refine ⟨_,hst,λk hk=>mL z 0 _ _ (λj p hj hkj=>?_) rfl⟩
   rw [dm]
   rcases pU j i with h|h|h
   ·rw [cG h]
    rcases (kP hok h (hops j p hj) (hops i q hi) (hns j p hj) (hns i q hi)).1 with h1|h1
    ·exact hanc j (hlt j p hj) h1
    ·exact absurd hk ((nW h1).2.2.1 k.key hkj).2
   ·subst h;rw [hsi];simp
   ·rw [cP (by omega)]
    cases hs:sel j with
    | false=>rfl
    | true =>
     exfalso
     rcases (kP hok h (hops i q hi) (hops j p hj) (hns i q hi) (hns j p hj)).1 with h1|h1
     ·exact hsel j p hj h hs h1
     ·by_cases hl2:tK ops q.1 q.2.nms p.1 p.2.nms=true
      ·exact hlate ⟨j,p,hj,h,hs,hl2⟩
      ·exact As h1 hl2 k.key hkj hk
 obtain ⟨hpB,hst,hrd⟩:=hrd
 refine sm (hops i q hi) (fr:=gG (λj=>decide (j<i)) 0 z fr0) (fr':=gG sel 0 z fr0) (hp:=hpB) (hp':=fR sel 0 z hp0) (nx:=q.2.nx) hH (by omega) hF (λd hd=>?_) hst (hun _ (cF _) c2) (λval upd nx' rds hk=>?_) λval upd nx' rds x w' ids' hk hu h1 h2 h3=>hK _ _ ?_
 ·refine pk z 0 _ _ (λj p hj hdj=>?_) rfl
  rw [dm]
  exact hsame (λp=>p.1.dst=some d) (λj p _ _ h hb=>((nW h).1 d hb).1 hd) (λj p _ _ h hb=>(nW h).2.1 d hb hd) j p hj hdj
 ·obtain ⟨rfl,rfl,rfl,rfl⟩:=hk
  exact ⟨λk hk1 hk2=>hun k hk1 (by omega),hrd⟩
 ·obtain ⟨rfl,rfl,rfl,rfl⟩:=hk
  have he:bX (q.2.upd++fR sel 0 z hp0)=bX (fR sel' 0 z hp0):=funext λk=>w4 z 0 _ _ i q hi (by rw [dm];exact hsi) (by rw [dm];exact hsi') (λj hj=>hss j (by omega)) (λhk j p hij hj hs hkj=>by
   rw [dm] at hs
   rcases (kP hok hij (hops i q hi) (hops j p hj) (hns i q hi) (hns j p hj)).1 with h|h
   ·have:=hI.closed j hs i (hlt i q hi) h;rw [hsi] at this;cases this
   ·exact ((nW h).2.2.1 k.key hk).1 hkj) rfl
  refine ⟨⟨ids',h1.congr he,λd=>?_⟩,λk hk=>?_,by rw [Cz];exact hI.size,by rw [zx];exact hI.defers,λj hs k hk hb=>?_⟩
  ·have:=A0 (A7 h2 hF) hI.size (dst:=q.1.dst) (λd hd=>zA hdst q.1 (by
    have:=hops i q hi
    exact Array.mem_toList_iff.2 (Array.mem_of_getElem? this)) d hd) h3 d
   rw [Ba (s2:=sel') z 0 fr0 fr0 i q hi (by rw [dm];exact hsi) (by rw [dm];exact hsi') (λj hj=>hss j (by omega)) (λhd j p hij hj hs hdj=>by
    rw [dm] at hs
    rcases (kP hok hij (hops i q hi) (hops j p hj) (hns i q hi) (hns j p hj)).1 with h|h
    ·have:=hI.closed j hs i (hlt i q hi) h;rw [hsi] at this;cases this
    ·exact ((nW h).1 d hd).2 hdj) rfl] at this
   exact cV.congr this he
  ·rw [←he,jc]
   ·exact hI.fresh k hk
   ·intro hm
    obtain ⟨p,hp1,hpk⟩:=fK.1 hm
    have hb:p.1.base=k.base:=by rw [←Nm.key_base,hpk,Nm.key_base]
    rcases hu.keys p hp1 with ⟨_,h⟩|⟨h4,k2,h5,h6⟩
    ·omega
    ·have hb2:k2.base=p.1.base:=by rw [←Nm.key_base,h5,Nm.key_base]
     rw [←hrd k2 (by rw [h5];exact h4),hI.fresh k2 (by omega)] at h6;exact h6 rfl
  ·by_cases hj:j=i
   ·subst hj
    by_cases hkj:k=j
    ·subst hkj;exact hsi'
    ·rw [←hss k hkj];exact hanc k hk hb
   ·rw [←hss j hj] at hs
    have:=hI.closed j hs k hk hb
    by_cases hkj:k=i
    ·subst hkj;exact hsi'
    ·rw [←hss k hkj];exact this
theorem Kg {n:Nat} {p q:Nat->Bool} (h:∀ j,j<n->q j=true->p j=true) {i:Nat} (hi:i<n) (hp:p i=true) (hq:q i=false):((List.range n).filter q).length<((List.range n).filter p).length:=by
 have gen:∀ (l:List Nat),(∀ j∈l,q j=true->p j=true)->(l.filter q).length<=(l.filter p).length/\(i∈l->(l.filter q).length<(l.filter p).length):=by
  intro l;induction l with
  | nil=>exact λ_=>⟨cF _,λhm=>by cases hm⟩
  | cons a l ih =>
   intro hl;obtain ⟨h1,h2⟩:=ih λj hj=>hl j (by simp [hj])
   have ha:=hl a (by simp);refine ⟨?_,λhm=>?_⟩
   ·cases hqa:q a with
    | true=>rw [kG hqa,kG (ha hqa)];simpa using h1
    | false =>
     rw [nb (by simp [hqa])];cases hpa:p a with
     | true=>rw [kG hpa];simp;omega
     | false=>rw [nb (by simp [hpa])];exact h1
   ·rcases fg.1 hm with rfl|hm
    ·rw [nb (by simp [hq]),kG hp];simp;omega
    ·have:=h2 hm;cases hqa:q a with
     | true=>rw [kG hqa,kG (ha hqa)];simpa using this
     | false =>
      rw [nb (by simp [hqa])];cases hpa:p a with
      | true=>rw [kG hpa];simp;omega
      | false=>rw [nb (by simp [hpa])];exact this
 exact (gen (List.range n) λj hj=>h j (jD.1 hj)).2 (jD.2 hi)
theorem Ga {ops:Array Oper} {N nx0:Nat} {A:List Nat} {z:Zs} {fr0:Fr} {hp0:Hp} {Q:Exit->Act->World->Prop} (hz:z.map (·.1)=ops.toList) (hch:xr X.P ops z fr0 hp0 nx0) (hok:m3 ops (z.map (·.2.nms)) A=true)
  (hm:X.m<=nx0) (h0:∀ k:Nm,nx0<=k.base->bX hp0 k = .unborn) (hdst:xq N ops=true) (hQ:∀ a w,lP X N (gG (λ_=>true) 0 z fr0) (fR (λ_=>true) 0 z hp0) (nL z nx0) a w->Q .normal a w):∀ (fuel:Nat) (listed:Array Bool) (a:Act) (w:World),listed.size=ops.size ->
  ((List.range ops.size).filter λj=>!listed.getD j false).length<=fuel->F_ X N A z fr0 hp0 (nL z nx0) (λj=>listed.getD j false) a w->wpAny X.P .any ops Q fuel listed a w:=by
 have hlen:z.length=ops.size:=by have:=dJ List.length hz;simpa using this
 have hops:∀ (j:Nat) (p:Oper×It),z[j]? = some p->ops[j]? = some p.1:=λj p hj=>by
  have:(z.map (·.1))[j]? = some p.1:=by simp [hj]
  rw [hz] at this;simpa using this
 have hnil:∀ (listed:Array Bool) (a:Act) (w:World),listed.size=ops.size->F_ X N A z fr0 hp0 (nL z nx0) (λj=>listed.getD j false) a w->Region.ready .any ops listed=[]->(∀ j,j<ops.size->listed.getD j false=true)/\Q .normal a w:=by
  intro listed a w hsz hI hr;have hall:∀ j,j<ops.size->listed.getD j false=true:=by
   intro j;induction j using Nat.strongRecOn with
   | _ j ih =>
    intro hj;cases hl:listed.getD j false with
    | true=>rfl
    | false =>
     have hmem:j∈Region.ready .any ops listed:=by
      refine mem_ready.2 ⟨getD_in (by omega) hl,ops[j],d6 hj,λe he hb=>?_⟩;have hok2:=hok;simp only [m3,cT] at hok2;have h1:=hok2.1;simp only [Ar,dQ,jD] at h1;have h2:=h1 j hj;rw [d6 hj] at h2;simp only [cT,dQ] at h2;have h3:=h2.1 e (by simpa using he);rw [hb] at h3;have hlt:e.on<j:=by simpa [kH] using h3
      exact ih e.on hlt (by omega)
     rw [hr] at hmem;cases hmem
  refine ⟨hall,hQ a w ?_⟩;obtain ⟨ids,hH,hF⟩:=hI.ex;have e1:bX (fR (λj=>listed.getD j false) 0 z hp0)=bX (fR (λ_=>true) 0 z hp0):=funext λk=>mL z 0 _ _ (λi q hi _=>by
   have:=(dy.1 hi).1;rw [dm];exact hall i (by omega)) rfl
  have e2:∀ d,cL (gG (λj=>listed.getD j false) 0 z fr0) d=cL (gG (λ_=>true) 0 z fr0) d:=λd=>pk z 0 _ _ (λi q hi _=>by
   have:=(dy.1 hi).1;rw [dm];exact hall i (by omega)) rfl
  exact ⟨ids,⟨hH.congr e1,λk hk=>by rw [←e1];exact hI.fresh k hk,mb hm (u_ z fr0 hp0 nx0 hch)⟩,λd=>by rw [←e2];exact cV.congr (hF d) e1,hI.size,hI.defers⟩
 intro fuel;induction fuel with
 | zero =>
  intro listed a w hsz hc hI;have hr:Region.ready .any ops listed=[]:=by
   rw [List.eq_nil_iff_forall_not_mem];intro j hj;obtain ⟨h1,o,h2,_⟩:=mem_ready.1 hj;have hlt:=(qJ.1 h2).1;have:((List.range ops.size).filter λj=>!listed.getD j false)=[]:=iV (by omega);have hm2:j∈(List.range ops.size).filter λj=>!listed.getD j false:=List.mem_filter.2 ⟨jD.2 hlt,by
    have:listed.getD j false=false:=by
     rw [cQ] at h1 ⊢;rw [d6 (by omega)] at h1 ⊢;exact h1
    rw [this];rfl⟩
   rw [this] at hm2;cases hm2
  exact ⟨hr,(hnil listed a w hsz hI hr).2⟩
 | succ fuel ih =>
  intro listed a w hsz hc hI;refine ⟨λhr=>(hnil listed a w hsz hI hr).2,λi hi=>?_⟩;obtain ⟨h1,o,h2,h3⟩:=mem_ready.1 hi;have hlt:i<ops.size:=(qJ.1 h2).1;have hzi:z[i]? = some z[i]:=dz (by omega);have ho:o=z[i].1:=by have:=hops i _ hzi;rw [h2] at this;exact dL this
  have hsi:listed.getD i false=false:=by
   rw [cQ] at h1 ⊢;rw [d6 (by omega)] at h1 ⊢;exact h1
  have hset:(listed.setIfInBounds i true).getD i false=true:=by
   rw [cQ,uM (by omega)];rfl
  have hne:∀ j,j≠i->listed.getD j false=(listed.setIfInBounds i true).getD j false:=λj hj=>(getD_set_ne false (λe=>hj e.symm)).symm;refine II (sel:=λj=>listed.getD j false) (sel':=λj=>(listed.setIfInBounds i true).getD j false) hz hch hok hm h0 hdst hzi hsi hset hne (λe he hb=>h3 e (ho▸he) hb) hI λa' w' hI'=>?_
  refine ih _ a' w' (by simp [hsz]) ?_ hI';have:=Kg (n:=ops.size) (p:=λj=>!listed.getD j false) (q:=λj=>!(listed.setIfInBounds i true).getD j false) (λj _ hq=>by
   by_cases hj:j=i
   ·subst hj;simp only [hset] at hq;cases hq
   ·simp only [hne j hj];exact hq) hlt (by simp [hsi]) (by simp only [hset];rfl)
  omega
theorem cO (P:Program):CB (Ju P) P:=by
 intro X N id ops K Q fr hp nx a w hP hd hQ hst h;subst hP;obtain ⟨z,h1,h2,h3⟩:=zD ops.toList fr hp nx [] 0 h;obtain ⟨⟨h4,h5⟩,h6⟩:=h3;rw [pL] at h5;obtain ⟨ids,hH,hF,hN,hD⟩:=hst;refine wp_region_any h4 ?_;obtain ⟨g1,g2⟩:=hH.toHeapC.drew;have e0:∀ j,(Array.replicate ops.size false).getD j false=false:=λj=>getD_replicate_false _ _;refine Ga (X:=X) (N:=N) h1 h2 h5 hH.m_le hH.fresh hd (λa w hs=>hQ _ _ _ a w h6 hs) ops.size _ a _ (by simp) (by
  refine mb (List.length_filter_le _ _) (by simp)) ?_
 have e1:fR (λj=>(Array.replicate ops.size false).getD j false) 0 z hp=hp:=so z 0 hp λj _=>e0 j
 have e2:gG (λj=>(Array.replicate ops.size false).getD j false) 0 z fr=fr:=u9 z 0 fr λj _=>e0 j
 refine ⟨⟨ids,?_,λd=>?_⟩,λk hk=>?_,hN,hD,λj hj=>by rw [e0] at hj;cases hj⟩
 ·rw [e1];exact g1
 ·rw [e1,e2];exact (hF d).mono g2
 ·rw [e1];exact hH.fresh k (mb (u_ z fr hp nx h2) hk)
abbrev lQ (P:Program) (m N:Nat):Code->g8->Fr->Hp->Nat->Prop:=pR (Ju P) P m N
end
section
open Go.RowKit
variable {P:Program} {fr:Fr} {hp:Hp} {nx:Nat}
theorem Bf {fr':Fr} (h:cL fr=cL fr') (g:Bool):dC g fr=dC g fr':=by
 funext x;cases x<;>simp only [dC,h]
theorem Gb {fr':Fr} (h:cL fr=cL fr'):wb fr=wb fr':=by
 funext x;cases x<;>simp only [wb,h]
theorem zE {fr':Fr} (h:cL fr=cL fr') (d:Option Tmp) (x:SV):cL (gh d x fr)=cL (gh d x fr'):=by
 cases d with
 | none=>exact h
 | some d=>funext t;simp only [gh,cL,h]
theorem Bg {fr':Fr} (h:cL fr=cL fr') (g:Bool) (ty:TypeId) (o:Op):kK P g fr hp nx ty o=kK P g fr' hp nx ty o:=by
 unfold kK;rw [Bf h,Gb h]
theorem CH {fr':Fr} (h:cL fr=cL fr') (g:Bool) (o:Op):jb g fr o=jb g fr' o:=by
 unfold jb;rw [Bf h]
theorem CI {fr':Fr} (h:cL fr=cL fr') (ops:Array Oper) (j:Nat) (w:Bool):mB ops fr j w=mB ops fr' j w:=by
 unfold mB;rw [h]
theorem x8 {fr':Fr} (h:cL fr=cL fr') {dt:Bool} {ops:Array Oper} {o:Oper} {K K':SV->Hp->Nat->List Nm->Prop} (hK:∀ v u n r,K v u n r->K' v u n r) (hs:iw dt P ops o fr hp nx K):iw dt P ops o fr' hp nx K':=by
 have core:∀ {g:Bool},kA dt P g o fr hp nx K->kA dt P g o fr' hp nx K':=by
  intro g hc;unfold kA at hc ⊢;rw [←CH h];cases hcl:jb g fr o.op with
  | some c =>
   rw [hcl] at hc;obtain ⟨args',hin,m,Post,σ,bor,h1,h2,hsg,h3,h4,h5,h6,h7,h8,h9,h10⟩:=hc;exact ⟨args',hin,m,Post,σ,bor,h1,h2,hsg,h3,h4,h5,h6,h7,h8,h9,λres hp' nx' hp=>⟨(h10 res hp' nx' hp).1,(h10 res hp' nx' hp).2.1,(h10 res hp' nx' hp).2.2.imp λ_ hu=>⟨hu.1,hK _ _ _ _ hu.2⟩⟩⟩
  | none =>
   rw [hcl] at hc;simp only at hc ⊢;rw [←Bg h];rcases hc with hc|hc
   ·exact .inl ⟨hc.1,hc.2.1,hc.2.2.mono h hK⟩
   refine .inr ?_;cases hop:kK P g fr hp nx o.type o.op with
   | bad=>rw [hop] at hc;exact hc
   | ok s e=>rw [hop] at hc;exact ⟨hc.1,hK _ _ _ _ hc.2⟩
 unfold iw at hs ⊢;cases hg:o.guard with
 | none=>rw [hg] at hs;exact core hs
 | some jw =>
  rw [hg] at hs;simp only at hs ⊢;rw [←CI h];cases hgs:mB ops fr jw.1 jw.2 with
  | none=>rw [hgs] at hs;exact hs
  | some g =>
   rw [hgs] at hs;simp only at hs ⊢;cases hq:lN P o.op with
   | true =>
    rw [hq] at hs;simp only [cd] at hs ⊢;rcases hs with hs|hs
    ·exact .inl ⟨hs.1,hK _ _ _ _ hs.2⟩
    ·refine .inr ?_;rw [←Bg h];cases hop:kK P g fr hp nx o.type o.op with
     | bad=>rw [hop] at hs;exact hs
     | ok s e =>
      rw [hop] at hs;simp only at hs ⊢;cases hu:e.upd with
      | nil=>rw [hu] at hs;exact ⟨hs.1,hK _ _ _ _ hs.2⟩
      | cons a b=>rw [hu] at hs;exact hs
   | false =>
    rw [hq] at hs;exact ⟨λhg=>core (hs.1 hg),λhg=>hK _ _ _ _ (hs.2 hg)⟩
def zF (K:Fr->Hp->Nat->Prop):Prop:=∀ fr fr' hp nx,cL fr=cL fr'->K fr hp nx->K fr' hp nx
theorem CJ (K:Fr->Hp->Nat->Prop):zF (qE K):=λfr fr' hp nx h ⟨f1,h1,he,hk⟩=>⟨f1,h1,⟨λd=>by rw [←h];exact he.1 d,he.2⟩,hk⟩
theorem w5 {ops:Array Oper} {K:Fr->Hp->Nat->Prop} (hK:zF K):∀ (l:List Oper) (fr fr':Fr) (hp:Hp) (nx:Nat),cL fr=cL fr'->lO P ops l fr hp nx K->lO P ops l fr' hp nx K
 | [],fr,fr',hp,nx,h,hr=>hK _ _ _ _ h hr
 | o::l,fr,fr',hp,nx,h,hr=>x8 h (λv u n r hk=>w5 hK l _ _ _ _ (zE h _ _) hk) hr
theorem zG {ops:Array Oper} {K:List fU->Fr->Hp->Nat->Prop} (hK:∀ ns,zF (K ns)):∀ (l:List Oper) (fr fr':Fr) (hp:Hp) (nx:Nat) (acc:List fU),cL fr=cL fr'->u7 P ops l fr hp nx acc K->u7 P ops l fr' hp nx acc K
 | [],fr,fr',hp,nx,acc,h,hr=>hK _ _ _ _ _ h hr
 | o::l,fr,fr',hp,nx,acc,h,hr=>x8 h (λv u n r hk=>zG hK l _ _ _ _ _ (zE h _ _) hk) hr
def vb (P:Program) (t:TypeId) (cs:List SV) (off:Nat):Bool:=match tZ P t,jI P t with
 | some true,some n=>Nat.ble (off+n) cs.length
 | some false,_=>Nat.blt off cs.length
 | _,_=>false
def CK (P:Program) (g:Bool) (fr:Fr) (hp:Hp) (o:Op):Bool:=match o with
 | .move _=>true
 | .assign _=>true
 | .pick _ _ _=>true
 | .alloc _=>true
 | .build _ _=>true
 | .buildSlice _ _ _=>true
 | .fieldAddr _ _ _=>true
 | .extract _ _=>true
 | .makeInterface _ _=>true
 | .typeAssert _ _ _ _=>true
 | .slice _ x lo hi mx=>(match lo,hi,mx,dC g fr x with
  | none,none,none,.ptr _ _=>true
  | _,_,_,_=>false)
 | .unOp _ _ _=>true
 | .convert _ d x=>match dC g fr x with
  | .v (.int _ _)=>true
  | .v (.string _)=>(match P.underlying d with|some .string=>true|_=>false)
  | _=>false
 | .makeFunc _ _ _=>true
 | .makeMap _ _=>true
 | .nilCheck _=>true
 | .box _ x=>(er (dC g fr x)).all i_
 | .load t a=>match Aj P (dC g fr a) with
  | .ptr k off=>match bX hp k with
   | .row _ cs=>vb P t cs off
   | _=>false
  | .iptr cs off=>vb P t cs off
  | _=>false
 | .store t a x=>match dC g fr a with
  | .ptr k off=>match bX hp k with
   | .row _ cs=>(match jI P t with|some n=>n==(er (dC g fr x)).length|none=>false)&&((er (dC g fr x)).all i_&&Nat.ble (off+(er (dC g fr x)).length) cs.length)
   | _=>false
  | _=>false
 | .field t x f=>match wj P t f,dC g fr x with
  | some (o,ft,_),.agg cs=>vb P ft cs o
  | _,_=>false
 | .index t x i=>match dC g fr x,dC g fr i,t7 P t with
  | .agg cs,.v (.int _ n),some (len,e,z)=>decide (0<=n)&&decide (n<len)&&vb P e cs (n.toNat*z)
  | _,_,_=>false
 | .binOp op _ x y _=>match dC g fr x,dC g fr y with
  | .v (.string _),_=>false
  | .v (.int _ _),.v (.int _ b)=>match op with
   | .quo=>!(b==0)
   | .rem=>!(b==0)
   | .shl=>decide (0<=b)
   | .shr=>decide (0<=b)
   | _=>true
  | _,_=>true
 | .indexAddr t x i=>match dC g fr i,ja P t,t7 P t,Aj P (dC g fr x) with
  | .v (.int _ n),none,some (len,_,_),_=>decide (0<=n)&&decide (n<len)
  | .v (.int _ n),some _,_,.own _ _ len=>decide (0<=n)&&decide (n<len)
  | .v (.int _ n),some _,_,.sl len _=>decide (0<=n)&&decide (n<len)
  | _,_,_,_=>false
 | .call c=>match c.callee with
  | .builtin b=>match b with
   | .len=>true
   | .min=>true
   | .max=>true
   | _=>false
  | _=>false
 | _=>false
theorem sX {t:TypeId} {cs:List SV} {off:Nat} {rds:List Nm} {s:Prop} {e:dx} (h:kx P t cs off rds nx = .ok s e) (hb:vb P t cs off=true):s:=by
 unfold kx at h;unfold vb at hb;split at h
 ·rename_i n h1 h2;cases h;rw [h1,h2] at hb;exact cX hb
 ·rename_i h1;cases h;rw [h1] at hb;exact cX hb
 ·cases h
theorem gc {x:SV} {s:Prop} {e:dx} (h:eE x nx = .ok s e):s:=by cases h;trivial
theorem Au {op:BinOp} {t:TypeId} {r:Bool} {rds:List Nm} {s:Prop} {e:dx} (h:pj P op t r rds nx = .ok s e):s:=by
 unfold pj at h;split at h
 ·cases hq:n4 op<;>rw [hq] at h
  ·cases h
  ·cases h;trivial
 ·cases h
set_option maxHeartbeats 4000000 in
theorem Bh {g:Bool} {ty:TypeId} {o:Op} {s:Prop} {e:dx} (h:kK P g fr hp nx ty o = .ok s e) (hb:CK P g fr hp o=true):s:=by
 cases o<;>simp only [kK] at h<;>simp only [CK] at hb<;>try contradiction
 case move x=>exact gc h
 case assign x=>exact gc h
 case pick c x y =>
  split at h
  ·unfold yS at h;split at h
   ·exact gc h
   ·rename_i k p k' q _ _;cases hk:(k==k')<;>rw [hk] at h<;>exact gc h
   ·exact gc h
  ·cases h
 case alloc t =>
  unfold wh at h;split at h
  ·cases h;trivial
  ·cases h
 case box t x=>cases h;exact hb
 case build t ps =>
  unfold wm at h;repeat' split at h
  all_goals first|(cases h;trivial)|cases h
 case buildSlice t n ps =>
  unfold ph at h;split at h
  ·split at h
   ·rw [ff] at h;split at h
    ·split at h
     ·cases h;trivial
     ·cases h
    ·cases h
   ·cases h
  ·cases h
 case load t a =>
  unfold oa at h;split at h
  ·rename_i k off ha;rw [ha] at hb;obtain ⟨t',cs,hk,hh⟩:=gz h;simp only [hk] at hb;exact sX hh hb
  ·rename_i cs off ha;rw [ha] at hb;exact sX h hb
  ·cases h
 case store t a x =>
  unfold oz at h;split at h
  ·rename_i k off ha;rw [ha] at hb;obtain ⟨t',cs,hk,hh⟩:=gz h;simp only [hk,cT] at hb;cases hh;refine ⟨?_,hb.2.1,cX hb.2.2⟩;cases hs:jI P t with
   | none=>rw [hs] at hb;simp at hb
   | some n=>rw [hs] at hb;simp at hb;rw [hb.1]
  ·cases h
 case nilCheck x =>
  split at h
  ·exact gc h
  ·exact gc h
  ·exact gc h
  ·rw [ff] at h;split at h
   ·exact gc h
   ·cases h
  ·cases h
 case binOp op t x y ty =>
  unfold qh at h;split at h
  ·rename_i k a k' b ha hb';rw [ha,hb'] at hb;simp only at hb;cases hsh:un op with
   | true =>
    rw [hsh] at h;simp only [cd] at h;cases op<;>simp only [un,fy] at hsh<;>simp only [wI] at h<;>cases h<;>simpa using hb
   | false =>
    rw [hsh] at h;simp only [cj] at h;cases hk:(k==k') with
    | false=>rw [hk] at h;cases h
    | true =>
     rw [hk] at h;simp only [cd] at h;cases op<;>simp only [Af] at h<;>first|exact gc h|(cases h;simpa using hb)|cases h
  ·rename_i a b ha hb';rw [ha] at hb;simp at hb
  ·split at h
   ·cases hq:n4 op<;>rw [hq] at h
    ·cases h
    ·exact gc h
   ·cases h
  ·split at h
   ·cases hq:(n4 op && !P.eqGuardType P.depth t)<;>rw [hq] at h
    ·cases h
    ·simp only [cd] at h;unfold wH at h;split at h
     ·rename_i l n r _ _ _;cases hc:((n==l.length&&_)&&_) with
      | true=>rw [hc] at h;exact gc h
      | false=>rw [hc] at h;cases h
     ·cases h
   ·cases h
  ·exact Au h
  ·exact Au h
  ·exact Au h
  ·cases h
 case unOp op t x =>
  unfold G9 at h;split at h<;>first|exact gc h|cases h
 case convert a b x =>
  unfold tH at h;split at h
  ·split at h
   ·exact gc h
   ·cases h
  ·rename_i hx;rw [hx] at hb;simp only at hb;split at h
   ·exact gc h
   ·rename_i h2;rw [h2] at hb;cases hb
   ·cases h
  ·rename_i h1 h2;split at hb
   ·rename_i hx;exact absurd hx (h1 _ _)
   ·rename_i hx;exact absurd hx (h2 _)
   ·cases hb
 case makeFunc fn first caps =>
  split at h
  ·cases hc:(first.size==0)<;>rw [hc] at h
   ·cases h
   ·exact gc h
  ·split at h
   ·rw [ff] at h;split at h
    ·exact gc h
    ·cases h
   ·cases h
  ·cases h
 case makeMap t r =>
  split at h
  ·cases h;trivial
  ·cases h
 case fieldAddr t x f =>
  unfold ky at h;split at h
  ·split at h
   ·cases h;trivial
   ·cases h;trivial
   ·cases h
  ·cases h
 case field t x f =>
  unfold wl at h;split at h
  ·rename_i o ft n cs h1 h2;rw [h1,h2] at hb;exact sX h hb
  ·cases h
 case index t x i =>
  unfold uj at h;split at h
  ·rename_i cs kd n h1 h2;rw [h1,h2] at hb;split at h
   ·rename_i len e' z hz;rw [hz] at hb;simp only [cT,iU] at hb;split at h
    ·rename_i s' r hp';cases h;exact ⟨hb.1,sX hp' hb.2⟩
    ·cases h
   ·cases h
  ·rename_i s kd n h1 h2;rw [h1,h2] at hb;cases hb
  ·cases h
 case indexAddr t x i =>
  unfold ll at h;split at h
  ·rename_i k n hi;rw [hi] at hb;split at h
   ·rename_i e z hs;rw [hs] at hb;split at h
    ·rename_i k' off len hx;rw [hx] at hb;obtain ⟨_,hh⟩:=nt h;cases hh;simpa using hb
    ·rename_i len cs hx;rw [hx] at hb;cases h;simpa using hb
    ·cases h
   ·rename_i hs;rw [hs] at hb;split at h
    ·rename_i len e z ha;rw [ha] at hb;simp only [cT,iU] at hb;split at h
     ·cases h;exact hb
     ·cases h;exact hb
     ·cases h
    ·cases h
  ·cases h
 case makeInterface t x =>
  unfold qO at h;split at h
  ·cases h
  ·exact gc h
  ·cases h
 case typeAssert x t a ok =>
  unfold sH at h;split at h
  ·cases h
  ·split at h
   ·rw [ff] at h;split at h
    ·exact gc h
    ·rw [ff] at h;split at h
     ·split at h
      ·exact gc h
      ·cases h
     ·cases h
   ·rw [ff] at h;split at h
    ·split at h
     ·exact gc h
     ·cases h
    ·cases h
   ·cases h
  ·cases h
 case slice t x lo hi mx =>
  split at hb
  ·rename_i hx;simp only [Option.map_none] at h;unfold qd at h;rw [hx] at h;simp only at h;split at h
   ·rw [ff] at h;split at h
    ·have:=(nt h).2;cases this;trivial
    ·cases h
   ·cases h
  ·cases hb
 case extract x i =>
  unfold sQ at h;split at h
  ·split at h
   ·exact gc h
   ·cases h
  ·cases h
 case call c =>
  split at h
  ·rename_i b hc;rw [hc] at hb;split at h
   ·unfold uU at h;repeat' split at h
    all_goals first|exact gc h|(cases h;done)|(cases h;trivial)|(obtain ⟨_,_,_,hh⟩:=gz h;cases hh;trivial)
   ·simp at hb
   ·simp at hb
   ·unfold p5 at h;repeat' split at h
    all_goals first|exact gc h|cases h
   ·unfold p5 at h;repeat' split at h
    all_goals first|exact gc h|cases h
   ·cases h
  ·cases h
end
section
open Go.RowKit
def Hx (P:Program) (f:FuncId) (args:List SV) (dst:Option Tmp) (ops:Array Oper) (rest:List Oper) (fr:Fr) (hp:Hp) (nx:Nat) (K:Fr->Hp->Nat->Prop):Prop :=
 BS false P f args hp nx λval upd nx' _=>lO P ops rest (gh dst val fr) (upd++hp) nx' K
theorem co {P m K fr hp nx} (h:K fr hp nx):Wk P m K fr hp nx:=.inl (.inl h)
theorem nw {P m K fr hp nx} (fr':Fr) (hp':Hp) (nx':Nat) (hle:pd P m fr hp fr' hp' nx') (h:K fr' hp' nx'):Wk P m K fr hp nx:=.inl (.inr ⟨fr',hp',nx',hle,h⟩)
def ES (P:Program) (ops:Array Oper) (acc:List fU) (K:Fr->Hp->Nat->Prop) (fr:Fr) (hp:Hp) (nx:Nat):Prop:=yf (P.follows .mixedOrders=true/\m3 ops acc (w3 ops.toList)=true) (K fr hp nx)
def yx (P:Program) (ops:Array Oper) (l:List Oper) (fr:Fr) (hp:Hp) (nx:Nat) (acc:List fU) (K:Fr->Hp->Nat->Prop):Prop:=u7 P ops l fr hp nx acc λns fr' hp' nx'=>ES P ops ns K fr' hp' nx'
def Jv (P:Program) (f:FuncId) (args:List SV) (dst:Option Tmp) (ops:Array Oper) (rest:List Oper) (fr:Fr) (hp:Hp) (nx:Nat) (acc:List fU) (K:Fr->Hp->Nat->Prop):Prop :=
 BS true P f args hp nx λval upd nx' rds=>yx P ops rest (gh dst val fr) (upd++hp) (nx'+1) (acc++[⟨upd.map (·.1.key),rds,nx,nx'⟩]) K
end
section
theorem ET {P:Program} {C:Nm->cp} {σ:Nm->Option Nm} {frz:Nm->Prop}:vX P C (bX []) σ frz :=
 ⟨λ_=>trivial,(λk1 k2 k h=>by cases h),(λk _ k2 h=>by cases h)⟩
end
end Go.Sx
end
