/-
 Lemmas, put together: TxN, TxO, TxP, TxQ, TxR, TxS, TxT, TxU, TxV, TxW, TxX, TxY.
 No conditions.
-/
import Derived.Test.YthcdpjkgdcpkmaaGreatDoorwkA1
import Derived.Orders
import Derived.Scope
import Derived.StillTail
set_option linter.unusedSimpArgs false
set_option linter.unusedVariables false
set_option linter.unusedSectionVars false
section
namespace Go.Sx
section
open Go.RowKit
variable {X:Cx} {hp:Hp} {nx:Nat} {ids:dD} {w:World}
def wy (op:BinOp) (k:IntKind) (a b:Int) (nx:Nat):eV :=
 match op with
 | .shl=>.ok (0<=b) ⟨.v (.int k (k.wrap (a*2^(min b.toNat k.bits)))),[],nx,[]⟩
 | .shr=>.ok (0<=b) ⟨.v (.int k (a.fdiv (2^(min b.toNat k.bits)))),[],nx,[]⟩
 | _=>.bad
def ug:BinOp->Bool
 | .shl=>true
 | .shr=>true
 | _=>false
def nU:BinOp->Bool
 | .eql=>true
 | .neq=>true
 | _=>false
def BM:BinOp->Bool
 | .neq=>true
 | _=>false
def o8 (P:Program) (op:BinOp) (t:TypeId) (r:Bool) (rds:List Nm) (nx:Nat):eV :=
 match P.underlying t with
 | some (.pointer _)=>bif nU op then .ok True ⟨.v (.bool (bif BM op then !r else r)),[],nx,rds⟩ else .bad
 | _=>.bad
def qd (P:Program) (op:BinOp) (t:TypeId) (x y:SV) (hp:Hp) (nx:Nat):eV :=
 match x,y with
 | .v (.int k a),.v (.int k' b)=>bif ug op then wy op k a b nx else bif k==k' then z_ op k a b nx else .bad
 | .v (.string a),.v (.string b)=>Ck op a b nx
 | .v (.bool a),.v (.bool b)=>match P.underlying t with
  | some .bool=>bif nU op then ew (.v (.bool (bif BM op then a != b else a==b))) nx else .bad
  | _=>.bad
 | .agg xs,.agg ys=>match tS P t with
  | some true=>bif nU op && !P.eqGuardType P.depth t then wx P (BM op) t xs ys nx else .bad
  | _=>.bad
 | .ptr _ _,.v (.pointer none)=>o8 P op t false [] nx
 | .iptr _ _,.v (.pointer none)=>o8 P op t false [] nx
 | .v (.pointer none),.v (.pointer none)=>o8 P op t true [] nx
 | _,_=>.bad
theorem D7 (h:dS X hp nx ids w) {op:BinOp} {k k':IntKind} {a b:Int} {side:Prop} {e:dw} (he:wy op k a b nx = .ok side e) (hs:side) (t:TypeId):fR X hp ids w ((binOp op t (.int k a) (.int k' b)).run X.P w) e:=by
 have hsh:0<=b->(Op.shift .shl k a k' b).run X.P w = .ok (.int k (k.wrap (a*2^(min b.toNat k.bits)))) w/\(Op.shift .shr k a k' b).run X.P w = .ok (.int k (a.fdiv (2^(min b.toNat k.bits)))) w:=λhb=>by
  have:¬ b<0:=by omega
  simp [Op.shift,this]
 cases op<;>simp only [wy] at he<;>cases he<;>refine cV h ?_ .v
 ·simpa [binOp] using (hsh hs).1
 ·simpa [binOp] using (hsh hs).2
theorem k9 {op:BinOp} {t:TypeId} {x y:Operand} {a b:Value} (h:∀ xs ys,¬ (a = .agg xs/\b = .agg ys)) (h2:¬ (a = .nilIface/\b = .nilIface)) (P:Program) (w:World):(eqGuard op t x y a b).run P w = .ok () w:=by
 unfold eqGuard;cases op<;>cases a<;>cases b<;>first|rfl|exact absurd ⟨rfl,rfl⟩ (h _ _)|exact absurd ⟨rfl,rfl⟩ h2
theorem wz {P:Program} {op:BinOp} {t e:TypeId} (hu:P.underlying t=some (.pointer e)) (a:Option Addr) (ho:nU op=true) (w:World) :
  (binOp op t (.pointer a) (.pointer none)).run P w = .ok (.bool (bif BM op then !a.isNone else a.isNone)) w:=by
 have h0:∀ D,(Op.equalIn (D+1) t (.pointer a) (.pointer none)).run P w = .ok a.isNone w:=λD=>by
  cases a<;>simp [Op.equalIn,dF hu]
 have h:(Op.equal t (.pointer a) (.pointer none)).run P w = .ok a.isNone w:=h0 9999;cases op<;>simp [nU] at ho
 ·simp only [binOp,c_,h];cases a<;>rfl
 ·simp only [binOp,c_,h];cases a<;>rfl
theorem D8 (h:dS X hp nx ids w) {op:BinOp} {t:TypeId} {s q:SV} {x y:Value} (hd:cU X hp ids w s x) (hq:cU X hp ids w q y) {side:Prop} {e:dw} (he:qd X.P op t s q hp nx = .ok side e) (hs:side) (ox oy:Operand) :
  fR X hp ids w ((do eqGuard op t ox oy x y;binOp op t x y:Sem Value).run X.P w) e:=by
 unfold qd at he;split at he
 ·rename_i k a k' b;obtain rfl:=d9 hd;obtain rfl:=d9 hq;rw [c_,k9 (by simp) (by simp),du];cases hsh:ug op with
  | true=>rw [hsh] at he;exact D7 h he hs t
  | false =>
   rw [hsh] at he;cases hk:(k==k') with
   | false=>simp only [hk,cj] at he;cases he
   | true =>
    simp only [hk,cj,cd] at he;have:k=k':=by simpa using hk
    subst this;exact GN h he hs t
 ·rename_i a b;obtain rfl:=d9 hd;obtain rfl:=d9 hq;rw [c_,k9 (by simp) (by simp),du];exact GY h he hs t
 ·rename_i a b;obtain rfl:=d9 hd;obtain rfl:=d9 hq;rw [c_,k9 (by simp) (by simp),du];split at he
  ·rename_i hu;cases ho:nU op with
   | false=>rw [ho] at he;cases he
   | true =>
    rw [ho] at he;cases he;have hr:(Op.equal t (.bool a) (.bool b)).run X.P w = .ok (a==b) w:=run_equalIn_bool' w 9999 t a b hu;refine cV h ?_ .v;cases op<;>simp [nU] at ho
    ·simp only [binOp,c_,hr];rfl
    ·simp only [binOp,c_,hr];rfl
  ·cases he
 ·rename_i xs ys;split at he
  ·rename_i hagg;cases ho:(nU op && !X.P.eqGuardType X.P.depth t) with
   | false=>rw [ho] at he;cases he
   | true =>
    rw [ho] at he;simp only [cT,kg] at ho;obtain ⟨A,rfl,_,_⟩:=mS hd;obtain ⟨B,rfl,_,_⟩:=mS hq;rw [c_,run_eqGuard_agg w op t ox oy A B ho.2,du];have:=D0 h hd hq he hagg;cases op<;>simp [nU] at ho<;>exact this
  ·cases he
 ·rename_i k off;obtain rfl:=d9 hq;obtain ⟨b,o,rfl⟩:∃ b o,x = .pointer (some ⟨b,o,none⟩):=by
   rcases uH hd with ⟨_,b,o,rfl⟩|⟨_,b,o,_,rfl⟩<;>exact ⟨_,_,rfl⟩
  rw [c_,k9 (by simp) (by simp),du];unfold o8 at he;split at he
  ·rename_i e' hu;cases ho:nU op with
   | false=>rw [ho] at he;cases he
   | true=>rw [ho] at he;cases he;exact cV h (wz hu _ ho w) .v
  ·cases he
 ·rename_i cs off;obtain rfl:=d9 hq;obtain ⟨b,o,c,_,rfl,_,_⟩:=qJ hd;rw [c_,k9 (by simp) (by simp),du];unfold o8 at he;split at he
  ·rename_i e' hu;cases ho:nU op with
   | false=>rw [ho] at he;cases he
   | true=>rw [ho] at he;cases he;exact cV h (wz hu _ ho w) .v
  ·cases he
 ·obtain rfl:=d9 hd;obtain rfl:=d9 hq;rw [c_,k9 (by simp) (by simp),du];unfold o8 at he;split at he
  ·rename_i e' hu;cases ho:nU op with
   | false=>rw [ho] at he;cases he
   | true=>rw [ho] at he;cases he;exact cV h (wz hu _ ho w) .v
  ·cases he
 ·cases he
def sB (mx:Bool):Int->IntKind->List SV->Option Int
 | a,_,[]=>some a
 | a,k,.v (.int k' b)::r=>bif k==k' then sB mx (bif mx then max a b else min a b) k r else none
 | _,_,_=>none
def pV (mx:Bool) (l:List SV) (nx:Nat):eV :=
 match l with
 | .v (.int k a)::r=>match sB mx a k r with
  | some b=>ew (.v (.int k b)) nx
  | none=>.bad
 | _=>.bad
theorem zb {P:Program} {C:Nm->cp} {I:Nat->Prop} (mx:Bool) {k:IntKind}:∀ (l:List SV) (vs:List Value) (a b:Int),sB mx a k l=some b->l.length=vs.length->(∀ i x,l[i]? = some x->dT P C ids I w x (vs.getD i undef)) ->
  (vs.foldlM (if mx then Builtin.max2 else Builtin.min2) (.int k a)).run P w = .ok (.int k b) w
 | [],[],a,b,h,_,_=>by cases h;rfl
 | [],_::_,_,_,_,h,_=>by simp at h
 | _::_,[],_,_,_,h,_=>by simp at h
 | s::l,v::vs,a,b,h,hl,hd=>by
  cases s<;>try (simp [sB] at h;done)
  rename_i y
  cases y<;>try (simp [sB] at h;done)
  rename_i k' c
  have hv:=d9 (hd 0 _ rfl)
  simp only [List.getD_cons_zero] at hv
  subst hv
  simp only [sB] at h
  cases hk:(k==k') with
  | false=>rw [hk] at h;cases h
  | true =>
   rw [hk] at h
   have ih:=zb mx l vs _ b h (by simpa using hl) (λi x hi=>by have:=hd (i+1) x (by simpa using hi);simpa using this)
   rw [List.foldlM_cons,c_]
   cases mx with
   | true =>
    have:(Builtin.max2 (.int k a) (.int k' c)).run P w = .ok (.int k (max a c)) w:=by
     simp only [Builtin.max2,eH];congr 2;by_cases hh:c > a
     ·rw [if_pos hh];omega
     ·rw [if_neg hh];omega
    simp only [if_true,this,du];simpa using ih
   | false =>
    have:(Builtin.min2 (.int k a) (.int k' c)).run P w = .ok (.int k (min a c)) w:=by
     simp only [Builtin.min2,eH];congr 2;by_cases hh:c<a
     ·rw [if_pos hh];omega
     ·rw [if_neg hh];omega
    simp only [fy,lH,this,du];simpa using ih
theorem wA (h:dS X hp nx ids w) {mx:Bool} {l:List SV} {vs:Array Value} (hl:l.length=vs.size) (hd:∀ i x,l[i]? = some x->cU X hp ids w x (vs.getD i undef)) {side:Prop} {e:dw} (he:pV mx l nx = .ok side e) (ats:Array TypeId) (ty:TypeId) :
  fR X hp ids w ((if mx then Builtin.max_ ats ty vs else Builtin.min_ ats ty vs).run X.P w) e:=by
 obtain ⟨vs⟩:=vs;unfold pV at he;split at he
 ·rename_i k a r;split at he
  ·rename_i b hb;cases he;cases vs with
   | nil=>simp at hl
   | cons v vs =>
    have hv:=d9 (hd 0 _ rfl);have hv':v = .int k a:=by simpa using hv
    subst hv';have:=zb (P:=X.P) (C:=bW hp) (I:=Im X.w0 X.I0 X.W0 (bW hp) ids w) mx r vs a b hb (by simpa using hl) (λi x hi=>by
     have:=hd (i+1) x (by simpa using hi);simpa [cQ,dA] using this)
    refine cV h ?_ .v;cases mx with
    | true=>simpa [Builtin.max_] using this
    | false=>simpa [Builtin.min_] using this
  ·cases he
 ·cases he
def GZ (d:TypeDesc) (pr:Bool):Bool:=match d with
 | .pointer _=>pr
 | _=>!pr
def FH (P:Program) (t:TypeId) (name:String):Bool:=match (P.info? t).bind (λi=>i.methods.find? (·.name==name)),P.underlying t with
 | some m,some d=>m.path.isEmpty&&(match m.func with
  | some q=>GZ d q.2
  | none=>false)
 | _,_=>false
theorem Ip (P:Program):∃ n,P.types.size+Made.depth=n+1:=by
 have:0<Made.depth:=by decide
 exact ⟨P.types.size+Made.depth-1,by omega⟩
theorem Cl {P:Program} {t:TypeId} {name:String} (h:FH P t name=true) (v:Value) (n:Nat) (w:World):(nilAhead (n+1) t v name).run P w = .ok (some false) w:=by
 unfold FH at h;split at h
 ·rename_i m d hm hu;obtain ⟨i,hi,hm⟩:=Option.bind_eq_some_iff.1 hm;simp only [cT] at h;obtain ⟨h1,h2⟩:=h;have hp:m.path = #[]:=by simpa using h1
  split at h2
  ·rename_i q hq;obtain ⟨f,pr⟩:=q;have ht:(typeInfo t).run P w = .ok i w:=by simp [typeInfo,hi]
   unfold nilAhead;simp only [c_,ht,du,hm,hp,followBlind,eH];cases pr with
   | true=>simp only [hq];rfl
   | false =>
    simp only [hq,c_,dF hu,du];cases d<;>first|rfl|(simp [GZ] at h2)
  ·cases h2
 ·cases h
def kH (P:Program) (g:Bool) (fr:Fr) (hp:Hp) (nx:Nat) (ty:TypeId) (o:Op):eV :=
 match o with
 | .move x=>ew (dB g fr x) nx
 | .assign x=>ew (dB g fr x) nx
 | .pick c a b=>match dB g fr c with
  | .v (.bool t)=>yJ g t (vW fr a) (vW fr b) nx
  | _=>.bad
 | .alloc e=>v6 P e nx
 | .box e x=>LD e (dB g fr x) nx
 | .build t parts=>v_ P t (parts.toList.map λp=>(p.1,dB g fr p.2)) nx
 | .buildSlice t len parts=>o7 P t len (parts.toList.map λp=>(p.1,dB g fr p.2)) nx
 | .load t a=>nZ P t (Ad P (dB g fr a)) hp nx
 | .store t a x=>oj P t (dB g fr a) (dB g fr x) hp nx
 | .nilCheck x=>match dB g fr x with
  | .ptr k off=>ew (.ptr k off) nx
  | .iptr cs off=>ew (.iptr cs off) nx
  | .clo f caps=>ew (.clo f caps) nx
  | .mth name (.ifc t y)=>bif FH P t name then ew (.mth name (.ifc t y)) nx else .bad
  | _=>.bad
 | .binOp op t x y _=>qd P op t (dB g fr x) (dB g fr y) hp nx
 | .unOp op _ x=>GR op (dB g fr x) nx
 | .convert s d x=>tz P s d (dB g fr x) hp nx
 | .makeFunc fn first caps=>match fn with
  | .func f=>bif first.size==0 then ew (.clo f (caps.toList.map (dB g fr))) nx else .bad
  | .method name=>match first.toList with
   | [x]=>bif caps.size==0 then ew (.mth name (dB g fr x)) nx else .bad
   | _=>.bad
  | _=>.bad
 | .makeMap _ r=>match r with
  | none=>B9 nx
  | some _=>.bad
 | .makeSlice t l c=>r8 P t (dB g fr l) (dB g fr c) nx
 | .slice t x lo hi mx=>match mx with
  | none=>p_ P t (dB g fr x) (lo.map (dB g fr)) (hi.map (dB g fr)) hp nx
  | some m=>match lo,hi with
   | none,some hh=>qL P t (dB g fr x) (dB g fr hh) (dB g fr m) nx hp
   | _,_=>.bad
 | .fieldAddr t x f=>kw P t (dB g fr x) f hp nx
 | .field t x f=>v8 P t (dB g fr x) f nx
 | .indexAddr t x i=>li P t (Ad P (dB g fr x)) (dB g fr i) hp nx
 | .index t x i=>uc P t (dB g fr x) (dB g fr i) nx
 | .lookup t x i ok=>jW P t (dB g fr x) (dB g fr i) ok hp nx
 | .mapUpdate t m k x=>mU P t (dB g fr m) (dB g fr k) (dB g fr x) hp nx
 | .insert t m k x=>mU P t (dB g fr m) (dB g fr k) (dB g fr x) hp nx
 | .mapEntry t m k=>jp P t (dB g fr m) (dB g fr k) hp nx
 | .entryStore _ m s x=>jy (dB g fr m) (dB g fr s) (dB g fr x) hp nx
 | .extract x i=>sJ (dB g fr x) i nx
 | .makeInterface t x=>qK P t (dB g fr x) nx
 | .typeAssert x _ a ok=>sA P (dB g fr x) a ok nx
 | .range t x=>yZ P t (dB g fr x) nx
 | .next x str=>y_ (dB g fr x) str hp nx
 | .call c=>match c.callee with
  | .builtin b=>match b,c.args.toList,c.argTypes.toList with
   | .len,[x],[t]=>uL P t (dB g fr x) hp nx
   | .append,[x,y],[t,tx]=>match i8 P t with
    | some (e,_)=>bif ya P e then pU P t tx (dB g fr x) (dB g fr y) hp nx else .bad
    | none=>.bad
   | .copy,[x,y],[t,tx]=>tv P t tx (dB g fr x) (dB g fr y) hp nx
   | .min,l,_=>pV false (l.map (dB g fr)) nx
   | .max,l,_=>pV true (l.map (dB g fr)) nx
   | _,_,_=>.bad
  | _=>.bad
 | _=>.bad
def zc (X:Cx) (hp:Hp) (ids:dD) (w:World) (r:Result Next) (e:dw):Prop :=
∃x w' ids',(r = .ok (.value x) w'\/(r = .ok .skip w'/\x=undef))/\HeapC X (e.upd++hp) ids' w'/\fm X hp ids w (e.upd++hp) ids' w'/\cU X (e.upd++hp) ids' w' e.val x
theorem dI {m:Sem Value} {e:dw} (h:fR X hp ids w (m.run X.P w) e):zc X hp ids w ((do pure (.value (←m)):Sem Next).run X.P w) e:=by
 obtain ⟨x,w',ids',h1,h2,h3,h4⟩:=h;exact ⟨x,w',ids',.inl (by simp [c_,h1]),h2,h3,h4⟩
theorem q9 {m:Sem Unit} {e:dw} (h:vX X hp ids w (m.run X.P w) e) (hv:e.val = .any):zc X hp ids w ((do m;pure .skip:Sem Next).run X.P w) e:=by
 obtain ⟨w',ids',h1,h2,h3⟩:=h;exact ⟨undef,w',ids',.inr ⟨by simp [c_,h1],rfl⟩,h2,h3,by rw [hv];exact .any⟩
theorem EI {fr:Fr} {a:Act} (hf:∀ d,cU X hp ids w (cL fr d) (a.tmps.getD d undef)) (o:Operand):cU X hp ids w (vW fr o) (a.eval o):=by
 cases o with
 | tmp t=>exact hf t
 | const v=>exact .v
 | global n=>exact .v
 | func f=>exact .v
theorem rD {fr:Fr} {a:Act} (hf:∀ d,cU X hp ids w (cL fr d) (a.tmps.getD d undef)) {g:Bool} (hg:g=true) (o:Operand):cU X hp ids w (dB g fr o) (a.eval o):=by
 cases o with
 | tmp t=>exact Ab hg (hf t)
 | const v=>exact .v
 | global n=>exact .v
 | func f=>exact .v
theorem FI {P:Program} {t:TypeId} {s v:SV} {side:Prop} {e:dw} (he:oj P t s v hp nx = .ok side e):e.val = .any:=by
 unfold oj at he;split at he
 ·obtain ⟨_,_,_,hf⟩:=gB he;cases hf;rfl
 ·cases he
theorem xP {P:Program} {t:TypeId} {s q v:SV} {side:Prop} {e:dw} (he:mU P t s q v hp nx = .ok side e):e.val = .any:=by
 unfold mU at he;split at he
 ·obtain ⟨_,_,hf⟩:=ip he;cases hf;rfl
 ·split at he
  ·obtain ⟨_,_,hf⟩:=ip he;cases hf;rfl
  ·cases he
 ·cases he
theorem zd {s q v:SV} {side:Prop} {e:dw} (he:jy s q v hp nx = .ok side e):e.val = .any:=by
 unfold jy at he;split at he
 ·obtain ⟨_,_,hf⟩:=ip he;cases hf;rfl
 ·cases he
theorem uO (h:dS X hp nx ids w) {fr:Fr} {a:Act} (hf:∀ d,cU X hp ids w (cL fr d) (a.tmps.getD d undef)) {g:Bool} (hg:g=true) {o:Oper} {side:Prop} {e:dw} (he:kH X.P g fr hp nx o.type o.op = .ok side e) (hs:side) :
  zc X hp ids w ((execOp a.eval o).run X.P w) e:=by
 have ev:=λo=>rD hf hg o;have ev1:=λo=>rD hf (g:=true) rfl o;unfold execOp;cases ho:o.op<;>rw [ho] at he<;>simp only [kH] at he;case move x =>
  cases he;exact ⟨_,w,ids,.inl rfl,h.toHeapC,km.refl _ _ _ _,ev x⟩
 case assign x =>
  cases he;exact ⟨_,w,ids,.inl rfl,h.toHeapC,km.refl _ _ _ _,ev x⟩
 case pick c x y =>
  split at he
  ·rename_i t hc;have hcv:=ev c;rw [hc] at hcv;have:=Fw h hg (EI hf x) (EI hf y) he;obtain ⟨v,w',ids',h1,h2,h3,h4⟩:=this;refine ⟨v,w',ids',.inl ?_,h2,h3,h4⟩;simp only [d9 hcv,asBool,c_,eH,du];cases t<;>simpa using h1
  ·cases he
 case alloc t=>exact dI (DO h he _)
 case box t x=>exact dI (GL h (ev x) he hs)
 case build t parts =>
  refine dI (DU h (by simp) (λi p q hp hq=>?_) he);rw [f5] at hp;simp only [Array.toList_map,f5] at hq;cases hi:parts.toList[i]? with
  | none=>rw [hi] at hp;cases hp
  | some r=>rw [hi] at hp hq;cases hp;cases hq;exact ⟨rfl,ev _⟩
 case buildSlice t len parts =>
  refine dI (x_ h (by simp) (λi p q hp hq=>?_) he);rw [f5] at hp;simp only [Array.toList_map,f5] at hq;cases hi:parts.toList[i]? with
  | none=>rw [hi] at hp;cases hp
  | some r=>rw [hi] at hp hq;cases hp;cases hq;exact ⟨rfl,ev _⟩
 case load t x=>exact dI (Fv h (EE h.toHeapC (ev x)) he hs)
 case store t x y=>exact q9 (DN h (ev x) (ev y) he hs) (FI he)
 case nilCheck x =>
  split at he
  ·rename_i k off hx;cases he;have hd:=ev x;rw [hx] at hd;obtain ⟨b,o',hv⟩:∃ b o,a.eval x = .pointer (some ⟨b,o,none⟩):=by
    rcases uH hd with ⟨_,b,o,h⟩|⟨_,b,o,_,h⟩<;>exact ⟨_,_,h⟩
   exact ⟨_,w,ids,.inl (by simp only [hv];rfl),h.toHeapC,km.refl _ _ _ _,by rw [hv] at hd;exact hd⟩
  ·rename_i cs off hx;cases he;have hd:=ev x;rw [hx] at hd;obtain ⟨b,o',c,_,hv,_,_⟩:=qJ hd;exact ⟨_,w,ids,.inl (by simp only [hv];rfl),h.toHeapC,km.refl _ _ _ _,by rw [hv] at hd;exact hd⟩
  ·rename_i f caps hx;cases he;have hd:=ev x;rw [hx] at hd;obtain ⟨arr,hv,_,_⟩:=xc hd;exact ⟨_,w,ids,.inl (by simp only [hv];rfl),h.toHeapC,km.refl _ _ _ _,by rw [hv] at hd;exact hd⟩
  ·rename_i name t y hx;rw [fe] at he;split at he
   ·rename_i hm;cases he;have hd:=ev x;rw [hx] at hd;obtain ⟨z,hv,hz⟩:=EB hd;obtain ⟨u,rfl,hu⟩:=Aa hz;refine ⟨_,w,ids,.inl ?_,h.toHeapC,km.refl _ _ _ _,by rw [hv] at hd;exact hd⟩;obtain ⟨n,hn⟩:=Ip X.P;have h0:(#[Value.iface t u]:Array Value)[0]? = some (.iface t u):=rfl;simp only [hv,h0,c_,run_program,du,hn,Cl hm];rfl
   ·cases he
  ·cases he
 case binOp op t x y yt=>exact dI (D8 h (ev x) (ev y) he hs x y)
 case unOp op t x=>exact dI (Il h (ev x) he)
 case convert s d x=>exact dI (FB h (ev x) he hs)
 case makeFunc fn first caps =>
  split at he
  ·rename_i f;cases hz:(first.size==0) with
   | false=>rw [hz] at he;cases he
   | true =>
    rw [hz] at he;cases he;have:first = #[]:=by simpa using hz
    subst this;refine dI (cV h (x:=.func (.func f) #[] (caps.map a.eval)) (by simp [Instr.makeFunc]) (.clo (caps.map a.eval) (by simp) λi x hi=>?_));rw [f5] at hi;cases hci:caps.toList[i]? with
    | none=>rw [hci] at hi;cases hi
    | some q =>
     rw [hci] at hi;cases hi;have:caps[i]? = some q:=by simpa using hci
     rw [cQ,qE,this];exact ev q
  ·rename_i name;split at he
   ·rename_i y hfl;rw [fe] at he;split at he
    ·rename_i hz;cases he;have h1:first = #[y]:=by
      obtain ⟨l⟩:=first
      simp only at hfl;rw [hfl]
     have h2:caps = #[]:=by simpa using hz
     subst h1;subst h2;exact dI (cV h (x:=.func (.method name) #[a.eval y] #[]) (by simp [Instr.makeFunc]) (.mth (ev y)))
    ·cases he
   ·cases he
  ·cases he
 case makeMap t r =>
  split at he
  ·exact dI (Bz h t he)
  ·cases he
 case makeSlice t l c=>exact dI (yW h (ev l) (ev c) he hs)
 case slice t x lo hi mx =>
  split at he
  ·refine dI (DV h (ev x) (λhn=>?_) (λs hs'=>?_) (λhn=>?_) (λs hs'=>?_) he hs)
   ·cases lo with
    | none=>rfl
    | some q=>cases hn
   ·cases lo with
    | none=>cases hs'
    | some q=>cases hs';exact ⟨_,rfl,ev q⟩
   ·cases hi with
    | none=>rfl
    | some q=>cases hn
   ·cases hi with
    | none=>cases hs'
    | some q=>cases hs';exact ⟨_,rfl,ev q⟩
  ·split at he
   ·exact dI (Cj h (ev x) (ev _) (ev _) he hs)
   ·cases he
 case fieldAddr t x f=>exact dI (yM h (ev x) he hs)
 case field t x f=>exact dI (DS h (ev x) he hs)
 case indexAddr t x i=>exact dI (yN h (EE h.toHeapC (ev x)) (ev i) he hs)
 case index t x i=>exact dI (DT h (ev x) (ev i) he hs)
 case lookup t x i ok=>exact dI (Ce h (ev x) (ev i) he hs)
 case mapUpdate t m k x=>exact q9 (wv h (ev m) (ev k) (ev x) he hs) (xP he)
 case insert t m k x=>exact q9 (wv h (ev m) (ev k) (ev x) he hs) (xP he)
 case mapEntry t m k=>exact dI (Ah h (ev m) (ev k) he hs)
 case entryStore t m q x=>exact q9 (yd h (ev m) (ev q) (ev x) he hs) (zd he)
 case makeInterface t x=>exact dI (BA h (ev x) he)
 case typeAssert x t a ok=>exact dI (Ci h (ev x) he)
 case extract x i=>exact dI (Bx h (ev x) he)
 case range t x=>exact dI (DX h (ev x) he)
 case next x str=>exact dI (FC h (ev x) he _)
 case call c =>
  obtain ⟨callee,args,argTypes⟩:=c;split at he
  ·rename_i b hcb;simp only at hcb;subst hcb;simp only [resolve,c_,eH,du,invoke,builtin];obtain ⟨args⟩:=args;obtain ⟨argTypes⟩:=argTypes;split at he
   ·rename_i x t hargs htys;simp only at hargs htys;subst hargs;subst htys;refine dI ?_;simp only [List.map_toArray,gz,kY];exact GQ h (ev x) he hs _
   ·rename_i x y t tx hargs htys;simp only at hargs htys;subst hargs;subst htys;split at he
    ·rename_i e' z hst;cases hz:ya X.P e' with
     | false=>rw [hz] at he;cases he
     | true =>
      rw [hz] at he;refine dI ?_;simp only [List.map_toArray,gz,kY];exact (BY h (ev x) (ev y) he hs (λet z' hh=>by rw [hst] at hh;cases hh;exact hz))
    ·cases he
   ·rename_i x y t tx hargs htys;simp only at hargs htys;subst hargs;subst htys;refine dI ?_;simp only [List.map_toArray,gz,kY];exact Fy h (ev x) (ev y) he hs
   ·have hmm:=wA (mx:=false) h (vs:=(args.toArray).map a.eval) (by simp) (λi x hi=>by
     rw [f5] at hi;cases hai:args[i]? with
     | none=>simp [hai] at hi
     | some q =>
      simp [hai] at hi;subst hi;rw [cQ,qE,pA,hai];exact ev q) he argTypes.toArray o.type
    exact dI (by simpa using hmm)
   ·have hmm:=wA (mx:=true) h (vs:=(args.toArray).map a.eval) (by simp) (λi x hi=>by
     rw [f5] at hi;cases hai:args[i]? with
     | none=>simp [hai] at hi
     | some q =>
      simp [hai] at hi;subst hi;rw [cQ,qE,pA,hai];exact ev q) he argTypes.toArray o.type
    exact dI (by simpa using hmm)
   ·cases he
  ·cases he
 all_goals cases he
end
section
open Go.RowKit
variable {X:Cx} {hp:Hp} {nx:Nat} {ids:dD} {w:World}
mutual
def SV.cl:SV->Bool
 | .any=>true
 | .v _=>true
 | .agg xs=>mK xs
 | .tup xs=>mK xs
 | .sl _ xs=>mK xs
 | .iptr xs _=>mK xs
 | .clo _ xs=>mK xs
 | .ifc _ x=>x.cl
 | .mth _ x=>x.cl
 | .asl _ _ _=>false
 | .bp _ _ _=>false
 | .gd _ x=>x.cl
 | .own _ _ _=>false
 | .ptr _ _=>false
 | .mp _=>false
 | .it _=>false
def mK:List SV->Bool
 | []=>true
 | x::xs=>x.cl&&mK xs
end
theorem lE:∀ {xs:List SV},mK xs=true->∀ (i:Nat) (x:SV),xs[i]? = some x->x.cl=true
 | [],_,i,x,h=>by simp at h
 | y::ys,hc,i,x,h=>by
  simp only [mK,cT] at hc
  cases i with
  | zero=>simp at h;subst h;exact hc.1
  | succ i=>exact lE hc.2 i x (by simpa using h)
theorem G0 {P:Program} {C C':Nm->cp} {ids ids':dD} {I I':Nat->Prop} {w w':World} (hI:∀ b,I b->I' b/\w'.heap[b]? = w.heap[b]?) {s:SV} {x:Value} (h:dT P C ids I w s x):s.cl=true->dT P C' ids' I' w' s x:=by
 induction h with
 | any=>exact λ_=>.any
 | v=>exact λ_=>.v
 | agg arr h _ ih=>exact λhc=>.agg arr h λi x hi=>ih i x hi (lE hc i x hi)
 | tup arr h _ ih=>exact λhc=>.tup arr h λi x hi=>ih i x hi (lE hc i x hi)
 | sl0 hc=>exact λ_=>.sl0 hc
 | sl b o cap c hb hn hcap hc _ ih =>
  obtain ⟨hb',hw⟩:=hI b hb;exact λhcl=>.sl b o cap c hb' hn hcap (λi x hi=>(nP hw).trans (hc i x hi)) λi x hi=>ih i x hi (lE hcl i x hi)
 | iptr b o c hb hc _ ih =>
  obtain ⟨hb',hw⟩:=hI b hb;exact λhcl=>.iptr b o c hb' (λi x hi=>(nP hw).trans (hc i x hi)) λi x hi=>ih i x hi (lE hcl i x hi)
 | clo arr h _ ih=>exact λhc=>.clo arr h λi x hi=>ih i x hi (lE hc i x hi)
 | ifc _ ih=>exact λhc=>.ifc (ih hc)
 | mth _ ih=>exact λhc=>.mth (ih hc)
 | aslDead h=>intro hc;cases hc
 | asl b o hl h=>intro hc;cases hc
 | bpDead b h=>intro hc;cases hc
 | bp b arr hl h hw hn=>intro hc;cases hc
 | gd _ hn ih=>exact λhc=>.gd (λhg=>ih hg hc) hn
 | ownDead h=>intro hc;cases hc
 | own a cap hl h=>intro hc;cases hc
 | ptrDead b q h=>intro hc;cases hc
 | ptr b o hl h=>intro hc;cases hc
 | mpDead h=>intro hc;cases hc
 | mp b hl h=>intro hc;cases hc
 | itDead h=>intro hc;cases hc
 | it b hl h=>intro hc;cases hc
def mq (l:List Nm) (k:Nm):Prop:=∃ j∈l,j.key=k.key
theorem JS (k:Nm):¬ mq [] k:=λ⟨_,h,_⟩=>by cases h
theorem JT {l:List Nm} {k:Nm} (h:mq l k):k.key∈l.map Nm.key:=by
 obtain ⟨j,hj,he⟩:=h;exact fM.2 ⟨j,hj,he⟩
inductive jK (P:Program) (C C':Nm->cp) (σ:Nm->Option Nm) (frz:Nm->Prop):SV->SV->Prop
 | any {s}:jK P C C' σ frz s .any
 | cl {s} (h:s.cl=true):jK P C C' σ frz s s
 | own {k k' off n} (hs:σ k'=some k) (hl:(C' k').live=true):jK P C C' σ frz (.own k off n) (.own k' off n)
 | absent {k'} (hl:(C' k').live=true) (hs:σ k'=none):jK P C C' σ frz (.v (.slice none 0 0)) (.own k' 0 0)
 | ptr {k k' off} (hs:σ k'=some k) (hl:(C' k').live=true):jK P C C' σ frz (.ptr k off) (.ptr k' off)
 | mp {k k'} (hs:σ k'=some k) (hl:(C' k').live=true):jK P C C' σ frz (.mp k) (.mp k')
 | bp {k k' e n} (hs:σ k'=some k) (hl:(C' k').live=true):jK P C C' σ frz (.bp k e n) (.bp k' e n)
 | it {k k'} (hs:σ k'=some k) (hl:(C' k').live=true):jK P C C' σ frz (.it k) (.it k')
 | agg {xs ys:List SV} (h:xs.length=ys.length) (hx:∀ (i:Nat) (x y:SV),xs[i]? = some x->ys[i]? = some y->jK P C C' σ frz x y):jK P C C' σ frz (.agg xs) (.agg ys)
 | tup {xs ys:List SV} (h:xs.length=ys.length) (hx:∀ (i:Nat) (x y:SV),xs[i]? = some x->ys[i]? = some y->jK P C C' σ frz x y):jK P C C' σ frz (.tup xs) (.tup ys)
 | clo {f} {xs ys:List SV} (h:xs.length=ys.length) (hx:∀ (i:Nat) (x y:SV),xs[i]? = some x->ys[i]? = some y->jK P C C' σ frz x y):jK P C C' σ frz (.clo f xs) (.clo f ys)
 | mth {t} {x y:SV} (h:jK P C C' σ frz x y):jK P C C' σ frz (.mth t x) (.mth t y)
 | ifc {t} {x y:SV} (h:jK P C C' σ frz x y):jK P C C' σ frz (.ifc t x) (.ifc t y)
 | frz {k off n e} {cs cs2:List SV} (hk:C k = .row e cs) (hf:frz k) (hl:cs2.length<=cs.length) (hx:∀ (i:Nat) (x y:SV),cs[i]? = some x->cs2[i]? = some y->jK P C C' σ frz x y) (q:Nat) (hq:n=0->q=0):jK P C C' σ frz (.own k off n) (.sl n (da cs2 off q))
 | fptr {k off e} {cs cs2:List SV} (hk:C k = .row e cs) (hf:frz k) (hl:cs2.length<=cs.length) (hx:∀ (i:Nat) (x y:SV),cs[i]? = some x->cs2[i]? = some y->jK P C C' σ frz x y):jK P C C' σ frz (.ptr k off) (.iptr cs2 off)
 | nilsl:jK P C C' σ frz (.v (.slice none 0 0)) (.sl 0 [])
def sM (P:Program) (C C':Nm->cp) (σ:Nm->Option Nm) (frz:Nm->Prop) (k':Nm):cp->Prop
 | .unborn=>True
 | .dead=>True
 | .void=>∀ k,σ k'=some k->C k = .void
 | .row e cs'=>(σ k'=none/\cs'=[])\/∃ k cs,σ k'=some k/\C k = .row e cs/\cs'.length<=cs.length/\∀ (i:Nat) (x y:SV),cs[i]? = some x->cs'[i]? = some y->jK P C C' σ frz x y
 | .map es'=>∃ k es,σ k'=some k/\C k = .map es/\es.length=es'.length/\∀ (i:Nat) (x y:Value×SV),es[i]? = some x->es'[i]? = some y->x.1=y.1/\jK P C C' σ frz x.2 y.2
 | .obj s pos=>∃ k,σ k'=some k/\C k = .obj s pos
 | .fam _=>True
structure vp (P:Program) (C C':Nm->cp) (σ:Nm->Option Nm) (frz:Nm->Prop):Prop where
 ch:∀ k',sM P C C' σ frz k' (C' k')
 inj:∀ k1 k2 k,(C' k1).live=true->(C' k2).live=true->σ k1=some k->σ k2=some k->k1=k2
 frz:∀ k,frz k->∀ k',(C' k').live=true->σ k'≠some k
theorem sM.live {P:Program} {C C':Nm->cp} {σ:Nm->Option Nm} {frz:Nm->Prop} {k k':Nm} (h:sM P C C' σ frz k' (C' k')) (hl:(C' k').live=true) (hs:σ k'=some k):(C k).live=true/\∀ e cs,C k = .row e cs->∃ cs',C' k' = .row e cs':=by
 cases hc:C' k' with
 | unborn=>rw [hc] at hl;cases hl
 | dead=>rw [hc] at hl;cases hl
 | void=>rw [hc] at hl;cases hl
 | row e cs' =>
  rw [hc] at h;rcases h with ⟨h1,_⟩|⟨k2,cs,h1,h2,_⟩
  ·rw [hs] at h1;cases h1
  ·rw [hs] at h1;cases h1;exact ⟨by rw [h2];rfl,λe2 cs2 h3=>by rw [h2] at h3;cases h3;exact ⟨cs',rfl⟩⟩
 | map es' =>
  rw [hc] at h;obtain ⟨k2,es,h1,h2,_⟩:=h;rw [hs] at h1;cases h1;exact ⟨by rw [h2];rfl,λe2 cs2 h3=>by rw [h2] at h3;cases h3⟩
 | obj s pos =>
  rw [hc] at h;obtain ⟨k2,h1,h2⟩:=h;rw [hs] at h1;cases h1;exact ⟨by rw [h2];rfl,λe2 cs2 h3=>by rw [h2] at h3;cases h3⟩
 | fam g=>rw [hc] at hl;cases hl
theorem sM.kind {P:Program} {C C':Nm->cp} {σ:Nm->Option Nm} {frz:Nm->Prop} {k k':Nm} (h:sM P C C' σ frz k' (C' k')) (hl:(C' k').live=true) (hs:σ k'=some k):dY (C k) (C' k'):=by
 cases hc:C' k' with
 | unborn=>rw [hc] at hl;cases hl
 | dead=>rw [hc] at hl;cases hl
 | void=>rw [hc] at hl;cases hl
 | row e cs' =>
  rw [hc] at h;rcases h with ⟨h1,_⟩|⟨k2,cs,h1,h2,h3,_⟩
  ·rw [hs] at h1;cases h1
  ·rw [hs] at h1;cases h1;rw [h2];exact ⟨rfl,h3⟩
 | map es' =>
  rw [hc] at h;obtain ⟨k2,es,h1,h2,_⟩:=h;rw [hs] at h1;cases h1;rw [h2];trivial
 | obj s pos =>
  rw [hc] at h;obtain ⟨k2,h1,h2⟩:=h;rw [hs] at h1;cases h1;rw [h2];trivial
 | fam g=>rw [hc] at hl;cases hl
structure FJ (P:Program) (C C':Nm->cp) (σ:Nm->Option Nm) (frz:Nm->Prop) (ids ids':dD) (I I':Nat->Prop) (w:World):Prop where
 sub:vp P C C' σ frz
 im:∀ b,I b->I' b
 idsEq:∀ k' k,σ k'=some k->(C' k').live=true->ids' k'=ids k
 fz:∀ k,frz k->(C k).live=true->∀ b o,ids k=some (b,o)->I' b
 ch:∀ k e cs,C k = .row e cs->fK P C ids I w k (.row e cs)
theorem ze {P:Program} {C C':Nm->cp} {σ:Nm->Option Nm} {frz:Nm->Prop} {ids ids':dD} {I I':Nat->Prop} {w:World} (hW:FJ P C C' σ frz ids ids' I I' w) {s s':SV} (h:jK P C C' σ frz s s') :
 ∀{x:Value},dT P C ids I w s x->dT P C' ids' I' w s' x:=by
 have hI:∀ b,I b->I' b/\w.heap[b]? = w.heap[b]?:=λb hb=>⟨hW.im b hb,rfl⟩;induction h with
 | any=>exact λ_=>.any
 | cl h=>exact λhd=>G0 hI hd h
 | own hs hl =>
  rename_i k k' off n;intro x hd;obtain ⟨hlk,hrow⟩:=(hW.sub.ch k').live hl hs;obtain ⟨a,cap,rfl,h1,h2,h4,h3⟩:=l_ hd hlk;refine .own a cap hl ⟨h1,h2,λe cs hc=>?_,?_⟩
  ·have h:=hW.sub.ch k';rw [hc] at h;rcases h with ⟨g1,_⟩|⟨k2,cs2,g1,g2,g3,_⟩
   ·rw [hs] at g1;cases g1
   ·rw [hs] at g1;cases g1;exact l0 g3 (h4 _ _ g2)
  rcases h3 with h3|⟨b,o,e,cs,arr,hC,hid,ha,hw,hsz⟩
  ·exact .inl h3
  ·obtain ⟨cs',hc'⟩:=hrow e cs hC;exact .inr ⟨b,o,e,cs',arr,hc',by rw [hW.idsEq k' k hs hl];exact hid,ha,hw,hsz⟩
 | absent hl hs =>
  rename_i k';intro x hd;obtain rfl:=d9 hd;refine .own none 0 hl ⟨cF _,by unfold maxLen;omega,λe cs hc=>?_,.inl ⟨rfl,rfl⟩⟩;have h:=hW.sub.ch k';rw [hc] at h;rcases h with ⟨_,g⟩|⟨k2,cs2,g1,_⟩
  ·subst g;exact io _
  ·rw [hs] at g1;cases g1
 | ptr hs hl =>
  rename_i k k' off;intro x hd;obtain ⟨hlk,_⟩:=(hW.sub.ch k').live hl hs;obtain ⟨b,o,hid,rfl⟩:=pT hd hlk;exact .ptr b o hl (by rw [hW.idsEq k' k hs hl];exact hid)
 | bp hs hl =>
  rename_i k k' e n;intro x hd;obtain ⟨hlk,_⟩:=(hW.sub.ch k').live hl hs;obtain ⟨b,arr,hid,rfl,hw,hn⟩:=LC hd hlk;exact .bp b arr hl (by rw [hW.idsEq k' k hs hl];exact hid) hw hn
 | mp hs hl =>
  rename_i k k';intro x hd;obtain ⟨hlk,_⟩:=(hW.sub.ch k').live hl hs;obtain ⟨b,hid,rfl⟩:=rC hd hlk;exact .mp b hl (by rw [hW.idsEq k' k hs hl];exact hid)
 | it hs hl =>
  rename_i k k';intro x hd;obtain ⟨hlk,_⟩:=(hW.sub.ch k').live hl hs;cases hd with
  | itDead h=>rw [h] at hlk;cases hlk
  | it b hl2 hid=>exact .it b hl (by rw [hW.idsEq k' k hs hl];exact hid)
 | agg h _ ih =>
  intro x hd;obtain ⟨arr,rfl,hl,hx⟩:=mS hd;refine .agg arr (by omega) λi y hi=>?_
  have hlt:=(dy.1 hi).1;exact ih i _ y (dz (by omega)) hi (hx i _ (dz (by omega)))
 | tup h _ ih =>
  intro x hd;obtain ⟨arr,rfl,hl,hx⟩:=EA hd;refine .tup arr (by omega) λi y hi=>?_
  have hlt:=(dy.1 hi).1;exact ih i _ y (dz (by omega)) hi (hx i _ (dz (by omega)))
 | clo h _ ih =>
  intro x hd;obtain ⟨arr,rfl,hl,hx⟩:=xc hd;refine .clo arr (by omega) λi y hi=>?_
  have hlt:=(dy.1 hi).1;exact ih i _ y (dz (by omega)) hi (hx i _ (dz (by omega)))
 | mth h ih =>
  intro x hd;obtain ⟨z,rfl,hz⟩:=EB hd;exact .mth (ih hz)
 | ifc h ih =>
  intro x hd;obtain ⟨z,rfl,hz⟩:=Aa hd;exact .ifc (ih hz)
 | frz hk hf hlc hcs q hq ih =>
  rename_i k off n e cs cs2;intro x hd;have hlk:(C k).live=true:=by rw [hk];rfl
  obtain ⟨a,cap,rfl,h1,h2,_,h3⟩:=l_ hd hlk;rcases h3 with ⟨rfl,rfl⟩|⟨b,o,e',cs',arr,hC,hid,rfl,hw,hsz⟩
  ·rw [hq rfl,show da cs2 off 0=[] from by simp [da]];exact .sl0 h2
  ·rw [hk] at hC;cases hC;have hc':=vZ (hW.ch k e cs hk) hid;obtain ⟨l,hll,hx⟩:=r7 hc';have old:∀ i y,cs2[i]? = some y->∃ x,cs[i]? = some x:=λi y hy=>by
    have:=(dy.1 hy).1;exact ⟨_,dz (show i<cs.length by omega)⟩
   exact .sl b (o+off) cap (λi=>l.getD (off+i) undef) (hW.fz k hf hlk b o hid) h1 h2 (λi y hi=>by
     obtain ⟨_,hi2⟩:=jI hi;obtain ⟨x,hx2⟩:=old _ _ hi2;rw [iQ];exact (hx _ _ hx2).1)
    (λi y hi=>by
     obtain ⟨_,hi2⟩:=jI hi;obtain ⟨x,hx2⟩:=old _ _ hi2;exact ih _ x y hx2 hi2 (hx _ _ hx2).2)
 | fptr hk hf hlc hcs ih =>
  rename_i k off e cs cs2;intro x hd;have hlk:(C k).live=true:=by rw [hk];rfl
  obtain ⟨b,o,hid,rfl⟩:=pT hd hlk;have hc':=vZ (hW.ch k e cs hk) hid;obtain ⟨l,hll,hx⟩:=r7 hc';have old:∀ i y,cs2[i]? = some y->∃ x,cs[i]? = some x:=λi y hy=>by
   have:=(dy.1 hy).1;exact ⟨_,dz (show i<cs.length by omega)⟩
  exact .iptr b o (λi=>l.getD i undef) (hW.fz k hf hlk b o hid) (λi y hi=>by
   obtain ⟨x,hx2⟩:=old _ _ hi;exact (hx _ _ hx2).1) (λi y hi=>by
   obtain ⟨x,hx2⟩:=old _ _ hi;exact ih _ x y hx2 hi (hx _ _ hx2).2)
 | nilsl =>
  intro x hd;obtain rfl:=d9 hd;exact .sl0 (by unfold maxLen;omega)
theorem EJ {P:Program} {C C':Nm->cp} {σ:Nm->Option Nm} {frz:Nm->Prop} {ids ids':dD} {I I':Nat->Prop} {w:World} (hW:FJ P C C' σ frz ids ids' I I' w) (hall:∀ k,fK P C ids I w k (C k)) (k':Nm) (hn:σ k'=none->ids' k'=none) :
  fK P C' ids' I' w k' (C' k'):=by
 have h:=hW.sub.ch k';cases hc:C' k' with
 | unborn=>trivial
 | dead=>trivial
 | void=>trivial
 | row e cs' =>
  have hl:(C' k').live=true:=by rw [hc];rfl
  rw [hc] at h;simp only [fK];rcases h with ⟨h1,rfl⟩|⟨k,cs,h1,h2,h3,h4⟩
  ·rw [hn h1]
  ·have hk:=hall k;rw [h2] at hk;simp only [fK] at hk;rw [hW.idsEq k' k h1 hl];cases hid:ids k with
   | none =>
    rw [hid] at hk;simp only at hk;subst hk;exact iR (by simpa using h3)
   | some p =>
    obtain ⟨b,o⟩:=p;rw [hid] at hk;obtain ⟨arr,ha,hs,hx⟩:=hk;refine ⟨arr,ha,by omega,λi y hi=>?_⟩;have hlt:=(dy.1 hi).1;exact ze hW (h4 i _ y (dz (by omega)) hi) (hx i _ (dz (by omega)))
 | map es' =>
  have hl:(C' k').live=true:=by rw [hc];rfl
  rw [hc] at h;obtain ⟨k,es,h1,h2,h3,h4⟩:=h;have hk:=hall k;rw [h2] at hk;obtain ⟨b,arr,clock,hid,hw,hsz,hx,hbo⟩:=hk;refine ⟨b,arr,clock,by rw [hW.idsEq k' k h1 hl];exact hid,hw,by omega,λi y hi=>?_,hbo⟩;have hlt:=(dy.1 hi).1;obtain ⟨g1,g2⟩:=h4 i _ y (dz (by omega)) hi;obtain ⟨g3,g4⟩:=hx i _ (dz (by omega));exact ⟨g3.trans g1,ze hW g2 g4⟩
 | obj s pos =>
  have hl:(C' k').live=true:=by rw [hc];rfl
  rw [hc] at h;obtain ⟨k,h1,h2⟩:=h;have hk:=hall k;rw [h2] at hk;obtain ⟨b,hid,hw⟩:=hk;exact ⟨b,by rw [hW.idsEq k' k h1 hl];exact hid,hw⟩
 | fam g=>trivial
def kx (σ:Nm->Option Nm) (ids:dD):dD:=λk=>(σ k).bind ids
theorem weaken {hp':Hp} {nx':Nat} {σ:Nm->Option Nm} {frz:Nm->Prop} (h:HeapC X hp ids w) (hS:vp X.P (bW hp) (bW hp') σ frz) (hf:∀ k:Nm,nx'<=k.base->bW hp' k = .unborn) (hm:∀ k:Nm,k.base<X.m->(bW hp' k).live=true->σ k=some k) (hmv:∀ k:Nm,k.base<X.m->bW hp' k = .void->σ k=some k) (hmn:X.m<=nx') :
 ∃ids',nf X hp' nx' ids' w/\∀ s s' x,jK X.P (bW hp) (bW hp') σ frz s s'->cU X hp ids w s x->cU X hp' ids' w s' x:=by
 have hold:∀ k' b o,(bW hp' k').live=true->kx σ ids k'=some (b,o)->∃ k,σ k'=some k/\(bW hp k).live=true/\ids k=some (b,o):=λk' b o hl hi=>by
  unfold kx at hi;cases hs:σ k' with
  | none=>rw [hs] at hi;cases hi
  | some k=>rw [hs] at hi;exact ⟨k,rfl,((hS.ch k').live hl hs).1,hi⟩
 have hW:FJ X.P (bW hp) (bW hp') σ frz ids (kx σ ids) (Im X.w0 X.I0 X.W0 (bW hp) ids w) (Im X.w0 X.I0 X.W0 (bW hp') (kx σ ids) w) w:=by
  refine ⟨hS,λb hb=>⟨hb.1,hb.2.1,λk' hl o hi=>?_⟩,λk' k hs hl=>by simp [kx,hs],λk hk hl b o hi=>⟨?_,(h.st.lt k b o hl hi).1,λk' hl' o' hi'=>?_⟩,λk e cs hk=>by have:=h.st.ch k;rwa [hk] at this⟩
  ·obtain ⟨k,_,h2,h3⟩:=hold k' b o hl hi;exact hb.2.2 k h2 o h3
  ·rcases (h.st.lt k b o hl hi).2 with h1|h1
   ·exact .inr (.inl h1)
   ·exact .inr (.inr h1)
  ·obtain ⟨k2,h1,h2,h3⟩:=hold k' b o' hl' hi';have:=h.st.inj k k2 b o o' hl h2 hi h3;subst this;exact hS.frz k hk k' hl' h1
 refine ⟨kx σ ids,⟨⟨⟨λk'=>EJ hW h.st.ch k' (λhn=>by simp [kx,hn]),λk1 k2 b o1 o2 hl1 hl2 hi1 hi2=>?_,λk' b o hl hi=>?_,h.st.im0,h.st.evol,h.st.os,h.st.tape,h.st.output,h.st.size⟩,λk hk h0 hl=>?_,λk hk hv=>h.nov k hk (by have:=hS.ch k;rw [hv] at this;exact this k (hmv k hk hv))⟩,hf,hmn⟩,λs s' x hle hd=>ze hW hle hd⟩
 ·obtain ⟨q1,a1,a2,a3⟩:=hold k1 b o1 hl1 hi1;obtain ⟨q2,b1,b2,b3⟩:=hold k2 b o2 hl2 hi2;have:=h.st.inj q1 q2 b o1 o2 a2 b2 a3 b3;subst this;exact hS.inj k1 k2 q1 hl1 hl2 a1 b1
 ·obtain ⟨q,_,a2,a3⟩:=hold k' b o hl hi;exact h.st.lt q b o a2 a3
 ·have hs:=hm k hk hl;have hlk:=((hS.ch k).live hl hs).1;have hkp:=h.kept k hk h0 hlk;have hidk:kx σ ids k=ids k:=by simp [kx,hs]
  exact ⟨hidk.trans hkp.id,hkp.kind.trans ((hS.ch k).kind hl hs),λb o hi=>hkp.shape b o (hidk▸hi)⟩
end
section
open Go.RowKit
variable {X:Cx} {hp:Hp} {nx:Nat} {ids:dD} {w:World}
def cS (P:Program) (f:FuncId) (args:List SV) (hin:Hp) (m:Nat) (Post:SV->Hp->Nat->Prop):Prop :=
 (∃ fn body, P.funcs[f]? = some fn /\ fn.body = some body /\ fn.name ≠ "runtime.NumGoroutine") /\ ∀ (X : Cx) (vals : Array Value), X.P = P -> X.m = m -> nf X hin m X.ids0 X.w0 -> vals.size = args.length -> (∀ i x, args[i]? = some x -> cU X hin X.ids0 X.w0 x (vals.getD i undef)) ->
  Calls P f vals X.w0 λe w'=>∃ r res hp' nx' ids',e = .returned r/\Post res hp' nx'/\nf X hp' nx' ids' w'/\cU X hp' ids' w' res r
mutual
def iz (τ:Nm->Nm):SV->SV
 | .any=>.any
 | .v x=>.v x
 | .agg xs=>.agg (jx τ xs)
 | .tup xs=>.tup (jx τ xs)
 | .sl n xs=>.sl n (jx τ xs)
 | .own k o n=>.own (τ k) o n
 | .ptr k o=>.ptr (τ k) o
 | .iptr xs o=>.iptr (jx τ xs) o
 | .mp k=>.mp (τ k)
 | .it k=>.it (τ k)
 | .clo f xs=>.clo f (jx τ xs)
 | .ifc t x=>.ifc t (iz τ x)
 | .mth t x=>.mth t (iz τ x)
 | .asl k o n=>.asl (τ k) o n
 | .bp k e n=>.bp (τ k) e n
 | .gd g x=>.gd g (iz τ x)
def jx (τ:Nm->Nm):List SV->List SV
 | []=>[]
 | x::xs=>iz τ x::jx τ xs
end
theorem k_ (τ:Nm->Nm):∀ xs:List SV,jx τ xs=xs.map (iz τ)
 | []=>rfl
 | x::xs=>by rw [jx,k_ τ xs];rfl
def ik (τ:Nm->Nm):cp->cp
 | .unborn=>.unborn
 | .dead=>.dead
 | .void=>.void
 | .row e cs=>.row e (jx τ cs)
 | .map es=>.map (es.map λp=>(p.1,iz τ p.2))
 | .obj s pos=>.obj s pos
 | .fam g=>.fam λi=>ik τ (g i)
theorem mr (τ:Nm->Nm) (c:cp):(ik τ c).live=c.live:=by cases c<;>rfl
mutual
def SV.nim:SV->Bool
 | .any=>true
 | .v _=>true
 | .agg xs=>iU xs
 | .tup xs=>iU xs
 | .sl n xs=>n==0&&xs.isEmpty
 | .iptr _ _=>false
 | .clo _ xs=>iU xs
 | .ifc _ x=>x.nim
 | .mth _ x=>x.nim
 | .asl _ _ _=>true
 | .bp _ _ _=>true
 | .gd _ x=>x.nim
 | .own _ _ _=>true
 | .ptr _ _=>true
 | .mp _=>true
 | .it _=>true
def iU:List SV->Bool
 | []=>true
 | x::xs=>x.nim&&iU xs
end
theorem sN:∀ {xs:List SV},iU xs=true->∀ (i:Nat) (x:SV),xs[i]? = some x->x.nim=true
 | [],_,i,x,h=>by simp at h
 | y::ys,hc,i,x,h=>by
  simp only [iU,cT] at hc
  cases i with
  | zero=>simp at h;subst h;exact hc.1
  | succ i=>exact sN hc.2 i x (by simpa using h)
def wB:cp->Bool
 | .row _ cs=>iU cs
 | .map es=>es.all λp=>p.2.nim
 | .fam _=>false
 | _=>true
def tW (hp:Hp):Bool:=hp.all λp=>wB p.2
theorem JU (c:cp) (h:wB c=true) (k:Nm):wB (c.mem k)=true:=by
 cases k with
 | t a=>exact h
 | s F i=>cases c<;>first|rfl|cases h
theorem Iq {hp:Hp} (h:tW hp=true) (k:Nm):wB (bW hp k)=true:=by
 induction hp with
 | nil=>rfl
 | cons p r ih =>
  simp only [tW,mF,cT] at h;simp only [bW];cases p.1.eqk k with
  | true=>exact JU _ h.1 k
  | false=>exact ih h.2
theorem oo {τ:Nm->Nm} {xs:List SV} {i:Nat} {y:SV} (h:(jx τ xs)[i]? = some y):∃ x,xs[i]? = some x/\y=iz τ x:=by
 rw [k_,f5] at h;cases hx:xs[i]? with
 | none=>rw [hx] at h;cases h
 | some x=>rw [hx] at h;cases h;exact ⟨x,rfl,rfl⟩
theorem Ai {P:Program} {C C2:Nm->cp} {ids ids2:dD} {I I2:Nat->Prop} {w:World} {τ:Nm->Nm} (hC:∀ k,C k≠.unborn->C2 (τ k)=ik τ (C k)/\((C k).live=true->ids2 (τ k)=ids k)) {im:Bool} (hI:im=true->∀ b,I b->I2 b)
  {s:SV} {x:Value} (h:dT P C ids I w s x):(im=false->s.nim=true)->dT P C2 ids2 I2 w (iz τ s) x:=by
 induction h with
 | any=>exact λ_=>.any
 | v=>exact λ_=>.v
 | agg arr h _ ih =>
  intro hn;refine .agg arr (by rw [k_,eD];exact h) λi y hy=>?_
  obtain ⟨x,hx,rfl⟩:=oo hy;exact ih i x hx λhe=>sN (hn he) i x hx
 | tup arr h _ ih =>
  intro hn;refine .tup arr (by rw [k_,eD];exact h) λi y hy=>?_
  obtain ⟨x,hx,rfl⟩:=oo hy;exact ih i x hx λhe=>sN (hn he) i x hx
 | clo arr h _ ih =>
  intro hn;refine .clo arr (by rw [k_,eD];exact h) λi y hy=>?_
  obtain ⟨x,hx,rfl⟩:=oo hy;exact ih i x hx λhe=>sN (hn he) i x hx
 | sl0 hc=>exact λ_=>.sl0 hc
 | sl b o cap c hb hn hcap hc _ ih =>
  intro hnim;cases him:im with
  | false =>
   have:=hnim him;simp only [SV.nim,cT,jB,List.isEmpty_iff] at this;obtain ⟨rfl,rfl⟩:=this;exact .sl0 hcap
  | true =>
   refine .sl b o cap c (hI him b hb) hn hcap (λi y hy=>?_) (λi y hy=>?_)
   ·obtain ⟨x,hx,rfl⟩:=oo hy;exact hc i x hx
   ·obtain ⟨x,hx,rfl⟩:=oo hy;exact ih i x hx λhe=>by rw [him] at he;cases he
 | iptr b o c hb hc _ ih =>
  intro hnim;cases him:im with
  | false=>have:=hnim him;cases this
  | true =>
   refine .iptr b o c (hI him b hb) (λi y hy=>?_) (λi y hy=>?_)
   ·obtain ⟨x,hx,rfl⟩:=oo hy;exact hc i x hx
   ·obtain ⟨x,hx,rfl⟩:=oo hy;exact ih i x hx λhe=>by rw [him] at he;cases he
 | ifc _ ih=>exact λhnim=>.ifc (ih λhe=>hnim he)
 | mth _ ih=>exact λhnim=>.mth (ih λhe=>hnim he)
 | aslDead h=>exact λ_=>.aslDead (by rw [(hC _ (by rw [h];simp)).1,h];rfl)
 | asl b o hl h =>
  rename_i k off n;obtain ⟨h1,h2⟩:=hC k (λe=>by rw [e] at hl;cases hl);exact λ_=>.asl b o (by rw [h1,mr];exact hl) (by rw [h2 hl];exact h)
 | bpDead b h=>exact λ_=>.bpDead b (by rw [(hC _ (by rw [h];simp)).1,h];rfl)
 | bp b arr hl h hw hn =>
  rename_i k e n;obtain ⟨h1,h2⟩:=hC k (λe=>by rw [e] at hl;cases hl);exact λ_=>.bp b arr (by rw [h1,mr];exact hl) (by rw [h2 hl];exact h) hw hn
 | gd _ hn ih=>exact λhnim=>.gd (λhg=>ih hg λhe=>hnim he) hn
 | ownDead h=>exact λ_=>.ownDead (by rw [(hC _ (by rw [h];simp)).1,h];rfl)
 | own a cap hl h =>
  rename_i k off n;intro _;obtain ⟨h1,h2⟩:=hC k (λe=>by rw [e] at hl;cases hl);refine .own a cap (by rw [h1,mr];exact hl) ⟨h.1,h.2.1,λe2 cs2 hc2=>?_,?_⟩
  ·rw [h1] at hc2;cases hck:C k with
   | row e3 cs3 =>
    rw [hck,ik] at hc2;cases hc2;rw [k_,eD];exact h.2.2.1 _ _ hck
   | _=>rw [hck,ik] at hc2;cases hc2
  rcases h.2.2.2 with h3|⟨b,o,e,cs,arr,hc,hid,ha,hw,hsz⟩
  ·exact .inl h3
  ·exact .inr ⟨b,o,e,jx τ cs,arr,by rw [h1,hc];rfl,by rw [h2 hl];exact hid,ha,hw,hsz⟩
 | ptrDead b q h=>exact λ_=>.ptrDead b q (by rw [(hC _ (by rw [h];simp)).1,h];rfl)
 | ptr b o hl h =>
  rename_i k off;obtain ⟨h1,h2⟩:=hC k (λe=>by rw [e] at hl;cases hl);exact λ_=>.ptr b o (by rw [h1,mr];exact hl) (by rw [h2 hl];exact h)
 | mpDead h=>exact λ_=>.mpDead (by rw [(hC _ (by rw [h];simp)).1,h];rfl)
 | mp b hl h =>
  rename_i k;obtain ⟨h1,h2⟩:=hC k (λe=>by rw [e] at hl;cases hl);exact λ_=>.mp b (by rw [h1,mr];exact hl) (by rw [h2 hl];exact h)
 | itDead h=>exact λ_=>.itDead (by rw [(hC _ (by rw [h];simp)).1,h];rfl)
 | it b hl h =>
  rename_i k;obtain ⟨h1,h2⟩:=hC k (λe=>by rw [e] at hl;cases hl);exact λ_=>.it b (by rw [h1,mr];exact hl) (by rw [h2 hl];exact h)
def Nm.sh (nx:Nat):Nm->Nm
 | .t k=>.t (nx+k)
 | .s F i=>.s (nx+F) i
@[simp] theorem Nm.sh_base (nx:Nat) (k:Nm):(k.sh nx).base=nx+k.base:=by cases k<;>rfl
theorem Nm.sh_inj {nx:Nat} {a b:Nm} (h:a.sh nx=b.sh nx):a=b:=by
 cases a<;>cases b<;>simp_all [Nm.sh]
def q_ (σ:Nm->Option Nm):Prop:=∀ F i,σ (.s F i)=(σ (.s F 0)).map λj=>.s j.base i
def gc (σ:Nm->Option Nm) (nx:Nat) (k:Nm):Nm:=match σ k with
 | some j=>j
 | none=>k.sh nx
theorem uP {σ:Nm->Option Nm} (h:q_ σ) (nx F:Nat) (i:Int):gc σ nx (.s F i) = .s (gc σ nx (.s F 0)).base i:=by
 unfold gc;rw [h F i];cases hs:σ (.s F 0) with
 | none=>rfl
 | some j=>rfl
def yg (σ:Nm->Option Nm) (nx:Nat) (p:Nm×cp) (H:Hp):Nm×cp:=match p.1 with
 | .t k=>ec (gc σ nx (.t k)) (ik (gc σ nx) p.2) H
 | .s F _=>(.s (gc σ nx (.s F 0)).base 0,ik (gc σ nx) p.2)
def iW (σ:Nm->Option Nm) (nx:Nat):Hp->Hp->Hp
 | [],_=>[]
 | p::r,hp=>yg σ nx p (iW σ nx r hp++hp)::iW σ nx r hp
def po (σ:Nm->Option Nm) (m:Nat):Hp:=(List.range m).flatMap λk=>(bif (σ (.t k)).isSome then [(Nm.t k,cp.dead)] else [])++(bif (σ (.s k 0)).isSome then [(Nm.s k 0,cp.dead)] else [])
def mP (σ:Nm->Option Nm) (m:Nat):List Nm:=(List.range m).flatMap λk=>((σ (.t k)).map Nm.key).toList++((σ (.s k 0)).map Nm.key).toList
def back (σ:Nm->Option Nm) (nx m:Nat) (hp' hp:Hp):Hp:=iW σ nx (hp'++po σ m) hp
theorem fG (l r:Hp) (k:Nm):bW (l++r) k=if (∃ p∈l,p.1.key=k.key) then bW l k else bW r k:=by
 induction l with
 | nil=>simp [bW]
 | cons p l ih =>
  simp only [iy,bW];by_cases h:p.1.key=k.key
  ·rw [Nm.eqk_iff.2 h,cd,cd,if_pos ⟨p,by simp,h⟩]
  ·rw [Nm.eqk_no h,cj,cj,ih];by_cases h2:∃ q∈l,q.1.key=k.key
   ·rw [if_pos h2,if_pos];obtain ⟨q,hq,hk⟩:=h2;exact ⟨q,by simp [hq],hk⟩
   ·rw [if_neg h2,if_neg];rintro ⟨q,hq,hk⟩;rcases ff.1 hq with rfl|hq
    ·exact h hk
    ·exact h2 ⟨q,hq,hk⟩
theorem pp {l:Hp} {k:Nm} (h:¬∃p∈l,p.1.key=k.key):bW l k = .unborn:=by
 induction l with
 | nil=>rfl
 | cons p l ih =>
  simp only [bW];rw [Nm.eqk_no (λe=>h ⟨p,by simp,e⟩),cj];exact ih λ⟨q,hq,hk⟩=>h ⟨q,by simp [hq],hk⟩
theorem JV (τ:Nm->Nm) (c:cp) (i:Int):(ik τ c).at i=ik τ (c.at i):=by
 cases c with
 | fam g=>simp only [ik,cp.at];cases g i<;>rfl
 | _=>rfl
end
section
open Go.RowKit
variable {X:Cx} {hp:Hp} {nx:Nat} {ids:dD} {w:World}
def oT (hp:Hp):Bool:=hp.all λp=>match p.1 with
 | .t _=>match p.2 with
  | .unborn=>false
  | .fam _=>false
  | _=>true
 | .s _ _=>true
theorem qM {p:Nm×cp} {r:Hp} (h:oT (p::r)=true):(∀ k,p.1.key=k.key->p.2.mem k≠.unborn/\∀ g,p.2.mem k≠.fam g)/\oT r=true:=by
 simp only [oT,mF,cT] at h;refine ⟨λk hk=>?_,h.2⟩;have h1:=h.1;cases k with
 | t a =>
  rw [Nm.key_t,Nm.key_eq_t] at hk;rw [hk] at h1;simp only [cp.mem];cases hp:p.2<;>simp_all
 | s F i=>exact ⟨xb _ _,BV _ _⟩
theorem xd {hp:Hp} (h:oT hp=true) {k:Nm} (hk:∃ p∈hp,p.1.key=k.key):bW hp k≠.unborn:=by
 induction hp with
 | nil=>obtain ⟨p,hp,_⟩:=hk;cases hp
 | cons p r ih =>
  obtain ⟨h1,h2⟩:=qM h;simp only [bW];by_cases hpk:p.1.key=k.key
  ·rw [Nm.eqk_iff.2 hpk,cd];exact (h1 k hpk).1
  ·rw [Nm.eqk_no hpk,cj];obtain ⟨q,hq,hqk⟩:=hk;rcases ff.1 hq with rfl|hq
   ·exact absurd hqk hpk
   ·exact ih h2 ⟨q,hq,hqk⟩
theorem AS {hp:Hp} (h:oT hp=true) {k:Nm} (g:Int->cp):bW hp k≠.fam g:=by
 induction hp with
 | nil=>simp [bW]
 | cons p r ih =>
  obtain ⟨h1,h2⟩:=qM h;simp only [bW];by_cases hpk:p.1.key=k.key
  ·rw [Nm.eqk_iff.2 hpk,cd];exact (h1 k hpk).2 g
  ·rw [Nm.eqk_no hpk,cj];exact ih h2
theorem FK (l r:Hp):oT (l++r)=(oT l&&oT r):=by simp [oT]
theorem Cm (σ:Nm->Option Nm) (m:Nat):oT (po σ m)=true:=by
 unfold oT po;rw [dQ];intro p hp;obtain ⟨k,_,hk⟩:=pF.1 hp;rcases gA.1 hk with h|h
 ·cases hs:(σ (.t k)).isSome<;>rw [hs] at h<;>simp at h;subst h;rfl
 ·cases hs:(σ (.s k 0)).isSome<;>rw [hs] at h<;>simp at h;subst h;rfl
theorem dY.ren {a b:cp} (h:dY a b) (τ:Nm->Nm):dY a (ik τ b):=by cases a<;>cases b<;>simp_all [dY,ik,k_]
theorem AT {τ:Nm->Nm} {c:cp} (h:c≠.unborn/\∀ g,c≠.fam g):ik τ c≠.unborn/\∀ g,ik τ c≠.fam g:=by
 cases c<;>simp_all [ik]
theorem G7 {p:Nm×cp} {H:Hp} {j:Nm} (h:bW H j≠.unborn) (hp:∀ k,p.1.key=k.key->p.2.mem k≠.unborn):bW (p::H) j≠.unborn:=by
 simp only [bW];by_cases hk:p.1.key=j.key
 ·rw [Nm.eqk_iff.2 hk,cd];exact hp j hk
 ·rw [Nm.eqk_no hk,cj];exact h
theorem G8 (σ:Nm->Option Nm) (nx:Nat) {p:Nm×cp} {H:Hp} (hp:∀ k,p.1.key=k.key->p.2.mem k≠.unborn/\∀ g,p.2.mem k≠.fam g):∀ k,(yg σ nx p H).1.key=k.key->(yg σ nx p H).2.mem k≠.unborn:=by
 intro k hk;cases k with
 | s F i=>exact xb _ _
 | t a =>
  unfold yg at hk ⊢;cases hp1:p.1 with
  | t b =>
   rw [hp1] at hk hp;simp only at hk ⊢;have h1:=(AT (τ:=gc σ nx) (hp (.t b) rfl)).1;cases hb:gc σ nx (.t b) with
   | t c=>simp only [ec,cp.mem];exact h1
   | s G z=>rw [hb] at hk;simp [ec,Nm.key] at hk
  | s F z=>rw [hp1] at hk;simp [Nm.key] at hk
theorem zf (σ:Nm->Option Nm) (nx:Nat) {H0:Hp} {j:Nm} (h:bW H0 j≠.unborn):∀ {l:Hp},oT l=true->bW (iW σ nx l H0++H0) j≠.unborn
 | [],_=>h
 | p::r,hw=>by
  obtain ⟨h1,h2⟩:=qM hw
  exact G7 (zf σ nx h h2) (G8 σ nx h1)
theorem AU {σ:Nm->Option Nm} {nx nx':Nat} (hsig:q_ σ) (hτ:∀ a b:Nm,a.base<nx'->b.base<nx'->gc σ nx a=gc σ nx b->a=b) {H0:Hp} (hb:∀ k j,σ k=some j->bW H0 j≠.unborn):∀ {l:Hp},oT l=true->(∀ p∈l,p.1.base<nx') ->
  (∀ k:Nm,(∃ p∈l,p.1.key=k.key)->bW (iW σ nx l H0++H0) (gc σ nx k)=ik (gc σ nx) (bW l k)) /\
  (∀ j,(∀ k:Nm,(∃ p∈l,p.1.key=k.key)->gc σ nx k≠j)->bW (iW σ nx l H0++H0) j=bW H0 j)
 | [],_,_=>⟨λk hk=>(by obtain ⟨p,hp,_⟩:=hk;cases hp),λj _=>rfl⟩
 | p::r,hw,hl=>by
  obtain ⟨w1,w2⟩:=qM hw
  obtain ⟨ih1,ih2⟩:=AU hsig hτ hb w2 λq hq=>hl q (by simp [hq])
  have hlp:=hl p (by simp)
  have base_of:∀ k:Nm,(∃ q∈p::r,q.1.key=k.key)->k.base<nx':=λk ⟨q,hq,hk⟩=>by
   have:=hl q hq
   rw [←Nm.key_base,hk,Nm.key_base] at this
   exact this
  -- what the first entry does
  have E:(∀ k:Nm,p.1.key=k.key->bW (iW σ nx (p::r) H0++H0) (gc σ nx k)=ik (gc σ nx) (p.2.mem k))/\(∀ j,(∀ k:Nm,p.1.key=k.key->gc σ nx k≠j)->bW (iW σ nx (p::r) H0++H0) j=bW (iW σ nx r H0++H0) j):=by
   simp only [iW,iy]
   unfold yg
   cases hp1:p.1 with
   | t a =>
    simp only
    have hc:=AT (τ:=gc σ nx) (w1 (.t a) (by rw [hp1]))
    have hput:bW (ec (gc σ nx (.t a)) (ik (gc σ nx) p.2) (iW σ nx r H0++H0)::(iW σ nx r H0++H0))=upd (bW (iW σ nx r H0++H0)) (gc σ nx (.t a)) (ik (gc σ nx) p.2):=by
     cases hb2:gc σ nx (.t a) with
     | t c=>exact dv _ _ _
     | s G z =>
      refine jG (zf σ nx ?_ w2) hc
      unfold gc at hb2
      cases hs:σ (.t a) with
      | none=>rw [hs] at hb2;simp [Nm.sh] at hb2
      | some j=>rw [hs] at hb2;simp only at hb2;rw [←hb2];exact hb _ _ hs
    refine ⟨λk hk=>?_,λj hj=>?_⟩
    ·rw [Nm.key_t] at hk
     have:=Nm.key_eq_t.1 hk.symm
     subst this
     rw [hput,cG];rfl
    ·rw [hput,dO _ _ (λe=>hj (.t a) (by simp) e.symm)]
   | s F z =>
    simp only
    refine ⟨λk hk=>?_,λj hj=>?_⟩
    ·cases k with
     | t a=>simp [Nm.key] at hk
     | s G i =>
      simp only [Nm.key_s,Nm.s.injEq,kZ] at hk
      subst hk
      have hbs:=uP hsig nx F i
      rw [hbs]
      simp only [Nm.base_s,bW,Nm.eqk,oG,cd,cp.mem]
      exact JV _ _ _
    ·simp only [bW]
     cases hq:Nm.eqk (.s (gc σ nx (.s F 0)).base 0) j with
     | false=>rfl
     | true =>
      cases j with
      | t a=>simp [Nm.eqk] at hq
      | s G i =>
       simp only [Nm.eqk,jB] at hq
       exact absurd ((uP hsig nx F i).trans (by rw [hq])) (hj (.s F i) rfl)
  refine ⟨λk hk=>?_,λj hj=>?_⟩
  ·have hkb:=base_of k hk
   simp only [bW]
   by_cases hpk:p.1.key=k.key
   ·rw [Nm.eqk_iff.2 hpk,cd];exact E.1 k hpk
   ·rw [Nm.eqk_no hpk,cj,E.2 _ λk2 hk2 he=>hpk ?_]
    ·refine ih1 k ?_
     obtain ⟨q,hq,hqk⟩:=hk
     rcases ff.1 hq with rfl|hq
     ·exact absurd hqk hpk
     ·exact ⟨q,hq,hqk⟩
    ·have:=hτ k2 k (base_of k2 ⟨p,by simp,hk2⟩) hkb he
     rw [hk2,this]
  ·rw [E.2 j λk hk=>hj k ⟨p,by simp,hk⟩]
   exact ih2 j λk ⟨q,hq,hqk⟩=>hj k ⟨q,by simp [hq],hqk⟩
theorem Ir {P:Program} {C C2:Nm->cp} {ids ids2:dD} {I I2:Nat->Prop} {w:World} {τ:Nm->Nm} (hC:∀ k,C k≠.unborn->C2 (τ k)=ik τ (C k)/\((C k).live=true->ids2 (τ k)=ids k)) {im:Bool} (hI:im=true->∀ b,I b->I2 b)
  {k:Nm} {c:cp} (hl:c.live=true) (hid:ids2 (τ k)=ids k) (h:fK P C ids I w k c) (hn:im=false->wB c=true):fK P C2 ids2 I2 w (τ k) (ik τ c):=by
 cases c with
 | unborn=>cases hl
 | dead=>cases hl
 | void=>cases hl
 | row e cs =>
  simp only [fK,ik,hid] at h ⊢;cases hik:ids k with
  | none=>rw [hik] at h;simp only at h;subst h;rfl
  | some p =>
   obtain ⟨b,o⟩:=p;rw [hik] at h;obtain ⟨arr,ha,hs,hx⟩:=h;refine ⟨arr,ha,by rw [k_,eD];exact hs,λi y hy=>?_⟩;obtain ⟨x,hxi,rfl⟩:=oo hy;exact Ai hC hI (hx i x hxi) λhe=>sN (hn he) i x hxi
 | map es =>
  obtain ⟨b,arr,clock,h1,h2,h3,h4,hbo⟩:=h;refine ⟨b,arr,clock,hid.trans h1,h2,by simp [h3],λi y hy=>?_,hbo⟩;rw [f5] at hy;cases hei:es[i]? with
  | none=>rw [hei] at hy;cases hy
  | some x =>
   rw [hei] at hy;cases hy;obtain ⟨g1,g2⟩:=h4 i x hei;refine ⟨g1,Ai hC hI g2 λhe=>?_⟩;have:=hn he;simp only [wB,dQ] at this;exact this x (pG hei)
 | obj s pos =>
  obtain ⟨b,h1,h2⟩:=h;exact ⟨b,hid.trans h1,h2⟩
 | fam g=>cases hl
set_option maxHeartbeats 1000000 in
theorem FL (h:HeapC X hp ids w) (hmnx:X.m<=nx) {f:FuncId} {args args':List SV} {hin:Hp} {m:Nat} {Post:SV->Hp->Nat->Prop} (hspec:cS X.P f args' hin m Post) {σ:Nm->Option Nm} {bor:Nm->Prop}
  (hS:vp X.P (bW hp) (bW hin) σ bor) (hsig:q_ σ) (hσm:∀ k:Nm,m<=k.base->σ k=none/\bW hin k = .unborn) (hσi:∀ k1 k2 j,σ k1=some j->σ k2=some j->k1=k2) (hσl:∀ k j,σ k=some j->(bW hin k).live=true\/(bW hin k = .dead/\bW hp j = .dead)\/(bW hin k = .void/\bW hp j = .void))
  (hal:args.length=args'.length) (hargs:∀ (i:Nat) (x y:SV),args[i]? = some x->args'[i]? = some y->jK X.P (bW hp) (bW hin) σ bor x y) {vals:Array Value} (hv:vals.size=args.length) (hd:∀ i x,args[i]? = some x->cU X hp ids w x (vals.getD i undef)) :
  Calls X.P f vals w λe w'=>∃ r res hp' nx',e = .returned r/\Post res hp' nx'/\((∀ k:Nm,nx'<=k.base->bW hp' k = .unborn)/\m<=nx')/\(oT hp'=true/\(∀ k:Nm,k.base<nx'->bW hp (k.sh nx) = .unborn)/\((∀ k,¬ bor k)\/(res.nim=true/\tW hp'=true)) ->
  ∃ids2,HeapC X (back σ nx m hp' hp++hp) ids2 w'/\fm X hp ids w (back σ nx m hp' hp++hp) ids2 w'/\cU X (back σ nx m hp' hp++hp) ids2 w' (iz (gc σ nx) res) r):=by
 have hold:∀ k' b o,(bW hin k').live=true->kx σ ids k'=some (b,o)->∃ k,σ k'=some k/\(bW hp k).live=true/\ids k=some (b,o):=λk' b o hl hi=>by
  unfold kx at hi
  cases hs:σ k' with
  | none=>rw [hs] at hi;cases hi
  | some k=>rw [hs] at hi;exact ⟨k,rfl,((hS.ch k').live hl hs).1,hi⟩
 have hgl:r5 X.P (λb=>Im X.w0 X.I0 X.W0 (bW hp) ids w b\/∃ k o,bor k/\(bW hp k).live=true/\ids k=some (b,o)) w:=λg cs hc=>by
  obtain ⟨h1,h2⟩:=X.gl g cs hc
  obtain ⟨h3,h4⟩:=h.st.im0 g h1
  have him:∀ b,X.I0 b->Im X.w0 X.I0 X.W0 (bW hp) ids w b:=λb hb=>by
   obtain ⟨h3,h4⟩:=h.st.im0 b hb
   refine ⟨.inl hb,qC h3 h.st.size,λk hl o hi=>?_⟩
   rcases (h.st.lt k b o hl hi).2 with h5|h5
   ·exact h4 h5
   ·omega
  refine ⟨.inl (him g h1),λi x hi=>?_⟩
  obtain ⟨y,hy,hd⟩:=h2 i x hi
  exact ⟨y,(nP (h.st.evol g h3 h4)).trans hy,hd.mono (λb hb=>.inl (him b hb)) λb hb i=>nP (h.st.evol b (h.st.im0 b hb).1 (h.st.im0 b hb).2)⟩
 let Y:Cx:={ gl:=hgl,P:=X.P,w0:=w,I0:=λb=>Im X.w0 X.I0 X.W0 (bW hp) ids w b\/∃ k o,bor k/\(bW hp k).live=true/\ids k=some (b,o),W0:=λb=>∃ k' o,(bW hin k').live=true/\kx σ ids k'=some (b,o),m:=m,ids0:=kx σ ids,C0:=bW hin }
 have hYI:∀ b,Y.I0 b->b<w.heap.size/\¬ Y.W0 b:=by
  rintro b (hb|⟨k,o,hk,hl,hi⟩)
  ·refine ⟨hb.2.1,?_⟩
   rintro ⟨k',o',hl',hi'⟩
   obtain ⟨k,_,h2,h3⟩:=hold k' b o' hl' hi'
   exact hb.2.2 k h2 o' h3
  ·refine ⟨(h.st.lt k b o hl hi).1,?_⟩
   rintro ⟨k',o',hl',hi'⟩
   obtain ⟨k2,h1,h2,h3⟩:=hold k' b o' hl' hi'
   have:=h.st.inj k k2 b o o' hl h2 hi h3
   subst this
   exact hS.frz k hk k' hl' h1
 have hIm:∀ b,Y.I0 b->Im Y.w0 Y.I0 Y.W0 (bW hin) (kx σ ids) w b:=λb hb=>⟨.inl hb,(hYI b hb).1,λk' hl' o hi=>(hYI b hb).2 ⟨k',o,hl',hi⟩⟩
 have hW:FJ X.P (bW hp) (bW hin) σ bor ids (kx σ ids) (Im X.w0 X.I0 X.W0 (bW hp) ids w) (Im Y.w0 Y.I0 Y.W0 (bW hin) (kx σ ids) w) w :=
  ⟨hS,λb hb=>hIm b (.inl hb),λk' k hs hl=>by simp [kx,hs],λk hk hl b o hi=>hIm b (.inr ⟨k,o,hk,hl,hi⟩),λk e cs hk=>by have:=h.st.ch k;rwa [hk] at this⟩
 have hY:nf Y hin m (kx σ ids) w:=by
  refine ⟨⟨⟨λk'=>EJ hW h.st.ch k' (λhn=>by simp [kx,hn]),λk1 k2 b o1 o2 hl1 hl2 hi1 hi2=>?_,λk' b o hl hi=>?_,hYI,λb _ _=>rfl,rfl,⟨rfl,cF _⟩,rfl,cF _⟩,λk hk _ hl=>⟨rfl,dY.refl hl,λb o _=>dM.refl _⟩,λk _ hv=>hv⟩,λk hk=>(hσm k hk).2,cF _⟩
  ·obtain ⟨q1,a1,a2,a3⟩:=hold k1 b o1 hl1 hi1
   obtain ⟨q2,b1,b2,b3⟩:=hold k2 b o2 hl2 hi2
   have:=h.st.inj q1 q2 b o1 o2 a2 b2 a3 b3
   subst this
   exact hσi k1 k2 q1 a1 b1
  ·obtain ⟨q,_,a2,a3⟩:=hold k' b o hl hi
   exact ⟨(h.st.lt q b o a2 a3).1,.inl ⟨k',o,hl,hi⟩⟩
 refine (hspec.2 Y vals rfl rfl hY (by rw [hv,hal]) λi y hy=>?_).mono λe w'=>?_
 ·have hlt:=(dy.1 hy).1
  have hx:=dz (show i<args.length by omega)
  exact ze hW (hargs i _ y hx hy) (hd i _ hx)
 rintro ⟨r,res,hp',nx',ids',rfl,hpost,h',hres⟩
 refine ⟨r,res,hp',nx',rfl,hpost,⟨h'.fresh,h'.m_le⟩,λ⟨hwf,hfr,hbor⟩=>?_⟩
 -- names
 have hσnx:∀ k j,σ k=some j->bW hp j≠.unborn/\k.base<m:=λk j hk=>by
  refine ⟨?_,?_⟩
  ·rcases hσl k j hk with hl|⟨_,hl⟩|⟨_,hl⟩
   ·exact iV ((hS.ch k).live hl hk).1
   ·rw [hl];simp
   ·rw [hl];simp
  by_cases hkm:k.base<m
  ·exact hkm
  ·have:=(hσm k (by omega)).1;rw [hk] at this;cases this
 have hτ:∀ a b:Nm,(a.base<nx'\/∃ j,σ a=some j)->(b.base<nx'\/∃ j,σ b=some j)->gc σ nx a=gc σ nx b->a=b:=λa b hKa hKb hab=>by
  unfold gc at hab
  cases ha:σ a with
  | none=>cases hb:σ b with
   | none=>rw [ha,hb] at hab;simp only at hab;exact Nm.sh_inj hab
   | some j =>
    rw [ha,hb] at hab;simp only at hab
    have hl:=(hσnx b j hb).1
    rcases hKa with hKa|⟨j',hj'⟩
    ·rw [←hab,hfr a hKa] at hl;exact absurd rfl hl
    ·rw [ha] at hj';cases hj'
  | some i=>cases hb:σ b with
   | none =>
    rw [ha,hb] at hab;simp only at hab
    have hl:=(hσnx a i ha).1
    rcases hKb with hKb|⟨j',hj'⟩
    ·rw [hab,hfr b hKb] at hl;exact absurd rfl hl
    ·rw [hb] at hj';cases hj'
   | some j=>rw [ha,hb] at hab;simp only at hab;subst hab;exact hσi a b i ha hb
 have hlk:∀ p∈hp',p.1.base<nx':=λp hp1=>by
  by_cases hlt:p.1.base<nx'
  ·exact hlt
  ·exact absurd (h'.fresh p.1 (by omega)) (xd hwf ⟨p,hp1,rfl⟩)
 have hlkk:∀ k:Nm,(∃ p∈hp',p.1.key=k.key)->k.base<nx':=λk ⟨p,hp1,hk⟩=>by
  have:=hlk p hp1
  rw [←Nm.key_base,hk,Nm.key_base] at this
  exact this
 have hpass:∀ k j,σ k=some j->∃ p∈po σ m,p.1.key=k.key:=λk j hk=>by
  have hkm:=(hσnx k j hk).2
  unfold po
  cases k with
  | t a=>exact ⟨(.t a,.dead),pF.2 ⟨a,jD.2 hkm,by simp [hk]⟩,rfl⟩
  | s F i =>
   have h0:(σ (.s F 0)).isSome=true:=by
    rw [hsig F i] at hk
    cases hs:σ (.s F 0) with
    | none=>rw [hs] at hk;cases hk
    | some j=>rfl
   exact ⟨(.s F 0,.dead),pF.2 ⟨F,jD.2 hkm,by simp [h0]⟩,rfl⟩
 have hpassL:∀ p∈po σ m,p.1.base<nx'/\∃ j,σ p.1=some j:=λp hp1=>by
  unfold po at hp1
  have hmn:=h'.m_le
  obtain ⟨k,hk,hkk⟩:=pF.1 hp1
  have hk:=jD.1 hk
  have hmn2:m<=nx':=hmn
  rcases gA.1 hkk with h1|h1
  ·cases hs:(σ (.t k)).isSome<;>rw [hs] at h1<;>simp at h1
   subst h1;exact ⟨by simp;omega,qH.1 hs⟩
  ·cases hs:(σ (.s k 0)).isSome<;>rw [hs] at h1<;>simp at h1
   subst h1;exact ⟨by simp;omega,qH.1 hs⟩
 have hwf2:oT (hp'++po σ m)=true:=by rw [FK,hwf,Cm];rfl
 obtain ⟨B1,B2⟩:=AU (nx:=nx) (nx':=nx') hsig (λa b ha hb=>hτ a b (.inl ha) (.inl hb)) (H0:=hp) (λk j hk=>(hσnx k j hk).1) hwf2 (λp hp1=>(gA.1 hp1).elim (hlk p) λh1=>(hpassL p h1).1)
 generalize hTdef:gc σ nx=τ at hτ B1 B2
 have hτs:∀ k j,σ k=some j->τ k=j:=λk j hk=>by rw [←hTdef];simp [gc,hk]
 have hτn:∀ k,σ k=none->τ k=k.sh nx:=λk hk=>by rw [←hTdef];simp [gc,hk]
 -- F1
 have F1:∀ k,bW hp' k≠.unborn->bW (back σ nx m hp' hp++hp) (τ k)=ik τ (bW hp' k):=λk hk=>by
  have hlist:∃ p∈hp',p.1.key=k.key:=Classical.byContradiction λhn=>hk (pp hn)
  unfold back
  rw [B1 k (by obtain ⟨p,hp1,hp2⟩:=hlist;exact ⟨p,by simp [hp1],hp2⟩),fG,if_pos hlist]
 -- passed ones that are not told of
 have F2:∀ k j,σ k=some j->bW hp' k = .unborn->bW (back σ nx m hp' hp++hp) j = .dead:=λk j hs hk=>by
  have hnl:¬∃p∈hp',p.1.key=k.key:=λhh=>xd hwf hh hk
  obtain ⟨p,hp1,hp2⟩:=hpass k j hs
  have:=B1 k ⟨p,by simp [hp1],hp2⟩
  unfold back
  rw [hτs k j hs] at this
  rw [this,fG,if_neg hnl]
  have hd:∀ (l:Hp),(∀ p∈l,p.2 = .dead\/p.2 = .fam λ_=>.dead)->oT l=true->(∃ p∈l,p.1.key=k.key)->bW l k = .dead:=by
   intro l
   induction l with
   | nil=>exact λ_ _ ⟨p,hp,_⟩=>by cases hp
   | cons q l ih =>
    intro hl hwl hq
    simp only [bW]
    by_cases hqk:q.1.key=k.key
    ·rw [Nm.eqk_iff.2 hqk,cd]
     have h0:=((qM hwl).1 k hqk).2
     rcases hl q (by simp) with h1|h1
     ·rw [h1];cases k<;>rfl
     ·rw [h1] at h0 ⊢
      cases k with
      | t a=>exact absurd rfl (h0 _)
      | s F i=>rfl
    ·rw [Nm.eqk_no hqk,cj]
     refine ih (λp hp=>hl p (by simp [hp])) (qM hwl).2 ?_
     obtain ⟨p,hp1,hp2⟩:=hq
     rcases ff.1 hp1 with rfl|hp1
     ·exact absurd hp2 hqk
     ·exact ⟨p,hp1,hp2⟩
  rw [hd (po σ m) (λp hp1=>?_) (Cm σ m) ⟨p,hp1,hp2⟩]
  ·rfl
  ·unfold po at hp1
   obtain ⟨q,_,hkk⟩:=pF.1 hp1
   rcases gA.1 hkk with h1|h1
   ·cases hs:(σ (.t q)).isSome<;>rw [hs] at h1<;>simp at h1
    subst h1;exact .inl rfl
   ·cases hs:(σ (.s q 0)).isSome<;>rw [hs] at h1<;>simp at h1
    subst h1;exact .inl rfl
 -- the others
 have F3:∀ j,(∀ k:Nm,(∃ p∈hp',p.1.key=k.key)->τ k≠j)->(∀ k,σ k≠some j)->bW (back σ nx m hp' hp++hp) j=bW hp j:=λj hj hn=>by
  unfold back
  refine B2 j λk ⟨p,hp1,hp2⟩=>?_
  rcases gA.1 hp1 with h1|h1
  ·exact hj k ⟨p,h1,hp2⟩
  ·intro he
   obtain ⟨_,q,hq⟩:=hpassL p h1
   have:∃ i,σ k=some i:=by
    cases k with
    | t a=>rw [Nm.key_t,Nm.key_eq_t] at hp2;rw [hp2] at hq;exact ⟨_,hq⟩
    | s F i =>
     cases hp3:p.1 with
     | t a=>rw [hp3] at hp2;simp [Nm.key] at hp2
     | s G z =>
      rw [hp3] at hp2 hq
      simp only [Nm.key_s,Nm.s.injEq,kZ] at hp2
      subst hp2
      rw [hsig G z] at hq
      rw [hsig G i]
      cases hs:σ (.s G 0) with
      | none=>rw [hs] at hq;cases hq
      | some y=>exact ⟨_,rfl⟩
   obtain ⟨i,hi⟩:=this
   rw [hτs k i hi] at he
   subst he
   exact hn k hi
 have hσlive:∀ k j,σ k=some j->(bW hp' k).live=true->(bW hin k).live=true\/(bW hin k = .void/\bW hp j = .void):=λk j hk hl=>by
  rcases hσl k j hk with h1|⟨h1,_⟩|h1
  ·exact .inl h1
  ·have h2:dY (bW hin k) (bW hp' k):=(h'.kept k (hσnx k j hk).2 (by show bW hin k≠_;rw [h1];simp) hl).kind
   rw [h1] at h2;exact h2.elim
  ·exact .inr h1
 generalize hC2:bW (back σ nx m hp' hp++hp)=C2 at F1 F2 F3
 -- whoever lives in the old heap bears no new name
 have hold2:∀ j,(bW hp j).live=true->(∀ k,σ k≠some j)->∀ k:Nm,(∃ p∈hp',p.1.key=k.key)->τ k≠j:=λj hl hn k hk he=>by
  cases hs:σ k with
  | none=>rw [hτn _ hs] at he;rw [←he,hfr _ (hlkk k hk)] at hl;cases hl
  | some i=>rw [hτs _ i hs] at he;subst he;exact hn _ hs
 have hcls:∀ j,(C2 j).live=true->(∃ k,j=τ k/\(k.base<nx'\/∃ j,σ k=some j)/\(bW hp' k).live=true/\C2 j=ik τ (bW hp' k))\/((∀ k,σ k≠some j)/\C2 j=bW hp j/\(bW hp j).live=true):=λj hj=>by
  by_cases hp2:∃ k,σ k=some j
  ·obtain ⟨k,hk⟩:=hp2
   left
   by_cases hu:bW hp' k = .unborn
   ·rw [F2 k j hk hu] at hj;cases hj
   ·have:=F1 k hu
    rw [hτs k j hk] at this
    exact ⟨k,(hτs k j hk).symm,.inr ⟨j,hk⟩,by rw [this,mr] at hj;exact hj,this⟩
  ·have hn:∀ k,σ k≠some j:=λk hk=>hp2 ⟨k,hk⟩
   by_cases hli:∃ k:Nm,(∃ p∈hp',p.1.key=k.key)/\τ k=j
   ·obtain ⟨k,hk,rfl⟩:=hli
    left
    have:=F1 k (xd hwf hk)
    exact ⟨k,rfl,.inl (hlkk k hk),by rw [this,mr] at hj;exact hj,this⟩
   ·right
    have:=F3 j (λk hk he=>hli ⟨k,hk,he⟩) hn
    exact ⟨hn,this,by rw [this] at hj;exact hj⟩
 open Classical in
 let ids2:dD:=λj=>if hk:∃ k,(k.base<nx'\/∃ j,σ k=some j)/\τ k=j then ids' hk.choose else ids j
 have hi1:∀ k,(k.base<nx'\/∃ j,σ k=some j)->ids2 (τ k)=ids' k:=λk hK=>by
  have hk:∃ q,(q.base<nx'\/∃ j,σ q=some j)/\τ q=τ k:=⟨k,hK,rfl⟩
  simp only [ids2,dif_pos hk]
  rw [hτ _ _ hk.choose_spec.1 hK hk.choose_spec.2]
 have hi2:∀ j,(bW hp j).live=true->(∀ k,σ k≠some j)->ids2 j=ids j:=λj hj hn=>by
  have:¬∃k,(k.base<nx'\/∃ j,σ k=some j)/\τ k=j:=λ⟨k,hK,hk⟩=>by
   cases hs:σ k with
   | none =>
    rcases hK with hK|⟨j',hj'⟩
    ·rw [hτn k hs] at hk;rw [←hk,hfr k hK] at hj;cases hj
    ·rw [hs] at hj';cases hj'
   | some i=>rw [hτs k i hs] at hk;subst hk;exact hn k hs
  simp only [ids2,dif_neg this]
 have hW0:∀ b,Y.W0 b->∃ k j o,σ k=some j/\(bW hp j).live=true/\ids j=some (b,o):=λb ⟨k',o,hl,hi⟩=>by
  obtain ⟨k,h1,h2,h3⟩:=hold k' b o hl hi
  exact ⟨k',k,o,h1,h2,h3⟩
 have hE:km (bW hp) ids (Im X.w0 X.I0 X.W0 (bW hp) ids w) w C2 ids2 (Im X.w0 X.I0 X.W0 C2 ids2 w') w':=by
  refine ⟨λb hb=>?_,λj hj=>?_,λj hj=>?_⟩
  ·have hnW:¬ Y.W0 b:=λhh=>by
    obtain ⟨k,j,o,h1,h2,h3⟩:=hW0 b hh
    exact hb.2.2 j h2 o h3
   refine ⟨⟨hb.1,qC hb.2.1 h'.st.size,λj hj o hi=>?_⟩,h'.st.evol b hb.2.1 hnW⟩
   rcases hcls j hj with ⟨k,rfl,hK,hl,_⟩|⟨hn,_,hl⟩
   ·rw [hi1 k hK] at hi
    rcases (h'.st.lt k b o hl hi).2 with h1|h1
    ·exact hnW h1
    ·have:w.heap.size<=b:=h1
     have:=hb.2.1;omega
   ·rw [hi2 j hl hn] at hi
    exact hb.2.2 j hl o hi
  ·by_cases hp2:∃ k,σ k=some j
   ·obtain ⟨k,hk⟩:=hp2
    by_cases hu:bW hp' k = .unborn
    ·exact F2 k j hk hu
    ·have hc:=F1 k hu
     rw [hτs k j hk] at hc
     rw [hc]
     have hdd:bW hin k = .dead:=by
      rcases hσl k j hk with hl|⟨hl,_⟩|⟨_,hl⟩
      ·have:=((hS.ch k).live hl hk).1;rw [hj] at this;cases this
      ·exact hl
      ·rw [hj] at hl;cases hl
     have hnl:(bW hp' k).live≠true:=λhl=>by
      have h1:dY (bW hin k) (bW hp' k):=(h'.kept k (hσnx k j hk).2 (by show bW hin k≠_;rw [hdd];simp) hl).kind
      rw [hdd] at h1;exact h1
     cases hcc:bW hp' k with
     | dead=>rfl
     | void=>exact absurd (h'.nov k (hσnx k j hk).2 hcc) (by show bW hin k≠_;rw [hdd];simp)
     | unborn=>exact absurd hcc hu
     | fam g=>exact absurd hcc (AS hwf g)
     | _=>rw [hcc] at hnl;exact absurd rfl hnl
   ·have hn:∀ k,σ k≠some j:=λk hk=>hp2 ⟨k,hk⟩
    rw [F3 j (λk hkl he=>?_) hn]
    ·exact hj
    ·cases hs:σ k with
     | none=>rw [hτn _ hs] at he;have:=hfr _ (hlkk k hkl);rw [he,hj] at this;cases this
     | some i=>rw [hτs _ i hs] at he;subst he;exact hn _ hs
  ·by_cases hp2:∃ k,σ k=some j
   ·obtain ⟨k,hk⟩:=hp2
    by_cases hu:bW hp' k = .unborn
    ·exact .inl (F2 k j hk hu)
    ·have hc:=F1 k hu
     rw [hτs k j hk] at hc
     by_cases hl:(bW hp' k).live=true
     ·have hkl:(bW hin k).live=true:=by
       rcases hσlive k j hk hl with h1|⟨_,h1⟩
       ·exact h1
       ·rw [h1] at hj;cases hj
      have hkp:=h'.kept k (hσnx k j hk).2 (by show bW hin k≠_;intro e;rw [e] at hkl;cases hkl) hl
      have hidj:ids2 j=ids j:=by
       have h1:=hi1 k (.inr ⟨j,hk⟩)
       rw [hτs k j hk] at h1
       rw [h1,hkp.id]
       show kx σ ids k=ids j
       simp [kx,hk]
      refine .inr ⟨by rw [hc,mr];exact hl,hidj,?_,λb o hid=>?_⟩
      ·rw [hc]
       exact (((hS.ch k).kind hkl hk).trans hkp.kind).ren τ
      ·have h1:=hi1 k (.inr ⟨j,hk⟩)
       rw [hτs k j hk,hidj,hid] at h1
       exact hkp.shape b o h1.symm
     ·left
      rw [hc]
      cases hcc:bW hp' k with
      | fam g=>exact absurd hcc (AS hwf g)
      | void =>
       have h1:bW hin k = .void:=h'.nov k (hσnx k j hk).2 hcc
       rcases hσl k j hk with h2|⟨h2,_⟩|⟨_,h2⟩
       ·rw [h1] at h2;cases h2
       ·rw [h1] at h2;cases h2
       ·rw [h2] at hj;cases hj
      | _=>rw [hcc] at hl hu;first|rfl|exact absurd rfl hu|exact absurd rfl hl
   ·have hn:∀ k,σ k≠some j:=λk hk=>hp2 ⟨k,hk⟩
    have hF:=F3 j (hold2 j hj hn) hn
    refine .inr ⟨by rw [hF];exact hj,hi2 j hj hn,by rw [hF];exact dY.refl hj,λb o hid=>dM.of_eq (h'.st.evol b (h.st.lt j b o hj hid).1 λhh=>?_)⟩
    obtain ⟨k,j2,o2,h1,h2,h3⟩:=hW0 b hh
    have:=h.st.inj j j2 b o o2 hj h2 hid h3
    subst this
    exact hn k h1
 have hCτ:∀ k,bW hp' k≠.unborn->C2 (τ k)=ik τ (bW hp' k)/\((bW hp' k).live=true->ids2 (τ k)=ids' k):=λk hk=>⟨F1 k hk,λ_=>hi1 k (.inl (by
  exact hlkk k (Classical.byContradiction λhn=>hk (pp hn))))⟩
 -- the immutable blocks of the callee, as the caller sees them
 obtain ⟨im,him1,him2⟩:∃ im:Bool,(im=true->∀ k,¬ bor k)/\(im=false->res.nim=true/\tW hp'=true):=by
  rcases hbor with hb|hb
  ·exact ⟨true,(λ_=>hb),(λe=>by cases e)⟩
  ·exact ⟨false,(λe=>by cases e),(λ_=>hb)⟩
 have hII:im=true->∀ b,Im Y.w0 Y.I0 Y.W0 (bW hp') ids' w' b->Im X.w0 X.I0 X.W0 C2 ids2 w' b:=λhi b hb=>by
  have hnb:=him1 hi
  have hlive:∀ j,(C2 j).live=true->∀ o,ids2 j≠some (b,o):=λj hj o hij=>by
   rcases hcls j hj with ⟨k,rfl,hK,hl,_⟩|⟨hn,_,hl⟩
   ·rw [hi1 k hK] at hij;exact hb.2.2 k hl o hij
   ·rw [hi2 j hl hn] at hij
    have hlt:=(h.st.lt j b o hl hij).1
    rcases hb.1 with (h1|⟨k,o2,h1,_⟩)|h1|h1
    ·exact h1.2.2 j hl o hij
    ·exact hnb k h1
    ·obtain ⟨k,j2,o2,h4,h5,h6⟩:=hW0 b h1
     have:=h.st.inj j j2 b o o2 hl h5 hij h6
     subst this;exact hn k h4
    ·have:w.heap.size<=b:=h1
     omega
  refine ⟨?_,hb.2.1,hlive⟩
  rcases hb.1 with (h1|⟨k,o,h1,_⟩)|h1|h1
  ·exact h1.1
  ·exact absurd h1 (hnb k)
  ·obtain ⟨k,j2,o2,_,h5,h6⟩:=hW0 b h1
   exact .inr ((h.st.lt j2 b o2 h5 h6).2)
  ·have h2:w.heap.size<=b:=h1
   have:=h.st.size
   exact .inr (.inr (by omega))
 refine ⟨ids2,⟨⟨λj=>?_,λj1 j2 b o1 o2 hl1 hl2 he1 he2=>?_,λj b o hl hi=>?_,h.st.im0,λb hb hWb=>?_,h'.st.os.trans h.st.os,⟨h'.st.tape.1.trans h.st.tape.1,l0 h.st.tape.2 h'.st.tape.2⟩,h'.st.output.trans h.st.output,l0 h.st.size h'.st.size⟩,λj hj h0 hl=>?_,λj hj hv=>?_⟩,?_,?_⟩
 ·rw [hC2]
  by_cases hl:(C2 j).live=true
  ·rcases hcls j hl with ⟨k,rfl,hK,hlk2,hc⟩|⟨hn,hc,hlj⟩
   ·rw [hc]
    exact Ir hCτ hII hlk2 (hi1 k hK) (h'.st.ch k) λhi=>Iq (him2 hi).2 k
   ·rw [hc]
    refine (h.st.ch j).mono hE (hi2 j hlj hn) λb o hid=>h'.st.evol b (h.st.lt j b o hlj hid).1 λhh=>?_
    obtain ⟨k,j2,o2,h1,h2,h3⟩:=hW0 b hh
    have:=h.st.inj j j2 b o o2 hlj h2 hid h3
    subst this
    exact hn k h1
  ·cases hcj:C2 j<;>rw [hcj] at hl<;>first|trivial|exact absurd rfl hl
 ·rw [hC2] at hl1 hl2
  rcases hcls j1 hl1 with ⟨k1,rfl,aK,a1,_⟩|⟨a2,_,a3⟩<;>rcases hcls j2 hl2 with ⟨k2,rfl,bK,b1,_⟩|⟨b2,_,b3⟩
  ·rw [hi1 k1 aK] at he1;rw [hi1 k2 bK] at he2
   rw [h'.st.inj k1 k2 b o1 o2 a1 b1 he1 he2]
  ·rw [hi1 k1 aK] at he1;rw [hi2 j2 b3 b2] at he2
   have hlt:=(h.st.lt j2 b o2 b3 he2).1
   rcases (h'.st.lt k1 b o1 a1 he1).2 with h1|h1
   ·obtain ⟨k,j3,o3,h4,h5,h6⟩:=hW0 b h1
    have:=h.st.inj j2 j3 b o2 o3 b3 h5 he2 h6
    subst this;exact absurd h4 (b2 k)
   ·have:w.heap.size<=b:=h1
    omega
  ·rw [hi1 k2 bK] at he2;rw [hi2 j1 a3 a2] at he1
   have hlt:=(h.st.lt j1 b o1 a3 he1).1
   rcases (h'.st.lt k2 b o2 b1 he2).2 with h1|h1
   ·obtain ⟨k,j3,o3,h4,h5,h6⟩:=hW0 b h1
    have:=h.st.inj j1 j3 b o1 o3 a3 h5 he1 h6
    subst this;exact absurd h4 (a2 k)
   ·have:w.heap.size<=b:=h1
    omega
  ·rw [hi2 j1 a3 a2] at he1;rw [hi2 j2 b3 b2] at he2
   exact h.st.inj j1 j2 b o1 o2 a3 b3 he1 he2
 ·rw [hC2] at hl
  rcases hcls j hl with ⟨k,rfl,aK,a1,_⟩|⟨a2,_,a3⟩
  ·rw [hi1 k aK] at hi
   obtain ⟨g1,g2⟩:=h'.st.lt k b o a1 hi
   refine ⟨g1,?_⟩
   rcases g2 with h1|h1
   ·obtain ⟨q,j2,o2,_,h5,h6⟩:=hW0 b h1
    exact (h.st.lt j2 b o2 h5 h6).2
   ·have h2:w.heap.size<=b:=h1
    have:=h.st.size
    exact .inr (by omega)
  ·rw [hi2 j a3 a2] at hi
   obtain ⟨g1,g2⟩:=h.st.lt j b o a3 hi
   exact ⟨qC g1 h'.st.size,g2⟩
 ·have hsz:=h.st.size
  have:w'.heap[b]? = w.heap[b]?:=h'.st.evol b (show b<w.heap.size by omega) λhh=>by
   obtain ⟨k,j2,o2,_,h5,h6⟩:=hW0 b hh
   rcases (h.st.lt j2 b o2 h5 h6).2 with h1|h1
   ·exact hWb h1
   ·omega
  rw [this];exact h.st.evol b hb hWb
 ·rw [hC2] at hl ⊢
  have hlo:(bW hp j).live=true:=by
   rcases hcls j hl with ⟨k,rfl,aK,a1,_⟩|⟨a2,_,a3⟩
   ·cases hs:σ k with
    | none=>rw [hτn k hs] at hj;simp at hj;omega
    | some i =>
     rw [hτs k i hs] at hj h0 ⊢
     rcases hσlive k i hs a1 with h1|⟨_,h1⟩
     ·exact ((hS.ch k).live h1 hs).1
     ·exact absurd (h.nov i hj h1) h0
   ·exact a3
  exact (h.kept j hj h0 hlo).step hE hlo hl
 ·rw [hC2] at hv
  by_cases hp2:∃ k,σ k=some j
  ·obtain ⟨k,hk⟩:=hp2
   by_cases hu:bW hp' k = .unborn
   ·rw [F2 k j hk hu] at hv;cases hv
   ·have hc:=F1 k hu
    rw [hτs k j hk,hv] at hc
    have hcc:bW hp' k = .void:=by cases h9:bW hp' k<;>rw [h9] at hc<;>first|rfl|cases hc
    have h1:bW hin k = .void:=h'.nov k (hσnx k j hk).2 hcc
    rcases hσl k j hk with h2|⟨h2,_⟩|⟨_,h2⟩
    ·rw [h1] at h2;cases h2
    ·rw [h1] at h2;cases h2
    ·exact h.nov j hj h2
  ·have hn:∀ k,σ k≠some j:=λk hk=>hp2 ⟨k,hk⟩
   by_cases hli:∃ k:Nm,(∃ p∈hp',p.1.key=k.key)/\τ k=j
   ·obtain ⟨k,hk,he⟩:=hli
    cases hs:σ k with
    | none=>rw [hτn k hs] at he;rw [←he] at hj;simp at hj;omega
    | some i=>rw [hτs k i hs] at he;rw [he] at hs;exact absurd hs (hn k)
   ·rw [F3 j (λk hk he=>hli ⟨k,hk,he⟩) hn] at hv
    exact h.nov j hj hv
 ·simp only [fm,hC2];exact hE
 ·simp only [cU,hC2]
  exact Ai hCτ hII hres λhi=>(him2 hi).1
end
section
open Go.RowKit
variable {P:Program} {hp hp':Hp} {nx:Nat}
theorem lm {k:Nm} {c:cp} {rds:List Nm} (hr:∀ k:Nm,k.key∈rds->bW hp' k=bW hp k) (hk:k.key∈rds):ec k c hp'=ec k c hp:=by
 cases k with
 | t a=>rfl
 | s F i =>
  simp only [ec];rw [show (λj=>bW hp' (.s F j))=(λj=>bW hp (.s F j)) from funext λj=>hr _ (by simpa [Nm.key] using hk)]
theorem oJ {k:Nm} {f:TypeId->List SV->eV} {s:Prop} {e:dw} (h:oW (bW hp k) f = .ok s e) (hk:bW hp' k=bW hp k):oW (bW hp' k) f = .ok s e:=by rw [hk];exact h
theorem pI {c:cp} {f:TypeId->List SV->eV} {s:Prop} {e:dw} {k:Nm} (h:oW c f = .ok s e) (hf:∀ t cs,f t cs = .ok s e->k∈e.rds):k∈e.rds:=by
 obtain ⟨t,cs,_,hh⟩:=gB h;exact hf t cs hh
theorem G9 {t:TypeId} {cs:List SV} {off:Nat} {rds:List Nm} {s:Prop} {e:dw} (h:ku P t cs off rds nx = .ok s e):e.rds=rds:=by
 unfold ku at h;split at h<;>cases h<;>rfl
theorem D9 {t:TypeId} {x:SV} {s:Prop} {e:dw} (h:nZ P t x hp nx = .ok s e) (hr:∀ k:Nm,k.key∈e.rds->bW hp' k=bW hp k):nZ P t x hp' nx = .ok s e:=by
 unfold nZ at h ⊢;split at h
 ·rename_i k off;have:k.key∈e.rds:=pI h λt cs hh=>by rw [G9 hh];simp
  exact oJ h (hr k this)
 ·exact h
 ·cases h
theorem Cn {t:TypeId} {x v:SV} {s:Prop} {e:dw} (h:oj P t x v hp nx = .ok s e) (hr:∀ k:Nm,k.key∈e.rds->bW hp' k=bW hp k):oj P t x v hp' nx = .ok s e:=by
 unfold oj at h ⊢;split at h
 ·rename_i k off;have:k.key∈e.rds:=pI h λt cs hh=>by cases hh;simp
  simp only [λc=>lm (c:=c) hr this];exact oJ h (hr k this)
 ·cases h
theorem tX {k:Nm} {r:eV} {s:Prop} {e:dw} (h:tu (bW hp k) r = .ok s e) (hk:bW hp' k=bW hp k):tu (bW hp' k) r = .ok s e:=by rw [hk];exact h
theorem wC {c:cp} {r:eV} {s:Prop} {e:dw} {k:Nm} (h:tu c r = .ok s e) (hf:r = .ok s e->k∈e.rds):k∈e.rds:=hf (nh h).2
theorem yh {t:TypeId} {x:SV} {f:Nat} {s:Prop} {e:dw} (h:kw P t x f hp nx = .ok s e) (hr:∀ k:Nm,k.key∈e.rds->bW hp' k=bW hp k):kw P t x f hp' nx = .ok s e:=by
 unfold kw at h ⊢;split at h
 ·rename_i o ft n hf;split at h
  ·exact h
  ·exact h
  ·cases h
 ·cases h
theorem yi {t:TypeId} {x i:SV} {s:Prop} {e:dw} (h:li P t x i hp nx = .ok s e) (hr:∀ k:Nm,k.key∈e.rds->bW hp' k=bW hp k):li P t x i hp' nx = .ok s e:=by
 unfold li at h ⊢;split at h
 ·rename_i kd n;split at h
  ·split at h
   ·rename_i k off len;have:k.key∈e.rds:=wC h λhh=>by cases hh;simp
    exact tX h (hr k this)
   ·exact h
   ·cases h
  ·split at h
   ·split at h
    ·exact h
    ·exact h
    ·cases h
   ·cases h
 ·cases h
theorem oK {k:Nm} {f:List (Value×SV)->eV} {s:Prop} {e:dw} (h:qa (bW hp k) f = .ok s e) (hk:bW hp' k=bW hp k):qa (bW hp' k) f = .ok s e:=by rw [hk];exact h
theorem qN {c:cp} {f:List (Value×SV)->eV} {s:Prop} {e:dw} {k:Nm} (h:qa c f = .ok s e) (hf:∀ es,f es = .ok s e->k∈e.rds):k∈e.rds:=by
 obtain ⟨es,_,hh⟩:=ip h;exact hf es hh
theorem BB {t:TypeId} {x key:SV} {ok:Bool} {s:Prop} {e:dw} (h:jW P t x key ok hp nx = .ok s e) (hr:∀ k:Nm,k.key∈e.rds->bW hp' k=bW hp k):jW P t x key ok hp' nx = .ok s e:=by
 unfold jW at h ⊢;split at h
 ·rename_i k kv d e' hm;split at h
  ·have:k.key∈e.rds:=qN h λes hh=>by cases hh;simp
   exact oK h (hr k this)
  ·cases h
 ·rename_i k cs d' hm;split at h
  ·split at h
   ·have:k.key∈e.rds:=qN h λes hh=>by cases hh;simp
    exact oK h (hr k this)
   ·cases h
  ·cases h
 ·cases h
theorem zg {t:TypeId} {x key:SV} {s:Prop} {e:dw} (h:jp P t x key hp nx = .ok s e) (hr:∀ k:Nm,k.key∈e.rds->bW hp' k=bW hp k):jp P t x key hp' nx = .ok s e:=by
 unfold jp at h ⊢;split at h
 ·rename_i k kv S e' hm;split at h
  ·have:k.key∈e.rds:=qN h λes hh=>by cases hh;simp
   simp only [λc=>lm (c:=c) hr this];exact oK h (hr k this)
  ·cases h
 ·cases h
theorem xE {x q v:SV} {s:Prop} {e:dw} (h:jy x q v hp nx = .ok s e) (hr:∀ k:Nm,k.key∈e.rds->bW hp' k=bW hp k):jy x q v hp' nx = .ok s e:=by
 unfold jy at h ⊢;split at h
 ·rename_i k i;have:k.key∈e.rds:=qN h λes hh=>by cases hh;simp
  simp only [λc=>lm (c:=c) hr this];exact oK h (hr k this)
 ·cases h
theorem vq {t:TypeId} {x key v:SV} {s:Prop} {e:dw} (h:mU P t x key v hp nx = .ok s e) (hr:∀ k:Nm,k.key∈e.rds->bW hp' k=bW hp k):mU P t x key v hp' nx = .ok s e:=by
 unfold mU at h ⊢;split at h
 ·rename_i k kv d e' hm;have:k.key∈e.rds:=qN h λes hh=>by cases hh;simp
  simp only [λc=>lm (c:=c) hr this];exact oK h (hr k this)
 ·rename_i k cs d' hm;split at h
  ·have:k.key∈e.rds:=qN h λes hh=>by cases hh;simp
   simp only [λc=>lm (c:=c) hr this];exact oK h (hr k this)
  ·cases h
 ·cases h
theorem Co {t:TypeId} {x:SV} {lo hi:Option SV} {s:Prop} {e:dw} (h:p_ P t x lo hi hp nx = .ok s e) (hr:∀ k:Nm,k.key∈e.rds->bW hp' k=bW hp k):p_ P t x lo hi hp' nx = .ok s e:=by
 unfold p_ at h ⊢;split at h
 ·rename_i k off n;split at h
  ·have:k.key∈e.rds:=pI h λt cs hh=>by cases hh;simp
   exact oJ h (hr k this)
  ·cases h
 ·exact h
 ·exact h
 ·exact h
 ·rename_i k off;split at h
  ·rename_i n el hu;rw [fe] at h;split at h
   ·rename_i hz;have:k.key∈e.rds:=wC h λhh=>by cases hh;simp
    rw [hz,cd];exact tX h (hr k this)
   ·cases h
  ·cases h
 ·cases h
theorem BC {t:TypeId} {x hi mx:SV} {s:Prop} {e:dw} (h:qL P t x hi mx nx hp = .ok s e) (hr:∀ k:Nm,k.key∈e.rds->bW hp' k=bW hp k):qL P t x hi mx nx hp' = .ok s e:=by
 unfold qL at h ⊢;split at h
 ·split at h
  ·rename_i k _ _;have:k.key∈e.rds:=wC h λhh=>by cases hh;simp
   exact tX h (hr k this)
  ·exact h
  ·exact h
  ·cases h
 ·cases h
theorem FM {t:TypeId} {x:SV} {s:Prop} {e:dw} (h:uL P t x hp nx = .ok s e) (hr:∀ k:Nm,k.key∈e.rds->bW hp' k=bW hp k):uL P t x hp' nx = .ok s e:=by
 unfold uL at h ⊢;split at h
 ·exact h
 ·split at h
  ·rename_i k off n;split at h
   ·have:k.key∈e.rds:=pI h λt cs hh=>by cases hh;simp
    exact oJ h (hr k this)
   ·cases h
  ·exact h
  ·exact h
  ·exact h
  ·rename_i k;split at h
   ·rename_i k1 e1 es hu hk;cases h;have:=hr k (by simp);simp only [hu,this,hk]
   ·cases h
  ·cases h
theorem r9 {tx:TypeId} {z:Nat} {y:SV} {f:Nat->List SV->List Nm->Prop->eV} {s:Prop} {e:dw} (h:oX P tx z y hp f = .ok s e) (hf:∀ m news rds s0,f m news rds s0 = .ok s e->∀ k∈rds,k∈e.rds) (hr:∀ k:Nm,k.key∈e.rds->bW hp' k=bW hp k):oX P tx z y hp' f = .ok s e:=by
 unfold oX at h ⊢;split at h
 ·rename_i k off m;split at h
  ·have:k.key∈e.rds:=pI h λt cs hh=>hf _ _ _ _ hh k.key (by simp)
   exact oJ h (hr k this)
  ·cases h
 ·exact h
 ·exact h
 ·exact h
 ·cases h
theorem zh {tx:TypeId} {z:Nat} {y:SV} {f f':Nat->List SV->List Nm->Prop->eV} {s:Prop} {e:dw} (h:oX P tx z y hp f = .ok s e) (hf:∀ m news rds s0,f m news rds s0 = .ok s e->f' m news rds s0 = .ok s e):oX P tx z y hp f' = .ok s e:=by
 unfold oX at h ⊢;split at h
 ·split at h
  ·obtain ⟨t,cs,hk,hh⟩:=gB h;rw [hk];exact hf _ _ _ _ hh
  ·cases h
 ·split at h
  ·exact hf _ _ _ _ h
  ·cases h
 ·split at h
  ·exact hf _ _ _ _ h
  ·cases h
 ·split at h
  ·exact hf _ _ _ _ h
  ·cases h
 ·cases h
theorem D_ {t d:TypeId} {x:SV} {s:Prop} {e:dw} (h:tz P t d x hp nx = .ok s e) (hr:∀ k:Nm,k.key∈e.rds->bW hp' k=bW hp k):tz P t d x hp' nx = .ok s e:=by
 unfold tz at h ⊢;split at h
 ·exact h
 ·exact h
 ·unfold yT at h ⊢;split at h
  ·split at h
   ·refine r9 h (λm news rds s0 hf=>?_) hr;cases hb:news.all (tw .i32)<;>rw [hb] at hf<;>cases hf;exact λk hk=>hk
   ·refine r9 h (λm news rds s0 hf=>?_) hr;cases hb:news.all (tw .u8)<;>rw [hb] at hf<;>cases hf;exact λk hk=>hk
   ·cases h
  ·cases h
theorem sO {tx:TypeId} {z:Nat} {y:SV} {f:Nat->List SV->List Nm->Prop->eV} {s:Prop} {e:dw} (h:oX P tx z y hp f = .ok s e):∃ m news rds s0,f m news rds s0 = .ok s e:=by
 unfold oX at h;split at h
 ·split at h
  ·obtain ⟨_,_,_,hh⟩:=gB h;exact ⟨_,_,_,_,hh⟩
  ·cases h
 ·split at h
  ·exact ⟨_,_,_,_,h⟩
  ·cases h
 ·split at h
  ·exact ⟨_,_,_,_,h⟩
  ·cases h
 ·split at h
  ·exact ⟨_,_,_,_,h⟩
  ·cases h
 ·cases h
theorem BD {t tx:TypeId} {x y:SV} {s:Prop} {e:dw} (h:pU P t tx x y hp nx = .ok s e) (hr:∀ k:Nm,k.key∈e.rds->bW hp' k=bW hp k):pU P t tx x y hp' nx = .ok s e:=by
 unfold pU at h ⊢;split at h
 ·rename_i e' z hz;refine zh (r9 h (λm news rds s0 hf k hk=>?_) hr) λm news rds s0 hf=>?_
  ·split at hf
   ·obtain ⟨_,_,_,hh⟩:=gB hf;cases hh;exact uE _ hk
   ·cases hf;exact hk
   ·cases hf
  ·split at hf
   ·rename_i k off n;have:k.key∈e.rds:=pI hf λt cs hh=>by cases hh;simp
    simp only [λc=>lm (c:=c) hr this];exact oJ hf (hr k this)
   ·exact hf
   ·cases hf
 ·cases h
theorem Ea {t tx:TypeId} {x y:SV} {s:Prop} {e:dw} (h:tv P t tx x y hp nx = .ok s e) (hr:∀ k:Nm,k.key∈e.rds->bW hp' k=bW hp k):tv P t tx x y hp' nx = .ok s e:=by
 unfold tv at h ⊢;split at h
 ·rename_i k off n e' hz;have hk:k.key∈e.rds:=pI h λt cs hh=>by obtain ⟨m,news,rds,s0,hf⟩:=sO hh;cases hf;simp
  obtain ⟨t',cs,hc,hf⟩:=gB h;rw [hr k hk,hc];simp only [oW];refine zh (r9 hf (λm news rds s0 hf j hj=>?_) hr) λm news rds s0 hf=>?_
  ·cases hf;exact uE _ hj
  ·simp only [λc=>lm (c:=c) hr hk];exact hf
 ·cases h
theorem Cp {op:BinOp} {t:TypeId} {x y:SV} {s:Prop} {e:dw} (h:qd P op t x y hp nx = .ok s e) (hr:∀ k:Nm,k.key∈e.rds->bW hp' k=bW hp k):qd P op t x y hp' nx = .ok s e:=by
 unfold qd at h ⊢;split at h;all_goals first|exact h|cases h
def lF (o:Op):List Tmp:=o.operands.toList.filterMap fun | .tmp t=>some t|_=>none
theorem rE {g:Bool} {fr fr':Fr} {o:Operand} (h:∀ t,o = .tmp t->cL fr' t=cL fr t):dB g fr' o=dB g fr o:=by
 cases o with
 | tmp t=>simp [dB,h t rfl]
 | _=>rfl
theorem pW {o:Op} {x:Operand} (hx:x∈o.operands.toList) {t:Nat} (ht:x = .tmp t):t∈lF o:=by
 subst ht;exact List.mem_filterMap.2 ⟨_,hx,rfl⟩
set_option maxHeartbeats 1000000 in
theorem pX {g:Bool} {fr fr':Fr} {ty:TypeId} {o:Op} {s:Prop} {e:dw} (h:kH P g fr hp nx ty o = .ok s e) (hf:∀ t∈lF o,cL fr' t=cL fr t) (hr:∀ k:Nm,k.key∈e.rds->bW hp' k=bW hp k) :
  kH P g fr' hp' nx ty o = .ok s e:=by
 have raw:∀ (x:Operand),x∈o.operands.toList->vW fr' x=vW fr x:=λx hx=>by
  cases x with
  | tmp t=>exact hf t (pW hx rfl)
  | _=>rfl
 have ev:∀ (g:Bool) (x:Operand),x∈o.operands.toList->dB g fr' x=dB g fr x:=λg x hx=>rE λt ht=>hf t (pW hx ht)
 cases o<;>simp only [kH,Op.operands] at h ev raw ⊢;case move x=>rw [ev g x (by simp)];exact h
 case assign x=>rw [ev g x (by simp)];exact h
 case pick c x y=>rw [ev g c (by simp),raw x (by simp),raw y (by simp)];exact h
 case alloc t=>exact h
 case box t x=>rw [ev g x (by simp)];exact h
 case build t ps =>
  rw [show (ps.toList.map λp=>(p.1,dB g fr' p.2))=ps.toList.map λp=>(p.1,dB g fr p.2) from pH λp hp=>by rw [ev g p.2 (by simpa using ⟨p.1,by simpa using hp⟩)]];exact h
 case buildSlice t n ps =>
  rw [show (ps.toList.map λp=>(p.1,dB g fr' p.2))=ps.toList.map λp=>(p.1,dB g fr p.2) from pH λp hp=>by rw [ev g p.2 (by simpa using ⟨p.1,by simpa using hp⟩)]];exact h
 case insert t m k x=>rw [ev g m (by simp),ev g k (by simp),ev g x (by simp)];exact vq h hr
 case mapEntry t m k=>rw [ev g m (by simp),ev g k (by simp)];exact zg h hr
 case entryStore t m q x=>rw [ev g m (by simp),ev g q (by simp),ev g x (by simp)];exact xE h hr
 case load t x=>rw [ev g x (by simp)];exact D9 h hr
 case store t x y=>rw [ev g x (by simp),ev g y (by simp)];exact Cn h hr
 case nilCheck x =>
  rw [ev g x (by simp)];split at h
  ·exact h
  ·exact h
  ·exact h
  ·exact h
  ·cases h
 case binOp op t x y yt=>rw [ev g x (by simp),ev g y (by simp)];exact Cp h hr
 case unOp op t x=>rw [ev g x (by simp)];exact h
 case convert a b x=>rw [ev g x (by simp)];exact D_ h hr
 case makeFunc fn first caps =>
  split at h
  ·rw [show caps.toList.map (dB g fr')=caps.toList.map (dB g fr) from pH λp hp=>ev g p (by simp;exact .inr (by simpa using hp))];exact h
  ·split at h
   ·rename_i y hfl;rw [ev g y (by simp [hfl])];exact h
   ·cases h
  ·cases h
 case makeMap t r=>cases r<;>first|exact h|cases h
 case makeSlice t l c=>rw [ev g l (by simp),ev g c (by simp)];exact h
 case slice t x lo hi mx =>
  split at h
  ·rw [ev g x (by simp)];rw [show lo.map (dB g fr')=lo.map (dB g fr) from by cases lo<;>simp;exact ev g _ (by simp)];rw [show hi.map (dB g fr')=hi.map (dB g fr) from by cases hi<;>simp;exact ev g _ (by simp)];exact Co h hr
  ·split at h
   ·rw [ev g x (by simp),ev g _ (by simp),ev g _ (by simp)];exact BC h hr
   ·cases h
 case fieldAddr t x f=>rw [ev g x (by simp)];exact yh h hr
 case field t x f=>rw [ev g x (by simp)];exact h
 case indexAddr t x i=>rw [ev g x (by simp),ev g i (by simp)];exact yi h hr
 case index t x i=>rw [ev g x (by simp),ev g i (by simp)];exact h
 case lookup t x i ok=>rw [ev g x (by simp),ev g i (by simp)];exact BB h hr
 case mapUpdate t m k x=>rw [ev g m (by simp),ev g k (by simp),ev g x (by simp)];exact vq h hr
 case extract x i=>rw [ev g x (by simp)];exact h
 case makeInterface t x=>rw [ev g x (by simp)];exact h
 case typeAssert x t a ok=>rw [ev g x (by simp)];exact h
 case range t x=>rw [ev g x (by simp)];exact h
 case next x str =>
  rw [ev g x (by simp)];unfold y_ at h ⊢;cases str with
  | false=>cases h
  | true =>
   simp only [cd] at h ⊢;split at h
   ·rename_i k hx;obtain ⟨s,pos,hk,hf⟩:=Ca h;have hm:k.key∈e.rds:=by cases hb:decide (pos<s.size)<;>rw [hb] at hf<;>cases hf<;>simp
    simp only [λc=>lm (c:=c) hr hm,hr k hm,hk,LG];exact hf
   ·cases h
 case call c =>
  obtain ⟨callee,args,argTypes⟩:=c;split at h
  ·rename_i b hcb;simp only at hcb;subst hcb;simp only [Call.operands] at ev;have ev':∀ x∈args.toList,dB g fr' x=dB g fr x:=λx hx=>ev g x (by simp;simpa using hx);split at h
   ·rename_i x t hargs htys;simp only at hargs htys;rw [ev' x (by rw [hargs];simp)];exact FM h hr
   ·rename_i x y t tx hargs htys;simp only at hargs htys;rw [ev' x (by rw [hargs];simp),ev' y (by rw [hargs];simp)];split at h
    ·rename_i e' z hst;cases hz:ya P e' with
     | false=>rw [hz] at h;cases h
     | true =>
      rw [hz] at h;simp only [hst,hz,cd] at h ⊢;exact BD h hr
    ·cases h
   ·rename_i x y t tx hargs htys;simp only at hargs htys;rw [ev' x (by rw [hargs];simp),ev' y (by rw [hargs];simp)];exact Ea h hr
   ·rw [show args.toList.map (dB g fr')=args.toList.map (dB g fr) from pH ev'];exact h
   ·rw [show args.toList.map (dB g fr')=args.toList.map (dB g fr) from pH ev'];exact h
   ·cases h
  ·cases h
 all_goals cases h
def qe (hp:Hp) (nx:Nat) (e:dw):Prop:=nx<=e.nx/\∀ p∈e.upd,(p.1=Nm.t nx/\e.nx=nx+1)\/(p.1.key∈e.rds/\∃ k:Nm,k.key=p.1.key/\bW hp k≠.unborn)
theorem dW {e:dw} (h:e.upd=[]/\e.nx=nx):qe hp nx e:=⟨by rw [h.2];exact cF _,λp hp=>by rw [h.1] at hp;cases hp⟩
theorem ed {x:SV} {s:Prop} {e:dw} (h:ew x nx = .ok s e):e.upd=[]/\e.nx=nx:=by cases h;exact ⟨rfl,rfl⟩
theorem r_ {t:TypeId} {cs:List SV} {off:Nat} {rds:List Nm} {s:Prop} {e:dw} (h:ku P t cs off rds nx = .ok s e):e.upd=[]/\e.nx=nx:=by
 unfold ku at h;split at h<;>cases h<;>exact ⟨rfl,rfl⟩
theorem zi {t:TypeId} {x:SV} {s:Prop} {e:dw} (h:nZ P t x hp nx = .ok s e):e.upd=[]/\e.nx=nx:=by
 unfold nZ at h;split at h
 ·obtain ⟨_,_,_,hh⟩:=gB h;exact r_ hh
 ·exact r_ h
 ·cases h
theorem G_ {op:BinOp} {k:IntKind} {a b:Int} {s:Prop} {e:dw} (h:z_ op k a b nx = .ok s e):e.upd=[]/\e.nx=nx:=by cases op<;>simp only [z_,ew] at h<;>cases h<;>exact ⟨rfl,rfl⟩
theorem Ha {op:BinOp} {a b:ByteArray} {s:Prop} {e:dw} (h:Ck op a b nx = .ok s e):e.upd=[]/\e.nx=nx:=by cases op<;>simp only [Ck,ew] at h<;>cases h<;>exact ⟨rfl,rfl⟩
theorem tY {op:BinOp} {t:TypeId} {r:Bool} {rds:List Nm} {s:Prop} {e:dw} (h:o8 P op t r rds nx = .ok s e):e.upd=[]/\e.nx=nx:=by
 unfold o8 at h;split at h
 ·cases ho:nU op with
  | false=>rw [ho] at h;cases h
  | true=>rw [ho] at h;cases h;exact ⟨rfl,rfl⟩
 ·cases h
theorem Eb {op:BinOp} {t:TypeId} {x y:SV} {s:Prop} {e:dw} (h:qd P op t x y hp nx = .ok s e):e.upd=[]/\e.nx=nx:=by
 unfold qd at h;split at h
 ·rename_i k a k' b;cases h1:ug op with
  | true=>rw [h1] at h;cases op<;>simp only [wy] at h<;>cases h<;>exact ⟨rfl,rfl⟩
  | false =>
   rw [h1] at h;cases h2:(k==k') with
   | true=>simp only [h2,cd,cj] at h;exact G_ h
   | false=>simp only [h2,cj] at h;cases h
 ·exact Ha h
 ·split at h
  ·cases ho:nU op with
   | false=>rw [ho] at h;cases h
   | true=>rw [ho] at h;exact ed h
  ·cases h
 ·split at h
  ·cases ho:(nU op && !P.eqGuardType P.depth t) with
   | false=>rw [ho] at h;cases h
   | true =>
    rw [ho] at h;unfold wx at h;split at h
    ·rename_i l n r _ _ _;rename_i xs ys _ _ _ _ _ _;generalize hb:((n==l.length&&(_==n&&_==n))&&(q8 l _&&q8 l _))=bb at h;cases bb with
     | false=>cases h
     | true=>exact ed h
    ·cases h
  ·cases h
 ·exact tY h
 ·exact tY h
 ·exact tY h
 ·cases h
theorem Ec {t:TypeId} {x i:SV} {s:Prop} {e:dw} (h:uc P t x i nx = .ok s e):e.upd=[]/\e.nx=nx:=by
 unfold uc at h;split at h
 ·split at h
  ·split at h
   ·rename_i s' r hp;cases h;exact r_ hp
   ·cases h
  ·cases h
 ·split at h
  ·cases h;exact ⟨rfl,rfl⟩
  ·cases h
 ·cases h
theorem Hb {t:TypeId} {x:SV} {s:Prop} {e:dw} (h:uL P t x hp nx = .ok s e):e.upd=[]/\e.nx=nx:=by
 unfold uL at h;split at h
 ·exact ed h
 ·split at h
  ·split at h
   ·obtain ⟨_,_,_,hh⟩:=gB h;cases hh;exact ⟨rfl,rfl⟩
   ·cases h
  ·split at h
   ·exact ed h
   ·cases h
  ·split at h
   ·exact ed h
   ·cases h
  ·split at h
   ·exact ed h
   ·cases h
  ·split at h
   ·cases h;exact ⟨rfl,rfl⟩
   ·cases h
  ·cases h
theorem Ed {t:TypeId} {x:SV} {lo hi:Option SV} {s:Prop} {e:dw} (h:p_ P t x lo hi hp nx = .ok s e):e.upd=[]/\e.nx=nx:=by
 unfold p_ at h;split at h
 ·split at h
  ·obtain ⟨_,_,_,hh⟩:=gB h;cases hh;exact ⟨rfl,rfl⟩
  ·cases h
 ·split at h
  ·cases h;exact ⟨rfl,rfl⟩
  ·cases h
 ·split at h
  ·cases h;exact ⟨rfl,rfl⟩
  ·cases h
 ·split at h
  ·cases h;exact ⟨rfl,rfl⟩
  ·cases h
 ·split at h
  ·rw [fe] at h;split at h
   ·have:=(nh h).2;cases this;exact ⟨rfl,rfl⟩
   ·cases h
  ·cases h
 ·cases h
theorem zj {t:TypeId} {x:SV} {f:Nat} {s:Prop} {e:dw} (h:kw P t x f hp nx = .ok s e):e.upd=[]/\e.nx=nx:=by
 unfold kw at h;split at h
 ·split at h
  ·cases h;exact ⟨rfl,rfl⟩
  ·cases h;exact ⟨rfl,rfl⟩
  ·cases h
 ·cases h
theorem zk {t:TypeId} {x i:SV} {s:Prop} {e:dw} (h:li P t x i hp nx = .ok s e):e.upd=[]/\e.nx=nx:=by
 unfold li at h;split at h
 ·split at h
  ·split at h
   ·have:=(nh h).2;cases this;exact ⟨rfl,rfl⟩
   ·cases h;exact ⟨rfl,rfl⟩
   ·cases h
  ·split at h
   ·split at h
    ·cases h;exact ⟨rfl,rfl⟩
    ·cases h;exact ⟨rfl,rfl⟩
    ·cases h
   ·cases h
 ·cases h
theorem wD {t:TypeId} {x key:SV} {ok:Bool} {s:Prop} {e:dw} (h:jW P t x key ok hp nx = .ok s e):e.upd=[]/\e.nx=nx:=by
 unfold jW at h;split at h
 ·split at h
  ·obtain ⟨_,_,hh⟩:=ip h;cases hh;exact ⟨rfl,rfl⟩
  ·cases h
 ·split at h
  ·split at h
   ·obtain ⟨_,_,hh⟩:=ip h;cases hh;exact ⟨rfl,rfl⟩
   ·cases h
  ·cases h
 ·cases h
theorem BE {t:TypeId} {x:SV} {s:Prop} {e:dw} (h:qK P t x nx = .ok s e):e.upd=[]/\e.nx=nx:=by
 unfold qK at h;split at h
 ·cases h
 ·exact ed h
 ·cases h
theorem Cq {x:SV} {a:TypeId} {ok:Bool} {s:Prop} {e:dw} (h:sA P x a ok nx = .ok s e):e.upd=[]/\e.nx=nx:=by
 unfold sA at h;split at h
 ·cases h
 ·split at h
  ·rw [fe] at h;split at h
   ·exact ed h
   ·rw [fe] at h;split at h
    ·split at h
     ·exact ed h
     ·cases h
    ·cases h
  ·rw [fe] at h;split at h
   ·split at h
    ·exact ed h
    ·cases h
   ·cases h
  ·cases h
 ·cases h
theorem wE {mx:Bool} {l:List SV} {s:Prop} {e:dw} (h:pV mx l nx = .ok s e):e.upd=[]/\e.nx=nx:=by
 unfold pV at h;split at h
 ·split at h
  ·exact ed h
  ·cases h
 ·cases h
theorem lK {e:dw} {c:cp} (h:e.upd=[(Nm.t nx,c)]/\e.nx=nx+1):qe hp nx e:=⟨by rw [h.2];exact od _,λp hp=>by rw [h.1] at hp;simp at hp;subst hp;exact .inl ⟨rfl,h.2⟩⟩
theorem Cr {t tx:TypeId} {x y:SV} {s:Prop} {e:dw} (h:pU P t tx x y hp nx = .ok s e):qe hp nx e:=by
 unfold pU at h;split at h
 ·obtain ⟨m,news,rds,s0,hf⟩:=sO h;split at hf
  ·rename_i k off n;obtain ⟨t',cs,hk,hh⟩:=gB hf;cases hh;refine ⟨od _,λp hp=>?_⟩;simp at hp;rcases hp with rfl|rfl
   ·exact .inl ⟨rfl,rfl⟩
   ·exact .inr ⟨by simp [g8],k,by simp [g8],by rw [hk];simp⟩
  ·cases hf;exact lK ⟨rfl,rfl⟩
  ·cases hf
 ·cases h
theorem FN {t tx:TypeId} {x y:SV} {s:Prop} {e:dw} (h:tv P t tx x y hp nx = .ok s e):qe hp nx e:=by
 unfold tv at h;split at h
 ·rename_i k off n e' hz;obtain ⟨t',cs,hk,hf⟩:=gB h;obtain ⟨m,news,rds,s0,hf⟩:=sO hf;cases hf;exact ⟨cF _,λp hp=>by simp at hp;subst hp;exact .inr ⟨by simp [g8],k,by simp [g8],by rw [hk];simp⟩⟩
 ·cases h
theorem Ee {t:TypeId} {x v:SV} {s:Prop} {e:dw} (h:oj P t x v hp nx = .ok s e):qe hp nx e:=by
 unfold oj at h;split at h
 ·rename_i k off;obtain ⟨t',cs,hk,hh⟩:=gB h;cases hh;exact ⟨cF _,λp hp=>by simp at hp;subst hp;exact .inr ⟨by simp [g8],k,by simp [g8],by rw [hk];simp⟩⟩
 ·cases h
theorem Aj {t:TypeId} {x q:SV} {s:Prop} {e:dw} (h:jp P t x q hp nx = .ok s e):qe hp nx e:=by
 unfold jp at h;split at h
 ·rename_i k kv S e' hm;split at h
  ·obtain ⟨es,hk,hh⟩:=ip h;cases hh;exact ⟨cF _,λp hp=>by simp at hp;subst hp;exact .inr ⟨by simp [g8],k,by simp [g8],by rw [hk];simp⟩⟩
  ·cases h
 ·cases h
theorem yj {x q v:SV} {s:Prop} {e:dw} (h:jy x q v hp nx = .ok s e):qe hp nx e:=by
 unfold jy at h;split at h
 ·rename_i k i;obtain ⟨es,hk,hh⟩:=ip h;cases hh;exact ⟨cF _,λp hp=>by simp at hp;subst hp;exact .inr ⟨by simp [g8],k,by simp [g8],by rw [hk];simp⟩⟩
 ·cases h
theorem wF {t:TypeId} {x q v:SV} {s:Prop} {e:dw} (h:mU P t x q v hp nx = .ok s e):qe hp nx e:=by
 unfold mU at h;split at h
 ·rename_i k kv d e' hm;obtain ⟨es,hk,hh⟩:=ip h;cases hh;exact ⟨cF _,λp hp=>by simp at hp;subst hp;exact .inr ⟨by simp [g8],k,by simp [g8],by rw [hk];simp⟩⟩
 ·rename_i k cs d' hm;split at h
  ·obtain ⟨es,hk,hh⟩:=ip h;cases hh;exact ⟨cF _,λp hp=>by simp at hp;subst hp;exact .inr ⟨by simp [g8],k,by simp [g8],by rw [hk];simp⟩⟩
  ·cases h
 ·cases h
set_option maxHeartbeats 1000000 in
theorem yk {g:Bool} {fr:Fr} {ty:TypeId} {o:Op} {s:Prop} {e:dw} (h:kH P g fr hp nx ty o = .ok s e):qe hp nx e:=by
 cases o<;>simp only [kH] at h;case move x=>exact dW (ed h)
 case assign x=>exact dW (ed h)
 case pick c x y =>
  split at h
  ·unfold yJ at h;split at h
   ·exact dW (ed h)
   ·rename_i k p k' q _ _;cases hk:(k==k') with
    | false=>rw [hk] at h;exact dW (ed h)
    | true=>rw [hk] at h;exact dW (ed h)
   ·exact dW (ed h)
  ·cases h
 case alloc t =>
  unfold v6 at h;split at h
  ·cases h;exact lK ⟨rfl,rfl⟩
  ·cases h
 case box t x=>cases h;exact lK ⟨rfl,rfl⟩
 case build t ps =>
  unfold v_ at h;split at h
  ·split at h
   ·split at h
    ·cases h;exact dW ⟨rfl,rfl⟩
    ·cases h
   ·split at h
    ·split at h
     ·cases h;exact dW ⟨rfl,rfl⟩
     ·cases h
    ·cases h
  ·cases h
 case buildSlice t n ps =>
  unfold o7 at h;split at h
  ·split at h
   ·rename_i _ e1 q hq _ z hz;generalize hb:((Nat.ble (n*q) 16777216 && !(n*q==0))&&z.length==q)=bb at h;cases bb with
    | false=>cases h
    | true =>
     simp only [cd] at h;split at h
     ·cases h;exact lK ⟨rfl,rfl⟩
     ·cases h
   ·cases h
  ·cases h
 case insert t m k x=>exact wF h
 case mapEntry t m k=>exact Aj h
 case entryStore t m q x=>exact yj h
 case load t x=>exact dW (zi h)
 case store t x y=>exact Ee h
 case nilCheck x =>
  split at h
  ·exact dW (ed h)
  ·exact dW (ed h)
  ·exact dW (ed h)
  ·rw [fe] at h;split at h
   ·exact dW (ed h)
   ·cases h
  ·cases h
 case binOp op t x y yt=>exact dW (Eb h)
 case unOp op t x =>
  unfold GR at h;split at h
  ·exact dW (ed h)
  ·exact dW (ed h)
  ·cases h
 case convert a b x =>
  unfold tz at h;split at h
  ·split at h
   ·exact dW (ed h)
   ·cases h
  ·split at h
   ·exact dW (ed h)
   ·split at h
    ·cases h;exact lK ⟨rfl,rfl⟩
    ·cases h
   ·cases h
  ·unfold yT at h;split at h
   ·split at h
    ·obtain ⟨m,news,rds,s0,hf⟩:=sO h;cases hb:news.all (tw .i32)<;>rw [hb] at hf<;>cases hf;exact dW ⟨rfl,rfl⟩
    ·obtain ⟨m,news,rds,s0,hf⟩:=sO h;cases hb:news.all (tw .u8)<;>rw [hb] at hf<;>cases hf;exact dW ⟨rfl,rfl⟩
    ·cases h
   ·cases h
 case makeFunc fn first caps =>
  split at h
  ·cases hz:(first.size==0) with
   | false=>rw [hz] at h;cases h
   | true=>rw [hz] at h;exact dW (ed h)
  ·split at h
   ·rw [fe] at h;split at h
    ·exact dW (ed h)
    ·cases h
   ·cases h
  ·cases h
 case makeMap t r =>
  split at h
  ·cases h;exact lK ⟨rfl,rfl⟩
  ·cases h
 case makeSlice t l c =>
  unfold r8 at h;split at h
  ·split at h
   ·cases h;exact lK ⟨rfl,rfl⟩
   ·cases h
  ·cases h
 case slice t x lo hi mx =>
  split at h
  ·exact dW (Ed h)
  ·split at h
   ·unfold qL at h;split at h
    ·split at h
     ·have:=(nh h).2;cases this;exact lK ⟨rfl,rfl⟩
     ·cases h;exact lK ⟨rfl,rfl⟩
     ·cases h;exact lK ⟨rfl,rfl⟩
     ·cases h
    ·cases h
   ·cases h
 case fieldAddr t x f=>exact dW (zj h)
 case field t x f =>
  unfold v8 at h;split at h
  ·exact dW (r_ h)
  ·cases h
 case indexAddr t x i=>exact dW (zk h)
 case index t x i=>exact dW (Ec h)
 case lookup t x i ok=>exact dW (wD h)
 case mapUpdate t m k x=>exact wF h
 case range t x =>
  unfold yZ at h;split at h
  ·split at h
   ·cases h;exact lK ⟨rfl,rfl⟩
   ·cases h
  ·cases h
 case next x str =>
  unfold y_ at h;cases str with
  | false=>cases h
  | true =>
   simp only [cd] at h;split at h
   ·rename_i k hx;obtain ⟨s,pos,hk,hf⟩:=Ca h;cases hb:decide (pos<s.size) with
    | true =>
     rw [hb] at hf;cases hf;exact ⟨cF _,λp hp=>by simp at hp;subst hp;exact .inr ⟨by simp [g8],k,by simp [g8],by rw [hk];simp⟩⟩
    | false=>rw [hb] at hf;cases hf;exact dW ⟨rfl,rfl⟩
   ·cases h
 case makeInterface t x=>exact dW (BE h)
 case typeAssert x t a ok=>exact dW (Cq h)
 case extract x i =>
  unfold sJ at h;split at h
  ·split at h
   ·exact dW (ed h)
   ·cases h
  ·cases h
 case call c =>
  split at h
  ·split at h
   ·exact dW (Hb h)
   ·split at h
    ·rename_i e' z hst;cases hz:ya P e' with
     | false=>rw [hz] at h;cases h
     | true=>rw [hz] at h;exact Cr h
    ·cases h
   ·exact FN h
   ·exact dW (wE h)
   ·exact dW (wE h)
   ·cases h
  ·cases h
 all_goals cases h
end
section
open Go.RowKit
variable {X:Cx} {hp:Hp} {nx:Nat} {ids:dD} {w:World}
def gp (dst:Option Tmp) (x:SV) (fr:Fr):Fr:=match dst with
 | some d=>(d,x)::fr
 | none=>fr
def Br (b:Bool) (A B:Prop):Prop:=(b=true->A)/\(b=false->B)
theorem Br.mk {b:Bool} {A B:Prop} (h:b=true->A) (g:b=false->B):Br b A B:=⟨h,g⟩
def mw (ops:Array Oper) (fr:Fr) (j:Nat) (want:Bool):Option Bool :=
 match (ops[j]?).bind (·.dst) with
 | some d=>match cL fr d with
  | .v (.bool b)=>some (bif want then b else !b)
  | .gd g (.v (.bool b))=>some (g&&(bif want then b else !b))
  | .gd g _=>bif g then none else some false
  | _=>none
 | none=>none
def Hc:Op->Bool
 | .move _=>true
 | .assign _=>true
 | .pick _ _ _=>true
 | .load _ _=>true
 | .nilCheck _=>true
 | .binOp _ _ _ _ _=>true
 | .unOp _ _ _=>true
 | .convert _ _ _=>true
 | .slice _ _ _ _ none=>true
 | .fieldAddr _ _ _=>true
 | .field _ _ _=>true
 | .indexAddr _ _ _=>true
 | .index _ _ _=>true
 | .lookup _ _ _ _=>true
 | .extract _ _=>true
 | .build _ _=>true
 | .call c=>match c.callee with
  | .builtin .len=>true
  | .builtin .min=>true
  | .builtin .max=>true
  | _=>false
 | _=>false
def LI (P:Program):Op->Bool
 | .indexAddr t _ (.tmp _)=>(tU P t).isSome
 | .index t _ (.tmp _)=>(tU P t).isSome
 | _=>false
def lL (P:Program) (o:Op):Bool:=Hc o && !LI P o
def i_ (g:Bool) (fr:Fr) (o:Op):Option (FuncId×List SV) :=
 match o with
 | .call c=>match c.callee with
  | .value f=>match dB g fr f with
   | .v (.func (.func id) fs cs)=>bif fs.size==0&&cs.size==0 then some (id,c.args.toList.map (dB g fr)) else none
   | .clo id caps=>some (id,c.args.toList.map (dB g fr)++caps)
   | _=>none
  | _=>none
 | _=>none
structure sP (hp b u:Hp) (rds:List Nm):Prop where
 keys:∀ p∈u,∃ q∈b,q.1.key=p.1.key
 drop:∀ p∈b,(∃ q∈u,q.1.key=p.1.key)\/p.1.key∈rds
 eq:∀ k,bW (u++hp) k=bW (b++hp) k
theorem sP.refl (hp b:Hp) (rds:List Nm):sP hp b b rds:=⟨λp h=>⟨p,h,rfl⟩,λp h=>.inl ⟨p,h,rfl⟩,λ_=>rfl⟩
theorem sP.local {hp hp' b u:Hp} {rds:List Nm} (h:sP hp b u rds) (hr:∀ k:Nm,k.key∈rds->bW hp' k=bW hp k):bW (u++hp')=bW (b++hp'):=funext λk=>by
 have e:=h.eq k
 rw [fG,fG] at e
 rw [fG,fG]
 by_cases hu:∃ p∈u,p.1.key=k.key
 ·have hb:∃ p∈b,p.1.key=k.key:=by
   obtain ⟨p,hp1,hp2⟩:=hu;obtain ⟨q,hq1,hq2⟩:=h.keys p hp1;exact ⟨q,hq1,hq2.trans hp2⟩
  rw [if_pos hu,if_pos hb] at e ⊢;exact e
 ·by_cases hb:∃ p∈b,p.1.key=k.key
  ·rw [if_neg hu,if_pos hb] at e ⊢;obtain ⟨p,hp1,hp2⟩:=hb;rcases h.drop p hp1 with ⟨q,hq1,hq2⟩|hd
   ·exact absurd ⟨q,hq1,hq2.trans hp2⟩ hu
   ·rw [hp2] at hd;rw [hr k hd];exact e
  ·rw [if_neg hu,if_neg hb]
theorem HeapC.congr {hp':Hp} (h:HeapC X hp ids w) (he:bW hp=bW hp'):HeapC X hp' ids w:=by
 obtain ⟨h1,h2,h3⟩:=h;exact ⟨he▸h1,λk=>by rw [←he];exact h2 k,λk=>by rw [←he];exact h3 k⟩
theorem cU.congr {hp':Hp} {s:SV} {x:Value} (h:cU X hp ids w s x) (he:bW hp=bW hp'):cU X hp' ids w s x:=by
 unfold cU at h ⊢;rw [←he];exact h
theorem fm.congr {hp1 hp2:Hp} {ids':dD} {w':World} (h:fm X hp ids w hp1 ids' w') (he:bW hp1=bW hp2):fm X hp ids w hp2 ids' w':=by
 unfold fm at h ⊢;rw [←he];exact h
def BN (d:Bool) (P:Program) (f:FuncId) (args:List SV) (hp:Hp) (nx:Nat) (K:SV->Hp->Nat->List Nm->Prop):Prop :=
∃(args':List SV) (hin:Hp) (m:Nat) (Post:SV->Hp->Nat->Prop) (σ:Nm->Option Nm) (bor:List Nm),cS P f args' hin m Post/\vp P (bW hp) (bW hin) σ (mq bor)/\q_ σ/\(∀ k:Nm,m<=k.base->σ k=none/\bW hin k = .unborn)/\(∀ k1 k2 j,σ k1=some j->σ k2=some j->k1=k2)/\(∀ k j,σ k=some j->(bW hin k).live=true\/(bW hin k = .dead/\bW hp j = .dead)\/(bW hin k = .void/\bW hp j = .void))/\args.length=args'.length/\(∀ (i:Nat) (x y:SV),args[i]? = some x->args'[i]? = some y->jK P (bW hp) (bW hin) σ (mq bor) x y)/\(∃ res hp' nx',Post res hp' nx')/\(d=true->∀ res hp' nx' res2 hp2 nx2,Post res hp' nx'->Post res2 hp2 nx2->res=res2/\hp'=hp2/\nx'=nx2) /\
 ∀res hp' nx',Post res hp' nx'->oT hp'=true/\(bor=[]\/(res.nim=true/\tW hp'=true))/\∃ u,sP hp (back σ nx m hp' hp) u (bor.map Nm.key++mP σ m)/\K (iz (gc σ nx) res) u (nx+nx') (bor.map Nm.key++mP σ m)
def eV.wp':eV->(SV->Hp->Nat->List Nm->Prop)->Prop
 | .bad,_=>False
 | .ok s e,K=>x6 s (K e.val e.upd e.nx e.rds)
structure uQ (hp:Hp) (nx:Nat) (upd:Hp) (nx':Nat) (rds:List Nm):Prop where
 le:nx<=nx'
 keys:∀ p∈upd,(nx<=p.1.base/\p.1.base<nx')\/(p.1.key∈rds/\∃ k:Nm,k.key=p.1.key/\bW hp k≠.unborn)
def nV (P:Program) (o:Oper) (fr:Fr) (hp:Hp) (nx:Nat) (K:SV->Hp->Nat->List Nm->Prop):Prop :=
∀(X:Cx) (ids:dD) (w:World) (fr':Fr) (hp':Hp) (a:Act),X.P=P->HeapC X hp' ids w->X.m<=nx->(∀ d,cU X hp' ids w (cL fr' d) (a.tmps.getD d undef))->(∀ t∈lF o.op,cL fr' t=cL fr t)->bW hp' (Nm.t nx) = .unborn->(∀ val upd nx' rds,K val upd nx' rds->(∀ k:Nm,nx<=k.base->k.base<nx'->bW hp' k = .unborn)/\∀ k:Nm,k.key∈rds->bW hp' k=bW hp k) ->
 ∀(KK:Act->World->Prop) (Q:Exit->Act->World->Prop),(∀ val upd nx' rds x w' ids',K val upd nx' rds->uQ hp nx upd nx' rds->HeapC X (upd++hp') ids' w'->fm X hp' ids w (upd++hp') ids' w'->cU X (upd++hp') ids' w' val x->KK (a.put o.dst x) w')->o.wp P a w KK Q
def tA (e:dw) (v:SV) (u:Hp) (n:Nat) (r:List Nm):Prop:=v=e.val/\u=e.upd/\n=e.nx/\r=e.rds
def wG (dt:Bool) (P:Program) (o:Oper) (fr:Fr) (hp:Hp) (nx:Nat) (K:SV->Hp->Nat->List Nm->Prop):Prop:=match dt with
 | false=>nV P o fr hp nx K
 | true=>∃ e:dw,nx<=e.nx/\K e.val e.upd e.nx e.rds/\nV P o fr hp nx (tA e)
theorem nV.mono {P:Program} {o:Oper} {fr fr2:Fr} {hp:Hp} {nx:Nat} {K K':SV->Hp->Nat->List Nm->Prop} (h:nV P o fr hp nx K) (hf:cL fr=cL fr2) (hK:∀ v u n r,K v u n r->K' v u n r):nV P o fr2 hp nx K' :=
 λX ids w fr' hp' a hP h1 h2 h3 h4 h5 h6 KK Q h7=>h X ids w fr' hp' a hP h1 h2 h3 (λt ht=>by rw [hf];exact h4 t ht) h5 (λv u n r hk=>h6 v u n r (hK v u n r hk)) KK Q (λv u n r x w' ids' hk=>h7 v u n r x w' ids' (hK v u n r hk))
theorem wG.mono {dt:Bool} {P:Program} {o:Oper} {fr fr2:Fr} {hp:Hp} {nx:Nat} {K K':SV->Hp->Nat->List Nm->Prop} (h:wG dt P o fr hp nx K) (hf:cL fr=cL fr2) (hK:∀ v u n r,K v u n r->K' v u n r):wG dt P o fr2 hp nx K':=by
 cases dt with
 | false=>exact nV.mono (K:=K) h hf hK
 | true =>
  obtain ⟨e,h1,h2,h3⟩:=h;exact ⟨e,h1,hK _ _ _ _ h2,h3.mono hf λ_ _ _ _ h=>h⟩
def uR:Op->Bool
 | .lookup _ _ _ _=>false
 | .mapEntry _ _ _=>false
 | _=>true
def ky (dt:Bool) (P:Program) (g:Bool) (o:Oper) (fr:Fr) (hp:Hp) (nx:Nat) (K:SV->Hp->Nat->List Nm->Prop):Prop :=
 match i_ g fr o.op with
 | some c=>BN dt P c.1 c.2 hp nx K
 | none=>(g=true/\uR o.op=true/\wG dt P o fr hp nx K)\/(kH P g fr hp nx o.type o.op).wp' K
def zl (g:Bool) (r:eV) (nx:Nat) (K:SV->Hp->Nat->List Nm->Prop):Prop :=
 (g=false/\K (.gd g .any) [] nx [])\/match r with
 | .bad=>False
 | .ok s e=>match e.upd with
  | []=>x6 (g=true->s) (K (.gd g e.val) [] nx e.rds)
  | _=>False
def iv (dt:Bool) (P:Program) (ops:Array Oper) (o:Oper) (fr:Fr) (hp:Hp) (nx:Nat) (K:SV->Hp->Nat->List Nm->Prop):Prop :=
 match o.guard with
 | none=>ky dt P true o fr hp nx K
 | some jw=>match mw ops fr jw.1 jw.2 with
  | some g=>bif lL P o.op then zl g (kH P g fr hp nx o.type o.op) nx K else Br g (ky dt P g o fr hp nx K) (K (.v undef) [] nx [])
  | none=>False
def lM (P:Program) (ops:Array Oper):List Oper->Fr->Hp->Nat->(Fr->Hp->Nat->Prop)->Prop
 | [],fr,hp,nx,K=>K fr hp nx
 | o::rest,fr,hp,nx,K=>iv false P ops o fr hp nx λval upd nx' _=>lM P ops rest (gp o.dst val fr) (upd++hp) nx' K
theorem AV {fr:Fr} {a:Act} {N:Nat} (hf:∀ d,cU X hp ids w (cL fr d) (a.tmps.getD d undef)) (hN:a.tmps.size=N) {dst:Option Tmp} (hd:∀ d,dst=some d->d<N) {x:Value} {s:SV} (hs:cU X hp ids w s x) :
 ∀d,cU X hp ids w (cL (gp dst s fr) d) ((a.put dst x).tmps.getD d undef):=by
 intro d;cases dst with
 | none=>exact hf d
 | some t =>
  simp only [gp,cL,Act.put];have ht:=hd t rfl;by_cases htd:t=d
  ·subst htd;rw [show (t==t)=true from by simp,cd,cQ,uD (by rw [hN];exact ht)];exact hs
  ·rw [show (t==d)=false from by simpa using htd,cj,cQ,xX htd,←cQ];exact hf d
theorem Cs {a:Act} {dst:Option Tmp} {x:Value} :(a.put dst x).tmps.size=a.tmps.size:=by cases dst<;>simp [Act.put]
theorem zm {a:Act} {dst:Option Tmp} {x:Value} :(a.put dst x).defers=a.defers:=by cases dst<;>rfl
theorem AW {fr:Fr} {a:Act} {hp':Hp} {ids':dD} {w':World} (hE:fm X hp ids w hp' ids' w') (hf:∀ d,cU X hp ids w (cL fr d) (a.tmps.getD d undef)):∀ d,cU X hp' ids' w' (cL fr d) (a.tmps.getD d undef):=λd=>(hf d).mono hE
theorem Ak {P:Program} {ops:Array Oper} {Q:Exit->Act->World->Prop} {i:Nat} {o:Oper} (ho:ops[i]? = some o) {a:Act} {w:World} {K:Act->World->Prop} (hw:Region.wanted o (yielded ops a.tmps)=true) (h:o.wp P a w K Q):wpOp P ops Q i K a w:=by
 unfold wpOp;rw [ho];simp only [hw,if_true];exact .inl h
theorem AX {P:Program} {ops:Array Oper} {Q:Exit->Act->World->Prop} {i:Nat} {o:Oper} (ho:ops[i]? = some o) {a:Act} {w:World} {K:Act->World->Prop} (hw:Region.wanted o (yielded ops a.tmps)=false) (h:K (a.put o.dst undef) w):wpOp P ops Q i K a w:=by
 unfold wpOp;rw [ho];simp only [hw,fy,lH];exact h
theorem mV {P:Program} {o:Oper} {a:Act} {w w':World} {K:Act->World->Prop} {Q:Exit->Act->World->Prop} {x:Value} (h:(execOp a.eval o).run P w = .ok (.value x) w'\/((execOp a.eval o).run P w = .ok .skip w'/\x=undef)) (hK:K (a.put o.dst x) w'):o.wp P a w K Q:=by
 unfold Oper.wp;rcases h with h|⟨h,rfl⟩<;>rw [h]<;>exact hK
theorem Is {fr:Fr} {a:Act} (hf:∀ d,cU X hp ids w (cL fr d) (a.tmps.getD d undef)) {ops:Array Oper} {j:Nat} {want g:Bool} (hg:mw ops fr j want=some g) {o:Oper} (ho:o.guard=some (j,want)):Region.wanted o (yielded ops a.tmps)=g:=by
 unfold Region.wanted;rw [ho];simp only;unfold mw at hg;unfold yielded;cases hd:(ops[j]?).bind (·.dst) with
 | none=>rw [hd] at hg;cases hg
 | some d =>
  rw [hd] at hg;have hfd:=hf d;simp only [cx];have hget:∀ b,a.tmps.getD d undef = .bool b->a.tmps[d]? = some (.bool b):=λb hb=>by
   rw [cQ] at hb;cases hq:a.tmps[d]? with
   | none=>rw [hq] at hb;cases hb
   | some v=>rw [hq] at hb;simp only [gZ] at hb;rw [hb]
  simp only at hg;split at hg
  ·rename_i b hb;rw [hb] at hfd;rw [hget b (d9 hfd)];cases hg;cases b<;>cases want<;>rfl
  ·rename_i g0 b hb;rw [hb] at hfd;cases hg;cases hfd with
   | gd h1 h2 =>
    cases g0 with
    | true =>
     rw [hget b (d9 (h1 rfl))];cases b<;>cases want<;>rfl
    | false =>
     have hu:=h2 rfl;rw [cQ] at hu;cases hq:a.tmps[d]? with
     | none=>cases want<;>rfl
     | some v=>rw [hq] at hu;simp only [gZ] at hu;subst hu;cases want<;>rfl
  ·rename_i g0 y _ hb;rw [hb] at hfd;cases g0 with
   | true=>cases hg
   | false =>
    cases hg;cases hfd with
    | gd h1 h2 =>
     have hu:=h2 rfl;rw [cQ] at hu;cases hq:a.tmps[d]? with
     | none=>cases want<;>rfl
     | some v=>rw [hq] at hu;simp only [gZ] at hu;subst hu;cases want<;>rfl
  ·cases hg
theorem JW {P:Program} {o:Oper} {a:Act} {w:World} {K:Act->World->Prop} {Q:Exit->Act->World->Prop} {fr:Fr} {g:Bool} {c:FuncId×List SV} (hc:i_ g fr o.op=some c)
  (hf : ∀ x, dT P (bW hp) ids (Im X.w0 X.I0 X.W0 (bW hp) ids w) w (dB g fr x) (a.eval x)) (hbody : ∃ fn body, P.funcs[c.1]? = some fn /\ fn.body = some body /\ fn.name ≠ "runtime.NumGoroutine")
  (h:∀ vals:Array Value,vals.size=c.2.length->(∀ i x,c.2[i]? = some x->dT P (bW hp) ids (Im X.w0 X.I0 X.W0 (bW hp) ids w) w x (vals.getD i undef)) ->
   Calls P c.1 vals w λe w'=>∃ r,e = .returned r/\K (a.put o.dst r) w'):o.wp P a w K Q:=by
 obtain ⟨fn,body,hfn,hbd,hnm⟩:=hbody
 have run:∀ vals w,(callFunc c.1 vals).run P w = .ok (.enter c.1 vals) w:=λvals w=>by
  unfold callFunc
  have hnm' : (fn.name == "runtime.NumGoroutine") = false := by simpa using hnm
  simp only [c_,run_program,du,hfn,hnm',fy,lH,hbd,Option.isNone_some]
  rfl
 cases hop:o.op<;>rw [hop] at hc<;>simp only [i_] at hc<;>try (cases hc;done)
 rename_i cl
 obtain ⟨callee,args,argTypes⟩:=cl
 cases hcal:callee<;>rw [hcal] at hc<;>simp only at hc<;>try (cases hc;done)
 rename_i f
 have fin:∀ (id:FuncId) (svs:List SV) (vals:Array Value),c=(id,svs)->(execOp a.eval o).run P w = .ok (.enter id vals) w->vals.size=svs.length->(∀ i x,svs[i]? = some x->dT P (bW hp) ids (Im X.w0 X.I0 X.W0 (bW hp) ids w) w x (vals.getD i undef))->o.wp P a w K Q:=by
  rintro id svs vals rfl hr hs hd
  unfold Oper.wp
  rw [hr]
  show Calls P id vals w _
  refine (h vals hs hd).mono λe w' he=>?_
  obtain ⟨r,rfl,hk⟩:=he
  exact hk
 have hargs:∀ i x,(args.toList.map (dB g fr))[i]? = some x->dT P (bW hp) ids (Im X.w0 X.I0 X.W0 (bW hp) ids w) w x ((args.map a.eval).getD i undef):=λi x hi=>by
  rw [f5] at hi
  cases hai:args.toList[i]? with
  | none=>rw [hai] at hi;cases hi
  | some q =>
   rw [hai] at hi;cases hi
   have:args[i]? = some q:=by simpa using hai
   rw [cQ,qE,this]
   exact hf q
 have hff:=hf f
 split at hc
 ·rename_i id fs cs hev
  rw [hev] at hff
  cases hz:(fs.size==0&&cs.size==0) with
  | false=>rw [hz] at hc;cases hc
  | true =>
   rw [hz] at hc
   simp only [cd,fw] at hc
   simp only [cT,jB] at hz
   have h1:fs = #[]:=Array.eq_empty_of_size_eq_zero hz.1
   have h2:cs = #[]:=Array.eq_empty_of_size_eq_zero hz.2
   subst h1;subst h2
   have hv:=d9 hff
   refine fin id _ (args.map a.eval) hc.symm ?_ (by simp) hargs
   unfold execOp
   rw [hop,hcal]
   simp only [resolve,c_,hv,Deferred.ofValue,eH,du,invoke]
   have:=run (args.map a.eval) w
   rw [←hc] at this
   simpa using this
 ·rename_i id caps hev
  rw [hev] at hff
  simp only [fw] at hc
  obtain ⟨arr,hv,hl,hx⟩:=xc hff
  refine fin id _ (args.map a.eval++arr) hc.symm ?_ (by simp [hl]) λi x hi=>?_
  ·unfold execOp
   rw [hop,hcal]
   simp only [resolve,c_,hv,Deferred.ofValue,eH,du,invoke]
   have:=run (args.map a.eval++arr) w
   rw [←hc] at this
   simpa using this
  ·rw [pC] at hi
   rw [cQ]
   split at hi
   ·rename_i hlt
    rw [na (by simpa using hlt),←cQ]
    exact hargs i x hi
   ·rename_i hlt
    rw [eD,jz] at hi hlt
    rw [Array.getElem?_append_right (by simpa using hlt),Array.size_map,←cQ]
    exact hx _ x hi
 ·cases hc
theorem jK.local {P:Program} {C C2 C':Nm->cp} {σ:Nm->Option Nm} {bor:List Nm} (hC:∀ k,mq bor k->C2 k=C k) {x y:SV} (h:jK P C C' σ (mq bor) x y):jK P C2 C' σ (mq bor) x y:=by
 induction h with
 | any=>exact .any
 | cl h=>exact .cl h
 | own hs hl=>exact .own hs hl
 | absent hl hs=>exact .absent hl hs
 | ptr hs hl=>exact .ptr hs hl
 | bp hs hl=>exact .bp hs hl
 | mp hs hl=>exact .mp hs hl
 | it hs hl=>exact .it hs hl
 | agg h _ ih=>exact .agg h ih
 | tup h _ ih=>exact .tup h ih
 | clo h _ ih=>exact .clo h ih
 | ifc _ ih=>exact .ifc ih
 | mth _ ih=>exact .mth ih
 | frz hk hf hl _ q hq ih=>exact .frz ((hC _ hf).trans hk) hf hl ih q hq
 | fptr hk hf hl _ ih=>exact .fptr ((hC _ hf).trans hk) hf hl ih
 | nilsl=>exact .nilsl
theorem vp.local {P:Program} {C C2 C':Nm->cp} {σ:Nm->Option Nm} {bor:List Nm} (hC:∀ k,mq bor k->C2 k=C k) (hσ:∀ k j,σ k=some j->C2 j=C j) (h:vp P C C' σ (mq bor)):vp P C2 C' σ (mq bor):=by
 refine ⟨λk'=>?_,h.inj,h.frz⟩;have hh:=h.ch k';cases hc:C' k' with
 | unborn=>trivial
 | dead=>trivial
 | void=>rw [hc] at hh;exact λk hk=>(hσ _ _ hk).trans (hh k hk)
 | row e cs' =>
  rw [hc] at hh;rcases hh with hh|⟨k,cs,h1,h2,h3,h4⟩
  ·exact .inl hh
  ·exact .inr ⟨k,cs,h1,(hσ _ _ h1).trans h2,h3,λi x y hx hy=>(h4 i x y hx hy).local hC⟩
 | map es' =>
  rw [hc] at hh;obtain ⟨k,es,h1,h2,h3,h4⟩:=hh;exact ⟨k,es,h1,(hσ _ _ h1).trans h2,h3,λi x y hx hy=>⟨(h4 i x y hx hy).1,(h4 i x y hx hy).2.local hC⟩⟩
 | obj s pos =>
  rw [hc] at hh;obtain ⟨k,h1,h2⟩:=hh;exact ⟨k,h1,(hσ _ _ h1).trans h2⟩
 | fam g=>trivial
theorem wH {g:Bool} {fr fr':Fr} {o:Op} (hf:∀ t∈lF o,cL fr' t=cL fr t):i_ g fr' o=i_ g fr o:=by
 cases o<;>simp only [i_];rename_i c;obtain ⟨callee,args,argTypes⟩:=c;cases callee<;>simp only;rename_i f;have hff:dB g fr' f=dB g fr f:=rE λt ht=>hf t (pW (o:=.call ⟨.value f,args,argTypes⟩) (by simp [Op.operands,Call.operands]) ht)
 have hargs:args.toList.map (dB g fr')=args.toList.map (dB g fr):=pH λx hx=>rE λt ht=>hf t (pW (o:=.call ⟨.value f,args,argTypes⟩) (by simp [Op.operands,Call.operands];exact .inr (by simpa using hx)) ht)
 rw [hff,hargs]
theorem wI {σ:Nm->Option Nm} {m:Nat} (hσm:∀ k:Nm,m<=k.base->σ k=none) (hsig:q_ σ) {k j:Nm} (hk:σ k=some j):j.key∈mP σ m:=by
 have hkm:k.base<m:=by
  by_cases hkm:k.base<m
  ·exact hkm
  ·have:=hσm k (by omega);rw [hk] at this;cases this
 unfold mP;refine pF.2 ⟨k.base,jD.2 hkm,?_⟩;cases k with
 | t a=>simp only [Nm.base_t];rw [hk];simp
 | s F i =>
  rw [hsig F i] at hk;simp only [Nm.base_s];cases hs:σ (.s F 0) with
  | none=>rw [hs] at hk;cases hk
  | some y =>
   rw [hs] at hk;cases hk;have h0:=hsig F 0;rw [hs] at h0;simp only [fp,fw] at h0;refine jE _ ?_;simp only [fp,Option.mem_toList,fw];rw [h0];rfl
theorem xQ {σ:Nm->Option Nm} {nx m:Nat} (hσm:∀ k:Nm,m<=k.base->σ k=none) (hsig:q_ σ) {h1 h2:Hp} (hh:∀ k:Nm,k.key∈mP σ m->bW h2 k=bW h1 k):∀ l:Hp,iW σ nx l h2=iW σ nx l h1
 | []=>rfl
 | p::r=>by
  have ih:=xQ (nx:=nx) hσm hsig hh r
  simp only [iW,ih]
  congr 1
  unfold yg
  cases hp:p.1 with
  | s F z=>rfl
  | t k =>
   simp only
   cases hb:gc σ nx (.t k) with
   | t c=>rfl
   | s G z =>
    simp only [ec]
    have hs:σ (.t k)=some (.s G z):=by
     unfold gc at hb;cases hs:σ (.t k) with
     | none=>rw [hs] at hb;simp [Nm.sh] at hb
     | some j=>rw [hs] at hb;rw [←hb]
    have hm:=wI hσm hsig hs;rw [show (λj=>bW (iW σ nx r h1++h2) (.s G j))=(λj=>bW (iW σ nx r h1++h1) (.s G j)) from funext λj=>by
     rw [fG,fG];split
     ·rfl
     ·exact hh _ hm]
theorem sa {σ:Nm->Option Nm} {nx m:Nat} (hσm:∀ k:Nm,m<=k.base->σ k=none) (hsig:q_ σ) {h1 h2:Hp} (hh:∀ k:Nm,k.key∈mP σ m->bW h2 k=bW h1 k) (l:Hp):back σ nx m l h2=back σ nx m l h1:=xQ hσm hsig hh _
theorem zn {σ:Nm->Option Nm} {nx:Nat} {H:Hp}:∀ {l:Hp} {p:Nm×cp},p∈iW σ nx l H->∃ q∈l,p.1.key=(gc σ nx (match q.1 with | .t k=>.t k | .s F _=>.s F 0)).key\/(∃ F z,q.1 = .s F z/\p.1 = .s (gc σ nx (.s F 0)).base 0)
 | [],p,h=>by cases h
 | q::r,p,h=>by
  simp only [iW] at h
  rcases ff.1 h with rfl|h
  ·refine ⟨q,by simp,?_⟩
   unfold yg
   cases hq:q.1 with
   | t k=>left;simp only [g8,Nm.key_key]
   | s F z=>right;exact ⟨F,z,rfl,rfl⟩
  ·obtain ⟨q2,hq2,h2⟩:=zn h
   exact ⟨q2,by simp [hq2],h2⟩
theorem Hd {P:Program} {C:Nm->cp} {hp':Hp} {m nx nx':Nat} {σ:Nm->Option Nm} {bor:Nm->Prop} (hS:vp P (bW hp) C σ bor) (hsig:q_ σ) (hσm:∀ k:Nm,m<=k.base->σ k=none) (hσl:∀ k j,σ k=some j->(C k).live=true\/(C k = .dead/\bW hp j = .dead)\/(C k = .void/\bW hp j = .void))
  (hwf:oT hp'=true) (hmn:m<=nx') (hb:∀ k:Nm,nx'<=k.base->bW hp' k = .unborn) (rds:List Nm):uQ hp nx (back σ nx m hp' hp) (nx+nx') (rds++mP σ m):=by
 refine ⟨uF _ _,λp hp1=>?_⟩
 have old:∀ k j,σ k=some j->j.key∈rds++mP σ m/\bW hp j≠.unborn:=λk j hk=>⟨jE _ (wI hσm hsig hk),by
  rcases hσl k j hk with h1|⟨_,h1⟩|⟨_,h1⟩
  ·exact iV ((hS.ch k).live h1 hk).1
  ·rw [h1];simp
  ·rw [h1];simp⟩
 unfold back at hp1
 obtain ⟨q,hq,hp2⟩:=zn hp1
 have hqb:q.1.base<nx':=by
  rcases gA.1 hq with h1|h1
  ·by_cases hlt:q.1.base<nx'
   ·exact hlt
   ·exact absurd (hb q.1 (by omega)) (xd hwf ⟨q,h1,rfl⟩)
  ·unfold po at h1
   obtain ⟨k,hk,hkk⟩:=pF.1 h1
   have hk:=jD.1 hk
   rcases gA.1 hkk with h2|h2
   ·cases hs:(σ (.t k)).isSome<;>rw [hs] at h2<;>simp at h2
    subst h2;simp;omega
   ·cases hs:(σ (.s k 0)).isSome<;>rw [hs] at h2<;>simp at h2
    subst h2;simp;omega
 -- the name, and what it is in the caller
 have fin:∀ k:Nm,k.base<nx'->p.1.key=(gc σ nx k).key->(nx<=p.1.base/\p.1.base<nx+nx')\/(p.1.key∈rds++mP σ m/\∃ k:Nm,k.key=p.1.key/\bW hp k≠.unborn):=λk hk he=>by
  have hbase:p.1.base=(gc σ nx k).base:=by rw [←Nm.key_base,he,Nm.key_base]
  unfold gc at he hbase
  cases hs:σ k with
  | some j =>
   rw [hs] at he
   obtain ⟨g1,g2⟩:=old k j hs
   exact .inr ⟨by rw [he];exact g1,j,he.symm,g2⟩
  | none =>
   rw [hs] at hbase
   simp only [Nm.sh_base] at hbase
   exact .inl ⟨by omega,by omega⟩
 rcases hp2 with hp2|⟨F,z,hq1,hp2⟩
 ·cases hq1:q.1 with
  | t k=>rw [hq1] at hp2 hqb;exact fin (.t k) hqb hp2
  | s F z=>rw [hq1] at hp2 hqb;exact fin (.s F 0) hqb hp2
 ·rw [hq1] at hqb
  refine fin (.s F 0) hqb ?_
  rw [hp2,uP hsig nx F 0];rfl
theorem zo {dt g:Bool} (hg:g=true) {o:Oper} {fr fr':Fr} {hp':Hp} {a:Act} (h:HeapC X hp' ids w) (hmn:X.m<=nx) (hf':∀ d,cU X hp' ids w (cL fr' d) (a.tmps.getD d undef)) (hn:∀ t∈lF o.op,cL fr' t=cL fr t)
  {K:SV->Hp->Nat->List Nm->Prop} (hc:ky dt X.P g o fr hp nx K) {KK:Act->World->Prop} {Q:Exit->Act->World->Prop} (hfr0:bW hp' (Nm.t nx) = .unborn)
  (hAg:∀ val upd nx' rds,K val upd nx' rds->(∀ k:Nm,nx<=k.base->k.base<nx'->bW hp' k = .unborn)/\∀ k:Nm,k.key∈rds->bW hp' k=bW hp k)
  (hK:∀ val upd nx' rds x w' ids',K val upd nx' rds->uQ hp nx upd nx' rds->HeapC X (upd++hp') ids' w'->fm X hp' ids w (upd++hp') ids' w'->cU X (upd++hp') ids' w' val x->KK (a.put o.dst x) w'):o.wp X.P a w KK Q:=by
 unfold ky at hc
 split at hc
 ·rename_i c hcall
  obtain ⟨args',hin,m,Post,σ,bor,hspec,hS,hsig,hσm,hσi,hσl,hal,hargs,⟨res0,hp0,nx0,hp00⟩,_,hpost⟩:=hc
  -- what the call looks at
  have hev:=λx=>rD hf' hg x
  rw [←wH hn] at hcall
  refine JW (X:=X) (hp:=hp') (ids:=ids) hcall hev hspec.1 λvals hvs hvd=>?_
  obtain ⟨_,_,u0,ht0,hk0⟩:=hpost _ _ _ hp00
  obtain ⟨_,hag0⟩:=hAg _ _ _ _ hk0
  have hC1:∀ k,mq bor k->bW hp' k=bW hp k:=λk hk=>hag0 k (lJ _ (JT hk))
  have hC3:∀ k:Nm,k.key∈mP σ m->bW hp' k=bW hp k:=λk hk=>hag0 k (jE _ hk)
  have hC2:∀ k j,σ k=some j->bW hp' j=bW hp j:=λk j hk=>hC3 j (wI (λk hk=>(hσm k hk).1) hsig hk)
  refine (FL h hmn hspec (hS.local hC1 hC2) hsig hσm hσi (λk j hk=>(hσl k j hk).imp id λh=>h.imp (λh=>⟨h.1,(hC2 k j hk).trans h.2⟩) λh=>⟨h.1,(hC2 k j hk).trans h.2⟩) hal (λi x y hx hy=>(hargs i x y hx hy).local hC1) hvs hvd).mono λe w' he=>?_
  obtain ⟨r,res,hp2,nx2,rfl,hp3,⟨hfr2,hmle⟩,himp⟩:=he
  obtain ⟨hwf,hbor,u,htr,hk⟩:=hpost _ _ _ hp3
  obtain ⟨hag,hag2⟩:=hAg _ _ _ _ hk
  obtain ⟨ids2,g1,g2,g3⟩:=himp ⟨hwf,λk hk=>hag _ (by simp) (by simp;omega),hbor.imp (λhb k hk=>by rw [hb] at hk;exact JS k hk) id⟩
  rw [sa (λk hk=>(hσm k hk).1) hsig hC3] at g1 g2 g3
  have he:=(htr.local hag2).symm
  have hu:=Hd (nx:=nx) hS hsig (λk hk=>(hσm k hk).1) hσl hwf hmle hfr2 (bor.map Nm.key)
  refine ⟨r,rfl,hK _ _ _ _ _ _ _ hk ⟨hu.le,λp hp1=>?_⟩ (g1.congr he) (fm.congr g2 he) (cU.congr g3 he)⟩
  obtain ⟨q,hq1,hq2⟩:=htr.keys p hp1
  have hb:q.1.base=p.1.base:=by rw [←Nm.key_base,hq2,Nm.key_base]
  have:=hu.keys q hq1
  rw [hb,hq2] at this
  exact this
 ·rename_i hcall
  rcases hc with hc|hc
  ·have hsem:∃ K':SV->Hp->Nat->List Nm->Prop,(∀ v u n r,K' v u n r->K v u n r)/\nV X.P o fr hp nx K':=by
    obtain ⟨_,_,hc⟩:=hc
    cases dt with
    | false=>exact ⟨K,λ_ _ _ _ h=>h,hc⟩
    | true =>
     obtain ⟨e,_,h2,h3⟩:=hc
     exact ⟨_,λv u n r h=>by obtain ⟨rfl,rfl,rfl,rfl⟩:=h;exact h2,h3⟩
   obtain ⟨K',hKK,hsem⟩:=hsem
   exact hsem X ids w fr' hp' a rfl h hmn hf' hn hfr0 (λv u n r hk=>hAg v u n r (hKK v u n r hk)) KK Q (λv u n r x w' ids' hk=>hK v u n r x w' ids' (hKK v u n r hk))
  cases hop:kH X.P g fr hp nx o.type o.op with
  | bad=>rw [hop] at hc;exact hc.elim
  | ok side e =>
   rw [hop] at hc
   obtain ⟨hs,hk⟩:=hc
   obtain ⟨_,hag⟩:=hAg _ _ _ _ hk
   have hop':=pX hop hn hag
   obtain ⟨x,w',ids',g1,g2,g3,g4⟩:=uO (X:=X) ⟨h,hfr0,hmn⟩ hf' hg hop' hs
   obtain ⟨k1,k2⟩:=yk hop
   exact mV g1 (hK _ _ _ _ _ _ _ hk ⟨k1,λp hp1=>(k2 p hp1).imp (λhh=>by rw [hh.1];simp;omega) id⟩ g2 g3 g4)
end
section
open Go.RowKit
variable {X:Cx} {hp:Hp} {nx:Nat} {ids:dD} {w:World}
def jL (ops:Array Oper) (o:Oper):List Tmp:=(match o.guard with
 | some jw=>((ops[jw.1]?).bind (·.dst)).toList
 | none=>[])++lF o.op
theorem wJ {ops:Array Oper} {o:Oper} {jw:Nat×Bool} (ho:o.guard=some jw) {fr fr':Fr} (hn:∀ t∈jL ops o,cL fr' t=cL fr t):mw ops fr' jw.1 jw.2=mw ops fr jw.1 jw.2:=by
 unfold mw;cases hd:(ops[jw.1]?).bind (·.dst) with
 | none=>rfl
 | some d=>simp only;rw [hn d (by unfold jL;rw [ho];simp [hd])]
theorem Ef {g:Bool} {o:Oper} {fr fr':Fr} {hp':Hp} {a:Act} (h:HeapC X hp' ids w) (hmn:X.m<=nx) (hf':∀ d,cU X hp' ids w (cL fr' d) (a.tmps.getD d undef)) (hn:∀ t∈lF o.op,cL fr' t=cL fr t) (hfr0:bW hp' (Nm.t nx) = .unborn)
  {K:SV->Hp->Nat->List Nm->Prop} (hc:zl g (kH X.P g fr hp nx o.type o.op) nx K) (hg:g=true)
  (hAg:∀ val upd nx' rds,K val upd nx' rds->∀ k:Nm,k.key∈rds->bW hp' k=bW hp k) {KK:Act->World->Prop} {Q:Exit->Act->World->Prop}
  (hK:∀ val rds x w' ids',K (.gd g val) [] nx rds->HeapC X hp' ids' w'->fm X hp' ids w hp' ids' w'->cU X hp' ids' w' val x->KK (a.put o.dst x) w'):o.wp X.P a w KK Q:=by
 rcases hc with hc|hc
 ·exact absurd (hc.1.symm.trans hg) (by simp)
 cases hop:kH X.P g fr hp nx o.type o.op with
 | bad=>rw [hop] at hc;exact hc.elim
 | ok side e =>
  rw [hop] at hc;simp only at hc;split at hc
  ·rename_i hu;obtain ⟨hs,hk⟩:=hc;have hop':=pX hop hn (hAg _ _ _ _ hk);obtain ⟨x,w',ids',g1,g2,g3,g4⟩:=uO (X:=X) ⟨h,hfr0,hmn⟩ hf' hg hop' (hs hg);rw [hu] at g2 g3 g4;exact mV g1 (hK _ _ _ _ _ hk g2 g3 g4)
  ·exact hc.elim
theorem JX {g:Bool} {r:eV} {K:SV->Hp->Nat->List Nm->Prop} (hc:zl g r nx K):∃ val rds,K (.gd g val) [] nx rds:=by
 rcases hc with hc|hc
 ·exact ⟨_,_,hc.2⟩
 cases r with
 | bad=>exact hc.elim
 | ok side e =>
  simp only at hc;split at hc
  ·exact ⟨_,_,hc.2⟩
  ·exact hc.elim
theorem sb {dt:Bool} {ops:Array Oper} {i:Nat} {o:Oper} (ho:ops[i]? = some o) {fr fr':Fr} {hp':Hp} {a:Act} (h:HeapC X hp' ids w) (hmn:X.m<=nx) (hf':∀ d,cU X hp' ids w (cL fr' d) (a.tmps.getD d undef)) (hn:∀ t∈jL ops o,cL fr' t=cL fr t)
  {K:SV->Hp->Nat->List Nm->Prop} (hc:iv dt X.P ops o fr hp nx K) {KK:Act->World->Prop} {Q:Exit->Act->World->Prop} (hfr0:bW hp' (Nm.t nx) = .unborn)
  (hAg:∀ val upd nx' rds,K val upd nx' rds->(∀ k:Nm,nx<=k.base->k.base<nx'->bW hp' k = .unborn)/\∀ k:Nm,k.key∈rds->bW hp' k=bW hp k)
  (hK:∀ val upd nx' rds x w' ids',K val upd nx' rds->uQ hp nx upd nx' rds->HeapC X (upd++hp') ids' w'->fm X hp' ids w (upd++hp') ids' w'->cU X (upd++hp') ids' w' val x->KK (a.put o.dst x) w'):wpOp X.P ops Q i KK a w:=by
 have hn2:∀ t∈lF o.op,cL fr' t=cL fr t:=λt ht=>hn t (jE _ ht);have uok:∀ rds,uQ hp nx [] nx rds:=λrds=>⟨cF _,λp hp=>by cases hp⟩;unfold iv at hc;cases hgd:o.guard with
 | none =>
  rw [hgd] at hc;exact Ak ho (by unfold Region.wanted;rw [hgd]) (zo rfl h hmn hf' hn2 hc hfr0 hAg hK)
 | some jw =>
  rw [hgd] at hc;simp only at hc;cases hgs:mw ops fr jw.1 jw.2 with
  | none=>rw [hgs] at hc;exact hc.elim
  | some g =>
   rw [hgs] at hc;simp only at hc;have hwant:Region.wanted o (yielded ops a.tmps)=g:=Is hf' (j:=jw.1) (want:=jw.2) ((wJ hgd hn).trans hgs) hgd;cases hq:lL X.P o.op with
   | true =>
    rw [hq,cd] at hc;by_cases hg:g=true
    ·exact Ak ho (hwant.trans hg) (Ef h hmn hf' hn2 hfr0 hc hg (λ_ _ _ _ hk=>(hAg _ _ _ _ hk).2) λval rds x w' ids' hk h1 h2 h3 =>
      hK _ _ _ _ x w' ids' hk (uok _) h1 h2 (.gd (λ_=>h3) (λhe=>by rw [he] at hg;cases hg)))
    ·have hg':g=false:=by simpa using hg
     obtain ⟨val,rds,hk⟩:=JX hc;exact AX ho (hwant.trans hg') (hK _ _ _ _ _ _ _ hk (uok _) h (km.refl _ _ _ _) (.gd (λhe=>absurd he hg) (λ_=>rfl)))
   | false =>
    rw [hq,cj] at hc;by_cases hg:g=true
    ·exact Ak ho (hwant.trans hg) (zo hg h hmn hf' hn2 (hc.1 hg) hfr0 hAg hK)
    ·have hg':g=false:=by simpa using hg
     exact AX ho (hwant.trans hg') (hK _ _ _ _ _ _ _ (hc.2 hg') (uok _) h (km.refl _ _ _ _) .v)
def lN (X:Cx) (N:Nat) (fr:Fr) (hp:Hp) (nx:Nat) (a:Act) (w:World):Prop :=
∃ids,nf X hp nx ids w/\(∀ d,cU X hp ids w (cL fr d) (a.tmps.getD d undef))/\a.tmps.size=N/\a.defers=[]
theorem He (h:∀ k:Nm,nx<=k.base->bW hp k = .unborn) {upd:Hp} {nx':Nat} {rds:List Nm} (hu:uQ hp nx upd nx' rds) {k:Nm} (hk:nx'<=k.base):bW (upd++hp) k = .unborn:=by
 rw [fG,if_neg]
 ·exact h k (by have:=hu.le;omega)
 ·rintro ⟨p,hp1,hpk⟩;have hb:p.1.base=k.base:=by rw [←Nm.key_base,hpk,Nm.key_base]
  rcases hu.keys p hp1 with ⟨_,h2⟩|⟨_,k2,h2,h3⟩
  ·omega
  ·have hb2:k2.base=p.1.base:=by rw [←Nm.key_base,h2,Nm.key_base]
   exact h3 (h k2 (by have:=hu.le;omega))
theorem FO {dt:Bool} {N i:Nat} {ops:Array Oper} {o:Oper} (ho:ops[i]? = some o) (hd:∀ d,o.dst=some d->d<N) {fr:Fr} {a:Act} (h:lN X N fr hp nx a w)
  {K:SV->Hp->Nat->List Nm->Prop} (hc:iv dt X.P ops o fr hp nx K) {KK:Act->World->Prop} {Q:Exit->Act->World->Prop}
  (hK:∀ val upd nx' rds a' w',K val upd nx' rds->lN X N (gp o.dst val fr) (upd++hp) nx' a' w'->KK a' w'):wpOp X.P ops Q i KK a w:=by
 obtain ⟨ids,hH,hF,hN,hD⟩:=h;refine sb ho hH.toHeapC hH.m_le hF (λ_ _=>rfl) hc (hH.fresh (Nm.t nx) (cF _)) (λ_ _ _ _ _=>⟨λk hk _=>hH.fresh k hk,λ_ _=>rfl⟩) λval upd nx' rds x w' ids' hk hu h1 h2 h3=>?_
 exact hK _ _ _ _ _ _ hk ⟨ids',⟨h1,λk hk=>He hH.fresh hu hk,l0 hH.m_le hu.le⟩,AV (AW h2 hF) hN hd h3,by rw [Cs,hN],by rw [zm,hD]⟩
theorem AY {N:Nat} {ops:Array Oper} {Q:Exit->Act->World->Prop} {K:Fr->Hp->Nat->Prop} (hQ:∀ fr hp nx a w,K fr hp nx->lN X N fr hp nx a w->Q .normal a w):∀ (l:List Oper) (k:Nat) (fr:Fr) (hp:Hp) (nx:Nat) (a:Act) (w:World),
  (∀ i,l[i]? = ops[k+i]?)->(∀ o∈l,∀ d,o.dst=some d->d<N)->lN X N fr hp nx a w->lM X.P ops l fr hp nx K->wpOps X.P ops Q (List.range' k l.length) a w
 | [],k,fr,hp,nx,a,w,_,_,hs,hr=>hQ _ _ _ _ _ hr hs
 | o::l,k,fr,hp,nx,a,w,hl,hd,hs,hr=>by
  rw [gy,List.range'_succ,wpOps_cons]
  refine FO (by simpa using (hl 0).symm) (hd o (by simp)) hs hr λval upd nx' rds a' w' hk hs'=>?_
  exact AY hQ l (k+1) _ _ _ a' w' (λi=>by have:=hl (i+1);simpa [iQ,Nat.add_comm 1 i] using this) (λo' ho'=>hd o' (by simp [ho'])) hs' hk
def xe (N:Nat) (ops:Array Oper):Bool:=ops.toList.all λo=>match o.dst with
 | some d=>decide (d<N)
 | none=>true
theorem zp {N:Nat} {ops:Array Oper} (h:xe N ops=true):∀ o∈ops.toList,∀ d,o.dst=some d->d<N:=λo ho d hd=>by
 have:=dQ.1 h o ho
 rw [hd] at this
 simpa using this
theorem Ct {N id:Nat} {ops:Array Oper} {Q:Exit->Act->World->Prop} {K:Fr->Hp->Nat->Prop} (hd:xe N ops=true) (hQ:∀ fr hp nx a w,K fr hp nx->lN X N fr hp nx a w->Q .normal a w) {fr:Fr} {a:Act} (h:lN X N fr hp nx a w)
  (hr:lM X.P ops ops.toList fr hp nx K):(Code.region id ops false).wp X.P Q a w:=by
 refine wp_region ?_;rw [List.range_eq_range',show ops.size=ops.toList.length from by simp];exact AY hQ ops.toList 0 fr hp nx a w (λi=>by simp) (zp hd) h hr
end
section
open Go.RowKit
variable {X:Cx} {hp:Hp} {nx:Nat} {ids:dD} {w:World}
inductive Nf where
 | normal
 | exit (id:Nat)
 | ret
abbrev g9:=Nf->Fr->Hp->Nat->Prop
structure oY (P:Program) (m:Nat) (fr:Fr) (hp:Hp) (fr':Fr) (hp':Hp) (nx':Nat):Prop where
 ex:∃ (σ:Nm->Option Nm) (frz:List Nm),vp P (bW hp) (bW hp') σ (mq frz)/\(∀ k:Nm,k.base<m->((bW hp' k).live=true\/bW hp' k = .void)->σ k=some k)/\∀ d,jK P (bW hp) (bW hp') σ (mq frz) (cL fr d) (cL fr' d)
 fresh:∀ k:Nm,nx'<=k.base->bW hp' k = .unborn
 le:m<=nx'
theorem lN.weaken {N:Nat} {fr fr':Fr} {hp':Hp} {nx':Nat} {a:Act} (h:lN X N fr hp nx a w) (hl:oY X.P X.m fr hp fr' hp' nx'):lN X N fr' hp' nx' a w:=by
 obtain ⟨ids,hH,hF,hN,hD⟩:=h;obtain ⟨σ,frz,hS,hm,hd⟩:=hl.ex;obtain ⟨ids',h1,h2⟩:=Sx.weaken hH.toHeapC hS hl.fresh (λk hk hl=>hm k hk (.inl hl)) (λk hk hv=>hm k hk (.inr hv)) hl.le;exact ⟨ids',h1,λd=>h2 _ _ _ (hd d) (hF d),hN,hD⟩
def Ng (P:Program) (m:Nat) (body:g9->Fr->Hp->Nat->Prop) (Q:g9) (fr:Fr) (hp:Hp) (nx:Nat):Prop :=
∃(S:Type) (fr0:S->Fr) (hp0:S->Hp) (nx0:S->Nat) (I:S->Prop) (μ:S->Nat),(∃ s,I s/\oY P m fr hp (fr0 s) (hp0 s) (nx0 s)) /\
 ∀s,I s->body (λe fr' hp' nx'=>match e with
   | .normal=>∃ s',I s'/\μ s'<μ s/\oY P m fr' hp' (fr0 s') (hp0 s') (nx0 s')
   | e=>Q e fr' hp' nx') (fr0 s) (hp0 s) (nx0 s)
def FP (P:Program) (m:Nat) (body:g9->Fr->Hp->Nat->Prop) (Q:g9):Nat->Fr->Hp->Nat->Prop
 | 0,fr,hp,nx=>Ng P m body Q fr hp nx
 | n+1,fr,hp,nx=>body (λe fr' hp' nx'=>match e with
   | .normal=>FP P m body Q n fr' hp' nx'
   | e=>Q e fr' hp' nx') fr hp nx
def Nh (P:Program) (m:Nat) (body:g9->Fr->Hp->Nat->Prop) (Q:g9) (fr:Fr) (hp:Hp) (nx:Nat):Prop:=∃ n,FP P m body Q n fr hp nx
def LJ (P:Program) (m:Nat) (K:Fr->Hp->Nat->Prop) (fr:Fr) (hp:Hp) (nx:Nat):Prop:=K fr hp nx\/∃ fr' hp' nx',oY P m fr hp fr' hp' nx'/\K fr' hp' nx'
def zq (P:Program) (m:Nat) (fr:Fr) (hp:Hp) (nx:Nat) (fr':Fr) (hp':Hp) (nx':Nat):Prop :=
∀(X:Cx) (N:Nat) (a:Act) (w:World),X.P=P->X.m=m->lN X N fr hp nx a w->lN X N fr' hp' nx' a w
def Wk (P:Program) (m:Nat) (K:Fr->Hp->Nat->Prop) (fr:Fr) (hp:Hp) (nx:Nat):Prop:=LJ P m K fr hp nx\/∃ fr' hp' nx',zq P m fr hp nx fr' hp' nx'/\LJ P m K fr' hp' nx'
theorem Wk.go {N:Nat} {a:Act} {K:Fr->Hp->Nat->Prop} {fr:Fr} (h:Wk X.P X.m K fr hp nx) (hs:lN X N fr hp nx a w):∃ fr' hp' nx',K fr' hp' nx'/\lN X N fr' hp' nx' a w:=by
 have go0:∀ {fr:Fr} {hp:Hp} {nx:Nat},LJ X.P X.m K fr hp nx->lN X N fr hp nx a w->∃ fr' hp' nx',K fr' hp' nx'/\lN X N fr' hp' nx' a w:=by
  rintro fr hp nx (hk|⟨fr',hp',nx',hle,hk⟩) hs
  ·exact ⟨fr,hp,nx,hk,hs⟩
  ·exact ⟨fr',hp',nx',hk,hs.weaken hle⟩
 rcases h with h|⟨fr',hp',nx',hg,h⟩
 ·exact go0 h hs
 ·exact go0 h (hg X N a w rfl rfl hs)
theorem zq.refl (P:Program) (m:Nat) (fr:Fr) (hp:Hp) (nx:Nat):zq P m fr hp nx fr hp nx:=λ_ _ _ _ _ _ h=>h
theorem zq.trans {P:Program} {m:Nat} {f1 f2 f3:Fr} {h1 h2 h3:Hp} {n1 n2 n3:Nat} (a:zq P m f1 h1 n1 f2 h2 n2) (b:zq P m f2 h2 n2 f3 h3 n3):zq P m f1 h1 n1 f3 h3 n3:=λX N c w hP hm h=>b X N c w hP hm (a X N c w hP hm h)
def FQ (fr fr':Fr) (hp hp':Hp):Prop:=(∀ d,cL fr' d=cL fr d\/cL fr' d = .any)/\∀ k,bW hp' k=bW hp k
def qA (K:Fr->Hp->Nat->Prop) (fr:Fr) (hp:Hp) (nx:Nat):Prop:=∃ fr' hp',FQ fr fr' hp hp'/\K fr' hp' nx
theorem lN.eqSt {N:Nat} {fr fr':Fr} {hp':Hp} {a:Act} (h:lN X N fr hp nx a w) (e:FQ fr fr' hp hp'):lN X N fr' hp' nx a w:=by
 obtain ⟨ids,hH,hF,hN,hD⟩:=h;have he:bW hp=bW hp':=funext λk=>(e.2 k).symm
 refine ⟨ids,?_,λd=>?_,hN,hD⟩
 ·refine ⟨?_,λk hk=>by rw [e.2];exact hH.fresh k hk,hH.m_le⟩;have:=hH.toHeapC;exact ⟨by rw [←he];exact this.1,by rw [←he];exact this.2,by rw [←he];exact this.3⟩
 ·rcases e.1 d with h1|h1
  ·rw [h1];have:=hF d;unfold cU at this ⊢;rw [←he];exact this
  ·rw [h1];exact .any
def tB (K:Fr->Hp->Nat->Prop) (Q:g9):g9
 | .normal=>K
 | e=>Q e
def zr (id:Nat) (Q:g9):g9
 | .exit j=>if j=id then Q .normal else Q (.exit j)
 | e=>Q e
def wK (P:Program) (m:Nat) (Q:g9):g9
 | .normal=>Wk P m (Q .normal)
 | e=>Q e
def pJ (D:(id:Nat)->(ops:Array Oper)->(Fr->Hp->Nat->Prop)->Fr->Hp->Nat->Prop) (P:Program) (m N:Nat):Code->g9->Fr->Hp->Nat->Prop
 | .skip,Q,fr,hp,nx=>Q .normal fr hp nx
 | .label _,Q,fr,hp,nx=>Q .normal fr hp nx
 | .region id ops false,Q,fr,hp,nx=>lM P ops ops.toList fr hp nx (qA (Q .normal))
 | .region id ops true,Q,fr,hp,nx=>D id ops (qA (Q .normal)) fr hp nx
 | .seq x y,Q,fr,hp,nx=>pJ D P m N x (tB (Wk P m (pJ D P m N y Q)) Q) fr hp nx
 | .cond c x y,Q,fr,hp,nx=>match dB true fr c with
  | .v (.bool b)=>Br b (pJ D P m N x Q fr hp nx) (pJ D P m N y Q fr hp nx)
  | _=>False
 | .block id c,Q,fr,hp,nx=>pJ D P m N c (zr id (wK P m Q)) fr hp nx
 | .exit id,Q,fr,hp,nx=>Q (.exit id) fr hp nx
 | .loop c,Q,fr,hp,nx=>Nh P m (pJ D P m N c) Q fr hp nx
 | .scope c,Q,fr,hp,nx=>pJ D P m N c Q fr hp nx
 | .ret,Q,fr,hp,nx=>Q .ret fr hp nx
 | _,_,_,_,_=>False
def oq (N:Nat):Code->Bool
 | .region _ ops _=>xe N ops
 | .seq x y=>oq N x&&oq N y
 | .cond _ x y=>oq N x&&oq N y
 | .block _ c=>oq N c
 | .loop c=>oq N c
 | .scope c=>oq N c
 | _=>true
def FR (X:Cx) (N:Nat) (Q:g9):Exit->Act->World->Prop
 | .normal,a,w=>∃ fr hp nx,Q .normal fr hp nx/\lN X N fr hp nx a w
 | .exit id,a,w=>∃ fr hp nx,Q (.exit id) fr hp nx/\lN X N fr hp nx a w
 | .ret,a,w=>∃ fr hp nx,Q .ret fr hp nx/\lN X N fr hp nx a w
 | _,_,_=>False
def Cu (D:(id:Nat)->(ops:Array Oper)->(Fr->Hp->Nat->Prop)->Fr->Hp->Nat->Prop) (P:Program):Prop :=
∀(X:Cx) (N id:Nat) (ops:Array Oper) (K:Fr->Hp->Nat->Prop) (Q:Exit->Act->World->Prop) (fr:Fr) (hp:Hp) (nx:Nat) (a:Act) (w:World),X.P=P->xe N ops=true->(∀ fr hp nx a w,K fr hp nx->lN X N fr hp nx a w->Q .normal a w)->lN X N fr hp nx a w->D id ops K fr hp nx->(Code.region id ops true).wp X.P Q a w
theorem Hf {D:(id:Nat)->(ops:Array Oper)->(Fr->Hp->Nat->Prop)->Fr->Hp->Nat->Prop} (hD:Cu D X.P) {N:Nat}:∀ (c:Code) (Q:g9) (fr:Fr) (hp:Hp) (nx:Nat) (a:Act) (w:World),oq N c=true->lN X N fr hp nx a w->pJ D X.P X.m N c Q fr hp nx->c.wp X.P (FR X N Q) a w:=by
 intro c;induction c with
 | skip=>exact λQ fr hp nx a w _ hs h=>wp_skip ⟨fr,hp,nx,h,hs⟩
 | label l=>exact λQ fr hp nx a w _ hs h=>wp_label ⟨fr,hp,nx,h,hs⟩
 | exit id=>exact λQ fr hp nx a w _ hs h=>wp_exit ⟨fr,hp,nx,h,hs⟩
 | ret=>exact λQ fr hp nx a w _ hs h=>wp_ret ⟨fr,hp,nx,h,hs⟩
 | region id ops draw =>
  intro Q fr hp nx a w hd hs h;cases draw with
  | false=>exact Ct hd (λfr hp nx a w ⟨fr',hp',he,hk⟩ hs=>⟨fr',hp',nx,hk,hs.eqSt he⟩) hs h
  | true=>exact hD X N id ops _ _ fr hp nx a w rfl hd (λfr hp nx a w ⟨fr',hp',he,hk⟩ hs=>⟨fr',hp',nx,hk,hs.eqSt he⟩) hs h
 | seq x y hx hy =>
  intro Q fr hp nx a w hd hs h;simp only [oq,cT] at hd;refine wp_seq (wp_mono (hx _ fr hp nx a w hd.1 hs h) λe a w he=>?_);cases e with
  | normal =>
   obtain ⟨fr,hp,nx,hk,hs⟩:=he;simp only [tB] at hk;obtain ⟨fr',hp',nx',hk,hs'⟩:=Wk.go hk hs;exact hy Q fr' hp' nx' a w hd.2 hs' hk
  | exit id=>exact he
  | ret=>exact he
  | _=>exact he.elim
 | cond c x y hx hy =>
  intro Q fr hp nx a w hd hs h;simp only [oq,cT] at hd;simp only [pJ] at h;obtain ⟨ids,hH,hF,hN,hdf⟩:=hs;have hev:=rD (X:=X) hF (g:=true) rfl c;split at h
  ·rename_i b hb;rw [hb] at hev;refine wp_cond (d9 hev) ?_;cases b with
   | true=>exact hx Q fr hp nx a w hd.1 ⟨ids,hH,hF,hN,hdf⟩ (h.1 rfl)
   | false=>exact hy Q fr hp nx a w hd.2 ⟨ids,hH,hF,hN,hdf⟩ (h.2 rfl)
  ·exact h.elim
 | block id c ih =>
  intro Q fr hp nx a w hd hs h;refine wp_block (wp_mono (ih _ fr hp nx a w hd hs h) λe a w he=>?_);have wk:∀ {fr hp nx},Wk X.P X.m (Q .normal) fr hp nx->lN X N fr hp nx a w->∃ fr hp nx,Q .normal fr hp nx/\lN X N fr hp nx a w:=by
   intro fr hp nx hk hs;exact Wk.go hk hs
  cases e with
  | normal=>obtain ⟨fr,hp,nx,hk,hs⟩:=he;exact wk hk hs
  | exit j =>
   obtain ⟨fr,hp,nx,hk,hs⟩:=he;simp only [zr] at hk;simp only [Exit.inBlock];split
   ·rename_i hj;rw [if_pos hj] at hk;exact wk hk hs
   ·rename_i hj;rw [if_neg hj] at hk;exact ⟨fr,hp,nx,hk,hs⟩
  | ret=>exact he
  | _=>exact he.elim
 | scope c ih =>
  intro Q fr hp nx a w hd hs h;refine wp_scope_straight (wp_mono (ih Q fr hp nx a w hd hs h) λe a w he=>?_);cases e with
  | normal=>exact he
  | exit id=>exact he
  | ret=>exact he
  | _=>exact he.elim
 | loop c ih =>
  intro Q fr hp nx a w hd hs h;obtain ⟨nr,h⟩:=h;intro b k cs;have inner:∀ (nr:Nat) (fr:Fr) (hp:Hp) (nx:Nat) (a:Act) (w:World),lN X N fr hp nx a w->FP X.P X.m (pJ D X.P X.m N c) Q nr fr hp nx->∃ e a' w',FR X N Q e a' w'/\Arrives X.P (lone (b.at a (.code c::.inLoop c::k)) cs w) b k cs e a' w':=by
   intro nr;induction nr with
   | succ nr ihr =>
    intro fr hp nx a w hst h;obtain ⟨e,a1,w1,hq,harr⟩:=ih _ _ _ _ a w hd hst h b (.inLoop c::k) cs;cases e with
    | normal =>
     obtain ⟨fr',hp',nx',hk,hst'⟩:=hq;obtain ⟨e2,a2,w2,hq2,harr2⟩:=ihr fr' hp' nx' a1 w1 hst' hk;exact ⟨e2,a2,w2,hq2,.of_steps (Steps.trans harr (.one step_inLoop)) harr2⟩
    | exit id =>
     obtain ⟨fr',hp',nx',hq,hst'⟩:=hq;exact ⟨.exit id,a1,w1,⟨fr',hp',nx',hq,hst'⟩,.pass (x:=.inLoop c) rfl (λ_ _=>.inl (by simp)) harr⟩
    | ret =>
     obtain ⟨fr',hp',nx',hq,hst'⟩:=hq;exact ⟨.ret,a1,w1,⟨fr',hp',nx',hq,hst'⟩,.pass (x:=.inLoop c) rfl (λ_ _=>.inl (by simp)) harr⟩
    | goto l=>exact hq.elim
    | panic ch=>exact hq.elim
    | outgrown=>exact hq.elim
   | zero =>
   intro fr hp nx a w hs h;obtain ⟨S,fr0,hp0,nx0,I,μ,⟨s0,hI0,hle⟩,hbody⟩:=h;have key:∀ (n:Nat) (s:S) (a:Act) (w:World),μ s=n->I s->lN X N (fr0 s) (hp0 s) (nx0 s) a w->∃ e a' w',FR X N Q e a' w'/\Arrives X.P (lone (b.at a (.code c::.inLoop c::k)) cs w) b k cs e a' w':=by
    intro n;induction n using Nat.strongRecOn with
    | _ n ihn =>
     intro s a w hn hI hst;obtain ⟨e,a1,w1,hq,harr⟩:=ih _ _ _ _ a w hd hst (hbody s hI) b (.inLoop c::k) cs;cases e with
     | normal =>
      obtain ⟨fr',hp',nx',⟨s',hI',hlt,hle'⟩,hst'⟩:=hq;obtain ⟨e2,a2,w2,hq2,harr2⟩:=ihn (μ s') (hn▸hlt) s' a1 w1 rfl hI' (hst'.weaken hle');exact ⟨e2,a2,w2,hq2,.of_steps (Steps.trans harr (.one step_inLoop)) harr2⟩
     | exit id =>
      obtain ⟨fr',hp',nx',hq,hst'⟩:=hq;exact ⟨.exit id,a1,w1,⟨fr',hp',nx',hq,hst'⟩,.pass (x:=.inLoop c) rfl (λ_ _=>.inl (by simp)) harr⟩
     | ret =>
      obtain ⟨fr',hp',nx',hq,hst'⟩:=hq;exact ⟨.ret,a1,w1,⟨fr',hp',nx',hq,hst'⟩,.pass (x:=.inLoop c) rfl (λ_ _=>.inl (by simp)) harr⟩
     | goto l=>exact hq.elim
     | panic ch=>exact hq.elim
     | outgrown=>exact hq.elim
   exact key _ s0 a w rfl hI0 (hs.weaken hle)
  obtain ⟨e,a',w',hq,harr⟩:=inner nr fr hp nx a w hs h;exact ⟨e,a',w',hq,.of_steps (.one step_loop) harr⟩
 | _=>exact λQ fr hp nx a w _ hs h=>h.elim
end
section
open Go.RowKit
variable {X:Cx} {hp:Hp} {nx:Nat} {ids:dD} {w:World}
theorem BF {α:Type} (x:Sem α):x.bind Sem.pure=x:=by
 induction x<;>simp only [Sem.bind]<;>simp only [*]
theorem Hg {α β γ:Type} (x:Sem α) (f:α->Sem β) (g:β->Sem γ):(x.bind f).bind g=x.bind λa=>(f a).bind g:=by
 induction x<;>simp only [Sem.bind]<;>simp only [*]
instance : LawfulMonad Sem:=LawfulMonad.mk' Sem (λx=>BF x) (λx f=>rfl) (λx f g=>Hg x f g)
def wL (P:Program) (fr:Fr) (hp:Hp) (nx:Nat):List ResultVar->(List SV->Prop)->Prop
 | [],K=>K []
 | .tmp t::r,K=>wL P fr hp nx r λxs=>K (cL fr t::xs)
 | .cell a t::r,K=>(nZ P t (cL fr a) hp nx).wp λe=>wL P fr hp nx r λxs=>K (e.val::xs)
def uS:List SV->SV
 | [x]=>x
 | xs=>.tup xs
def wM (P:Program) (m:Nat) (Post:SV->Hp->Nat->Prop) (x:SV) (hp:Hp):Prop:=∃ x' hp' nx',Post x' hp' nx'/\oY P m [(0,x)] hp [(0,x')] hp' nx'
def Cv (P:Program) (rs:List ResultVar) (m:Nat) (Post:SV->Hp->Nat->Prop):g9
 | .exit _,_,_,_=>False
 | _,fr,hp,nx=>wL P fr hp nx rs λxs=>wM P m Post (uS xs) hp
def qf:Nat->List SV->Fr
 | _,[]=>[]
 | i,x::xs=>(i,x)::qf (i+1) xs
theorem AZ:∀ (args:List SV) (i d:Nat),cL (qf i args) d=if d<i then .any else args.getD (d-i) .any
 | [],i,d=>by simp [qf,cL]
 | x::xs,i,d=>by
  simp only [qf,cL,AZ xs (i+1) d]
  by_cases hid:i=d
  ·subst hid;simp
  ·rw [show (i==d)=false from by simpa using hid,cj]
   by_cases hlt:d<i
   ·rw [if_pos (by omega),if_pos hlt]
   ·rw [if_neg (by omega),if_neg hlt,show d-i=(d-(i+1))+1 from by omega]
    rfl
def wN (tmps:Array Value):ResultVar->Sem Value
 | .tmp t=>pure (tmps.getD t undef)
 | .cell a t=>do loadVar t (←asAddr (tmps.getD a undef))
theorem Iu (h:dS X hp nx ids w) {t:TypeId} {s:SV} {x:Value} (hd:cU X hp ids w s x) {side:Prop} {e:dw} (he:nZ X.P t s hp nx = .ok side e) (hs:side) :
 ∃y,(do loadVar t (←asAddr x):Sem Value).run X.P w = .ok y w/\cU X hp ids w e.val y:=by
 have fin:∀ {b o:Nat} {cs:List SV} {off:Nat} {rds:List Nm},Cells X.P (bW hp) ids (Im X.w0 X.I0 X.W0 (bW hp) ids w) w b o cs->ku X.P t cs off rds nx = .ok side e->x = .pointer (some ⟨b,o+off,none⟩) ->
  ∃y,(do loadVar t (←asAddr x):Sem Value).run X.P w = .ok y w/\cU X hp ids w e.val y:=by
  intro b o cs off rds hc ht hx;obtain ⟨h1,h2,y,hr,hy⟩:=BW hc ht hs;subst hx;exact ⟨y,by simp only [asAddr,c_,eH,du];exact hr,hy⟩
 unfold nZ at he;split at he
 ·rename_i k off;obtain ⟨t',cs,hk,ht⟩:=gB he;obtain ⟨b,o,hi,hx⟩:=pT hd (by rw [hk];rfl);exact fin (yL h hk hi) ht hx
 ·obtain ⟨b,o,c,_,hx,hc,hy⟩:=qJ hd;exact fin ⟨λi y hi=>⟨c i,hc i y hi,hy i y hi⟩⟩ he hx
 ·cases he
theorem wO {a:Act} {fr:Fr} (hH:nf X hp nx ids w) (hF:∀ d,cU X hp ids w (cL fr d) (a.tmps.getD d undef)):∀ (rs:List ResultVar) (K:List SV->Prop),wL X.P fr hp nx rs K ->
 ∃(xs:List SV) (vs:List Value),K xs/\(rs.mapM (wN a.tmps)).run X.P w = .ok vs w/\xs.length=vs.length/\∀ (i:Nat) (x:SV),xs[i]? = some x->cU X hp ids w x (vs.getD i undef)
 | [],K,h=>⟨[],[],h,by simp [eH],rfl,λi x hx=>by simp at hx⟩
 | .tmp t::r,K,h=>by
  obtain ⟨xs,vs,h1,h2,h3,h4⟩:=wO hH hF r _ h
  refine ⟨_,a.tmps.getD t undef::vs,h1,?_,by simp [h3],λi x hx=>?_⟩
  ·rw [List.mapM_cons]
   simp only [wN,c_,eH,du,h2]
  ·cases i with
   | zero=>simp at hx;subst hx;exact hF t
   | succ i=>exact h4 i x (by simpa using hx)
 | .cell b t::r,K,h=>by
  unfold wL at h
  cases hl:nZ X.P t (cL fr b) hp nx with
  | bad=>rw [hl] at h;exact h.elim
  | ok side e =>
   rw [hl] at h
   obtain ⟨hs,hk⟩:=h
   obtain ⟨xs,vs,h1,h2,h3,h4⟩:=wO hH hF r _ hk
   obtain ⟨hu,hn⟩:=zi hl
   obtain ⟨y,gy1,gy2⟩:=Iu hH.toX (hF b) hl hs
   refine ⟨_,y::vs,h1,?_,by simp [h3],λi x hx=>?_⟩
   ·rw [List.mapM_cons]
    simp only [wN,c_,eH,h2,gy1,du]
   ·cases i with
    | zero=>simp at hx;subst hx;exact gy2
    | succ i=>exact h4 i x (by simpa using hx)
def LK:List Value->Value
 | [x]=>x
 | vs=>.tuple vs.toArray
theorem Eg {P:Program} {fn:Func} {a:Act} {vs:List Value} (h:(fn.results.toList.mapM (wN a.tmps)).run P w = .ok vs w):(results fn a.tmps).run P w = .ok (LK vs) w:=by
 have he:results fn a.tmps=(fn.results.mapM (wN a.tmps) >>= λvs=>pure (if h:vs.size=1 then vs[0] else .tuple vs)):=by
  unfold results;congr 2
 rw [he,c_,Array.mapM_eq_mapM_toList,map_eq_pure_bind,c_,h];simp only [du,eH];match vs with
 | []=>rfl
 | [x]=>rfl
 | x::y::r=>rfl
theorem cM {D:(id:Nat)->(ops:Array Oper)->(Fr->Hp->Nat->Prop)->Fr->Hp->Nat->Prop} {P:Program} (hD:Cu D P) {f:FuncId} {fn:Func} {c:Code} {args:List SV} {hin:Hp} {m:Nat} {Post:SV->Hp->Nat->Prop}
  (hf : P.funcs[f]? = some fn) (hb : fn.body = some c) (hn : fn.name ≠ "runtime.NumGoroutine") (hl : Nat.ble args.length fn.ntmps = true) (hc : oq fn.ntmps c = true)
  (h:pJ D P m fn.ntmps c (Cv P fn.results.toList m Post) (qf 0 args) hin m):cS P f args hin m Post:=by
 refine ⟨⟨fn,c,hf,hb,hn⟩,λX vals hP hm hH hvs hvd=>?_⟩
 subst hP;subst hm
 have hl':args.length<=fn.ntmps:=by simpa using hl
 refine calls_of_wp hf hb ?_
 have hst:lN X fn.ntmps (qf 0 args) hin X.m { tmps:=vals++Array.replicate (fn.ntmps-vals.size) undef,defers:=[] } X.w0:=by
  refine ⟨X.ids0,hH,λd=>?_,by simp;omega,rfl⟩
  rw [AZ,if_neg (by omega)]
  show cU X hin X.ids0 X.w0 (args.getD (d-0) .any) _
  rw [m_,dA]
  by_cases hd:d<args.length
  ·have:=hvd d (args[d]) (dz hd)
   rw [dz hd,gZ]
   rw [cQ,na (by omega),←cQ]
   exact this
  ·rw [nb (by omega)];exact .any
 refine wp_mono (Hf hD c _ _ _ _ _ _ hc hst h) λe a w he=>?_
 have fin:∀ {fr hp nx},(wL X.P fr hp nx fn.results.toList λxs=>wM X.P X.m Post (uS xs) hp)->lN X fn.ntmps fr hp nx a w->a.defers=[]/\∃ v,(results fn a.tmps).run X.P w = .ok v w/\∃ r res hp' nx' ids',Ending.returned v = .returned r/\Post res hp' nx'/\nf X hp' nx' ids' w/\cU X hp' ids' w res r:=by
  rintro fr hp nx hr ⟨ids,hH,hF,hN,hdf⟩
  obtain ⟨xs,vs,⟨x',hp',nx',hpost,hle⟩,hrun,hlen,hx⟩:=wO hH hF _ _ hr
  obtain ⟨σ,frz,hS,hm,hd⟩:=hle.ex
  obtain ⟨ids',h1,h2⟩:=Sx.weaken hH.toHeapC hS hle.fresh (λk hk hl=>hm k hk (.inl hl)) (λk hk hv=>hm k hk (.inr hv)) hle.le
  refine ⟨hdf,_,Eg hrun,_,x',hp',nx',ids',rfl,hpost,h1,h2 (uS xs) x' _ (hd 0) ?_⟩
  match xs,vs,hlen,hx with
  | [],[],_,hx=>exact .tup _ rfl λi x hi=>by simp at hi
  | [x],[v],_,hx=>exact hx 0 x rfl
  | x::y::r,v::u::s,hlen,hx=>
   refine .tup _ (by simpa using hlen) λi z hi=>?_
   have hz:=hx i z hi
   rw [dA] at hz
   rw [cQ,pA]
   exact hz
 cases e with
 | normal=>obtain ⟨fr,hp,nx,hk,hs⟩:=he;exact fin hk hs
 | ret=>obtain ⟨fr,hp,nx,hk,hs⟩:=he;exact fin hk hs
 | exit id=>obtain ⟨fr,hp,nx,hk,hs⟩:=he;exact hk.elim
 | _=>exact he.elim
end
section
open Go.RowKit
variable {X:Cx} {hp:Hp} {nx:Nat} {ids:dD} {w:World}
structure It where
 val:SV
 upd:Hp
 rds:List Nm
 nx:Nat
 nx':Nat
structure fV where
 keys:List Nm
 rds:List Nm
 nx:Nat
 nx':Nat
def It.nms (t:It):fV:=⟨t.upd.map (·.1.key),t.rds,t.nx,t.nx'⟩
def uT (P:Program) (ops:Array Oper):List Oper->Fr->Hp->Nat->List fV->(List fV->Fr->Hp->Nat->Prop)->Prop
 | [],fr,hp,nx,acc,K=>K acc fr hp nx
 | o::rest,fr,hp,nx,acc,K=>iv true P ops o fr hp nx λval upd nx' rds=>uT P ops rest (gp o.dst val fr) (upd++hp) (nx'+1) (acc++[⟨upd.map (·.1.key),rds,nx,nx'⟩]) K
def Cw (ops:Array Oper) (o1:Oper) (n1:fV) (o2:Oper) (n2:fV):Bool :=
 (match o1.dst with
  | some d=>!(jL ops o2).contains d&&o2.dst != some d
  | none=>true) &&
 (match o2.dst with
  | some d=>!(jL ops o1).contains d
  | none=>true) &&
 n1.keys.all (λk=>!n2.keys.contains k && !n2.rds.contains k) &&
 n2.keys.all (λk=>!n1.rds.contains k && !(Nat.ble n1.nx k.base&&Nat.ble k.base n1.nx')) &&
 true
def kh:Op->Bool
 | .mapEntry _ _ _=>true
 | _=>false
def Nm.isT:Nm->Bool
 | .t _=>true
 | .s _ _=>false
def uh (o1 o2:Oper):Bool:=match o1.op,o2.op,o1.guard,o2.guard with
 | .lookup t (.tmp a) (.tmp b) false,.mapEntry t' (.tmp a') (.tmp b'),none,none=>t==t'&&(a==a'&&b==b')
 | _,_,_,_=>false
def tC (ops:Array Oper) (o1:Oper) (n1:fV) (o2:Oper) (n2:fV):Bool :=
 uh o1 o2&&((ops.toList.filter λo=>kh o.op).length==1&&(n1.keys.isEmpty &&
 ((match o1.dst with
  | some d=>!(jL ops o2).contains d&&o2.dst != some d
  | none=>true) &&
 ((match o2.dst with
  | some d=>!(jL ops o1).contains d
  | none=>true) &&
 (n2.keys.all (λk=>!(Nat.ble n1.nx k.base&&Nat.ble k.base n1.nx'))&&n1.rds.all Nm.isT)))))
def wP (ops:Array Oper) (o1:Oper) (n1:fV) (o2:Oper) (n2:fV):Bool:=Cw ops o1 n1 o2 n2||tC ops o1 n1 o2 n2
def FS (n1 n2:fV):Bool:=n1.keys.all λk=>!(Nat.ble n2.nx k.base&&Nat.ble k.base n2.nx')
def JY (o:Oper) (A:List Nat):Nat:=o.after.toList.foldl (λn e=>if Region.binds .any e then n ||| (1 <<< e.on) ||| A.getD e.on 0 else n) 0
def wQ (l:List Oper):List Nat:=l.foldl (λA o=>A++[JY o A]) []
def Al (ops:Array Oper) (A:List Nat):Bool:=(List.range ops.size).all λj=>match ops[j]? with
 | some o=>o.after.toList.all (λe=>!Region.binds .any e||Nat.blt e.on j)&&(List.range ops.size).all λi=>!(A.getD j 0).testBit i||o.after.toList.any λe=>Region.binds .any e&&(e.on==i||(A.getD e.on 0).testBit i)
 | none=>true
def Hh (ops:Array Oper) (ns:List fV) (A:List Nat) (i j:Nat):Bool :=
 match ops[i]?,ns[i]?,ops[j]?,ns[j]? with
 | some o1,some n1,some o2,some n2=>((A.getD j 0).testBit i||wP ops o1 n1 o2 n2)&&FS n1 n2
 | _,_,_,_=>false
def mW (ops:Array Oper) (ns:List fV) (A:List Nat):Bool:=Al ops A&&(List.range ops.size).all λj=>(List.range j).all λi=>Hh ops ns A i j
def Jj (P:Program) (id:Nat) (ops:Array Oper) (K:Fr->Hp->Nat->Prop) (fr:Fr) (hp:Hp) (nx:Nat):Prop :=
 uT P ops ops.toList fr hp nx [] λns fr' hp' nx'=>x6 (P.follows .mixedOrders=true/\mW ops ns (wQ ops.toList)=true) (K fr' hp' nx')
abbrev Zs:=List (Oper×It)
def gH (sel:Nat->Bool):Nat->Zs->Fr->Fr
 | _,[],fr=>fr
 | i,z::r,fr=>gH sel (i+1) r (bif sel i then gp z.1.dst z.2.val fr else fr)
def fS (sel:Nat->Bool):Nat->Zs->Hp->Hp
 | _,[],hp=>hp
 | i,z::r,hp=>fS sel (i+1) r (bif sel i then z.2.upd++hp else hp)
theorem Cy {dst:Option Tmp} {x:SV} {fr fr':Fr} {d:Nat} (h:dst≠some d->cL fr d=cL fr' d):cL (gp dst x fr) d=cL (gp dst x fr') d:=by
 cases dst with
 | none=>exact h (by simp)
 | some t =>
  simp only [gp,cL];by_cases ht:t=d
  ·subst ht;simp
  ·rw [show (t==d)=false from by simpa using ht,cj,cj];exact h (by simpa using ht)
theorem ra {dst:Option Tmp} {x:SV} {fr:Fr} {d:Nat} (h:dst≠some d):cL (gp dst x fr) d=cL fr d:=by
 cases dst with
 | none=>rfl
 | some t =>
  simp only [gp,cL];rw [show (t==d)=false from by simpa using h,cj]
theorem ja {u hp:Hp} {k:Nm} (h:k.key∉u.map (·.1.key)):bW (u++hp) k=bW hp k:=by
 rw [fG,if_neg];rintro ⟨p,hp,hk⟩;exact h (fM.2 ⟨p,hp,hk⟩)
theorem qO {u hp hp':Hp} {k:Nm} (h:k.key∉u.map (·.1.key)->bW hp k=bW hp' k):bW (u++hp) k=bW (u++hp') k:=by
 rw [fG,fG];split
 ·rfl
 ·rename_i hn;exact h λhm=>hn (by obtain ⟨p,hp,hk⟩:=fM.1 hm;exact ⟨p,hp,hk⟩)
theorem o9 {s1 s2:Nat->Bool} {d:Nat}:∀ (z:Zs) (k:Nat) (fr1 fr2:Fr),(∀ i q,z[i]? = some q->q.1.dst=some d->s1 (k+i)=s2 (k+i))->cL fr1 d=cL fr2 d->cL (gH s1 k z fr1) d=cL (gH s2 k z fr2) d
 | [],k,fr1,fr2,_,h=>h
 | q::r,k,fr1,fr2,hs,h=>by
  refine o9 r (k+1) _ _ (λi p hi hp=>by have:=hs (i+1) p (by simpa using hi) hp;rwa [show k+(i+1)=k+1+i from by omega] at this) ?_
  by_cases hd:q.1.dst=some d
  ·have:=hs 0 q rfl hd
   rw [eC] at this
   rw [this]
   cases s2 k with
   | true=>exact Cy λ_=>h
   | false=>exact h
  ·have e:∀ (b:Bool) (fr:Fr),cL (bif b then gp q.1.dst q.2.val fr else fr) d=cL fr d:=λb fr=>by
    cases b with
    | true=>exact ra hd
    | false=>rfl
   rw [e,e];exact h
theorem mG {s1 s2:Nat->Bool} {d:Nm}:∀ (z:Zs) (k:Nat) (h1 h2:Hp),(∀ i q,z[i]? = some q->d.key∈q.2.upd.map (·.1.key)->s1 (k+i)=s2 (k+i))->bW h1 d=bW h2 d->bW (fS s1 k z h1) d=bW (fS s2 k z h2) d
 | [],k,h1,h2,_,h=>h
 | q::r,k,h1,h2,hs,h=>by
  refine mG r (k+1) _ _ (λi p hi hp=>by have:=hs (i+1) p (by simpa using hi) hp;rwa [show k+(i+1)=k+1+i from by omega] at this) ?_
  by_cases hd:d.key∈q.2.upd.map (·.1.key)
  ·have:=hs 0 q rfl hd
   rw [eC] at this
   rw [this]
   cases s2 k with
   | true=>exact qO λ_=>h
   | false=>exact h
  ·have e:∀ (b:Bool) (hp:Hp),bW (bif b then q.2.upd++hp else hp) d=bW hp d:=λb hp=>by
    cases b with
    | true=>exact ja hd
    | false=>rfl
   rw [e,e];exact h
theorem A0 {s1 s2:Nat->Bool} {d:Nat}:∀ (z:Zs) (k:Nat) (fr1 fr2:Fr) (i:Nat) (q:Oper×It),z[i]? = some q->s1 (k+i)=false->s2 (k+i)=true->(∀ j,j≠k+i->s1 j=s2 j) ->
  (q.1.dst=some d->∀ j p,i<j->z[j]? = some p->s1 (k+j)=true->p.1.dst≠some d)->cL fr1 d=cL fr2 d->cL (gp q.1.dst q.2.val (gH s1 k z fr1)) d=cL (gH s2 k z fr2) d
 | [],k,fr1,fr2,i,q,hi,_,_,_,_,_=>by simp at hi
 | p::r,k,fr1,fr2,i,q,hi,h1,h2,hs,hd,h=>by
  cases i with
  | zero =>
   simp only [pB,fw] at hi
   subst hi
   simp only [gH,eC] at h1 h2 ⊢
   rw [h1,h2,cj,cd]
   by_cases hpd:p.1.dst=some d
   ·have e:cL (gp p.1.dst p.2.val (gH s1 (k+1) r fr1)) d=cL (gp p.1.dst p.2.val fr2) d:=by rw [hpd];simp [gp,cL]
    rw [e]
    symm
    have hno:∀ (r:Zs) (m:Nat) (fr:Fr),(∀ j q,r[j]? = some q->s2 (m+j)=true->q.1.dst≠some d)->cL (gH s2 m r fr) d=cL fr d:=by
     intro r;induction r with
     | nil=>exact λ_ _ _=>rfl
     | cons q r ih =>
      intro m fr hj;simp only [gH];rw [ih (m+1) _ λj q' hq' hs'=>hj (j+1) q' (by simpa using hq') (by rw [show m+(j+1)=m+1+j from by omega];exact hs')];cases hsm:s2 m with
      | true=>exact ra (hj 0 q rfl (by rw [eC];exact hsm))
      | false=>rfl
    exact hno r (k+1) _ λj q hj hsj=>hd hpd (j+1) q (by omega) (by simpa using hj) (by rw [hs _ (by omega)];rw [show k+(j+1)=k+1+j from by omega];exact hsj)
   ·rw [ra hpd];exact o9 r (k+1) _ _ (λj q hj _=>hs _ (by omega)) (h.trans (ra hpd).symm)
  | succ i =>
   simp only [gH];rw [show s1 k=s2 k from hs k (by omega)];refine A0 r (k+1) _ _ i q (by simpa using hi) (by rw [show k+1+i=k+(i+1) from by omega];exact h1) (by rw [show k+1+i=k+(i+1) from by omega];exact h2) (λj hj=>hs j (by omega)) (λhq j p' hij hj hsj=>hd hq (j+1) p' (by omega) (by simpa using hj) (by rw [show k+(j+1)=k+1+j from by omega];exact hsj)) ?_;cases s2 k with
   | true=>exact Cy λ_=>h
   | false=>exact h
theorem wR {s1 s2:Nat->Bool} {d:Nm}:∀ (z:Zs) (k:Nat) (h1 h2:Hp) (i:Nat) (q:Oper×It),z[i]? = some q->s1 (k+i)=false->s2 (k+i)=true->(∀ j,j≠k+i->s1 j=s2 j) ->
  (d.key∈q.2.upd.map (·.1.key)->∀ j p,i<j->z[j]? = some p->s1 (k+j)=true->d.key∉p.2.upd.map (·.1.key))->bW h1 d=bW h2 d->bW (q.2.upd++fS s1 k z h1) d=bW (fS s2 k z h2) d
 | [],k,fr1,fr2,i,q,hi,_,_,_,_,_=>by simp at hi
 | p::r,k,fr1,fr2,i,q,hi,h1,h2,hs,hd,h=>by
  cases i with
  | zero =>
   simp only [pB,fw] at hi
   subst hi
   simp only [fS,eC] at h1 h2 ⊢
   rw [h1,h2,cj,cd]
   by_cases hpd:d.key∈p.2.upd.map (·.1.key)
   ·have e:bW (p.2.upd++fS s1 (k+1) r fr1) d=bW (p.2.upd++fr2) d:=qO λhn=>absurd hpd hn
    rw [e]
    symm
    have hno:∀ (r:Zs) (m:Nat) (fr:Hp),(∀ j q,r[j]? = some q->s2 (m+j)=true->d.key∉q.2.upd.map (·.1.key))->bW (fS s2 m r fr) d=bW fr d:=by
     intro r;induction r with
     | nil=>exact λ_ _ _=>rfl
     | cons q r ih =>
      intro m fr hj;simp only [fS];rw [ih (m+1) _ λj q' hq' hs'=>hj (j+1) q' (by simpa using hq') (by rw [show m+(j+1)=m+1+j from by omega];exact hs')];cases hsm:s2 m with
      | true=>exact ja (hj 0 q rfl (by rw [eC];exact hsm))
      | false=>rfl
    exact hno r (k+1) _ λj q hj hsj=>hd hpd (j+1) q (by omega) (by simpa using hj) (by rw [hs _ (by omega)];rw [show k+(j+1)=k+1+j from by omega];exact hsj)
   ·rw [ja hpd];exact mG r (k+1) _ _ (λj q hj _=>hs _ (by omega)) (h.trans (ja hpd).symm)
  | succ i =>
   simp only [fS];rw [show s1 k=s2 k from hs k (by omega)];refine wR r (k+1) _ _ i q (by simpa using hi) (by rw [show k+1+i=k+(i+1) from by omega];exact h1) (by rw [show k+1+i=k+(i+1) from by omega];exact h2) (λj hj=>hs j (by omega)) (λhq j p' hij hj hsj=>hd hq (j+1) p' (by omega) (by simpa using hj) (by rw [show k+(j+1)=k+1+j from by omega];exact hsj)) ?_;cases s2 k with
   | true=>exact qO λ_=>h
   | false=>exact h
def Cz (t:It) (v:SV) (u:Hp) (n:Nat) (r:List Nm):Prop:=v=t.val/\u=t.upd/\n=t.nx'/\r=t.rds
def xf (P:Program) (ops:Array Oper):Zs->Fr->Hp->Nat->Prop
 | [],_,_,_=>True
 | q::r,fr,hp,nx=>q.2.nx=nx/\nx<=q.2.nx'/\iv true P ops q.1 fr hp nx (Cz q.2)/\xf P ops r (gp q.1.dst q.2.val fr) (q.2.upd++hp) (q.2.nx'+1)
theorem CA {P:Program} {g:Bool} {o:Oper} {fr:Fr} {K:SV->Hp->Nat->List Nm->Prop} (h:ky true P g o fr hp nx K):∃ t:It,t.nx=nx/\nx<=t.nx'/\K t.val t.upd t.nx' t.rds/\ky true P g o fr hp nx (Cz t):=by
 unfold ky at h ⊢;split at h
 ·rename_i c hc;obtain ⟨args',hin,m,Post,σ,bor,h1,h2,hsg,h3,h4,h5,h6,h7,⟨r0,p0,n0,h8⟩,hdet,h9⟩:=h;obtain ⟨g1,g2,u,gt,g3⟩:=h9 _ _ _ h8;refine ⟨⟨_,_,_,nx,_⟩,rfl,uF _ _,g3,?_⟩;refine ⟨args',hin,m,Post,σ,bor,h1,h2,hsg,h3,h4,h5,h6,h7,⟨r0,p0,n0,h8⟩,hdet,λres hp' nx' hp1=>?_⟩;obtain ⟨rfl,rfl,rfl⟩:=hdet rfl _ _ _ _ _ _ h8 hp1;exact ⟨g1,g2,u,gt,rfl,rfl,rfl,rfl⟩
 ·rcases h with h|h
  ·obtain ⟨hg,hso,e,h1,h2,h3⟩:=h;exact ⟨⟨e.val,e.upd,e.rds,nx,e.nx⟩,rfl,h1,h2,.inl ⟨hg,hso,e,h1,⟨rfl,rfl,rfl,rfl⟩,h3⟩⟩
  cases hop:kH P g fr hp nx o.type o.op with
  | bad=>rw [hop] at h;exact h.elim
  | ok side e =>
   rw [hop] at h;obtain ⟨hs,hk⟩:=h;exact ⟨⟨e.val,e.upd,e.rds,nx,e.nx⟩,rfl,(yk hop).1,hk,.inr ⟨hs,rfl,rfl,rfl,rfl⟩⟩
theorem Iv {P:Program} {ops:Array Oper} {o:Oper} {fr:Fr} {K:SV->Hp->Nat->List Nm->Prop} (h:iv true P ops o fr hp nx K):∃ t:It,t.nx=nx/\nx<=t.nx'/\K t.val t.upd t.nx' t.rds/\iv true P ops o fr hp nx (Cz t):=by
 unfold iv at h ⊢;cases hgd:o.guard with
 | none=>rw [hgd] at h;exact CA h
 | some jw =>
  rw [hgd] at h;simp only at h ⊢;cases hgs:mw ops fr jw.1 jw.2 with
  | none=>rw [hgs] at h;exact h.elim
  | some g =>
   rw [hgs] at h;simp only at h ⊢;cases hq:lL P o.op with
   | true =>
    rw [hq,cd] at h;simp only [cd];rcases h with h|h
    ·exact ⟨⟨_,_,_,nx,_⟩,rfl,cF _,h.2,.inl ⟨h.1,rfl,rfl,rfl,rfl⟩⟩
    cases hop:kH P g fr hp nx o.type o.op with
    | bad=>rw [hop] at h;exact h.elim
    | ok side e =>
     rw [hop] at h;unfold zl;simp only at h ⊢;cases hu:e.upd with
     | nil=>rw [hu] at h;exact ⟨⟨_,_,_,nx,_⟩,rfl,cF _,h.2,.inr ⟨h.1,rfl,rfl,rfl,rfl⟩⟩
     | cons a b=>rw [hu] at h;exact h.elim
   | false =>
    rw [hq,cj] at h;simp only [cj];cases g with
    | true =>
     obtain ⟨t,h1,h2,h3,h4⟩:=CA (h.1 rfl);exact ⟨t,h1,h2,h3,(λ_=>h4),(λhe=>by cases he)⟩
    | false=>exact ⟨⟨_,_,_,nx,_⟩,rfl,cF _,h.2 rfl,(λhe=>by cases he),λ_=>⟨rfl,rfl,rfl,rfl⟩⟩
def nD:Zs->Nat->Nat
 | [],nx=>nx
 | q::r,nx=>nD r (q.2.nx'+1)
theorem zt {P:Program} {ops:Array Oper} {K:List fV->Fr->Hp->Nat->Prop} :∀ (l:List Oper) (fr:Fr) (hp:Hp) (nx:Nat) (acc:List fV) (k:Nat),uT P ops l fr hp nx acc K ->
 ∃z:Zs,z.map (·.1)=l/\xf P ops z fr hp nx/\K (acc++z.map (·.2.nms)) (gH (λ_=>true) k z fr) (fS (λ_=>true) k z hp) (nD z nx)
 | [],fr,hp,nx,acc,k,h=>⟨[],rfl,trivial,by simpa [uT,gH,fS,nD] using h⟩
 | o::r,fr,hp,nx,acc,k,h=>by
  obtain ⟨t,h1,h2,h3,h4⟩:=Iv h
  obtain ⟨z,g1,g2,g3⟩:=zt r _ _ _ _ (k+1) h3
  refine ⟨(o,t)::z,by simp [g1],⟨h1,h2,h4,g2⟩,?_⟩
  have e:acc++List.map (λx=>x.2.nms) ((o,t)::z)=acc++[(⟨t.upd.map (·.1.key),t.rds,nx,t.nx'⟩:fV)]++z.map (·.2.nms):=by simp [It.nms,h1]
  rw [e]
  exact g3
theorem uU {s:Nat->Bool}:∀ (z:Zs) (k:Nat) (fr:Fr),(∀ j,k<=j->s j=false)->gH s k z fr=fr
 | [],k,fr,_=>rfl
 | q::r,k,fr,h=>by simp only [gH,h k (cF _),cj];exact uU r (k+1) fr λj hj=>h j (by omega)
theorem se {s:Nat->Bool}:∀ (z:Zs) (k:Nat) (hp:Hp),(∀ j,k<=j->s j=false)->fS s k z hp=hp
 | [],k,hp,_=>rfl
 | q::r,k,hp,h=>by simp only [fS,h k (cF _),cj];exact se r (k+1) hp λj hj=>h j (by omega)
theorem uV {P:Program} {ops:Array Oper} :∀ (z:Zs) (fr:Fr) (hp:Hp) (nx:Nat),xf P ops z fr hp nx->nx<=nD z nx
 | [],_,_,_,_=>cF _
 | q::r,fr,hp,nx,h=>by
  have:=uV r _ _ _ h.2.2.2
  have:=h.2.1
  simp only [nD];omega
theorem yl {P:Program} {ops:Array Oper} :∀ (z:Zs) (fr:Fr) (hp:Hp) (nx k i:Nat) (q:Oper×It),xf P ops z fr hp nx->z[i]? = some q ->
  nx<=q.2.nx/\q.2.nx<=q.2.nx'/\q.2.nx'<nD z nx/\iv true P ops q.1 (gH (λj=>decide (j<k+i)) k z fr) (fS (λj=>decide (j<k+i)) k z hp) q.2.nx (Cz q.2)
 | [],_,_,_,_,i,q,_,hi=>by simp at hi
 | p::r,fr,hp,nx,k,i,q,h,hi=>by
  obtain ⟨h1,h2,h3,h4⟩:=h
  cases i with
  | zero =>
   simp only [pB,fw] at hi
   subst hi
   refine ⟨by omega,by omega,?_,?_⟩
   ·have:=uV r _ _ _ h4
    simp only [nD];omega
   ·rw [uU _ _ _ λj hj=>by simp;omega,se _ _ _ λj hj=>by simp;omega,h1];exact h3
  | succ i =>
   obtain ⟨g1,g2,g3,g4⟩:=yl r _ _ _ (k+1) i q h4 (by simpa using hi)
   refine ⟨by omega,g2,g3,?_⟩
   have hk:decide (k<k+(i+1))=true:=by simp
   simp only [gH,fS,hk,cd]
   rw [show k+(i+1)=k+1+i from by omega]
   exact g4
theorem kN {ops:Array Oper} {ns:List fV} {A:List Nat} (h:mW ops ns A=true) {i j:Nat} {o1 o2:Oper} {n1 n2:fV} (hij:i<j) (h1:ops[i]? = some o1) (h2:ops[j]? = some o2) (h3:ns[i]? = some n1) (h4:ns[j]? = some n2) :
  ((A.getD j 0).testBit i=true\/wP ops o1 n1 o2 n2=true)/\FS n1 n2=true:=by
 simp only [mW,cT,dQ,jD] at h;have hlt:j<ops.size:=(qF.1 h2).1;have:=h.2 j hlt i hij;unfold Hh at this;simp only [h1,h2,h3,h4,cT,kW] at this;exact this
theorem A7 {ops:Array Oper} {o1 o2:Oper} {n1 n2:fV} (h:Cw ops o1 n1 o2 n2=true) :
  (∀ d,o1.dst=some d->d∉jL ops o2/\o2.dst≠some d)/\(∀ d,o2.dst=some d->d∉jL ops o1)/\(∀ k∈n1.keys,k∉n2.keys/\k∉n2.rds)/\∀ k∈n2.keys,k∉n1.rds/\¬ (n1.nx<=k.base/\k.base<=n1.nx'):=by
 simp only [Cw,cT,dQ] at h;obtain ⟨⟨⟨⟨h1,h2⟩,h3⟩,h4⟩,_⟩:=h;refine ⟨λd hd=>?_,λd hd=>?_,λk hk=>?_,λk hk=>?_⟩
 ·rw [hd] at h1;simpa using h1
 ·rw [hd] at h2;simpa using h2
 ·have:=h3 k hk;simpa using this
 ·have:=h4 k hk;simp only [cT,kg,Bool.and_eq_false_iff,List.contains_eq_mem,uG] at this;refine ⟨this.1,λhh=>?_⟩;rcases this.2 with h|h
  ·have:=qI hh.1;rw [h] at this;cases this
  ·have:=qI hh.2;rw [h] at this;cases this
theorem uW {ops:Array Oper} {o1 o2:Oper} {n1 n2:fV} (h:tC ops o1 n1 o2 n2=true) :
  uh o1 o2=true/\(ops.toList.filter λo=>kh o.op).length=1/\n1.keys=[]/\(∀ d,o1.dst=some d->d∉jL ops o2/\o2.dst≠some d)/\(∀ d,o2.dst=some d->d∉jL ops o1)/\(∀ k∈n2.keys,¬ (n1.nx<=k.base/\k.base<=n1.nx'))/\∀ k∈n1.rds,Nm.isT k=true:=by
 simp only [tC,cT,dQ,jB,List.isEmpty_iff] at h;obtain ⟨h1,h2,h3,h4,h5,h6,h7⟩:=h;refine ⟨h1,h2,h3,λd hd=>?_,λd hd=>?_,λk hk hh=>?_,h7⟩
 ·rw [hd] at h4;simpa using h4
 ·rw [hd] at h5;simpa using h5
 ·have:=h6 k hk;simp only [kg,Bool.and_eq_false_iff] at this;rcases this with h|h
  ·have:=qI hh.1;rw [h] at this;cases this
  ·have:=qI hh.2;rw [h] at this;cases this
theorem nQ {ops:Array Oper} {o1 o2:Oper} {n1 n2:fV} (h:wP ops o1 n1 o2 n2=true) :
  (∀ d,o1.dst=some d->d∉jL ops o2/\o2.dst≠some d)/\(∀ d,o2.dst=some d->d∉jL ops o1)/\(∀ k∈n1.keys,k∉n2.keys/\k∉n2.rds)/\∀ k∈n2.keys,¬ (n1.nx<=k.base/\k.base<=n1.nx'):=by
 simp only [wP,kW] at h;rcases h with h|h
 ·obtain ⟨a1,a2,a3,a4⟩:=A7 h;exact ⟨a1,a2,a3,λk hk=>(a4 k hk).2⟩
 ·obtain ⟨_,_,a3,a4,a5,a6,_⟩:=uW h;exact ⟨a4,a5,λk hk=>(by rw [a3] at hk;cases hk),a6⟩
theorem Am {ops:Array Oper} {o1 o2:Oper} {n1 n2:fV} (h:wP ops o1 n1 o2 n2=true) (hl:¬ tC ops o1 n1 o2 n2=true):∀ k∈n2.keys,k∉n1.rds:=by
 simp only [wP,kW] at h;rcases h with h|h
 ·exact λk hk=>((A7 h).2.2.2 k hk).1
 ·exact absurd h hl
theorem xR {a b:Value} (h:j9 a b=true):j9 a a=true:=by
 cases a<;>cases b<;>simp only [j9,fy] at h<;>simp [j9];exact uf _
theorem A8:∀ {x y:List Value},sK x y=true->sK x x=true
 | [],_,_=>rfl
 | a::x,[],h=>by cases h
 | a::x,b::y,h=>by
  simp only [sK,cT] at h ⊢
  exact ⟨xR h.1,A8 h.2⟩
theorem FT {a b:Value} (h:gQ a b=true):gQ a a=true:=by
 unfold gQ at h;split at h
 ·exact A8 h
 ·rename_i hn;have:=xR h;unfold gQ;split
  ·simp [j9] at this
  ·exact this
theorem A9 (key kv:Value) (v:SV):∀ (es:List (Value×SV)) (i:Nat),eY key (es++[(kv,v)]) i=match eY key es i with
  | some p=>some p
  | none=>bif gQ key kv then some (i+es.length,v) else none
 | [],i=>by simp [eY]
 | e::es,i=>by
  simp only [iy,eY]
  cases gQ key e.1 with
  | true=>rfl
  | false =>
   simp only [cj]
   rw [A9 key kv v es (i+1)]
   cases eY key es (i+1) with
   | some p=>rfl
   | none=>simp only [gy];rw [show i+1+es.length=i+(es.length+1) by omega]
theorem A_ (key:Value) (v:SV) (hk:gQ key key=true):∀ (es:List (Value×SV)) (i:Nat) (p:Nat×SV),eY key es i=some p->eY key (es.modify (p.1-i) λ_=>(key,v)) i=some (p.1,v)
 | [],i,p,h=>by cases h
 | e::es,i,p,h=>by
  simp only [eY] at h
  cases hc:gQ key e.1 with
  | true =>
   rw [hc] at h;cases h
   simp [eY,hk]
  | false =>
   rw [hc] at h
   simp only [cj] at h
   obtain ⟨h1,_⟩:=ni es (i+1) p h
   obtain ⟨d,hd⟩:∃ d,p.1-i=d+1:=⟨p.1-i-1,by omega⟩
   rw [hd,List.modify_succ_cons]
   simp only [eY,hc,cj]
   have:=A_ key v hk es (i+1) p h
   rwa [show p.1-(i+1)=d by omega] at this
theorem Hi (z key:Value) (es:List (Value×SV)):gC z key (ll key (gC z key es) es)=gC z key es:=by
 cases hf:eY key es 0 with
 | none =>
  have h1:gC z key es = .v z:=by unfold gC;rw [hf]
  rw [h1];unfold ll gC;rw [hf];simp only;rw [A9,hf];cases gQ key key<;>rfl
 | some p =>
  have h1:gC z key es=p.2:=by unfold gC;rw [hf]
  rw [h1];unfold ll gC;rw [hf];simp only;obtain ⟨_,q,_,_,hq⟩:=ni es 0 p hf;have:=A_ key p.2 (FT hq) es 0 p hf;rw [m_] at this;rw [this]
theorem EK (f:Value->Bool) (key:Value) (v:SV) (es:List (Value×SV)) (h1:es.all (λp=>f p.1)=true) (h2:f key=true):(ll key v es).all (λp=>f p.1)=true:=by
 unfold ll;split
 ·rename_i p _;rw [dQ] at h1 ⊢;intro x hx;obtain ⟨i,hi,rfl⟩:=uz hx;rw [List.getElem_modify];split
  ·exact h2
  ·exact h1 _ (eI (by simpa using hi))
 ·rw [List.all_append,h1];simp [h2]
theorem Iw {P:Program} {t e':TypeId} {key:SV} {kv:Value} {S:List (Value×SV)->Prop} (hk:wl P t key=some (kv,S,e')) {es:List (Value×SV)} (hs:S es) (v:SV):S (ll kv v es):=by
 unfold wl at hk;split at hk
 ·cases hk;refine ⟨hs.1,EK (λx=>gM kv x) kv v es hs.2 ?_⟩;have:=hs.1;cases kv<;>simp [lW] at this<;>simp [gM]
 ·split at hk
  ·rename_i vs _ l _ _ _;cases hk;exact ⟨hs.1,EK (λx=>oH l x) _ v es hs.2 (by simpa [oH] using hs.1)⟩
  ·cases hk
 ·cases hk
theorem xS {P:Program} {t:TypeId} {k:Nm} {key:SV} {s:Prop} {e:dw} (h:jW P t (.mp k) key false hp nx = .ok s e):∃ kv S e' z,wl P t key=some (kv,S,e')/\mT P e'=some z/\(∀ hp2 nx2,jW P t (.mp k) key false hp2 nx2=qa (bW hp2 k) λes=>.ok (S es) ⟨gC z kv es,[],nx2,[k.key]⟩):=by
 unfold jW at h;split at h
 ·rename_i k' kv d e' hx hmt;cases hx;split at h
  ·rename_i z hz;refine ⟨kv,(λes=>lW d kv=true/\es.all (λp=>gM kv p.1)=true),e',z,by unfold wl;rw [hmt],hz,λhp2 nx2=>?_⟩;unfold jW;rw [hmt];simp only [hz,cj]
  ·cases h
 ·rename_i k' cs d' hx hmt;cases hx;split at h
  ·rename_i vs kt l e' hvs hma;split at h
   ·rename_i z hz;refine ⟨.agg vs.toArray,(λes=>iH l vs=true/\es.all (λp=>oH l p.1)=true),e',z,by unfold wl;rw [hmt];simp only [hvs,hma],hz,λhp2 nx2=>?_⟩;unfold jW;rw [hmt];simp only [hvs,hma,hz,cj]
   ·cases h
  ·cases h
 ·cases h
theorem Hj {P:Program} {t:TypeId} {x key:SV} {hp2:Hp} {nx2:Nat} {s s2:Prop} {e e2:dw} (h1:jW P t x key false hp nx = .ok s e) (hs:s) (h2:jp P t x key hp2 nx2 = .ok s2 e2) (hk:∀ k,x = .mp k->Nm.isT k=true/\bW hp2 k=bW hp k) :
  (∃ s',jW P t x key false (e2.upd++hp) nx = .ok s' e/\s')/\∃ k,x = .mp k/\e.rds=[k.key]/\e.upd=[]/\e2.rds=[k.key]:=by
 unfold jp at h2;split at h2
 ·rename_i k kv S e' hke;obtain ⟨hT,hkk⟩:=hk k rfl;obtain ⟨kv',S',e'',z,g1,g2,g3⟩:=xS h1;rw [hke] at g1;cases g1;rw [g2] at h2;simp only at h2;obtain ⟨es,hes,hf⟩:=ip h2;rw [g3,←hkk,hes] at h1;simp only [qa] at h1;cases h1;cases hf;cases k with
  | s F i=>cases hT
  | t a =>
   refine ⟨⟨S (ll kv (gC z kv es) es),?_,Iw hke hs _⟩,.t a,rfl,rfl,rfl,rfl⟩;rw [g3];simp only [ec,iy,pD];rw [dv,cG];simp only [qa,Hi]
 ·cases h2
theorem JZ {n1 n2:fV} (h:FS n1 n2=true):∀ k∈n1.keys,¬ (n2.nx<=k.base/\k.base<=n2.nx'):=λk hk hh=>by
 simp only [FS,dQ] at h
 have:=h k hk
 simp only [kg,Bool.and_eq_false_iff] at this
 rcases this with h|h
 ·have:=qI hh.1;rw [h] at this;cases this
 ·have:=qI hh.2;rw [h] at this;cases this
structure FU (X:Cx) (N:Nat) (A:List Nat) (z:Zs) (fr0:Fr) (hp0:Hp) (top:Nat) (sel:Nat->Bool) (a:Act) (w:World):Prop where
 ex:∃ ids,HeapC X (fS sel 0 z hp0) ids w/\∀ d,cU X (fS sel 0 z hp0) ids w (cL (gH sel 0 z fr0) d) (a.tmps.getD d undef)
 fresh:∀ k:Nm,top<=k.base->bW (fS sel 0 z hp0) k = .unborn
 size:a.tmps.size=N
 defers:a.defers=[]
 closed:∀ j,sel j=true->∀ i,i<z.length->(A.getD j 0).testBit i=true->sel i=true
theorem Hk {sel:Nat->Bool} {k:Nm} (h0:bW hp k = .unborn) (z:Zs) (m:Nat) (h:∀ j q,z[j]? = some q->sel (m+j)=true->k.key∉q.2.upd.map (·.1.key)):bW (fS sel m z hp) k = .unborn:=by
 have:bW (fS sel m z hp) k=bW (fS (λ_=>false) m z hp) k:=mG z m _ _ (λi q hi hk=>by
  cases hs:sel (m+i) with
  | false=>rfl
  | true=>exact absurd hk (h i q hi hs)) rfl
 rw [this,se _ _ _ λ_ _=>rfl];exact h0
theorem Ix {ops:Array Oper} {N nx0:Nat} {A:List Nat} {z:Zs} {fr0:Fr} {hp0:Hp} {sel sel':Nat->Bool} {a:Act} {Q:Exit->Act->World->Prop} {KK:Act->World->Prop} (hz:z.map (·.1)=ops.toList) (hch:xf X.P ops z fr0 hp0 nx0) (hok:mW ops (z.map (·.2.nms)) A=true)
  (hm:X.m<=nx0) (h0:∀ k:Nm,nx0<=k.base->bW hp0 k = .unborn) (hdst:xe N ops=true) {i:Nat} {q:Oper×It} (hi:z[i]? = some q) (hsi:sel i=false) (hsi':sel' i=true) (hss:∀ j,j≠i->sel j=sel' j)
  (hready:∀ e∈q.1.after,Region.binds .any e=true->sel e.on=true) (hI:FU X N A z fr0 hp0 (nD z nx0) sel a w) (hK:∀ a' w',FU X N A z fr0 hp0 (nD z nx0) sel' a' w'->KK a' w'):wpOp X.P ops Q i KK a w:=by
 have hlen:z.length=ops.size:=by have:=dJ List.length hz;simpa using this
 have hops:∀ (j:Nat) (p:Oper×It),z[j]? = some p->ops[j]? = some p.1:=λj p hj=>by
  have:(z.map (·.1))[j]? = some p.1:=by simp [hj]
  rw [hz] at this;simpa using this
 have hns:∀ (j:Nat) (p:Oper×It),z[j]? = some p->(z.map (·.2.nms))[j]? = some p.2.nms:=λj p hj=>by simp [hj]
 have hlt:∀ (j:Nat) (p:Oper×It),z[j]? = some p->j<z.length:=λj p hj=>(dy.1 hj).1
 have hanc:∀ j,j<z.length->(A.getD i 0).testBit j=true->sel j=true:=λj hj hb=>by
  have hok2:=hok
  simp only [mW,cT] at hok2
  have h1:=hok2.1
  simp only [Al,dQ,jD] at h1
  have h2:=h1 i (by have:=hlt i q hi;omega)
  rw [hops i q hi] at h2
  simp only [cT,dQ,jD] at h2
  have h3:=h2.2 j (by omega)
  rw [hb] at h3
  simp only [jk,Bool.false_or,nc,cT,kW,jB] at h3
  obtain ⟨e,he,hbi,h4⟩:=h3
  have hse:=hready e (by simpa using he) hbi
  rcases h4 with h4|h4
  ·rw [←h4];exact hse
  ·exact hI.closed e.on hse j hj h4
 -- who has come, and touches what this one touches, stands ahead of it in the text
 have hsame:∀ (bad:Oper×It->Prop),(∀ (j:Nat) (p:Oper×It),z[j]? = some p->j<i->wP ops p.1 p.2.nms q.1 q.2.nms=true->¬ bad p)->(∀ (j:Nat) (p:Oper×It),z[j]? = some p->i<j->wP ops q.1 q.2.nms p.1 p.2.nms=true->¬ bad p) ->
  ∀(j:Nat) (p:Oper×It),z[j]? = some p->bad p->sel j=decide (j<i):=λbad hb1 hb2 j p hj hb=>by
  rcases pM j i with hji|hji|hji
  ·rw [cH hji]
   rcases (kN hok hji (hops j p hj) (hops i q hi) (hns j p hj) (hns i q hi)).1 with h|h
   ·exact hanc j (hlt j p hj) h
   ·exact absurd hb (hb1 j p hj hji h)
  ·subst hji;rw [hsi];simp
  ·rw [cK (by omega)]
   rcases (kN hok hji (hops i q hi) (hops j p hj) (hns i q hi) (hns j p hj)).1 with h|h
   ·cases hs:sel j with
    | false=>rfl
    | true=>have:=hI.closed j hs i (hlt i q hi) h;rw [hsi] at this;cases this
   ·exact absurd hb (hb2 j p hj hji h)
 obtain ⟨c1,c2,c3,hst⟩:=yl z fr0 hp0 nx0 0 i q hch hi
 rw [dm] at hst
 obtain ⟨ids,hH,hF⟩:=hI.ex
 have hun:∀ k:Nm,q.2.nx<=k.base->k.base<=q.2.nx'->bW (fS sel 0 z hp0) k = .unborn:=λk hk1 hk2=>by
  refine Hk (h0 k (by omega)) z 0 λj p hj hs hk=>?_
  rw [dm] at hs
  rcases pM j i with hji|hji|hji
  ·exact JZ (kN hok hji (hops j p hj) (hops i q hi) (hns j p hj) (hns i q hi)).2 k.key hk ⟨(Nm.key_base k).symm▸hk1,(Nm.key_base k).symm▸hk2⟩
  ·subst hji;rw [hsi] at hs;cases hs
  ·rcases (kN hok hji (hops i q hi) (hops j p hj) (hns i q hi) (hns j p hj)).1 with h|h
   ·have:=hI.closed j hs i (hlt i q hi) h;rw [hsi] at this;cases this
   ·exact (nQ h).2.2.2 k.key hk ⟨(Nm.key_base k).symm▸hk1,(Nm.key_base k).symm▸hk2⟩
 have hsel:∀ (j:Nat) (p:Oper×It),z[j]? = some p->i<j->sel j=true->(A.getD j 0).testBit i=true->False:=λj p hj hij hs hb=>by
  have:=hI.closed j hs i (hlt i q hi) hb;rw [hsi] at this;cases this
 have hrd:∃ hpB,iv true X.P ops q.1 (gH (λj=>decide (j<i)) 0 z fr0) hpB q.2.nx (Cz q.2)/\∀ k:Nm,k.key∈q.2.rds->bW (fS sel 0 z hp0) k=bW hpB k:=by
  by_cases hlate:∃ (j:Nat) (p:Oper×It),z[j]? = some p/\i<j/\sel j=true/\tC ops q.1 q.2.nms p.1 p.2.nms=true
  ·obtain ⟨j,p,hj,hij,hsj,hl⟩:=hlate
   obtain ⟨l1,l2,l3,l4,l5,l6,l7⟩:=uW hl
   -- there is but one entry
   have hone:∀ (j':Nat) (p':Oper×It),z[j']? = some p'->kh p'.1.op=true->kh p.1.op=true->j'=j:=λj' p' hj' h1 h2=>by
    refine Decidable.byContradiction λhne=>?_
    have h3:ops.toList[j']? = some p'.1:=by simpa using hops j' p' hj'
    have h4:ops.toList[j]? = some p.1:=by simpa using hops j p hj
    have:∀ (l:List Oper) (a b:Nat) (x y:Oper),a<b->l[a]? = some x->l[b]? = some y->kh x.op=true->kh y.op=true->2<=(l.filter λo=>kh o.op).length:=by
     intro l
     induction l with
     | nil=>intro a b x y _ hx;simp at hx
     | cons o l ih =>
      intro a b x y hab hx hy ex ey
      cases a with
      | zero =>
       simp at hx;subst hx
       rw [kC (p:=λo:Oper=>kh o.op) ex,gy]
       have:y∈l.filter λo=>kh o.op:=by
        obtain ⟨b',rfl⟩:∃ b',b=b'+1:=⟨b-1,by omega⟩
        exact List.mem_filter.2 ⟨pG (by simpa using hy),ey⟩
       have:=List.length_pos_of_mem this
       omega
      | succ a =>
       obtain ⟨b',rfl⟩:∃ b',b=b'+1:=⟨b-1,by omega⟩
       have:=ih a b' x y (by omega) (by simpa using hx) (by simpa using hy) ex ey
       by_cases eo:kh o.op=true
       ·rw [kC (p:=λo:Oper=>kh o.op) eo,gy];omega
       ·rw [m6 (p:=λo:Oper=>kh o.op) eo];exact this
    rcases Nat.lt_or_gt_of_ne hne with h|h
    ·have:=this _ j' j _ _ h h3 h4 h1 h2;omega
    ·have:=this _ j j' _ _ h h4 h3 h2 h1;omega
   -- the two operations
   unfold uh at l1
   split at l1
   ·rename_i t a b t' a' b' hq1 hp1 hqg hpg
    simp only [cT,jB] at l1
    obtain ⟨rfl,rfl,rfl⟩:=l1
    have hpe:kh p.1.op=true:=by rw [hp1];rfl
    obtain ⟨_,_,_,hstj⟩:=yl z fr0 hp0 nx0 0 j p hch hj
    rw [dm] at hstj
    have hlq:∀ d,d=a\/d=b->d∈jL ops q.1:=λd hd=>by
     unfold jL;rw [hqg,hq1];rcases hd with rfl|rfl<;>simp [lF,Op.operands]
    have hlp:∀ d,d=a\/d=b->d∈jL ops p.1:=λd hd=>by
     unfold jL;rw [hpg,hp1];rcases hd with rfl|rfl<;>simp [lF,Op.operands]
    -- nobody between them is ahead of the second, but behind the first
    have hbet:∀ (m:Nat) (r:Oper×It),z[m]? = some r->i<m->m<j->¬ ((A.getD m 0).testBit i=true/\(A.getD j 0).testBit m=true):=λm r hm him hmj ⟨h1,h2⟩=>by
     have hsm:=hI.closed j hsj m (hlt m r hm) h2
     exact hsel m r hm him hsm h1
    have hfr:∀ d,d=a\/d=b->cL (gH (λn=>decide (n<j)) 0 z fr0) d=cL (gH (λn=>decide (n<i)) 0 z fr0) d:=λd hd=>o9 z 0 _ _ (λm r hm hmd=>by
     rw [dm]
     rcases pM m i with h|h|h
     ·rw [cH h,cH (by omega)]
     ·subst h
      rw [hm] at hi;cases hi
      exact absurd (hlp d hd) (l4 d hmd).1
     ·by_cases hmj:m<j
      ·exfalso
       rcases (kN hok h (hops i q hi) (hops m r hm) (hns i q hi) (hns m r hm)).1 with h1|h1
       ·rcases (kN hok hmj (hops m r hm) (hops j p hj) (hns m r hm) (hns j p hj)).1 with h2|h2
        ·exact hbet m r hm h hmj ⟨h1,h2⟩
        ·exact ((nQ h2).1 d hmd).1 (hlp d hd)
       ·exact (nQ h1).2.1 d hmd (hlq d hd)
      ·rw [cK (by omega),cK (by omega)]) rfl
    have hev:∀ d,d=a\/d=b->dB true (gH (λn=>decide (n<j)) 0 z fr0) (.tmp d)=dB true (gH (λn=>decide (n<i)) 0 z fr0) (.tmp d):=λd hd=>by simp only [dB,hfr d hd]
    unfold iv at hst hstj
    rw [hqg] at hst
    rw [hpg] at hstj
    simp only at hst hstj
    unfold ky at hst hstj
    rw [hq1] at hst
    rw [hp1] at hstj
    simp only [i_,uR,fy,false_and,and_false,false_or,kH] at hst hstj
    rw [hev a (.inl rfl),hev b (.inr rfl)] at hstj
    cases hop:jW X.P t (dB true (gH (λj=>decide (j<i)) 0 z fr0) (.tmp a)) (dB true (gH (λj=>decide (j<i)) 0 z fr0) (.tmp b)) false (fS (λj=>decide (j<i)) 0 z hp0) q.2.nx with
    | bad=>rw [hop] at hst;exact hst.elim
    | ok s e =>
     rw [hop] at hst
     obtain ⟨hs,hv1,hv2,hv3,hv4⟩:=hst
     cases hop2:jp X.P t (dB true (gH (λj=>decide (j<i)) 0 z fr0) (.tmp a)) (dB true (gH (λj=>decide (j<i)) 0 z fr0) (.tmp b)) (fS (λn=>decide (n<j)) 0 z hp0) p.2.nx with
     | bad=>rw [hop2] at hstj;exact hstj.elim
     | ok s2 e2 =>
      rw [hop2] at hstj
      obtain ⟨hs2,hw1,hw2,hw3,hw4⟩:=hstj
      have hmap:∀ k:Nm,k.key∈q.2.rds->k.key∈p.2.rds->bW (fS (λn=>decide (n<j)) 0 z hp0) k=bW (fS (λn=>decide (n<i)) 0 z hp0) k:=λk hkq hkp=>mG z 0 _ _ (λm r hm hkm=>by
       rw [dm]
       rcases pM m i with h|h|h
       ·rw [cH h,cH (by omega)]
       ·subst h
        rw [hm] at hi;cases hi
        have:k.key∈q.2.nms.keys:=hkm
        rw [l3] at this;cases this
       ·by_cases hmj:m<j
        ·exfalso
         rcases (kN hok h (hops i q hi) (hops m r hm) (hns i q hi) (hns m r hm)).1 with h1|h1
         ·rcases (kN hok hmj (hops m r hm) (hops j p hj) (hns m r hm) (hns j p hj)).1 with h2|h2
          ·exact hbet m r hm h hmj ⟨h1,h2⟩
          ·exact ((nQ h2).2.2.1 k.key hkm).2 hkp
         ·by_cases hl2:tC ops q.1 q.2.nms r.1 r.2.nms=true
          ·have hre:kh r.1.op=true:=by
            have:=(uW hl2).1
            unfold uh at this
            split at this
            ·rename_i h9 _ _;rw [h9];rfl
            ·cases this
           have:=hone m r hm hre hpe
           omega
          ·exact Am h1 hl2 k.key hkm hkq
        ·rw [cK (by omega),cK (by omega)]) rfl
      have hx:∃ k,dB true (gH (λj=>decide (j<i)) 0 z fr0) (.tmp a) = .mp k/\e.rds=[k.key]/\e2.rds=[k.key]:=by
       have h2:=hop2
       unfold jp at h2
       split at h2
       ·rename_i k kv S e' hxk hke
        split at h2
        ·obtain ⟨es,hes,hf⟩:=ip h2
         have h1:=hop
         rw [hxk] at h1
         obtain ⟨_,_,_,_,_,_,g3⟩:=xS h1
         rw [g3] at h1
         obtain ⟨_,_,hf1⟩:=ip h1
         exact ⟨k,hxk,by cases hf1;rfl,by cases hf;rfl⟩
        ·cases h2
       ·cases h2
      obtain ⟨k,hxk,hr1,hr2⟩:=hx
      have hkq:k.key∈q.2.rds:=by rw [←hv4,hr1];simp
      have hkp:k.key∈p.2.rds:=by rw [←hw4,hr2];simp
      have hkT:Nm.isT k=true:=by
       have:=l7 k.key hkq
       cases k with
       | t a=>rfl
       | s F i=>cases this
      obtain ⟨⟨s',hl1,hl2⟩,_⟩:=Hj hop hs hop2 (λk' hk'=>by
       rw [hxk] at hk';cases hk'
       exact ⟨hkT,hmap k hkq hkp⟩)
      refine ⟨e2.upd++fS (λj=>decide (j<i)) 0 z hp0,?_,λk' hk'=>?_⟩
      ·unfold iv
       rw [hqg]
       simp only
       unfold ky
       rw [hq1]
       simp only [i_,kH]
       rw [hl1]
       exact .inr ⟨hl2,hv1,hv2,hv3,hv4⟩
      ·rw [hw2]
       have e1:bW (p.2.upd++fS (λj=>decide (j<i)) 0 z hp0) k'=bW (fS (λn=>decide (n<i)||decide (n=j)) 0 z hp0) k' :=
        wR z 0 _ _ j p hj (by rw [dm];exact cK (by omega)) (by rw [dm];simp) (λm hm=>by rw [dm] at hm;simp [hm]) (λ_ m r hm _ hs=>by rw [dm] at hs;simp at hs;omega) rfl
       rw [e1]
       refine mG z 0 _ _ (λm r hm hkm=>?_) rfl
       rw [dm]
       rcases pM m i with h|h|h
       ·rw [show (decide (m<i)||decide (m=j))=true by simp [h]]
        rcases (kN hok h (hops m r hm) (hops i q hi) (hns m r hm) (hns i q hi)).1 with h1|h1
        ·exact hanc m (hlt m r hm) h1
        ·exact absurd hk' ((nQ h1).2.2.1 k'.key hkm).2
       ·subst h
        rw [hm] at hi;cases hi
        have:k'.key∈q.2.nms.keys:=hkm
        rw [l3] at this;cases this
       ·by_cases hmj:m=j
        ·subst hmj;rw [hsj];simp
        ·rw [show (decide (m<i)||decide (m=j))=false by simp [hmj];omega]
         cases hsm:sel m with
         | false=>rfl
         | true =>
          exfalso
          rcases (kN hok h (hops i q hi) (hops m r hm) (hns i q hi) (hns m r hm)).1 with h1|h1
          ·exact hsel m r hm h hsm h1
          ·by_cases hl2:tC ops q.1 q.2.nms r.1 r.2.nms=true
           ·have hre:kh r.1.op=true:=by
             have:=(uW hl2).1
             unfold uh at this
             split at this
             ·rename_i h9 _ _;rw [h9];rfl
             ·cases this
            exact hmj (hone m r hm hre hpe)
           ·exact Am h1 hl2 k'.key hkm hk'
   ·cases l1
  ·refine ⟨_,hst,λk hk=>mG z 0 _ _ (λj p hj hkj=>?_) rfl⟩
   rw [dm]
   rcases pM j i with h|h|h
   ·rw [cH h]
    rcases (kN hok h (hops j p hj) (hops i q hi) (hns j p hj) (hns i q hi)).1 with h1|h1
    ·exact hanc j (hlt j p hj) h1
    ·exact absurd hk ((nQ h1).2.2.1 k.key hkj).2
   ·subst h;rw [hsi];simp
   ·rw [cK (by omega)]
    cases hs:sel j with
    | false=>rfl
    | true =>
     exfalso
     rcases (kN hok h (hops i q hi) (hops j p hj) (hns i q hi) (hns j p hj)).1 with h1|h1
     ·exact hsel j p hj h hs h1
     ·by_cases hl2:tC ops q.1 q.2.nms p.1 p.2.nms=true
      ·exact hlate ⟨j,p,hj,h,hs,hl2⟩
      ·exact Am h1 hl2 k.key hkj hk
 obtain ⟨hpB,hst,hrd⟩:=hrd
 refine sb (hops i q hi) (fr:=gH (λj=>decide (j<i)) 0 z fr0) (fr':=gH sel 0 z fr0) (hp:=hpB) (hp':=fS sel 0 z hp0) (nx:=q.2.nx) hH (by omega) hF (λd hd=>?_) hst (hun _ (cF _) c2) (λval upd nx' rds hk=>?_) λval upd nx' rds x w' ids' hk hu h1 h2 h3=>hK _ _ ?_
 ·refine o9 z 0 _ _ (λj p hj hdj=>?_) rfl
  rw [dm]
  exact hsame (λp=>p.1.dst=some d) (λj p _ _ h hb=>((nQ h).1 d hb).1 hd) (λj p _ _ h hb=>(nQ h).2.1 d hb hd) j p hj hdj
 ·obtain ⟨rfl,rfl,rfl,rfl⟩:=hk
  exact ⟨λk hk1 hk2=>hun k hk1 (by omega),hrd⟩
 ·obtain ⟨rfl,rfl,rfl,rfl⟩:=hk
  have he:bW (q.2.upd++fS sel 0 z hp0)=bW (fS sel' 0 z hp0):=funext λk=>wR z 0 _ _ i q hi (by rw [dm];exact hsi) (by rw [dm];exact hsi') (λj hj=>hss j (by omega)) (λhk j p hij hj hs hkj=>by
   rw [dm] at hs
   rcases (kN hok hij (hops i q hi) (hops j p hj) (hns i q hi) (hns j p hj)).1 with h|h
   ·have:=hI.closed j hs i (hlt i q hi) h;rw [hsi] at this;cases this
   ·exact ((nQ h).2.2.1 k.key hk).1 hkj) rfl
  refine ⟨⟨ids',h1.congr he,λd=>?_⟩,λk hk=>?_,by rw [Cs];exact hI.size,by rw [zm];exact hI.defers,λj hs k hk hb=>?_⟩
  ·have:=AV (AW h2 hF) hI.size (dst:=q.1.dst) (λd hd=>zp hdst q.1 (by
    have:=hops i q hi
    exact Array.mem_toList_iff.2 (Array.mem_of_getElem? this)) d hd) h3 d
   rw [A0 (s2:=sel') z 0 fr0 fr0 i q hi (by rw [dm];exact hsi) (by rw [dm];exact hsi') (λj hj=>hss j (by omega)) (λhd j p hij hj hs hdj=>by
    rw [dm] at hs
    rcases (kN hok hij (hops i q hi) (hops j p hj) (hns i q hi) (hns j p hj)).1 with h|h
    ·have:=hI.closed j hs i (hlt i q hi) h;rw [hsi] at this;cases this
    ·exact ((nQ h).1 d hd).2 hdj) rfl] at this
   exact cU.congr this he
  ·rw [←he,ja]
   ·exact hI.fresh k hk
   ·intro hm
    obtain ⟨p,hp1,hpk⟩:=fM.1 hm
    have hb:p.1.base=k.base:=by rw [←Nm.key_base,hpk,Nm.key_base]
    rcases hu.keys p hp1 with ⟨_,h⟩|⟨h4,k2,h5,h6⟩
    ·omega
    ·have hb2:k2.base=p.1.base:=by rw [←Nm.key_base,h5,Nm.key_base]
     rw [←hrd k2 (by rw [h5];exact h4),hI.fresh k2 (by omega)] at h6;exact h6 rfl
  ·by_cases hj:j=i
   ·subst hj
    by_cases hkj:k=j
    ·subst hkj;exact hsi'
    ·rw [←hss k hkj];exact hanc k hk hb
   ·rw [←hss j hj] at hs
    have:=hI.closed j hs k hk hb
    by_cases hkj:k=i
    ·subst hkj;exact hsi'
    ·rw [←hss k hkj];exact this
theorem J0 {n:Nat} {p q:Nat->Bool} (h:∀ j,j<n->q j=true->p j=true) {i:Nat} (hi:i<n) (hp:p i=true) (hq:q i=false):((List.range n).filter q).length<((List.range n).filter p).length:=by
 have gen:∀ (l:List Nat),(∀ j∈l,q j=true->p j=true)->(l.filter q).length<=(l.filter p).length/\(i∈l->(l.filter q).length<(l.filter p).length):=by
  intro l;induction l with
  | nil=>exact λ_=>⟨cF _,λhm=>by cases hm⟩
  | cons a l ih =>
   intro hl;obtain ⟨h1,h2⟩:=ih λj hj=>hl j (by simp [hj])
   have ha:=hl a (by simp);refine ⟨?_,λhm=>?_⟩
   ·cases hqa:q a with
    | true=>rw [kC hqa,kC (ha hqa)];simpa using h1
    | false =>
     rw [m6 (by simp [hqa])];cases hpa:p a with
     | true=>rw [kC hpa];simp;omega
     | false=>rw [m6 (by simp [hpa])];exact h1
   ·rcases ff.1 hm with rfl|hm
    ·rw [m6 (by simp [hq]),kC hp];simp;omega
    ·have:=h2 hm;cases hqa:q a with
     | true=>rw [kC hqa,kC (ha hqa)];simpa using this
     | false =>
      rw [m6 (by simp [hqa])];cases hpa:p a with
      | true=>rw [kC hpa];simp;omega
      | false=>rw [m6 (by simp [hpa])];exact this
 exact (gen (List.range n) λj hj=>h j (jD.1 hj)).2 (jD.2 hi)
theorem FV {ops:Array Oper} {N nx0:Nat} {A:List Nat} {z:Zs} {fr0:Fr} {hp0:Hp} {Q:Exit->Act->World->Prop} (hz:z.map (·.1)=ops.toList) (hch:xf X.P ops z fr0 hp0 nx0) (hok:mW ops (z.map (·.2.nms)) A=true)
  (hm:X.m<=nx0) (h0:∀ k:Nm,nx0<=k.base->bW hp0 k = .unborn) (hdst:xe N ops=true) (hQ:∀ a w,lN X N (gH (λ_=>true) 0 z fr0) (fS (λ_=>true) 0 z hp0) (nD z nx0) a w->Q .normal a w):∀ (fuel:Nat) (listed:Array Bool) (a:Act) (w:World),listed.size=ops.size ->
  ((List.range ops.size).filter λj=>!listed.getD j false).length<=fuel->FU X N A z fr0 hp0 (nD z nx0) (λj=>listed.getD j false) a w->wpAny X.P .any ops Q fuel listed a w:=by
 have hlen:z.length=ops.size:=by have:=dJ List.length hz;simpa using this
 have hops:∀ (j:Nat) (p:Oper×It),z[j]? = some p->ops[j]? = some p.1:=λj p hj=>by
  have:(z.map (·.1))[j]? = some p.1:=by simp [hj]
  rw [hz] at this;simpa using this
 have hnil:∀ (listed:Array Bool) (a:Act) (w:World),listed.size=ops.size->FU X N A z fr0 hp0 (nD z nx0) (λj=>listed.getD j false) a w->Region.ready .any ops listed=[]->(∀ j,j<ops.size->listed.getD j false=true)/\Q .normal a w:=by
  intro listed a w hsz hI hr;have hall:∀ j,j<ops.size->listed.getD j false=true:=by
   intro j;induction j using Nat.strongRecOn with
   | _ j ih =>
    intro hj;cases hl:listed.getD j false with
    | true=>rfl
    | false =>
     have hmem:j∈Region.ready .any ops listed:=by
      refine mem_ready.2 ⟨getD_in (by omega) hl,ops[j],d5 hj,λe he hb=>?_⟩;have hok2:=hok;simp only [mW,cT] at hok2;have h1:=hok2.1;simp only [Al,dQ,jD] at h1;have h2:=h1 j hj;rw [d5 hj] at h2;simp only [cT,dQ] at h2;have h3:=h2.1 e (by simpa using he);rw [hb] at h3;have hlt:e.on<j:=by simpa [kD] using h3
      exact ih e.on hlt (by omega)
     rw [hr] at hmem;cases hmem
  refine ⟨hall,hQ a w ?_⟩;obtain ⟨ids,hH,hF⟩:=hI.ex;have e1:bW (fS (λj=>listed.getD j false) 0 z hp0)=bW (fS (λ_=>true) 0 z hp0):=funext λk=>mG z 0 _ _ (λi q hi _=>by
   have:=(dy.1 hi).1;rw [dm];exact hall i (by omega)) rfl
  have e2:∀ d,cL (gH (λj=>listed.getD j false) 0 z fr0) d=cL (gH (λ_=>true) 0 z fr0) d:=λd=>o9 z 0 _ _ (λi q hi _=>by
   have:=(dy.1 hi).1;rw [dm];exact hall i (by omega)) rfl
  exact ⟨ids,⟨hH.congr e1,λk hk=>by rw [←e1];exact hI.fresh k hk,l0 hm (uV z fr0 hp0 nx0 hch)⟩,λd=>by rw [←e2];exact cU.congr (hF d) e1,hI.size,hI.defers⟩
 intro fuel;induction fuel with
 | zero =>
  intro listed a w hsz hc hI;have hr:Region.ready .any ops listed=[]:=by
   rw [List.eq_nil_iff_forall_not_mem];intro j hj;obtain ⟨h1,o,h2,_⟩:=mem_ready.1 hj;have hlt:=(qF.1 h2).1;have:((List.range ops.size).filter λj=>!listed.getD j false)=[]:=iR (by omega);have hm2:j∈(List.range ops.size).filter λj=>!listed.getD j false:=List.mem_filter.2 ⟨jD.2 hlt,by
    have:listed.getD j false=false:=by
     rw [cQ] at h1 ⊢;rw [d5 (by omega)] at h1 ⊢;exact h1
    rw [this];rfl⟩
   rw [this] at hm2;cases hm2
  exact ⟨hr,(hnil listed a w hsz hI hr).2⟩
 | succ fuel ih =>
  intro listed a w hsz hc hI;refine ⟨λhr=>(hnil listed a w hsz hI hr).2,λi hi=>?_⟩;obtain ⟨h1,o,h2,h3⟩:=mem_ready.1 hi;have hlt:i<ops.size:=(qF.1 h2).1;have hzi:z[i]? = some z[i]:=dz (by omega);have ho:o=z[i].1:=by have:=hops i _ hzi;rw [h2] at this;exact dP this
  have hsi:listed.getD i false=false:=by
   rw [cQ] at h1 ⊢;rw [d5 (by omega)] at h1 ⊢;exact h1
  have hset:(listed.setIfInBounds i true).getD i false=true:=by
   rw [cQ,uD (by omega)];rfl
  have hne:∀ j,j≠i->listed.getD j false=(listed.setIfInBounds i true).getD j false:=λj hj=>(getD_set_ne false (λe=>hj e.symm)).symm;refine Ix (sel:=λj=>listed.getD j false) (sel':=λj=>(listed.setIfInBounds i true).getD j false) hz hch hok hm h0 hdst hzi hsi hset hne (λe he hb=>h3 e (ho▸he) hb) hI λa' w' hI'=>?_
  refine ih _ a' w' (by simp [hsz]) ?_ hI';have:=J0 (n:=ops.size) (p:=λj=>!listed.getD j false) (q:=λj=>!(listed.setIfInBounds i true).getD j false) (λj _ hq=>by
   by_cases hj:j=i
   ·subst hj;simp only [hset] at hq;cases hq
   ·simp only [hne j hj];exact hq) hlt (by simp [hsi]) (by simp only [hset];rfl)
  omega
theorem cN (P:Program):Cu (Jj P) P:=by
 intro X N id ops K Q fr hp nx a w hP hd hQ hst h;subst hP;obtain ⟨z,h1,h2,h3⟩:=zt ops.toList fr hp nx [] 0 h;obtain ⟨⟨h4,h5⟩,h6⟩:=h3;rw [pD] at h5;obtain ⟨ids,hH,hF,hN,hD⟩:=hst;refine wp_region_any h4 ?_;obtain ⟨g1,g2⟩:=hH.toHeapC.drew;have e0:∀ j,(Array.replicate ops.size false).getD j false=false:=λj=>getD_replicate_false _ _;refine FV (X:=X) (N:=N) h1 h2 h5 hH.m_le hH.fresh hd (λa w hs=>hQ _ _ _ a w h6 hs) ops.size _ a _ (by simp) (by
  refine l0 (List.length_filter_le _ _) (by simp)) ?_
 have e1:fS (λj=>(Array.replicate ops.size false).getD j false) 0 z hp=hp:=se z 0 hp λj _=>e0 j
 have e2:gH (λj=>(Array.replicate ops.size false).getD j false) 0 z fr=fr:=uU z 0 fr λj _=>e0 j
 refine ⟨⟨ids,?_,λd=>?_⟩,λk hk=>?_,hN,hD,λj hj=>by rw [e0] at hj;cases hj⟩
 ·rw [e1];exact g1
 ·rw [e1,e2];exact (hF d).mono g2
 ·rw [e1];exact hH.fresh k (l0 (uV z fr hp nx h2) hk)
abbrev lO (P:Program) (m N:Nat):Code->g9->Fr->Hp->Nat->Prop:=pJ (Jj P) P m N
end
section
open Go.RowKit
variable {P:Program} {fr:Fr} {hp:Hp} {nx:Nat}
theorem Ba {fr':Fr} (h:cL fr=cL fr') (g:Bool):dB g fr=dB g fr':=by
 funext x;cases x<;>simp only [dB,h]
theorem FW {fr':Fr} (h:cL fr=cL fr'):vW fr=vW fr':=by
 funext x;cases x<;>simp only [vW,h]
theorem zu {fr':Fr} (h:cL fr=cL fr') (d:Option Tmp) (x:SV):cL (gp d x fr)=cL (gp d x fr'):=by
 cases d with
 | none=>exact h
 | some d=>funext t;simp only [gp,cL,h]
theorem Bb {fr':Fr} (h:cL fr=cL fr') (g:Bool) (ty:TypeId) (o:Op):kH P g fr hp nx ty o=kH P g fr' hp nx ty o:=by
 unfold kH;rw [Ba h,FW h]
theorem CB {fr':Fr} (h:cL fr=cL fr') (g:Bool) (o:Op):i_ g fr o=i_ g fr' o:=by
 unfold i_;rw [Ba h]
theorem CC {fr':Fr} (h:cL fr=cL fr') (ops:Array Oper) (j:Nat) (w:Bool):mw ops fr j w=mw ops fr' j w:=by
 unfold mw;rw [h]
theorem xT {fr':Fr} (h:cL fr=cL fr') {dt:Bool} {ops:Array Oper} {o:Oper} {K K':SV->Hp->Nat->List Nm->Prop} (hK:∀ v u n r,K v u n r->K' v u n r) (hs:iv dt P ops o fr hp nx K):iv dt P ops o fr' hp nx K':=by
 have core:∀ {g:Bool},ky dt P g o fr hp nx K->ky dt P g o fr' hp nx K':=by
  intro g hc;unfold ky at hc ⊢;rw [←CB h];cases hcl:i_ g fr o.op with
  | some c =>
   rw [hcl] at hc;obtain ⟨args',hin,m,Post,σ,bor,h1,h2,hsg,h3,h4,h5,h6,h7,h8,h9,h10⟩:=hc;exact ⟨args',hin,m,Post,σ,bor,h1,h2,hsg,h3,h4,h5,h6,h7,h8,h9,λres hp' nx' hp=>⟨(h10 res hp' nx' hp).1,(h10 res hp' nx' hp).2.1,(h10 res hp' nx' hp).2.2.imp λ_ hu=>⟨hu.1,hK _ _ _ _ hu.2⟩⟩⟩
  | none =>
   rw [hcl] at hc;simp only at hc ⊢;rw [←Bb h];rcases hc with hc|hc
   ·exact .inl ⟨hc.1,hc.2.1,hc.2.2.mono h hK⟩
   refine .inr ?_;cases hop:kH P g fr hp nx o.type o.op with
   | bad=>rw [hop] at hc;exact hc
   | ok s e=>rw [hop] at hc;exact ⟨hc.1,hK _ _ _ _ hc.2⟩
 unfold iv at hs ⊢;cases hg:o.guard with
 | none=>rw [hg] at hs;exact core hs
 | some jw =>
  rw [hg] at hs;simp only at hs ⊢;rw [←CC h];cases hgs:mw ops fr jw.1 jw.2 with
  | none=>rw [hgs] at hs;exact hs
  | some g =>
   rw [hgs] at hs;simp only at hs ⊢;cases hq:lL P o.op with
   | true =>
    rw [hq] at hs;simp only [cd] at hs ⊢;rcases hs with hs|hs
    ·exact .inl ⟨hs.1,hK _ _ _ _ hs.2⟩
    ·refine .inr ?_;rw [←Bb h];cases hop:kH P g fr hp nx o.type o.op with
     | bad=>rw [hop] at hs;exact hs
     | ok s e =>
      rw [hop] at hs;simp only at hs ⊢;cases hu:e.upd with
      | nil=>rw [hu] at hs;exact ⟨hs.1,hK _ _ _ _ hs.2⟩
      | cons a b=>rw [hu] at hs;exact hs
   | false =>
    rw [hq] at hs;exact ⟨λhg=>core (hs.1 hg),λhg=>hK _ _ _ _ (hs.2 hg)⟩
def zw (K:Fr->Hp->Nat->Prop):Prop:=∀ fr fr' hp nx,cL fr=cL fr'->K fr hp nx->K fr' hp nx
theorem CD (K:Fr->Hp->Nat->Prop):zw (qA K):=λfr fr' hp nx h ⟨f1,h1,he,hk⟩=>⟨f1,h1,⟨λd=>by rw [←h];exact he.1 d,he.2⟩,hk⟩
theorem wS {ops:Array Oper} {K:Fr->Hp->Nat->Prop} (hK:zw K):∀ (l:List Oper) (fr fr':Fr) (hp:Hp) (nx:Nat),cL fr=cL fr'->lM P ops l fr hp nx K->lM P ops l fr' hp nx K
 | [],fr,fr',hp,nx,h,hr=>hK _ _ _ _ h hr
 | o::l,fr,fr',hp,nx,h,hr=>xT h (λv u n r hk=>wS hK l _ _ _ _ (zu h _ _) hk) hr
theorem zx {ops:Array Oper} {K:List fV->Fr->Hp->Nat->Prop} (hK:∀ ns,zw (K ns)):∀ (l:List Oper) (fr fr':Fr) (hp:Hp) (nx:Nat) (acc:List fV),cL fr=cL fr'->uT P ops l fr hp nx acc K->uT P ops l fr' hp nx acc K
 | [],fr,fr',hp,nx,acc,h,hr=>hK _ _ _ _ _ h hr
 | o::l,fr,fr',hp,nx,acc,h,hr=>xT h (λv u n r hk=>zx hK l _ _ _ _ _ (zu h _ _) hk) hr
def uX (P:Program) (t:TypeId) (cs:List SV) (off:Nat):Bool:=match tS P t,jH P t with
 | some true,some n=>Nat.ble (off+n) cs.length
 | some false,_=>Nat.blt off cs.length
 | _,_=>false
def CE (P:Program) (g:Bool) (fr:Fr) (hp:Hp) (o:Op):Bool:=match o with
 | .move _=>true
 | .assign _=>true
 | .pick _ _ _=>true
 | .alloc _=>true
 | .build _ _=>true
 | .buildSlice _ _ _=>true
 | .fieldAddr _ _ _=>true
 | .extract _ _=>true
 | .makeInterface _ _=>true
 | .typeAssert _ _ _ _=>true
 | .slice _ x lo hi mx=>(match lo,hi,mx,dB g fr x with
  | none,none,none,.ptr _ _=>true
  | _,_,_,_=>false)
 | .unOp _ _ _=>true
 | .convert _ d x=>match dB g fr x with
  | .v (.int _ _)=>true
  | .v (.string _)=>(match P.underlying d with|some .string=>true|_=>false)
  | _=>false
 | .makeFunc _ _ _=>true
 | .makeMap _ _=>true
 | .nilCheck _=>true
 | .box _ x=>(ep (dB g fr x)).all jl
 | .load t a=>match Ad P (dB g fr a) with
  | .ptr k off=>match bW hp k with
   | .row _ cs=>uX P t cs off
   | _=>false
  | .iptr cs off=>uX P t cs off
  | _=>false
 | .store t a x=>match dB g fr a with
  | .ptr k off=>match bW hp k with
   | .row _ cs=>(match jH P t with|some n=>n==(ep (dB g fr x)).length|none=>false)&&((ep (dB g fr x)).all jl&&Nat.ble (off+(ep (dB g fr x)).length) cs.length)
   | _=>false
  | _=>false
 | .field t x f=>match v7 P t f,dB g fr x with
  | some (o,ft,_),.agg cs=>uX P ft cs o
  | _,_=>false
 | .index t x i=>match dB g fr x,dB g fr i,tU P t with
  | .agg cs,.v (.int _ n),some (len,e,z)=>decide (0<=n)&&decide (n<len)&&uX P e cs (n.toNat*z)
  | _,_,_=>false
 | .binOp op _ x y _=>match dB g fr x,dB g fr y with
  | .v (.string _),_=>false
  | .v (.int _ _),.v (.int _ b)=>match op with
   | .quo=>!(b==0)
   | .rem=>!(b==0)
   | .shl=>decide (0<=b)
   | .shr=>decide (0<=b)
   | _=>true
  | _,_=>true
 | .indexAddr t x i=>match dB g fr i,i8 P t,tU P t,Ad P (dB g fr x) with
  | .v (.int _ n),none,some (len,_,_),_=>decide (0<=n)&&decide (n<len)
  | .v (.int _ n),some _,_,.own _ _ len=>decide (0<=n)&&decide (n<len)
  | .v (.int _ n),some _,_,.sl len _=>decide (0<=n)&&decide (n<len)
  | _,_,_,_=>false
 | .call c=>match c.callee with
  | .builtin b=>match b with
   | .len=>true
   | .min=>true
   | .max=>true
   | _=>false
  | _=>false
 | _=>false
theorem sQ {t:TypeId} {cs:List SV} {off:Nat} {rds:List Nm} {s:Prop} {e:dw} (h:ku P t cs off rds nx = .ok s e) (hb:uX P t cs off=true):s:=by
 unfold ku at h;unfold uX at hb;split at h
 ·rename_i n h1 h2;cases h;rw [h1,h2] at hb;exact cW hb
 ·rename_i h1;cases h;rw [h1] at hb;exact cW hb
 ·cases h
theorem gf {x:SV} {s:Prop} {e:dw} (h:ew x nx = .ok s e):s:=by cases h;trivial
theorem An {op:BinOp} {t:TypeId} {r:Bool} {rds:List Nm} {s:Prop} {e:dw} (h:o8 P op t r rds nx = .ok s e):s:=by
 unfold o8 at h;split at h
 ·cases hq:nU op<;>rw [hq] at h
  ·cases h
  ·cases h;trivial
 ·cases h
set_option maxHeartbeats 4000000 in
theorem Bc {g:Bool} {ty:TypeId} {o:Op} {s:Prop} {e:dw} (h:kH P g fr hp nx ty o = .ok s e) (hb:CE P g fr hp o=true):s:=by
 cases o<;>simp only [kH] at h<;>simp only [CE] at hb<;>try contradiction
 case move x=>exact gf h
 case assign x=>exact gf h
 case pick c x y =>
  split at h
  ·unfold yJ at h;split at h
   ·exact gf h
   ·rename_i k p k' q _ _;cases hk:(k==k')<;>rw [hk] at h<;>exact gf h
   ·exact gf h
  ·cases h
 case alloc t =>
  unfold v6 at h;split at h
  ·cases h;trivial
  ·cases h
 case box t x=>cases h;exact hb
 case build t ps =>
  unfold v_ at h;repeat' split at h
  all_goals first|(cases h;trivial)|cases h
 case buildSlice t n ps =>
  unfold o7 at h;split at h
  ·split at h
   ·rw [fe] at h;split at h
    ·split at h
     ·cases h;trivial
     ·cases h
    ·cases h
   ·cases h
  ·cases h
 case load t a =>
  unfold nZ at h;split at h
  ·rename_i k off ha;rw [ha] at hb;obtain ⟨t',cs,hk,hh⟩:=gB h;simp only [hk] at hb;exact sQ hh hb
  ·rename_i cs off ha;rw [ha] at hb;exact sQ h hb
  ·cases h
 case store t a x =>
  unfold oj at h;split at h
  ·rename_i k off ha;rw [ha] at hb;obtain ⟨t',cs,hk,hh⟩:=gB h;simp only [hk,cT] at hb;cases hh;refine ⟨?_,hb.2.1,cW hb.2.2⟩;cases hs:jH P t with
   | none=>rw [hs] at hb;simp at hb
   | some n=>rw [hs] at hb;simp at hb;rw [hb.1]
  ·cases h
 case nilCheck x =>
  split at h
  ·exact gf h
  ·exact gf h
  ·exact gf h
  ·rw [fe] at h;split at h
   ·exact gf h
   ·cases h
  ·cases h
 case binOp op t x y ty =>
  unfold qd at h;split at h
  ·rename_i k a k' b ha hb';rw [ha,hb'] at hb;simp only at hb;cases hsh:ug op with
   | true =>
    rw [hsh] at h;simp only [cd] at h;cases op<;>simp only [ug,fy] at hsh<;>simp only [wy] at h<;>cases h<;>simpa using hb
   | false =>
    rw [hsh] at h;simp only [cj] at h;cases hk:(k==k') with
    | false=>rw [hk] at h;cases h
    | true =>
     rw [hk] at h;simp only [cd] at h;cases op<;>simp only [z_] at h<;>first|exact gf h|(cases h;simpa using hb)|cases h
  ·rename_i a b ha hb';rw [ha] at hb;simp at hb
  ·split at h
   ·cases hq:nU op<;>rw [hq] at h
    ·cases h
    ·exact gf h
   ·cases h
  ·split at h
   ·cases hq:(nU op && !P.eqGuardType P.depth t)<;>rw [hq] at h
    ·cases h
    ·simp only [cd] at h;unfold wx at h;split at h
     ·rename_i l n r _ _ _;cases hc:((n==l.length&&_)&&_) with
      | true=>rw [hc] at h;exact gf h
      | false=>rw [hc] at h;cases h
     ·cases h
   ·cases h
  ·exact An h
  ·exact An h
  ·exact An h
  ·cases h
 case unOp op t x =>
  unfold GR at h;split at h<;>first|exact gf h|cases h
 case convert a b x =>
  unfold tz at h;split at h
  ·split at h
   ·exact gf h
   ·cases h
  ·rename_i hx;rw [hx] at hb;simp only at hb;split at h
   ·exact gf h
   ·rename_i h2;rw [h2] at hb;cases hb
   ·cases h
  ·rename_i h1 h2;split at hb
   ·rename_i hx;exact absurd hx (h1 _ _)
   ·rename_i hx;exact absurd hx (h2 _)
   ·cases hb
 case makeFunc fn first caps =>
  split at h
  ·cases hc:(first.size==0)<;>rw [hc] at h
   ·cases h
   ·exact gf h
  ·split at h
   ·rw [fe] at h;split at h
    ·exact gf h
    ·cases h
   ·cases h
  ·cases h
 case makeMap t r =>
  split at h
  ·cases h;trivial
  ·cases h
 case fieldAddr t x f =>
  unfold kw at h;split at h
  ·split at h
   ·cases h;trivial
   ·cases h;trivial
   ·cases h
  ·cases h
 case field t x f =>
  unfold v8 at h;split at h
  ·rename_i o ft n cs h1 h2;rw [h1,h2] at hb;exact sQ h hb
  ·cases h
 case index t x i =>
  unfold uc at h;split at h
  ·rename_i cs kd n h1 h2;rw [h1,h2] at hb;split at h
   ·rename_i len e' z hz;rw [hz] at hb;simp only [cT,jC] at hb;split at h
    ·rename_i s' r hp';cases h;exact ⟨hb.1,sQ hp' hb.2⟩
    ·cases h
   ·cases h
  ·rename_i s kd n h1 h2;rw [h1,h2] at hb;cases hb
  ·cases h
 case indexAddr t x i =>
  unfold li at h;split at h
  ·rename_i k n hi;rw [hi] at hb;split at h
   ·rename_i e z hs;rw [hs] at hb;split at h
    ·rename_i k' off len hx;rw [hx] at hb;obtain ⟨_,hh⟩:=nh h;cases hh;simpa using hb
    ·rename_i len cs hx;rw [hx] at hb;cases h;simpa using hb
    ·cases h
   ·rename_i hs;rw [hs] at hb;split at h
    ·rename_i len e z ha;rw [ha] at hb;simp only [cT,jC] at hb;split at h
     ·cases h;exact hb
     ·cases h;exact hb
     ·cases h
    ·cases h
  ·cases h
 case makeInterface t x =>
  unfold qK at h;split at h
  ·cases h
  ·exact gf h
  ·cases h
 case typeAssert x t a ok =>
  unfold sA at h;split at h
  ·cases h
  ·split at h
   ·rw [fe] at h;split at h
    ·exact gf h
    ·rw [fe] at h;split at h
     ·split at h
      ·exact gf h
      ·cases h
     ·cases h
   ·rw [fe] at h;split at h
    ·split at h
     ·exact gf h
     ·cases h
    ·cases h
   ·cases h
  ·cases h
 case slice t x lo hi mx =>
  split at hb
  ·rename_i hx;simp only [Option.map_none] at h;unfold p_ at h;rw [hx] at h;simp only at h;split at h
   ·rw [fe] at h;split at h
    ·have:=(nh h).2;cases this;trivial
    ·cases h
   ·cases h
  ·cases hb
 case extract x i =>
  unfold sJ at h;split at h
  ·split at h
   ·exact gf h
   ·cases h
  ·cases h
 case call c =>
  split at h
  ·rename_i b hc;rw [hc] at hb;split at h
   ·unfold uL at h;repeat' split at h
    all_goals first|exact gf h|(cases h;done)|(cases h;trivial)|(obtain ⟨_,_,_,hh⟩:=gB h;cases hh;trivial)
   ·simp at hb
   ·simp at hb
   ·unfold pV at h;repeat' split at h
    all_goals first|exact gf h|cases h
   ·unfold pV at h;repeat' split at h
    all_goals first|exact gf h|cases h
   ·cases h
  ·cases h
end
section
open Go.RowKit
def Hl (P:Program) (f:FuncId) (args:List SV) (dst:Option Tmp) (ops:Array Oper) (rest:List Oper) (fr:Fr) (hp:Hp) (nx:Nat) (K:Fr->Hp->Nat->Prop):Prop :=
 BN false P f args hp nx λval upd nx' _=>lM P ops rest (gp dst val fr) (upd++hp) nx' K
theorem co {P m K fr hp nx} (h:K fr hp nx):Wk P m K fr hp nx:=.inl (.inl h)
theorem nk {P m K fr hp nx} (fr':Fr) (hp':Hp) (nx':Nat) (hle:oY P m fr hp fr' hp' nx') (h:K fr' hp' nx'):Wk P m K fr hp nx:=.inl (.inr ⟨fr',hp',nx',hle,h⟩)
def EL (P:Program) (ops:Array Oper) (acc:List fV) (K:Fr->Hp->Nat->Prop) (fr:Fr) (hp:Hp) (nx:Nat):Prop:=x6 (P.follows .mixedOrders=true/\mW ops acc (wQ ops.toList)=true) (K fr hp nx)
def ym (P:Program) (ops:Array Oper) (l:List Oper) (fr:Fr) (hp:Hp) (nx:Nat) (acc:List fV) (K:Fr->Hp->Nat->Prop):Prop:=uT P ops l fr hp nx acc λns fr' hp' nx'=>EL P ops ns K fr' hp' nx'
def Jk (P:Program) (f:FuncId) (args:List SV) (dst:Option Tmp) (ops:Array Oper) (rest:List Oper) (fr:Fr) (hp:Hp) (nx:Nat) (acc:List fV) (K:Fr->Hp->Nat->Prop):Prop :=
 BN true P f args hp nx λval upd nx' rds=>ym P ops rest (gp dst val fr) (upd++hp) (nx'+1) (acc++[⟨upd.map (·.1.key),rds,nx,nx'⟩]) K
end
section
theorem EM {P:Program} {C:Nm->cp} {σ:Nm->Option Nm} {frz:Nm->Prop}:vp P C (bW []) σ frz :=
 ⟨λ_=>trivial,(λk1 k2 k h=>by cases h),(λk _ k2 h=>by cases h)⟩
end
end Go.Sx
end
