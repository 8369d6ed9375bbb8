/-
 Lemmas, put together: IA, HR, HT, IB, IC, ID, IE, IF.
 No conditions.
-/
import Derived.Test.YthcdpjkgdcpkmaaGreatDoorwkA3
import Derived.Shelf.Sort.Plain
import Derived.Shelf.Slices.In.SortNone
import Derived.Shelf.SlSortCmp.NoneTotal
import Derived.Shelf.SlicesG.Cmp
import Derived.Shelf.SlSortCmp.Whole1
set_option linter.unusedSimpArgs false
set_option linter.unusedVariables false
set_option linter.unusedSectionVars false
section
namespace Go.Sx
section
open Go.RowKit
variable {α:Type} [b_ α] {P:Program} {hp hp':Hp} {nx:Nat} {σ:List (Nm×Nm)} {frz:List Nm}
def Bu (F:Nat):Nat->List Int->List (Value×SV)
 | _,[]=>[]
 | n,k::r=>(.int .i64 k,.ptr (.s F (n:Int)) 0)::Bu F (n+1) r
def rN (F:Nat) (ks:List Int):List (Value×SV):=Bu F 0 ks
section arr
variable {n:Nat}
theorem K0 (a:dn n) (r:List SV):(b_.cells a++r).length=n+r.length:=by rw [dW,dn.len]
theorem K7 (a:dn n) (r:List SV):(b_.cells a++r).all i_=r.all i_:=by
 rw [List.all_append,b_.one,rz]
end arr
theorem K8 (F:Nat) (ks:List Int):sY (rN F ks)=true->ks=[]:=by
 cases ks with
 | nil=>exact λ_=>rfl
 | cons a r=>intro h;simp [rN,Bu,sY,SV.st] at h
def Gu (hp hp':Hp) (σ:List (Nm×Nm)) (k' F':Nat) (ks:List Int):Prop:=match di σ (.t k'),di σ (.s F' 0) with
 | some k,some j=>(bX hp k = .map (rN j.base ks)/\j = .s j.base 0)/\td (iq hp' (.s F' 0)) ks.length
 | _,_=>False
theorem vn (k' F':Nat) (ks:List Int):Gu hp hp' σ k' F' ks=match di σ (.t k'),di σ (.s F' 0) with
 | some k,some j=>(bX hp k = .map (rN j.base ks)/\j = .s j.base 0)/\td (iq hp' (.s F' 0)) ks.length
 | _,_=>False:=propext Iff.rfl
theorem AB {F F':Nat} (h1:di σ (.s F' 0)=some (.s F 0)) (N:Nat) (h2:td (iq hp' (.s F' 0)) N):∀ (n:Nat) (ks:List Int),n+ks.length<=N->Bj hp hp' σ frz (Bu F n ks) (Bu F' n ks)
 | _,[],_=>trivial
 | n,k::r,h=>by
  rw [gu] at h
  refine ⟨rfl,?_,AB h1 N h2 (n+1) r (by omega)⟩
  simp only [fv]
  refine ⟨Dg h1 _,trivial,?_⟩
  have h3:=h2 n (by omega)
  cases hg:iq hp' (.s F' 0) with
  | fam g=>rw [ny hg];rw [hg] at h3;exact h3
  | _=>rw [hg] at h3;cases h3
theorem xC {k' F':Nat} {ks:List Int} (h:Gu hp hp' σ k' F' ks):zH hp hp' σ frz (.t k') (.map (rN F' ks))=True:=by
 refine eq_true ?_;unfold Gu at h;show n8 hp hp' σ frz (.t k') (.map (rN F' ks));simp only [n8];cases hk:di σ (.t k') with
 | none=>rw [hk] at h;exact h.elim
 | some k =>
  cases hj:di σ (.s F' 0) with
  | none=>rw [hk,hj] at h;exact h.elim
  | some j =>
   rw [hk,hj] at h;obtain ⟨⟨h1,h2⟩,h3⟩:=h;simp only [h1];cases hs:sY (rN F' ks) with
   | true =>
    have:=K8 F' ks hs;subst this;rfl
   | false=>exact AB (by rw [hj,h2];rfl) ks.length h3 0 ks (by omega)
theorem Fl {hp hp':Hp}:∀ {xs ys us vs:List (Value×SV)},Bj hp hp' σ frz xs ys->Bj hp hp' σ frz us vs->Bj hp hp' σ frz (xs++us) (ys++vs)
 | [],[],_,_,_,h=>h
 | [],_::_,_,_,h,_=>h.elim
 | _::_,[],_,_,h,_=>h.elim
 | a::r,b::s,_,_,h,g=>⟨h.1,h.2.1,Fl h.2.2 g⟩
def Ds (hp hp':Hp) (σ:List (Nm×Nm)) (k' F' j':Nat) (ks:List Int) (q:Int):Prop:=match di σ (.t k'),di σ (.s F' 0),di σ (.t j') with
 | some k,some j,some i=>(bX hp k = .map (rN j.base ks++[(.int .i64 q,.ptr i 0)])/\j = .s j.base 0)/\td (iq hp' (.s F' 0)) ks.length/\(bX hp' (.t j')).live=true
 | _,_,_=>False
theorem tN (k' F' j':Nat) (ks:List Int) (q:Int):Ds hp hp' σ k' F' j' ks q=match di σ (.t k'),di σ (.s F' 0),di σ (.t j') with
 | some k,some j,some i=>(bX hp k = .map (rN j.base ks++[(.int .i64 q,.ptr i 0)])/\j = .s j.base 0)/\td (iq hp' (.s F' 0)) ks.length/\(bX hp' (.t j')).live=true
 | _,_,_=>False:=propext Iff.rfl
theorem vo {k' F' j':Nat} {ks:List Int} {q:Int} (h:Ds hp hp' σ k' F' j' ks q):zH hp hp' σ frz (.t k') (.map (rN F' ks++[(.int .i64 q,.ptr (.t j') 0)]))=True:=by
 refine eq_true ?_;unfold Ds at h;show n8 hp hp' σ frz (.t k') (.map (rN F' ks++[(.int .i64 q,.ptr (.t j') 0)]));simp only [n8];cases hk:di σ (.t k') with
 | none=>rw [hk] at h;exact h.elim
 | some k =>
  cases hj:di σ (.s F' 0) with
  | none=>rw [hk,hj] at h;exact h.elim
  | some j =>
   cases hi:di σ (.t j') with
   | none=>rw [hk,hj,hi] at h;exact h.elim
   | some i =>
    rw [hk,hj,hi] at h;obtain ⟨⟨h1,h2⟩,h3,h4⟩:=h;simp only [h1];have hs:sY (rN F' ks++[(Value.int .i64 q,SV.ptr (.t j') 0)])=false:=by
     induction rN F' ks with
     | nil=>rfl
     | cons a l ih=>simp only [iz,sY,ih,ou]
    rw [hs,cj];refine Fl (AB (by rw [hj,h2];rfl) ks.length h3 0 ks (by omega)) ⟨rfl,?_,trivial⟩;simp only [fv];exact ⟨hi,trivial,h4⟩
theorem AC (τ:Nm->Nm) (F F':Nat) (h:∀ i,τ (.s F i) = .s F' i):∀ (n:Nat) (ks:List Int),(Bu F n ks).map (λp=>(p.1,iA τ p.2))=Bu F' n ks
 | _,[]=>rfl
 | n,k::r=>by simp only [Bu,gv,iA,h,AC τ F F' h (n+1) r]
theorem xD (F:Nat) (ks:List Int):ip (ga (di σ) nx) (.map (rN F ks)) = .map (rN (ga (di σ) nx (.s F 0)).base ks):=by
 simp only [ip];congr 1;exact AC _ _ _ (λi=>uY (jm σ) nx F i) 0 ks
theorem vp (F:Nat) (ks:List Int) (q:Int) (k:Nm):ip (ga (di σ) nx) (.map (rN F ks++[(.int .i64 q,.ptr k 0)])) = .map (rN (ga (di σ) nx (.s F 0)).base ks++[(.int .i64 q,.ptr (ga (di σ) nx k) 0)]):=by
 simp only [ip,kJ,gv,k9,iA];congr 2;exact AC _ _ _ (λi=>uY (jm σ) nx F i) 0 ks
attribute [push_cast high] xC vo xD vp
attribute [push_cast] vn tN
end
section
open Go.RowKit
variable {P:Program} {X:Cx} {hp:Hp} {ids:dE} {w:World}
theorem K9 (h:HeapC X hp ids w) {w':World} (hz:w.heap.size<=w'.heap.size) (hb:∀ b,b<w.heap.size->w'.heap[b]? = w.heap[b]?) (h1:w'.os=w.os) (h2:w'.tape=w.tape) (h3:w'.output=w.output) (h4:w.drawn<=w'.drawn) :
  HeapC X hp ids w'/\fk X hp ids w hp ids w':=by
 have hE:fk X hp ids w hp ids w':=by
  refine ⟨λd hd=>?_,λ_ h=>h,λk hl=>.inr ⟨hl,rfl,dZ.refl hl,λb o hid=>dN.of_eq (hb b (h.st.lt k b o hl hid).1)⟩⟩;obtain ⟨a1,a2,a3⟩:=hd;exact ⟨⟨a1,by omega,a3⟩,hb d a2⟩
 refine ⟨⟨⟨λk=>?_,h.st.inj,λk b o hl hid=>?_,h.st.im0,λb hb0 hW=>?_,h1.trans h.st.os,⟨h2.trans h.st.tape.1,mb h.st.tape.2 h4⟩,h3.trans h.st.output,by have:=h.st.size;omega⟩,λk hk h0 hl=>(h.kept k hk h0 hl).step hE hl hl,h.nov⟩,hE⟩
 ·by_cases hl:(bX hp k).live=true
  ·exact (h.st.ch k).mono hE rfl λb o hid=>hb b (h.st.lt k b o hl hid).1
  ·cases hc:bX hp k with
   | unborn=>trivial
   | void=>trivial
   | dead=>trivial
   | fam g=>trivial
   | row e cs=>rw [hc] at hl;exact absurd rfl hl
   | map es=>rw [hc] at hl;exact absurd rfl hl
   | obj s p=>rw [hc] at hl;exact absurd rfl hl
 ·obtain ⟨a1,a2⟩:=h.st.lt k b o hl hid;exact ⟨by omega,a2⟩
 ·rw [hb b (by have:=h.st.size;omega)];exact h.st.evol b hb0 hW
theorem Gv {e:TypeId} {cs cs':List SV} {vs:List Value} (h:nm X [(0,.row e cs)] 1 X.ids0 X.w0) {b o:Nat} {arr arr':Array Value} (hid:X.ids0 0=some (b,o)) (hw:X.w0.heap[b]? = some (.cells arr e (0,0))) (hl:o+cs.length<=arr.size)
  (hc':cs'=vs.map SV.v) (hlen:cs'.length=cs.length) {w':World} (hz:X.w0.heap.size<=w'.heap.size) (hb:∀ c,c<X.w0.heap.size->c≠b->w'.heap[c]? = X.w0.heap[c]?) (hw':w'.heap[b]? = some (.cells arr' e (0,0))) (hs:arr'.size=arr.size)
  (hv:∀ j,j<vs.length->arr'.getD (o+j) undef=vs.getD j undef) (h1:w'.os=X.w0.os) (h2:w'.tape=X.w0.tape) (h3:w'.output=X.w0.output) (h4:X.w0.drawn<=w'.drawn):nm X [(0,.row e cs')] 1 X.ids0 w':=by
 have ht:=tC h.toX (k:=0) (cs:=cs) (cs':=cs') rfl hid hw hs (by rw [hlen];exact hl) (by rw [hlen];exact cF _) (λi x hi=>by
  subst hc';rw [fZ] at hi;cases hvi:vs[i]? with
  | none=>rw [hvi] at hi;cases hi
  | some u =>
   rw [hvi] at hi;cases hi;rw [hv i (dy.1 hvi).1,dA,hvi];exact .v)
 have hat:=setRow_heap X.w0 b arr arr' e (0,0) hw;have ho:=K9 ht.1 (w':=w') (by simpa [World.setRow] using hz) (λc hc=>by
  have hc':c<X.w0.heap.size:=by simpa [World.setRow] using hc
  by_cases e1:c=b
  ·subst e1;rw [hw',hat]
  ·rw [hb c hc' e1,setRow_other _ _ _ _ e1]) (by rw [h1];rfl) (by rw [h2];rfl) (by rw [h3];rfl) h4
 refine ⟨ho.1.congr ?_,λk hk=>?_,h.m_le⟩
 ·funext j;match j with
  | .t 0=>rfl
  | .t (j+1)=>rfl
  | .s F i=>rfl
 ·match k,hk with
  | .t (j+1),_=>rfl
  | .s F i,_=>rfl
theorem tO (w:World) (blk c:Nat) (f:Array Value->Array Value) (h:c≠blk):(Go.Sort.mapBlock w blk f).heap[c]? = w.heap[c]?:=by
 unfold Go.Sort.mapBlock;simp only [qK];rw [if_neg (λe=>h e.symm)]
theorem Fm (xs:List Int):fl xs=(xs.map (Value.int .i64)).map SV.v:=by
 induction xs with
 | nil=>rfl
 | cons x xs ih=>rw [kQ,ih];rfl
end
section
open Go.RowKit
variable {P:Program}
def qn {α:Type} [Inhabited α] (cf:α->α->Int) (xs:List α):List α:=(Go.Sort.pdq (Go.Proofs.ltOf cf) xs.toArray 0 xs.length (Go.Lib.bitLen xs.length) true true).toList
theorem zQ {α:Type} [Inhabited α] {cf:α->α->Int} (hO:Go.Sort.SWO (Go.Proofs.ltOf cf)) (xs:List α):(qn cf xs).Perm xs/\∀ i j,i<j->j<xs.length->Go.Proofs.ltOf cf (qn cf xs)[j]! (qn cf xs)[i]! = false:=by
 obtain ⟨h1,h2⟩:=Go.Sort.pdq_sorts (Go.Proofs.ltOf cf) hO xs.toArray 0 xs.length (Go.Lib.bitLen xs.length) true true (hU _) (by simp) (Or.inl rfl);unfold qn;generalize Go.Sort.pdq (Go.Proofs.ltOf cf) xs.toArray 0 xs.length (Go.Lib.bitLen xs.length) true true=d at *;obtain ⟨a1,a2,a3⟩:=h1;constructor
 ·have e1:d.extract 0 xs.length=d:=by
   rw [show xs.length=d.size by simpa using a1.symm];simp
  have e2:xs.toArray.extract 0 xs.length=xs.toArray:=by simp
  rw [e1,e2] at a3;simpa using a3
 ·intro i j hij hj;have:=h2 i j (hU _) hij hj;have hs:d.size=xs.length:=by simpa using a1
  simpa [hs,hj,show i<xs.length by omega] using this
theorem Ia {α:Type} [Inhabited α] {cf:α->α->Int} (hO:Go.Sort.SWO (Go.Proofs.ltOf cf)) (xs:List α):(qn cf xs).length=xs.length:=(zQ hO xs).1.length_eq
end
section
open Go.RowKit
variable {P:Program}
theorem Gw {w w':World} (hz:w.heap.size<=w'.heap.size) (hb:∀ b,b<w.heap.size->w'.heap[b]? = w.heap[b]?) (h1:w'.os=w.os) (h2:w'.tape=w.tape) (h3:w'.output=w.output) (h4:w.drawn<=w'.drawn):∃ q os',w'=Go.Sort.grow (w.drewN q) os':=by
 refine ⟨w'.drawn-w.drawn,w'.heap.extract w.heap.size w'.heap.size,?_⟩;have e:w'.heap=w.heap++w'.heap.extract w.heap.size w'.heap.size:=by
  apply Array.ext_getElem?;intro i;rw [Array.getElem?_append];split
  ·rename_i h;exact hb i h
  ·rename_i h;rw [uJ];simp only [Nat.min_self];split
   ·congr 1;omega
   ·rename_i h5;exact Array.getElem?_eq_none (by omega)
 cases w' with
 | mk hp tp dr os out =>
  simp only at e h1 h2 h3 h4;subst h1;subst h2;subst h3;unfold Go.Sort.grow World.drewN;simp only;rw [←e];congr 1;omega
theorem Ib {f:FuncId} {args:List SV} {x:Value} (na:cS P f args [] 0 (λr h n=>r = .v x/\h=[]/\n=0)) (W:World) (I0:Nat->Prop) (hI:∀ b,I0 b->b<W.heap.size) (gl:sb P I0 W) (vals:Array Value) (hs:vals.size=args.length)
  (hd:∀ i s,args[i]? = some s->dT P (bX []) (λ_=>none) (λb=>I0 b) W s (vals.getD i undef)):Calls P f vals W λe w'=>e = .returned x/\∃ q os',w'=Go.Sort.grow (W.drewN q) os':=by
 let X:Cx:={ gl:=gl,P:=P,w0:=W,I0:=I0,W0:=λ_=>False,m:=0,ids0:=λ_=>none,C0:=λ_=>.unborn };have hIm:∀ b,I0 b->Im W I0 (λ_=>False) (bX []) (λ_=>none) W b:=λb hb=>⟨.inl hb,hI b hb,λk hk=>by cases hk⟩;have hH:nm X [] 0 X.ids0 X.w0:=⟨⟨⟨λk=>trivial,(λk k' b o o' hl=>by cases hl),(λk b o hl=>by cases hl),λb hb=>⟨hI b hb,λh=>h⟩,λb _ _=>rfl,rfl,⟨rfl,cF _⟩,rfl,cF _⟩,λk hk=>absurd hk (om _),λk hk=>absurd hk (om _)⟩,λk _=>rfl,cF _⟩;refine (na.2 X vals rfl rfl hH hs λi s hi=>?_).mono λe W' he=>?_
 ·have:=hd i s hi;refine this.mono (I:=λb=>I0 b) ⟨λb hb=>⟨hIm b hb,rfl⟩,(λk hk=>by cases hk),(λk hk=>by cases hk)⟩
 obtain ⟨r,res,hp',nx',ids',rfl,⟨rfl,_,_⟩,hF,hd⟩:=he;rw [d9 hd];exact ⟨rfl,Gw hF.st.size (λb hb=>hF.st.evol b hb (λh=>h)) hF.st.os hF.st.tape.1 hF.st.output hF.st.tape.2⟩
abbrev Rg (n:Nat):={ x:Int // 1<=x/\x<=(n:Int) }
def uy (n:Nat) (xs:List Int) (h:∀ x∈xs,1<=x/\x<=(n:Int)):List (Rg n):=xs.attach.map λx=>⟨x.1,h x.1 x.2⟩
theorem xE (n:Nat) (xs:List Int) (h):(uy n xs h).map (·.1)=xs:=by
 unfold uy;rw [ot];exact List.attach_map_subtype_val xs
noncomputable def oU (n:Nat) (cf:Int->Int->Int) (xs:List Int):List Int:=open Classical in
 if h:(∀ x∈xs,1<=x/\x<=(n:Int))/\xs≠[] then
  have:Inhabited (Rg n):=⟨⟨xs.head h.2,h.1 _ (List.head_mem h.2)⟩⟩
  (qn (α:=Rg n) (λa b=>cf a.1 b.1) (uy n xs h.1)).map (·.1)
 else []
theorem Dt {n:Nat} {cf:Int->Int->Int} {xs:List Int} (h:∀ x∈xs,1<=x/\x<=(n:Int)) [I:Inhabited (Rg n)] (hne:xs≠[]):oU n cf xs=(@qn (Rg n) ⟨⟨xs.head hne,h _ (List.head_mem hne)⟩⟩ (λa b=>cf a.1 b.1) (uy n xs h)).map (·.1):=by
 unfold oU;rw [dif_pos ⟨h,hne⟩]
theorem Bv (n:Nat) (cf:Int->Int->Int):oU n cf []=[]:=by
 unfold oU;rw [dif_neg (by simp)]
theorem Gx {n:Nat} {cf:Int->Int->Int} {xs:List Int} (h:∀ x∈xs,1<=x/\x<=((n:Nat):Int)) (hO:Go.Sort.SWO (Go.Proofs.ltOf λ(a b:Rg n)=>cf a.1 b.1)) :
  (oU n cf xs).Perm xs/\∀ i j,i<j->j<xs.length->Go.Proofs.ltOf cf (oU n cf xs)[j]! (oU n cf xs)[i]! = false:=by
 by_cases hne:xs=[]
 ·subst hne;rw [Bv];exact ⟨List.Perm.refl _,λi j _ hj=>by simp at hj⟩
 ·let I:Inhabited (Rg n):=⟨⟨xs.head hne,h _ (List.head_mem hne)⟩⟩;rw [Dt h hne];have hp:=zQ hO (uy n xs h);have hl:=hp.1.length_eq;have hlr:(uy n xs h).length=xs.length:=by have:=dJ List.length (xE n xs h);simpa using this
  refine ⟨?_,λi j hij hj=>?_⟩
  ·have:=hp.1.map (λx:Rg n=>x.1);rwa [xE] at this
  ·have:=hp.2 i j hij (by rw [hlr];exact hj);generalize qn (λa b:Rg n=>cf a.1 b.1) (uy n xs h)=ys at *;have hi':i<ys.length:=by omega
   have hj':j<ys.length:=by omega
   rw [oj ys j hj',oj ys i hi'] at this;rw [oj _ j (by simpa using hj'),oj _ i (by simpa using hi')];simpa [Go.Proofs.ltOf] using this
theorem sb.on {I I':Nat->Prop} {w w':World} (h:sb P I w) (hI:∀ b,I b->I' b/\w'.heap[b]? = w.heap[b]?):sb P I' w':=λg cs hc=>by
 obtain ⟨h1,h2⟩:=h g cs hc
 refine ⟨(hI g h1).1,λi x hi=>?_⟩
 obtain ⟨y,h3,h4⟩:=h2 i x hi
 exact ⟨y,(nV (hI g h1).2).trans h3,h4.mono (λb hb=>(hI b hb).1) λb hb i=>nV (hI b hb).2⟩
theorem Gy {f g:FuncId} {e:TypeId} (caps:List SV) (hcl:mO caps=true) (n:Nat) (cf:Int->Int->Int)
  (hfn : ∃ fn body, P.funcs[f]? = some fn /\ fn.body = some body /\ fn.name ≠ "runtime.NumGoroutine")
  (hS:∀ [Inhabited (Rg n)] (cb:Array Value) (blk off cap:Nat) (d:Array (Rg n)) (w:World),Go.Proofs.CmpLays1 P g cb (λx:Rg n=>Value.int .i64 x.1) (λa b=>cf a.1 b.1) blk off d.size w->Go.Sort.Holds (λx:Rg n=>Value.int .i64 x.1) w blk off d->blk<w.heap.size->d.size<4611686018427387904 ->
   Calls P f #[.slice (some ⟨blk,off,none⟩) d.size cap,.func (.func g) #[] cb] w λe w'=>e = .returned (.tuple #[])/\∃ m os,w'=Go.Proofs.sortWorld (λx:Rg n=>Value.int .i64 x.1) w blk off m (Go.Sort.pdq (Go.Proofs.ltOf λ(a b:Rg n)=>cf a.1 b.1) d 0 d.size (Go.Lib.bitLen d.size) true true) os)
  (h0:∀ (p:Option Addr) (cap:Nat) (cb:Array Value) (w:World),Calls P f #[.slice p 0 cap,.func (.func g) #[] cb] w λe w'=>e = .returned (.tuple #[])/\w'=w)
  (hO:Go.Sort.SWO (Go.Proofs.ltOf λ(a b:Rg n)=>cf a.1 b.1))
  (hc:∀ a b:Int,1<=a/\a<=(n:Int)->1<=b/\b<=(n:Int)->cS P g (iS a::iS b::caps) [] 0 (λr h m=>r=iS (cf a b)/\h=[]/\m=0))
  (xs:List Int) (hb:xs.length<4611686018427387904) (hr:∀ x∈xs,1<=x/\x<=(n:Int)) :
  cS P f [.own 0 0 xs.length,.clo g caps] [(0,.row e (fl xs))] 1 (λx h n'=>x = .tup []/\h=[(0,.row e (fl (oU n cf xs)))]/\n'=1):=by
 refine ⟨hfn,λX vals hP hm hF hsz hd=>?_⟩
 subst hP
 obtain ⟨v0,v1,rfl⟩:∃ a b,vals = #[a,b]:=by
  obtain ⟨l⟩:=vals
  match l,hsz with
  | [a,b],_=>exact ⟨a,b,rfl⟩
 have hd0:cV X _ X.ids0 X.w0 (.own 0 0 xs.length) v0:=hd 0 _ rfl
 have hd1:cV X _ X.ids0 X.w0 (.clo g caps) v1:=hd 1 _ rfl
 obtain ⟨cb,rfl,hcbl,hcbd⟩:=xo hd1
 have hl0:(bX [(0,cp.row e (fl xs))] 0).live=true:=rfl
 obtain ⟨a,c,rfl,hnc,hcm,hcs0,hor⟩:=md hd0 hl0
 have fin:∀ w',nm X [(0,.row e (fl (oU n cf xs)))] 1 X.ids0 w'->∃ r res hp' nx' ids',Ending.returned (.tuple #[]) = .returned r/\(res = .tup []/\hp'=[(0,.row e (fl (oU n cf xs)))]/\nx'=1)/\nm X hp' nx' ids' w'/\cV X hp' ids' w' res r :=
  λw' hF'=>⟨_,_,_,_,X.ids0,rfl,⟨rfl,rfl,rfl⟩,hF',.tup _ rfl λi x hi=>by simp at hi⟩
 by_cases hn:xs.length=0
 ·have hx:xs=[]:=List.length_eq_zero_iff.1 hn
  subst hx
  refine (h0 a c cb X.w0).mono ?_
  rintro ex w' ⟨rfl,rfl⟩
  exact fin _ (by rw [Bv];exact hF)
 ·have hne:xs≠[]:=λh=>hn (by rw [h];rfl)
  let I:Inhabited (Rg n):=⟨⟨xs.head hne,hr _ (List.head_mem hne)⟩⟩
  rcases hor with ⟨h,_⟩|⟨b,o,e',cs,arr,hC,hid,rfl,hw,hsz2⟩
  ·exact absurd h hn
  ·have hC':cp.row e (fl xs) = .row e' cs:=hC
   cases hC'
   have hch:=hF.st.ch 0
   have hgc:bX [(0,cp.row e (fl xs))] 0 = .row e (fl xs):=rfl
   rw [hgc] at hch
   simp only [fH,hid] at hch
   obtain ⟨arr',ha,hl,hx⟩:=hch
   rw [hw] at ha;cases ha
   have hfl:(fl xs).length=xs.length:=by rw [ic];exact pV _
   have hcell:∀ j,(hj:j<xs.length)->arr.getD (o+j) undef = .int .i64 xs[j]:=λj hj=>by
    have h2:(fl xs)[j]? = some (.v (.int .i64 xs[j])):=by rw [Fm];simp [hj]
    exact d9 (hx j _ h2)
   let d:Array (Rg n):=(uy n xs hr).toArray
   have hdl:(uy n xs hr).length=xs.length:=by have:=dJ List.length (xE n xs hr);simpa using this
   have hds:d.size=xs.length:=by simp [d,hdl]
   have hdv:∀ j (hj:j<xs.length),((uy n xs hr)[j]'(by omega)).1=xs[j]:=λj hj=>by
    have:=dJ (λl=>l[j]?) (xE n xs hr)
    simpa [hj,hdl] using this
   have hH:Go.Sort.Holds (λx:Rg n=>Value.int .i64 x.1) X.w0 b (o+0) d:=λj hj=>by
    have hj':j<xs.length:=by rw [←hds];exact hj
    have h1:=hcell j hj'
    constructor
    ·simp only [World.cell?,hw]
     rw [cQ,d6 (by omega)] at h1
     simp only [eG]
     simp only [gY] at h1
     have hg:d[j]! = (uy n xs hr)[j]'(by omega):=by
      rw [oj d j hj];simp [d]
     rw [hg,hdv j hj']
     simp [d6 (show o+j<arr.size by omega),h1]
    ·simp [World.frozen?,hw]
   have hblk:=(hF.st.lt 0 b o hl0 hid).1
   -- what the closure may look at
   let I0:Nat->Prop:=Im X.w0 X.I0 X.W0 (bX [(0,cp.row e (fl xs))]) X.ids0 X.w0
   have hIb:∀ q,I0 q->q<X.w0.heap.size/\q≠b:=λq hq=>⟨hq.2.1,λe=>by subst e;exact hq.2.2 0 hl0 o hid⟩
   have hsame:∀ (m:Nat) (os:Array Obj) (dk:Array (Rg n)) (q:Nat),I0 q->(Go.Proofs.sortWorld (λx:Rg n=>Value.int .i64 x.1) X.w0 b (o+0) m dk os).heap[q]? = X.w0.heap[q]?:=λm os dk q hq=>by
    obtain ⟨h1,h2⟩:=hIb q hq
    unfold Go.Proofs.sortWorld Go.Sort.grow
    simp only
    have hps:(Go.Sort.putRow (λx:Rg n=>Value.int .i64 x.1) (Go.Sort.ahead X.w0 m) b (o+0) dk).heap.size=X.w0.heap.size:=by
     unfold Go.Sort.putRow Go.Sort.mapBlock Go.Sort.ahead
     simp
    rw [nj (by rw [hps];exact h1)]
    exact tO _ _ _ _ h2
   have hsz':∀ (m:Nat) (os:Array Obj) (dk:Array (Rg n)),X.w0.heap.size<=(Go.Proofs.sortWorld (λx:Rg n=>Value.int .i64 x.1) X.w0 b (o+0) m dk os).heap.size:=λm os dk=>by
    unfold Go.Proofs.sortWorld Go.Sort.grow Go.Sort.putRow Go.Sort.mapBlock Go.Sort.ahead
    simp
   have hX0:∀ q,X.I0 q->I0 q:=λq hq=>by
    obtain ⟨h1,h2⟩:=hF.st.im0 q hq
    refine ⟨.inl hq,h1,λk hk o' hi=>?_⟩
    rcases (hF.st.lt k q o' hk hi).2 with h3|h3
    ·exact h2 h3
    ·omega
   have hcmp:Go.Proofs.CmpLays1 X.P g cb (λx:Rg n=>Value.int .i64 x.1) (λa b=>cf a.1 b.1) b (o+0) d.size X.w0:=λm os dk hk x y=>by
    refine Ib (hc x.1 y.1 x.2 y.2) _ I0 (λq hq=>qG (hIb q hq).1 (hsz' m os dk)) (X.gl.on λq hq=>⟨hX0 q hq,hsame m os dk q (hX0 q hq)⟩) _ (by simp [hcbl];omega) λi s hi=>?_
    match i,hi with
    | 0,hi =>
     simp at hi;subst hi
     rw [cQ,nj (by simp)];exact .v
    | 1,hi =>
     simp at hi;subst hi
     rw [cQ,nj (by simp)];exact .v
    | i+2,hi =>
     have hi':caps[i]? = some s:=by simpa using hi
     have:=Hf (C':=bX []) (ids':=λ_=>none) (I':=I0) (w':=Go.Proofs.sortWorld (λx:Rg n=>Value.int .i64 x.1) X.w0 b (o+0) m dk os) (λq hq=>⟨hq,hsame m os dk q hq⟩) (hcbd i s hi') (lG hcl i s hi')
     have e1:(#[Value.int .i64 x.1,Value.int .i64 y.1]++cb).getD (i+2) undef=cb.getD i undef:=by
      rw [cQ,cQ,Array.getElem?_append_right (by simp)]
      simp
     rw [e1];exact this
   have hcall:=hS cb b (o+0) c d X.w0 hcmp hH hblk (by rw [hds];exact hb)
   rw [hds] at hcall
   refine hcall.mono ?_
   rintro ex w' ⟨rfl,m,os,rfl⟩
   refine fin _ ?_
   have hpq:Go.Sort.pdq (Go.Proofs.ltOf λ(a b:Rg n)=>cf a.1 b.1) d 0 xs.length (Go.Lib.bitLen xs.length) true true=(qn (λ(a b:Rg n)=>cf a.1 b.1) (uy n xs hr)).toArray:=by unfold qn;simp [hdl,d]
   rw [hpq]
   have hse:=Dt (cf:=cf) hr hne
   generalize hys:qn (λ(a b:Rg n)=>cf a.1 b.1) (uy n xs hr)=ys at hse
   have hyl:ys.length=xs.length:=by rw [←hys,Ia hO,hdl]
   have hsl:(oU n cf xs).length=xs.length:=by rw [hse];simp [hyl]
   have hm:(Go.Sort.putRow (λx:Rg n=>Value.int .i64 x.1) (Go.Sort.ahead X.w0 m) b (o+0) ys.toArray).heap[b]? = some (.cells (Go.Sort.putCells (λx:Rg n=>Value.int .i64 x.1) (o+0) ys.toArray arr) e (0,0)):=by
    unfold Go.Sort.putRow Go.Sort.mapBlock Go.Sort.ahead
    simp only [qK,if_true,hw,fp]
    rfl
   have hps:(Go.Sort.putRow (λx:Rg n=>Value.int .i64 x.1) (Go.Sort.ahead X.w0 m) b (o+0) ys.toArray).heap.size=X.w0.heap.size:=by
    unfold Go.Sort.putRow Go.Sort.mapBlock Go.Sort.ahead
    simp
   unfold Go.Proofs.sortWorld
   refine Gv hF (vs:=(oU n cf xs).map (Value.int .i64)) hid hw hl (Fm _) (by rw [ic,ic,hsl]) ?_ (λq hq hqb=>?_) (arr':=Go.Sort.putCells (λx:Rg n=>Value.int .i64 x.1) (o+0) ys.toArray arr) ?_ ?_ (λj hj=>?_) rfl rfl rfl (uO _ _)
   ·unfold Go.Sort.grow
    simp only [Array.size_append,hps];omega
   ·unfold Go.Sort.grow
    simp only
    rw [nj (by rw [hps];exact hq)]
    exact tO _ _ _ _ hqb
   ·unfold Go.Sort.grow
    simp only
    rw [nj (by rw [hps];exact hblk)]
    exact hm
   ·simp [Go.Sort.putCells]
   ·have hj':j<xs.length:=by simpa [hsl] using hj
    have hjy:j<ys.length:=by omega
    simp only [Go.Sort.putCells,cQ,Array.getElem?_mapIdx,eG]
    rw [d6 (show o+j<arr.size by omega)]
    simp [hjy,hse,dA]
end
section
open Go.RowKit
variable {P:Program} {fr:Fr} {hp:Hp} {nx:Nat} {ops:Array Oper}
def dn.cut {n:Nat} (A:dn n) (a b:Int):List Int:=(A.l.drop a.toNat).take (b.toNat-a.toNat)
theorem dn.cut_len {n:Nat} (A:dn n) {a b:Int} (h:0<=a/\a<=b/\b<=(n:Int)):(A.cut a b).length=b.toNat-a.toNat:=by
 have:=A.h;simp only [dn.cut,gL,jz];omega
end
section
open Go.RowKit
def Du:SV->Value
 | .v x=>x
 | _=>undef
class Gz (K:Type) [b_ K] [DecidableEq K] where
 L:List TypeDesc
 op:∀ k:K,qf (b_.cells k)=some ((b_.cells k).map Du)
 fits:∀ k:K,iK L ((b_.cells k).map Du)=true
 eq:∀ a b:K,sR ((b_.cells a).map Du) ((b_.cells b).map Du)=(a==b)
variable {K:Type} [b_ K] [DecidableEq K] [Gz K]
def kV (k:K):Value:=.agg ((b_.cells k).map Du).toArray
def mE (m:List (K×Int)):List (Value×SV):=m.map λp=>(kV p.1,.v (.int .i64 p.2))
omit [DecidableEq K] [Gz K] in
theorem MC (m:List (K×Int)):sY (mE m)=true:=by
 induction m with
 | nil=>rfl
 | cons p r ih=>simp only [mE,gv,sY,SV.st,rz];exact ih
omit [DecidableEq K] [Gz K] in
@[push_cast] theorem OS (τ:Nm->Nm) (m:List (K×Int)):(mE m).map (λp=>(p.1,iA τ p.2))=mE m:=by
 simp [mE,iA,Function.comp_def]
attribute [push_cast] MC
omit [DecidableEq K] [Gz K] in
@[push_cast] theorem OT:mE ([]:List (K×Int))=[]:=rfl
end
section
open Go.RowKit
variable {P:Program} {fr:Fr} {hp:Hp} {nx:Nat} {ops:Array Oper}
variable {n:Nat}
theorem dn.vals (a:dn n):(b_.cells a).map Du=a.l.map λx=>Value.int .i64 x:=by
 show (dn.cells a).map Du=_;rw [dn.cells_fl,ot];rfl
end
section
open Go.RowKit
structure PT (α:Type) where
 x:α
instance {α:Type} [b_ α]:Inhabited (PT α):=⟨⟨default⟩⟩
instance {α:Type} [b_ α]:b_ (PT α):=⟨1,λp=>[.iptr (b_.cells p.x) 0],λ_=>rfl,λ_=>rfl,λp=>by simp only [iu,SV.st,b_.stc,dc]⟩
@[push_cast] theorem OV {α:Type} [b_ α]:b_.sz (PT α)=1:=rfl
@[push_cast] theorem OG {α:Type} [b_ α] (p:PT α):b_.cells p=[.iptr (b_.cells p.x) 0]:=rfl
theorem JE {α:Type} [b_ α] (ys:List α):fl (ys.map PT.mk)=ys.map λy=>SV.iptr (b_.cells y) 0:=by
 induction ys with
 | nil=>rfl
 | cons y ys ih=>rw [gv,kQ,ih];rfl
variable {α:Type} [b_ α] {hp hp':Hp} {σ:List (Nm×Nm)} {frz:List Nm}
theorem tP {k:Nm} {n n':Nat} (t:TypeId) (F:Nat) (ys:List α) (h:n=ys.length/\n'=ys.length/\ql frz k=true/\sw (bX hp k) (cB F ys.length)/\ql frz (.s F 0)=true/\iq hp (.s F 0) = .fam (cu t ys)):fv hp hp' σ frz (.own k 0 n) (.sl n' (fl (ys.map PT.mk)))=True:=by
 obtain ⟨rfl,rfl,h2,h3,h4,h5⟩:=h;refine eq_true ?_;simp only [fv];refine ⟨trivial,oE h2,?_⟩;cases hk:bX hp k with
 | row e cs =>
  rw [hk] at h3;simp only [sw] at h3;subst h3;have hl:(fl (ys.map PT.mk)).length=ys.length:=by rw [JE,ep]
  refine ⟨e,cB F ys.length,ys.length,rfl,λh0=>h0,.inr ⟨fl (ys.map PT.mk),by rw [hl,jO];exact cF _,λP i x y hx hy=>?_,?_⟩⟩
  ·rw [JE,fZ] at hy;unfold cB at hx;rw [fZ] at hx;obtain ⟨z,hz,rfl⟩:=mw.1 hy;obtain ⟨j,hj,rfl⟩:=mw.1 hx;obtain ⟨hi,hzz⟩:=dy.1 hz;obtain ⟨_,hjj⟩:=dy.1 hj;have ej:j=i:=by rw [←hjj];simp
   subst ej;have hg:=ny h5 (j:Int);rw [lI,dO ⟨by omega,by omega⟩] at hg;have hx2:ix ys (j:Int)=z:=by
    unfold ix;rw [dA,eU,hz];rfl
   rw [hx2] at hg;have hm:mz frz (.s F (j:Int)):=by
    obtain ⟨q,hq,he⟩:=oE h4;exact ⟨q,hq,he⟩
   exact .fptr hg hm (cF _) λa b c hb hc=>by
    rw [hb] at hc;cases hc;exact .cl (lG (jp (b_.stc z)) a b hb)
  ·rw [da,rA,←hl,ov]
 | _=>rw [hk] at h3;exact h3.elim
end
end Go.Sx
end
