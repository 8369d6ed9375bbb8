/-
 Lemmas, put together: IA, HR, HT, IB, IC, ID, IE, IF.
 No conditions.
-/
import Derived.Test.YthcdpjkgdcpkmaaGreatDoorwkA3
import Derived.Shelf.Sort.Plain
import Derived.Shelf.Slices.In.SortNone
import Derived.Shelf.SlSortCmp.NoneTotal
import Derived.Shelf.SlicesG.Cmp
import Derived.Shelf.SlSortCmp.Whole1
set_option linter.unusedSimpArgs false
set_option linter.unusedVariables false
set_option linter.unusedSectionVars false
section
namespace Go.Sx
section
open Go.RowKit
variable {α:Type} [b_ α] {P:Program} {hp hp':Hp} {nx:Nat} {σ:List (Nm×Nm)} {frz:List Nm}
def Bw (F:Nat):Nat->List Int->List (Value×SV)
 | _,[]=>[]
 | n,k::r=>(.int .i64 k,.ptr (.s F (n:Int)) 0)::Bw F (n+1) r
def rM (F:Nat) (ks:List Int):List (Value×SV):=Bw F 0 ks
section arr
variable {n:Nat}
theorem KV (a:dm n) (r:List SV):(b_.cells a++r).length=n+r.length:=by rw [ec,dm.len]
theorem KW (a:dm n) (r:List SV):(b_.cells a++r).all jr=r.all jr:=by
 rw [List.all_append,b_.one,rz]
end arr
theorem KX (F:Nat) (ks:List Int):sY (rM F ks)=true->ks=[]:=by
 cases ks with
 | nil=>exact λ_=>rfl
 | cons a r=>intro h;simp [rM,Bw,sY,SV.st] at h
def Gn (hp hp':Hp) (σ:List (Nm×Nm)) (k' F':Nat) (ks:List Int):Prop:=match dh σ (.t k'),dh σ (.s F' 0) with
 | some k,some j=>(bW hp k = .map (rM j.base ks)/\j = .s j.base 0)/\td (ip hp' (.s F' 0)) ks.length
 | _,_=>False
theorem vl (k' F':Nat) (ks:List Int):Gn hp hp' σ k' F' ks=match dh σ (.t k'),dh σ (.s F' 0) with
 | some k,some j=>(bW hp k = .map (rM j.base ks)/\j = .s j.base 0)/\td (ip hp' (.s F' 0)) ks.length
 | _,_=>False:=propext Iff.rfl
theorem AD {F F':Nat} (h1:dh σ (.s F' 0)=some (.s F 0)) (N:Nat) (h2:td (ip hp' (.s F' 0)) N):∀ (n:Nat) (ks:List Int),n+ks.length<=N->Bl hp hp' σ frz (Bw F n ks) (Bw F' n ks)
 | _,[],_=>trivial
 | n,k::r,h=>by
  rw [gq] at h
  refine ⟨rfl,?_,AD h1 N h2 (n+1) r (by omega)⟩
  simp only [fu]
  refine ⟨Df h1 _,trivial,?_⟩
  have h3:=h2 n (by omega)
  cases hg:ip hp' (.s F' 0) with
  | fam g=>rw [nw hg];rw [hg] at h3;exact h3
  | _=>rw [hg] at h3;cases h3
theorem xB {k' F':Nat} {ks:List Int} (h:Gn hp hp' σ k' F' ks):zF hp hp' σ frz (.t k') (.map (rM F' ks))=True:=by
 refine eq_true ?_;unfold Gn at h;show n9 hp hp' σ frz (.t k') (.map (rM F' ks));simp only [n9];cases hk:dh σ (.t k') with
 | none=>rw [hk] at h;exact h.elim
 | some k =>
  cases hj:dh σ (.s F' 0) with
  | none=>rw [hk,hj] at h;exact h.elim
  | some j =>
   rw [hk,hj] at h;obtain ⟨⟨h1,h2⟩,h3⟩:=h;simp only [h1];cases hs:sY (rM F' ks) with
   | true =>
    have:=KX F' ks hs;subst this;rfl
   | false=>exact AD (by rw [hj,h2];rfl) ks.length h3 0 ks (by omega)
theorem Ff {hp hp':Hp}:∀ {xs ys us vs:List (Value×SV)},Bl hp hp' σ frz xs ys->Bl hp hp' σ frz us vs->Bl hp hp' σ frz (xs++us) (ys++vs)
 | [],[],_,_,_,h=>h
 | [],_::_,_,_,h,_=>h.elim
 | _::_,[],_,_,h,_=>h.elim
 | a::r,b::s,_,_,h,g=>⟨h.1,h.2.1,Ff h.2.2 g⟩
def Dr (hp hp':Hp) (σ:List (Nm×Nm)) (k' F' j':Nat) (ks:List Int) (q:Int):Prop:=match dh σ (.t k'),dh σ (.s F' 0),dh σ (.t j') with
 | some k,some j,some i=>(bW hp k = .map (rM j.base ks++[(.int .i64 q,.ptr i 0)])/\j = .s j.base 0)/\td (ip hp' (.s F' 0)) ks.length/\(bW hp' (.t j')).live=true
 | _,_,_=>False
theorem tL (k' F' j':Nat) (ks:List Int) (q:Int):Dr hp hp' σ k' F' j' ks q=match dh σ (.t k'),dh σ (.s F' 0),dh σ (.t j') with
 | some k,some j,some i=>(bW hp k = .map (rM j.base ks++[(.int .i64 q,.ptr i 0)])/\j = .s j.base 0)/\td (ip hp' (.s F' 0)) ks.length/\(bW hp' (.t j')).live=true
 | _,_,_=>False:=propext Iff.rfl
theorem vm {k' F' j':Nat} {ks:List Int} {q:Int} (h:Dr hp hp' σ k' F' j' ks q):zF hp hp' σ frz (.t k') (.map (rM F' ks++[(.int .i64 q,.ptr (.t j') 0)]))=True:=by
 refine eq_true ?_;unfold Dr at h;show n9 hp hp' σ frz (.t k') (.map (rM F' ks++[(.int .i64 q,.ptr (.t j') 0)]));simp only [n9];cases hk:dh σ (.t k') with
 | none=>rw [hk] at h;exact h.elim
 | some k =>
  cases hj:dh σ (.s F' 0) with
  | none=>rw [hk,hj] at h;exact h.elim
  | some j =>
   cases hi:dh σ (.t j') with
   | none=>rw [hk,hj,hi] at h;exact h.elim
   | some i =>
    rw [hk,hj,hi] at h;obtain ⟨⟨h1,h2⟩,h3,h4⟩:=h;simp only [h1];have hs:sY (rM F' ks++[(Value.int .i64 q,SV.ptr (.t j') 0)])=false:=by
     induction rM F' ks with
     | nil=>rfl
     | cons a l ih=>simp only [iy,sY,ih,ou]
    rw [hs,ck];refine Ff (AD (by rw [hj,h2];rfl) ks.length h3 0 ks (by omega)) ⟨rfl,?_,trivial⟩;simp only [fu];exact ⟨hi,trivial,h4⟩
theorem AE (τ:Nm->Nm) (F F':Nat) (h:∀ i,τ (.s F i) = .s F' i):∀ (n:Nat) (ks:List Int),(Bw F n ks).map (λp=>(p.1,iz τ p.2))=Bw F' n ks
 | _,[]=>rfl
 | n,k::r=>by simp only [Bw,gu,iz,h,AE τ F F' h (n+1) r]
theorem xC (F:Nat) (ks:List Int):io (f7 (dh σ) nx) (.map (rM F ks)) = .map (rM (f7 (dh σ) nx (.s F 0)).base ks):=by
 simp only [io];congr 1;exact AE _ _ _ (λi=>uW (js σ) nx F i) 0 ks
theorem vn (F:Nat) (ks:List Int) (q:Int) (k:Nm):io (f7 (dh σ) nx) (.map (rM F ks++[(.int .i64 q,.ptr k 0)])) = .map (rM (f7 (dh σ) nx (.s F 0)).base ks++[(.int .i64 q,.ptr (f7 (dh σ) nx k) 0)]):=by
 simp only [io,kJ,gu,k9,iz];congr 2;exact AE _ _ _ (λi=>uW (js σ) nx F i) 0 ks
attribute [push_cast high] xB vm xC vn
attribute [push_cast] vl tL
end
section
open Go.RowKit
variable {P:Program} {X:Cx} {hp:Hp} {ids:dC} {w:World}
theorem KY (h:HeapC X hp ids w) {w':World} (hz:w.heap.size<=w'.heap.size) (hb:∀ b,b<w.heap.size->w'.heap[b]? = w.heap[b]?) (h1:w'.os=w.os) (h2:w'.tape=w.tape) (h3:w'.output=w.output) (h4:w.drawn<=w'.drawn) :
  HeapC X hp ids w'/\fh X hp ids w hp ids w':=by
 have hE:fh X hp ids w hp ids w':=by
  refine ⟨λd hd=>?_,λ_ h=>h,λk hl=>.inr ⟨hl,rfl,dX.refl hl,λb o hid=>dM.of_eq (hb b (h.st.lt k b o hl hid).1)⟩⟩;obtain ⟨a1,a2,a3⟩:=hd;exact ⟨⟨a1,by omega,a3⟩,hb d a2⟩
 refine ⟨⟨⟨λk=>?_,h.st.inj,λk b o hl hid=>?_,h.st.im0,λb hb0 hW=>?_,h1.trans h.st.os,⟨h2.trans h.st.tape.1,mb h.st.tape.2 h4⟩,h3.trans h.st.output,by have:=h.st.size;omega⟩,λk hk h0 hl=>(h.kept k hk h0 hl).step hE hl hl,h.nov⟩,hE⟩
 ·by_cases hl:(bW hp k).live=true
  ·exact (h.st.ch k).mono hE rfl λb o hid=>hb b (h.st.lt k b o hl hid).1
  ·cases hc:bW hp k with
   | unborn=>trivial
   | void=>trivial
   | dead=>trivial
   | fam g=>trivial
   | row e cs=>rw [hc] at hl;exact absurd rfl hl
   | map es=>rw [hc] at hl;exact absurd rfl hl
   | obj s p=>rw [hc] at hl;exact absurd rfl hl
 ·obtain ⟨a1,a2⟩:=h.st.lt k b o hl hid;exact ⟨by omega,a2⟩
 ·rw [hb b (by have:=h.st.size;omega)];exact h.st.evol b hb0 hW
theorem Gp {e:TypeId} {cs cs':List SV} {vs:List Value} (h:nl X [(0,.row e cs)] 1 X.ids0 X.w0) {b o:Nat} {arr arr':Array Value} (hid:X.ids0 0=some (b,o)) (hw:X.w0.heap[b]? = some (.cells arr e (0,0))) (hl:o+cs.length<=arr.size)
  (hc':cs'=vs.map SV.v) (hlen:cs'.length=cs.length) {w':World} (hz:X.w0.heap.size<=w'.heap.size) (hb:∀ c,c<X.w0.heap.size->c≠b->w'.heap[c]? = X.w0.heap[c]?) (hw':w'.heap[b]? = some (.cells arr' e (0,0))) (hs:arr'.size=arr.size)
  (hv:∀ j,j<vs.length->arr'.getD (o+j) undef=vs.getD j undef) (h1:w'.os=X.w0.os) (h2:w'.tape=X.w0.tape) (h3:w'.output=X.w0.output) (h4:X.w0.drawn<=w'.drawn):nl X [(0,.row e cs')] 1 X.ids0 w':=by
 have ht:=tB h.toX (k:=0) (cs:=cs) (cs':=cs') rfl hid hw hs (by rw [hlen];exact hl) (by rw [hlen];exact cE _) (λi x hi=>by
  subst hc';rw [fW] at hi;cases hvi:vs[i]? with
  | none=>rw [hvi] at hi;cases hi
  | some u =>
   rw [hvi] at hi;cases hi;rw [hv i (dx.1 hvi).1,dz,hvi];exact .v)
 have hat:=setRow_heap X.w0 b arr arr' e (0,0) hw;have ho:=KY ht.1 (w':=w') (by simpa [World.setRow] using hz) (λc hc=>by
  have hc':c<X.w0.heap.size:=by simpa [World.setRow] using hc
  by_cases e1:c=b
  ·subst e1;rw [hw',hat]
  ·rw [hb c hc' e1,setRow_other _ _ _ _ e1]) (by rw [h1];rfl) (by rw [h2];rfl) (by rw [h3];rfl) h4
 refine ⟨ho.1.congr ?_,λk hk=>?_,h.m_le⟩
 ·funext j;match j with
  | .t 0=>rfl
  | .t (j+1)=>rfl
  | .s F i=>rfl
 ·match k,hk with
  | .t (j+1),_=>rfl
  | .s F i,_=>rfl
theorem tM (w:World) (blk c:Nat) (f:Array Value->Array Value) (h:c≠blk):(Go.Sort.mapBlock w blk f).heap[c]? = w.heap[c]?:=by
 unfold Go.Sort.mapBlock;simp only [qJ];rw [if_neg (λe=>h e.symm)]
theorem Fg (xs:List Int):fl xs=(xs.map (Value.int .i64)).map SV.v:=by
 induction xs with
 | nil=>rfl
 | cons x xs ih=>rw [kR,ih];rfl
end
section
open Go.RowKit
variable {P:Program}
def qn {α:Type} [Inhabited α] (cf:α->α->Int) (xs:List α):List α:=(Go.Sort.pdq (Go.Proofs.ltOf cf) xs.toArray 0 xs.length (Go.Lib.bitLen xs.length) true true).toList
theorem zP {α:Type} [Inhabited α] {cf:α->α->Int} (hO:Go.Sort.SWO (Go.Proofs.ltOf cf)) (xs:List α):(qn cf xs).Perm xs/\∀ i j,i<j->j<xs.length->Go.Proofs.ltOf cf (qn cf xs)[j]! (qn cf xs)[i]! = false:=by
 obtain ⟨h1,h2⟩:=Go.Sort.pdq_sorts (Go.Proofs.ltOf cf) hO xs.toArray 0 xs.length (Go.Lib.bitLen xs.length) true true (hX _) (by simp) (Or.inl rfl);unfold qn;generalize Go.Sort.pdq (Go.Proofs.ltOf cf) xs.toArray 0 xs.length (Go.Lib.bitLen xs.length) true true=d at *;obtain ⟨a1,a2,a3⟩:=h1;constructor
 ·have e1:d.extract 0 xs.length=d:=by
   rw [show xs.length=d.size by simpa using a1.symm];simp
  have e2:xs.toArray.extract 0 xs.length=xs.toArray:=by simp
  rw [e1,e2] at a3;simpa using a3
 ·intro i j hij hj;have:=h2 i j (hX _) hij hj;have hs:d.size=xs.length:=by simpa using a1
  simpa [hs,hj,show i<xs.length by omega] using this
theorem HX {α:Type} [Inhabited α] {cf:α->α->Int} (hO:Go.Sort.SWO (Go.Proofs.ltOf cf)) (xs:List α):(qn cf xs).length=xs.length:=(zP hO xs).1.length_eq
end
section
open Go.RowKit
variable {P:Program}
theorem Gq {w w':World} (hz:w.heap.size<=w'.heap.size) (hb:∀ b,b<w.heap.size->w'.heap[b]? = w.heap[b]?) (h1:w'.os=w.os) (h2:w'.tape=w.tape) (h3:w'.output=w.output) (h4:w.drawn<=w'.drawn):∃ q os',w'=Go.Sort.grow (w.drewN q) os':=by
 refine ⟨w'.drawn-w.drawn,w'.heap.extract w.heap.size w'.heap.size,?_⟩;have e:w'.heap=w.heap++w'.heap.extract w.heap.size w'.heap.size:=by
  apply Array.ext_getElem?;intro i;rw [Array.getElem?_append];split
  ·rename_i h;exact hb i h
  ·rename_i h;rw [uH];simp only [Nat.min_self];split
   ·congr 1;omega
   ·rename_i h5;exact Array.getElem?_eq_none (by omega)
 cases w' with
 | mk hp tp dr os out =>
  simp only at e h1 h2 h3 h4;subst h1;subst h2;subst h3;unfold Go.Sort.grow World.drewN;simp only;rw [←e];congr 1;omega
theorem HY {f:FuncId} {args:List SV} {x:Value} (m_:cS P f args [] 0 (λr h n=>r = .v x/\h=[]/\n=0)) (W:World) (I0:Nat->Prop) (hI:∀ b,I0 b->b<W.heap.size) (gl:sa P I0 W) (vals:Array Value) (hs:vals.size=args.length)
  (hd:∀ i s,args[i]? = some s->dS P (bW []) (λ_=>none) (λb=>I0 b) W s (vals.getD i undef)):Calls P f vals W λe w'=>e = .returned x/\∃ q os',w'=Go.Sort.grow (W.drewN q) os':=by
 let X:Cx:={ gl:=gl,P:=P,w0:=W,I0:=I0,W0:=λ_=>False,m:=0,ids0:=λ_=>none,C0:=λ_=>.unborn };have hIm:∀ b,I0 b->Im W I0 (λ_=>False) (bW []) (λ_=>none) W b:=λb hb=>⟨.inl hb,hI b hb,λk hk=>by cases hk⟩;have hH:nl X [] 0 X.ids0 X.w0:=⟨⟨⟨λk=>trivial,(λk k' b o o' hl=>by cases hl),(λk b o hl=>by cases hl),λb hb=>⟨hI b hb,λh=>h⟩,λb _ _=>rfl,rfl,⟨rfl,cE _⟩,rfl,cE _⟩,λk hk=>absurd hk (pU _),λk hk=>absurd hk (pU _)⟩,λk _=>rfl,cE _⟩;refine (m_.2 X vals rfl rfl hH hs λi s hi=>?_).mono λe W' he=>?_
 ·have:=hd i s hi;refine this.mono (I:=λb=>I0 b) ⟨λb hb=>⟨hIm b hb,rfl⟩,(λk hk=>by cases hk),(λk hk=>by cases hk)⟩
 obtain ⟨r,res,hp',nx',ids',rfl,⟨rfl,_,_⟩,hF,hd⟩:=he;rw [d6 hd];exact ⟨rfl,Gq hF.st.size (λb hb=>hF.st.evol b hb (λh=>h)) hF.st.os hF.st.tape.1 hF.st.output hF.st.tape.2⟩
abbrev Rg (n:Nat):={ x:Int // 1<=x/\x<=(n:Int) }
def uw (n:Nat) (xs:List Int) (h:∀ x∈xs,1<=x/\x<=(n:Int)):List (Rg n):=xs.attach.map λx=>⟨x.1,h x.1 x.2⟩
theorem xD (n:Nat) (xs:List Int) (h):(uw n xs h).map (·.1)=xs:=by
 unfold uw;rw [ot];exact List.attach_map_subtype_val xs
noncomputable def oT (n:Nat) (cf:Int->Int->Int) (xs:List Int):List Int:=open Classical in
 if h:(∀ x∈xs,1<=x/\x<=(n:Int))/\xs≠[] then
  have:Inhabited (Rg n):=⟨⟨xs.head h.2,h.1 _ (List.head_mem h.2)⟩⟩
  (qn (α:=Rg n) (λa b=>cf a.1 b.1) (uw n xs h.1)).map (·.1)
 else []
theorem Ds {n:Nat} {cf:Int->Int->Int} {xs:List Int} (h:∀ x∈xs,1<=x/\x<=(n:Int)) [I:Inhabited (Rg n)] (hne:xs≠[]):oT n cf xs=(@qn (Rg n) ⟨⟨xs.head hne,h _ (List.head_mem hne)⟩⟩ (λa b=>cf a.1 b.1) (uw n xs h)).map (·.1):=by
 unfold oT;rw [dif_pos ⟨h,hne⟩]
theorem Bx (n:Nat) (cf:Int->Int->Int):oT n cf []=[]:=by
 unfold oT;rw [dif_neg (by simp)]
theorem Gr {n:Nat} {cf:Int->Int->Int} {xs:List Int} (h:∀ x∈xs,1<=x/\x<=((n:Nat):Int)) (hO:Go.Sort.SWO (Go.Proofs.ltOf λ(a b:Rg n)=>cf a.1 b.1)) :
  (oT n cf xs).Perm xs/\∀ i j,i<j->j<xs.length->Go.Proofs.ltOf cf (oT n cf xs)[j]! (oT n cf xs)[i]! = false:=by
 by_cases hne:xs=[]
 ·subst hne;rw [Bx];exact ⟨List.Perm.refl _,λi j _ hj=>by simp at hj⟩
 ·let I:Inhabited (Rg n):=⟨⟨xs.head hne,h _ (List.head_mem hne)⟩⟩;rw [Ds h hne];have hp:=zP hO (uw n xs h);have hl:=hp.1.length_eq;have hlr:(uw n xs h).length=xs.length:=by have:=dG List.length (xD n xs h);simpa using this
  refine ⟨?_,λi j hij hj=>?_⟩
  ·have:=hp.1.map (λx:Rg n=>x.1);rwa [xD] at this
  ·have:=hp.2 i j hij (by rw [hlr];exact hj);generalize qn (λa b:Rg n=>cf a.1 b.1) (uw n xs h)=ys at *;have hi':i<ys.length:=by omega
   have hj':j<ys.length:=by omega
   rw [ol ys j hj',ol ys i hi'] at this;rw [ol _ j (by simpa using hj'),ol _ i (by simpa using hi')];simpa [Go.Proofs.ltOf] using this
theorem sa.on {I I':Nat->Prop} {w w':World} (h:sa P I w) (hI:∀ b,I b->I' b/\w'.heap[b]? = w.heap[b]?):sa P I' w':=λg cs hc=>by
 obtain ⟨h1,h2⟩:=h g cs hc
 refine ⟨(hI g h1).1,λi x hi=>?_⟩
 obtain ⟨y,h3,h4⟩:=h2 i x hi
 exact ⟨y,(nW (hI g h1).2).trans h3,h4.mono (λb hb=>(hI b hb).1) λb hb i=>nW (hI b hb).2⟩
theorem Gs {f g:FuncId} {e:TypeId} (caps:List SV) (hcl:mP caps=true) (n:Nat) (cf:Int->Int->Int)
  (hfn : ∃ fn body, P.funcs[f]? = some fn /\ fn.body = some body /\ fn.name ≠ "runtime.NumGoroutine")
  (hS:∀ [Inhabited (Rg n)] (cb:Array Value) (blk off cap:Nat) (d:Array (Rg n)) (w:World),Go.Proofs.CmpLays1 P g cb (λx:Rg n=>Value.int .i64 x.1) (λa b=>cf a.1 b.1) blk off d.size w->Go.Sort.Holds (λx:Rg n=>Value.int .i64 x.1) w blk off d->blk<w.heap.size->d.size<4611686018427387904 ->
   Calls P f #[.slice (some ⟨blk,off,none⟩) d.size cap,.func (.func g) #[] cb] w λe w'=>e = .returned (.tuple #[])/\∃ m os,w'=Go.Proofs.sortWorld (λx:Rg n=>Value.int .i64 x.1) w blk off m (Go.Sort.pdq (Go.Proofs.ltOf λ(a b:Rg n)=>cf a.1 b.1) d 0 d.size (Go.Lib.bitLen d.size) true true) os)
  (h0:∀ (p:Option Addr) (cap:Nat) (cb:Array Value) (w:World),Calls P f #[.slice p 0 cap,.func (.func g) #[] cb] w λe w'=>e = .returned (.tuple #[])/\w'=w)
  (hO:Go.Sort.SWO (Go.Proofs.ltOf λ(a b:Rg n)=>cf a.1 b.1))
  (hc:∀ a b:Int,1<=a/\a<=(n:Int)->1<=b/\b<=(n:Int)->cS P g (iS a::iS b::caps) [] 0 (λr h m=>r=iS (cf a b)/\h=[]/\m=0))
  (xs:List Int) (hb:xs.length<4611686018427387904) (hr:∀ x∈xs,1<=x/\x<=(n:Int)) :
  cS P f [.own 0 0 xs.length,.clo g caps] [(0,.row e (fl xs))] 1 (λx h n'=>x = .tup []/\h=[(0,.row e (fl (oT n cf xs)))]/\n'=1):=by
 refine ⟨hfn,λX vals hP hm hF hsz hd=>?_⟩
 subst hP
 obtain ⟨v0,v1,rfl⟩:∃ a b,vals = #[a,b]:=by
  obtain ⟨l⟩:=vals
  match l,hsz with
  | [a,b],_=>exact ⟨a,b,rfl⟩
 have hd0:cV X _ X.ids0 X.w0 (.own 0 0 xs.length) v0:=hd 0 _ rfl
 have hd1:cV X _ X.ids0 X.w0 (.clo g caps) v1:=hd 1 _ rfl
 obtain ⟨cb,rfl,hcbl,hcbd⟩:=xm hd1
 have hl0:(bW [(0,cp.row e (fl xs))] 0).live=true:=rfl
 obtain ⟨a,c,rfl,hnc,hcm,hcs0,hor⟩:=md hd0 hl0
 have fin:∀ w',nl X [(0,.row e (fl (oT n cf xs)))] 1 X.ids0 w'->∃ r res hp' nx' ids',Ending.returned (.tuple #[]) = .returned r/\(res = .tup []/\hp'=[(0,.row e (fl (oT n cf xs)))]/\nx'=1)/\nl X hp' nx' ids' w'/\cV X hp' ids' w' res r :=
  λw' hF'=>⟨_,_,_,_,X.ids0,rfl,⟨rfl,rfl,rfl⟩,hF',.tup _ rfl λi x hi=>by simp at hi⟩
 by_cases hn:xs.length=0
 ·have hx:xs=[]:=List.length_eq_zero_iff.1 hn
  subst hx
  refine (h0 a c cb X.w0).mono ?_
  rintro ex w' ⟨rfl,rfl⟩
  exact fin _ (by rw [Bx];exact hF)
 ·have hne:xs≠[]:=λh=>hn (by rw [h];rfl)
  let I:Inhabited (Rg n):=⟨⟨xs.head hne,hr _ (List.head_mem hne)⟩⟩
  rcases hor with ⟨h,_⟩|⟨b,o,e',cs,arr,hC,hid,rfl,hw,hsz2⟩
  ·exact absurd h hn
  ·have hC':cp.row e (fl xs) = .row e' cs:=hC
   cases hC'
   have hch:=hF.st.ch 0
   have hgc:bW [(0,cp.row e (fl xs))] 0 = .row e (fl xs):=rfl
   rw [hgc] at hch
   simp only [fG,hid] at hch
   obtain ⟨arr',ha,hl,hx⟩:=hch
   rw [hw] at ha;cases ha
   have hfl:(fl xs).length=xs.length:=by rw [iA];exact pV _
   have hcell:∀ j,(hj:j<xs.length)->arr.getD (o+j) undef = .int .i64 xs[j]:=λj hj=>by
    have h2:(fl xs)[j]? = some (.v (.int .i64 xs[j])):=by rw [Fg];simp [hj]
    exact d6 (hx j _ h2)
   let d:Array (Rg n):=(uw n xs hr).toArray
   have hdl:(uw n xs hr).length=xs.length:=by have:=dG List.length (xD n xs hr);simpa using this
   have hds:d.size=xs.length:=by simp [d,hdl]
   have hdv:∀ j (hj:j<xs.length),((uw n xs hr)[j]'(by omega)).1=xs[j]:=λj hj=>by
    have:=dG (λl=>l[j]?) (xD n xs hr)
    simpa [hj,hdl] using this
   have hH:Go.Sort.Holds (λx:Rg n=>Value.int .i64 x.1) X.w0 b (o+0) d:=λj hj=>by
    have hj':j<xs.length:=by rw [←hds];exact hj
    have h1:=hcell j hj'
    constructor
    ·simp only [World.cell?,hw]
     rw [cP,d3 (by omega)] at h1
     simp only [eE]
     simp only [gY] at h1
     have hg:d[j]! = (uw n xs hr)[j]'(by omega):=by
      rw [ol d j hj];simp [d]
     rw [hg,hdv j hj']
     simp [d3 (show o+j<arr.size by omega),h1]
    ·simp [World.frozen?,hw]
   have hblk:=(hF.st.lt 0 b o hl0 hid).1
   -- what the closure may look at
   let I0:Nat->Prop:=Im X.w0 X.I0 X.W0 (bW [(0,cp.row e (fl xs))]) X.ids0 X.w0
   have hIb:∀ q,I0 q->q<X.w0.heap.size/\q≠b:=λq hq=>⟨hq.2.1,λe=>by subst e;exact hq.2.2 0 hl0 o hid⟩
   have hsame:∀ (m:Nat) (os:Array Obj) (dk:Array (Rg n)) (q:Nat),I0 q->(Go.Proofs.sortWorld (λx:Rg n=>Value.int .i64 x.1) X.w0 b (o+0) m dk os).heap[q]? = X.w0.heap[q]?:=λm os dk q hq=>by
    obtain ⟨h1,h2⟩:=hIb q hq
    unfold Go.Proofs.sortWorld Go.Sort.grow
    simp only
    have hps:(Go.Sort.putRow (λx:Rg n=>Value.int .i64 x.1) (Go.Sort.ahead X.w0 m) b (o+0) dk).heap.size=X.w0.heap.size:=by
     unfold Go.Sort.putRow Go.Sort.mapBlock Go.Sort.ahead
     simp
    rw [ni (by rw [hps];exact h1)]
    exact tM _ _ _ _ h2
   have hsz':∀ (m:Nat) (os:Array Obj) (dk:Array (Rg n)),X.w0.heap.size<=(Go.Proofs.sortWorld (λx:Rg n=>Value.int .i64 x.1) X.w0 b (o+0) m dk os).heap.size:=λm os dk=>by
    unfold Go.Proofs.sortWorld Go.Sort.grow Go.Sort.putRow Go.Sort.mapBlock Go.Sort.ahead
    simp
   have hX0:∀ q,X.I0 q->I0 q:=λq hq=>by
    obtain ⟨h1,h2⟩:=hF.st.im0 q hq
    refine ⟨.inl hq,h1,λk hk o' hi=>?_⟩
    rcases (hF.st.lt k q o' hk hi).2 with h3|h3
    ·exact h2 h3
    ·omega
   have hcmp:Go.Proofs.CmpLays1 X.P g cb (λx:Rg n=>Value.int .i64 x.1) (λa b=>cf a.1 b.1) b (o+0) d.size X.w0:=λm os dk hk x y=>by
    refine HY (hc x.1 y.1 x.2 y.2) _ I0 (λq hq=>qF (hIb q hq).1 (hsz' m os dk)) (X.gl.on λq hq=>⟨hX0 q hq,hsame m os dk q (hX0 q hq)⟩) _ (by simp [hcbl];omega) λi s hi=>?_
    match i,hi with
    | 0,hi =>
     simp at hi;subst hi
     rw [cP,ni (by simp)];exact .v
    | 1,hi =>
     simp at hi;subst hi
     rw [cP,ni (by simp)];exact .v
    | i+2,hi =>
     have hi':caps[i]? = some s:=by simpa using hi
     have:=G8 (C':=bW []) (ids':=λ_=>none) (I':=I0) (w':=Go.Proofs.sortWorld (λx:Rg n=>Value.int .i64 x.1) X.w0 b (o+0) m dk os) (λq hq=>⟨hq,hsame m os dk q hq⟩) (hcbd i s hi') (lI hcl i s hi')
     have e1:(#[Value.int .i64 x.1,Value.int .i64 y.1]++cb).getD (i+2) undef=cb.getD i undef:=by
      rw [cP,cP,Array.getElem?_append_right (by simp)]
      simp
     rw [e1];exact this
   have hcall:=hS cb b (o+0) c d X.w0 hcmp hH hblk (by rw [hds];exact hb)
   rw [hds] at hcall
   refine hcall.mono ?_
   rintro ex w' ⟨rfl,m,os,rfl⟩
   refine fin _ ?_
   have hpq:Go.Sort.pdq (Go.Proofs.ltOf λ(a b:Rg n)=>cf a.1 b.1) d 0 xs.length (Go.Lib.bitLen xs.length) true true=(qn (λ(a b:Rg n)=>cf a.1 b.1) (uw n xs hr)).toArray:=by unfold qn;simp [hdl,d]
   rw [hpq]
   have hse:=Ds (cf:=cf) hr hne
   generalize hys:qn (λ(a b:Rg n)=>cf a.1 b.1) (uw n xs hr)=ys at hse
   have hyl:ys.length=xs.length:=by rw [←hys,HX hO,hdl]
   have hsl:(oT n cf xs).length=xs.length:=by rw [hse];simp [hyl]
   have hm:(Go.Sort.putRow (λx:Rg n=>Value.int .i64 x.1) (Go.Sort.ahead X.w0 m) b (o+0) ys.toArray).heap[b]? = some (.cells (Go.Sort.putCells (λx:Rg n=>Value.int .i64 x.1) (o+0) ys.toArray arr) e (0,0)):=by
    unfold Go.Sort.putRow Go.Sort.mapBlock Go.Sort.ahead
    simp only [qJ,if_true,hw,fj]
    rfl
   have hps:(Go.Sort.putRow (λx:Rg n=>Value.int .i64 x.1) (Go.Sort.ahead X.w0 m) b (o+0) ys.toArray).heap.size=X.w0.heap.size:=by
    unfold Go.Sort.putRow Go.Sort.mapBlock Go.Sort.ahead
    simp
   unfold Go.Proofs.sortWorld
   refine Gp hF (vs:=(oT n cf xs).map (Value.int .i64)) hid hw hl (Fg _) (by rw [iA,iA,hsl]) ?_ (λq hq hqb=>?_) (arr':=Go.Sort.putCells (λx:Rg n=>Value.int .i64 x.1) (o+0) ys.toArray arr) ?_ ?_ (λj hj=>?_) rfl rfl rfl (uM _ _)
   ·unfold Go.Sort.grow
    simp only [Array.size_append,hps];omega
   ·unfold Go.Sort.grow
    simp only
    rw [ni (by rw [hps];exact hq)]
    exact tM _ _ _ _ hqb
   ·unfold Go.Sort.grow
    simp only
    rw [ni (by rw [hps];exact hblk)]
    exact hm
   ·simp [Go.Sort.putCells]
   ·have hj':j<xs.length:=by simpa [hsl] using hj
    have hjy:j<ys.length:=by omega
    simp only [Go.Sort.putCells,cP,Array.getElem?_mapIdx,eE]
    rw [d3 (show o+j<arr.size by omega)]
    simp [hjy,hse,dz]
end
section
open Go.RowKit
variable {P:Program} {fr:Fr} {hp:Hp} {nx:Nat} {ops:Array Oper}
def dm.cut {n:Nat} (A:dm n) (a b:Int):List Int:=(A.l.drop a.toNat).take (b.toNat-a.toNat)
theorem dm.cut_len {n:Nat} (A:dm n) {a b:Int} (h:0<=a/\a<=b/\b<=(n:Int)):(A.cut a b).length=b.toNat-a.toNat:=by
 have:=A.h;simp only [dm.cut,gJ,jE];omega
end
section
open Go.RowKit
def Dt:SV->Value
 | .v x=>x
 | _=>undef
class Gt (K:Type) [b_ K] [DecidableEq K] where
 L:List TypeDesc
 op:∀ k:K,qe (b_.cells k)=some ((b_.cells k).map Dt)
 fits:∀ k:K,iI L ((b_.cells k).map Dt)=true
 eq:∀ a b:K,sR ((b_.cells a).map Dt) ((b_.cells b).map Dt)=(a==b)
variable {K:Type} [b_ K] [DecidableEq K] [Gt K]
def kV (k:K):Value:=.agg ((b_.cells k).map Dt).toArray
def mE (m:List (K×Int)):List (Value×SV):=m.map λp=>(kV p.1,.v (.int .i64 p.2))
omit [DecidableEq K] [Gt K] in
theorem Mx (m:List (K×Int)):sY (mE m)=true:=by
 induction m with
 | nil=>rfl
 | cons p r ih=>simp only [mE,gu,sY,SV.st,rz];exact ih
omit [DecidableEq K] [Gt K] in
@[push_cast] theorem OK (τ:Nm->Nm) (m:List (K×Int)):(mE m).map (λp=>(p.1,iz τ p.2))=mE m:=by
 simp [mE,iz,Function.comp_def]
attribute [push_cast] Mx
omit [DecidableEq K] [Gt K] in
@[push_cast] theorem OL:mE ([]:List (K×Int))=[]:=rfl
end
section
open Go.RowKit
variable {P:Program} {fr:Fr} {hp:Hp} {nx:Nat} {ops:Array Oper}
variable {n:Nat}
theorem dm.vals (a:dm n):(b_.cells a).map Dt=a.l.map λx=>Value.int .i64 x:=by
 show (dm.cells a).map Dt=_;rw [dm.cells_fl,ot];rfl
end
section
open Go.RowKit
structure PT (α:Type) where
 x:α
instance {α:Type} [b_ α]:Inhabited (PT α):=⟨⟨default⟩⟩
instance {α:Type} [b_ α]:b_ (PT α):=⟨1,λp=>[.iptr (b_.cells p.x) 0],λ_=>rfl,λ_=>rfl,λp=>by simp only [ir,SV.st,b_.stc,dc]⟩
@[push_cast] theorem ON {α:Type} [b_ α]:b_.sz (PT α)=1:=rfl
@[push_cast] theorem Oz {α:Type} [b_ α] (p:PT α):b_.cells p=[.iptr (b_.cells p.x) 0]:=rfl
theorem Jx {α:Type} [b_ α] (ys:List α):fl (ys.map PT.mk)=ys.map λy=>SV.iptr (b_.cells y) 0:=by
 induction ys with
 | nil=>rfl
 | cons y ys ih=>rw [gu,kR,ih];rfl
variable {α:Type} [b_ α] {hp hp':Hp} {σ:List (Nm×Nm)} {frz:List Nm}
theorem tN {k:Nm} {n n':Nat} (t:TypeId) (F:Nat) (ys:List α) (h:n=ys.length/\n'=ys.length/\qk frz k=true/\sr (bW hp k) (cA F ys.length)/\qk frz (.s F 0)=true/\ip hp (.s F 0) = .fam (cr t ys)):fu hp hp' σ frz (.own k 0 n) (.sl n' (fl (ys.map PT.mk)))=True:=by
 obtain ⟨rfl,rfl,h2,h3,h4,h5⟩:=h;refine eq_true ?_;simp only [fu];refine ⟨trivial,oF h2,?_⟩;cases hk:bW hp k with
 | row e cs =>
  rw [hk] at h3;simp only [sr] at h3;subst h3;have hl:(fl (ys.map PT.mk)).length=ys.length:=by rw [Jx,ew]
  refine ⟨e,cA F ys.length,ys.length,rfl,λh0=>h0,.inr ⟨fl (ys.map PT.mk),by rw [hl,jS];exact cE _,λP i x y hx hy=>?_,?_⟩⟩
  ·rw [Jx,fW] at hy;unfold cA at hx;rw [fW] at hx;obtain ⟨z,hz,rfl⟩:=mw.1 hy;obtain ⟨j,hj,rfl⟩:=mw.1 hx;obtain ⟨hi,hzz⟩:=dx.1 hz;obtain ⟨_,hjj⟩:=dx.1 hj;have ej:j=i:=by rw [←hjj];simp
   subst ej;have hg:=nw h5 (j:Int);rw [lK,dN ⟨by omega,by omega⟩] at hg;have hx2:ix ys (j:Int)=z:=by
    unfold ix;rw [dz,eG,hz];rfl
   rw [hx2] at hg;have hm:mz frz (.s F (j:Int)):=by
    obtain ⟨q,hq,he⟩:=oF h4;exact ⟨q,hq,he⟩
   exact .fptr hg hm (cE _) λa b c hb hc=>by
    rw [hb] at hc;cases hc;exact .cl (lI (ju (b_.stc z)) a b hb)
  ·rw [da,rA,←hl,pW]
 | _=>rw [hk] at h3;exact h3.elim
end
end Go.Sx
end
