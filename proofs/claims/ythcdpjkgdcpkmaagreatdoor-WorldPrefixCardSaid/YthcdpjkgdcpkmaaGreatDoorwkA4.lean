/-
 Lemmas, put together: IA, HR, HT, IB, IC, ID, IE, IF.
 No conditions.
-/
import Derived.Test.YthcdpjkgdcpkmaaGreatDoorwkA3
import Derived.Shelf.Sort.Plain
import Derived.Shelf.Slices.In.SortNone
import Derived.Shelf.SlSortCmp.NoneTotal
import Derived.Shelf.SlicesG.Cmp
import Derived.Shelf.SlSortCmp.Whole1
set_option linter.unusedSimpArgs false
set_option linter.unusedVariables false
set_option linter.unusedSectionVars false
section
namespace Go.Sx
section
open Go.RowKit
variable {α:Type} [bZ α] {P:Program} {hp hp':Hp} {nx:Nat} {σ:List (Nm×Nm)} {frz:List Nm}
def Bo (F:Nat):Nat->List Int->List (Value×SV)
 | _,[]=>[]
 | n,k::r=>(.int .i64 k,.ptr (.s F (n:Int)) 0)::Bo F (n+1) r
def rJ (F:Nat) (ks:List Int):List (Value×SV):=Bo F 0 ks
section arr
variable {n:Nat}
theorem KO (a:dn n) (r:List SV):(bZ.cells a++r).length=n+r.length:=by rw [ea,dn.len]
theorem KP (a:dn n) (r:List SV):(bZ.cells a++r).all jl=r.all jl:=by
 rw [List.all_append,bZ.one,rr]
end arr
theorem KQ (F:Nat) (ks:List Int):sR (rJ F ks)=true->ks=[]:=by
 cases ks with
 | nil=>exact λ_=>rfl
 | cons a r=>intro h;simp [rJ,Bo,sR,SV.st] at h
def Gj (hp hp':Hp) (σ:List (Nm×Nm)) (k' F':Nat) (ks:List Int):Prop:=match dh σ (.t k'),dh σ (.s F' 0) with
 | some k,some j=>(bW hp k = .map (rJ j.base ks)/\j = .s j.base 0)/\s5 (il hp' (.s F' 0)) ks.length
 | _,_=>False
theorem ve (k' F':Nat) (ks:List Int):Gj hp hp' σ k' F' ks=match dh σ (.t k'),dh σ (.s F' 0) with
 | some k,some j=>(bW hp k = .map (rJ j.base ks)/\j = .s j.base 0)/\s5 (il hp' (.s F' 0)) ks.length
 | _,_=>False:=propext Iff.rfl
theorem Av {F F':Nat} (h1:dh σ (.s F' 0)=some (.s F 0)) (N:Nat) (h2:s5 (il hp' (.s F' 0)) N):∀ (n:Nat) (ks:List Int),n+ks.length<=N->Be hp hp' σ frz (Bo F n ks) (Bo F' n ks)
 | _,[],_=>trivial
 | n,k::r,h=>by
  rw [gy] at h
  refine ⟨rfl,?_,Av h1 N h2 (n+1) r (by omega)⟩
  simp only [fv]
  refine ⟨C_ h1 _,trivial,?_⟩
  have h3:=h2 n (by omega)
  cases hg:il hp' (.s F' 0) with
  | fam g=>rw [nl hg];rw [hg] at h3;exact h3
  | _=>rw [hg] at h3;cases h3
theorem xp {k' F':Nat} {ks:List Int} (h:Gj hp hp' σ k' F' ks):zy hp hp' σ frz (.t k') (.map (rJ F' ks))=True:=by
 refine eq_true ?_;unfold Gj at h;show nW hp hp' σ frz (.t k') (.map (rJ F' ks));simp only [nW];cases hk:dh σ (.t k') with
 | none=>rw [hk] at h;exact h.elim
 | some k =>
  cases hj:dh σ (.s F' 0) with
  | none=>rw [hk,hj] at h;exact h.elim
  | some j =>
   rw [hk,hj] at h;obtain ⟨⟨h1,h2⟩,h3⟩:=h;simp only [h1];cases hs:sR (rJ F' ks) with
   | true =>
    have:=KQ F' ks hs;subst this;rfl
   | false=>exact Av (by rw [hj,h2];rfl) ks.length h3 0 ks (by omega)
theorem Fc {hp hp':Hp}:∀ {xs ys us vs:List (Value×SV)},Be hp hp' σ frz xs ys->Be hp hp' σ frz us vs->Be hp hp' σ frz (xs++us) (ys++vs)
 | [],[],_,_,_,h=>h
 | [],_::_,_,_,h,_=>h.elim
 | _::_,[],_,_,h,_=>h.elim
 | a::r,b::s,_,_,h,g=>⟨h.1,h.2.1,Fc h.2.2 g⟩
def Dl (hp hp':Hp) (σ:List (Nm×Nm)) (k' F' j':Nat) (ks:List Int) (q:Int):Prop:=match dh σ (.t k'),dh σ (.s F' 0),dh σ (.t j') with
 | some k,some j,some i=>(bW hp k = .map (rJ j.base ks++[(.int .i64 q,.ptr i 0)])/\j = .s j.base 0)/\s5 (il hp' (.s F' 0)) ks.length/\(bW hp' (.t j')).live=true
 | _,_,_=>False
theorem tF (k' F' j':Nat) (ks:List Int) (q:Int):Dl hp hp' σ k' F' j' ks q=match dh σ (.t k'),dh σ (.s F' 0),dh σ (.t j') with
 | some k,some j,some i=>(bW hp k = .map (rJ j.base ks++[(.int .i64 q,.ptr i 0)])/\j = .s j.base 0)/\s5 (il hp' (.s F' 0)) ks.length/\(bW hp' (.t j')).live=true
 | _,_,_=>False:=propext Iff.rfl
theorem vf {k' F' j':Nat} {ks:List Int} {q:Int} (h:Dl hp hp' σ k' F' j' ks q):zy hp hp' σ frz (.t k') (.map (rJ F' ks++[(.int .i64 q,.ptr (.t j') 0)]))=True:=by
 refine eq_true ?_;unfold Dl at h;show nW hp hp' σ frz (.t k') (.map (rJ F' ks++[(.int .i64 q,.ptr (.t j') 0)]));simp only [nW];cases hk:dh σ (.t k') with
 | none=>rw [hk] at h;exact h.elim
 | some k =>
  cases hj:dh σ (.s F' 0) with
  | none=>rw [hk,hj] at h;exact h.elim
  | some j =>
   cases hi:dh σ (.t j') with
   | none=>rw [hk,hj,hi] at h;exact h.elim
   | some i =>
    rw [hk,hj,hi] at h;obtain ⟨⟨h1,h2⟩,h3,h4⟩:=h;simp only [h1];have hs:sR (rJ F' ks++[(Value.int .i64 q,SV.ptr (.t j') 0)])=false:=by
     induction rJ F' ks with
     | nil=>rfl
     | cons a l ih=>simp only [iy,sR,ih,oh]
    rw [hs,cj];refine Fc (Av (by rw [hj,h2];rfl) ks.length h3 0 ks (by omega)) ⟨rfl,?_,trivial⟩;simp only [fv];exact ⟨hi,trivial,h4⟩
theorem Aw (τ:Nm->Nm) (F F':Nat) (h:∀ i,τ (.s F i) = .s F' i):∀ (n:Nat) (ks:List Int),(Bo F n ks).map (λp=>(p.1,iz τ p.2))=Bo F' n ks
 | _,[]=>rfl
 | n,k::r=>by simp only [Bo,gz,iz,h,Aw τ F F' h (n+1) r]
theorem xq (F:Nat) (ks:List Int):ik (gc (dh σ) nx) (.map (rJ F ks)) = .map (rJ (gc (dh σ) nx (.s F 0)).base ks):=by
 simp only [ik];congr 1;exact Aw _ _ _ (λi=>uP (jm σ) nx F i) 0 ks
theorem vg (F:Nat) (ks:List Int) (q:Int) (k:Nm):ik (gc (dh σ) nx) (.map (rJ F ks++[(.int .i64 q,.ptr k 0)])) = .map (rJ (gc (dh σ) nx (.s F 0)).base ks++[(.int .i64 q,.ptr (gc (dh σ) nx k) 0)]):=by
 simp only [ik,kF,gz,kY,iz];congr 2;exact Aw _ _ _ (λi=>uP (jm σ) nx F i) 0 ks
attribute [push_cast high] xp vf xq vg
attribute [push_cast] ve tF
end
section
open Go.RowKit
variable {P:Program} {X:Cx} {hp:Hp} {ids:dD} {w:World}
theorem KR (h:HeapC X hp ids w) {w':World} (hz:w.heap.size<=w'.heap.size) (hb:∀ b,b<w.heap.size->w'.heap[b]? = w.heap[b]?) (h1:w'.os=w.os) (h2:w'.tape=w.tape) (h3:w'.output=w.output) (h4:w.drawn<=w'.drawn) :
  HeapC X hp ids w'/\fm X hp ids w hp ids w':=by
 have hE:fm X hp ids w hp ids w':=by
  refine ⟨λd hd=>?_,λ_ h=>h,λk hl=>.inr ⟨hl,rfl,dY.refl hl,λb o hid=>dM.of_eq (hb b (h.st.lt k b o hl hid).1)⟩⟩;obtain ⟨a1,a2,a3⟩:=hd;exact ⟨⟨a1,by omega,a3⟩,hb d a2⟩
 refine ⟨⟨⟨λk=>?_,h.st.inj,λk b o hl hid=>?_,h.st.im0,λb hb0 hW=>?_,h1.trans h.st.os,⟨h2.trans h.st.tape.1,l0 h.st.tape.2 h4⟩,h3.trans h.st.output,by have:=h.st.size;omega⟩,λk hk h0 hl=>(h.kept k hk h0 hl).step hE hl hl,h.nov⟩,hE⟩
 ·by_cases hl:(bW hp k).live=true
  ·exact (h.st.ch k).mono hE rfl λb o hid=>hb b (h.st.lt k b o hl hid).1
  ·cases hc:bW hp k with
   | unborn=>trivial
   | void=>trivial
   | dead=>trivial
   | fam g=>trivial
   | row e cs=>rw [hc] at hl;exact absurd rfl hl
   | map es=>rw [hc] at hl;exact absurd rfl hl
   | obj s p=>rw [hc] at hl;exact absurd rfl hl
 ·obtain ⟨a1,a2⟩:=h.st.lt k b o hl hid;exact ⟨by omega,a2⟩
 ·rw [hb b (by have:=h.st.size;omega)];exact h.st.evol b hb0 hW
theorem Gk {e:TypeId} {cs cs':List SV} {vs:List Value} (h:nf X [(0,.row e cs)] 1 X.ids0 X.w0) {b o:Nat} {arr arr':Array Value} (hid:X.ids0 0=some (b,o)) (hw:X.w0.heap[b]? = some (.cells arr e (0,0))) (hl:o+cs.length<=arr.size)
  (hc':cs'=vs.map SV.v) (hlen:cs'.length=cs.length) {w':World} (hz:X.w0.heap.size<=w'.heap.size) (hb:∀ c,c<X.w0.heap.size->c≠b->w'.heap[c]? = X.w0.heap[c]?) (hw':w'.heap[b]? = some (.cells arr' e (0,0))) (hs:arr'.size=arr.size)
  (hv:∀ j,j<vs.length->arr'.getD (o+j) undef=vs.getD j undef) (h1:w'.os=X.w0.os) (h2:w'.tape=X.w0.tape) (h3:w'.output=X.w0.output) (h4:X.w0.drawn<=w'.drawn):nf X [(0,.row e cs')] 1 X.ids0 w':=by
 have ht:=tq h.toX (k:=0) (cs:=cs) (cs':=cs') rfl hid hw hs (by rw [hlen];exact hl) (by rw [hlen];exact cF _) (λi x hi=>by
  subst hc';rw [f5] at hi;cases hvi:vs[i]? with
  | none=>rw [hvi] at hi;cases hi
  | some u =>
   rw [hvi] at hi;cases hi;rw [hv i (dy.1 hvi).1,dA,hvi];exact .v)
 have hat:=setRow_heap X.w0 b arr arr' e (0,0) hw;have ho:=KR ht.1 (w':=w') (by simpa [World.setRow] using hz) (λc hc=>by
  have hc':c<X.w0.heap.size:=by simpa [World.setRow] using hc
  by_cases e1:c=b
  ·subst e1;rw [hw',hat]
  ·rw [hb c hc' e1,setRow_other _ _ _ _ e1]) (by rw [h1];rfl) (by rw [h2];rfl) (by rw [h3];rfl) h4
 refine ⟨ho.1.congr ?_,λk hk=>?_,h.m_le⟩
 ·funext j;match j with
  | .t 0=>rfl
  | .t (j+1)=>rfl
  | .s F i=>rfl
 ·match k,hk with
  | .t (j+1),_=>rfl
  | .s F i,_=>rfl
theorem tG (w:World) (blk c:Nat) (f:Array Value->Array Value) (h:c≠blk):(Go.Sort.mapBlock w blk f).heap[c]? = w.heap[c]?:=by
 unfold Go.Sort.mapBlock;simp only [qG];rw [if_neg (λe=>h e.symm)]
theorem Fe (xs:List Int):fl xs=(xs.map (Value.int .i64)).map SV.v:=by
 induction xs with
 | nil=>rfl
 | cons x xs ih=>rw [kO,ih];rfl
end
section
open Go.RowKit
variable {P:Program}
def qj {α:Type} [Inhabited α] (cf:α->α->Int) (xs:List α):List α:=(Go.Sort.pdq (Go.Proofs.ltOf cf) xs.toArray 0 xs.length (Go.Lib.bitLen xs.length) true true).toList
theorem zJ {α:Type} [Inhabited α] {cf:α->α->Int} (hO:Go.Sort.SWO (Go.Proofs.ltOf cf)) (xs:List α):(qj cf xs).Perm xs/\∀ i j,i<j->j<xs.length->Go.Proofs.ltOf cf (qj cf xs)[j]! (qj cf xs)[i]! = false:=by
 obtain ⟨h1,h2⟩:=Go.Sort.pdq_sorts (Go.Proofs.ltOf cf) hO xs.toArray 0 xs.length (Go.Lib.bitLen xs.length) true true (io _) (by simp) (Or.inl rfl);unfold qj;generalize Go.Sort.pdq (Go.Proofs.ltOf cf) xs.toArray 0 xs.length (Go.Lib.bitLen xs.length) true true=d at *;obtain ⟨a1,a2,a3⟩:=h1;constructor
 ·have e1:d.extract 0 xs.length=d:=by
   rw [show xs.length=d.size by simpa using a1.symm];simp
  have e2:xs.toArray.extract 0 xs.length=xs.toArray:=by simp
  rw [e1,e2] at a3;simpa using a3
 ·intro i j hij hj;have:=h2 i j (io _) hij hj;have hs:d.size=xs.length:=by simpa using a1
  simpa [hs,hj,show i<xs.length by omega] using this
theorem HW {α:Type} [Inhabited α] {cf:α->α->Int} (hO:Go.Sort.SWO (Go.Proofs.ltOf cf)) (xs:List α):(qj cf xs).length=xs.length:=(zJ hO xs).1.length_eq
end
section
open Go.RowKit
variable {P:Program}
theorem Gl {w w':World} (hz:w.heap.size<=w'.heap.size) (hb:∀ b,b<w.heap.size->w'.heap[b]? = w.heap[b]?) (h1:w'.os=w.os) (h2:w'.tape=w.tape) (h3:w'.output=w.output) (h4:w.drawn<=w'.drawn):∃ q os',w'=Go.Sort.grow (w.drewN q) os':=by
 refine ⟨w'.drawn-w.drawn,w'.heap.extract w.heap.size w'.heap.size,?_⟩;have e:w'.heap=w.heap++w'.heap.extract w.heap.size w'.heap.size:=by
  apply Array.ext_getElem?;intro i;rw [Array.getElem?_append];split
  ·rename_i h;exact hb i h
  ·rename_i h;rw [uA];simp only [Nat.min_self];split
   ·congr 1;omega
   ·rename_i h5;exact Array.getElem?_eq_none (by omega)
 cases w' with
 | mk hp tp dr os out =>
  simp only at e h1 h2 h3 h4;subst h1;subst h2;subst h3;unfold Go.Sort.grow World.drewN;simp only;rw [←e];congr 1;omega
theorem HX {f:FuncId} {args:List SV} {x:Value} (m5:cS P f args [] 0 (λr h n=>r = .v x/\h=[]/\n=0)) (W:World) (I0:Nat->Prop) (hI:∀ b,I0 b->b<W.heap.size) (gl:r5 P I0 W) (vals:Array Value) (hs:vals.size=args.length)
  (hd:∀ i s,args[i]? = some s->dT P (bW []) (λ_=>none) (λb=>I0 b) W s (vals.getD i undef)):Calls P f vals W λe w'=>e = .returned x/\∃ q os',w'=Go.Sort.grow (W.drewN q) os':=by
 let X:Cx:={ gl:=gl,P:=P,w0:=W,I0:=I0,W0:=λ_=>False,m:=0,ids0:=λ_=>none,C0:=λ_=>.unborn };have hIm:∀ b,I0 b->Im W I0 (λ_=>False) (bW []) (λ_=>none) W b:=λb hb=>⟨.inl hb,hI b hb,λk hk=>by cases hk⟩;have hH:nf X [] 0 X.ids0 X.w0:=⟨⟨⟨λk=>trivial,(λk k' b o o' hl=>by cases hl),(λk b o hl=>by cases hl),λb hb=>⟨hI b hb,λh=>h⟩,λb _ _=>rfl,rfl,⟨rfl,cF _⟩,rfl,cF _⟩,λk hk=>absurd hk (pN _),λk hk=>absurd hk (pN _)⟩,λk _=>rfl,cF _⟩;refine (m5.2 X vals rfl rfl hH hs λi s hi=>?_).mono λe W' he=>?_
 ·have:=hd i s hi;refine this.mono (I:=λb=>I0 b) ⟨λb hb=>⟨hIm b hb,rfl⟩,(λk hk=>by cases hk),(λk hk=>by cases hk)⟩
 obtain ⟨r,res,hp',nx',ids',rfl,⟨rfl,_,_⟩,hF,hd⟩:=he;rw [d9 hd];exact ⟨rfl,Gl hF.st.size (λb hb=>hF.st.evol b hb (λh=>h)) hF.st.os hF.st.tape.1 hF.st.output hF.st.tape.2⟩
abbrev Rg (n:Nat):={ x:Int // 1<=x/\x<=(n:Int) }
def un (n:Nat) (xs:List Int) (h:∀ x∈xs,1<=x/\x<=(n:Int)):List (Rg n):=xs.attach.map λx=>⟨x.1,h x.1 x.2⟩
theorem xr (n:Nat) (xs:List Int) (h):(un n xs h).map (·.1)=xs:=by
 unfold un;rw [og];exact List.attach_map_subtype_val xs
noncomputable def oM (n:Nat) (cf:Int->Int->Int) (xs:List Int):List Int:=open Classical in
 if h:(∀ x∈xs,1<=x/\x<=(n:Int))/\xs≠[] then
  have:Inhabited (Rg n):=⟨⟨xs.head h.2,h.1 _ (List.head_mem h.2)⟩⟩
  (qj (α:=Rg n) (λa b=>cf a.1 b.1) (un n xs h.1)).map (·.1)
 else []
theorem Dm {n:Nat} {cf:Int->Int->Int} {xs:List Int} (h:∀ x∈xs,1<=x/\x<=(n:Int)) [I:Inhabited (Rg n)] (hne:xs≠[]):oM n cf xs=(@qj (Rg n) ⟨⟨xs.head hne,h _ (List.head_mem hne)⟩⟩ (λa b=>cf a.1 b.1) (un n xs h)).map (·.1):=by
 unfold oM;rw [dif_pos ⟨h,hne⟩]
theorem Bp (n:Nat) (cf:Int->Int->Int):oM n cf []=[]:=by
 unfold oM;rw [dif_neg (by simp)]
theorem Gm {n:Nat} {cf:Int->Int->Int} {xs:List Int} (h:∀ x∈xs,1<=x/\x<=((n:Nat):Int)) (hO:Go.Sort.SWO (Go.Proofs.ltOf λ(a b:Rg n)=>cf a.1 b.1)) :
  (oM n cf xs).Perm xs/\∀ i j,i<j->j<xs.length->Go.Proofs.ltOf cf (oM n cf xs)[j]! (oM n cf xs)[i]! = false:=by
 by_cases hne:xs=[]
 ·subst hne;rw [Bp];exact ⟨List.Perm.refl _,λi j _ hj=>by simp at hj⟩
 ·let I:Inhabited (Rg n):=⟨⟨xs.head hne,h _ (List.head_mem hne)⟩⟩;rw [Dm h hne];have hp:=zJ hO (un n xs h);have hl:=hp.1.length_eq;have hlr:(un n xs h).length=xs.length:=by have:=dJ List.length (xr n xs h);simpa using this
  refine ⟨?_,λi j hij hj=>?_⟩
  ·have:=hp.1.map (λx:Rg n=>x.1);rwa [xr] at this
  ·have:=hp.2 i j hij (by rw [hlr];exact hj);generalize qj (λa b:Rg n=>cf a.1 b.1) (un n xs h)=ys at *;have hi':i<ys.length:=by omega
   have hj':j<ys.length:=by omega
   rw [oc ys j hj',oc ys i hi'] at this;rw [oc _ j (by simpa using hj'),oc _ i (by simpa using hi')];simpa [Go.Proofs.ltOf] using this
theorem r5.on {I I':Nat->Prop} {w w':World} (h:r5 P I w) (hI:∀ b,I b->I' b/\w'.heap[b]? = w.heap[b]?):r5 P I' w':=λg cs hc=>by
 obtain ⟨h1,h2⟩:=h g cs hc
 refine ⟨(hI g h1).1,λi x hi=>?_⟩
 obtain ⟨y,h3,h4⟩:=h2 i x hi
 exact ⟨y,(nP (hI g h1).2).trans h3,h4.mono (λb hb=>(hI b hb).1) λb hb i=>nP (hI b hb).2⟩
theorem Gn {f g:FuncId} {e:TypeId} (caps:List SV) (hcl:mK caps=true) (n:Nat) (cf:Int->Int->Int)
  (hfn : ∃ fn body, P.funcs[f]? = some fn /\ fn.body = some body /\ fn.name ≠ "runtime.NumGoroutine")
  (hS:∀ [Inhabited (Rg n)] (cb:Array Value) (blk off cap:Nat) (d:Array (Rg n)) (w:World),Go.Proofs.CmpLays1 P g cb (λx:Rg n=>Value.int .i64 x.1) (λa b=>cf a.1 b.1) blk off d.size w->Go.Sort.Holds (λx:Rg n=>Value.int .i64 x.1) w blk off d->blk<w.heap.size->d.size<4611686018427387904 ->
   Calls P f #[.slice (some ⟨blk,off,none⟩) d.size cap,.func (.func g) #[] cb] w λe w'=>e = .returned (.tuple #[])/\∃ m os,w'=Go.Proofs.sortWorld (λx:Rg n=>Value.int .i64 x.1) w blk off m (Go.Sort.pdq (Go.Proofs.ltOf λ(a b:Rg n)=>cf a.1 b.1) d 0 d.size (Go.Lib.bitLen d.size) true true) os)
  (h0:∀ (p:Option Addr) (cap:Nat) (cb:Array Value) (w:World),Calls P f #[.slice p 0 cap,.func (.func g) #[] cb] w λe w'=>e = .returned (.tuple #[])/\w'=w)
  (hO:Go.Sort.SWO (Go.Proofs.ltOf λ(a b:Rg n)=>cf a.1 b.1))
  (hc:∀ a b:Int,1<=a/\a<=(n:Int)->1<=b/\b<=(n:Int)->cS P g (iS a::iS b::caps) [] 0 (λr h m=>r=iS (cf a b)/\h=[]/\m=0))
  (xs:List Int) (hb:xs.length<4611686018427387904) (hr:∀ x∈xs,1<=x/\x<=(n:Int)) :
  cS P f [.own 0 0 xs.length,.clo g caps] [(0,.row e (fl xs))] 1 (λx h n'=>x = .tup []/\h=[(0,.row e (fl (oM n cf xs)))]/\n'=1):=by
 refine ⟨hfn,λX vals hP hm hF hsz hd=>?_⟩
 subst hP
 obtain ⟨v0,v1,rfl⟩:∃ a b,vals = #[a,b]:=by
  obtain ⟨l⟩:=vals
  match l,hsz with
  | [a,b],_=>exact ⟨a,b,rfl⟩
 have hd0:cU X _ X.ids0 X.w0 (.own 0 0 xs.length) v0:=hd 0 _ rfl
 have hd1:cU X _ X.ids0 X.w0 (.clo g caps) v1:=hd 1 _ rfl
 obtain ⟨cb,rfl,hcbl,hcbd⟩:=xc hd1
 have hl0:(bW [(0,cp.row e (fl xs))] 0).live=true:=rfl
 obtain ⟨a,c,rfl,hnc,hcm,hcs0,hor⟩:=l_ hd0 hl0
 have fin:∀ w',nf X [(0,.row e (fl (oM n cf xs)))] 1 X.ids0 w'->∃ r res hp' nx' ids',Ending.returned (.tuple #[]) = .returned r/\(res = .tup []/\hp'=[(0,.row e (fl (oM n cf xs)))]/\nx'=1)/\nf X hp' nx' ids' w'/\cU X hp' ids' w' res r :=
  λw' hF'=>⟨_,_,_,_,X.ids0,rfl,⟨rfl,rfl,rfl⟩,hF',.tup _ rfl λi x hi=>by simp at hi⟩
 by_cases hn:xs.length=0
 ·have hx:xs=[]:=List.length_eq_zero_iff.1 hn
  subst hx
  refine (h0 a c cb X.w0).mono ?_
  rintro ex w' ⟨rfl,rfl⟩
  exact fin _ (by rw [Bp];exact hF)
 ·have hne:xs≠[]:=λh=>hn (by rw [h];rfl)
  let I:Inhabited (Rg n):=⟨⟨xs.head hne,hr _ (List.head_mem hne)⟩⟩
  rcases hor with ⟨h,_⟩|⟨b,o,e',cs,arr,hC,hid,rfl,hw,hsz2⟩
  ·exact absurd h hn
  ·have hC':cp.row e (fl xs) = .row e' cs:=hC
   cases hC'
   have hch:=hF.st.ch 0
   have hgc:bW [(0,cp.row e (fl xs))] 0 = .row e (fl xs):=rfl
   rw [hgc] at hch
   simp only [fK,hid] at hch
   obtain ⟨arr',ha,hl,hx⟩:=hch
   rw [hw] at ha;cases ha
   have hfl:(fl xs).length=xs.length:=by rw [iA];exact pP _
   have hcell:∀ j,(hj:j<xs.length)->arr.getD (o+j) undef = .int .i64 xs[j]:=λj hj=>by
    have h2:(fl xs)[j]? = some (.v (.int .i64 xs[j])):=by rw [Fe];simp [hj]
    exact d9 (hx j _ h2)
   let d:Array (Rg n):=(un n xs hr).toArray
   have hdl:(un n xs hr).length=xs.length:=by have:=dJ List.length (xr n xs hr);simpa using this
   have hds:d.size=xs.length:=by simp [d,hdl]
   have hdv:∀ j (hj:j<xs.length),((un n xs hr)[j]'(by omega)).1=xs[j]:=λj hj=>by
    have:=dJ (λl=>l[j]?) (xr n xs hr)
    simpa [hj,hdl] using this
   have hH:Go.Sort.Holds (λx:Rg n=>Value.int .i64 x.1) X.w0 b (o+0) d:=λj hj=>by
    have hj':j<xs.length:=by rw [←hds];exact hj
    have h1:=hcell j hj'
    constructor
    ·simp only [World.cell?,hw]
     rw [cQ,d5 (by omega)] at h1
     simp only [eC]
     simp only [gZ] at h1
     have hg:d[j]! = (un n xs hr)[j]'(by omega):=by
      rw [oc d j hj];simp [d]
     rw [hg,hdv j hj']
     simp [d5 (show o+j<arr.size by omega),h1]
    ·simp [World.frozen?,hw]
   have hblk:=(hF.st.lt 0 b o hl0 hid).1
   -- what the closure may look at
   let I0:Nat->Prop:=Im X.w0 X.I0 X.W0 (bW [(0,cp.row e (fl xs))]) X.ids0 X.w0
   have hIb:∀ q,I0 q->q<X.w0.heap.size/\q≠b:=λq hq=>⟨hq.2.1,λe=>by subst e;exact hq.2.2 0 hl0 o hid⟩
   have hsame:∀ (m:Nat) (os:Array Obj) (dk:Array (Rg n)) (q:Nat),I0 q->(Go.Proofs.sortWorld (λx:Rg n=>Value.int .i64 x.1) X.w0 b (o+0) m dk os).heap[q]? = X.w0.heap[q]?:=λm os dk q hq=>by
    obtain ⟨h1,h2⟩:=hIb q hq
    unfold Go.Proofs.sortWorld Go.Sort.grow
    simp only
    have hps:(Go.Sort.putRow (λx:Rg n=>Value.int .i64 x.1) (Go.Sort.ahead X.w0 m) b (o+0) dk).heap.size=X.w0.heap.size:=by
     unfold Go.Sort.putRow Go.Sort.mapBlock Go.Sort.ahead
     simp
    rw [na (by rw [hps];exact h1)]
    exact tG _ _ _ _ h2
   have hsz':∀ (m:Nat) (os:Array Obj) (dk:Array (Rg n)),X.w0.heap.size<=(Go.Proofs.sortWorld (λx:Rg n=>Value.int .i64 x.1) X.w0 b (o+0) m dk os).heap.size:=λm os dk=>by
    unfold Go.Proofs.sortWorld Go.Sort.grow Go.Sort.putRow Go.Sort.mapBlock Go.Sort.ahead
    simp
   have hX0:∀ q,X.I0 q->I0 q:=λq hq=>by
    obtain ⟨h1,h2⟩:=hF.st.im0 q hq
    refine ⟨.inl hq,h1,λk hk o' hi=>?_⟩
    rcases (hF.st.lt k q o' hk hi).2 with h3|h3
    ·exact h2 h3
    ·omega
   have hcmp:Go.Proofs.CmpLays1 X.P g cb (λx:Rg n=>Value.int .i64 x.1) (λa b=>cf a.1 b.1) b (o+0) d.size X.w0:=λm os dk hk x y=>by
    refine HX (hc x.1 y.1 x.2 y.2) _ I0 (λq hq=>qC (hIb q hq).1 (hsz' m os dk)) (X.gl.on λq hq=>⟨hX0 q hq,hsame m os dk q (hX0 q hq)⟩) _ (by simp [hcbl];omega) λi s hi=>?_
    match i,hi with
    | 0,hi =>
     simp at hi;subst hi
     rw [cQ,na (by simp)];exact .v
    | 1,hi =>
     simp at hi;subst hi
     rw [cQ,na (by simp)];exact .v
    | i+2,hi =>
     have hi':caps[i]? = some s:=by simpa using hi
     have:=G0 (C':=bW []) (ids':=λ_=>none) (I':=I0) (w':=Go.Proofs.sortWorld (λx:Rg n=>Value.int .i64 x.1) X.w0 b (o+0) m dk os) (λq hq=>⟨hq,hsame m os dk q hq⟩) (hcbd i s hi') (lE hcl i s hi')
     have e1:(#[Value.int .i64 x.1,Value.int .i64 y.1]++cb).getD (i+2) undef=cb.getD i undef:=by
      rw [cQ,cQ,Array.getElem?_append_right (by simp)]
      simp
     rw [e1];exact this
   have hcall:=hS cb b (o+0) c d X.w0 hcmp hH hblk (by rw [hds];exact hb)
   rw [hds] at hcall
   refine hcall.mono ?_
   rintro ex w' ⟨rfl,m,os,rfl⟩
   refine fin _ ?_
   have hpq:Go.Sort.pdq (Go.Proofs.ltOf λ(a b:Rg n)=>cf a.1 b.1) d 0 xs.length (Go.Lib.bitLen xs.length) true true=(qj (λ(a b:Rg n)=>cf a.1 b.1) (un n xs hr)).toArray:=by unfold qj;simp [hdl,d]
   rw [hpq]
   have hse:=Dm (cf:=cf) hr hne
   generalize hys:qj (λ(a b:Rg n)=>cf a.1 b.1) (un n xs hr)=ys at hse
   have hyl:ys.length=xs.length:=by rw [←hys,HW hO,hdl]
   have hsl:(oM n cf xs).length=xs.length:=by rw [hse];simp [hyl]
   have hm:(Go.Sort.putRow (λx:Rg n=>Value.int .i64 x.1) (Go.Sort.ahead X.w0 m) b (o+0) ys.toArray).heap[b]? = some (.cells (Go.Sort.putCells (λx:Rg n=>Value.int .i64 x.1) (o+0) ys.toArray arr) e (0,0)):=by
    unfold Go.Sort.putRow Go.Sort.mapBlock Go.Sort.ahead
    simp only [qG,if_true,hw,fp]
    rfl
   have hps:(Go.Sort.putRow (λx:Rg n=>Value.int .i64 x.1) (Go.Sort.ahead X.w0 m) b (o+0) ys.toArray).heap.size=X.w0.heap.size:=by
    unfold Go.Sort.putRow Go.Sort.mapBlock Go.Sort.ahead
    simp
   unfold Go.Proofs.sortWorld
   refine Gk hF (vs:=(oM n cf xs).map (Value.int .i64)) hid hw hl (Fe _) (by rw [iA,iA,hsl]) ?_ (λq hq hqb=>?_) (arr':=Go.Sort.putCells (λx:Rg n=>Value.int .i64 x.1) (o+0) ys.toArray arr) ?_ ?_ (λj hj=>?_) rfl rfl rfl (uF _ _)
   ·unfold Go.Sort.grow
    simp only [Array.size_append,hps];omega
   ·unfold Go.Sort.grow
    simp only
    rw [na (by rw [hps];exact hq)]
    exact tG _ _ _ _ hqb
   ·unfold Go.Sort.grow
    simp only
    rw [na (by rw [hps];exact hblk)]
    exact hm
   ·simp [Go.Sort.putCells]
   ·have hj':j<xs.length:=by simpa [hsl] using hj
    have hjy:j<ys.length:=by omega
    simp only [Go.Sort.putCells,cQ,Array.getElem?_mapIdx,eC]
    rw [d5 (show o+j<arr.size by omega)]
    simp [hjy,hse,dA]
end
section
open Go.RowKit
variable {P:Program} {fr:Fr} {hp:Hp} {nx:Nat} {ops:Array Oper}
def dn.cut {n:Nat} (A:dn n) (a b:Int):List Int:=(A.l.drop a.toNat).take (b.toNat-a.toNat)
theorem dn.cut_len {n:Nat} (A:dn n) {a b:Int} (h:0<=a/\a<=b/\b<=(n:Int)):(A.cut a b).length=b.toNat-a.toNat:=by
 have:=A.h;simp only [dn.cut,fH,jj];omega
end
section
open Go.RowKit
def Dn:SV->Value
 | .v x=>x
 | _=>undef
class Gp (K:Type) [bZ K] [DecidableEq K] where
 L:List TypeDesc
 op:∀ k:K,qb (bZ.cells k)=some ((bZ.cells k).map Dn)
 fits:∀ k:K,iH L ((bZ.cells k).map Dn)=true
 eq:∀ a b:K,sK ((bZ.cells a).map Dn) ((bZ.cells b).map Dn)=(a==b)
variable {K:Type} [bZ K] [DecidableEq K] [Gp K]
def kV (k:K):Value:=.agg ((bZ.cells k).map Dn).toArray
def mE (m:List (K×Int)):List (Value×SV):=m.map λp=>(kV p.1,.v (.int .i64 p.2))
omit [DecidableEq K] [Gp K] in
theorem Mq (m:List (K×Int)):sR (mE m)=true:=by
 induction m with
 | nil=>rfl
 | cons p r ih=>simp only [mE,gz,sR,SV.st,rr];exact ih
omit [DecidableEq K] [Gp K] in
@[push_cast] theorem OD (τ:Nm->Nm) (m:List (K×Int)):(mE m).map (λp=>(p.1,iz τ p.2))=mE m:=by
 simp [mE,iz,Function.comp_def]
attribute [push_cast] Mq
omit [DecidableEq K] [Gp K] in
@[push_cast] theorem OE:mE ([]:List (K×Int))=[]:=rfl
end
section
open Go.RowKit
variable {P:Program} {fr:Fr} {hp:Hp} {nx:Nat} {ops:Array Oper}
variable {n:Nat}
theorem dn.vals (a:dn n):(bZ.cells a).map Dn=a.l.map λx=>Value.int .i64 x:=by
 show (dn.cells a).map Dn=_;rw [dn.cells_fl,og];rfl
end
section
open Go.RowKit
structure PT (α:Type) where
 x:α
instance {α:Type} [bZ α]:Inhabited (PT α):=⟨⟨default⟩⟩
instance {α:Type} [bZ α]:bZ (PT α):=⟨1,λp=>[.iptr (bZ.cells p.x) 0],λ_=>rfl,λ_=>rfl,λp=>by simp only [iq,SV.st,bZ.stc,de]⟩
@[push_cast] theorem OG {α:Type} [bZ α]:bZ.sz (PT α)=1:=rfl
@[push_cast] theorem Oq {α:Type} [bZ α] (p:PT α):bZ.cells p=[.iptr (bZ.cells p.x) 0]:=rfl
theorem Jt {α:Type} [bZ α] (ys:List α):fl (ys.map PT.mk)=ys.map λy=>SV.iptr (bZ.cells y) 0:=by
 induction ys with
 | nil=>rfl
 | cons y ys ih=>rw [gz,kO,ih];rfl
variable {α:Type} [bZ α] {hp hp':Hp} {σ:List (Nm×Nm)} {frz:List Nm}
theorem tH {k:Nm} {n n':Nat} (t:TypeId) (F:Nat) (ys:List α) (h:n=ys.length/\n'=ys.length/\qh frz k=true/\sg (bW hp k) (cB F ys.length)/\qh frz (.s F 0)=true/\il hp (.s F 0) = .fam (cu t ys)):fv hp hp' σ frz (.own k 0 n) (.sl n' (fl (ys.map PT.mk)))=True:=by
 obtain ⟨rfl,rfl,h2,h3,h4,h5⟩:=h;refine eq_true ?_;simp only [fv];refine ⟨trivial,ot h2,?_⟩;cases hk:bW hp k with
 | row e cs =>
  rw [hk] at h3;simp only [sg] at h3;subst h3;have hl:(fl (ys.map PT.mk)).length=ys.length:=by rw [Jt,eD]
  refine ⟨e,cB F ys.length,ys.length,rfl,λh0=>h0,.inr ⟨fl (ys.map PT.mk),by rw [hl,jO];exact cF _,λP i x y hx hy=>?_,?_⟩⟩
  ·rw [Jt,f5] at hy;unfold cB at hx;rw [f5] at hx;obtain ⟨z,hz,rfl⟩:=mn.1 hy;obtain ⟨j,hj,rfl⟩:=mn.1 hx;obtain ⟨hi,hzz⟩:=dy.1 hz;obtain ⟨_,hjj⟩:=dy.1 hj;have ej:j=i:=by rw [←hjj];simp
   subst ej;have hg:=nl h5 (j:Int);rw [lG,dN ⟨by omega,by omega⟩] at hg;have hx2:ix ys (j:Int)=z:=by
    unfold ix;rw [dA,eQ,hz];rfl
   rw [hx2] at hg;have hm:mq frz (.s F (j:Int)):=by
    obtain ⟨q,hq,he⟩:=ot h4;exact ⟨q,hq,he⟩
   exact .fptr hg hm (cF _) λa b c hb hc=>by
    rw [hb] at hc;cases hc;exact .cl (lE (jq (bZ.stc z)) a b hb)
  ·rw [da,ru,←hl,pQ]
 | _=>rw [hk] at h3;exact h3.elim
end
end Go.Sx
end
