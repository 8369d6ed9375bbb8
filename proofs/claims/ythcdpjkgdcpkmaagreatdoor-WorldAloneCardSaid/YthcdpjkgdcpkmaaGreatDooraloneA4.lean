/-
 Lemmas, put together: IA, HR, HT, IB, IC, ID, IE, IF.
 No conditions.
-/
import Derived.Test.YthcdpjkgdcpkmaaGreatDooraloneA3
import Derived.Shelf.Sort.Plain
import Derived.Shelf.Slices.In.SortNone
import Derived.Shelf.SlSortCmp.NoneTotal
import Derived.Shelf.SlicesG.Cmp
import Derived.Shelf.SlSortCmp.Whole1
set_option linter.unusedSimpArgs false
set_option linter.unusedVariables false
section
namespace Go.Sx
open Go.RowKit
set_option linter.unusedVariables false
set_option linter.unusedSimpArgs false
variable {α:Type} [Enc α] {P:Program} {hp hp':Hp} {nx:Nat} {σ:List (Nm×Nm)} {frz:List Nm}
def mpG (F:Nat):Nat→List Int→List (Value×SV)
 | _,[]=>[]
 | n,k::r=>(.int .i64 k,.ptr (.s F (n:Int)) 0)::mpG F (n+1) r
def mpP (F:Nat) (ks:List Int):List (Value×SV):=mpG F 0 ks
section arr
variable {n:Nat}
theorem len_arr (a:VArr n) (r:List SV):(Enc.cells a++r).length=n+r.length:=by rw [List.length_append,VArr.len]
theorem one_arr (a:VArr n) (r:List SV):(Enc.cells a++r).all oneS=r.all oneS:=by
 rw [List.all_append,Enc.one,Bool.true_and]
end arr
theorem stM_mpP (F:Nat) (ks:List Int):stM (mpP F ks)=true→ks=[]:=by
 cases ks with
 | nil=>exact fun _=>rfl
 | cons a r=>intro h;simp [mpP,mpG,stM,SV.st] at h
def mapLe (hp hp':Hp) (σ:List (Nm×Nm)) (k' F':Nat) (ks:List Int):Prop:=match getN σ (.t k'),getN σ (.s F' 0) with
 | some k,some j=>(getH hp k = .map (mpP j.base ks)∧j = .s j.base 0)∧lenP (getE hp' (.s F' 0)) ks.length
 | _,_=>False
theorem mapLe_eq (k' F':Nat) (ks:List Int):mapLe hp hp' σ k' F' ks=match getN σ (.t k'),getN σ (.s F' 0) with
 | some k,some j=>(getH hp k = .map (mpP j.base ks)∧j = .s j.base 0)∧lenP (getE hp' (.s F' 0)) ks.length
 | _,_=>False:=propext Iff.rfl
theorem leM_mpG {F F':Nat} (h1:getN σ (.s F' 0)=some (.s F 0)) (N:Nat) (h2:lenP (getE hp' (.s F' 0)) N):∀ (n:Nat) (ks:List Int),n+ks.length≤N→leM hp hp' σ frz (mpG F n ks) (mpG F' n ks)
 | _,[],_=>trivial
 | n,k::r,h=>by
  rw [List.length_cons] at h
  refine ⟨rfl,?_,leM_mpG h1 N h2 (n+1) r (by omega)⟩
  simp only [leS]
  refine ⟨getN_s h1 _,trivial,?_⟩
  have h3:=h2 n (by omega)
  cases hg:getE hp' (.s F' 0) with
  | fam g=>rw [getE_fam hg];rw [hg] at h3;exact h3
  | _=>rw [hg] at h3;cases h3
theorem leC_mpP {k' F':Nat} {ks:List Int} (h:mapLe hp hp' σ k' F' ks):leC hp hp' σ frz (.t k') (.map (mpP F' ks))=True:=by
 refine eq_true ?_;unfold mapLe at h;show leC1 hp hp' σ frz (.t k') (.map (mpP F' ks));simp only [leC1];cases hk:getN σ (.t k') with
 | none=>rw [hk] at h;exact h.elim
 | some k =>
  cases hj:getN σ (.s F' 0) with
  | none=>rw [hk,hj] at h;exact h.elim
  | some j =>
   rw [hk,hj] at h;obtain ⟨⟨h1,h2⟩,h3⟩:=h;simp only [h1];cases hs:stM (mpP F' ks) with
   | true =>
    have:=stM_mpP F' ks hs;subst this;rfl
   | false=>exact leM_mpG (by rw [hj,h2];rfl) ks.length h3 0 ks (by omega)
theorem leM_app {hp hp':Hp}:∀ {xs ys us vs:List (Value×SV)},leM hp hp' σ frz xs ys→leM hp hp' σ frz us vs→leM hp hp' σ frz (xs++us) (ys++vs)
 | [],[],_,_,_,h=>h
 | [],_::_,_,_,h,_=>h.elim
 | _::_,[],_,_,h,_=>h.elim
 | a::r,b::s,_,_,h,g=>⟨h.1,h.2.1,leM_app h.2.2 g⟩
def mapLe1 (hp hp':Hp) (σ:List (Nm×Nm)) (k' F' j':Nat) (ks:List Int) (q:Int):Prop:=match getN σ (.t k'),getN σ (.s F' 0),getN σ (.t j') with
 | some k,some j,some i=>(getH hp k = .map (mpP j.base ks++[(.int .i64 q,.ptr i 0)])∧j = .s j.base 0)∧lenP (getE hp' (.s F' 0)) ks.length∧(getH hp' (.t j')).live=true
 | _,_,_=>False
theorem mapLe1_eq (k' F' j':Nat) (ks:List Int) (q:Int):mapLe1 hp hp' σ k' F' j' ks q=match getN σ (.t k'),getN σ (.s F' 0),getN σ (.t j') with
 | some k,some j,some i=>(getH hp k = .map (mpP j.base ks++[(.int .i64 q,.ptr i 0)])∧j = .s j.base 0)∧lenP (getE hp' (.s F' 0)) ks.length∧(getH hp' (.t j')).live=true
 | _,_,_=>False:=propext Iff.rfl
theorem leC_mpP1 {k' F' j':Nat} {ks:List Int} {q:Int} (h:mapLe1 hp hp' σ k' F' j' ks q):leC hp hp' σ frz (.t k') (.map (mpP F' ks++[(.int .i64 q,.ptr (.t j') 0)]))=True:=by
 refine eq_true ?_;unfold mapLe1 at h;show leC1 hp hp' σ frz (.t k') (.map (mpP F' ks++[(.int .i64 q,.ptr (.t j') 0)]));simp only [leC1];cases hk:getN σ (.t k') with
 | none=>rw [hk] at h;exact h.elim
 | some k =>
  cases hj:getN σ (.s F' 0) with
  | none=>rw [hk,hj] at h;exact h.elim
  | some j =>
   cases hi:getN σ (.t j') with
   | none=>rw [hk,hj,hi] at h;exact h.elim
   | some i =>
    rw [hk,hj,hi] at h;obtain ⟨⟨h1,h2⟩,h3,h4⟩:=h;simp only [h1];have hs:stM (mpP F' ks++[(Value.int .i64 q,SV.ptr (.t j') 0)])=false:=by
     induction mpP F' ks with
     | nil=>rfl
     | cons a l ih=>simp only [List.cons_append,stM,ih,Bool.and_false]
    rw [hs,cond_false];refine leM_app (leM_mpG (by rw [hj,h2];rfl) ks.length h3 0 ks (by omega)) ⟨rfl,?_,trivial⟩;simp only [leS];exact ⟨hi,trivial,h4⟩
theorem ren_mpG (τ:Nm→Nm) (F F':Nat) (h:∀ i,τ (.s F i) = .s F' i):∀ (n:Nat) (ks:List Int),(mpG F n ks).map (fun p=>(p.1,renS τ p.2))=mpG F' n ks
 | _,[]=>rfl
 | n,k::r=>by simp only [mpG,List.map_cons,renS,h,ren_mpG τ F F' h (n+1) r]
theorem ren_mpP (F:Nat) (ks:List Int):renC (bck (getN σ) nx) (.map (mpP F ks)) = .map (mpP (bck (getN σ) nx (.s F 0)).base ks):=by
 simp only [renC];congr 1;exact ren_mpG _ _ _ (fun i=>bck_s (getN_sig σ) nx F i) 0 ks
theorem ren_mpP1 (F:Nat) (ks:List Int) (q:Int) (k:Nm):renC (bck (getN σ) nx) (.map (mpP F ks++[(.int .i64 q,.ptr k 0)])) = .map (mpP (bck (getN σ) nx (.s F 0)).base ks++[(.int .i64 q,.ptr (bck (getN σ) nx k) 0)]):=by
 simp only [renC,List.map_append,List.map_cons,List.map_nil,renS];congr 2;exact ren_mpG _ _ _ (fun i=>bck_s (getN_sig σ) nx F i) 0 ks
attribute [push_cast high] leC_mpP leC_mpP1 ren_mpP ren_mpP1
attribute [push_cast] mapLe_eq mapLe1_eq
end Go.Sx
end

section
namespace Go.Sx
open Go.RowKit
set_option linter.unusedVariables false
set_option linter.unusedSimpArgs false
variable {P:Program} {X:Cx} {hp:Hp} {ids:Ids} {w:World}
theorem heap_on (h:HeapC X hp ids w) {w':World} (hz:w.heap.size≤w'.heap.size) (hb:∀ b,b<w.heap.size→w'.heap[b]? = w.heap[b]?) (h1:w'.os=w.os) (h2:w'.tape=w.tape) (h3:w'.output=w.output) (h4:w.drawn≤w'.drawn) :
  HeapC X hp ids w'∧ExtX X hp ids w hp ids w':=by
 have hE:ExtX X hp ids w hp ids w':=by
  refine ⟨fun d hd=>?_,fun _ h=>h,fun k hl=>.inr ⟨hl,rfl,SameKind.refl hl,fun b o hid=>SameShape.of_eq (hb b (h.st.lt k b o hl hid).1)⟩⟩;obtain ⟨a1,a2,a3⟩:=hd;exact ⟨⟨a1,by omega,a3⟩,hb d a2⟩
 refine ⟨⟨⟨fun k=>?_,h.st.inj,fun k b o hl hid=>?_,h.st.im0,fun b hb0 hW=>?_,h1.trans h.st.os,⟨h2.trans h.st.tape.1,Nat.le_trans h.st.tape.2 h4⟩,h3.trans h.st.output,by have:=h.st.size;omega⟩,fun k hk h0 hl=>(h.kept k hk h0 hl).step hE hl hl,h.nov⟩,hE⟩
 ·by_cases hl:(getH hp k).live=true
  ·exact (h.st.ch k).mono hE rfl fun b o hid=>hb b (h.st.lt k b o hl hid).1
  ·cases hc:getH hp k with
   | unborn=>trivial
   | void=>trivial
   | dead=>trivial
   | fam g=>trivial
   | row e cs=>rw [hc] at hl;exact absurd rfl hl
   | map es=>rw [hc] at hl;exact absurd rfl hl
   | obj s p=>rw [hc] at hl;exact absurd rfl hl
 ·obtain ⟨a1,a2⟩:=h.st.lt k b o hl hid;exact ⟨by omega,a2⟩
 ·rw [hb b (by have:=h.st.size;omega)];exact h.st.evol b hb0 hW
theorem row_sorted {e:TypeId} {cs cs':List SV} {vs:List Value} (h:HeapF X [(0,.row e cs)] 1 X.ids0 X.w0) {b o:Nat} {arr arr':Array Value} (hid:X.ids0 0=some (b,o)) (hw:X.w0.heap[b]? = some (.cells arr e (0,0))) (hl:o+cs.length≤arr.size)
  (hc':cs'=vs.map SV.v) (hlen:cs'.length=cs.length) {w':World} (hz:X.w0.heap.size≤w'.heap.size) (hb:∀ c,c<X.w0.heap.size→c≠b→w'.heap[c]? = X.w0.heap[c]?) (hw':w'.heap[b]? = some (.cells arr' e (0,0))) (hs:arr'.size=arr.size)
  (hv:∀ j,j<vs.length→arr'.getD (o+j) undef=vs.getD j undef) (h1:w'.os=X.w0.os) (h2:w'.tape=X.w0.tape) (h3:w'.output=X.w0.output) (h4:X.w0.drawn≤w'.drawn):HeapF X [(0,.row e cs')] 1 X.ids0 w':=by
 have ht:=heap_turn h.toX (k:=0) (cs:=cs) (cs':=cs') rfl hid hw hs (by rw [hlen];exact hl) (by rw [hlen];exact Nat.le_refl _) (fun i x hi=>by
  subst hc';rw [List.getElem?_map] at hi;cases hvi:vs[i]? with
  | none=>rw [hvi] at hi;cases hi
  | some u =>
   rw [hvi] at hi;cases hi;rw [hv i (List.getElem?_eq_some_iff.1 hvi).1,List.getD_eq_getElem?_getD,hvi];exact .v)
 have hat:=setRow_heap X.w0 b arr arr' e (0,0) hw;have ho:=heap_on ht.1 (w':=w') (by simpa [World.setRow] using hz) (fun c hc=>by
  have hc':c<X.w0.heap.size:=by simpa [World.setRow] using hc
  by_cases e1:c=b
  ·subst e1;rw [hw',hat]
  ·rw [hb c hc' e1,setRow_other _ _ _ _ e1]) (by rw [h1];rfl) (by rw [h2];rfl) (by rw [h3];rfl) h4
 refine ⟨ho.1.congr ?_,fun k hk=>?_,h.m_le⟩
 ·funext j;match j with
  | .t 0=>rfl
  | .t (j+1)=>rfl
  | .s F i=>rfl
 ·match k,hk with
  | .t (j+1),_=>rfl
  | .s F i,_=>rfl
theorem heap_modify_get (w:World) (blk c:Nat) (f:Array Value→Array Value) (h:c≠blk):(Go.Sort.mapBlock w blk f).heap[c]? = w.heap[c]?:=by
 unfold Go.Sort.mapBlock;simp only [Array.getElem?_modify];rw [if_neg (fun e=>h e.symm)]
theorem fl_vals (xs:List Int):fl xs=(xs.map (Value.int .i64)).map SV.v:=by
 induction xs with
 | nil=>rfl
 | cons x xs ih=>rw [fl_cons,ih];rfl
end Go.Sx
end

section
namespace Go.Sx
open Go.RowKit
set_option linter.unusedVariables false
set_option linter.unusedSimpArgs false
variable {P:Program}
def sortF {α:Type} [Inhabited α] (cf:α→α→Int) (xs:List α):List α:=(Go.Sort.pdq (Go.Proofs.ltOf cf) xs.toArray 0 xs.length (Go.Lib.bitLen xs.length) true true).toList
theorem sortF_perm {α:Type} [Inhabited α] {cf:α→α→Int} (hO:Go.Sort.SWO (Go.Proofs.ltOf cf)) (xs:List α):(sortF cf xs).Perm xs∧∀ i j,i<j→j<xs.length→Go.Proofs.ltOf cf (sortF cf xs)[j]! (sortF cf xs)[i]! = false:=by
 obtain ⟨h1,h2⟩:=Go.Sort.pdq_sorts (Go.Proofs.ltOf cf) hO xs.toArray 0 xs.length (Go.Lib.bitLen xs.length) true true (Nat.zero_le _) (by simp) (Or.inl rfl);unfold sortF;generalize Go.Sort.pdq (Go.Proofs.ltOf cf) xs.toArray 0 xs.length (Go.Lib.bitLen xs.length) true true=d at *;obtain ⟨a1,a2,a3⟩:=h1;constructor
 ·have e1:d.extract 0 xs.length=d:=by
   rw [show xs.length=d.size by simpa using a1.symm];simp
  have e2:xs.toArray.extract 0 xs.length=xs.toArray:=by simp
  rw [e1,e2] at a3;simpa using a3
 ·intro i j hij hj;have:=h2 i j (Nat.zero_le _) hij hj;have hs:d.size=xs.length:=by simpa using a1
  simpa [hs,hj,show i<xs.length by omega] using this
theorem sortF_len {α:Type} [Inhabited α] {cf:α→α→Int} (hO:Go.Sort.SWO (Go.Proofs.ltOf cf)) (xs:List α):(sortF cf xs).length=xs.length:=(sortF_perm hO xs).1.length_eq
end Go.Sx
end

section
namespace Go.Sx
open Go.RowKit
set_option linter.unusedVariables false
set_option linter.unusedSimpArgs false
variable {P:Program}
theorem heap_ahead {w w':World} (hz:w.heap.size≤w'.heap.size) (hb:∀ b,b<w.heap.size→w'.heap[b]? = w.heap[b]?) (h1:w'.os=w.os) (h2:w'.tape=w.tape) (h3:w'.output=w.output) (h4:w.drawn≤w'.drawn):∃ q os',w'=Go.Sort.grow (w.drewN q) os':=by
 refine ⟨w'.drawn-w.drawn,w'.heap.extract w.heap.size w'.heap.size,?_⟩;have e:w'.heap=w.heap++w'.heap.extract w.heap.size w'.heap.size:=by
  apply Array.ext_getElem?;intro i;rw [Array.getElem?_append];split
  ·rename_i h;exact hb i h
  ·rename_i h;rw [Array.getElem?_extract];simp only [Nat.min_self];split
   ·congr 1;omega
   ·rename_i h5;exact Array.getElem?_eq_none (by omega)
 cases w' with
 | mk hp tp dr os out =>
  simp only at e h1 h2 h3 h4;subst h1;subst h2;subst h3;unfold Go.Sort.grow World.drewN;simp only;rw [←e];congr 1;omega
theorem spec_grow {f:FuncId} {args:List SV} {x:Value} (spec:SpecW P f args [] 0 (fun r h n=>r = .v x∧h=[]∧n=0)) (W:World) (I0:Nat→Prop) (hI:∀ b,I0 b→b<W.heap.size) (gl:TabOk P I0 W) (vals:Array Value) (hs:vals.size=args.length)
  (hd:∀ i s,args[i]? = some s→Den P (getH []) (fun _=>none) (fun b=>I0 b) W s (vals.getD i undef)):Calls P f vals W fun e w'=>e = .returned x∧∃ q os',w'=Go.Sort.grow (W.drewN q) os':=by
 let X:Cx:={ gl:=gl,P:=P,w0:=W,I0:=I0,W0:=fun _=>False,m:=0,ids0:=fun _=>none,C0:=fun _=>.unborn };have hIm:∀ b,I0 b→Im W I0 (fun _=>False) (getH []) (fun _=>none) W b:=fun b hb=>⟨.inl hb,hI b hb,fun k hk=>by cases hk⟩;have hH:HeapF X [] 0 X.ids0 X.w0:=⟨⟨⟨fun k=>trivial,(fun k k' b o o' hl=>by cases hl),(fun k b o hl=>by cases hl),fun b hb=>⟨hI b hb,fun h=>h⟩,fun b _ _=>rfl,rfl,⟨rfl,Nat.le_refl _⟩,rfl,Nat.le_refl _⟩,fun k hk=>absurd hk (Nat.not_lt_zero _),fun k hk=>absurd hk (Nat.not_lt_zero _)⟩,fun k _=>rfl,Nat.le_refl _⟩;refine (spec.2 X vals rfl rfl hH hs fun i s hi=>?_).mono fun e W' he=>?_
 ·have:=hd i s hi;refine this.mono (I:=fun b=>I0 b) ⟨fun b hb=>⟨hIm b hb,rfl⟩,(fun k hk=>by cases hk),(fun k hk=>by cases hk)⟩
 obtain ⟨r,res,hp',nx',ids',rfl,⟨rfl,_,_⟩,hF,hd⟩:=he;rw [den_v hd];exact ⟨rfl,heap_ahead hF.st.size (fun b hb=>hF.st.evol b hb (fun h=>h)) hF.st.os hF.st.tape.1 hF.st.output hF.st.tape.2⟩
abbrev Rg (n:Nat):={ x:Int // 1≤x∧x≤(n:Int) }
def rgs (n:Nat) (xs:List Int) (h:∀ x∈xs,1≤x∧x≤(n:Int)):List (Rg n):=xs.attach.map fun x=>⟨x.1,h x.1 x.2⟩
theorem rgs_val (n:Nat) (xs:List Int) (h):(rgs n xs h).map (·.1)=xs:=by
 unfold rgs;rw [List.map_map];exact List.attach_map_subtype_val xs
noncomputable def sortC (n:Nat) (cf:Int→Int→Int) (xs:List Int):List Int:=open Classical in
 if h:(∀ x∈xs,1≤x∧x≤(n:Int))∧xs≠[] then
  have:Inhabited (Rg n):=⟨⟨xs.head h.2,h.1 _ (List.head_mem h.2)⟩⟩
  (sortF (α:=Rg n) (fun a b=>cf a.1 b.1) (rgs n xs h.1)).map (·.1)
 else []
theorem sortC_eq {n:Nat} {cf:Int→Int→Int} {xs:List Int} (h:∀ x∈xs,1≤x∧x≤(n:Int)) [I:Inhabited (Rg n)] (hne:xs≠[]):sortC n cf xs=(@sortF (Rg n) ⟨⟨xs.head hne,h _ (List.head_mem hne)⟩⟩ (fun a b=>cf a.1 b.1) (rgs n xs h)).map (·.1):=by
 unfold sortC;rw [dif_pos ⟨h,hne⟩]
theorem sortC_nil (n:Nat) (cf:Int→Int→Int):sortC n cf []=[]:=by
 unfold sortC;rw [dif_neg (by simp)]
theorem sortC_perm {n:Nat} {cf:Int→Int→Int} {xs:List Int} (h:∀ x∈xs,1≤x∧x≤((n:Nat):Int)) (hO:Go.Sort.SWO (Go.Proofs.ltOf fun (a b:Rg n)=>cf a.1 b.1)) :
  (sortC n cf xs).Perm xs∧∀ i j,i<j→j<xs.length→Go.Proofs.ltOf cf (sortC n cf xs)[j]! (sortC n cf xs)[i]! = false:=by
 by_cases hne:xs=[]
 ·subst hne;rw [sortC_nil];exact ⟨List.Perm.refl _,fun i j _ hj=>by simp at hj⟩
 ·let I:Inhabited (Rg n):=⟨⟨xs.head hne,h _ (List.head_mem hne)⟩⟩;rw [sortC_eq h hne];have hp:=sortF_perm hO (rgs n xs h);have hl:=hp.1.length_eq;have hlr:(rgs n xs h).length=xs.length:=by have:=congrArg List.length (rgs_val n xs h);simpa using this
  refine ⟨?_,fun i j hij hj=>?_⟩
  ·have:=hp.1.map (fun x:Rg n=>x.1);rwa [rgs_val] at this
  ·have:=hp.2 i j hij (by rw [hlr];exact hj);generalize sortF (fun a b:Rg n=>cf a.1 b.1) (rgs n xs h)=ys at *;have hi':i<ys.length:=by omega
   have hj':j<ys.length:=by omega
   rw [getElem!_pos ys j hj',getElem!_pos ys i hi'] at this;rw [getElem!_pos _ j (by simpa using hj'),getElem!_pos _ i (by simpa using hi')];simpa [Go.Proofs.ltOf] using this
theorem TabOk.on {I I':Nat→Prop} {w w':World} (h:TabOk P I w) (hI:∀ b,I b→I' b∧w'.heap[b]? = w.heap[b]?):TabOk P I' w':=fun g cs hc=>by
 obtain ⟨h1,h2⟩:=h g cs hc
 refine ⟨(hI g h1).1,fun i x hi=>?_⟩
 obtain ⟨y,h3,h4⟩:=h2 i x hi
 exact ⟨y,(cell_eq (hI g h1).2).trans h3,h4.mono (fun b hb=>(hI b hb).1) fun b hb i=>cell_eq (hI b hb).2⟩
theorem sortC_spec {f g:FuncId} {e:TypeId} (caps:List SV) (hcl:clL caps=true) (n:Nat) (cf:Int→Int→Int)
  (hfn : ∃ fn body, P.funcs[f]? = some fn ∧ fn.body = some body ∧ fn.name ≠ "runtime.NumGoroutine")
  (hS:∀ [Inhabited (Rg n)] (cb:Array Value) (blk off cap:Nat) (d:Array (Rg n)) (w:World),Go.Proofs.CmpLays1 P g cb (fun x:Rg n=>Value.int .i64 x.1) (fun a b=>cf a.1 b.1) blk off d.size w→Go.Sort.Holds (fun x:Rg n=>Value.int .i64 x.1) w blk off d→blk<w.heap.size→d.size<4611686018427387904 →
   Calls P f #[.slice (some ⟨blk,off,none⟩) d.size cap,.func (.func g) #[] cb] w fun e w'=>e = .returned (.tuple #[])∧∃ m os,w'=Go.Proofs.sortWorld (fun x:Rg n=>Value.int .i64 x.1) w blk off m (Go.Sort.pdq (Go.Proofs.ltOf fun (a b:Rg n)=>cf a.1 b.1) d 0 d.size (Go.Lib.bitLen d.size) true true) os)
  (h0:∀ (p:Option Addr) (cap:Nat) (cb:Array Value) (w:World),Calls P f #[.slice p 0 cap,.func (.func g) #[] cb] w fun e w'=>e = .returned (.tuple #[])∧w'=w)
  (hO:Go.Sort.SWO (Go.Proofs.ltOf fun (a b:Rg n)=>cf a.1 b.1))
  (hc:∀ a b:Int,1≤a∧a≤(n:Int)→1≤b∧b≤(n:Int)→SpecW P g (iS a::iS b::caps) [] 0 (fun r h m=>r=iS (cf a b)∧h=[]∧m=0))
  (xs:List Int) (hb:xs.length<4611686018427387904) (hr:∀ x∈xs,1≤x∧x≤(n:Int)) :
  SpecW P f [.own 0 0 xs.length,.clo g caps] [(0,.row e (fl xs))] 1 (fun x h n'=>x = .tup []∧h=[(0,.row e (fl (sortC n cf xs)))]∧n'=1):=by
 refine ⟨hfn,fun X vals hP hm hF hsz hd=>?_⟩
 subst hP
 obtain ⟨v0,v1,rfl⟩:∃ a b,vals = #[a,b]:=by
  obtain ⟨l⟩:=vals
  match l,hsz with
  | [a,b],_=>exact ⟨a,b,rfl⟩
 have hd0:DenX X _ X.ids0 X.w0 (.own 0 0 xs.length) v0:=hd 0 _ rfl
 have hd1:DenX X _ X.ids0 X.w0 (.clo g caps) v1:=hd 1 _ rfl
 obtain ⟨cb,rfl,hcbl,hcbd⟩:=den_clo hd1
 have hl0:(getH [(0,Chunk.row e (fl xs))] 0).live=true:=rfl
 obtain ⟨a,c,rfl,hnc,hcm,hcs0,hor⟩:=den_own hd0 hl0
 have fin:∀ w',HeapF X [(0,.row e (fl (sortC n cf xs)))] 1 X.ids0 w'→∃ r res hp' nx' ids',Ending.returned (.tuple #[]) = .returned r∧(res = .tup []∧hp'=[(0,.row e (fl (sortC n cf xs)))]∧nx'=1)∧HeapF X hp' nx' ids' w'∧DenX X hp' ids' w' res r :=
  fun w' hF'=>⟨_,_,_,_,X.ids0,rfl,⟨rfl,rfl,rfl⟩,hF',.tup _ rfl fun i x hi=>by simp at hi⟩
 by_cases hn:xs.length=0
 ·have hx:xs=[]:=List.length_eq_zero_iff.1 hn
  subst hx
  refine (h0 a c cb X.w0).mono ?_
  rintro ex w' ⟨rfl,rfl⟩
  exact fin _ (by rw [sortC_nil];exact hF)
 ·have hne:xs≠[]:=fun h=>hn (by rw [h];rfl)
  let I:Inhabited (Rg n):=⟨⟨xs.head hne,hr _ (List.head_mem hne)⟩⟩
  rcases hor with ⟨h,_⟩|⟨b,o,e',cs,arr,hC,hid,rfl,hw,hsz2⟩
  ·exact absurd h hn
  ·have hC':Chunk.row e (fl xs) = .row e' cs:=hC
   cases hC'
   have hch:=hF.st.ch 0
   have hgc:getH [(0,Chunk.row e (fl xs))] 0 = .row e (fl xs):=rfl
   rw [hgc] at hch
   simp only [DenC,hid] at hch
   obtain ⟨arr',ha,hl,hx⟩:=hch
   rw [hw] at ha;cases ha
   have hfl:(fl xs).length=xs.length:=by rw [fl_length];exact Nat.mul_one _
   have hcell:∀ j,(hj:j<xs.length)→arr.getD (o+j) undef = .int .i64 xs[j]:=fun j hj=>by
    have h2:(fl xs)[j]? = some (.v (.int .i64 xs[j])):=by rw [fl_vals];simp [hj]
    exact den_v (hx j _ h2)
   let d:Array (Rg n):=(rgs n xs hr).toArray
   have hdl:(rgs n xs hr).length=xs.length:=by have:=congrArg List.length (rgs_val n xs hr);simpa using this
   have hds:d.size=xs.length:=by simp [d,hdl]
   have hdv:∀ j (hj:j<xs.length),((rgs n xs hr)[j]'(by omega)).1=xs[j]:=fun j hj=>by
    have:=congrArg (fun l=>l[j]?) (rgs_val n xs hr)
    simpa [hj,hdl] using this
   have hH:Go.Sort.Holds (fun x:Rg n=>Value.int .i64 x.1) X.w0 b (o+0) d:=fun j hj=>by
    have hj':j<xs.length:=by rw [←hds];exact hj
    have h1:=hcell j hj'
    constructor
    ·simp only [World.cell?,hw]
     rw [Array.getD_eq_getD_getElem?,Array.getElem?_eq_getElem (by omega)] at h1
     simp only [Nat.add_zero]
     simp only [Option.getD_some] at h1
     have hg:d[j]! = (rgs n xs hr)[j]'(by omega):=by
      rw [getElem!_pos d j hj];simp [d]
     rw [hg,hdv j hj']
     simp [Array.getElem?_eq_getElem (show o+j<arr.size by omega),h1]
    ·simp [World.frozen?,hw]
   have hblk:=(hF.st.lt 0 b o hl0 hid).1
   -- what the closure may look at
   let I0:Nat→Prop:=Im X.w0 X.I0 X.W0 (getH [(0,Chunk.row e (fl xs))]) X.ids0 X.w0
   have hIb:∀ q,I0 q→q<X.w0.heap.size∧q≠b:=fun q hq=>⟨hq.2.1,fun e=>by subst e;exact hq.2.2 0 hl0 o hid⟩
   have hsame:∀ (m:Nat) (os:Array Obj) (dk:Array (Rg n)) (q:Nat),I0 q→(Go.Proofs.sortWorld (fun x:Rg n=>Value.int .i64 x.1) X.w0 b (o+0) m dk os).heap[q]? = X.w0.heap[q]?:=fun m os dk q hq=>by
    obtain ⟨h1,h2⟩:=hIb q hq
    unfold Go.Proofs.sortWorld Go.Sort.grow
    simp only
    have hps:(Go.Sort.putRow (fun x:Rg n=>Value.int .i64 x.1) (Go.Sort.ahead X.w0 m) b (o+0) dk).heap.size=X.w0.heap.size:=by
     unfold Go.Sort.putRow Go.Sort.mapBlock Go.Sort.ahead
     simp
    rw [Array.getElem?_append_left (by rw [hps];exact h1)]
    exact heap_modify_get _ _ _ _ h2
   have hsz':∀ (m:Nat) (os:Array Obj) (dk:Array (Rg n)),X.w0.heap.size≤(Go.Proofs.sortWorld (fun x:Rg n=>Value.int .i64 x.1) X.w0 b (o+0) m dk os).heap.size:=fun m os dk=>by
    unfold Go.Proofs.sortWorld Go.Sort.grow Go.Sort.putRow Go.Sort.mapBlock Go.Sort.ahead
    simp
   have hX0:∀ q,X.I0 q→I0 q:=fun q hq=>by
    obtain ⟨h1,h2⟩:=hF.st.im0 q hq
    refine ⟨.inl hq,h1,fun k hk o' hi=>?_⟩
    rcases (hF.st.lt k q o' hk hi).2 with h3|h3
    ·exact h2 h3
    ·omega
   have hcmp:Go.Proofs.CmpLays1 X.P g cb (fun x:Rg n=>Value.int .i64 x.1) (fun a b=>cf a.1 b.1) b (o+0) d.size X.w0:=fun m os dk hk x y=>by
    refine spec_grow (hc x.1 y.1 x.2 y.2) _ I0 (fun q hq=>Nat.lt_of_lt_of_le (hIb q hq).1 (hsz' m os dk)) (X.gl.on fun q hq=>⟨hX0 q hq,hsame m os dk q (hX0 q hq)⟩) _ (by simp [hcbl];omega) fun i s hi=>?_
    match i,hi with
    | 0,hi =>
     simp at hi;subst hi
     rw [Array.getD_eq_getD_getElem?,Array.getElem?_append_left (by simp)];exact .v
    | 1,hi =>
     simp at hi;subst hi
     rw [Array.getD_eq_getD_getElem?,Array.getElem?_append_left (by simp)];exact .v
    | i+2,hi =>
     have hi':caps[i]? = some s:=by simpa using hi
     have:=den_cl (C':=getH []) (ids':=fun _=>none) (I':=I0) (w':=Go.Proofs.sortWorld (fun x:Rg n=>Value.int .i64 x.1) X.w0 b (o+0) m dk os) (fun q hq=>⟨hq,hsame m os dk q hq⟩) (hcbd i s hi') (clL_get hcl i s hi')
     have e1:(#[Value.int .i64 x.1,Value.int .i64 y.1]++cb).getD (i+2) undef=cb.getD i undef:=by
      rw [Array.getD_eq_getD_getElem?,Array.getD_eq_getD_getElem?,Array.getElem?_append_right (by simp)]
      simp
     rw [e1];exact this
   have hcall:=hS cb b (o+0) c d X.w0 hcmp hH hblk (by rw [hds];exact hb)
   rw [hds] at hcall
   refine hcall.mono ?_
   rintro ex w' ⟨rfl,m,os,rfl⟩
   refine fin _ ?_
   have hpq:Go.Sort.pdq (Go.Proofs.ltOf fun (a b:Rg n)=>cf a.1 b.1) d 0 xs.length (Go.Lib.bitLen xs.length) true true=(sortF (fun (a b:Rg n)=>cf a.1 b.1) (rgs n xs hr)).toArray:=by unfold sortF;simp [hdl,d]
   rw [hpq]
   have hse:=sortC_eq (cf:=cf) hr hne
   generalize hys:sortF (fun (a b:Rg n)=>cf a.1 b.1) (rgs n xs hr)=ys at hse
   have hyl:ys.length=xs.length:=by rw [←hys,sortF_len hO,hdl]
   have hsl:(sortC n cf xs).length=xs.length:=by rw [hse];simp [hyl]
   have hm:(Go.Sort.putRow (fun x:Rg n=>Value.int .i64 x.1) (Go.Sort.ahead X.w0 m) b (o+0) ys.toArray).heap[b]? = some (.cells (Go.Sort.putCells (fun x:Rg n=>Value.int .i64 x.1) (o+0) ys.toArray arr) e (0,0)):=by
    unfold Go.Sort.putRow Go.Sort.mapBlock Go.Sort.ahead
    simp only [Array.getElem?_modify,if_true,hw,Option.map_some]
    rfl
   have hps:(Go.Sort.putRow (fun x:Rg n=>Value.int .i64 x.1) (Go.Sort.ahead X.w0 m) b (o+0) ys.toArray).heap.size=X.w0.heap.size:=by
    unfold Go.Sort.putRow Go.Sort.mapBlock Go.Sort.ahead
    simp
   unfold Go.Proofs.sortWorld
   refine row_sorted hF (vs:=(sortC n cf xs).map (Value.int .i64)) hid hw hl (fl_vals _) (by rw [fl_length,fl_length,hsl]) ?_ (fun q hq hqb=>?_) (arr':=Go.Sort.putCells (fun x:Rg n=>Value.int .i64 x.1) (o+0) ys.toArray arr) ?_ ?_ (fun j hj=>?_) rfl rfl rfl (Nat.le_add_right _ _)
   ·unfold Go.Sort.grow
    simp only [Array.size_append,hps];omega
   ·unfold Go.Sort.grow
    simp only
    rw [Array.getElem?_append_left (by rw [hps];exact hq)]
    exact heap_modify_get _ _ _ _ hqb
   ·unfold Go.Sort.grow
    simp only
    rw [Array.getElem?_append_left (by rw [hps];exact hblk)]
    exact hm
   ·simp [Go.Sort.putCells]
   ·have hj':j<xs.length:=by simpa [hsl] using hj
    have hjy:j<ys.length:=by omega
    simp only [Go.Sort.putCells,Array.getD_eq_getD_getElem?,Array.getElem?_mapIdx,Nat.add_zero]
    rw [Array.getElem?_eq_getElem (show o+j<arr.size by omega)]
    simp [hjy,hse,List.getD_eq_getElem?_getD]
end Go.Sx
end

section
namespace Go.Sx
open Go.RowKit
set_option linter.unusedVariables false
set_option linter.unusedSimpArgs false
variable {P:Program} {fr:Fr} {hp:Hp} {nx:Nat} {ops:Array Oper}
def VArr.cut {n:Nat} (A:VArr n) (a b:Int):List Int:=(A.l.drop a.toNat).take (b.toNat-a.toNat)
theorem VArr.cut_len {n:Nat} (A:VArr n) {a b:Int} (h:0≤a∧a≤b∧b≤(n:Int)):(A.cut a b).length=b.toNat-a.toNat:=by
 have:=A.h;simp only [VArr.cut,List.length_take,List.length_drop];omega
end Go.Sx
end

section
namespace Go.Sx
open Go.RowKit
set_option linter.unusedVariables false
set_option linter.unusedSimpArgs false
def svV:SV→Value
 | .v x=>x
 | _=>undef
class KeyE (K:Type) [Enc K] [DecidableEq K] where
 L:List TypeDesc
 op:∀ k:K,plainA (Enc.cells k)=some ((Enc.cells k).map svV)
 fits:∀ k:K,leavesV L ((Enc.cells k).map svV)=true
 eq:∀ a b:K,eqLs ((Enc.cells a).map svV) ((Enc.cells b).map svV)=(a==b)
variable {K:Type} [Enc K] [DecidableEq K] [KeyE K]
def kV (k:K):Value:=.agg ((Enc.cells k).map svV).toArray
def mE (m:List (K×Int)):List (Value×SV):=m.map fun p=>(kV p.1,.v (.int .i64 p.2))
omit [DecidableEq K] [KeyE K] in
theorem stM_mE (m:List (K×Int)):stM (mE m)=true:=by
 induction m with
 | nil=>rfl
 | cons p r ih=>simp only [mE,List.map_cons,stM,SV.st,Bool.true_and];exact ih
omit [DecidableEq K] [KeyE K] in
@[push_cast] theorem ren_mE (τ:Nm→Nm) (m:List (K×Int)):(mE m).map (fun p=>(p.1,renS τ p.2))=mE m:=by
 simp [mE,renS,Function.comp_def]
attribute [push_cast] stM_mE
omit [DecidableEq K] [KeyE K] in
@[push_cast] theorem mE_nil:mE ([]:List (K×Int))=[]:=rfl
end Go.Sx
end

section
namespace Go.Sx
open Go.RowKit
set_option linter.unusedVariables false
set_option linter.unusedSimpArgs false
variable {P:Program} {fr:Fr} {hp:Hp} {nx:Nat} {ops:Array Oper}
variable {n:Nat}
theorem VArr.vals (a:VArr n):(Enc.cells a).map svV=a.l.map fun x=>Value.int .i64 x:=by
 show (VArr.cells a).map svV=_;rw [VArr.cells_fl,List.map_map];rfl
end Go.Sx
end

section
namespace Go.Sx
open Go.RowKit
set_option linter.unusedVariables false
set_option linter.unusedSimpArgs false
structure PT (α:Type) where
 x:α
instance {α:Type} [Enc α]:Inhabited (PT α):=⟨⟨default⟩⟩
instance {α:Type} [Enc α]:Enc (PT α):=⟨1,fun p=>[.iptr (Enc.cells p.x) 0],fun _=>rfl,fun _=>rfl,fun p=>by simp only [stL,SV.st,Enc.stc,Bool.and_self]⟩
@[push_cast] theorem sz_PT {α:Type} [Enc α]:Enc.sz (PT α)=1:=rfl
@[push_cast] theorem cells_PT {α:Type} [Enc α] (p:PT α):Enc.cells p=[.iptr (Enc.cells p.x) 0]:=rfl
theorem fl_PT {α:Type} [Enc α] (ys:List α):fl (ys.map PT.mk)=ys.map fun y=>SV.iptr (Enc.cells y) 0:=by
 induction ys with
 | nil=>rfl
 | cons y ys ih=>rw [List.map_cons,fl_cons,ih];rfl
variable {α:Type} [Enc α] {hp hp':Hp} {σ:List (Nm×Nm)} {frz:List Nm}
theorem leS_frzPt {k:Nm} {n n':Nat} (t:TypeId) (F:Nat) (ys:List α) (h:n=ys.length∧n'=ys.length∧memN frz k=true∧rowIs (getH hp k) (flP F ys.length)∧memN frz (.s F 0)=true∧getE hp (.s F 0) = .fam (famP t ys)):leS hp hp' σ frz (.own k 0 n) (.sl n' (fl (ys.map PT.mk)))=True:=by
 obtain ⟨rfl,rfl,h2,h3,h4,h5⟩:=h;refine eq_true ?_;simp only [leS];refine ⟨trivial,memN_mem h2,?_⟩;cases hk:getH hp k with
 | row e cs =>
  rw [hk] at h3;simp only [rowIs] at h3;subst h3;have hl:(fl (ys.map PT.mk)).length=ys.length:=by rw [fl_PT,List.length_map]
  refine ⟨e,flP F ys.length,ys.length,rfl,fun h0=>h0,.inr ⟨fl (ys.map PT.mk),by rw [hl,flP_length];exact Nat.le_refl _,fun P i x y hx hy=>?_,?_⟩⟩
  ·rw [fl_PT,List.getElem?_map] at hy;unfold flP at hx;rw [List.getElem?_map] at hx;obtain ⟨z,hz,rfl⟩:=Option.map_eq_some_iff.1 hy;obtain ⟨j,hj,rfl⟩:=Option.map_eq_some_iff.1 hx;obtain ⟨hi,hzz⟩:=List.getElem?_eq_some_iff.1 hz;obtain ⟨_,hjj⟩:=List.getElem?_eq_some_iff.1 hj;have ej:j=i:=by rw [←hjj];simp
   subst ej;have hg:=getE_fam h5 (j:Int);rw [at_famP,famP_in ⟨by omega,by omega⟩] at hg;have hx2:ix ys (j:Int)=z:=by
    unfold ix;rw [List.getD_eq_getElem?_getD,Int.toNat_natCast,hz];rfl
   rw [hx2] at hg;have hm:InK frz (.s F (j:Int)):=by
    obtain ⟨q,hq,he⟩:=memN_mem h4;exact ⟨q,hq,he⟩
   exact .fptr hg hm (Nat.le_refl _) fun a b c hb hc=>by
    rw [hb] at hc;cases hc;exact .cl (clL_get (stL_clL (Enc.stc z)) a b hb)
  ·rw [appCells,List.drop_zero,←hl,List.take_length]
 | _=>rw [hk] at h3;exact h3.elim
end Go.Sx
end
