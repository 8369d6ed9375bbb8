/-
 Lemmas, put together: QA, QB, QC, codeJ, codeK, codeL.
 No conditions.
-/
import Derived.Test.YtdckaaiidagodaaDoorcodeA3
import Derived.Test.YtdckaaiidagodaaDoorcodeG
set_option linter.unusedSimpArgs false
set_option linter.unusedVariables false
set_option linter.unusedSectionVars false
section
namespace Go.Sx
open Go
set_option linter.unusedVariables false
theorem wrap_id {x:Int} (h1:-9223372036854775808≤x) (h2:x≤9223372036854775807):IntKind.i64.wrap x = x:=by
 simp only [IntKind.wrap,IntKind.bits,IntKind.signed,if_true]
 simp
 omega
theorem loopO_inv {S ρ:Type} {step:S→Option (S ⊕ ρ)} (I:S→Prop) (mu:S→Nat) (Post:ρ→Prop)
  (hs:∀ s,I s→(∃ s',step s = some (.inl s')∧I s'∧mu s' < mu s)∨(∃ r,step s = some (.inr r)∧Post r)) {s0:S} (h0:I s0):∃ r,loopO step s0 = some r∧Post r:=by
 have gen:∀ (n:Nat) (s:S),mu s≤n→I s→∃ r,loopO step s = some r∧Post r:=by
  intro n
  induction n with
  | zero =>
   intro s hm hi
   rcases hs s hi with ⟨s',_,_,h3⟩ | ⟨r,h1,h2⟩
   ·omega
   ·exact ⟨r,loopO_inr h1,h2⟩
  | succ n ih =>
   intro s hm hi
   rcases hs s hi with ⟨s',h1,h2,h3⟩ | ⟨r,h1,h2⟩
   ·rw [loopO_inl h1]; exact ih s' (by omega) h2
   ·exact ⟨r,loopO_inr h1,h2⟩
 exact gen _ s0 (Nat.le_refl _) h0
def firstAt {β:Type} (bad:Nat→Option β):Nat→Option β
 | 0=>none
 | n+1=>(firstAt bad n).or (bad n)
theorem firstAt_none {β:Type} {f:Nat→Option β}:∀ (n:Nat),firstAt f n = none↔∀ i,i < n→f i = none
 | 0=>by simp [firstAt]
 | n+1=>by
  simp only [firstAt,Option.or_eq_none_iff,firstAt_none n]
  constructor
  ·rintro ⟨h1,h2⟩ i hi
   by_cases h:i = n
   ·subst h; exact h2
   ·exact h1 i (by omega)
  ·exact fun h=>⟨fun i hi=>h i (by omega),h n (by omega)⟩
theorem firstAt_some {β:Type} {f:Nat→Option β} {b:β}:∀ (n:Nat),firstAt f n = some b→∃ i,i < n∧f i = some b∧∀ j,j < i→f j = none
 | 0,h=>by simp [firstAt] at h
 | n+1,h=>by
  simp only [firstAt] at h
  cases hf:firstAt f n with
  | some c =>
   rw [hf] at h
   obtain ⟨i,h1,h2,h3⟩:=firstAt_some n hf
   simp only [Option.some_or] at h
   exact ⟨i,by omega,by rw [h2,h],h3⟩
  | none =>
   rw [hf] at h
   simp only [Option.none_or] at h
   exact ⟨n,by omega,h,fun j hj=>(firstAt_none n).1 hf j hj⟩
theorem loopO_find {S ρ:Type} {step:S→Option (S ⊕ ρ)} (E:Nat→S) (bad:Nat→Option ρ) (rest:Option ρ) (n:Nat)
  (h1:∀ i,i < n→bad i = none→step (E i) = some (.inl (E (i+1)))) (h2:∀ i r,i < n→bad i = some r→step (E i) = some (.inr r)) (h3:(∀ i,i < n→bad i = none)→step (E n) = rest.map .inr) :
  loopO step (E 0) = match firstAt bad n with
   | some r=>some r
   | none=>rest:=by
 have walk:∀ k,k≤n→(∀ i,i < k→bad i = none)→loopO step (E 0) = loopO step (E k):=by
  intro k
  induction k with
  | zero=>exact fun _ _=>rfl
  | succ k ih =>
   intro hk hb
   rw [ih (by omega) fun i hi=>hb i (by omega),loopO_inl (h1 k (by omega) (hb k (by omega)))]
 cases hf:firstAt bad n with
 | none =>
  have hb:=(firstAt_none n).1 hf
  rw [walk n (Nat.le_refl _) hb,loopO_out (h3 hb)]
 | some r =>
  obtain ⟨i,g1,g2,g3⟩:=firstAt_some n hf
  rw [walk i (by omega) g3,loopO_inr (h2 i r g1 g2)]
theorem loopO_all {S ρ:Type} {step:S→Option (S ⊕ ρ)} (E:Nat→S) (rest:Option ρ) (n:Nat)
  (h1:∀ i,i < n→step (E i) = some (.inl (E (i+1)))) (h3:step (E n) = rest.map .inr):loopO step (E 0) = rest:=by
 have:=loopO_find E (fun _=>none) rest n (fun i hi _=>h1 i hi) (fun i r _ h=>by cases h) (fun _=>h3)
 rw [this,(firstAt_none n).2 fun _ _=>rfl]
theorem ix_get {α:Type} [Enc α] {xs:List α} {i:Nat} (h:i < xs.length):ix xs (i:Int) = xs[i]:=by
 simp [ix,List.getD_eq_getElem?_getD,h]
end Go.Sx
end

section
namespace Go.Sx
variable {α:Type}
end Go.Sx
end

section
namespace Go.Sx
def toldOr {S ρ:Type} (o:Option ρ) (s:S):Option (S ⊕ ρ):=match o with
 | some r=>some (.inr r)
 | none=>some (.inl s)
@[simp] theorem toldOr_some {S ρ:Type} (r:ρ) (s:S):toldOr (some r) s = some (.inr r):=rfl
@[simp] theorem toldOr_none {S ρ:Type} (s:S):toldOr (none:Option ρ) s = some (.inl s):=rfl
end Go.Sx
end

section
namespace Go.Proofs.YtdckaaiidagodaaDoor
open Go Go.Sx
set_option linter.unusedVariables false
set_option linter.unusedSimpArgs false
noncomputable section
theorem wrapJ {n:Nat} (h:n < 1000000):IntKind.i64.wrap ((n:Int)+1) = ((n+1:Nat):Int):=by
 rw [wrap_id (by omega) (by omega)]; omega
theorem splitB_size (sep:ByteArray):∀ (k:Nat) (s x:ByteArray),x ∈ Lib.splitB sep 0 k s→x.size≤s.size:=by
 intro k
 induction k with
 | zero=>intro s x hx; rw [Lib.splitB_zero] at hx; simp only [List.mem_singleton] at hx; rw [hx]; exact Nat.le_refl _
 | succ k ih =>
  intro s x hx
  rcases Lib.indexB_cases s sep with h | ⟨i,h,hr⟩
  ·rw [Lib.splitB_miss _ _ _ _ h] at hx; simp only [List.mem_singleton] at hx; rw [hx]; exact Nat.le_refl _
  ·rw [Lib.splitB_hit _ _ _ _ i h] at hx
   rcases List.mem_cons.1 hx with rfl | hx
   ·rw [ByteArray.size_extract]; omega
   ·have:=ih _ _ hx
    rw [ByteArray.size_extract] at this; omega
theorem name_zero:(ix codeKinds (0:Int)).name = ByteArray.empty:=rfl
theorem indexF (xs:List ByteArray) (hx:xs≠[]):∃ r,slices_IndexFunc_kind codeKinds xs = some r∧(r = -1∨1≤r∧r < 23):=by
 have hl:0 < xs.length:=List.length_pos_iff.2 hx
 unfold slices_IndexFunc_kind
 refine loopO_inv (fun i:Int=>0≤i∧i≤23) (fun i=>(23 - i).toNat) (fun r=>r = -1∨1≤r∧r < 23) (fun i hi=>?_) (by omega)
 have hk:codeKinds.length = 23:=rfl
 unfold slices_IndexFunc_kind_l1 code_line_1
 have e1:decide ((0:Int) < (xs.length:Int)) = true:=by simp; omega
 by_cases h:i < 23
 ·have e0:decide (i < (codeKinds.length:Int)) = true:=by rw [hk]; simpa using h
  have e2:decide ((0:Int)≤i) = true:=by simpa using hi.1
  simp only [e0,e1,e2,Bool.and_self,cond_true,Option.bind_some]
  cases hc:(decide ((ix codeKinds i).name = ix xs 0) && !decide ((ix codeKinds i).name = ByteArray.empty)) with
  | true =>
   refine .inr ⟨i,rfl,.inr ⟨?_,h⟩⟩
   have:i≠0:=fun e=>by
    rw [e,name_zero] at hc
    simp at hc
   omega
  | false =>
   obtain ⟨n,rfl⟩:=Int.eq_ofNat_of_zero_le hi.1
   exact .inl ⟨_,rfl,by rw [show IntKind.i64.wrap ((n:Int)+1) = ((n+1:Nat):Int) from wrapJ (by omega)]; omega,by rw [show IntKind.i64.wrap ((n:Int)+1) = ((n+1:Nat):Int) from wrapJ (by omega)]; omega⟩
 ·have e0:decide (i < (codeKinds.length:Int)) = false:=by rw [hk]; simpa using h
  simp only [e0,cond_false]
  exact .inr ⟨-1,rfl,.inl rfl⟩
theorem letter_tot (k:Int):∃ r,code_letter k = some r:=by
 unfold code_letter code_letter_j1
 (repeat' (rw [Bool.cond_eq_ite]; split)) <;> exact ⟨_,rfl⟩
theorem cutP_tot (s p:ByteArray):∃ r,strings_CutPrefix s p = some r∧r.1.size≤s.size:=by
 unfold strings_CutPrefix stringslite_CutPrefix stringslite_HasPrefix
 by_cases h:p.size≤s.size
 ·have e1:decide ((p.size:Int)≤(s.size:Int)) = true:=by simp; omega
  have e2:decide ((0:Int)≤(p.size:Int)) = true:=by simp
  simp only [e1,e2,Bool.and_self,Bool.or_true,cond_true,Option.bind_some,Bool.true_and]
  cases decide (s.extract ((0:Int)).toNat ((p.size:Int)).toNat = p) with
  | false=>exact ⟨_,rfl,Nat.le_refl _⟩
  | true=>exact ⟨_,rfl,by show (s.extract _ _).size≤_; rw [ByteArray.size_extract]; omega⟩
 ·have e1:decide ((p.size:Int)≤(s.size:Int)) = false:=by simp; omega
  simp only [e1,Bool.not_false,Bool.true_or,cond_true,Option.bind_some,Bool.false_and]
  exact ⟨_,rfl,Nat.le_refl _⟩
theorem atoiV_in (s:ByteArray) (h:atoiK s = true):-9223372036854775808≤atoiV s∧atoiV s≤9223372036854775807:=by
 unfold atoiK at h
 unfold atoiV
 cases ha:Lib.atoiAll s.data.toList with
 | ok v=>exact Lib.atoiAll_bounds ha
 | range=>rw [ha] at h; cases h
 | _=>rw [ha] at h; cases h
theorem args_two:∀ k:Nat,k < 23→((ix codeKinds ((k:Nat):Int)).args).size = 2∨k = 0:=by decide
abbrev LnS:=Int×Int×Int×(List Int)×(List ByteArray)
theorem line_step (N:Nat) (hN:N < 4294967281) (s:LnS) (h:(1≤s.1∧s.1 < 23)∧(0≤s.2.1∧s.2.1≤2)∧s.2.2.2.1.length = 2∧∀ x ∈ s.2.2.2.2,x.size≤N) :
  (∃ s',code_line_l1 s = some (.inl s')∧((1≤s'.1∧s'.1 < 23)∧(0≤s'.2.1∧s'.2.1≤2)∧s'.2.2.2.1.length = 2∧∀ x ∈ s'.2.2.2.2,x.size≤N)∧(2 - s'.2.1).toNat < (2 - s.2.1).toNat)∨(∃ r,code_line_l1 s = some (.inr r)∧True):=by
 obtain ⟨op,q,c2,c3,c4⟩:=s
 obtain ⟨⟨ho1,ho2⟩,⟨hq1,hq2⟩,hc3,hc4⟩:=h
 simp only at ho1 ho2 hq1 hq2 hc3 hc4
 have hk:codeKinds.length = 23:=rfl
 have ha:((ix codeKinds op).args).size = 2:=by
  obtain ⟨k,rfl⟩:=Int.eq_ofNat_of_zero_le (show 0≤op by omega)
  rcases args_two k (by omega) with h | h
  ·exact h
  ·omega
 obtain ⟨n,rfl⟩:=Int.eq_ofNat_of_zero_le hq1
 unfold code_line_l1
 by_cases h2:(n:Int) < 2
 ·have w1:IntKind.i64.wrap ((n:Int)+1) = ((n+1:Nat):Int):=wrapJ (by omega)
  have e1:decide ((n:Int) < 2) = true:=by simpa using h2
  have e2:decide ((0:Int)≤op) = true:=by simp; omega
  have e3:decide (op < (codeKinds.length:Int)) = true:=by rw [hk]; simpa using ho2
  have e4:decide ((0:Int)≤(n:Int)) = true:=by simp
  have e5:decide ((n:Int) < ((((ix codeKinds op).args).size:Nat):Int)) = true:=by rw [ha]; simpa using h2
  have fin:∀ c3' c4',c3'.length = 2→(∀ x ∈ c4',x.size≤N)→∃ s',code_line_j1 op (n:Int) c2 c3' c4' = some (.inl s')∧((1≤s'.1∧s'.1 < 23)∧(0≤s'.2.1∧s'.2.1≤2)∧s'.2.2.2.1.length = 2∧∀ x ∈ s'.2.2.2.2,x.size≤N)∧(2 - s'.2.1).toNat < (2 - (n:Int)).toNat:=fun c3' c4' h3 h4=>by
   refine ⟨_,rfl,⟨⟨ho1,ho2⟩,⟨?_,?_⟩,h3,h4⟩,?_⟩ <;> simp only [w1] <;> omega
  simp only [e1,e2,e3,e4,e5,Bool.and_self,cond_true]
  cases ((((ix codeKinds op).args).data.getD ((n:Int)).toNat 0).toNat:Int) == 45 with
  | true=>exact .inl (fin c3 c4 hc3 hc4)
  | false =>
   simp only [cond_false]
   cases he:((c4.length:Int) == 0) with
   | true=>exact .inr ⟨_,rfl,trivial⟩
   | false =>
    have hl:0 < c4.length:=by
     have:(c4.length:Int)≠0:=by simpa using he
     omega
    have e6:decide ((0:Int) < (c4.length:Int)) = true:=by simp; omega
    have e7:decide ((1:Int)≤(c4.length:Int)) = true:=by simp; omega
    obtain ⟨lt,hlt⟩:=letter_tot ((((ix codeKinds op).args).data.getD ((n:Int)).toNat 0).toNat:Int)
    obtain ⟨cp,hcp,hcs⟩:=cutP_tot (ix c4 (0:Int)) lt
    have hx:(ix c4 (0:Int)).size≤N:=by
     have:ix c4 ((0:Nat):Int) = c4[0]:=ix_get hl
     rw [show (0:Int) = ((0:Nat):Int) from rfl,this]
     exact hc4 _ (List.getElem_mem hl)
    have hs:cp.1.size < 4294967281:=by omega
    have e8:decide ((n:Int) < (c3.length:Int)) = true:=by rw [hc3]; simpa using h2
    simp only [cond_false,e6,cond_true,hlt,Option.bind_some,hcp]
    have hcut:∀ x ∈ cut c4 (1:Int) (c4.length:Int),x.size≤N:=fun x hx=>hc4 x (List.mem_of_mem_drop (List.mem_of_mem_take hx))
    have j2:∀ v b,(∃ s',code_line_j2 op (n:Int) c2 c3 c4 v b = some (.inl s')∧((1≤s'.1∧s'.1 < 23)∧(0≤s'.2.1∧s'.2.1≤2)∧s'.2.2.2.1.length = 2∧∀ x ∈ s'.2.2.2.2,x.size≤N)∧(2 - s'.2.1).toNat < (2 - (n:Int)).toNat)∨(∃ r,code_line_j2 op (n:Int) c2 c3 c4 v b = some (.inr r)∧True):=fun v b=>by
     unfold code_line_j2
     cases b with
     | true=>exact .inr ⟨_,rfl,trivial⟩
     | false =>
      simp only [cond_false,e4,e8,e7,Bool.and_self,cond_true]
      exact .inl (fin _ _ (by rw [List.length_set]; exact hc3) hcut)
    cases hk:atoiK cp.1 with
    | true =>
     have e9:decide (cp.1.size < 4294967281) = true:=by simpa using hs
     simp only [cond_true,strconv_Atoi,e9,Option.bind_some]
     cases hb:cp.2 with
     | false=>simp only [Bool.not_false,cond_true]; exact j2 _ _
     | true =>
      obtain ⟨v1,v2⟩:=atoiV_in cp.1 hk
      have e10:decide (-9223372036854775808≤atoiV cp.1∧atoiV cp.1≤9223372036854775807) = true:=by simpa using ⟨v1,v2⟩
      simp only [Bool.not_true,cond_false,strconv_Itoa,e10,cond_true,Option.bind_some]
      exact j2 _ _
    | false =>
     have e9:decide (cp.1.size < 4294967281) = true:=by simpa using hs
     simp only [cond_false,strconv_Atoi_1,e9,cond_true,Option.bind_some,code_line_j3]
     cases cp.2 <;> exact .inr ⟨_,rfl,trivial⟩
 ·have e1:decide ((n:Int) < 2) = false:=by simpa using h2
  have e2:decide ((0:Int) < (c3.length:Int)) = true:=by rw [hc3]; rfl
  have e3:decide ((1:Int) < (c3.length:Int)) = true:=by rw [hc3]; rfl
  simp only [e1,cond_false,e2,e3,cond_true]
  exact .inr ⟨_,rfl,trivial⟩
theorem line_tot (s:ByteArray) (hs:s.size < 4294967281):∃ r,code_line s = some r:=by
 unfold code_line strings_Split
 have e0:decide (s.size < 4294967281∧1≤(ByteArray.mk #[32]).size) = true:=by
  have:(ByteArray.mk #[32]).size = 1:=rfl
  simp [this,hs]
 have hlen:=splitS_len s (ByteArray.mk #[32]) (by decide)
 have hsz:∀ x ∈ splitS s (ByteArray.mk #[32]),x.size≤s.size:=splitB_size _ _ s
 simp only [e0,cond_true,Option.bind_some]
 generalize splitS s (ByteArray.mk #[32]) = xs at hlen hsz ⊢
 obtain ⟨r,hr,hr2⟩:=indexF xs (fun e=>by rw [e] at hlen; simp at hlen)
 rw [hr]
 simp only [Option.bind_some]
 rcases hr2 with rfl | ⟨h1,h2⟩
 ·exact ⟨_,rfl⟩
 ·have e1:decide (r < 0) = false:=by simp; omega
  have e2:decide ((1:Int)≤(xs.length:Int)) = true:=by simp; omega
  simp only [e1,cond_false,e2,cond_true]
  obtain ⟨v,hv,-⟩:=loopO_inv (step:=code_line_l1) (fun s':LnS=>(1≤s'.1∧s'.1 < 23)∧(0≤s'.2.1∧s'.2.1≤2)∧s'.2.2.2.1.length = 2∧∀ x ∈ s'.2.2.2.2,x.size≤s.size) (fun s'=>(2 - s'.2.1).toNat) (fun _=>True) (line_step s.size hs) (s0:=(r,0,r,([0,0]:List Int),cut xs (1:Int) (xs.length:Int))) ⟨⟨h1,h2⟩,⟨by simp,by simp⟩,rfl,fun x hx=>hsz x (List.mem_of_mem_drop (List.mem_of_mem_take hx))⟩
  exact ⟨v,hv⟩
def lnF (s:ByteArray):GInstr×Bool:=(code_line s).getD default
theorem line_eq (s:ByteArray) (hs:s.size < 4294967281):code_line s = some (lnF s):=by
 obtain ⟨r,hr⟩:=line_tot s hs
 unfold lnF
 rw [hr]; rfl
end
end Go.Proofs.YtdckaaiidagodaaDoor
end

section
namespace Go.Proofs.YtdckaaiidagodaaDoor
open Go Go.Sx
set_option linter.unusedVariables false
set_option linter.unusedSimpArgs false
noncomputable section
theorem index_hit:∀ (s r:List UInt8),(10:UInt8) ∉ s→Lib.index (s++10::r) [10] = (s.length:Int)
 | [],r,_=>by simp [Lib.index]
 | b::s,r,h=>by
  have hb:¬ (10:UInt8) = b:=fun e=>h (by rw [e]; exact List.mem_cons_self)
  have ih:=index_hit s r (fun e=>h (List.mem_cons_of_mem _ e))
  simp only [List.cons_append,Lib.index,List.isPrefixOf,Bool.and_true,beq_iff_eq,hb,if_false,ih]
  rw [if_neg (by omega)]
  simp
theorem index_miss:∀ (l:List UInt8),(10:UInt8) ∉ l→Lib.index l [10] = -1
 | [],_=>by simp [Lib.index]
 | b::s,h=>by
  have hb:¬ (10:UInt8) = b:=fun e=>h (by rw [e]; exact List.mem_cons_self)
  have ih:=index_miss s (fun e=>h (List.mem_cons_of_mem _ e))
  simp [Lib.index,List.isPrefixOf,hb,ih]
theorem cut_hit (s r:List UInt8) (h:(10:UInt8) ∉ s):Lib.cut (s++10::r) [10] = (s,r,true):=by
 unfold Lib.cut
 rw [index_hit s r h,if_pos (by omega)]
 simp
theorem cut_miss (l:List UInt8) (h:(10:UInt8) ∉ l):Lib.cut l [10] = (l,[],false):=by
 unfold Lib.cut
 rw [index_miss l h]; rfl
theorem cut_cases (l:List UInt8):(10:UInt8) ∉ l∨∃ s r,l = s++10::r∧(10:UInt8) ∉ s:=by
 by_cases h:(10:UInt8) ∈ l
 ·obtain ⟨s,r,h1,h2⟩:=List.eq_append_cons_of_mem h
  exact .inr ⟨s,r,h1,h2⟩
 ·exact .inl h
abbrev BA (l:List UInt8):ByteArray:=⟨l.toArray⟩
theorem BA_size (l:List UInt8):(BA l).size = l.length:=by simp [ByteArray.size]
theorem BA_empty (l:List UInt8):(BA l = ByteArray.empty)↔l = []:=by
 constructor
 ·intro h
  have:=congrArg (fun x:ByteArray=>x.data.toList) h
  simpa using this
 ·rintro rfl; rfl
theorem BA_self (t:ByteArray):BA t.data.toList = t:=by simp
abbrev lnL (l:List UInt8):GInstr×Bool:=lnF (BA l)
def PL:Nat→List UInt8→Int→List GInstr→Fault×List GInstr
 | 0,_,_,_=>(⟨0,0⟩,[])
 | k+1,t,n,acc=>if t = [] then (⟨0,0⟩,acc) else bif (Lib.cut t [10]).2.2 && (lnL (Lib.cut t [10]).1).2 then PL k (Lib.cut t [10]).2.1 (n+1) (acc++[(lnL (Lib.cut t [10]).1).1]) else (⟨1,n⟩,[])
theorem PL_nil (k:Nat) (n:Int) (acc:List GInstr):PL (k+1) [] n acc = (⟨0,0⟩,acc):=by simp [PL]
theorem PL_miss (k:Nat) (t:List UInt8) (n:Int) (acc:List GInstr) (h0:t≠[]) (h:(10:UInt8) ∉ t):PL (k+1) t n acc = (⟨1,n⟩,[]):=by
 simp only [PL,if_neg h0,cut_miss t h]; rfl
theorem PL_hit (k:Nat) (s r:List UInt8) (n:Int) (acc:List GInstr) (h:(10:UInt8) ∉ s):PL (k+1) (s++10::r) n acc = bif (lnL s).2 then PL k r (n+1) (acc++[(lnL s).1]) else (⟨1,n⟩,[]):=by
 simp only [PL,cut_hit s r h,Bool.true_and]
 rw [if_neg (by simp)]
theorem PL_acc:∀ (k:Nat) (t:List UInt8) (n:Int) (acc:List GInstr),t.length < k→((PL k t 0 []).1.Code = 0→PL k t n acc = ((PL k t 0 []).1,acc++(PL k t 0 []).2))∧((PL k t 0 []).1.Code≠0→PL k t n acc = (⟨(PL k t 0 []).1.Code,n+(PL k t 0 []).1.At⟩,[]))
 | 0,t,n,acc,h=>by omega
 | k+1,t,n,acc,h=>by
  by_cases h0:t = []
  ·subst h0
   rw [PL_nil,PL_nil]
   exact ⟨fun _=>by simp,fun h=>absurd rfl h⟩
  ·rcases cut_cases t with hm | ⟨s,r,rfl,hs⟩
   ·rw [PL_miss k t n acc h0 hm,PL_miss k t 0 [] h0 hm]
    exact ⟨fun h=>by simp at h,fun _=>by simp⟩
   ·rw [PL_hit k s r n acc hs,PL_hit k s r 0 [] hs]
    cases (lnL s).2 with
    | false=>exact ⟨fun h=>by simp at h,fun _=>by simp⟩
    | true =>
     simp only [cond_true]
     have hk:r.length < k:=by simp at h; omega
     have i1:=PL_acc k r (n+1) (acc++[(lnL s).1]) hk
     have i2:=PL_acc k r (0+1) ([]++[(lnL s).1]) hk
     by_cases hc:(PL k r 0 []).1.Code = 0
     ·rw [i1.1 hc,i2.1 hc]
      exact ⟨fun _=>by simp,fun h=>absurd hc h⟩
     ·rw [i1.2 hc,i2.2 hc]
      refine ⟨fun h=>absurd h hc,fun _=>?_⟩
      show _ = (Fault.mk _ (n+(0+1+_)),_)
      congr 2
      omega
theorem PL_fuel:∀ (k j:Nat) (t:List UInt8) (n:Int) (acc:List GInstr),t.length < k→t.length < j→PL k t n acc = PL j t n acc
 | 0,j,t,n,acc,h,_=>by omega
 | k+1,0,t,n,acc,_,h=>by omega
 | k+1,j+1,t,n,acc,h,h'=>by
  by_cases h0:t = []
  ·subst h0; rw [PL_nil,PL_nil]
  ·rcases cut_cases t with hm | ⟨s,r,rfl,hs⟩
   ·rw [PL_miss k t n acc h0 hm,PL_miss j t n acc h0 hm]
   ·rw [PL_hit k s r n acc hs,PL_hit j s r n acc hs]
    simp at h h'
    rw [PL_fuel k j r _ _ (by omega) (by omega)]
theorem PL_two:∀ (k:Nat) (a b:List UInt8) (n:Int) (acc:List GInstr),(a++b).length < k →
  ((PL k a n acc).1.Code = 0→PL k (a++b) n acc = PL k b (n+((PL k a n acc).2.length - acc.length:Int)) (PL k a n acc).2) ∧
  ((PL k a n acc).1.Code≠0→(a = []∨a.getLast? = some 10)→(PL k (a++b) n acc).1 = (PL k a n acc).1)
 | 0,a,b,n,acc,h=>by omega
 | k+1,a,b,n,acc,h=>by
  by_cases h0:a = []
  ·subst h0
   rw [PL_nil]
   exact ⟨fun _=>by simp,fun h=>absurd rfl h⟩
  ·rcases cut_cases a with hm | ⟨s,r,rfl,hs⟩
   ·rw [PL_miss k a n acc h0 hm]
    refine ⟨fun h=>by simp at h,fun _ hl=>?_⟩
    rcases hl with hl | hl
    ·exact absurd hl h0
    ·exact absurd (List.mem_of_getLast? hl) hm
   ·rw [List.append_assoc,List.cons_append,PL_hit k s r n acc hs,PL_hit k s (r++b) n acc hs]
    cases (lnL s).2 with
    | false=>exact ⟨fun h=>by simp at h,fun _ _=>rfl⟩
    | true =>
     simp only [cond_true]
     have hk:(r++b).length < k:=by simp at h ⊢; omega
     obtain ⟨i1,i2⟩:=PL_two k r b (n+1) (acc++[(lnL s).1]) hk
     refine ⟨fun hc=>?_,fun hc hl=>i2 hc ?_⟩
     ·rw [i1 hc]
      have hb:b.length < k:=by simp at hk; omega
      rw [PL_fuel k (k+1) b _ _ hb (by omega)]
      congr 1
      simp only [List.length_append,List.length_singleton]
      push_cast
      omega
     ·rcases hl with hl | hl
      ·simp at hl
      ·by_cases hr:r = []
       ·exact .inl hr
       ·refine .inr ?_
        rw [← hl]
        obtain ⟨x,hx⟩:∃ x,r.getLast? = some x:=⟨_,List.getLast?_eq_some_getLast hr⟩
        simp [List.getLast?_append,List.getLast?_cons,hx]
theorem parse_loop:∀ (k:Nat) (t:List UInt8) (n:Nat) (acc:List GInstr),t.length < k→t.length≤20000→n+t.length≤100000→acc.length+t.length≤100000→loopO code_Parse_l1 (BA t,(n:Int),acc) = some (PL k t n acc)
 | 0,t,n,acc,h,_,_,_=>by omega
 | k+1,t,n,acc,h,h1,h2,h3=>by
  have hsz:(BA t).size < 4294967281:=by rw [BA_size]; omega
  by_cases h0:t = []
  ·subst h0
   rw [PL_nil]
   refine loopO_inr ?_
   unfold code_Parse_l1
   rfl
  ·have e0:decide (BA t = ByteArray.empty) = false:=by
    rw [decide_eq_false_iff_not,BA_empty]; exact h0
   have e1:decide ((BA t).size < 4294967281) = true:=by simpa using hsz
   have hcut:cutB (BA t) (ByteArray.mk #[10]) = (BA (Lib.cut t [10]).1,BA (Lib.cut t [10]).2.1,(Lib.cut t [10]).2.2):=rfl
   have hl1:(Lib.cut t [10]).1.length≤t.length:=by
    rcases cut_cases t with hm | ⟨s,r,rfl,hs⟩
    ·rw [cut_miss t hm]; exact Nat.le_refl _
    ·rw [cut_hit s r hs]; simp
   have hl:code_line (BA (Lib.cut t [10]).1) = some (lnL (Lib.cut t [10]).1):=line_eq _ (by rw [BA_size]; omega)
   have step:code_Parse_l1 (BA t,(n:Int),acc) = bif (Lib.cut t [10]).2.2 && (lnL (Lib.cut t [10]).1).2 then some (Sum.inl (BA (Lib.cut t [10]).2.1,((n+1:Nat):Int),acc++[(lnL (Lib.cut t [10]).1).1])) else some (Sum.inr (⟨1,n⟩,[])):=by
    unfold code_Parse_l1
    have hn:1≤t.length:=by cases t with | nil=>exact absurd rfl h0 | cons=>simp
    have w1:IntKind.i64.wrap ((n:Int)+1) = ((n+1:Nat):Int):=wrapJ (by omega)
    have e2:decide ((acc++[(lnL (Lib.cut t [10]).1).1]).length * 24≤140737488355328) = true:=by simp; omega
    simp only [e0,Bool.not_false,cond_true,strings_Cut,e1,Option.bind_some,hcut,hl]
    cases (Lib.cut t [10]).2.2 with
    | false=>rfl
    | true =>
     cases hf:(lnL (Lib.cut t [10]).1).2 with
     | false=>rfl
     | true =>
      simp only [Bool.not_true,Bool.or_self,cond_false,e2,cond_true,w1,Bool.and_self]
   rcases cut_cases t with hm | ⟨s,r,rfl,hs⟩
   ·rw [PL_miss k t n acc h0 hm]
    refine loopO_inr ?_
    rw [step,cut_miss t hm]; rfl
   ·rw [PL_hit k s r n acc hs]
    rw [cut_hit s r hs] at step
    simp only [Bool.true_and] at step
    cases hf:(lnL s).2 with
    | false =>
     rw [hf] at step
     exact loopO_inr step
    | true =>
     rw [hf] at step
     simp only [cond_true] at step ⊢
     rw [loopO_inl step]
     simp only [List.length_append,List.length_cons] at h h1 h2 h3
     exact parse_loop k r (n+1) _ (by omega) (by omega) (by omega) (by simp; omega)
theorem parse_eq (t:ByteArray) (h:t.size≤20000):code_Parse t = some (PL (t.size+1) t.data.toList 0 []):=by
 unfold code_Parse
 have e0:decide ((20000:Int) < (t.size:Int)) = false:=by simp; omega
 simp only [e0,cond_false]
 have hs:t.data.toList.length = t.size:=by rw [← BA_size,BA_self]
 have:=parse_loop (t.size+1) t.data.toList 0 [] (by omega) (by omega) (by omega) (by simp; omega)
 rw [BA_self] at this
 exact this
end
end Go.Proofs.YtdckaaiidagodaaDoor
end

section
namespace Go.Proofs.YtdckaaiidagodaaDoor
open Go Go.Sx
set_option linter.unusedVariables false
set_option linter.unusedSimpArgs false
noncomputable section
theorem same_step (l:List GInstr) (hl:l.length < 100000) (i:Nat) (hi:i < l.length):taskmilllaw_sameCode_l1 l l (i:Int) = some (.inl ((i+1:Nat):Int)):=by
 unfold taskmilllaw_sameCode_l1
 have e0:decide ((i:Int) < (l.length:Int)) = true:=by simp; omega
 have e1:decide ((0:Int)≤(i:Int)) = true:=by simp
 simp only [e0,e1,Bool.and_self,cond_true,beq_self_eq_true,Bool.not_true,cond_false,wrapJ (show i < 1000000 by omega)]
theorem same_self (l:List GInstr) (hl:l.length < 100000):taskmilllaw_sameCode l l = some true:=by
 unfold taskmilllaw_sameCode
 rw [show ((l.length:Int) != (l.length:Int)) = false from by simp,cond_false]
 exact loopO_all (step:=taskmilllaw_sameCode_l1 l l) (fun i=>((i:Nat):Int)) (some true) l.length (fun i hi=>same_step l hl i hi) (by unfold taskmilllaw_sameCode_l1; simp)
theorem PL_in:∀ (k:Nat) (t:List UInt8) (n:Int) (acc:List GInstr),t.length < k→0≤n→(PL k t n acc).2.length≤acc.length+t.length∧0≤(PL k t n acc).1.At∧(PL k t n acc).1.At≤n+t.length
 | 0,t,n,acc,h,_=>by omega
 | k+1,t,n,acc,h,hn=>by
  by_cases h0:t = []
  ·subst h0; rw [PL_nil]; exact ⟨by simp,by simp,by simp; omega⟩
  ·rcases cut_cases t with hm | ⟨s,r,rfl,hs⟩
   ·rw [PL_miss k t n acc h0 hm]; exact ⟨by simp,by simpa using hn,by simp; omega⟩
   ·rw [PL_hit k s r n acc hs]
    cases (lnL s).2 with
    | false=>exact ⟨by simp,by simpa using hn,by simp; omega⟩
    | true =>
     simp only [cond_true]
     have hk:r.length < k:=by simp at h; omega
     obtain ⟨i1,i2,i3⟩:=PL_in k r (n+1) (acc++[(lnL s).1]) hk (by omega)
     simp only [List.length_append,List.length_singleton,List.length_cons] at i1 ⊢
     refine ⟨?_,i2,?_⟩
     ·simp only [List.length_append,List.length_cons,List.length_nil] at i1 ⊢
      omega
     ·push_cast at i3 ⊢
      omega
theorem joins_law (a b:ByteArray) (h:a.size+b.size≤100000000):taskmilllaw_CodeJoins a b = some true:=by
 unfold taskmilllaw_CodeJoins
 have w0:IntKind.i64.wrap ((a.size:Int)+(b.size:Int)) = (a.size:Int)+(b.size:Int):=wrap_id (by omega) (by omega)
 simp only [taskmilllaw_codeBegun,Option.bind_some,Bool.not_true,cond_false,w0]
 by_cases hs:a.size+b.size≤20000
 ·have e0:decide ((20000:Int) < (a.size:Int)+(b.size:Int)) = false:=by simp; omega
  have e1:decide (a.size+b.size≤9223372036854775807) = true:=by simp; omega
  have hsz:(a++b).size = a.size+b.size:=ByteArray.size_append
  have hl:(a++b).data.toList = a.data.toList++b.data.toList:=by rw [ByteArray.data_append]; simp
  have ha:a.data.toList.length = a.size:=by rw [← BA_size,BA_self]
  have hb:b.data.toList.length = b.size:=by rw [← BA_size,BA_self]
  simp only [e0,cond_false,parse_eq a (by omega),parse_eq b (by omega),Option.bind_some,e1,cond_true,parse_eq (a++b) (by omega),hl,hsz]
  rw [PL_fuel (a.size+1) (a.size+b.size+1) a.data.toList 0 [] (by omega) (by omega),PL_fuel (b.size+1) (a.size+b.size+1) b.data.toList 0 [] (by omega) (by omega)]
  generalize hk:a.size+b.size+1 = k
  have hlen:(a.data.toList++b.data.toList).length < k:=by rw [List.length_append]; omega
  obtain ⟨t1,t2⟩:=PL_two k a.data.toList b.data.toList 0 [] hlen
  obtain ⟨b1,b2,b3⟩:=PL_in k a.data.toList 0 [] (by omega) (Int.le_refl 0)
  obtain ⟨c1,c2,c3⟩:=PL_in k b.data.toList 0 [] (by omega) (Int.le_refl 0)
  obtain ⟨d1,d2⟩:=PL_acc k b.data.toList (0+((PL k a.data.toList 0 []).2.length - (([]:List GInstr).length:Nat):Int)) (PL k a.data.toList 0 []).2 (by omega)
  by_cases ca:(PL k a.data.toList 0 []).1.Code = 0
  ·have t1:=t1 ca
   have ea:((PL k a.data.toList 0 []).1.Code != 0) = false:=by simpa using ca
   have ea':((PL k a.data.toList 0 []).1.Code == 0) = true:=by simpa using ca
   by_cases cb:(PL k b.data.toList 0 []).1.Code = 0
   ·have eb:((PL k b.data.toList 0 []).1.Code != 0) = false:=by simpa using cb
    have t3:=t1.trans (d1 cb)
    have e5:((PL k b.data.toList 0 []).1.Code == 0) = true:=by simpa using cb
    simp only [ea,eb,Bool.or_self,cond_false,t3,e5,cond_true]
    simp only [List.length_nil,Nat.zero_add] at b1 c1
    have e2:decide ((PL k a.data.toList 0 []).2.length * 24≤140737488355328) = true:=by simp; omega
    have e3:decide (((PL k a.data.toList 0 []).2++(PL k b.data.toList 0 []).2).length * 24≤140737488355328) = true:=by rw [List.length_append]; simp; omega
    simp only [taskmilllaw_ownCode,e2,cond_true,Option.bind_some,e3,taskmilllaw_CodeJoins_j2]
    rw [same_self _ (by rw [List.length_append]; omega)]
    rfl
   ·have eb:((PL k b.data.toList 0 []).1.Code != 0) = true:=by simpa using cb
    have t3:=t1.trans (d2 cb)
    simp only [ea,eb,Bool.false_or,cond_true,cond_false,ea',t3,taskmillref_F,Option.bind_some]
    simp only [List.length_nil,Nat.zero_add] at b1 c1
    rw [wrap_id (by omega) (by omega)]
    simp [taskmilllaw_CodeJoins_j1]
  ·have ea:((PL k a.data.toList 0 []).1.Code != 0) = true:=by simpa using ca
   have ea':((PL k a.data.toList 0 []).1.Code == 0) = false:=by simpa using ca
   simp only [ea,Bool.true_or,cond_true,ea',cond_false]
   by_cases hz:a.data.toList = []
   ·rw [hz] at ca
    exfalso
    obtain ⟨k',rfl⟩:∃ k',k = k'+1:=⟨k - 1,by omega⟩
    rw [PL_nil] at ca
    exact ca rfl
   ·have hpos:0 < a.size:=by rw [← ha]; exact List.length_pos_iff.2 hz
    have e2:decide ((0:Int) < (a.size:Int)) = true:=by simp; omega
    have w1:IntKind.i64.wrap ((a.size:Int) - 1) = ((a.size - 1:Nat):Int):=by rw [wrap_id (by omega) (by omega)]; omega
    have e3:decide ((0:Int)≤((a.size - 1:Nat):Int)) = true:=by simp
    have e4:decide (((a.size - 1:Nat):Int) < (a.size:Int)) = true:=by simp; omega
    simp only [e2,cond_true,w1,e3,e4,Bool.and_self,Int.toNat_natCast]
    cases hq:(((a.data.getD (a.size - 1) 0).toNat:Int) != 10) with
    | true=>cases ((PL k (a.data.toList++b.data.toList) 0 []).1.Code == (PL k a.data.toList 0 []).1.Code && ((PL k (a.data.toList++b.data.toList) 0 []).1.At == (PL k a.data.toList 0 []).1.At && true)) <;> rfl
    | false =>
     have hlast:a.data.toList.getLast? = some 10:=by
      have hq:(a.data.getD (a.size - 1) 0).toNat = 10:=by
       have:((a.data.getD (a.size - 1) 0).toNat:Int) = 10:=by simpa using hq
       omega
      have hq2:a.data.getD (a.size - 1) 0 = 10:=UInt8.toNat_inj.1 (by rw [hq]; rfl)
      rw [List.getLast?_eq_getElem?,ha,Array.getElem?_toList]
      rw [Array.getD_eq_getD_getElem?] at hq2
      have hin:a.size - 1 < a.data.size:=by have:a.data.size = a.size:=rfl; omega
      rw [Array.getElem?_eq_getElem hin] at hq2 ⊢
      simpa using hq2
     rw [t2 ca (.inr hlast)]
     simp [taskmilllaw_CodeJoins_j1]
 ·have e0:decide ((20000:Int) < (a.size:Int)+(b.size:Int)) = true:=by simp; omega
  simp only [e0,cond_true]
end
end Go.Proofs.YtdckaaiidagodaaDoor
end
