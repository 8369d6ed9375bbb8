/-
 Lemmas, put together: QA, QB, QC, codeJ, codeK, codeR, codeS, codeU, codeQ, codeX, codeY, codeZ, codeTa, codeTb, codeTc, codeTd.
 No conditions.
-/
import Derived.Test.YtdckaaiidagodaaDoorcodeA3
import Derived.Test.YtdckaaiidagodaaDoorcodeG
import Derived.Lib.AtoiAllCases
import Derived.Lib.ItoaLen
set_option linter.unusedSimpArgs false
set_option linter.unusedVariables false
set_option linter.unusedSectionVars false
section
namespace Go.Sx
open Go
set_option linter.unusedVariables false
theorem wrap_id {x:Int} (h1:-9223372036854775808≤x) (h2:x≤9223372036854775807):IntKind.i64.wrap x = x:=by
 simp only [IntKind.wrap,IntKind.bits,IntKind.signed,if_true]
 simp
 omega
theorem wf64 {x:Int} (h:(Lit.int .i64 x).wf = true):-9223372036854775808≤x∧x≤9223372036854775807:=by
 simpa [Lit.wf,IntKind.min,IntKind.max,IntKind.signed,IntKind.bits] using h
theorem loopO_inv {S ρ:Type} {step:S→Option (S ⊕ ρ)} (I:S→Prop) (mu:S→Nat) (Post:ρ→Prop)
  (hs:∀ s,I s→(∃ s',step s = some (.inl s')∧I s'∧mu s' < mu s)∨(∃ r,step s = some (.inr r)∧Post r)) {s0:S} (h0:I s0):∃ r,loopO step s0 = some r∧Post r:=by
 have gen:∀ (n:Nat) (s:S),mu s≤n→I s→∃ r,loopO step s = some r∧Post r:=by
  intro n
  induction n with
  | zero =>
   intro s hm hi
   rcases hs s hi with ⟨s',_,_,h3⟩ | ⟨r,h1,h2⟩
   ·omega
   ·exact ⟨r,loopO_inr h1,h2⟩
  | succ n ih =>
   intro s hm hi
   rcases hs s hi with ⟨s',h1,h2,h3⟩ | ⟨r,h1,h2⟩
   ·rw [loopO_inl h1]; exact ih s' (by omega) h2
   ·exact ⟨r,loopO_inr h1,h2⟩
 exact gen _ s0 (Nat.le_refl _) h0
def firstAt {β:Type} (bad:Nat→Option β):Nat→Option β
 | 0=>none
 | n+1=>(firstAt bad n).or (bad n)
theorem firstAt_none {β:Type} {f:Nat→Option β}:∀ (n:Nat),firstAt f n = none↔∀ i,i < n→f i = none
 | 0=>by simp [firstAt]
 | n+1=>by
  simp only [firstAt,Option.or_eq_none_iff,firstAt_none n]
  constructor
  ·rintro ⟨h1,h2⟩ i hi
   by_cases h:i = n
   ·subst h; exact h2
   ·exact h1 i (by omega)
  ·exact fun h=>⟨fun i hi=>h i (by omega),h n (by omega)⟩
theorem firstAt_some {β:Type} {f:Nat→Option β} {b:β}:∀ (n:Nat),firstAt f n = some b→∃ i,i < n∧f i = some b∧∀ j,j < i→f j = none
 | 0,h=>by simp [firstAt] at h
 | n+1,h=>by
  simp only [firstAt] at h
  cases hf:firstAt f n with
  | some c =>
   rw [hf] at h
   obtain ⟨i,h1,h2,h3⟩:=firstAt_some n hf
   simp only [Option.some_or] at h
   exact ⟨i,by omega,by rw [h2,h],h3⟩
  | none =>
   rw [hf] at h
   simp only [Option.none_or] at h
   exact ⟨n,by omega,h,fun j hj=>(firstAt_none n).1 hf j hj⟩
theorem loopO_find {S ρ:Type} {step:S→Option (S ⊕ ρ)} (E:Nat→S) (bad:Nat→Option ρ) (rest:Option ρ) (n:Nat)
  (h1:∀ i,i < n→bad i = none→step (E i) = some (.inl (E (i+1)))) (h2:∀ i r,i < n→bad i = some r→step (E i) = some (.inr r)) (h3:(∀ i,i < n→bad i = none)→step (E n) = rest.map .inr) :
  loopO step (E 0) = match firstAt bad n with
   | some r=>some r
   | none=>rest:=by
 have walk:∀ k,k≤n→(∀ i,i < k→bad i = none)→loopO step (E 0) = loopO step (E k):=by
  intro k
  induction k with
  | zero=>exact fun _ _=>rfl
  | succ k ih =>
   intro hk hb
   rw [ih (by omega) fun i hi=>hb i (by omega),loopO_inl (h1 k (by omega) (hb k (by omega)))]
 cases hf:firstAt bad n with
 | none =>
  have hb:=(firstAt_none n).1 hf
  rw [walk n (Nat.le_refl _) hb,loopO_out (h3 hb)]
 | some r =>
  obtain ⟨i,g1,g2,g3⟩:=firstAt_some n hf
  rw [walk i (by omega) g3,loopO_inr (h2 i r g1 g2)]
theorem loopO_findD {S ρ:Type} {step:S→Option (S ⊕ ρ)} (E:Nat→S) (bad:Nat→Option ρ) (d:ρ) (n:Nat)
  (h1:∀ i,i < n→bad i = none→step (E i) = some (.inl (E (i+1)))) (h2:∀ i r,i < n→bad i = some r→step (E i) = some (.inr r)) (h3:(∀ i,i < n→bad i = none)→step (E n) = some (.inr d)) :
  loopO step (E 0) = some ((firstAt bad n).getD d):=by
 rw [loopO_find E bad (some d) n h1 h2 (fun h=>by rw [h3 h]; rfl)]
 cases firstAt bad n <;> rfl
theorem loopO_all {S ρ:Type} {step:S→Option (S ⊕ ρ)} (E:Nat→S) (rest:Option ρ) (n:Nat)
  (h1:∀ i,i < n→step (E i) = some (.inl (E (i+1)))) (h3:step (E n) = rest.map .inr):loopO step (E 0) = rest:=by
 have:=loopO_find E (fun _=>none) rest n (fun i hi _=>h1 i hi) (fun i r _ h=>by cases h) (fun _=>h3)
 rw [this,(firstAt_none n).2 fun _ _=>rfl]
theorem ix_get {α:Type} [Enc α] {xs:List α} {i:Nat} (h:i < xs.length):ix xs (i:Int) = xs[i]:=by
 simp [ix,List.getD_eq_getElem?_getD,h]
end Go.Sx
end

section
namespace Go.Sx
variable {α:Type}
end Go.Sx
end

section
namespace Go.Sx
def toldOr {S ρ:Type} (o:Option ρ) (s:S):Option (S ⊕ ρ):=match o with
 | some r=>some (.inr r)
 | none=>some (.inl s)
@[simp] theorem toldOr_some {S ρ:Type} (r:ρ) (s:S):toldOr (some r) s = some (.inr r):=rfl
@[simp] theorem toldOr_none {S ρ:Type} (s:S):toldOr (none:Option ρ) s = some (.inl s):=rfl
theorem loopO_findP {S ρ:Type} {step:S→Option (S ⊕ ρ)} (E:Nat→S) (bad:Nat→Option ρ) (d:ρ) (n:Nat)
  (h1:∀ i,i < n→(∀ j,j < i→bad j = none)→step (E i) = toldOr (bad i) (E (i+1)))
  (h3:(∀ i,i < n→bad i = none)→step (E n) = some (.inr d)):loopO step (E 0) = some ((firstAt bad n).getD d):=by
 have walk:∀ k,k≤n→(∀ i,i < k→bad i = none)→loopO step (E 0) = loopO step (E k):=by
  intro k
  induction k with
  | zero=>exact fun _ _=>rfl
  | succ k ih =>
   intro hk hb
   have:=h1 k (by omega) fun i hi=>hb i (by omega)
   rw [hb k (by omega),toldOr_none] at this
   rw [ih (by omega) fun i hi=>hb i (by omega),loopO_inl this]
 cases hf:firstAt bad n with
 | none =>
  have hb:=(firstAt_none n).1 hf
  rw [walk n (Nat.le_refl _) hb,loopO_inr (h3 hb)]; rfl
 | some r =>
  obtain ⟨i,g1,g2,g3⟩:=firstAt_some n hf
  have:=h1 i g1 g3
  rw [g2,toldOr_some] at this
  rw [walk i (by omega) g3,loopO_inr this]; rfl
end Go.Sx
end

section
namespace Go.Proofs.YtdckaaiidagodaaDoor
open Go Go.Sx
set_option linter.unusedVariables false
set_option linter.unusedSimpArgs false
noncomputable section
theorem wrapJ {n:Nat} (h:n < 1000000):IntKind.i64.wrap ((n:Int)+1) = ((n+1:Nat):Int):=by
 rw [wrap_id (by omega) (by omega)]; omega
theorem splitB_size (sep:ByteArray):∀ (k:Nat) (s x:ByteArray),x ∈ Lib.splitB sep 0 k s→x.size≤s.size:=by
 intro k
 induction k with
 | zero=>intro s x hx; rw [Lib.splitB_zero] at hx; simp only [List.mem_singleton] at hx; rw [hx]; exact Nat.le_refl _
 | succ k ih =>
  intro s x hx
  rcases Lib.indexB_cases s sep with h | ⟨i,h,hr⟩
  ·rw [Lib.splitB_miss _ _ _ _ h] at hx; simp only [List.mem_singleton] at hx; rw [hx]; exact Nat.le_refl _
  ·rw [Lib.splitB_hit _ _ _ _ i h] at hx
   rcases List.mem_cons.1 hx with rfl | hx
   ·rw [ByteArray.size_extract]; omega
   ·have:=ih _ _ hx
    rw [ByteArray.size_extract] at this; omega
theorem name_zero:(ix codeKinds (0:Int)).name = ByteArray.empty:=rfl
theorem indexF (xs:List ByteArray) (hx:xs≠[]):∃ r,slices_IndexFunc_kind codeKinds xs = some r∧(r = -1∨1≤r∧r < 23):=by
 have hl:0 < xs.length:=List.length_pos_iff.2 hx
 unfold slices_IndexFunc_kind
 refine loopO_inv (fun i:Int=>0≤i∧i≤23) (fun i=>(23 - i).toNat) (fun r=>r = -1∨1≤r∧r < 23) (fun i hi=>?_) (by omega)
 have hk:codeKinds.length = 23:=rfl
 unfold slices_IndexFunc_kind_l1 code_line_1
 have e1:decide ((0:Int) < (xs.length:Int)) = true:=by simp; omega
 by_cases h:i < 23
 ·have e0:decide (i < (codeKinds.length:Int)) = true:=by rw [hk]; simpa using h
  have e2:decide ((0:Int)≤i) = true:=by simpa using hi.1
  simp only [e0,e1,e2,Bool.and_self,cond_true,Option.bind_some]
  cases hc:(decide ((ix codeKinds i).name = ix xs 0) && !decide ((ix codeKinds i).name = ByteArray.empty)) with
  | true =>
   refine .inr ⟨i,rfl,.inr ⟨?_,h⟩⟩
   have:i≠0:=fun e=>by
    rw [e,name_zero] at hc
    simp at hc
   omega
  | false =>
   obtain ⟨n,rfl⟩:=Int.eq_ofNat_of_zero_le hi.1
   exact .inl ⟨_,rfl,by rw [show IntKind.i64.wrap ((n:Int)+1) = ((n+1:Nat):Int) from wrapJ (by omega)]; omega,by rw [show IntKind.i64.wrap ((n:Int)+1) = ((n+1:Nat):Int) from wrapJ (by omega)]; omega⟩
 ·have e0:decide (i < (codeKinds.length:Int)) = false:=by rw [hk]; simpa using h
  simp only [e0,cond_false]
  exact .inr ⟨-1,rfl,.inl rfl⟩
theorem letter_tot (k:Int):∃ r,code_letter k = some r:=by
 unfold code_letter code_letter_j1
 (repeat' (rw [Bool.cond_eq_ite]; split)) <;> exact ⟨_,rfl⟩
theorem cutP_tot (s p:ByteArray):∃ r,strings_CutPrefix s p = some r∧r.1.size≤s.size:=by
 unfold strings_CutPrefix stringslite_CutPrefix stringslite_HasPrefix
 by_cases h:p.size≤s.size
 ·have e1:decide ((p.size:Int)≤(s.size:Int)) = true:=by simp; omega
  have e2:decide ((0:Int)≤(p.size:Int)) = true:=by simp
  simp only [e1,e2,Bool.and_self,Bool.or_true,cond_true,Option.bind_some,Bool.true_and]
  cases decide (s.extract ((0:Int)).toNat ((p.size:Int)).toNat = p) with
  | false=>exact ⟨_,rfl,Nat.le_refl _⟩
  | true=>exact ⟨_,rfl,by show (s.extract _ _).size≤_; rw [ByteArray.size_extract]; omega⟩
 ·have e1:decide ((p.size:Int)≤(s.size:Int)) = false:=by simp; omega
  simp only [e1,Bool.not_false,Bool.true_or,cond_true,Option.bind_some,Bool.false_and]
  exact ⟨_,rfl,Nat.le_refl _⟩
theorem atoiV_in (s:ByteArray) (h:atoiK s = true):-9223372036854775808≤atoiV s∧atoiV s≤9223372036854775807:=by
 unfold atoiK at h
 unfold atoiV
 cases ha:Lib.atoiAll s.data.toList with
 | ok v=>exact Lib.atoiAll_bounds ha
 | range=>rw [ha] at h; cases h
 | _=>rw [ha] at h; cases h
theorem args_two:∀ k:Nat,k < 23→((ix codeKinds ((k:Nat):Int)).args).size = 2∨k = 0:=by decide
abbrev LnS:=Int×Int×Int×(List Int)×(List ByteArray)
theorem line_step (N:Nat) (hN:N < 4294967281) (s:LnS) (h:(1≤s.1∧s.1 < 23)∧(0≤s.2.1∧s.2.1≤2)∧s.2.2.2.1.length = 2∧∀ x ∈ s.2.2.2.2,x.size≤N) :
  (∃ s',code_line_l1 s = some (.inl s')∧((1≤s'.1∧s'.1 < 23)∧(0≤s'.2.1∧s'.2.1≤2)∧s'.2.2.2.1.length = 2∧∀ x ∈ s'.2.2.2.2,x.size≤N)∧(2 - s'.2.1).toNat < (2 - s.2.1).toNat)∨(∃ r,code_line_l1 s = some (.inr r)∧True):=by
 obtain ⟨op,q,c2,c3,c4⟩:=s
 obtain ⟨⟨ho1,ho2⟩,⟨hq1,hq2⟩,hc3,hc4⟩:=h
 simp only at ho1 ho2 hq1 hq2 hc3 hc4
 have hk:codeKinds.length = 23:=rfl
 have ha:((ix codeKinds op).args).size = 2:=by
  obtain ⟨k,rfl⟩:=Int.eq_ofNat_of_zero_le (show 0≤op by omega)
  rcases args_two k (by omega) with h | h
  ·exact h
  ·omega
 obtain ⟨n,rfl⟩:=Int.eq_ofNat_of_zero_le hq1
 unfold code_line_l1
 by_cases h2:(n:Int) < 2
 ·have w1:IntKind.i64.wrap ((n:Int)+1) = ((n+1:Nat):Int):=wrapJ (by omega)
  have e1:decide ((n:Int) < 2) = true:=by simpa using h2
  have e2:decide ((0:Int)≤op) = true:=by simp; omega
  have e3:decide (op < (codeKinds.length:Int)) = true:=by rw [hk]; simpa using ho2
  have e4:decide ((0:Int)≤(n:Int)) = true:=by simp
  have e5:decide ((n:Int) < ((((ix codeKinds op).args).size:Nat):Int)) = true:=by rw [ha]; simpa using h2
  have fin:∀ c3' c4',c3'.length = 2→(∀ x ∈ c4',x.size≤N)→∃ s',code_line_j1 op (n:Int) c2 c3' c4' = some (.inl s')∧((1≤s'.1∧s'.1 < 23)∧(0≤s'.2.1∧s'.2.1≤2)∧s'.2.2.2.1.length = 2∧∀ x ∈ s'.2.2.2.2,x.size≤N)∧(2 - s'.2.1).toNat < (2 - (n:Int)).toNat:=fun c3' c4' h3 h4=>by
   refine ⟨_,rfl,⟨⟨ho1,ho2⟩,⟨?_,?_⟩,h3,h4⟩,?_⟩ <;> simp only [w1] <;> omega
  simp only [e1,e2,e3,e4,e5,Bool.and_self,cond_true]
  cases ((((ix codeKinds op).args).data.getD ((n:Int)).toNat 0).toNat:Int) == 45 with
  | true=>exact .inl (fin c3 c4 hc3 hc4)
  | false =>
   simp only [cond_false]
   cases he:((c4.length:Int) == 0) with
   | true=>exact .inr ⟨_,rfl,trivial⟩
   | false =>
    have hl:0 < c4.length:=by
     have:(c4.length:Int)≠0:=by simpa using he
     omega
    have e6:decide ((0:Int) < (c4.length:Int)) = true:=by simp; omega
    have e7:decide ((1:Int)≤(c4.length:Int)) = true:=by simp; omega
    obtain ⟨lt,hlt⟩:=letter_tot ((((ix codeKinds op).args).data.getD ((n:Int)).toNat 0).toNat:Int)
    obtain ⟨cp,hcp,hcs⟩:=cutP_tot (ix c4 (0:Int)) lt
    have hx:(ix c4 (0:Int)).size≤N:=by
     have:ix c4 ((0:Nat):Int) = c4[0]:=ix_get hl
     rw [show (0:Int) = ((0:Nat):Int) from rfl,this]
     exact hc4 _ (List.getElem_mem hl)
    have hs:cp.1.size < 4294967281:=by omega
    have e8:decide ((n:Int) < (c3.length:Int)) = true:=by rw [hc3]; simpa using h2
    simp only [cond_false,e6,cond_true,hlt,Option.bind_some,hcp]
    have hcut:∀ x ∈ cut c4 (1:Int) (c4.length:Int),x.size≤N:=fun x hx=>hc4 x (List.mem_of_mem_drop (List.mem_of_mem_take hx))
    have j2:∀ v b,(∃ s',code_line_j2 op (n:Int) c2 c3 c4 v b = some (.inl s')∧((1≤s'.1∧s'.1 < 23)∧(0≤s'.2.1∧s'.2.1≤2)∧s'.2.2.2.1.length = 2∧∀ x ∈ s'.2.2.2.2,x.size≤N)∧(2 - s'.2.1).toNat < (2 - (n:Int)).toNat)∨(∃ r,code_line_j2 op (n:Int) c2 c3 c4 v b = some (.inr r)∧True):=fun v b=>by
     unfold code_line_j2
     cases b with
     | true=>exact .inr ⟨_,rfl,trivial⟩
     | false =>
      simp only [cond_false,e4,e8,e7,Bool.and_self,cond_true]
      exact .inl (fin _ _ (by rw [List.length_set]; exact hc3) hcut)
    cases hk:atoiK cp.1 with
    | true =>
     have e9:decide (cp.1.size < 4294967281) = true:=by simpa using hs
     simp only [cond_true,strconv_Atoi,e9,Option.bind_some]
     cases hb:cp.2 with
     | false=>simp only [Bool.not_false,cond_true]; exact j2 _ _
     | true =>
      obtain ⟨v1,v2⟩:=atoiV_in cp.1 hk
      have e10:decide (-9223372036854775808≤atoiV cp.1∧atoiV cp.1≤9223372036854775807) = true:=by simpa using ⟨v1,v2⟩
      simp only [Bool.not_true,cond_false,strconv_Itoa,e10,cond_true,Option.bind_some]
      exact j2 _ _
    | false =>
     have e9:decide (cp.1.size < 4294967281) = true:=by simpa using hs
     simp only [cond_false,strconv_Atoi_1,e9,cond_true,Option.bind_some,code_line_j3]
     cases cp.2 <;> exact .inr ⟨_,rfl,trivial⟩
 ·have e1:decide ((n:Int) < 2) = false:=by simpa using h2
  have e2:decide ((0:Int) < (c3.length:Int)) = true:=by rw [hc3]; rfl
  have e3:decide ((1:Int) < (c3.length:Int)) = true:=by rw [hc3]; rfl
  simp only [e1,cond_false,e2,e3,cond_true]
  exact .inr ⟨_,rfl,trivial⟩
theorem line_tot (s:ByteArray) (hs:s.size < 4294967281):∃ r,code_line s = some r:=by
 unfold code_line strings_Split
 have e0:decide (s.size < 4294967281∧1≤(ByteArray.mk #[32]).size) = true:=by
  have:(ByteArray.mk #[32]).size = 1:=rfl
  simp [this,hs]
 have hlen:=splitS_len s (ByteArray.mk #[32]) (by decide)
 have hsz:∀ x ∈ splitS s (ByteArray.mk #[32]),x.size≤s.size:=splitB_size _ _ s
 simp only [e0,cond_true,Option.bind_some]
 generalize splitS s (ByteArray.mk #[32]) = xs at hlen hsz ⊢
 obtain ⟨r,hr,hr2⟩:=indexF xs (fun e=>by rw [e] at hlen; simp at hlen)
 rw [hr]
 simp only [Option.bind_some]
 rcases hr2 with rfl | ⟨h1,h2⟩
 ·exact ⟨_,rfl⟩
 ·have e1:decide (r < 0) = false:=by simp; omega
  have e2:decide ((1:Int)≤(xs.length:Int)) = true:=by simp; omega
  simp only [e1,cond_false,e2,cond_true]
  obtain ⟨v,hv,-⟩:=loopO_inv (step:=code_line_l1) (fun s':LnS=>(1≤s'.1∧s'.1 < 23)∧(0≤s'.2.1∧s'.2.1≤2)∧s'.2.2.2.1.length = 2∧∀ x ∈ s'.2.2.2.2,x.size≤s.size) (fun s'=>(2 - s'.2.1).toNat) (fun _=>True) (line_step s.size hs) (s0:=(r,0,r,([0,0]:List Int),cut xs (1:Int) (xs.length:Int))) ⟨⟨h1,h2⟩,⟨by simp,by simp⟩,rfl,fun x hx=>hsz x (List.mem_of_mem_drop (List.mem_of_mem_take hx))⟩
  exact ⟨v,hv⟩
def lnF (s:ByteArray):GInstr×Bool:=(code_line s).getD default
theorem line_eq (s:ByteArray) (hs:s.size < 4294967281):code_line s = some (lnF s):=by
 obtain ⟨r,hr⟩:=line_tot s hs
 unfold lnF
 rw [hr]; rfl
end
end Go.Proofs.YtdckaaiidagodaaDoor
end

section
namespace Go.Proofs.YtdckaaiidagodaaDoor
open Go Go.Sx
set_option linter.unusedVariables false
set_option linter.unusedSimpArgs false
noncomputable section
theorem index_hit:∀ (s r:List UInt8),(10:UInt8) ∉ s→Lib.index (s++10::r) [10] = (s.length:Int)
 | [],r,_=>by simp [Lib.index]
 | b::s,r,h=>by
  have hb:¬ (10:UInt8) = b:=fun e=>h (by rw [e]; exact List.mem_cons_self)
  have ih:=index_hit s r (fun e=>h (List.mem_cons_of_mem _ e))
  simp only [List.cons_append,Lib.index,List.isPrefixOf,Bool.and_true,beq_iff_eq,hb,if_false,ih]
  rw [if_neg (by omega)]
  simp
theorem index_miss:∀ (l:List UInt8),(10:UInt8) ∉ l→Lib.index l [10] = -1
 | [],_=>by simp [Lib.index]
 | b::s,h=>by
  have hb:¬ (10:UInt8) = b:=fun e=>h (by rw [e]; exact List.mem_cons_self)
  have ih:=index_miss s (fun e=>h (List.mem_cons_of_mem _ e))
  simp [Lib.index,List.isPrefixOf,hb,ih]
theorem cut_hit (s r:List UInt8) (h:(10:UInt8) ∉ s):Lib.cut (s++10::r) [10] = (s,r,true):=by
 unfold Lib.cut
 rw [index_hit s r h,if_pos (by omega)]
 simp
theorem cut_miss (l:List UInt8) (h:(10:UInt8) ∉ l):Lib.cut l [10] = (l,[],false):=by
 unfold Lib.cut
 rw [index_miss l h]; rfl
theorem cut_cases (l:List UInt8):(10:UInt8) ∉ l∨∃ s r,l = s++10::r∧(10:UInt8) ∉ s:=by
 by_cases h:(10:UInt8) ∈ l
 ·obtain ⟨s,r,h1,h2⟩:=List.eq_append_cons_of_mem h
  exact .inr ⟨s,r,h1,h2⟩
 ·exact .inl h
abbrev BA (l:List UInt8):ByteArray:=⟨l.toArray⟩
theorem BA_size (l:List UInt8):(BA l).size = l.length:=by simp [ByteArray.size]
theorem BA_empty (l:List UInt8):(BA l = ByteArray.empty)↔l = []:=by
 constructor
 ·intro h
  have:=congrArg (fun x:ByteArray=>x.data.toList) h
  simpa using this
 ·rintro rfl; rfl
theorem BA_self (t:ByteArray):BA t.data.toList = t:=by simp
theorem BA_append (a b:List UInt8):BA a++BA b = BA (a++b):=by
 apply ByteArray.ext
 rw [ByteArray.data_append]
 simp
abbrev lnL (l:List UInt8):GInstr×Bool:=lnF (BA l)
def PL:Nat→List UInt8→Int→List GInstr→Fault×List GInstr
 | 0,_,_,_=>(⟨0,0⟩,[])
 | k+1,t,n,acc=>if t = [] then (⟨0,0⟩,acc) else bif (Lib.cut t [10]).2.2 && (lnL (Lib.cut t [10]).1).2 then PL k (Lib.cut t [10]).2.1 (n+1) (acc++[(lnL (Lib.cut t [10]).1).1]) else (⟨1,n⟩,[])
theorem PL_nil (k:Nat) (n:Int) (acc:List GInstr):PL (k+1) [] n acc = (⟨0,0⟩,acc):=by simp [PL]
theorem PL_miss (k:Nat) (t:List UInt8) (n:Int) (acc:List GInstr) (h0:t≠[]) (h:(10:UInt8) ∉ t):PL (k+1) t n acc = (⟨1,n⟩,[]):=by
 simp only [PL,if_neg h0,cut_miss t h]; rfl
theorem PL_hit (k:Nat) (s r:List UInt8) (n:Int) (acc:List GInstr) (h:(10:UInt8) ∉ s):PL (k+1) (s++10::r) n acc = bif (lnL s).2 then PL k r (n+1) (acc++[(lnL s).1]) else (⟨1,n⟩,[]):=by
 simp only [PL,cut_hit s r h,Bool.true_and]
 rw [if_neg (by simp)]
theorem parse_loop:∀ (k:Nat) (t:List UInt8) (n:Nat) (acc:List GInstr),t.length < k→t.length≤20000→n+t.length≤100000→acc.length+t.length≤100000→loopO code_Parse_l1 (BA t,(n:Int),acc) = some (PL k t n acc)
 | 0,t,n,acc,h,_,_,_=>by omega
 | k+1,t,n,acc,h,h1,h2,h3=>by
  have hsz:(BA t).size < 4294967281:=by rw [BA_size]; omega
  by_cases h0:t = []
  ·subst h0
   rw [PL_nil]
   refine loopO_inr ?_
   unfold code_Parse_l1
   rfl
  ·have e0:decide (BA t = ByteArray.empty) = false:=by
    rw [decide_eq_false_iff_not,BA_empty]; exact h0
   have e1:decide ((BA t).size < 4294967281) = true:=by simpa using hsz
   have hcut:cutB (BA t) (ByteArray.mk #[10]) = (BA (Lib.cut t [10]).1,BA (Lib.cut t [10]).2.1,(Lib.cut t [10]).2.2):=rfl
   have hl1:(Lib.cut t [10]).1.length≤t.length:=by
    rcases cut_cases t with hm | ⟨s,r,rfl,hs⟩
    ·rw [cut_miss t hm]; exact Nat.le_refl _
    ·rw [cut_hit s r hs]; simp
   have hl:code_line (BA (Lib.cut t [10]).1) = some (lnL (Lib.cut t [10]).1):=line_eq _ (by rw [BA_size]; omega)
   have step:code_Parse_l1 (BA t,(n:Int),acc) = bif (Lib.cut t [10]).2.2 && (lnL (Lib.cut t [10]).1).2 then some (Sum.inl (BA (Lib.cut t [10]).2.1,((n+1:Nat):Int),acc++[(lnL (Lib.cut t [10]).1).1])) else some (Sum.inr (⟨1,n⟩,[])):=by
    unfold code_Parse_l1
    have hn:1≤t.length:=by cases t with | nil=>exact absurd rfl h0 | cons=>simp
    have w1:IntKind.i64.wrap ((n:Int)+1) = ((n+1:Nat):Int):=wrapJ (by omega)
    have e2:decide ((acc++[(lnL (Lib.cut t [10]).1).1]).length * 24≤140737488355328) = true:=by simp; omega
    simp only [e0,Bool.not_false,cond_true,strings_Cut,e1,Option.bind_some,hcut,hl]
    cases (Lib.cut t [10]).2.2 with
    | false=>rfl
    | true =>
     cases hf:(lnL (Lib.cut t [10]).1).2 with
     | false=>rfl
     | true =>
      simp only [Bool.not_true,Bool.or_self,cond_false,e2,cond_true,w1,Bool.and_self]
   rcases cut_cases t with hm | ⟨s,r,rfl,hs⟩
   ·rw [PL_miss k t n acc h0 hm]
    refine loopO_inr ?_
    rw [step,cut_miss t hm]; rfl
   ·rw [PL_hit k s r n acc hs]
    rw [cut_hit s r hs] at step
    simp only [Bool.true_and] at step
    cases hf:(lnL s).2 with
    | false =>
     rw [hf] at step
     exact loopO_inr step
    | true =>
     rw [hf] at step
     simp only [cond_true] at step ⊢
     rw [loopO_inl step]
     simp only [List.length_append,List.length_cons] at h h1 h2 h3
     exact parse_loop k r (n+1) _ (by omega) (by omega) (by omega) (by simp; omega)
theorem parse_eq (t:ByteArray) (h:t.size≤20000):code_Parse t = some (PL (t.size+1) t.data.toList 0 []):=by
 unfold code_Parse
 have e0:decide ((20000:Int) < (t.size:Int)) = false:=by simp; omega
 simp only [e0,cond_false]
 have hs:t.data.toList.length = t.size:=by rw [← BA_size,BA_self]
 have:=parse_loop (t.size+1) t.data.toList 0 [] (by omega) (by omega) (by omega) (by simp; omega)
 rw [BA_self] at this
 exact this
end
end Go.Proofs.YtdckaaiidagodaaDoor
end

section
namespace Go.Proofs.YtdckaaiidagodaaDoor
open Go Go.Sx
set_option linter.unusedVariables false
set_option linter.unusedSimpArgs false
noncomputable section
def stp (a:Nat) (b:UInt8):Nat:=a * 10+(b.toNat - 48)
def dig (b:UInt8):Prop:=48≤b.toNat∧b.toNat≤57
theorem ofNat_toNat {k:Nat} (h:k < 10):(UInt8.ofNat (48+k)).toNat = 48+k:=by
 rw [UInt8.toNat_ofNat']; omega
theorem dd (u:Nat):(∀ b ∈ Lib.decDigits u,dig b)∧(Lib.decDigits u).foldl stp 0 = u∧Lib.decDigits u≠[]:=by
 induction u using Nat.strongRecOn with
 | _ u ih =>
  rw [Lib.decDigits]
  split
  ·rename_i h
   refine ⟨fun b hb=>?_,?_,by simp⟩
   ·simp only [List.mem_singleton] at hb
    subst hb
    unfold dig; rw [ofNat_toNat h]; omega
   ·simp only [List.foldl_cons,List.foldl_nil,stp,ofNat_toNat h]; omega
  ·rename_i h
   obtain ⟨h1,h2,h3⟩:=ih (u / 10) (by omega)
   refine ⟨fun b hb=>?_,?_,by simp⟩
   ·rcases List.mem_append.1 hb with hb | hb
    ·exact h1 b hb
    ·simp only [List.mem_singleton] at hb
     subst hb
     unfold dig; rw [ofNat_toNat (by omega)]; omega
   ·rw [List.foldl_append,h2]
    simp only [List.foldl_cons,List.foldl_nil,stp,ofNat_toNat (show u % 10 < 10 by omega)]; omega
theorem stp_mono:∀ (l:List UInt8) (a:Nat),a≤l.foldl stp a
 | [],a=>Nat.le_refl _
 | b::l,a=>Nat.le_trans (by unfold stp; omega) (stp_mono l (stp a b))
theorem parse_digits:∀ (l:List UInt8) (a:Nat),(∀ b ∈ l,dig b)→l.foldl stp a < 18446744073709551616→Lib.parseUint10 a l = .ok (l.foldl stp a)
 | [],a,_,_=>rfl
 | b::l,a,hd,hv=>by
  have hb:=hd b (List.mem_cons_self)
  have hm:=stp_mono l (stp a b)
  simp only [List.foldl_cons] at hv ⊢
  have e:a * 10+(b.toNat - 48) = stp a b:=rfl
  unfold dig at hb
  have h2:stp a b < 18446744073709551616:=Nat.lt_of_le_of_lt hm hv
  simp only [Lib.parseUint10]
  rw [if_pos hb,if_neg (by unfold stp at h2; omega),if_neg (by rw [e]; omega),e]
  exact parse_digits l (stp a b) (fun c hc=>hd c (List.mem_cons_of_mem _ hc)) hv
theorem atoi_itoa (n:Int) (h0:-9223372036854775808≤n) (h1:n≤9223372036854775807):Lib.atoiAll (Lib.itoa n) = .ok n:=by
 unfold Lib.itoa
 split
 ·rename_i h
  obtain ⟨d1,d2,d3⟩:=dd n.natAbs
  rw [Lib.atoiAll_minus]
  unfold Lib.parseMag
  rw [if_neg d3,parse_digits _ 0 d1 (by rw [d2]; omega),d2]
  simp only [Lib.signed]
  rw [if_neg (by omega)]
  congr 1; omega
 ·rename_i h
  obtain ⟨d1,d2,d3⟩:=dd n.toNat
  cases hl:Lib.decDigits n.toNat with
  | nil=>exact absurd hl d3
  | cons c r =>
   have hc:=d1 c (by rw [hl]; exact List.mem_cons_self)
   unfold dig at hc
   rw [Lib.atoiAll_plain c r (by omega) (by omega),← hl]
   unfold Lib.parseMag
   rw [if_neg d3,parse_digits _ 0 d1 (by rw [d2]; omega),d2]
   simp only [Lib.signless]
   rw [if_neg (by omega)]
   congr 1; omega
def isNum (u:ByteArray):Option Int:=if atoiK u = true∧itoaS (atoiV u) = u then some (atoiV u) else none
theorem isNum_some {u:ByteArray} {n:Int} (h:isNum u = some n):-9223372036854775808≤n∧n≤9223372036854775807∧u = itoaS n:=by
 unfold isNum at h
 split at h
 ·rename_i hh
  obtain ⟨h1,h2⟩:=hh
  obtain rfl:=Option.some.inj h
  obtain ⟨a,b⟩:=atoiV_in u h1
  exact ⟨a,b,h2.symm⟩
 ·cases h
theorem isNum_itoa (n:Int) (h0:-9223372036854775808≤n) (h1:n≤9223372036854775807):isNum (itoaS n) = some n:=by
 have ha:Lib.atoiAll (itoaS n).data.toList = .ok n:=by
  have:(itoaS n).data.toList = Lib.itoa n:=by simp [itoaS]
  rw [this]; exact atoi_itoa n h0 h1
 have hk:atoiK (itoaS n) = true:=by unfold atoiK; rw [ha]
 have hv:atoiV (itoaS n) = n:=by unfold atoiV; rw [ha]
 unfold isNum
 rw [hk,hv,if_pos ⟨rfl,rfl⟩]
theorem wrap_bd (x:Int):-9223372036854775808≤IntKind.i64.wrap x∧IntKind.i64.wrap x≤9223372036854775807:=by
 simp only [IntKind.wrap,IntKind.bits,IntKind.signed,if_true]
 simp
 omega
theorem bytL_one (n:Int):bytL (([(Ku8.mk n)]:List Ku8).map Ku8.v) = ⟨#[UInt8.ofNat n.toNat]⟩:=rfl
theorem wrap8 {k:Nat} (h:k < 10):IntKind.u8.wrap (IntKind.i64.wrap ((48:Int)+(k:Int))) = ((48+k:Nat):Int):=by
 rw [wrap_id (by omega) (by omega)]
 simp only [IntKind.wrap,IntKind.bits,IntKind.signed]
 simp
 omega
theorem decimal_pos:∀ (f u:Nat),u < 10 ^ (f+1)→u≤9223372036854775807→taskmillref_Decimal_n (f+1) (u:Int) = some ⟨(Lib.decDigits u).toArray⟩:=by
 intro f
 induction f with
 | zero =>
  intro u h1 h2
  have h:u < 10:=by simpa using h1
  have e0:((u:Int) == (-9223372036854775808)) = false:=by simp <;> omega
  have e1:decide ((u:Int) < 0) = false:=by simp
  have e2:decide ((u:Int) < 10) = true:=by simp; omega
  show taskmillref_Decimal_b _ _ = _
  unfold taskmillref_Decimal_b
  simp only [e0,e1,e2,cond_false,cond_true,bytL_one,wrap8 h,Int.toNat_natCast]
  rw [Lib.decDigits_one h]
 | succ f ih =>
  intro u h1 h2
  have e0:((u:Int) == (-9223372036854775808)) = false:=by simp <;> omega
  have e1:decide ((u:Int) < 0) = false:=by simp
  show taskmillref_Decimal_b _ _ = _
  unfold taskmillref_Decimal_b
  by_cases h:u < 10
  ·have e2:decide ((u:Int) < 10) = true:=by simp; omega
   simp only [e0,e1,e2,cond_false,cond_true,bytL_one,wrap8 h,Int.toNat_natCast]
   rw [Lib.decDigits_one h]
  ·have e2:decide ((u:Int) < 10) = false:=by simp; omega
   have q1:Int.tdiv (u:Int) 10 = ((u / 10:Nat):Int):=rfl
   have q2:Int.tmod (u:Int) 10 = ((u % 10:Nat):Int):=rfl
   simp only [e0,e1,e2,cond_false,q1,q2]
   rw [wrap_id (by omega) (by omega),ih (u / 10) (by rw [Nat.pow_succ] at h1; omega) (by omega)]
   simp only [Option.bind_some,bytL_one,wrap8 (show u % 10 < 10 by omega),Int.toNat_natCast]
   have hsz:(⟨(Lib.decDigits (u / 10)).toArray⟩:ByteArray).size+(⟨#[UInt8.ofNat (48+u % 10)]⟩:ByteArray).size≤9223372036854775807:=by
    have a1:(⟨(Lib.decDigits (u / 10)).toArray⟩:ByteArray).size = (Lib.decDigits (u / 10)).length:=BA_size _
    have a2:(⟨#[UInt8.ofNat (48+u % 10)]⟩:ByteArray).size = 1:=rfl
    have a3:(Lib.itoa ((u / 10:Nat):Int)).length≤21:=Lib.itoa_length_le _ (by omega) (by omega)
    rw [Lib.itoa_nonneg] at a3
    omega
   rw [decide_eq_true hsz,cond_true]
   congr 1
   rw [show (Lib.decDigits u) = Lib.decDigits (u / 10)++[UInt8.ofNat (48+u % 10)] from by conv=>lhs; rw [Lib.decDigits,dif_neg h]]
   apply ByteArray.ext
   rw [ByteArray.data_append]
   simp
theorem decimal_big (f:Nat) (hf:30≤f) (u:Nat) (h:u≤9223372036854775807):taskmillref_Decimal_n (f+1) (u:Int) = some ⟨(Lib.decDigits u).toArray⟩ :=
 decimal_pos f u (Nat.lt_of_lt_of_le (Nat.lt_of_le_of_lt h (by decide:(9223372036854775807:Nat) < 10 ^ 30)) (Nat.pow_le_pow_right (by decide) (by omega))) h
theorem itoa_min:itoaS (-9223372036854775808) = ⟨#[45,57,50,50,51,51,55,50,48,51,54,56,53,52,55,55,53,56,48,56]⟩:=by
 simp [itoaS,Lib.itoa,Lib.decDigits]
theorem decimal_eq (n:Int) (h0:-9223372036854775808≤n) (h1:n≤9223372036854775807):taskmillref_Decimal n = some (itoaS n):=by
 unfold taskmillref_Decimal
 by_cases hn:n < 0
 ·show taskmillref_Decimal_b (taskmillref_Decimal_n (4998+1)) n = _
  unfold taskmillref_Decimal_b
  by_cases hm:n = -9223372036854775808
  ·subst hm
   simp only [beq_self_eq_true,cond_true]
   rw [itoa_min]
  ·have e0:(n == (-9223372036854775808)) = false:=by simpa using hm
   have e1:decide (n < 0) = true:=by simpa using hn
   simp only [e0,e1,cond_false,cond_true]
   rw [wrap_id (by omega) (by omega),show (0 - n:Int) = (n.natAbs:Int) by omega,decimal_big 4998 (by decide) n.natAbs (by omega)]
   simp only [Option.bind_some]
   have hsz:(ByteArray.mk #[45]).size+(⟨(Lib.decDigits n.natAbs).toArray⟩:ByteArray).size≤9223372036854775807:=by
    have a1:(⟨(Lib.decDigits n.natAbs).toArray⟩:ByteArray).size = (Lib.decDigits n.natAbs).length:=BA_size _
    have a2:(ByteArray.mk #[45]).size = 1:=rfl
    have a3:(Lib.itoa n).length≤21:=Lib.itoa_length_le _ (by omega) (by omega)
    unfold Lib.itoa at a3
    rw [if_pos hn,List.length_cons] at a3
    omega
   rw [decide_eq_true hsz,cond_true]
   congr 1
   unfold itoaS Lib.itoa
   rw [if_pos hn]
   apply ByteArray.ext
   rw [ByteArray.data_append]
   simp
 ·obtain ⟨u,rfl⟩:=Int.eq_ofNat_of_zero_le (show 0≤n by omega)
  rw [show (5000:Nat) = 4999+1 from rfl,decimal_big 4999 (by decide) u (by omega)]
  unfold itoaS
  rw [Lib.itoa_nonneg]
end
end Go.Proofs.YtdckaaiidagodaaDoor
end

section
namespace Go.Proofs.YtdckaaiidagodaaDoor
open Go Go.Sx
set_option linter.unusedVariables false
set_option linter.unusedSimpArgs false
noncomputable section
theorem dd_len:∀ (k u:Nat),u < 10 ^ (k+1)→(Lib.decDigits u).length≤k+1
 | 0,u,h=>by
  rw [Lib.decDigits_one (by simpa using h)]; simp
 | k+1,u,h=>by
  rw [Lib.decDigits]
  split
  ·simp
  ·have:=dd_len k (u / 10) (by rw [Nat.pow_succ] at h; omega)
   simp; omega
theorem j1_eq (s:ByteArray) (n:Int) (h0:-9223372036854775808≤n) (h1:n≤9223372036854775807):taskmillref_NumberOf_j1 s n = some (n,decide (itoaS n = s)):=by
 unfold taskmillref_NumberOf_j1
 rw [decimal_eq n h0 h1]; rfl
theorem j1_num (s:ByteArray) (n:Int) (h0:-9223372036854775808≤n) (h1:n≤9223372036854775807) (h:decide (itoaS n = s) = true):isNum s = some n:=by
 have:=of_decide_eq_true h
 rw [← this]; exact isNum_itoa n h0 h1
theorem loop_tot (s d:ByteArray) (hd:d.size≤19):∃ r,loopO (taskmillref_NumberOf_l1 s d) (0,0) = some r∧(r.2 = true→isNum s = some r.1):=by
 refine loopO_inv (step:=taskmillref_NumberOf_l1 s d) (fun x:Int×Int=>(0≤x.2∧x.2≤d.size)∧-9223372036854775808≤x.1∧x.1≤9223372036854775807) (fun x=>(d.size - x.2).toNat) (fun r:Int×Bool=>r.2 = true→isNum s = some r.1) (fun x hx=>?_) (s0:=((0:Int),(0:Int))) ⟨⟨Int.le_refl 0,by simp⟩,by decide,by decide⟩
 obtain ⟨n,i⟩:=x
 obtain ⟨⟨h0,h1⟩,hn1,hn2⟩:=hx
 simp only at h0 h1 hn1 hn2
 obtain ⟨k,rfl⟩:=Int.eq_ofNat_of_zero_le h0
 unfold taskmillref_NumberOf_l1
 by_cases hk:k < d.size
 ·have e1:decide ((k:Int) < (d.size:Int)) = true:=by simp; omega
  have e2:decide ((0:Int)≤(k:Int)) = true:=by simp
  simp only [e1,e2,Bool.and_self,Bool.or_true,cond_true]
  cases (decide ((((d).data.getD ((k:Int)).toNat 0).toNat:Int) < 48)) || (decide ((57:Int) < (((d).data.getD ((k:Int)).toNat 0).toNat:Int))) with
  | true=>exact .inr ⟨_,rfl,fun h=>by cases h⟩
  | false =>
   refine .inl ⟨_,rfl,⟨⟨?_,?_⟩,wrap_bd _⟩,?_⟩ <;> simp only [wrapJ (show k < 1000000 by omega)] <;> omega
 ·have e1:decide ((k:Int) < (d.size:Int)) = false:=by simp; omega
  simp only [e1,cond_false]
  obtain ⟨w1,w2⟩:=wrap_bd (0 - n)
  cases decide (s = d) with
  | true =>
   simp only [cond_true]
   exact .inr ⟨_,by rw [j1_eq s _ w1 w2]; rfl,fun h=>j1_num s _ w1 w2 h⟩
  | false =>
   simp only [cond_false]
   exact .inr ⟨_,by rw [j1_eq s n hn1 hn2]; rfl,fun h=>j1_num s n hn1 hn2 h⟩
theorem foldl_take (l:List UInt8) (k:Nat):(l.take k).foldl stp 0≤l.foldl stp 0:=by
 conv=>rhs; rw [← List.take_append_drop k l,List.foldl_append]
 exact stp_mono _ _
theorem take_stp (l:List UInt8) (k:Nat) (h:k < l.length):(l.take (k+1)).foldl stp 0 = stp ((l.take k).foldl stp 0) l[k]:=by
 rw [List.take_add_one,List.getElem?_eq_getElem h,List.foldl_append]; rfl
theorem loop_val (s:ByteArray) (l:List UInt8) (hl:l.length≤19) (hd:∀ b ∈ l,dig b) (hv:l.foldl stp 0≤9223372036854775808) :
  loopO (taskmillref_NumberOf_l1 s (BA l)) (0,0) = bif decide (s = BA l) then taskmillref_NumberOf_j1 s (IntKind.i64.wrap (0 - (-((l.foldl stp 0:Nat):Int)))) else taskmillref_NumberOf_j1 s (-((l.foldl stp 0:Nat):Int)):=by
 have hs:(BA l).size = l.length:=BA_size l
 refine loopO_all (step:=taskmillref_NumberOf_l1 s (BA l)) (fun i=>(-(((l.take i).foldl stp 0:Nat):Int),((i:Nat):Int))) _ l.length (fun i hi=>?_) ?_
 ·have e1:decide ((i:Int) < (((BA l).size:Nat):Int)) = true:=by rw [hs]; simp; omega
  have e2:decide ((0:Int)≤(i:Int)) = true:=by simp
  have hc:(BA l).data.getD i 0 = l[i]:=by
   show l.toArray.getD i 0 = l[i]
   rw [Array.getD_eq_getD_getElem?]; simp [hi]
  have hdi:=hd l[i] (List.getElem_mem hi)
  unfold dig at hdi
  have hm:=foldl_take l (i+1)
  have hst:∀ a b,stp a b = a * 10+(b.toNat - 48):=fun _ _=>rfl
  rw [take_stp l i hi,hst] at hm
  have e3:(decide ((l[i].toNat:Int) < 48) || decide ((57:Int) < (l[i].toNat:Int))) = false:=by simp; omega
  have w8:IntKind.u8.wrap ((l[i].toNat:Int) - 48) = (l[i].toNat:Int) - 48:=by
   simp only [IntKind.wrap,IntKind.bits,IntKind.signed]
   simp
   omega
  unfold taskmillref_NumberOf_l1
  simp only [e1,e2,Bool.and_self,Bool.or_true,cond_true,Int.toNat_natCast,hc,e3,cond_false,w8]
  congr 3
  ·rw [take_stp l i hi,hst]
   generalize List.foldl stp 0 (List.take i l) = v at hm ⊢
   rw [wrap_id (x:=-(v:Int) * 10) (by omega) (by omega),wrap_id (x:=(l[i].toNat:Int) - 48) (by omega) (by omega),wrap_id (by omega) (by omega)]
   omega
  ·rw [wrapJ (by omega)]
 ·have e1:decide ((l.length:Int) < (((BA l).size:Nat):Int)) = false:=by rw [hs]; simp
  unfold taskmillref_NumberOf_l1
  simp only [e1,cond_false,List.take_length]
theorem dd_len19 (u:Nat) (h:u≤9223372036854775808):(Lib.decDigits u).length≤19:=dd_len 18 u (by omega)
theorem numberOf_itoa (m:Int) (h0:-9223372036854775808≤m) (h1:m≤9223372036854775807):taskmillref_NumberOf (itoaS m) = some (m,true):=by
 unfold taskmillref_NumberOf
 by_cases hm:m < 0
 ·obtain ⟨d1,d2,d3⟩:=dd m.natAbs
  have hl:=dd_len19 m.natAbs (by omega)
  have hlp:0 < (Lib.decDigits m.natAbs).length:=List.length_pos_iff.2 d3
  have hs:itoaS m = BA (45::Lib.decDigits m.natAbs):=by unfold itoaS Lib.itoa; rw [if_pos hm]
  have hsz:(itoaS m).size = (Lib.decDigits m.natAbs).length+1:=by rw [hs,BA_size]; rfl
  have e1:decide ((0:Int) < (((itoaS m).size:Nat):Int)) = true:=by rw [hsz]; simp <;> omega
  have e2:((((itoaS m).data.getD ((0:Int)).toNat 0).toNat:Int) == 45) = true:=by rw [hs]; rfl
  have e3:decide ((1:Int)≤(((itoaS m).size:Nat):Int)) = true:=by rw [hsz]; simp <;> omega
  have ex:(itoaS m).extract ((1:Int)).toNat (((itoaS m).size:Nat):Int).toNat = BA (Lib.decDigits m.natAbs):=by
   rw [hsz,hs]
   apply ByteArray.ext
   rw [ByteArray.data_extract]
   apply Array.ext'
   simp
  simp only [e1,e2,e3,Bool.not_true,Bool.false_or,Bool.and_self,cond_true,ex]
  unfold taskmillref_NumberOf_j2
  have e4:(decide ((((BA (Lib.decDigits m.natAbs)).size:Nat):Int) < 1) || decide ((19:Int) < (((BA (Lib.decDigits m.natAbs)).size:Nat):Int))) = false:=by rw [BA_size]; simp; omega
  rw [e4,cond_false,loop_val _ _ hl d1 (by rw [d2]; omega),d2]
  have e5:decide (itoaS m = BA (Lib.decDigits m.natAbs)) = false:=by
   rw [decide_eq_false_iff_not]
   intro e
   have:=congrArg ByteArray.size e
   rw [hsz,BA_size] at this
   omega
  rw [e5,cond_false,show (-(m.natAbs:Int)) = m by omega,j1_eq _ m h0 h1]
  simp
 ·obtain ⟨d1,d2,d3⟩:=dd m.toNat
  have hl:=dd_len19 m.toNat (by omega)
  have hlp:0 < (Lib.decDigits m.toNat).length:=List.length_pos_iff.2 d3
  have hs:itoaS m = BA (Lib.decDigits m.toNat):=by unfold itoaS Lib.itoa; rw [if_neg hm]
  have hsz:(itoaS m).size = (Lib.decDigits m.toNat).length:=by rw [hs,BA_size]
  have e1:decide ((0:Int) < (((itoaS m).size:Nat):Int)) = true:=by rw [hsz]; simp <;> omega
  have e2:((((itoaS m).data.getD ((0:Int)).toNat 0).toNat:Int) == 45) = false:=by
   have hd:=d1 _ (List.getElem_mem hlp)
   unfold dig at hd
   have hc:(itoaS m).data.getD ((0:Int)).toNat 0 = (Lib.decDigits m.toNat)[0]:=by
    rw [hs]
    show (Lib.decDigits m.toNat).toArray.getD 0 0 = _
    rw [Array.getD_eq_getD_getElem?]; simp [hlp]
   rw [hc]
   simp; omega
  simp only [e1,e2,Bool.not_true,Bool.false_or,Bool.and_false,cond_true,cond_false]
  unfold taskmillref_NumberOf_j2
  have e4:(decide ((((itoaS m).size:Nat):Int) < 1) || decide ((19:Int) < (((itoaS m).size:Nat):Int))) = false:=by rw [hsz]; simp <;> omega
  rw [e4,cond_false]
  have:=loop_val (itoaS m) _ hl d1 (by rw [d2]; omega)
  rw [← hs] at this
  rw [this,d2]
  have e5:decide (itoaS m = itoaS m) = true:=by simp
  rw [e5,cond_true,wrap_id (by omega) (by omega),show (0 - (-(m.toNat:Int))) = m by omega,j1_eq _ m h0 h1]
  simp
theorem number_eq (s:ByteArray):∃ n b,taskmillref_NumberOf s = some (n,b)∧isNum s = bif b then some n else none:=by
 cases hi:isNum s with
 | some m =>
  obtain ⟨h0,h1,rfl⟩:=isNum_some hi
  exact ⟨m,true,numberOf_itoa m h0 h1,rfl⟩
 | none =>
  have fin:∀ r:Int×Bool,(r.2 = true→isNum s = some r.1)→∃ n b,some r = some (n,b)∧(none:Option Int) = bif b then some n else none:=fun r h=>by
   obtain ⟨n,b⟩:=r
   refine ⟨n,b,rfl,?_⟩
   cases b with
   | false=>rfl
   | true=>rw [hi] at h; exact absurd (h rfl) (by simp)
  have j2:∀ d,∃ n b,taskmillref_NumberOf_j2 s d = some (n,b)∧(none:Option Int) = bif b then some n else none:=fun d=>by
   unfold taskmillref_NumberOf_j2
   cases hc:(decide ((d.size:Int) < 1) || decide ((19:Int) < (d.size:Int))) with
   | true=>exact ⟨0,false,rfl,rfl⟩
   | false =>
    simp only [Bool.or_eq_false_iff,decide_eq_false_iff_not] at hc
    have hd19:d.size≤19:=by have:=hc.2; omega
    obtain ⟨r,hr,hp⟩:=loop_tot s d hd19
    rw [cond_false,hr]
    exact fin r hp
  unfold taskmillref_NumberOf
  by_cases h:0 < s.size
  ·have e1:decide ((0:Int) < (s.size:Int)) = true:=by simp; omega
   have e3:decide ((1:Int)≤(s.size:Int)) = true:=by simp; omega
   simp only [e1,e3,Bool.not_true,Bool.false_or,Bool.true_and,cond_true]
   cases (((s.data.getD ((0:Int)).toNat 0).toNat:Int) == 45) with
   | true=>exact j2 _
   | false=>exact j2 _
  ·have e1:decide ((0:Int) < (s.size:Int)) = false:=decide_eq_false (by omega)
   simp only [e1,Bool.not_false,Bool.true_or,Bool.false_and,cond_true,cond_false]
   exact j2 s
end
end Go.Proofs.YtdckaaiidagodaaDoor
end

section
namespace Go.Proofs.YtdckaaiidagodaaDoor
open Go Go.Sx
set_option linter.unusedVariables false
set_option linter.unusedSimpArgs false
noncomputable section
theorem idx_hit (c:UInt8):∀ (s r:List UInt8),c ∉ s→Lib.index (s++c::r) [c] = (s.length:Int)
 | [],r,_=>by simp [Lib.index]
 | b::s,r,h=>by
  have hb:¬ c = b:=fun e=>h (by rw [e]; exact List.mem_cons_self)
  have ih:=idx_hit c s r (fun e=>h (List.mem_cons_of_mem _ e))
  simp only [List.cons_append,Lib.index,List.isPrefixOf,Bool.and_true,beq_iff_eq,hb,if_false,ih]
  rw [if_neg (by omega)]
  simp
theorem idx_miss (c:UInt8):∀ (l:List UInt8),c ∉ l→Lib.index l [c] = -1
 | [],_=>by simp [Lib.index]
 | b::s,h=>by
  have hb:¬ c = b:=fun e=>h (by rw [e]; exact List.mem_cons_self)
  have ih:=idx_miss c s (fun e=>h (List.mem_cons_of_mem _ e))
  simp [Lib.index,List.isPrefixOf,hb,ih]
def app1 (w:List UInt8):List (List UInt8)→List (List UInt8)
 | []=>[w]
 | f::r=>(w++f)::r
def words:List UInt8→List (List UInt8)
 | []=>[[]]
 | b::l=>if b = 32 then []::words l else app1 [b] (words l)
theorem words_ne:∀ l,words l≠[]
 | []=>by simp [words]
 | b::l=>by
  unfold words
  split
  ·simp
  ·cases words l <;> simp [app1]
theorem app1_nil {ws:List (List UInt8)} (h:ws≠[]):app1 [] ws = ws:=by
 cases ws with
 | nil=>exact absurd rfl h
 | cons f r=>rfl
theorem app1_app1 (w v:List UInt8) {ws:List (List UInt8)} (h:ws≠[]):app1 w (app1 v ws) = app1 (w++v) ws:=by
 cases ws with
 | nil=>exact absurd rfl h
 | cons f r=>simp [app1]
theorem words_miss:∀ l:List UInt8,(32:UInt8) ∉ l→words l = [l]
 | [],_=>rfl
 | b::l,h=>by
  have hb:¬ b = 32:=fun e=>h (by rw [e]; exact List.mem_cons_self)
  unfold words
  rw [if_neg hb,words_miss l (fun e=>h (List.mem_cons_of_mem _ e))]
  rfl
theorem words_hit:∀ (a r:List UInt8),(32:UInt8) ∉ a→words (a++32::r) = a::words r
 | [],r,_=>by simp [words]
 | b::a,r,h=>by
  have hb:¬ b = 32:=fun e=>h (by rw [e]; exact List.mem_cons_self)
  have ih:=words_hit a r (fun e=>h (List.mem_cons_of_mem _ e))
  rw [List.cons_append,words,if_neg hb,ih]
  rfl
abbrev sp:ByteArray:=ByteArray.mk #[32]
theorem split_words:∀ (n:Nat) (l:List UInt8),l.length < n→splitS (BA l) sp = (words l).map BA
 | 0,l,h=>by omega
 | n+1,l,h=>by
  have hidx:Lib.indexB (BA l) sp = Lib.index l [32]:=rfl
  by_cases hm:(32:UInt8) ∈ l
  ·obtain ⟨a,r,rfl,ha⟩:=List.eq_append_cons_of_mem hm
   have h1:Lib.indexB (BA (a++32::r)) sp = (a.length:Int):=by rw [hidx]; exact idx_hit 32 a r ha
   have e1:(BA (a++32::r)).extract 0 (a.length+0) = BA a:=by
    apply ByteArray.ext
    rw [ByteArray.data_extract]
    apply Array.ext'
    simp
   have e2:(BA (a++32::r)).extract (a.length+sp.size) (BA (a++32::r)).size = BA r:=by
    show (BA (a++32::r)).extract (a.length+1) (BA (a++32::r)).size = BA r
    rw [BA_size (a++32::r)]
    apply ByteArray.ext
    rw [ByteArray.data_extract]
    apply Array.ext'
    simp
    exact List.take_of_length_le (by omega)
   unfold splitS
   rw [Lib.countB_hit _ _ a.length (by decide) h1,Nat.add_comm 1,Lib.splitB_hit _ _ _ _ a.length h1,e1,e2,words_hit a r ha,List.map_cons]
   congr 1
   have:splitS (BA r) sp = (words r).map BA:=split_words n r (by simp at h; omega)
   exact this
  ·have h1:Lib.indexB (BA l) sp = -1:=by rw [hidx]; exact idx_miss 32 l hm
   unfold splitS
   rw [Lib.countB_miss _ _ h1,Lib.splitB_zero,words_miss l hm]; rfl
theorem split_eq (s:ByteArray):splitS s sp = (words s.data.toList).map BA:=by
 have:=split_words (s.data.toList.length+1) s.data.toList (Nat.lt_succ_self _)
 rwa [BA_self] at this
theorem getD_mid (p r:List UInt8) (c:UInt8):(BA (p++c::r)).data.getD p.length 0 = c:=by
 show (p++c::r).toArray.getD p.length 0 = c
 rw [Array.getD_eq_getD_getElem?]; simp
theorem ext_mid (p r:List UInt8) (c:UInt8):(BA (p++c::r)).extract p.length (p.length+1) = BA [c]:=by
 apply ByteArray.ext
 rw [ByteArray.data_extract]
 apply Array.ext'
 simp
theorem words_loop (l:List UInt8) (hl:l.length≤100000):∀ (r p w:List UInt8) (out:List ByteArray),l = p++r→w.length≤p.length→out.length≤p.length →
  loopO (taskmillref_Words_l1 (BA l)) (BA w,(p.length:Int),out) = some (out++(app1 w (words r)).map BA)
 | [],p,w,out,he,hw,ho=>by
  have hs:(BA l).size = p.length:=by rw [BA_size,he]; simp
  have hp:p.length≤100000:=by rw [he] at hl; simpa using hl
  have e1:decide ((p.length:Int) < (((BA l).size:Nat):Int)) = false:=by rw [hs]; simp
  have e2:decide ((out++([BA w]:List ByteArray)).length * 16≤140737488355328) = true:=by simp; omega
  refine loopO_inr ?_
  unfold taskmillref_Words_l1
  simp only [e1,cond_false,e2,cond_true]
  simp [words,app1]
 | c::r,p,w,out,he,hw,ho=>by
  have hs:(BA l).size = p.length+r.length+1:=by rw [BA_size,he]; simp; omega
  have hp:p.length+r.length+1≤100000:=by rw [he] at hl; simp at hl; omega
  have e1:decide ((p.length:Int) < (((BA l).size:Nat):Int)) = true:=by rw [hs]; simp; omega
  have e2:decide ((0:Int)≤(p.length:Int)) = true:=by simp
  have hc:(BA l).data.getD p.length 0 = c:=by rw [he]; exact getD_mid p r c
  have w1:IntKind.i64.wrap ((p.length:Int)+1) = ((p.length+1:Nat):Int):=wrapJ (by omega)
  have he':l = (p++[c])++r:=by rw [he]; simp
  have hpl:(p++[c]).length = p.length+1:=by simp
  by_cases h32:c = 32
  ·subst h32
   have e3:decide ((out++([BA w]:List ByteArray)).length * 16≤140737488355328) = true:=by simp; omega
   have st:taskmillref_Words_l1 (BA l) (BA w,(p.length:Int),out) = some (.inl (BA [],((p.length+1:Nat):Int),out++[BA w])):=by
    unfold taskmillref_Words_l1 taskmillref_Words_j1
    simp only [e1,e2,Bool.and_self,cond_true,Int.toNat_natCast,hc,e3,w1]
    rfl
   rw [loopO_inl st,← hpl,words_loop l hl r (p++[32]) [] (out++[BA w]) he' (by simp) (by simp; omega)]
   rw [app1_nil (words_ne r)]
   simp [words,app1]
  ·have e4:((c.toNat:Int) == 32) = false:=by
    simp only [beq_eq_false_iff_ne,ne_eq]
    intro e
    have h3:c.toNat = 32:=(by omega)
    exact h32 (UInt8.toNat_inj.1 (by rw [h3]; rfl))
   have e5:decide ((p.length:Int)≤((p.length+1:Nat):Int)) = true:=by simp; omega
   have e6:decide (((p.length+1:Nat):Int)≤(((BA l).size:Nat):Int)) = true:=by rw [hs]; simp; omega
   have ex:(BA l).extract p.length (p.length+1) = BA [c]:=by rw [he]; exact ext_mid p r c
   have e7:decide ((BA w).size+(BA [c]).size≤9223372036854775807) = true:=by rw [BA_size,BA_size]; simp; omega
   have st:taskmillref_Words_l1 (BA l) (BA w,(p.length:Int),out) = some (.inl (BA (w++[c]),((p.length+1:Nat):Int),out)):=by
    unfold taskmillref_Words_l1 taskmillref_Words_j1
    simp only [e1,e2,Bool.and_self,cond_true,Int.toNat_natCast,hc,e4,cond_false,w1,e5,e6,ex,e7,BA_append]
   rw [loopO_inl st,← hpl,words_loop l hl r (p++[c]) (w++[c]) out he' (by simp; omega) (by simp; omega)]
   rw [words,if_neg h32,app1_app1 w [c] (words_ne r)]
theorem words_eq (s:ByteArray) (hs:s.size≤100000):taskmillref_Words s = some ((words s.data.toList).map BA):=by
 unfold taskmillref_Words
 have hl:s.data.toList.length = s.size:=by rw [← BA_size,BA_self]
 have:=words_loop s.data.toList (by omega) s.data.toList [] [] [] rfl (Nat.le_refl _) (Nat.le_refl _)
 rw [BA_self,app1_nil (words_ne _)] at this
 exact this
end
end Go.Proofs.YtdckaaiidagodaaDoor
end

section
namespace Go.Proofs.YtdckaaiidagodaaDoor
open Go Go.Sx
set_option linter.unusedVariables false
set_option linter.unusedSimpArgs false
noncomputable section
def argOk (p:GProgram) (k x:Int):Bool:=(taskmillref_ArgOk p k x).getD false
theorem argOk_eq (p:GProgram) (k x:Int):taskmillref_ArgOk p k x = some (argOk p k x):=by
 unfold argOk taskmillref_ArgOk taskmillref_ArgOk_j1
 (repeat' (rw [Bool.cond_eq_ite]; split)) <;> rfl
def kindsL:List Int:=[110,114,99,109,112,108,103,107,45]
theorem fits_eq (p:GProgram) (k x:Int) (hk:k ∈ kindsL):code_fits p k x = taskmillref_ArgOk p k x:=by
 simp only [kindsL,List.mem_cons,List.not_mem_nil,or_false] at hk
 rcases hk with rfl | rfl | rfl | rfl | rfl | rfl | rfl | rfl | rfl <;> rfl
def kd (op:Int) (j:Nat):Int:=(((ix refArgs op).data.getD j 0).toNat:Int)
theorem tab_all:∀ k:Nat,k < 23→(ix codeKinds ((k:Nat):Int)).args = ix refArgs ((k:Nat):Int)∧(1≤k→(ix refArgs ((k:Nat):Int)).size = 2∧kd k 0 ∈ kindsL∧kd k 1 ∈ kindsL):=by decide
theorem tab_at (op:Int) (h1:1≤op) (h2:op≤22):(ix codeKinds op).args = ix refArgs op∧(ix refArgs op).size = 2∧kd op 0 ∈ kindsL∧kd op 1 ∈ kindsL:=by
 obtain ⟨k,rfl⟩:∃ k:Nat,op = (k:Int):=⟨op.toNat,by omega⟩
 obtain ⟨a,b⟩:=tab_all k (by omega)
 obtain ⟨b1,b2,b3⟩:=b (by omega)
 exact ⟨a,b1,b2,b3⟩
def badI (p:GProgram) (i:Int):Option Fault :=
 if (ix p.Code i).Op < 1∨22 < (ix p.Code i).Op then some ⟨4,i⟩
 else if argOk p (kd (ix p.Code i).Op 0) (ix p.Code i).A = true∧argOk p (kd (ix p.Code i).Op 1) (ix p.Code i).B = true then none
 else some ⟨5,i⟩
theorem inr (p:GProgram) (i:Nat) (h:i < p.Code.length):((decide ((0:Int)≤(i:Int))) && (decide ((i:Int) < (p.Code.length:Int)))) = true:=by
 simp; omega
theorem wrapS {n:Nat} (h:n < 100000):IntKind.i64.wrap ((n:Int)+1) = ((n+1:Nat):Int):=by
 rw [wrap_id (by omega) (by omega)]; omega
theorem ref_step (p:GProgram) (hp:p.Code.length≤1000) (i:Nat) (h:i < p.Code.length):taskmillref_ProgramFault_l1 p (i:Int) = toldOr (badI p i) (((i+1:Nat)):Int):=by
 unfold taskmillref_ProgramFault_l1 badI
 have h0:decide ((i:Int) < (p.Code.length:Int)) = true:=by simp; omega
 simp only [inr p i h,h0,cond_true]
 generalize hc:ix p.Code (i:Int) = c
 by_cases hr:c.Op < 1∨22 < c.Op
 ·have:(decide (c.Op < 1) || decide ((22:Int) < c.Op)) = true:=by simpa using hr
  rw [this,if_pos hr]; rfl
 ·have e0:(decide (c.Op < 1) || decide ((22:Int) < c.Op)) = false:=by simpa using hr
  have hr':1≤c.Op∧c.Op≤22:=by omega
  obtain ⟨t1,t2,t3,t4⟩:=tab_at c.Op hr'.1 hr'.2
  have e1:(decide ((0:Int)≤c.Op) && decide (c.Op < (refArgs.length:Int))) = true:=by
   have:refArgs.length = 23:=rfl
   simp [this]; omega
  rw [e0,if_neg hr]
  simp only [cond_false,e1,cond_true,t2]
  show (bif decide ((0:Int) < ((2:Nat):Int)) then (taskmillref_ArgOk p (kd c.Op 0) c.A).bind _ else none) = _
  rw [argOk_eq p (kd c.Op 0)]
  simp only [show decide ((0:Int) < ((2:Nat):Int)) = true from rfl,show decide ((1:Int) < ((2:Nat):Int)) = true from rfl,cond_true,Option.bind_some]
  cases ha:argOk p (kd c.Op 0) c.A with
  | false=>simp [taskmillref_ProgramFault_j1,taskmillref_F,toldOr]
  | true =>
   simp only [Bool.not_true,cond_false]
   show ((taskmillref_ArgOk p (kd c.Op 1) c.B).bind _) = _
   rw [argOk_eq p (kd c.Op 1)]
   cases hb:argOk p (kd c.Op 1) c.B with
   | false=>simp [taskmillref_ProgramFault_j1,taskmillref_F,toldOr]
   | true=>simp [taskmillref_ProgramFault_j1,toldOr]; exact wrapS (by omega)
theorem chk_step (p:GProgram) (i:Nat) (h:i < p.Code.length):code_Check_l1 p (i:Int) = taskmillref_ProgramFault_l1 p (i:Int):=by
 unfold taskmillref_ProgramFault_l1 code_Check_l1
 have h0:decide ((i:Int) < (p.Code.length:Int)) = true:=by simp; omega
 simp only [inr p i h,h0,cond_true]
 generalize hc:ix p.Code (i:Int) = c
 have e9:(decide ((23:Int)≤c.Op)) = (decide ((22:Int) < c.Op)):=decide_eq_decide.2 (by omega)
 rw [e9]
 by_cases hr:c.Op < 1∨22 < c.Op
 ·have:(decide (c.Op < 1) || decide ((22:Int) < c.Op)) = true:=by simpa using hr
  rw [this]; rfl
 ·have e0:(decide (c.Op < 1) || decide ((22:Int) < c.Op)) = false:=by simpa using hr
  have hr':1≤c.Op∧c.Op≤22:=by omega
  obtain ⟨t1,t2,t3,t4⟩:=tab_at c.Op hr'.1 hr'.2
  have e1:(decide ((0:Int)≤c.Op) && decide (c.Op < (refArgs.length:Int))) = true:=by
   have:refArgs.length = 23:=rfl
   simp [this]; omega
  have e2:(decide ((0:Int)≤c.Op) && decide (c.Op < (codeKinds.length:Int))) = true:=by
   have:codeKinds.length = 23:=rfl
   simp [this]; omega
  rw [e0]
  simp only [cond_false,e1,e2,cond_true,t1,t2]
  have f1:=fits_eq p (kd c.Op 0) c.A t3
  have f2:=fits_eq p (kd c.Op 1) c.B t4
  unfold kd at f1 f2
  simp only [show ((0:Int)).toNat = 0 from rfl,show ((1:Int)).toNat = 1 from rfl,f1,f2]
  rfl
def badP (p:GProgram) (i:Nat):Option Fault:=if ix p.Pipes (i:Int) < 0∨100 < ix p.Pipes (i:Int) then some ⟨8,i⟩ else none
def progF (p:GProgram):Fault :=
 if 1000 < p.Code.length∨20 < p.Pipes.length then ⟨2,0⟩
 else if p.Cells < 0∨20 < p.Cells∨p.Locks < 0∨20 < p.Locks∨p.Groups < 0∨20 < p.Groups then ⟨3,0⟩
 else (firstAt (badP p) p.Pipes.length).getD ((firstAt (fun i=>badI p ((i:Nat):Int)) p.Code.length).getD ⟨0,0⟩)
theorem ref_end (p:GProgram):taskmillref_ProgramFault_l1 p (p.Code.length:Int) = some (.inr ⟨0,0⟩):=by
 unfold taskmillref_ProgramFault_l1; simp
theorem chk_end (p:GProgram):code_Check_l1 p (p.Code.length:Int) = some (.inr ⟨0,0⟩):=by
 unfold code_Check_l1; simp
theorem ref_loop (p:GProgram) (hp:p.Code.length≤1000):loopO (taskmillref_ProgramFault_l1 p) 0 = some ((firstAt (fun i=>badI p ((i:Nat):Int)) p.Code.length).getD ⟨0,0⟩) :=
 loopO_findP (step:=taskmillref_ProgramFault_l1 p) (fun i=>((i:Nat):Int)) (fun i=>badI p ((i:Nat):Int)) ⟨0,0⟩ p.Code.length (fun i hi _=>ref_step p hp i hi) (fun _=>ref_end p)
theorem chk_loop (p:GProgram) (hp:p.Code.length≤1000):loopO (code_Check_l1 p) 0 = some ((firstAt (fun i=>badI p ((i:Nat):Int)) p.Code.length).getD ⟨0,0⟩) :=
 loopO_findP (step:=code_Check_l1 p) (fun i=>((i:Nat):Int)) (fun i=>badI p ((i:Nat):Int)) ⟨0,0⟩ p.Code.length (fun i hi _=>(chk_step p i hi).trans (ref_step p hp i hi)) (fun _=>chk_end p)
theorem ref_eq (p:GProgram):taskmillref_ProgramFault p = some (progF p):=by
 unfold taskmillref_ProgramFault progF
 by_cases h1:1000 < p.Code.length∨20 < p.Pipes.length
 ·have:(decide ((1000:Int) < (p.Code.length:Int)) || decide ((20:Int) < (p.Pipes.length:Int))) = true:=by simp; omega
  rw [this,if_pos h1]; rfl
 ·have:(decide ((1000:Int) < (p.Code.length:Int)) || decide ((20:Int) < (p.Pipes.length:Int))) = false:=by simp; omega
  rw [this,if_neg h1,cond_false]
  by_cases h2:p.Cells < 0∨20 < p.Cells∨p.Locks < 0∨20 < p.Locks∨p.Groups < 0∨20 < p.Groups
  ·rw [if_pos h2]
   have:((decide (p.Cells < 0)) || ((decide ((20:Int) < p.Cells)) || ((decide (p.Locks < 0)) || ((decide ((20:Int) < p.Locks)) || ((decide (p.Groups < 0)) || (decide ((20:Int) < p.Groups))))))) = true:=by simpa using h2
   rw [this]; rfl
  ·rw [if_neg h2]
   have:((decide (p.Cells < 0)) || ((decide ((20:Int) < p.Cells)) || ((decide (p.Locks < 0)) || ((decide ((20:Int) < p.Locks)) || ((decide (p.Groups < 0)) || (decide ((20:Int) < p.Groups))))))) = false:=by simpa using h2
   rw [this,cond_false]
   refine loopO_findD (step:=taskmillref_ProgramFault_l2 p) (fun i=>((i:Nat):Int)) (badP p) _ p.Pipes.length (fun i hi hb=>?_) (fun i r hi hb=>?_) (fun _=>?_)
   ·unfold taskmillref_ProgramFault_l2
    unfold badP at hb
    split at hb
    ·cases hb
    ·rename_i h
     have h0:decide ((i:Int) < (p.Pipes.length:Int)) = true:=by simp; omega
     simp only [show decide ((0:Int)≤(i:Int)) = true from by simp,h0,Bool.and_self,Bool.or_true,cond_true]
     have:(decide (ix p.Pipes (i:Int) < 0) || decide ((100:Int) < ix p.Pipes (i:Int))) = false:=by simpa using h
     rw [this,cond_false,wrapS (by omega)]
   ·unfold taskmillref_ProgramFault_l2
    unfold badP at hb
    split at hb
    ·rename_i h
     cases hb
     have h0:decide ((i:Int) < (p.Pipes.length:Int)) = true:=by simp; omega
     simp only [show decide ((0:Int)≤(i:Int)) = true from by simp,h0,Bool.and_self,Bool.or_true,cond_true]
     have:(decide (ix p.Pipes (i:Int) < 0) || decide ((100:Int) < ix p.Pipes (i:Int))) = true:=by simpa using h
     rw [this,cond_true]; rfl
    ·cases hb
   ·unfold taskmillref_ProgramFault_l2
    have h0:decide ((p.Pipes.length:Int) < (p.Pipes.length:Int)) = false:=by simp
    rw [h0,cond_false]
    show Option.map Sum.inr (loopO (taskmillref_ProgramFault_l1 p) 0) = _
    rw [ref_loop p (by omega)]; rfl
theorem chk_eq (p:GProgram):code_Check p = some (progF p):=by
 unfold code_Check progF
 by_cases h1:1000 < p.Code.length∨20 < p.Pipes.length
 ·have:(decide ((1000:Int) < (p.Code.length:Int)) || decide ((20:Int) < (p.Pipes.length:Int))) = true:=by simp; omega
  rw [this,if_pos h1]; rfl
 ·have:(decide ((1000:Int) < (p.Code.length:Int)) || decide ((20:Int) < (p.Pipes.length:Int))) = false:=by simp; omega
  rw [this,if_neg h1,cond_false]
  by_cases h2:p.Cells < 0∨20 < p.Cells∨p.Locks < 0∨20 < p.Locks∨p.Groups < 0∨20 < p.Groups
  ·rw [if_pos h2]
   have:((decide ((min (min p.Cells p.Locks) p.Groups) < 0)) || (decide ((20:Int) < (max (max p.Cells p.Locks) p.Groups)))) = true:=by
    rw [Bool.or_eq_true,decide_eq_true_eq,decide_eq_true_eq]; omega
   rw [this]; rfl
  ·rw [if_neg h2]
   have:((decide ((min (min p.Cells p.Locks) p.Groups) < 0)) || (decide ((20:Int) < (max (max p.Cells p.Locks) p.Groups)))) = false:=by
    rw [Bool.or_eq_false_iff,decide_eq_false_iff_not,decide_eq_false_iff_not]; omega
   rw [this,cond_false]
   refine loopO_findD (step:=code_Check_l2 p) (fun i=>((i:Nat):Int)) (badP p) _ p.Pipes.length (fun i hi hb=>?_) (fun i r hi hb=>?_) (fun _=>?_)
   ·unfold code_Check_l2
    unfold badP at hb
    split at hb
    ·cases hb
    ·rename_i h
     have h0:decide ((i:Int) < (p.Pipes.length:Int)) = true:=by simp; omega
     simp only [show decide ((0:Int)≤(i:Int)) = true from by simp,h0,Bool.and_self,cond_true]
     have:(decide (ix p.Pipes (i:Int) < 0) || decide ((100:Int) < ix p.Pipes (i:Int))) = false:=by simpa using h
     rw [this,cond_false,wrapS (by omega)]
   ·unfold code_Check_l2
    unfold badP at hb
    split at hb
    ·rename_i h
     cases hb
     have h0:decide ((i:Int) < (p.Pipes.length:Int)) = true:=by simp; omega
     simp only [show decide ((0:Int)≤(i:Int)) = true from by simp,h0,Bool.and_self,cond_true]
     have:(decide (ix p.Pipes (i:Int) < 0) || decide ((100:Int) < ix p.Pipes (i:Int))) = true:=by simpa using h
     rw [this,cond_true]; rfl
    ·cases hb
   ·unfold code_Check_l2
    have h0:decide ((p.Pipes.length:Int) < (p.Pipes.length:Int)) = false:=by simp
    rw [h0,cond_false]
    show Option.map Sum.inr (loopO (code_Check_l1 p) 0) = _
    rw [chk_loop p (by omega)]; rfl
structure Ok (p:GProgram):Prop where
 len:p.Code.length≤1000
 ins:∀ i:Int,0≤i→i < (p.Code.length:Int)→badI p i = none
theorem ok_of {p:GProgram} (h:(progF p).Code = 0):Ok p:=by
 unfold progF at h
 split at h
 ·simp at h
 ·rename_i h1
  split at h
  ·simp at h
  ·cases hf0:firstAt (badP p) p.Pipes.length with
   | some f =>
    rw [hf0] at h
    obtain ⟨i,hi,hb,_⟩:=firstAt_some _ hf0
    unfold badP at hb
    split at hb
    ·cases hb; simp at h
    ·cases hb
   | none =>
    rw [hf0] at h
    simp only [Option.getD_none] at h
    refine ⟨by omega,fun i h2 h3=>?_⟩
    cases hf:firstAt (fun i=>badI p ((i:Nat):Int)) p.Code.length with
    | none =>
     have:=(firstAt_none _).1 hf i.toNat (by omega)
     rwa [show (i.toNat:Int) = i by omega] at this
    | some f =>
     rw [hf] at h
     obtain ⟨j,hj,hb,_⟩:=firstAt_some _ hf
     simp only [Option.getD_some] at h
     unfold badI at hb
     split at hb
     ·cases hb; simp at h
     ·split at hb
      ·cases hb
      ·cases hb; simp at h
theorem progF_zero {p:GProgram} (h:(progF p).Code = 0):progF p = ⟨0,0⟩:=by
 unfold progF at h ⊢
 split
 ·rename_i h1; rw [if_pos h1] at h; simp at h
 ·rename_i h1
  rw [if_neg h1] at h
  split
  ·rename_i h2; rw [if_pos h2] at h; simp at h
  ·rename_i h2
   rw [if_neg h2] at h
   cases hf0:firstAt (badP p) p.Pipes.length with
   | some f =>
    rw [hf0] at h
    obtain ⟨i,hi,hb,_⟩:=firstAt_some _ hf0
    unfold badP at hb
    split at hb
    ·cases hb; simp at h
    ·cases hb
   | none =>
    rw [hf0] at h
    simp only [Option.getD_none] at h ⊢
    cases hf:firstAt (fun i=>badI p ((i:Nat):Int)) p.Code.length with
    | none=>rfl
    | some f =>
     rw [hf] at h
     obtain ⟨j,hj,hb,_⟩:=firstAt_some _ hf
     simp only [Option.getD_some] at h
     unfold badI at hb
     split at hb
     ·cases hb; simp at h
     ·split at hb
      ·cases hb
      ·cases hb; simp at h
theorem vast_eq (p:GProgram):taskmilllaw_vastProgram p = some (decide (2000 < p.Code.length) || decide (2000 < p.Pipes.length)):=by
 unfold taskmilllaw_vastProgram
 congr 2
 ·exact decide_eq_decide.2 (by omega)
 ·exact decide_eq_decide.2 (by omega)
theorem own_eq (p:GProgram) (h1:p.Code.length≤2000) (h2:p.Pipes.length≤2000):taskmilllaw_ownProgram p = some (p.Cells,p.Locks,p.Groups,p.Code,p.Pipes):=by
 unfold taskmilllaw_ownProgram taskmilllaw_ownCode taskmilllaw_own
 rw [decide_eq_true (by omega),decide_eq_true (by omega)]; rfl
end
end Go.Proofs.YtdckaaiidagodaaDoor
end

section
namespace Go.Proofs.YtdckaaiidagodaaDoor
open Go Go.Sx
set_option linter.unusedVariables false
set_option linter.unusedSimpArgs false
noncomputable section
def opN (w:ByteArray):Nat→Nat
 | 0=>0
 | n+1=>if 1≤n∧ix refNames (n:Int) = w then n else opN w n
theorem opN_spec (w:ByteArray):∀ n,(opN w n = 0∧∀ i,1≤i→i < n→ix refNames ((i:Nat):Int)≠w)∨(1≤opN w n∧opN w n < n∧ix refNames ((opN w n:Nat):Int) = w)
 | 0=>.inl ⟨rfl,fun i _ h=>absurd h (Nat.not_lt_zero _)⟩
 | n+1=>by
  unfold opN
  split
  ·rename_i h; exact .inr ⟨h.1,Nat.lt_succ_self _,h.2⟩
  ·rename_i h
   rcases opN_spec w n with ⟨h1,h2⟩ | ⟨h1,h2,h3⟩
   ·refine .inl ⟨h1,fun i hi hn e=>?_⟩
    by_cases hin:i < n
    ·exact h2 i hi hin e
    ·obtain rfl:i = n:=by omega
     exact h ⟨hi,e⟩
   ·exact .inr ⟨h1,by omega,h3⟩
theorem names_inj:∀ i:Nat,i < 23→∀ j:Nat,j < 23→ix refNames ((i:Nat):Int) = ix refNames ((j:Nat):Int)→i = j:=by decide
theorem names_eq:∀ i:Nat,i < 23→(ix codeKinds ((i:Nat):Int)).name = ix refNames ((i:Nat):Int):=by decide
theorem names_ne:∀ i:Nat,i < 23→1≤i→ix refNames ((i:Nat):Int)≠ByteArray.empty:=by decide
theorem index_eq (w:ByteArray) (r:List ByteArray):slices_IndexFunc_kind codeKinds (w::r) = some (if opN w 23 = 0 then -1 else ((opN w 23:Nat):Int)):=by
 have hk:codeKinds.length = 23:=rfl
 obtain ⟨v,hv,hp⟩:∃ v,slices_IndexFunc_kind codeKinds (w::r) = some v∧((v = -1∧∀ i:Nat,1≤i→i < 23→ix refNames ((i:Nat):Int)≠w)∨∃ i:Nat,v = i∧1≤i∧i < 23∧ix refNames ((i:Nat):Int) = w):=by
  unfold slices_IndexFunc_kind
  refine loopO_inv (step:=slices_IndexFunc_kind_l1 codeKinds (w::r)) (fun i:Int=>(0≤i∧i≤23)∧∀ j:Nat,1≤j→(j:Int) < i→ix refNames ((j:Nat):Int)≠w) (fun i=>(23 - i).toNat) (fun v=>(v = -1∧∀ i:Nat,1≤i→i < 23→ix refNames ((i:Nat):Int)≠w)∨∃ i:Nat,v = i∧1≤i∧i < 23∧ix refNames ((i:Nat):Int) = w) (fun i hi=>?_) (s0:=(0:Int)) ⟨⟨Int.le_refl 0,by decide⟩,fun j _ h=>by omega⟩
  obtain ⟨⟨h0,h1⟩,hn⟩:=hi
  obtain ⟨n,rfl⟩:=Int.eq_ofNat_of_zero_le h0
  unfold slices_IndexFunc_kind_l1 code_line_1
  have e1:decide ((0:Int) < (((w::r).length:Nat):Int)) = true:=by simp
  have e3:ix (w::r) (0:Int) = w:=rfl
  by_cases h:n < 23
  ·have e0:decide ((n:Int) < (codeKinds.length:Int)) = true:=by rw [hk]; simp; omega
   have e2:decide ((0:Int)≤(n:Int)) = true:=by simp
   simp only [e0,e1,e2,e3,Bool.and_self,cond_true,Option.bind_some,names_eq n h]
   cases hc:(decide (ix refNames (n:Int) = w) && !decide (ix refNames (n:Int) = ByteArray.empty)) with
   | true =>
    simp only [Bool.and_eq_true,decide_eq_true_eq,Bool.not_eq_true',decide_eq_false_iff_not] at hc
    refine .inr ⟨_,rfl,.inr ⟨n,rfl,?_,h,hc.1⟩⟩
    rcases Nat.eq_zero_or_pos n with rfl | hp
    ·exact absurd rfl hc.2
    ·exact hp
   | false =>
    refine .inl ⟨_,rfl,⟨by rw [wrapJ (by omega)]; omega,fun j hj hjn=>?_⟩,by rw [wrapJ (by omega)]; omega⟩
    rw [wrapJ (by omega)] at hjn
    by_cases hjl:j < n
    ·exact hn j hj (by omega)
    ·obtain rfl:j = n:=by omega
     intro e
     have:=names_ne j h hj
     rw [e] at this
     simp [e,this] at hc
  ·have e0:decide ((n:Int) < (codeKinds.length:Int)) = false:=by rw [hk]; simp; omega
   simp only [e0,cond_false]
   exact .inr ⟨-1,rfl,.inl ⟨rfl,fun i hi hi2=>hn i hi (by omega)⟩⟩
 rw [hv]
 congr 1
 rcases opN_spec w 23 with ⟨h1,h2⟩ | ⟨h1,h2,h3⟩
 ·rw [if_pos h1]
  rcases hp with ⟨rfl,-⟩ | ⟨i,rfl,hi,hi2,hi3⟩
  ·rfl
  ·exact absurd hi3 (h2 i hi hi2)
 ·rw [if_neg (by omega)]
  rcases hp with ⟨rfl,hp⟩ | ⟨i,rfl,hi,hi2,hi3⟩
  ·exact absurd h3 (hp _ h1 h2)
  ·rw [names_inj i hi2 (opN w 23) h2 (hi3.trans h3.symm)]
def pre (k:UInt8):List UInt8:=if k = 110∨k = 107∨k = 45 then [] else if k = 99 then [64] else if k = 109 then [99] else [k]
def kindsU:List UInt8:=[110,114,99,109,112,108,103,107,45]
def kU (op:Int) (j:Nat):UInt8:=(ix refArgs op).data.getD j 0
theorem kU_in:∀ o:Nat,o < 23→1≤o→∀ j:Nat,j < 2→kU ((o:Nat):Int) j ∈ kindsU:=by decide
theorem args_size:∀ o:Nat,o < 23→1≤o→(ix refArgs ((o:Nat):Int)).size = 2:=by decide
theorem args_eq:∀ o:Nat,o < 23→(ix codeKinds ((o:Nat):Int)).args = ix refArgs ((o:Nat):Int):=by decide
theorem letter_eq (k:UInt8) (hk:k ∈ kindsU):code_letter (k.toNat:Int) = some (BA (pre k)):=by
 simp only [kindsU,List.mem_cons,List.not_mem_nil,or_false] at hk
 rcases hk with rfl | rfl | rfl | rfl | rfl | rfl | rfl | rfl | rfl <;> rfl
def numP (k:UInt8) (t:List UInt8):Option Int:=if (pre k).isPrefixOf t = true then isNum (BA (t.drop (pre k).length)) else none
def argS (k:UInt8) (ws:List (List UInt8)):Option (Int×List (List UInt8)) :=
 if k = 45 then some (0,ws) else match ws with
  | []=>none
  | t::r=>(numP k t).map fun n=>(n,r)
def instrL (op:Int) (ws:List (List UInt8)):Option GInstr:=(argS (kU op 0) ws).bind fun p=>(argS (kU op 1) p.2).bind fun q=>if q.2 = [] then some ⟨op,p.1,q.1⟩ else none
def instrS (l:List UInt8):Option GInstr :=
 match words l with
 | []=>none
 | w::ws=>if opN (BA w) 23 = 0 then none else instrL ((opN (BA w) 23:Nat):Int) ws
theorem cutP_eq (t p:List UInt8):strings_CutPrefix (BA t) (BA p) = some (bif p.isPrefixOf t then (BA (t.drop p.length),true) else (BA t,false)):=by
 unfold strings_CutPrefix stringslite_CutPrefix stringslite_HasPrefix
 simp only [BA_size]
 by_cases h:p.length≤t.length
 ·have e1:decide ((p.length:Int)≤(t.length:Int)) = true:=by simp; omega
  have e2:decide ((0:Int)≤(p.length:Int)) = true:=by simp
  have ex:(BA t).extract 0 p.length = BA (t.take p.length):=by
   apply ByteArray.ext
   rw [ByteArray.data_extract]
   apply Array.ext'
   simp
  have ed:(BA t).extract p.length t.length = BA (t.drop p.length):=by
   apply ByteArray.ext
   rw [ByteArray.data_extract]
   apply Array.ext'
   simp
   exact List.take_of_length_le (by simp)
  have hp:decide (BA (t.take p.length) = BA p) = p.isPrefixOf t:=by
   rw [Bool.eq_iff_iff,decide_eq_true_eq,List.isPrefixOf_iff_prefix]
   constructor
   ·intro e
    have:=congrArg (fun x:ByteArray=>x.data.toList) e
    simp only at this
    exact List.prefix_iff_eq_take.2 (by simpa using this.symm)
   ·intro e
    rw [List.prefix_iff_eq_take.1 e]; simp
  simp only [e1,e2,Bool.not_true,Bool.false_or,Bool.and_self,Bool.true_and,cond_true,Option.bind_some,Int.toNat_natCast,show ((0:Int)).toNat = 0 from rfl,ex,ed,hp]
  cases p.isPrefixOf t <;> rfl
 ·have e1:decide ((p.length:Int)≤(t.length:Int)) = false:=by simp; omega
  have hp:p.isPrefixOf t = false:=by
   rw [Bool.eq_false_iff]
   intro e
   have:=(List.isPrefixOf_iff_prefix.1 e).length_le
   omega
  simp only [e1,Bool.not_false,Bool.true_or,cond_true,Option.bind_some,Bool.false_and,hp]
  rfl
end
end Go.Proofs.YtdckaaiidagodaaDoor
end

section
namespace Go.Proofs.YtdckaaiidagodaaDoor
open Go Go.Sx
set_option linter.unusedVariables false
set_option linter.unusedSimpArgs false
noncomputable section
theorem k45 (k:UInt8):((k.toNat:Int) == 45) = decide (k = 45):=by
 rw [Bool.eq_iff_iff]
 simp only [beq_iff_eq,decide_eq_true_eq]
 constructor
 ·intro e
  have h:k.toNat = 45:=by omega
  exact UInt8.toNat_inj.1 (by rw [h]; rfl)
 ·rintro rfl; rfl
theorem line_stepE (o q:Nat) (ho:o < 23) (ho1:1≤o) (hq:q < 2) (xs:List Int) (hx:xs.length = 2) (hx0:xs.set q 0 = xs) (ws:List (List UInt8)) (hw:∀ t ∈ ws,t.length≤100000) :
  code_line_l1 ((o:Int),(q:Int),(o:Int),xs,ws.map BA) = some (match argS (kU (o:Int) q) ws with
   | none=>.inr (⟨o,0,0⟩,false)
   | some p=>.inl ((o:Int),((q+1:Nat):Int),(o:Int),xs.set q p.1,p.2.map BA)):=by
 have hkl:codeKinds.length = 23:=rfl
 have e1:decide ((q:Int) < 2) = true:=by simp; omega
 have e2:decide ((0:Int)≤(o:Int)) = true:=by simp
 have e3:decide ((o:Int) < (codeKinds.length:Int)) = true:=by rw [hkl]; simp; omega
 have e4:decide ((0:Int)≤(q:Int)) = true:=by simp
 have e5:decide ((q:Int) < ((((ix codeKinds (o:Int)).args).size:Nat):Int)) = true:=by rw [args_eq o ho,args_size o ho ho1]; simp; omega
 have hc:((ix codeKinds (o:Int)).args).data.getD q 0 = kU (o:Int) q:=by rw [args_eq o ho]; rfl
 have w1:IntKind.i64.wrap ((q:Int)+1) = ((q+1:Nat):Int):=wrapJ (by omega)
 have hk:=kU_in o ho ho1 q hq
 unfold code_line_l1
 simp only [e1,e2,e3,e4,e5,Bool.and_self,cond_true,Int.toNat_natCast,hc]
 generalize kU (o:Int) q = k at hk ⊢
 rw [k45]
 by_cases h45:k = 45
 ·subst h45
  simp only [decide_true,cond_true,argS,if_true,code_line_j1,w1,hx0]
 ·have e6:decide (k = 45) = false:=by simpa using h45
  simp only [e6,cond_false]
  cases ws with
  | nil=>simp [argS,h45]
  | cons t r =>
   have ht:=hw t List.mem_cons_self
   have e7:((((t::r).map BA).length:Nat):Int) = ((r.length+1:Nat):Int):=by simp
   have e8:(((((t::r).map BA).length:Nat):Int) == 0) = false:=by rw [e7]; simp; omega
   have e9:decide ((0:Int) < ((((t::r).map BA).length:Nat):Int)) = true:=decide_eq_true (by rw [e7]; omega)
   have e10:ix ((t::r).map BA) (0:Int) = BA t:=rfl
   have e11:decide ((q:Int) < (xs.length:Int)) = true:=by rw [hx]; simp; omega
   have e12:decide ((1:Int)≤((((t::r).map BA).length:Nat):Int)) = true:=by rw [e7]; simp; omega
   have e13:cut ((t::r).map BA) (1:Int) ((((t::r).map BA).length:Nat):Int) = r.map BA:=by
    unfold cut
    rw [e7]
    simp
    exact List.take_of_length_le (by simp)
   have harg:argS k (t::r) = (numP k t).map fun n=>(n,r):=by unfold argS; rw [if_neg h45]
   rw [harg]
   simp only [e8,cond_false,e9,cond_true,letter_eq k hk,Option.bind_some,e10,cutP_eq]
   unfold numP
   cases hp:(pre k).isPrefixOf t with
   | false =>
    have es:decide ((BA t).size < 4294967281) = true:=by rw [BA_size]; simp; omega
    simp only [cond_false,Bool.false_eq_true,if_false,Option.map_none,Bool.not_false,cond_true,strconv_Atoi,strconv_Atoi_1,es,Option.bind_some,code_line_j2,code_line_j3]
    cases atoiK (BA t) <;> rfl
   | true =>
    have es:decide ((BA (t.drop (pre k).length)).size < 4294967281) = true:=by rw [BA_size,List.length_drop]; simp; omega
    simp only [cond_true,if_true,Bool.not_true,cond_false,strconv_Atoi,strconv_Atoi_1,es,Option.bind_some]
    generalize BA (t.drop (pre k).length) = u
    cases ha:atoiK u with
    | false =>
     have:isNum u = none:=by unfold isNum; rw [if_neg (by rw [ha]; simp)]
     simp only [cond_false,code_line_j3,this,Option.map_none]
     rfl
    | true =>
     obtain ⟨v1,v2⟩:=atoiV_in u ha
     have e14:decide (-9223372036854775808≤atoiV u∧atoiV u≤9223372036854775807) = true:=by simpa using ⟨v1,v2⟩
     simp only [cond_true,strconv_Itoa,e14,Option.bind_some,code_line_j2]
     by_cases hi:itoaS (atoiV u) = u
     ·have:isNum u = some (atoiV u):=by unfold isNum; rw [if_pos ⟨ha,hi⟩]
      simp only [hi,decide_true,Bool.not_true,cond_false,e4,e11,Bool.and_self,cond_true,e12,code_line_j1,w1,e13,this,Option.map_some,Int.toNat_natCast]
     ·have:isNum u = none:=by unfold isNum; rw [if_neg (fun h=>hi h.2)]
      have e15:decide (itoaS (atoiV u) = u) = false:=by simpa using hi
      simp only [e15,Bool.not_false,cond_true,this,Option.map_none]
      rfl
theorem line_endE (o:Nat) (a b:Int) (ws:List (List UInt8)):code_line_l1 ((o:Int),((2:Nat):Int),(o:Int),[a,b],ws.map BA) = some (.inr (⟨o,a,b⟩,decide (ws = []))):=by
 unfold code_line_l1
 have e1:decide (((2:Nat):Int) < 2) = false:=by decide
 have e2:((((ws.map BA).length:Nat):Int) == 0) = decide (ws = []):=by
  cases ws with
  | nil=>rfl
  | cons t r=>simp; omega
 simp only [e1,cond_false,e2]
 rfl
theorem argS_mem {k:UInt8} {ws r:List (List UInt8)} {n:Int} (h:argS k ws = some (n,r)) (hw:∀ t ∈ ws,t.length≤100000):∀ t ∈ r,t.length≤100000:=by
 unfold argS at h
 split at h
 ·cases h; exact hw
 ·split at h
  ·cases h
  ·rename_i t r'
   cases hn:numP k t with
   | none=>rw [hn] at h; cases h
   | some m =>
    rw [hn] at h
    cases h
    exact fun t ht=>hw t (List.mem_cons_of_mem _ ht)
theorem line_loopE (o:Nat) (ho:o < 23) (ho1:1≤o) (ws:List (List UInt8)) (hw:∀ t ∈ ws,t.length≤100000) :
 ∃c b,loopO code_line_l1 ((o:Int),0,(o:Int),([0,0]:List Int),ws.map BA) = some (c,b)∧instrL (o:Int) ws = bif b then some c else none:=by
 have s0:=line_stepE o 0 ho ho1 (by decide) [0,0] rfl rfl ws hw
 unfold instrL
 cases h0:argS (kU (o:Int) 0) ws with
 | none =>
  rw [h0] at s0
  exact ⟨_,_,loopO_inr s0,rfl⟩
 | some p =>
  obtain ⟨a,r⟩:=p
  rw [h0] at s0
  have hr:=argS_mem h0 hw
  have s1:=line_stepE o 1 ho ho1 (by decide) [a,0] rfl rfl r hr
  rw [show loopO code_line_l1 ((o:Int),0,(o:Int),([0,0]:List Int),ws.map BA) = loopO code_line_l1 ((o:Int),((1:Nat):Int),(o:Int),[a,0],r.map BA) from loopO_inl s0]
  simp only [Option.bind_some]
  cases h1:argS (kU (o:Int) 1) r with
  | none =>
   rw [h1] at s1
   exact ⟨_,_,loopO_inr s1,rfl⟩
  | some p =>
   obtain ⟨b,r2⟩:=p
   rw [h1] at s1
   rw [show loopO code_line_l1 ((o:Int),((1:Nat):Int),(o:Int),[a,0],r.map BA) = loopO code_line_l1 ((o:Int),((2:Nat):Int),(o:Int),[a,b],r2.map BA) from loopO_inl s1]
   refine ⟨_,_,loopO_inr (line_endE o a b r2),?_⟩
   simp only [Option.bind_some]
   by_cases hr2:r2 = []
   ·rw [if_pos hr2,decide_eq_true hr2]; rfl
   ·rw [if_neg hr2,decide_eq_false hr2]; rfl
theorem words_len:∀ (l:List UInt8),∀ t ∈ words l,t.length≤l.length
 | [],t,h=>by simp [words] at h; rw [h]; exact Nat.le_refl _
 | b::l,t,h=>by
  have ih:=words_len l
  unfold words at h
  split at h
  ·rcases List.mem_cons.1 h with rfl | h
   ·simp
   ·exact Nat.le_trans (ih t h) (by simp)
  ·cases hw:words l with
   | nil=>exact absurd hw (words_ne l)
   | cons f r =>
    rw [hw] at h ih
    unfold app1 at h
    rcases List.mem_cons.1 h with rfl | h
    ·have:=ih f List.mem_cons_self
     simp; omega
    ·exact Nat.le_trans (ih t (List.mem_cons_of_mem _ h)) (by simp)
theorem line_S (s:ByteArray) (hs:s.size≤100000):∃ c b,code_line s = some (c,b)∧instrS s.data.toList = bif b then some c else none:=by
 have hl:s.data.toList.length = s.size:=by rw [← BA_size,BA_self]
 unfold code_line strings_Split instrS
 have e0:decide (s.size < 4294967281∧1≤(ByteArray.mk #[32]).size) = true:=by
  have:(ByteArray.mk #[32]).size = 1:=rfl
  simp [this]; omega
 simp only [e0,cond_true,Option.bind_some,split_eq]
 have hwl:=words_len s.data.toList
 cases hw:words s.data.toList with
 | nil=>exact absurd hw (words_ne _)
 | cons w ws =>
  rw [hw] at hwl
  simp only [List.map_cons,index_eq,Option.bind_some]
  rcases opN_spec (BA w) 23 with ⟨h1,-⟩ | ⟨h1,h2,-⟩
  ·rw [if_pos h1,if_pos h1]
   exact ⟨_,_,rfl,rfl⟩
  ·rw [if_neg (by omega),if_neg (by omega)]
   have e1:decide (((opN (BA w) 23:Nat):Int) < 0) = false:=by simp
   have e2:decide ((1:Int)≤(((BA w::ws.map BA).length:Nat):Int)) = true:=decide_eq_true (by simp only [List.length_cons]; omega)
   have e3:cut (BA w::ws.map BA) (1:Int) (((BA w::ws.map BA).length:Nat):Int) = ws.map BA:=by
    unfold cut
    simp
    exact List.take_of_length_le (by simp)
   simp only [e1,cond_false,e2,cond_true,e3]
   exact line_loopE _ h2 h1 ws (fun t ht=>by have:=hwl t (List.mem_cons_of_mem _ ht); omega)
end
end Go.Proofs.YtdckaaiidagodaaDoor
end

section
namespace Go.Proofs.YtdckaaiidagodaaDoor
open Go Go.Sx
set_option linter.unusedVariables false
set_option linter.unusedSimpArgs false
noncomputable section
abbrev InR:=(Int×Int×(List Int)) ⊕ (GInstr×Bool)
def stepI (at' i:Nat) (xs:List Int):Option Int→InR
 | none=>.inr (⟨0,0,0⟩,false)
 | some n=>.inl (((at'+1:Nat):Int),((i+1:Nat):Int),xs.set i n)
theorem j3_eq (o:Int) (W:List ByteArray) (a i:Nat) (ha:a < 200000) (hi:i < 2) (xs:List Int) (hx:xs.length = 2) (u:ByteArray):taskmillref_InstrOf_j3 o W (a:Int) (i:Int) xs u = some (stepI a i xs (isNum u)):=by
 obtain ⟨n,b,h1,h2⟩:=number_eq u
 unfold taskmillref_InstrOf_j3
 rw [h1,h2]
 simp only [Option.bind_some]
 cases b with
 | false=>rfl
 | true =>
  have e1:decide ((0:Int)≤(i:Int)) = true:=by simp
  have e2:decide ((i:Int) < (xs.length:Int)) = true:=by rw [hx]; simp; omega
  simp only [Bool.not_true,cond_false,e1,e2,Bool.and_self,cond_true,taskmillref_InstrOf_j2,wrapJ (show a < 1000000 by omega),wrapJ (show i < 1000000 by omega),stepI,Int.toNat_natCast]
theorem j4_eq (o:Int) (W:List ByteArray) (a i:Nat) (ha:a < 200000) (hi:i < 2) (xs:List Int) (hx:xs.length = 2) (t:List UInt8) (ht:ix W (a:Int) = BA t) (c:UInt8) :
  taskmillref_InstrOf_j4 o W (a:Int) (i:Int) xs (c.toNat:Int) = some (stepI a i xs (if [c].isPrefixOf t = true then isNum (BA (t.drop 1)) else none)):=by
 unfold taskmillref_InstrOf_j4
 rw [ht]
 cases t with
 | nil =>
  have e1:decide (BA [] = ByteArray.empty) = true:=by rw [decide_eq_true_eq]; rfl
  simp only [e1,Bool.not_true,Bool.not_false,Bool.true_or,cond_true]
  rfl
 | cons b u =>
  have e1:decide (BA (b::u) = ByteArray.empty) = false:=by rw [decide_eq_false_iff_not,BA_empty]; simp
  have e2:decide ((0:Int) < (((BA (b::u)).size:Nat):Int)) = true:=decide_eq_true (by rw [BA_size]; simp)
  have e3:decide ((1:Int)≤(((BA (b::u)).size:Nat):Int)) = true:=decide_eq_true (by rw [BA_size,List.length_cons]; omega)
  have e4:(BA (b::u)).data.getD ((0:Int)).toNat 0 = b:=rfl
  have ex:(BA (b::u)).extract ((1:Int)).toNat ((((BA (b::u)).size:Nat):Int)).toNat = BA u:=by
   rw [BA_size,Int.toNat_natCast]
   apply ByteArray.ext
   rw [ByteArray.data_extract]
   apply Array.ext'
   simp
  simp only [e1,e2,e3,e4,ex,Bool.not_false,Bool.not_true,Bool.false_or,Bool.or_true,cond_true]
  by_cases hbc:c = b
  ·subst hbc
   have e5:((c.toNat:Int) != (c.toNat:Int)) = false:=by simp
   rw [e5,cond_false,j3_eq o W a i ha hi xs hx]
   simp [List.isPrefixOf]
  ·have e5:((b.toNat:Int) != (c.toNat:Int)) = true:=by
    simp only [bne_iff_ne,ne_eq]
    intro e
    exact hbc (UInt8.toNat_inj.1 (by omega))
   rw [e5,cond_true]
   simp [List.isPrefixOf,hbc,stepI]
theorem instr_step (o i:Nat) (ho:o < 23) (ho1:1≤o) (hi:i < 2) (xs:List Int) (hx:xs.length = 2) (hx0:xs.set i 0 = xs) (all p r:List (List UInt8)) (he:all = p++r) (hal:all.length≤100001) :
  taskmillref_InstrOf_l1 (o:Int) (all.map BA) ((p.length:Int),(i:Int),xs) = some (match argS (kU (o:Int) i) r with
   | none=>.inr (⟨0,0,0⟩,false)
   | some q=>.inl (((all.length - q.2.length:Nat):Int),((i+1:Nat):Int),xs.set i q.1)):=by
 have hkl:refArgs.length = 23:=rfl
 have hpl:p.length+r.length = all.length:=by rw [he,List.length_append]
 have e1:decide ((i:Int) < 2) = true:=by simp; omega
 have e2:decide ((0:Int)≤(o:Int)) = true:=by simp
 have e3:decide ((o:Int) < (refArgs.length:Int)) = true:=by rw [hkl]; simp; omega
 have e4:decide ((0:Int)≤(i:Int)) = true:=by simp
 have e5:decide ((i:Int) < ((((ix refArgs (o:Int))).size:Nat):Int)) = true:=by rw [args_size o ho ho1]; simp; omega
 have hc:(ix refArgs (o:Int)).data.getD i 0 = kU (o:Int) i:=rfl
 have w1:IntKind.i64.wrap ((i:Int)+1) = ((i+1:Nat):Int):=wrapJ (by omega)
 have hk:=kU_in o ho ho1 i hi
 unfold taskmillref_InstrOf_l1 taskmillref_InstrOf_j5
 simp only [e1,e2,e3,e4,e5,Bool.and_self,cond_true,Int.toNat_natCast,hc]
 generalize kU (o:Int) i = k at hk ⊢
 rw [k45]
 by_cases h45:k = 45
 ·subst h45
  simp only [decide_true,cond_true,argS,if_true,taskmillref_InstrOf_j2,w1,hx0]
  rw [show all.length - r.length = p.length by omega]
 ·have e6:decide (k = 45) = false:=by simpa using h45
  simp only [e6,cond_false]
  cases r with
  | nil =>
   have e7:decide (((((all.map BA).length:Nat)):Int)≤(p.length:Int)) = true:=by rw [List.length_map]; simp at hpl; simp; omega
   simp only [e7,cond_true,argS,if_neg h45]
   rfl
  | cons t r' =>
   have hpl':p.length+(r'.length+1) = all.length:=by simpa using hpl
   have e7:decide (((((all.map BA).length:Nat)):Int)≤(p.length:Int)) = false:=decide_eq_false (by rw [List.length_map]; omega)
   have e8:decide ((0:Int)≤(p.length:Int)) = true:=by simp
   have e9:decide ((p.length:Int) < (((all.map BA).length:Nat):Int)) = true:=decide_eq_true (by rw [List.length_map]; omega)
   have hix:ix (all.map BA) (p.length:Int) = BA t:=by
    rw [ix_get (by rw [List.length_map]; omega),List.getElem_map]
    simp [he]
   have hargs:argS k (t::r') = (numP k t).map fun n=>(n,r'):=by unfold argS; rw [if_neg h45]
   have hat:all.length - r'.length = p.length+1:=by omega
   have fin:∀ x:Option Int,(some (stepI p.length i xs x):Option InR) = some (match x.map fun n=>(n,r') with
     | none=>.inr (⟨0,0,0⟩,false)
     | some q=>.inl (((all.length - q.2.length:Nat):Int),((i+1:Nat):Int),xs.set i q.1)):=fun x=>by
    cases x with
    | none=>rfl
    | some n=>simp only [Option.map_some,stepI,hat]
   rw [hargs,← fin]
   simp only [e7,cond_false,e8,e9,Bool.and_self,cond_true,hix]
   have J3:=j3_eq (o:Int) (all.map BA) p.length i (by omega) hi xs hx (BA t)
   have J4:=j4_eq (o:Int) (all.map BA) p.length i (by omega) hi xs hx t hix
   simp only [kindsU,List.mem_cons,List.not_mem_nil,or_false] at hk
   rcases hk with rfl | rfl | rfl | rfl | rfl | rfl | rfl | rfl | rfl
   ·exact J3
   ·exact J4 114
   ·exact J4 64
   ·exact J4 99
   ·exact J4 112
   ·exact J4 108
   ·exact J4 103
   ·exact J3
   ·exact absurd rfl h45
theorem instr_end (o a:Nat) (x y:Int) (W:List ByteArray):taskmillref_InstrOf_l1 (o:Int) W ((a:Int),((2:Nat):Int),[x,y]) = some (.inr (⟨o,x,y⟩,((a:Int) == (W.length:Int)))):=by
 unfold taskmillref_InstrOf_l1
 have e1:decide (((2:Nat):Int) < 2) = false:=by decide
 simp only [e1,cond_false]
 rfl
theorem argS_tail {k:UInt8} {ws r:List (List UInt8)} {n:Int} (h:argS k ws = some (n,r)):∃ p,ws = p++r:=by
 unfold argS at h
 split at h
 ·cases h; exact ⟨[],rfl⟩
 ·split at h
  ·cases h
  ·rename_i t r'
   cases hn:numP k t with
   | none=>rw [hn] at h; cases h
   | some m=>rw [hn] at h; cases h; exact ⟨[t],rfl⟩
theorem instr_loopE (o:Nat) (ho:o < 23) (ho1:1≤o) (w:List UInt8) (ws:List (List UInt8)) (hl:ws.length≤100000) :
 ∃c b,loopO (taskmillref_InstrOf_l1 (o:Int) ((w::ws).map BA)) (1,0,([0,0]:List Int)) = some (c,b)∧instrL (o:Int) ws = bif b then some c else none:=by
 have hal:(w::ws).length≤100001:=by simp; omega
 have s0:=instr_step o 0 ho ho1 (by decide) [0,0] rfl rfl (w::ws) [w] ws rfl hal
 unfold instrL
 cases h0:argS (kU (o:Int) 0) ws with
 | none =>
  rw [h0] at s0
  exact ⟨_,_,loopO_inr s0,rfl⟩
 | some q =>
  obtain ⟨x,r⟩:=q
  rw [h0] at s0
  obtain ⟨p1,hp1⟩:=argS_tail h0
  have hr:(w::ws).length - r.length = (w::p1).length:=by rw [hp1]; simp; omega
  have s1:=instr_step o 1 ho ho1 (by decide) [x,0] rfl rfl (w::ws) (w::p1) r (by rw [hp1]; rfl) hal
  simp only [hr] at s0
  rw [show loopO (taskmillref_InstrOf_l1 (o:Int) ((w::ws).map BA)) (1,0,([0,0]:List Int)) = loopO (taskmillref_InstrOf_l1 (o:Int) ((w::ws).map BA)) ((((w::p1).length:Nat):Int),((1:Nat):Int),[x,0]) from loopO_inl s0]
  simp only [Option.bind_some]
  cases h1:argS (kU (o:Int) 1) r with
  | none =>
   rw [h1] at s1
   exact ⟨_,_,loopO_inr s1,rfl⟩
  | some q =>
   obtain ⟨y,r2⟩:=q
   rw [h1] at s1
   obtain ⟨p2,hp2⟩:=argS_tail h1
   rw [show loopO (taskmillref_InstrOf_l1 (o:Int) ((w::ws).map BA)) ((((w::p1).length:Nat):Int),((1:Nat):Int),[x,0]) = loopO (taskmillref_InstrOf_l1 (o:Int) ((w::ws).map BA)) ((((w::ws).length - r2.length:Nat):Int),((2:Nat):Int),[x,y]) from loopO_inl s1]
   refine ⟨_,_,loopO_inr (instr_end o _ x y _),?_⟩
   simp only [Option.bind_some]
   have hlen:(w::ws).length = p1.length+p2.length+r2.length+1:=by rw [hp1,hp2]; simp; omega
   by_cases hr2:r2 = []
   ·subst hr2
    rw [if_pos rfl]
    simp
   ·have:0 < r2.length:=List.length_pos_iff.2 hr2
    have e:((((w::ws).length - r2.length:Nat):Int) == ((((w::ws).map BA).length:Nat):Int)) = false:=by
     rw [List.length_map]
     simp only [beq_eq_false_iff_ne,ne_eq]
     omega
    rw [if_neg hr2,e]; rfl
theorem find_eq (w:List UInt8) (W:List ByteArray) (rest:Option (GInstr×Bool)) (hrest:taskmillref_InstrOf_l2 (((opN (BA w) 23:Nat):Int),23,BA w::W) = rest.map .inr):loopO taskmillref_InstrOf_l2 (0,1,BA w::W) = rest:=by
 refine loopO_all (step:=taskmillref_InstrOf_l2) (fun k=>(((opN (BA w) (k+1):Nat):Int),((k+1:Nat):Int),BA w::W)) rest 22 (fun k hk=>?_) hrest
 have hkl:refNames.length = 23:=rfl
 have e1:decide (((k+1:Nat):Int) < (refNames.length:Int)) = true:=by rw [hkl]; simp; omega
 have e2:decide ((0:Int)≤((k+1:Nat):Int)) = true:=by simp; omega
 have e3:decide ((0:Int) < (((BA w::W).length:Nat):Int)) = true:=by simp
 have e4:ix (BA w::W) (0:Int) = BA w:=rfl
 unfold taskmillref_InstrOf_l2 taskmillref_InstrOf_j1
 simp only [e1,e2,e3,e4,Bool.and_self,cond_true,wrapJ (show k+1 < 1000000 by omega)]
 have hop:opN (BA w) (k+1+1) = if ix refNames ((k+1:Nat):Int) = BA w then k+1 else opN (BA w) (k+1):=by
  rw [opN]
  by_cases h:ix refNames ((k+1:Nat):Int) = BA w
  ·rw [if_pos ⟨by omega,h⟩,if_pos h]
  ·rw [if_neg (fun e=>h e.2),if_neg h]
 rw [hop]
 by_cases h:ix refNames ((k+1:Nat):Int) = BA w
 ·rw [if_pos h,decide_eq_true h]; rfl
 ·rw [if_neg h,decide_eq_false h]; rfl
theorem words_count:∀ l:List UInt8,(words l).length≤l.length+1
 | []=>by simp [words]
 | b::l=>by
  have ih:=words_count l
  unfold words
  split
  ·simp; omega
  ·cases hw:words l with
   | nil=>exact absurd hw (words_ne l)
   | cons f r =>
    rw [hw] at ih
    simp [app1] at ih ⊢; omega
theorem instr_S (s:ByteArray) (hs:s.size≤100000):∃ c b,taskmillref_InstrOf s = some (c,b)∧instrS s.data.toList = bif b then some c else none:=by
 have hl:s.data.toList.length = s.size:=by rw [← BA_size,BA_self]
 unfold taskmillref_InstrOf instrS
 rw [words_eq s hs]
 simp only [Option.bind_some]
 have hwc:=words_count s.data.toList
 cases hw:words s.data.toList with
 | nil=>exact absurd hw (words_ne _)
 | cons w ws =>
  rw [hw] at hwc
  simp only [List.map_cons]
  have hwl:ws.length≤100000:=by simp at hwc; omega
  rcases opN_spec (BA w) 23 with ⟨h1,-⟩ | ⟨h1,h2,-⟩
  ·rw [if_pos h1,find_eq w _ (some (⟨0,0,0⟩,false)) (by rw [h1]; rfl)]
   exact ⟨_,_,rfl,rfl⟩
  ·rw [if_neg (by omega)]
   obtain ⟨c,b,hc,hb⟩:=instr_loopE _ h2 h1 w ws hwl
   refine ⟨c,b,find_eq w _ _ ?_,hb⟩
   unfold taskmillref_InstrOf_l2
   have e1:decide ((23:Int) < (refNames.length:Int)) = false:=by decide
   have e2:(((opN (BA w) 23:Nat):Int) == 0) = false:=by simp; omega
   simp only [e1,cond_false,e2]
   rw [← List.map_cons,hc]
end
end Go.Proofs.YtdckaaiidagodaaDoor
end

section
namespace Go.Proofs.YtdckaaiidagodaaDoor
open Go Go.Sx
set_option linter.unusedVariables false
set_option linter.unusedSimpArgs false
noncomputable section
theorem lnL_S (l:List UInt8) (h:l.length≤100000):instrS l = bif (lnL l).2 then some (lnL l).1 else none:=by
 have hs:(BA l).size = l.length:=BA_size l
 obtain ⟨c,b,h1,h2⟩:=line_S (BA l) (by omega)
 have h3:=line_eq (BA l) (by omega)
 rw [h1] at h3
 have h4:lnL l = (c,b):=(Option.some.inj h3).symm
 rw [h4]
 exact h2
def segs:List UInt8→List (List UInt8)×List UInt8
 | []=>([],[])
 | b::l=>if b = 10 then ([]::(segs l).1,(segs l).2) else match (segs l).1 with
  | []=>([],b::(segs l).2)
  | f::r=>((b::f)::r,(segs l).2)
theorem segs_miss:∀ l:List UInt8,(10:UInt8) ∉ l→segs l = ([],l)
 | [],_=>rfl
 | b::l,h=>by
  have hb:¬ b = 10:=fun e=>h (by rw [e]; exact List.mem_cons_self)
  unfold segs
  rw [if_neg hb,segs_miss l (fun e=>h (List.mem_cons_of_mem _ e))]
theorem segs_hit:∀ (a r:List UInt8),(10:UInt8) ∉ a→segs (a++10::r) = (a::(segs r).1,(segs r).2)
 | [],r,_=>by simp [segs]
 | b::a,r,h=>by
  have hb:¬ b = 10:=fun e=>h (by rw [e]; exact List.mem_cons_self)
  have ih:=segs_hit a r (fun e=>h (List.mem_cons_of_mem _ e))
  rw [List.cons_append,segs,if_neg hb,ih]
theorem lines_loop (l:List UInt8) (hl:l.length≤100000):∀ (r p a:List UInt8) (out:List ByteArray),l = p++(a++r)→(10:UInt8) ∉ a→out.length≤p.length →
  loopO (taskmillref_LinesOf_l1 (BA l)) ((p.length:Int),((p.length+a.length:Nat):Int),out) = some ((if (segs (a++r)).2 = [] then -1 else ((out.length+(segs (a++r)).1.length:Nat):Int)),out++(segs (a++r)).1.map BA)
 | [],p,a,out,he,ha,ho=>by
  have hs:(BA l).size = p.length+a.length:=by rw [BA_size,he]; simp
  have e1:decide (((p.length+a.length:Nat):Int) < (((BA l).size:Nat):Int)) = false:=decide_eq_false (by rw [hs]; omega)
  refine loopO_inr ?_
  unfold taskmillref_LinesOf_l1
  simp only [e1,cond_false,List.append_nil,segs_miss a ha,List.map_nil,List.length_nil,Nat.add_zero]
  by_cases h0:a = []
  ·have e2:decide ((p.length:Int) < (((BA l).size:Nat):Int)) = false:=decide_eq_false (by rw [hs,h0]; simp)
   rw [e2,if_pos h0]; rfl
  ·have:0 < a.length:=List.length_pos_iff.2 h0
   have e2:decide ((p.length:Int) < (((BA l).size:Nat):Int)) = true:=decide_eq_true (by rw [hs]; omega)
   rw [e2,if_neg h0]; rfl
 | c::r,p,a,out,he,ha,ho=>by
  have hs:(BA l).size = p.length+a.length+r.length+1:=by rw [BA_size,he]; simp; omega
  have hp:p.length+a.length+r.length+1≤100000:=by rw [← hs,BA_size]; exact hl
  have he2:l = (p++a)++c::r:=by rw [he]; simp
  have e1:decide (((p.length+a.length:Nat):Int) < (((BA l).size:Nat):Int)) = true:=decide_eq_true (by rw [hs]; omega)
  have e2:decide ((0:Int)≤((p.length+a.length:Nat):Int)) = true:=decide_eq_true (by omega)
  have hc:(BA l).data.getD (p.length+a.length) 0 = c:=by
   have:=getD_mid (p++a) r c
   rw [List.length_append] at this
   rw [he2]; exact this
  have w1:IntKind.i64.wrap (((p.length+a.length:Nat):Int)+1) = ((p.length+a.length+1:Nat):Int):=wrapJ (by omega)
  by_cases h10:c = 10
  ·subst h10
   have e3:decide ((0:Int)≤(p.length:Int)) = true:=by simp
   have e4:decide ((p.length:Int)≤((p.length+a.length:Nat):Int)) = true:=decide_eq_true (by omega)
   have e5:decide (((p.length+a.length:Nat):Int)≤(((BA l).size:Nat):Int)) = true:=decide_eq_true (by rw [hs]; omega)
   have ex:(BA l).extract p.length (p.length+a.length) = BA a:=by
    rw [he]
    apply ByteArray.ext
    rw [ByteArray.data_extract]
    apply Array.ext'
    simp
   have e6:decide ((out++([BA a]:List ByteArray)).length * 16≤140737488355328) = true:=by simp; omega
   have st:taskmillref_LinesOf_l1 (BA l) ((p.length:Int),((p.length+a.length:Nat):Int),out) = some (.inl (((p.length+a.length+1:Nat):Int),((p.length+a.length+1:Nat):Int),out++[BA a])):=by
    unfold taskmillref_LinesOf_l1 taskmillref_LinesOf_j1
    simp only [e1,e2,Bool.and_self,cond_true,Int.toNat_natCast,hc,e3,e4,e5,ex,e6,w1]
    rfl
   have hq:(p++(a++[10])).length = p.length+a.length+1:=by simp; omega
   have ih:=lines_loop l hl r (p++(a++[10])) [] (out++[BA a]) (by rw [he]; simp) (by simp) (by simp; omega)
   simp only [List.nil_append,List.length_nil,Nat.add_zero,hq] at ih
   rw [loopO_inl st,ih,segs_hit a r ha]
   simp only [List.length_append,List.length_cons,List.length_nil,List.map_cons,List.append_assoc,List.singleton_append]
   congr 3
   omega
  ·have e3:((c.toNat:Int) == 10) = false:=by
    simp only [beq_eq_false_iff_ne,ne_eq]
    intro e
    have h3:c.toNat = 10:=(by omega)
    exact h10 (UInt8.toNat_inj.1 (by rw [h3]; rfl))
   have st:taskmillref_LinesOf_l1 (BA l) ((p.length:Int),((p.length+a.length:Nat):Int),out) = some (.inl ((p.length:Int),((p.length+a.length+1:Nat):Int),out)):=by
    unfold taskmillref_LinesOf_l1 taskmillref_LinesOf_j1
    simp only [e1,e2,Bool.and_self,cond_true,Int.toNat_natCast,hc,e3,cond_false,w1]
   have ih:=lines_loop l hl r p (a++[c]) out (by rw [he]; simp) (by
    intro hm
    rcases List.mem_append.1 hm with hm | hm
    ·exact ha hm
    ·simp only [List.mem_singleton] at hm
     exact h10 hm.symm) ho
   have hq:p.length+(a++[c]).length = p.length+a.length+1:=by simp; omega
   rw [hq] at ih
   rw [loopO_inl st,ih]
   simp only [List.append_assoc,List.singleton_append]
theorem lines_eq (s:ByteArray) (hs:s.size≤100000):taskmillref_LinesOf s = some ((if (segs s.data.toList).2 = [] then -1 else (((segs s.data.toList).1.length:Nat):Int)),(segs s.data.toList).1.map BA):=by
 have hl:s.data.toList.length = s.size:=by rw [← BA_size,BA_self]
 unfold taskmillref_LinesOf
 have:=lines_loop s.data.toList (by omega) s.data.toList [] [] [] rfl (by simp) (Nat.le_refl _)
 rw [BA_self] at this
 simp only [List.nil_append,List.length_nil,Nat.zero_add] at this
 exact this
theorem law_loop (C:List GInstr) (F:Fault):∀ (k:Nat) (t:List UInt8),t.length < k→∀ (done:List ByteArray) (want:List GInstr),done.length+t.length≤50000→want.length≤done.length →
 ∃want',loopO (taskmilllaw_CodeTexts_l1 C F) ((if (segs t).2 = [] then -1 else ((done.length+(segs t).1.length:Nat):Int)),(done.length:Int),⟨0,0⟩,want,done++(segs t).1.map BA) = taskmilllaw_CodeTexts_j1 C F (PL k t done.length want).1 want'∧((PL k t done.length want).1.Code = 0→want' = (PL k t done.length want).2)
 | 0,t,h,_,_,_,_=>by omega
 | k+1,t,h,done,want,hd,hw=>by
  by_cases h0:t = []
  ·subst h0
   refine ⟨want,?_,fun _=>by rw [PL_nil]⟩
   rw [PL_nil]
   refine loopO_out ?_
   unfold taskmilllaw_CodeTexts_l1
   simp only [segs,if_true,List.map_nil,List.append_nil]
   have e1:decide ((done.length:Int) < (done.length:Int)) = false:=by simp
   simp only [e1,Bool.false_and,cond_false]
   rfl
  ·rcases cut_cases t with hm | ⟨a,r,rfl,ha⟩
   ·refine ⟨want,?_,fun h=>by rw [PL_miss k t _ _ h0 hm] at h; simp at h⟩
    rw [PL_miss k t _ _ h0 hm]
    refine loopO_out ?_
    unfold taskmilllaw_CodeTexts_l1
    simp only [segs_miss t hm,if_neg h0,List.map_nil,List.append_nil,List.length_nil,Nat.add_zero]
    have e1:decide ((done.length:Int) < (done.length:Int)) = false:=by simp
    have e2:decide ((0:Int)≤(done.length:Int)) = true:=by simp
    simp only [e1,e2,Bool.false_and,cond_false,taskmillref_F,Option.bind_some]
    rfl
   ·have hla:a.length≤100000:=by simp at hd; omega
    rw [PL_hit k a r _ _ ha,segs_hit a r ha]
    obtain ⟨c,b,hi,hb⟩:=instr_S (BA a) (by rw [BA_size]; exact hla)
    have hb:instrS a = bif b then some c else none:=hb
    rw [lnL_S a hla] at hb
    have e1:decide ((done.length:Int) < (((done++(a::(segs r).1).map BA).length:Nat):Int)) = true:=decide_eq_true (by simp; omega)
    have e2:decide ((0:Int)≤(done.length:Int)) = true:=by simp
    have e3:decide ((want++([c]:List GInstr)).length * 24≤140737488355328) = true:=by simp; omega
    have hix:ix (done++(a::(segs r).1).map BA) (done.length:Int) = BA a:=by
     rw [ix_get (by simp)]; simp
    have w1:IntKind.i64.wrap ((done.length:Int)+1) = ((done.length+1:Nat):Int):=wrapJ (by omega)
    have st:taskmilllaw_CodeTexts_l1 C F ((if (segs r).2 = [] then -1 else ((done.length+(a::(segs r).1).length:Nat):Int)),(done.length:Int),⟨0,0⟩,want,done++(a::(segs r).1).map BA) = some (.inl ((if (segs r).2 = [] then -1 else ((done.length+(a::(segs r).1).length:Nat):Int)),((done.length+1:Nat):Int),(bif b then ⟨0,0⟩ else ⟨1,done.length⟩),want++[c],done++(a::(segs r).1).map BA)):=by
     unfold taskmilllaw_CodeTexts_l1 taskmilllaw_CodeTexts_j2
     simp only [e1,e2,Bool.and_self,Bool.true_and,cond_true,hix,hi,Option.bind_some,e3,w1,taskmillref_F,show ((0:Int) == 0) = true from rfl]
     cases b <;> rfl
    rw [loopO_inl st]
    cases b with
    | false =>
     have hl2:(lnL a).2 = false:=by
      cases hq:(lnL a).2 with
      | false=>rfl
      | true=>rw [hq] at hb; cases hb
     rw [hl2]
     refine ⟨want++[c],?_,fun h=>by simp at h⟩
     refine loopO_out ?_
     unfold taskmilllaw_CodeTexts_l1
     have e4:((⟨1,(done.length:Int)⟩:Fault).Code == 0) = false:=rfl
     simp only [cond_false,e4,Bool.and_false,Bool.false_and]
    | true =>
     have hl2:(lnL a).2 = true∧(lnL a).1 = c:=by
      cases hq:(lnL a).2 with
      | false=>rw [hq] at hb; cases hb
      | true=>rw [hq] at hb; exact ⟨rfl,Option.some.inj hb⟩
     rw [hl2.1,hl2.2]
     simp only [cond_true]
     have ih:=law_loop C F k r (by simp at h; omega) (done++[BA a]) (want++[c]) (by simp at hd ⊢; omega) (by simp; omega)
     have hq:(done++[BA a]).length = done.length+1:=by simp
     rw [hq] at ih
     have hq2:done++(a::(segs r).1).map BA = (done++[BA a])++(segs r).1.map BA:=by simp
     have hq3:((done.length+(a::(segs r).1).length:Nat):Int) = ((done.length+1+(segs r).1.length:Nat):Int):=by rw [List.length_cons]; omega
     rw [hq2,hq3]
     have hq4:(done.length:Int)+1 = ((done.length+1:Nat):Int):=by omega
     rw [hq4]
     exact ih
end
end Go.Proofs.YtdckaaiidagodaaDoor
end

section
namespace Go.Proofs.YtdckaaiidagodaaDoor
open Go Go.Sx
set_option linter.unusedVariables false
set_option linter.unusedSimpArgs false
noncomputable section
def ltF:Int→ByteArray:=fun k=>(code_letter k).getD ByteArray.empty
abbrev LL:GInstr→List UInt8:=lineL GInstr.Op GInstr.A GInstr.B kind.name kind.args codeKinds ltF
def nm (o:Nat):List UInt8:=(ix refNames (o:Int)).data.toList
def aL (k:UInt8) (x:Int):List UInt8:=if k = 45 then [] else 32::(pre k++Lib.itoa x)
def body (o:Nat) (a b:Int):List UInt8:=nm o++(aL (kU (o:Int) 0) a++aL (kU (o:Int) 1) b)
theorem argL_eq (k:UInt8) (hk:k ∈ kindsU) (x:Int):argL ltF k x = aL k x:=by
 unfold argL aL ltF
 rw [letter_eq k hk]
 rfl
structure Good (c:GInstr) (o:Nat):Prop where
 op:c.Op = o
 lo:1≤o
 hi:o < 23
 a:-9223372036854775808≤c.A∧c.A≤9223372036854775807
 b:-9223372036854775808≤c.B∧c.B≤9223372036854775807
 a0:kU (o:Int) 0 = 45→c.A = 0
 b0:kU (o:Int) 1 = 45→c.B = 0
theorem LL_eq {c:GInstr} {o:Nat} (h:Good c o):LL c = body o c.A c.B++[10]:=by
 unfold LL lineL body
 rw [h.op,args_eq o h.hi,names_eq o h.hi]
 have e0:(ix refArgs (o:Int)).data.getD 0 0 = kU (o:Int) 0:=rfl
 have e1:(ix refArgs (o:Int)).data.getD 1 0 = kU (o:Int) 1:=rfl
 rw [e0,e1,argL_eq _ (kU_in o h.hi h.lo 0 (by decide)),argL_eq _ (kU_in o h.hi h.lo 1 (by decide))]
 simp [nm]
theorem nm_ok:∀ o:Nat,o < 23→(32:UInt8) ∉ nm o∧(10:UInt8) ∉ nm o∧(nm o).length≤6:=by decide
theorem pre_ok:∀ k ∈ kindsU,(32:UInt8) ∉ pre k∧(10:UInt8) ∉ pre k∧(pre k).length≤1:=by decide
theorem itoa_ok (x:Int):(32:UInt8) ∉ Lib.itoa x∧(10:UInt8) ∉ Lib.itoa x:=by
 have h:∀ b ∈ Lib.itoa x,b = 45∨dig b:=fun b hb=>by
  unfold Lib.itoa at hb
  split at hb
  ·rcases List.mem_cons.1 hb with rfl | hb
   ·exact .inl rfl
   ·exact .inr ((dd _).1 b hb)
  ·exact .inr ((dd _).1 b hb)
 constructor
 ·intro hm
  rcases h _ hm with e | e
  ·exact absurd e (by decide)
  ·exact absurd e (by unfold dig; decide)
 ·intro hm
  rcases h _ hm with e | e
  ·exact absurd e (by decide)
  ·exact absurd e (by unfold dig; decide)
theorem aL_10 (k:UInt8) (hk:k ∈ kindsU) (x:Int):(10:UInt8) ∉ aL k x:=by
 unfold aL
 split
 ·simp
 ·intro h
  rcases List.mem_cons.1 h with h | h
  ·exact absurd h (by decide)
  ·rcases List.mem_append.1 h with h | h
   ·exact (pre_ok k hk).2.1 h
   ·exact (itoa_ok x).2 h
theorem body_10 {c:GInstr} {o:Nat} (h:Good c o):(10:UInt8) ∉ body o c.A c.B:=by
 intro hm
 unfold body at hm
 rcases List.mem_append.1 hm with hm | hm
 ·exact (nm_ok o h.hi).2.1 hm
 ·rcases List.mem_append.1 hm with hm | hm
  ·exact aL_10 _ (kU_in o h.hi h.lo 0 (by decide)) _ hm
  ·exact aL_10 _ (kU_in o h.hi h.lo 1 (by decide)) _ hm
theorem aL_len (k:UInt8) (hk:k ∈ kindsU) (x:Int) (h0:-9223372036854775808≤x) (h1:x≤9223372036854775807):(aL k x).length≤23:=by
 unfold aL
 split
 ·simp
 ·have:=Lib.itoa_length_le x h0 h1
  have:=(pre_ok k hk).2.2
  simp; omega
theorem body_len {c:GInstr} {o:Nat} (h:Good c o):(body o c.A c.B).length≤60:=by
 unfold body
 have h1:=(nm_ok o h.hi).2.2
 have h2:=aL_len _ (kU_in o h.hi h.lo 0 (by decide)) c.A h.a.1 h.a.2
 have h3:=aL_len _ (kU_in o h.hi h.lo 1 (by decide)) c.B h.b.1 h.b.2
 rw [List.length_append,List.length_append]; omega
def aW (k:UInt8) (x:Int):List (List UInt8):=if k = 45 then [] else [pre k++Lib.itoa x]
theorem pi_32 (k:UInt8) (hk:k ∈ kindsU) (x:Int):(32:UInt8) ∉ pre k++Lib.itoa x:=fun h=>by
 rcases List.mem_append.1 h with h | h
 ·exact (pre_ok k hk).1 h
 ·exact (itoa_ok x).1 h
theorem words_arg (w:List UInt8) (hw:(32:UInt8) ∉ w) (k:UInt8) (hk:k ∈ kindsU) (x:Int):words (w++aL k x) = w::aW k x:=by
 unfold aL aW
 split
 ·rw [List.append_nil,words_miss w hw]
 ·rw [words_hit w _ hw,words_miss _ (pi_32 k hk x)]
theorem words_body {c:GInstr} {o:Nat} (h:Good c o):words (body o c.A c.B) = nm o::(aW (kU (o:Int) 0) c.A++aW (kU (o:Int) 1) c.B):=by
 unfold body
 have hk0:=kU_in o h.hi h.lo 0 (by decide)
 have hk1:=kU_in o h.hi h.lo 1 (by decide)
 have hn:=(nm_ok o h.hi).1
 generalize kU (o:Int) 0 = k0 at hk0 ⊢
 generalize kU (o:Int) 1 = k1 at hk1 ⊢
 unfold aL aW
 by_cases h0:k0 = 45
 ·rw [if_pos h0,if_pos h0,List.nil_append,List.nil_append]
  exact words_arg (nm o) hn k1 hk1 c.B
 ·rw [if_neg h0,if_neg h0]
  rw [List.cons_append,words_hit _ _ hn]
  have:=words_arg (pre k0++Lib.itoa c.A) (pi_32 k0 hk0 _) k1 hk1 c.B
  unfold aL aW at this
  rw [this]; rfl
theorem numP_eq (k:UInt8) (x:Int) (h0:-9223372036854775808≤x) (h1:x≤9223372036854775807):numP k (pre k++Lib.itoa x) = some x:=by
 unfold numP
 rw [if_pos (List.isPrefixOf_iff_prefix.2 (List.prefix_append _ _)),List.drop_append_of_le_length (Nat.le_refl _),List.drop_length,List.nil_append]
 exact isNum_itoa x h0 h1
theorem argS_eq (k:UInt8) (x:Int) (h0:-9223372036854775808≤x) (h1:x≤9223372036854775807) (hz:k = 45→x = 0) (ws:List (List UInt8)):argS k (aW k x++ws) = some (x,ws):=by
 unfold argS aW
 by_cases h:k = 45
 ·rw [if_pos h,if_pos h,hz h]; rfl
 ·rw [if_neg h,if_neg h]
  simp only [List.cons_append,List.nil_append,numP_eq k x h0 h1,Option.map_some]
theorem instr_body {c:GInstr} {o:Nat} (h:Good c o):instrS (body o c.A c.B) = some c:=by
 unfold instrS
 rw [words_body h]
 simp only
 have hop:opN (BA (nm o)) 23 = o:=by
  have hn:BA (nm o) = ix refNames (o:Int):=BA_self _
  rcases opN_spec (BA (nm o)) 23 with ⟨-,h2⟩ | ⟨h1,h2,h3⟩
  ·exact absurd hn.symm (h2 o h.lo h.hi)
  ·exact names_inj _ h2 o h.hi (h3.trans hn)
 rw [hop,if_neg (by have:=h.lo; omega)]
 unfold instrL
 rw [argS_eq _ c.A h.a.1 h.a.2 h.a0]
 simp only [Option.bind_some]
 have:=argS_eq (kU (o:Int) 1) c.B h.b.1 h.b.2 h.b0 []
 rw [List.append_nil] at this
 rw [this]
 simp only [Option.bind_some,if_true,← h.op]
theorem line_body {c:GInstr} {o:Nat} (h:Good c o):lnL (body o c.A c.B) = (c,true):=by
 have h1:=lnL_S (body o c.A c.B) (by have:=body_len h; omega)
 rw [instr_body h] at h1
 cases hq:(lnL (body o c.A c.B)).2 with
 | false=>rw [hq] at h1; cases h1
 | true =>
  rw [hq] at h1
  have h2:=Option.some.inj h1
  exact Prod.ext h2.symm hq
theorem PL_text:∀ (code:List GInstr),(∀ c ∈ code,∃ o,Good c o)→∀ (k:Nat) (n:Int) (acc:List GInstr),(code.flatMap LL).length < k→PL k (code.flatMap LL) n acc = (⟨0,0⟩,acc++code)
 | [],_,0,n,acc,h=>by simp at h
 | [],_,k+1,n,acc,h=>by
  show PL (k+1) [] n acc = _
  rw [PL_nil,List.append_nil]
 | c::r,hg,0,n,acc,h=>by simp at h
 | c::r,hg,k+1,n,acc,h=>by
  obtain ⟨o,ho⟩:=hg c List.mem_cons_self
  have e:(c::r).flatMap LL = body o c.A c.B++10::r.flatMap LL:=by
   rw [List.flatMap_cons,LL_eq ho]; simp
  rw [e] at h ⊢
  rw [PL_hit k _ _ n acc (body_10 ho),line_body ho]
  simp only [cond_true]
  rw [PL_text r (fun x hx=>hg x (List.mem_cons_of_mem _ hx)) k _ _ (by rw [List.length_append,List.length_cons] at h; omega)]
  simp
end
end Go.Proofs.YtdckaaiidagodaaDoor
end

section
namespace Go.Proofs.YtdckaaiidagodaaDoor
open Go Go.Sx
set_option linter.unusedVariables false
set_option linter.unusedSimpArgs false
noncomputable section
theorem args_ext:∀ o:Nat,o < 23→1≤o→∀ i:Nat,i < 2→(ix refArgs ((o:Nat):Int)).extract i (i+1) = BA [kU ((o:Nat):Int) i]:=by decide
def xOf (c:GInstr) (i:Nat):Int:=if i = 0 then c.A else c.B
theorem lineOf_step {c:GInstr} {o:Nat} (h:Good c o) (i:Nat) (hi:i < 2) (s:List UInt8) (hs:s.length≤1000) :
  taskmillref_LineOf_l1 c (BA s,(i:Int)) = some (.inl (BA (s++aL (kU (o:Int) i) (xOf c i)),((i+1:Nat):Int))):=by
 have hkl:refArgs.length = 23:=rfl
 have ho:=h.hi
 have ho1:=h.lo
 have e1:decide ((i:Int) < 2) = true:=by simp; omega
 have e2:decide ((0:Int)≤(o:Int)) = true:=by simp
 have e3:decide ((o:Int) < (refArgs.length:Int)) = true:=by rw [hkl]; simp; omega
 have e4:decide ((0:Int)≤(i:Int)) = true:=by simp
 have e5:decide ((i:Int) < ((((ix refArgs (o:Int))).size:Nat):Int)) = true:=by rw [args_size o ho ho1]; simp; omega
 have e6:decide (((i+1:Nat):Int)≤((((ix refArgs (o:Int))).size:Nat):Int)) = true:=decide_eq_true (by rw [args_size o ho ho1]; omega)
 have e7:decide ((i:Int)≤((i+1:Nat):Int)) = true:=decide_eq_true (by omega)
 have hc:(ix refArgs (o:Int)).data.getD i 0 = kU (o:Int) i:=rfl
 have w1:IntKind.i64.wrap ((i:Int)+1) = ((i+1:Nat):Int):=wrapJ (by omega)
 have hk:=kU_in o ho ho1 i hi
 have hx:ix ([c.A,c.B]:List Int) (i:Int) = xOf c i:=by
  match i,hi with
  | 0,_=>rfl
  | 1,_=>rfl
 have hxr:-9223372036854775808≤xOf c i∧xOf c i≤9223372036854775807:=by
  unfold xOf; split
  ·exact h.a
  ·exact h.b
 have e8:decide ((i:Int) < ((([c.A,c.B]:List Int).length:Nat):Int)) = true:=by simp; omega
 have hil:(Lib.itoa (xOf c i)).length≤21:=Lib.itoa_length_le _ hxr.1 hxr.2
 have j2:∀ s2:List UInt8,s2.length≤1002→taskmillref_LineOf_j2 c (i:Int) (BA s2) = some (.inl (BA (s2++Lib.itoa (xOf c i)),((i+1:Nat):Int))):=fun s2 h2=>by
  have e9:decide ((BA s2).size+(itoaS (xOf c i)).size≤9223372036854775807) = true:=decide_eq_true (by
   have:(itoaS (xOf c i)).size = (Lib.itoa (xOf c i)).length:=BA_size _
   rw [BA_size,this]; omega)
  unfold taskmillref_LineOf_j2 taskmillref_LineOf_j1
  simp only [e4,e8,Bool.and_self,cond_true,hx,decimal_eq _ hxr.1 hxr.2,Option.bind_some,e9,w1]
  rw [show itoaS (xOf c i) = BA (Lib.itoa (xOf c i)) from rfl,BA_append]
 have f1:∀ q:List UInt8,q.length≤2→decide ((BA s).size+(BA q).size≤9223372036854775807) = true:=fun q hq=>decide_eq_true (by rw [BA_size,BA_size]; omega)
 have f2:∀ k:UInt8,decide ((BA (s++[32])).size+(BA [k]).size≤9223372036854775807) = true:=fun k=>decide_eq_true (by rw [BA_size,BA_size]; simp; omega)
 have m1:ByteArray.mk #[32] = BA [32]:=rfl
 have m2:ByteArray.mk #[32,64] = BA [32,64]:=rfl
 have m3:ByteArray.mk #[32,99] = BA [32,99]:=rfl
 unfold taskmillref_LineOf_l1 taskmillref_LineOf_j3
 rw [h.op]
 simp only [e1,e2,e3,e4,e5,e6,e7,Bool.and_self,cond_true,Int.toNat_natCast,hc,w1,args_ext o ho ho1 i hi,m1,m2,m3,BA_append,f1 [32] (by decide),f1 [32,64] (by decide),f1 [32,99] (by decide),f2]
 generalize kU (o:Int) i = k at hk ⊢
 rw [k45]
 by_cases h45:k = 45
 ·subst h45
  simp only [decide_true,cond_true,taskmillref_LineOf_j1,w1,aL,if_true,List.append_nil]
 ·have e10:decide (k = 45) = false:=by simpa using h45
  rw [e10]
  unfold aL
  rw [if_neg h45]
  have fin:∀ s2:List UInt8,s2.length≤2→taskmillref_LineOf_j2 c (i:Int) (BA (s++s2)) = some (.inl (BA (s++(s2++Lib.itoa (xOf c i))),((i+1:Nat):Int))):=fun s2 h2=>by
   rw [j2 _ (by rw [List.length_append]; omega),List.append_assoc]
  have fin2:∀ k:UInt8,taskmillref_LineOf_j2 c (i:Int) (BA ((s++[32])++[k])) = some (.inl (BA (s++(32::([k]++Lib.itoa (xOf c i)))),((i+1:Nat):Int))):=fun k=>by
   rw [List.append_assoc]
   exact fin [32,k] (by simp)
  simp only [kindsU,List.mem_cons,List.not_mem_nil,or_false] at hk
  rcases hk with rfl | rfl | rfl | rfl | rfl | rfl | rfl | rfl | rfl
  ·exact fin [32] (by decide)
  ·exact fin2 114
  ·exact fin [32,64] (by decide)
  ·exact fin [32,99] (by decide)
  ·exact fin2 112
  ·exact fin2 108
  ·exact fin2 103
  ·exact fin [32] (by decide)
  ·exact absurd rfl h45
theorem lineOf_eq {c:GInstr} {o:Nat} (h:Good c o):taskmillref_LineOf c = some (BA (body o c.A c.B)):=by
 have hkl:refNames.length = 23:=rfl
 have e2:decide ((0:Int)≤(o:Int)) = true:=by simp
 have e3:decide ((o:Int) < (refNames.length:Int)) = true:=by rw [hkl]; simp; have:=h.hi; omega
 have hn:ix refNames (o:Int) = BA (nm o):=(BA_self _).symm
 have hl:=(nm_ok o h.hi).2.2
 have hk0:=aL_len _ (kU_in o h.hi h.lo 0 (by decide)) c.A h.a.1 h.a.2
 have s0:=lineOf_step h 0 (by decide) (nm o) (by omega)
 have s1:=lineOf_step h 1 (by decide) (nm o++aL (kU (o:Int) 0) (xOf c 0)) (by rw [List.length_append]; show _+(aL (kU (o:Int) 0) c.A).length≤_; omega)
 unfold taskmillref_LineOf
 rw [h.op]
 simp only [e2,e3,Bool.and_self,cond_true,hn]
 rw [show loopO (taskmillref_LineOf_l1 c) (BA (nm o),0) = _ from loopO_inl s0,show loopO (taskmillref_LineOf_l1 c) (BA (nm o++aL (kU (o:Int) 0) (xOf c 0)),((0+1:Nat):Int)) = _ from loopO_inl s1]
 refine loopO_inr ?_
 unfold taskmillref_LineOf_l1
 have e1:decide (((1+1:Nat):Int) < 2) = false:=by decide
 simp only [e1,cond_false]
 unfold body xOf
 rw [if_pos rfl,if_neg (by decide),List.append_assoc]
 rfl
theorem textOf_eq (code:List GInstr) (hg:∀ c ∈ code,∃ o,Good c o) (hl:code.length≤1000):taskmillref_TextOf code = some (BA (code.flatMap LL)):=by
 unfold taskmillref_TextOf
 have hlen:∀ i,((code.take i).flatMap LL).length≤61 * i:=by
  intro i
  induction i with
  | zero=>simp
  | succ i ih =>
   by_cases hi:i < code.length
   ·rw [lines_succ LL code i hi,List.length_append]
    obtain ⟨o,ho⟩:=hg code[i] (List.getElem_mem hi)
    have:ix code (i:Int) = code[i]:=ix_get hi
    rw [this,LL_eq ho,List.length_append]
    have:=body_len ho
    have e10:([10]:List UInt8).length = 1:=rfl
    omega
   ·rw [List.take_of_length_le (by omega)] at ih ⊢
    omega
 have:=loopO_all (step:=taskmillref_TextOf_l1 code) (fun i=>(BA ((code.take i).flatMap LL),((i:Nat):Int))) (some (BA (code.flatMap LL))) code.length (fun i hi=>?_) ?_
 ·exact this
 ·have e1:decide ((i:Int) < (code.length:Int)) = true:=by simp; omega
  have e2:decide ((0:Int)≤(i:Int)) = true:=by simp
  obtain ⟨o,ho⟩:=hg code[i] (List.getElem_mem hi)
  have hx:ix code (i:Int) = code[i]:=ix_get hi
  have hb:=body_len ho
  have hp:=hlen i
  have e3:decide ((BA ((code.take i).flatMap LL)).size+(BA (body o code[i].A code[i].B)).size≤9223372036854775807) = true:=decide_eq_true (by rw [BA_size,BA_size]; omega)
  have e4:decide ((BA ((code.take i).flatMap LL++body o code[i].A code[i].B)).size+(ByteArray.mk #[10]).size≤9223372036854775807) = true:=decide_eq_true (by
   have:(ByteArray.mk #[10]).size = 1:=rfl
   rw [BA_size,List.length_append,this]; omega)
  unfold taskmillref_TextOf_l1
  simp only [e1,e2,Bool.and_self,cond_true,hx,lineOf_eq ho,Option.bind_some,e3,BA_append,e4,wrapJ (show i < 1000000 by omega)]
  rw [lines_succ LL code i hi,hx,LL_eq ho,List.append_assoc]
 ·unfold taskmillref_TextOf_l1
  have e1:decide ((code.length:Int) < (code.length:Int)) = false:=by simp
  simp only [e1,cond_false,List.take_length]
end
end Go.Proofs.YtdckaaiidagodaaDoor
end

section
namespace Go.Proofs.YtdckaaiidagodaaDoor
open Go Go.Sx
set_option linter.unusedVariables false
set_option linter.unusedSimpArgs false
noncomputable section
theorem same_stepT (l:List GInstr) (hl:l.length < 100000) (i:Nat) (hi:i < l.length):taskmilllaw_sameCode_l1 l l (i:Int) = some (.inl ((i+1:Nat):Int)):=by
 unfold taskmilllaw_sameCode_l1
 have e0:decide ((i:Int) < (l.length:Int)) = true:=by simp; omega
 have e1:decide ((0:Int)≤(i:Int)) = true:=by simp
 simp only [e0,e1,Bool.and_self,cond_true,beq_self_eq_true,Bool.not_true,cond_false,wrapJ (show i < 1000000 by omega)]
theorem same_selfT (l:List GInstr) (hl:l.length < 100000):taskmilllaw_sameCode l l = some true:=by
 unfold taskmilllaw_sameCode
 rw [show ((l.length:Int) != (l.length:Int)) = false from by simp,cond_false]
 exact loopO_all (step:=taskmilllaw_sameCode_l1 l l) (fun i=>((i:Nat):Int)) (some true) l.length (fun i hi=>same_stepT l hl i hi) (by unfold taskmilllaw_sameCode_l1; simp)
theorem PL_bad:∀ (k:Nat) (t:List UInt8) (n:Int) (acc:List GInstr),t.length < k→(PL k t n acc).1.Code≠0→(PL k t n acc).2 = []
 | 0,t,n,acc,h,_=>by omega
 | k+1,t,n,acc,h,hc=>by
  by_cases h0:t = []
  ·subst h0; rw [PL_nil] at hc; exact absurd rfl hc
  ·rcases cut_cases t with hm | ⟨s,r,rfl,hs⟩
   ·rw [PL_miss k t n acc h0 hm]
   ·rw [PL_hit k s r n acc hs] at hc ⊢
    cases hl:(lnL s).2 with
    | false=>rfl
    | true =>
     rw [hl] at hc
     simp only [cond_true] at hc ⊢
     exact PL_bad k r _ _ (by simp at h; omega) hc
theorem PL_len:∀ (k:Nat) (t:List UInt8) (n:Int) (acc:List GInstr),t.length < k→(PL k t n acc).2.length≤acc.length+t.length
 | 0,t,n,acc,h=>by omega
 | k+1,t,n,acc,h=>by
  by_cases h0:t = []
  ·subst h0; rw [PL_nil]; simp
  ·rcases cut_cases t with hm | ⟨s,r,rfl,hs⟩
   ·rw [PL_miss k t n acc h0 hm]; simp
   ·rw [PL_hit k s r n acc hs]
    cases (lnL s).2 with
    | false=>simp
    | true =>
     simp only [cond_true]
     have:=PL_len k r (n+1) (acc++[(lnL s).1]) (by simp at h; omega)
     rw [List.length_append] at this
     rw [List.length_append,List.length_cons]
     have e1:([(lnL s).1]:List GInstr).length = 1:=rfl
     omega
theorem j1_self (C:List GInstr) (F:Fault) (want:List GInstr) (hw:F.Code = 0→want = C) (hb:F.Code≠0→C = []) (hl:C.length < 100000):taskmilllaw_CodeTexts_j1 C F F want = some true:=by
 unfold taskmilllaw_CodeTexts_j1
 have e:(!((F.Code == F.Code) && ((F.At == F.At) && true))) = false:=by simp
 rw [e,cond_false]
 by_cases h:F.Code = 0
 ·have e1:(F.Code != 0) = false:=by simpa using h
  rw [e1,cond_false,hw h,same_selfT C hl]; rfl
 ·have e1:(F.Code != 0) = true:=by simpa using h
  rw [e1,cond_true,hb h]; rfl
theorem j3_true (text:ByteArray):∃ F C,code_Parse text = some (F,C)∧∀ w,taskmilllaw_CodeTexts_j3 text C F w = some true:=by
 by_cases h:text.size≤20000
 ·have hs:text.data.toList.length = text.size:=by rw [← BA_size,BA_self]
  have hp:=parse_eq text h
  have hlt:text.data.toList.length < text.size+1:=by omega
  generalize text.size+1 = k at hp hlt
  obtain ⟨want',h1,h2⟩:=law_loop (PL k text.data.toList 0 []).2 (PL k text.data.toList 0 []).1 k text.data.toList hlt [] [] (by simp; omega) (Nat.le_refl _)
  have hb:=PL_bad k text.data.toList 0 [] hlt
  have hn:=PL_len k text.data.toList 0 [] hlt
  simp only [List.length_nil,Nat.zero_add,List.nil_append] at h1 h2 hn
  have hq:((0:Nat):Int) = 0:=rfl
  rw [hq] at h1 h2
  generalize PL k text.data.toList 0 [] = R at hp h1 h2 hb hn
  obtain ⟨F,C⟩:=R
  refine ⟨F,C,hp,fun w=>?_⟩
  unfold taskmilllaw_CodeTexts_j3
  have e:decide ((20000:Int) < (text.size:Int)) = false:=decide_eq_false (by omega)
  rw [e,cond_false,lines_eq text (by omega)]
  simp only [Option.bind_some]
  rw [h1]
  have hn2:C.length≤text.data.toList.length:=hn
  exact j1_self _ _ _ h2 hb (by omega)
 ·have e:decide ((20000:Int) < (text.size:Int)) = true:=decide_eq_true (by omega)
  refine ⟨⟨2,0⟩,[],?_,fun w=>?_⟩
  ·unfold code_Parse code_fault
   rw [e]; rfl
  ·unfold taskmilllaw_CodeTexts_j3
   rw [e,cond_true]
   exact j1_self [] ⟨2,0⟩ [] (fun _=>rfl) (fun _=>rfl) (by decide)
theorem argOk45 (p:GProgram) (x:Int) (h:argOk p 45 x = true):x = 0:=by
 have:argOk p 45 x = (decide ((0:Int)≤x) && decide (x < 1)):=rfl
 rw [this] at h
 simp at h
 omega
theorem good_of {p:GProgram} (h:Ok p) (hin:∀ c ∈ p.Code,(-9223372036854775808≤c.A∧c.A≤9223372036854775807)∧-9223372036854775808≤c.B∧c.B≤9223372036854775807) (k:Nat) (hk:k < p.Code.length):∃ o,Good (ix p.Code (k:Int)) o:=by
 have hx:ix p.Code (k:Int) = p.Code[k]:=ix_get hk
 obtain ⟨ha,hb⟩:=hin p.Code[k] (List.getElem_mem hk)
 have hi:=h.ins (k:Int) (by omega) (by omega)
 unfold badI at hi
 rw [hx] at hi ⊢
 generalize p.Code[k] = c at *
 split at hi
 ·cases hi
 ·rename_i h1
  split at hi
  ·rename_i h2
   obtain ⟨o,ho⟩:=Int.eq_ofNat_of_zero_le (show 0≤c.Op by omega)
   have ho:c.Op = (o:Int):=ho
   refine ⟨o,ho,by omega,by omega,ha,hb,fun e=>?_,fun e=>?_⟩
   ·refine argOk45 p c.A ?_
    have:kd c.Op 0 = 45:=by rw [ho]; show (((kU (o:Int) 0).toNat:Nat):Int) = 45; rw [e]; rfl
    rw [← this]; exact h2.1
   ·refine argOk45 p c.B ?_
    have:kd c.Op 1 = 45:=by rw [ho]; show (((kU (o:Int) 1).toNat:Nat):Int) = 45; rw [e]; rfl
    rw [← this]; exact h2.2
  ·cases hi
theorem good_mem {p:GProgram} (h:∀ k:Nat,k < p.Code.length→∃ o,Good (ix p.Code (k:Int)) o):∀ c ∈ p.Code,∃ o,Good c o:=fun c hc=>by
 obtain ⟨k,hk,rfl⟩:=List.getElem_of_mem hc
 have:=h k hk
 rwa [ix_get hk] at this
theorem flat_len:∀ code:List GInstr,(∀ c ∈ code,∃ o,Good c o)→(code.flatMap LL).length≤61 * code.length
 | [],_=>by simp
 | c::r,h=>by
  obtain ⟨o,ho⟩:=h c List.mem_cons_self
  have:=flat_len r (fun x hx=>h x (List.mem_cons_of_mem _ hx))
  have:=body_len ho
  have e1:([10]:List UInt8).length = 1:=rfl
  rw [List.flatMap_cons,LL_eq ho]
  simp only [List.length_append,List.length_cons,List.length_nil]
  omega
theorem texts_law (p:GProgram) (text:ByteArray) (hin:∀ c ∈ p.Code,(-9223372036854775808≤c.A∧c.A≤9223372036854775807)∧-9223372036854775808≤c.B∧c.B≤9223372036854775807):taskmilllaw_CodeTexts p text = some true:=by
 unfold taskmilllaw_CodeTexts
 rw [vast_eq]
 simp only [taskmilllaw_codeBegun,Option.bind_some,Bool.not_true,cond_false]
 cases hv:(decide (2000 < p.Code.length) || decide (2000 < p.Pipes.length)) with
 | true=>rfl
 | false =>
  simp only [Bool.or_eq_false_iff,decide_eq_false_iff_not] at hv
  rw [cond_false]
  unfold taskmilllaw_CodeTexts_j6
  cases decide ((30000:Int) < (text.size:Int)) with
  | true=>rfl
  | false =>
   rw [cond_false,own_eq p (by omega) (by omega)]
   simp only [Option.bind_some]
   rw [show GProgram.mk p.Code p.Cells p.Pipes p.Locks p.Groups = p from rfl]
   obtain ⟨F,C,hP,hJ⟩:=j3_true text
   rw [hP,ref_eq]
   simp only [Option.bind_some]
   by_cases hc:(progF p).Code = 0
   ·have hz:=progF_zero hc
    have hok:=ok_of hc
    have hg:=good_of hok hin
    have hgm:=good_mem hg
    have hfl:=flat_len p.Code hgm
    have hlen:=hok.len
    have hT:code_Text p = some (BA (p.Code.flatMap LL),⟨0,0⟩):=by
     unfold code_Text
     rw [chk_eq,hz]
     have e:(((⟨0,0⟩:Fault).Code) != 0) = false:=rfl
     simp only [Option.bind_some,e,cond_false]
     rw [if_pos]
     ·rfl
     ·refine ⟨hlen,fun k hk=>?_,?_⟩
      ·obtain ⟨o,ho⟩:=hg k hk
       exact ⟨⟨o,ho.op,ho.hi,by rw [args_eq o ho.hi]; exact args_size o ho.hi ho.lo⟩,ho.a,ho.b⟩
      ·show (p.Code.flatMap LL).length≤_
       omega
    rw [hT,hz,textOf_eq p.Code hgm hlen]
    simp only [Option.bind_some,beq_self_eq_true,Bool.and_self,Bool.not_true,cond_false,cond_true,bne_self_eq_false,decide_true]
    unfold taskmilllaw_CodeTexts_j5
    simp only [cond_false,beq_self_eq_true,Bool.true_and]
    by_cases hs:(p.Code.flatMap LL).length≤20000
    ·have e1:decide ((((BA (p.Code.flatMap LL)).size:Nat):Int)≤20000) = true:=decide_eq_true (by rw [BA_size]; omega)
     rw [e1,cond_true,parse_eq _ (by rw [BA_size]; exact hs)]
     have hd:(BA (p.Code.flatMap LL)).data.toList = p.Code.flatMap LL:=by simp
     rw [hd,PL_text p.Code hgm _ _ _ (by rw [BA_size]; omega)]
     have e2:(((⟨0,0⟩:Fault).Code) != 0) = false:=rfl
     simp only [Option.bind_some,List.nil_append,e2,cond_false,same_selfT p.Code (by omega),Bool.not_true]
     unfold taskmilllaw_CodeTexts_j4
     exact hJ ⟨0,0⟩
    ·have e1:decide ((((BA (p.Code.flatMap LL)).size:Nat):Int)≤20000) = false:=decide_eq_false (by rw [BA_size]; omega)
     rw [e1,cond_false]
     exact hJ ⟨0,0⟩
   ·have hT:code_Text p = some (ByteArray.empty,progF p):=by
     unfold code_Text
     rw [chk_eq]
     have e:((progF p).Code != 0) = true:=by simpa using hc
     simp only [Option.bind_some,e,cond_true]
    have e1:((progF p).Code != 0) = true:=by simpa using hc
    have e2:((progF p).Code == 0) = false:=by simpa using hc
    rw [hT]
    simp only [Option.bind_some,beq_self_eq_true,Bool.and_self,Bool.not_true,cond_false,e1,cond_true,decide_true,e2]
    unfold taskmilllaw_CodeTexts_j5
    simp only [cond_false,e2,Bool.false_and]
    exact hJ (progF p)
end
end Go.Proofs.YtdckaaiidagodaaDoor
end
