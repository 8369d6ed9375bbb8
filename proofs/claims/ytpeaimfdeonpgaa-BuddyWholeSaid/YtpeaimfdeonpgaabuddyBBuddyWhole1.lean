/-
 Lemmas, put together: QA, QB, QC, buddyP, buddyP2, buddyP3, buddyP4, buddyP5, buddyP6, buddyP7, buddyP8, buddyP9, buddyPa, buddyPb, buddyPc, buddyPd.
 No conditions.
-/
import Derived.Test.YtpeaimfdeonpgaabuddyA3
import Derived.Test.YtpeaimfdeonpgaabuddyG
set_option linter.unusedSimpArgs false
set_option linter.unusedVariables false
set_option linter.unusedSectionVars false
section
namespace Go.Sx
open Go
set_option linter.unusedVariables false
theorem wrap_id {x:Int} (h1:-9223372036854775808≤x) (h2:x≤9223372036854775807):IntKind.i64.wrap x = x:=by
 simp only [IntKind.wrap,IntKind.bits,IntKind.signed,if_true]
 simp
 omega
theorem wrap_n1 (i:Nat) (h:i < 4611686018427387904):IntKind.i64.wrap ((i:Int)+1) = ((i+1:Nat):Int):=by
 rw [wrap_id (by omega) (by omega)]; rfl
def firstAt {β:Type} (bad:Nat→Option β):Nat→Option β
 | 0=>none
 | n+1=>(firstAt bad n).or (bad n)
theorem firstAt_none {β:Type} {f:Nat→Option β}:∀ (n:Nat),firstAt f n = none↔∀ i,i < n→f i = none
 | 0=>by simp [firstAt]
 | n+1=>by
  simp only [firstAt,Option.or_eq_none_iff,firstAt_none n]
  constructor
  ·rintro ⟨h1,h2⟩ i hi
   by_cases h:i = n
   ·subst h; exact h2
   ·exact h1 i (by omega)
  ·exact fun h=>⟨fun i hi=>h i (by omega),h n (by omega)⟩
theorem firstAt_some {β:Type} {f:Nat→Option β} {b:β}:∀ (n:Nat),firstAt f n = some b→∃ i,i < n∧f i = some b∧∀ j,j < i→f j = none
 | 0,h=>by simp [firstAt] at h
 | n+1,h=>by
  simp only [firstAt] at h
  cases hf:firstAt f n with
  | some c =>
   rw [hf] at h
   obtain ⟨i,h1,h2,h3⟩:=firstAt_some n hf
   simp only [Option.some_or] at h
   exact ⟨i,by omega,by rw [h2,h],h3⟩
  | none =>
   rw [hf] at h
   simp only [Option.none_or] at h
   exact ⟨n,by omega,h,fun j hj=>(firstAt_none n).1 hf j hj⟩
theorem loopO_find {S ρ:Type} {step:S→Option (S ⊕ ρ)} (E:Nat→S) (bad:Nat→Option ρ) (rest:Option ρ) (n:Nat)
  (h1:∀ i,i < n→bad i = none→step (E i) = some (.inl (E (i+1)))) (h2:∀ i r,i < n→bad i = some r→step (E i) = some (.inr r)) (h3:(∀ i,i < n→bad i = none)→step (E n) = rest.map .inr) :
  loopO step (E 0) = match firstAt bad n with
   | some r=>some r
   | none=>rest:=by
 have walk:∀ k,k≤n→(∀ i,i < k→bad i = none)→loopO step (E 0) = loopO step (E k):=by
  intro k
  induction k with
  | zero=>exact fun _ _=>rfl
  | succ k ih =>
   intro hk hb
   rw [ih (by omega) fun i hi=>hb i (by omega),loopO_inl (h1 k (by omega) (hb k (by omega)))]
 cases hf:firstAt bad n with
 | none =>
  have hb:=(firstAt_none n).1 hf
  rw [walk n (Nat.le_refl _) hb,loopO_out (h3 hb)]
 | some r =>
  obtain ⟨i,g1,g2,g3⟩:=firstAt_some n hf
  rw [walk i (by omega) g3,loopO_inr (h2 i r g1 g2)]
theorem ix_get {α:Type} [Enc α] {xs:List α} {i:Nat} (h:i < xs.length):ix xs (i:Int) = xs[i]:=by
 simp [ix,List.getD_eq_getElem?_getD,h]
theorem cut_take {α:Type} (xs:List α) (i:Nat):cut xs 0 (i:Int) = xs.take i:=by simp [cut]
theorem cut_drop {α:Type} (xs:List α) (i:Nat):cut xs (i:Int) (xs.length:Int) = xs.drop i:=by
 simp only [cut,Int.toNat_natCast]
 rw [List.take_of_length_le]; simp
def firstIf (p:Nat→Bool) (n:Nat):Option Nat:=firstAt (fun i=>bif p i then some i else none) n
theorem firstIf_none {p:Nat→Bool} {n:Nat}:firstIf p n = none↔∀ i,i < n→p i = false:=by
 unfold firstIf
 rw [firstAt_none]
 constructor
 ·intro h i hi
  have:=h i hi
  cases hp:p i with
  | false=>rfl
  | true=>rw [hp] at this; cases this
 ·intro h i hi
  rw [h i hi]; rfl
theorem firstIf_some {p:Nat→Bool} {n i:Nat} (h:firstIf p n = some i):i < n∧p i = true∧∀ j,j < i→p j = false:=by
 obtain ⟨k,h1,h2,h3⟩:=firstAt_some _ h
 cases hp:p k with
 | false=>rw [hp] at h2; cases h2
 | true =>
  rw [hp] at h2; cases h2
  refine ⟨h1,hp,fun j hj=>?_⟩
  have:=h3 j hj
  cases hq:p j with
  | false=>rfl
  | true=>rw [hq] at this; cases this
theorem loopO_if {S ρ:Type} {step:S→Option (S ⊕ ρ)} (E:Nat→S) (p:Nat→Bool) (R:Nat→Option ρ) (rest:Option ρ) (n:Nat)
  (h1:∀ i,i < n→p i = false→step (E i) = some (.inl (E (i+1)))) (h2:∀ i,i < n→p i = true→step (E i) = (R i).map .inr) (h3:(∀ i,i < n→p i = false)→step (E n) = rest.map .inr) :
  loopO step (E 0) = match firstIf p n with
   | some i=>R i
   | none=>rest:=by
 have walk:∀ k,k≤n→(∀ i,i < k→p i = false)→loopO step (E 0) = loopO step (E k):=by
  intro k
  induction k with
  | zero=>exact fun _ _=>rfl
  | succ k ih =>
   intro hk hb
   rw [ih (by omega) fun i hi=>hb i (by omega),loopO_inl (h1 k (by omega) (hb k (by omega)))]
 cases hf:firstIf p n with
 | none =>
  have hb:=firstIf_none.1 hf
  rw [walk n (Nat.le_refl _) hb,loopO_out (h3 hb)]
 | some i =>
  obtain ⟨g1,g2,g3⟩:=firstIf_some hf
  rw [walk i (by omega) g3,loopO_out (h2 i g1 g2)]
end Go.Sx
end

section
namespace Go.Sx
variable {α:Type}
def delAt (l:List α) (i j:Nat):List α:=l.take i++l.drop j
theorem del_lists [Inhabited α] (l:List α) (i j:Nat) (hi:i≤j) (hj:j≤l.length) (a:Int) (ha:a = ((i+(l.length - j):Nat):Int)) :
  cut (wipe (putL l (cut l (j:Int) (l.length:Int)) ((i:Int)).toNat) a (l.length:Int)) 0 ((i:Int)+(((cut l (j:Int) (l.length:Int)).length:Nat):Int)) = delAt l i j:=by
 subst ha
 rw [cut_drop]
 have e:((i:Int)+(((l.drop j).length:Nat):Int)) = ((i+(l.length - j):Nat):Int):=by simp
 rw [e,cut_take,wipe,putL]
 simp only [Int.toNat_natCast]
 rw [List.append_assoc,List.take_append_of_le_length (by simp [putL]; omega),List.take_of_length_le (by simp; omega)]
 unfold putL delAt
 rw [List.take_append_of_le_length (by simp; omega),List.take_of_length_le (by simp; omega)]
end Go.Sx
end

section
namespace Go.Sx
def toldOr {S ρ:Type} (o:Option ρ) (s:S):Option (S ⊕ ρ):=match o with
 | some r=>some (.inr r)
 | none=>some (.inl s)
@[simp] theorem toldOr_some {S ρ:Type} (r:ρ) (s:S):toldOr (some r) s = some (.inr r):=rfl
@[simp] theorem toldOr_none {S ρ:Type} (s:S):toldOr (none:Option ρ) s = some (.inl s):=rfl
theorem pairwise_next {α:Type} (R:α→α→Prop) (ht:∀ a b c,R a b→R b c→R a c) (l:List α):l.Pairwise R↔∀ i (h:i+1 < l.length),R l[i] l[i+1]:=by
 rw [List.pairwise_iff_getElem]
 constructor
 ·exact fun h i hi=>h i (i+1) (by omega) hi (by omega)
 ·intro h i j hi hj hij
  have gen:∀ d (hd:i+d+1 < l.length),R l[i] l[i+d+1]:=by
   intro d
   induction d with
   | zero=>exact fun hd=>h i hd
   | succ d ih =>
    intro hd
    exact ht _ _ _ (ih (by omega)) (h (i+d+1) hd)
  have:=gen (j - i - 1) (by omega)
  have e:i+(j - i - 1)+1 = j:=by omega
  simpa only [e] using this
theorem mid_eq (i j:Nat) (h:i+j < 4611686018427387904):IntKind.i64.wrap (Int.fdiv (IntKind.u64.wrap (IntKind.i64.wrap ((i:Int)+(j:Int)))) (2 ^ (min ((1:Int)).toNat (IntKind.u64).bits))) = (((i+j) / 2:Nat):Int):=by
 rw [wrap_id (x:=(i:Int)+j) (by omega) (by omega)]
 have e:IntKind.u64.wrap ((i:Int)+j) = (i:Int)+j:=by
  simp only [IntKind.wrap,IntKind.bits,IntKind.signed]
  simp
  omega
 rw [e,show (2:Int) ^ (min ((1:Int)).toNat (IntKind.u64).bits) = 2 from rfl,Int.fdiv_eq_ediv_of_nonneg _ (by omega)]
 rw [wrap_id (by omega) (by omega)]
 omega
theorem bs_gen {ρ:Type} {step:Int×Int→Option ((Int×Int) ⊕ ρ)} (n:Nat) (lt:Nat→Bool) (R:Nat→Option ρ) (hm:∀ a b,a < b→b < n→lt b = true→lt a = true)
  (h1:∀ i j:Nat,i < j→j≤n→step ((i:Int),(j:Int)) = if lt ((i+j) / 2) then some (.inl ((((i+j) / 2+1:Nat):Int),(j:Int))) else some (.inl ((i:Int),(((i+j) / 2:Nat):Int))))
  (h2:∀ i:Nat,i≤n→(∀ k,k < i→lt k = true)→(∀ k,i≤k→k < n→lt k = false)→step ((i:Int),(i:Int)) = (R i).map .inr) :
 ∃i,i≤n∧(∀ k,k < i→lt k = true)∧(∀ k,i≤k→k < n→lt k = false)∧loopO step (0,(n:Int)) = R i:=by
 have gen:∀ (d i j:Nat),j - i≤d→i≤j→j≤n→(∀ k,k < i→lt k = true)→(∀ k,j≤k→k < n→lt k = false) →
  ∃q,q≤n∧(∀ k,k < q→lt k = true)∧(∀ k,q≤k→k < n→lt k = false)∧loopO step ((i:Int),(j:Int)) = R q:=by
  intro d
  induction d with
  | zero =>
   intro i j hd hij hj ha hb
   have:i = j:=by omega
   subst this
   exact ⟨i,hj,ha,hb,loopO_out (h2 i hj ha hb)⟩
  | succ d ih =>
   intro i j hd hij hj ha hb
   by_cases he:i = j
   ·subst he
    exact ⟨i,hj,ha,hb,loopO_out (h2 i hj ha hb)⟩
   ·have hs:=h1 i j (by omega) hj
    have hmid:i≤(i+j) / 2∧(i+j) / 2 < j:=by omega
    cases hl:lt ((i+j) / 2) with
    | true =>
     rw [hl,if_pos rfl] at hs
     rw [loopO_inl hs]
     refine ih _ j (by omega) (by omega) hj (fun k hk=>?_) hb
     by_cases hk2:k = (i+j) / 2
     ·rw [hk2]; exact hl
     ·exact hm k ((i+j) / 2) (by omega) (by omega) hl
    | false =>
     rw [hl,if_neg (by simp)] at hs
     rw [loopO_inl hs]
     refine ih i _ (by omega) (by omega) (by omega) ha (fun k hk hkn=>?_)
     cases hk3:lt k with
     | false=>rfl
     | true =>
      by_cases hk2:k = (i+j) / 2
      ·rw [hk2,hl] at hk3; cases hk3
      ·have:=hm ((i+j) / 2) k (by omega) hkn hk3
       rw [hl] at this; cases this
 exact gen n 0 n (by omega) (Nat.zero_le _) (Nat.le_refl _) (fun k hk=>absurd hk (Nat.not_lt_zero k)) (fun k hk hkn=>by omega)
end Go.Sx
end

section
namespace Go.Proofs.Ytpeaimfdeonpgaa
open Go Go.Sx
set_option linter.unusedVariables false
set_option linter.unusedSimpArgs false
def bk (k m:Nat):GBlock:=⟨((m * 2 ^ k:Nat):Int),((2 ^ k:Nat):Int)⟩
structure VB (B:Nat) (b:GBlock):Prop where
 ex:∃ k m:Nat,k≤B∧m < 2 ^ (B - k)∧b = bk k m
theorem pow_le (B k:Nat) (h:k≤B):2 ^ (B - k) * 2 ^ k = 2 ^ B:=by rw [← Nat.pow_add,Nat.sub_add_cancel h]
theorem bk_end {B k m:Nat} (h:k≤B) (hm:m < 2 ^ (B - k)):(m+1) * 2 ^ k≤2 ^ B:=by
 rw [← pow_le B k h]; exact Nat.mul_le_mul_right _ hm
theorem two_pos (k:Nat):0 < 2 ^ k:=Nat.pow_pos (by decide)
theorem VB.pos {B:Nat} {b:GBlock} (h:VB B b):0 < b.Size:=by
 obtain ⟨k,m,_,_,rfl⟩:=h.ex
 have:=two_pos k
 simp only [bk]; omega
theorem VB.in {B:Nat} {b:GBlock} (h:VB B b):0≤b.Start∧b.Start+b.Size≤((2 ^ B:Nat):Int):=by
 obtain ⟨k,m,hk,hm,rfl⟩:=h.ex
 have:=bk_end hk hm
 simp only [bk]
 rw [Nat.add_mul,Nat.one_mul] at this
 exact ⟨by omega,by omega⟩
theorem bk_inj {k k' m m':Nat} (h:bk k m = bk k' m'):k = k'∧m = m':=by
 simp only [bk,GBlock.mk.injEq] at h
 obtain ⟨h1,h2⟩:=h
 have h2:2 ^ k = 2 ^ k':=by exact_mod_cast h2
 obtain rfl:k = k':=by
  rcases Nat.lt_trichotomy k k' with h | h | h
  ·exact absurd h2 (Nat.ne_of_lt (Nat.pow_lt_pow_right (by decide) h))
  ·exact h
  ·exact absurd h2.symm (Nat.ne_of_lt (Nat.pow_lt_pow_right (by decide) h))
 have h1:m * 2 ^ k = m' * 2 ^ k:=by exact_mod_cast h1
 exact ⟨rfl,Nat.eq_of_mul_eq_mul_right (two_pos k) h1⟩
def sib (m:Nat):Nat:=if m % 2 = 0 then m+1 else m - 1
theorem sib_sib (m:Nat):sib (sib m) = m:=by unfold sib; split <;> split <;> omega
theorem sib_ne (m:Nat):sib m≠m:=by unfold sib; split <;> omega
theorem sib_half (m:Nat):sib m / 2 = m / 2:=by unfold sib; split <;> omega
theorem sib_lt {k B m:Nat} (hk:k < B) (h:m < 2 ^ (B - k)):sib m < 2 ^ (B - k):=by
 have:2 ^ (B - k) = 2 * 2 ^ (B - k - 1):=by rw [← Nat.pow_succ',Nat.succ_eq_add_one]; congr 1; omega
 rw [this] at h ⊢
 unfold sib
 split <;> omega
def mt (b:GBlock):GBlock:=⟨if b.Start / b.Size % 2 = 0 then b.Start+b.Size else b.Start - b.Size,b.Size⟩
theorem mt_bk (k m:Nat):mt (bk k m) = bk k (sib m):=by
 unfold mt bk sib
 have hp:=two_pos k
 have hd:((m * 2 ^ k:Nat):Int) / ((2 ^ k:Nat):Int) = (m:Int):=by
  rw [Int.natCast_mul]
  exact Int.mul_ediv_cancel _ (by omega)
 simp only [hd]
 congr 1
 by_cases h:m % 2 = 0
 ·rw [if_pos h,if_pos (by omega)]
  rw [Nat.add_mul,Nat.one_mul]; push_cast
 ·rw [if_neg h,if_neg (by omega)]
  have:m * 2 ^ k = (m - 1) * 2 ^ k+2 ^ k:=by rw [← Nat.succ_mul]; congr 1; omega
  rw [this]; push_cast; omega
def chain:Int→List GBlock→Option Int
 | a,[]=>some a
 | a,b::r=>if b.Start = a then chain (a+b.Size) r else none
theorem chain_cons {a e:Int} {b:GBlock} {r:List GBlock}:chain a (b::r) = some e↔b.Start = a∧chain (a+b.Size) r = some e:=by
 simp only [chain]; split <;> simp_all
theorem chain_app:∀ (l r:List GBlock) (a e:Int),chain a (l++r) = some e↔∃ m,chain a l = some m∧chain m r = some e
 | [],r,a,e=>by simp [chain]
 | b::l,r,a,e=>by
  rw [List.cons_append,chain_cons,chain_app l r]
  constructor
  ·rintro ⟨h1,m,h2,h3⟩; exact ⟨m,chain_cons.2 ⟨h1,h2⟩,h3⟩
  ·rintro ⟨m,h2,h3⟩; exact ⟨(chain_cons.1 h2).1,m,(chain_cons.1 h2).2,h3⟩
def lt (a b:GBlock):Prop:=a.Start < b.Start
abbrev Pos (l:List GBlock):Prop:=∀ b ∈ l,0 < b.Size
theorem chain_from:∀ (l:List GBlock) (a e:Int),Pos l→chain a l = some e→a≤e∧∀ b ∈ l,a≤b.Start∧b.Start+b.Size≤e
 | [],a,e,_,h=>by cases h; exact ⟨Int.le_refl _,fun b hb=>by cases hb⟩
 | b::r,a,e,hp,h=>by
  obtain ⟨h1,h2⟩:=chain_cons.1 h
  have hb:=hp b (by simp)
  obtain ⟨h3,h4⟩:=chain_from r _ e (fun c hc=>hp c (by simp [hc])) h2
  refine ⟨by omega,fun c hc=>?_⟩
  rcases List.mem_cons.1 hc with rfl | hc
  ·omega
  ·have:=h4 c hc; omega
theorem chain_apart:∀ (l:List GBlock) (a e:Int),Pos l→chain a l = some e→l.Pairwise fun b c=>b.Start+b.Size≤c.Start
 | [],_,_,_,_=>.nil
 | b::r,a,e,hp,h=>by
  obtain ⟨h1,h2⟩:=chain_cons.1 h
  have hr:Pos r:=fun c hc=>hp c (by simp [hc])
  refine .cons (fun c hc=>?_) (chain_apart r _ e hr h2)
  have:=((chain_from r _ e hr h2).2 c hc).1; omega
theorem chain_sorted {l:List GBlock} {a e:Int} (hp:Pos l) (h:chain a l = some e):l.Pairwise lt:=by
 refine (chain_apart l a e hp h).imp_of_mem fun {b c} hb hc hbc=>?_
 have:=hp b hb; unfold lt; omega
theorem chain_cover:∀ (l:List GBlock) (a e:Int),chain a l = some e→∀ x,a≤x→x < e→∃ b ∈ l,b.Start≤x∧x < b.Start+b.Size
 | [],a,e,h,x,h1,h2=>by cases h; omega
 | b::r,a,e,h,x,h1,h2=>by
  obtain ⟨h3,h4⟩:=chain_cons.1 h
  by_cases hx:x < a+b.Size
  ·exact ⟨b,by simp,by omega,by omega⟩
  ·obtain ⟨c,hc,hcx⟩:=chain_cover r _ e h4 x (by omega) h2
   exact ⟨c,by simp [hc],hcx⟩
theorem sorted_unique:∀ {a b:List GBlock},a.Pairwise lt→b.Pairwise lt→(∀ x,x ∈ a↔x ∈ b)→a = b
 | [],[],_,_,_=>rfl
 | [],y::b,_,_,h=>absurd ((h y).2 (by simp)) (by simp)
 | x::a,[],_,_,h=>absurd ((h x).1 (by simp)) (by simp)
 | x::a,y::b,ha,hb,h=>by
  obtain ⟨ha1,ha2⟩:=List.pairwise_cons.1 ha
  obtain ⟨hb1,hb2⟩:=List.pairwise_cons.1 hb
  have hxy:x = y:=by
   rcases List.mem_cons.1 ((h x).1 (by simp)) with e | hx
   ·exact e
   ·rcases List.mem_cons.1 ((h y).2 (by simp)) with e | hy
    ·exact e.symm
    ·have h1:y.Start < x.Start:=hb1 x hx
     have h2:x.Start < y.Start:=ha1 y hy
     omega
  subst hxy
  congr 1
  refine sorted_unique ha2 hb2 fun z=>?_
  have hz:=h z
  simp only [List.mem_cons] at hz
  constructor
  ·intro hza
   rcases hz.1 (.inr hza) with rfl | h'
   ·have h1:z.Start < z.Start:=ha1 z hza
    omega
   ·exact h'
  ·intro hzb
   rcases hz.2 (.inr hzb) with rfl | h'
   ·have h1:z.Start < z.Start:=hb1 z hzb
    omega
   ·exact h'
theorem lt_trans {a b c:GBlock} (h:lt a b) (k:lt b c):lt a c:=Int.lt_trans h k
theorem sorted_start {l:List GBlock} (h:l.Pairwise lt) {b c:GBlock} (hb:b ∈ l) (hc:c ∈ l) (e:b.Start = c.Start):b = c:=by
 induction l with
 | nil=>cases hb
 | cons x l ih =>
  obtain ⟨h1,h2⟩:=List.pairwise_cons.1 h
  rcases List.mem_cons.1 hb with rfl | hb' <;> rcases List.mem_cons.1 hc with rfl | hc'
  ·rfl
  ·have h3:=h1 _ hc'; unfold lt at h3; omega
  ·have h3:=h1 _ hb'; unfold lt at h3; omega
  ·exact ih h2 hb' hc'
def Til (W:Int) (l:List GBlock):Prop:=∃ ms,ms.Perm l∧chain 0 ms = some W
theorem Til.perm {W:Int} {l l':List GBlock} (h:Til W l) (p:l.Perm l'):Til W l':=let ⟨ms,h1,h2⟩:=h; ⟨ms,h1.trans p,h2⟩
theorem Til.split {W:Int} {b c d:GBlock} {l:List GBlock} (h:Til W (b::l)) (h1:c.Start = b.Start) (h2:d.Start = c.Start+c.Size) (h3:c.Size+d.Size = b.Size):Til W (c::d::l):=by
 obtain ⟨ms,hp,hc⟩:=h
 obtain ⟨p,q,rfl⟩:=List.append_of_mem (hp.mem_iff.2 (by simp:b ∈ b::l))
 obtain ⟨m,hm1,hm2⟩:=(chain_app _ _ _ _).1 hc
 obtain ⟨e1,e2⟩:=chain_cons.1 hm2
 refine ⟨p++c::d::q,?_,(chain_app _ _ _ _).2 ⟨m,hm1,chain_cons.2 ⟨by omega,chain_cons.2 ⟨by omega,by rw [show m+c.Size+d.Size = m+b.Size by omega]; exact e2⟩⟩⟩⟩
 have:(p++q).Perm l:=by
  have:=List.perm_middle.symm.trans hp
  exact (List.perm_cons b).1 this
 exact (List.perm_middle.trans (.cons c (List.perm_middle.trans (.cons d this))))
theorem Til.join {W:Int} {b c d:GBlock} {l:List GBlock} (hpos:Pos (c::d::l)) (h:Til W (c::d::l)) (h1:c.Start = b.Start) (h2:d.Start = c.Start+c.Size) (h3:c.Size+d.Size = b.Size):Til W (b::l):=by
 obtain ⟨ms,hp,hc⟩:=h
 have hps:Pos ms:=fun x hx=>hpos x (hp.mem_iff.1 hx)
 obtain ⟨p,q,rfl⟩:=List.append_of_mem (hp.mem_iff.2 (by simp:c ∈ c::d::l))
 have hq:(p++q).Perm (d::l):=(List.perm_cons c).1 (List.perm_middle.symm.trans hp)
 obtain ⟨m,hm1,hm2⟩:=(chain_app _ _ _ _).1 hc
 obtain ⟨e1,e2⟩:=chain_cons.1 hm2
 have hs:=chain_sorted hps hc
 have hcp:=hpos c (by simp)
 have hdp:=hpos d (by simp)
 -- who begins where c ends?
 have hdm:d ∈ p++c::q:=hp.mem_iff.2 (by simp)
 have hdW:=((chain_from _ _ _ hps hc).2 d hdm).2
 match q,e2,hq,hs,hdm,hp,hc,hps,hm2 with
 | [],e2,_,_,_,_,_,_,_=>cases e2; omega
 | x::q,e2,hq,hs,hdm,hp,hc,hps,hm2 =>
  obtain ⟨f1,f2⟩:=chain_cons.1 e2
  have hxd:x = d:=sorted_start hs (by simp) hdm (by omega)
  subst hxd
  refine ⟨p++b::q,?_,(chain_app _ _ _ _).2 ⟨m,hm1,chain_cons.2 ⟨by omega,by rw [show m+b.Size = m+c.Size+x.Size by omega]; exact f2⟩⟩⟩
  have:(p++q).Perm l:=(List.perm_cons x).1 (List.perm_middle.symm.trans hq)
  exact List.perm_middle.trans (.cons b this)
end Go.Proofs.Ytpeaimfdeonpgaa
end

section
namespace Go.Proofs.Ytpeaimfdeonpgaa
open Go Go.Sx
set_option linter.unusedVariables false
set_option linter.unusedSimpArgs false
theorem lt_n {i n:Nat} (h:i < n):decide ((i:Int) < (n:Int)) = true:=by simp; omega
theorem nlt_n (n:Nat):decide ((n:Int) < (n:Int)) = false:=by simp
theorem ge_n (i:Nat):decide ((0:Int)≤(i:Int)) = true:=by simp
theorem blk_beq (a b:GBlock):((a.Start == b.Start) && ((a.Size == b.Size) && true)) = decide (a = b):=by
 obtain ⟨a1,a2⟩:=a
 obtain ⟨b1,b2⟩:=b
 rw [Bool.eq_iff_iff]
 simp
def ins (l:List GBlock) (b:GBlock):List GBlock:=l.filter (fun x=>decide (x.Start < b.Start))++b::l.filter (fun x=>decide (b.Start < x.Start))
def rem (l:List GBlock) (b:GBlock):List GBlock:=l.filter fun x=>decide (x≠b)
theorem ins_perm {l:List GBlock} {b:GBlock} (hn:∀ x ∈ l,x.Start≠b.Start):(ins l b).Perm (b::l):=by
 refine List.perm_middle.trans (.cons b ?_)
 have h:∀ l:List GBlock,(∀ x ∈ l,x.Start≠b.Start)→(l.filter (fun x=>decide (x.Start < b.Start))++l.filter (fun x=>decide (b.Start < x.Start))).Perm l:=by
  intro l
  induction l with
  | nil=>exact fun _=>.nil
  | cons x l ih =>
   intro hx
   have ih:=ih fun y hy=>hx y (by simp [hy])
   have hxb:=hx x (by simp)
   by_cases h:x.Start < b.Start
   ·have h':¬ b.Start < x.Start:=by omega
    simp only [List.filter_cons,h,decide_true,if_true,h',decide_false,if_false,Bool.false_eq_true,List.cons_append]
    exact .cons x ih
   ·have h':b.Start < x.Start:=by omega
    simp only [List.filter_cons,h,decide_true,if_true,h',decide_false,if_false,Bool.false_eq_true]
    exact List.perm_middle.trans (.cons x ih)
 exact h l hn
theorem ins_sorted {l:List GBlock} (hs:l.Pairwise lt) (b:GBlock):(ins l b).Pairwise lt:=by
 unfold ins
 rw [List.pairwise_append,List.pairwise_cons]
 refine ⟨hs.filter _,⟨fun x hx=>?_,hs.filter _⟩,fun x hx y hy=>?_⟩
 ·simp only [List.mem_filter,decide_eq_true_eq] at hx; exact hx.2
 ·simp only [List.mem_filter,decide_eq_true_eq] at hx
  rcases List.mem_cons.1 hy with rfl | hy
  ·exact hx.2
  ·simp only [List.mem_filter,decide_eq_true_eq] at hy
   unfold lt; omega
theorem ins_mem {l:List GBlock} {b:GBlock} (hn:∀ x ∈ l,x.Start≠b.Start) {x:GBlock}:x ∈ ins l b↔x = b∨x ∈ l:=by
 rw [(ins_perm hn).mem_iff,List.mem_cons]
theorem ins_len {l:List GBlock} {b:GBlock} (hn:∀ x ∈ l,x.Start≠b.Start):(ins l b).length = l.length+1:=(ins_perm hn).length_eq
theorem rem_sorted {l:List GBlock} (hs:l.Pairwise lt) (b:GBlock):(rem l b).Pairwise lt:=hs.filter _
theorem rem_mem {l:List GBlock} {b x:GBlock}:x ∈ rem l b↔x ∈ l∧x≠b:=by simp [rem]
theorem rem_perm {l:List GBlock} (hs:l.Pairwise lt) {b:GBlock} (hb:b ∈ l):l.Perm (b::rem l b):=by
 induction l with
 | nil=>cases hb
 | cons x l ih =>
  obtain ⟨h1,h2⟩:=List.pairwise_cons.1 hs
  unfold rem
  by_cases hx:x = b
  ·subst hx
   have:l.filter (fun y=>decide (y≠x)) = l:=List.filter_eq_self.2 fun y hy=>by
    have:y≠x:=fun e=>by have h:=h1 y hy; unfold lt at h; subst e; omega
    simpa using this
   rw [List.filter_cons_of_neg (by simp),this]
  ·have hb':b ∈ l:=by rcases List.mem_cons.1 hb with e | h; exact absurd e.symm hx; exact h
   rw [List.filter_cons_of_pos (by simpa using hx)]
   exact (List.Perm.cons x (ih h2 hb')).trans (.swap b x _)
theorem rem_len {l:List GBlock} (hs:l.Pairwise lt) {b:GBlock} (hb:b ∈ l):l.length = (rem l b).length+1:=(rem_perm hs hb).length_eq
theorem sorted_get {l:List GBlock} (hs:l.Pairwise lt) {i j:Nat} (hi:i < l.length) (hj:j < l.length) (h:i < j):l[i].Start < l[j].Start:=List.pairwise_iff_getElem.1 hs i j hi hj h
theorem sorted_nodup {l:List GBlock} (hs:l.Pairwise lt):l.Nodup:=hs.imp fun {a b} h e=>by unfold lt at h; subst e; omega
theorem rem_at {l:List GBlock} (hs:l.Pairwise lt) {i:Nat} (hi:i < l.length):rem l l[i] = delAt l i (i+1):=by
 have e:l = l.take i++l[i]::l.drop (i+1):=by rw [← List.drop_eq_getElem_cons hi,List.take_append_drop]
 have hn:=sorted_nodup hs
 unfold rem delAt
 generalize hb:l[i] = b at e
 rw [e] at hn
 obtain ⟨h1,h2,h3⟩:=List.nodup_append.1 hn
 obtain ⟨h4,h5⟩:=List.nodup_cons.1 h2
 conv=>lhs; rw [e]
 rw [List.filter_append,List.filter_cons_of_neg (by simp),List.filter_eq_self.2 fun x hx=>?_,List.filter_eq_self.2 fun x hx=>?_]
 ·have:x≠b:=fun e=>h4 (e ▸ hx)
  simpa using this
 ·have:x≠b:=fun e=>h3 x hx b (by simp) e
  simpa using this
theorem del_eq {l:List GBlock} (hs:l.Pairwise lt) (hl:l.length < 1000000000000) {i:Nat} (hi:i < l.length):slices_Delete_Block_1 (i:Int) (IntKind.i64.wrap ((i:Int)+1)) l = some (rem l l[i]):=by
 rw [rem_at hs hi,wrap_n1 _ (by omega)]
 unfold slices_Delete_Block_1
 have h1:((i:Int) == ((i+1:Nat):Int)) = false:=by simp; omega
 rw [ge_n,show decide ((i:Int)≤((i+1:Nat):Int)) = true by simp; omega,show decide (((i+1:Nat):Int)≤(l.length:Int)) = true by simp; omega,h1,show decide ((i:Int)≤(l.length:Int)) = true by simp; omega,ge_n]
 simp only [Bool.and_self,cond_true,cond_false]
 congr 1
 refine del_lists l i (i+1) (by omega) (by omega) _ ?_
 rw [show cut l 0 (i:Int) = l.take i from cut_take l i,cut_drop,List.length_take,List.length_drop,Nat.min_eq_left (by omega)]
theorem clone_eq {l:List GBlock} (hl:l.length < 1000000000000):slices_Clone_Block l = some l:=by
 unfold slices_Clone_Block
 rw [List.nil_append,show decide (l.length * 16≤140737488355328) = true by simp; omega]
 rfl
theorem index_eq (l:List GBlock) (hl:l.length < 1000000000000) (b:GBlock):(b ∉ l∧slices_Index_Block l b = some (-1))∨∃ i,∃ h:i < l.length,l[i] = b∧slices_Index_Block l b = some (i:Int):=by
 have e:slices_Index_Block l b = match firstIf (fun i=>decide (l[i]? = some b)) l.length with
   | some i=>some (i:Int)
   | none=>some (-1):=by
  unfold slices_Index_Block
  refine loopO_if (step:=slices_Index_Block_l1 l b) (fun i=>((i:Nat):Int)) (fun i=>decide (l[i]? = some b)) (fun i=>some ((i:Nat):Int)) (some (-1)) l.length (fun i hi hp=>?_) (fun i hi hp=>?_) (fun _=>?_)
  ·unfold slices_Index_Block_l1
   rw [List.getElem?_eq_getElem hi] at hp
   have hp:l[i]≠b:=by simpa using hp
   rw [lt_n hi,ge_n,ix_get hi,blk_beq,show decide (b = l[i]) = false by simpa using fun e=>hp e.symm,wrap_n1 _ (by omega)]
   rfl
  ·unfold slices_Index_Block_l1
   rw [List.getElem?_eq_getElem hi] at hp
   have hp:l[i] = b:=by simpa using hp
   rw [lt_n hi,ge_n,ix_get hi,blk_beq,show decide (b = l[i]) = true by simpa using hp.symm]
   rfl
  ·unfold slices_Index_Block_l1
   rw [nlt_n]; rfl
 cases hf:firstIf (fun i=>decide (l[i]? = some b)) l.length with
 | none =>
  left
  rw [hf] at e
  refine ⟨fun hm=>?_,e⟩
  obtain ⟨i,hi,rfl⟩:=List.getElem_of_mem hm
  have:=firstIf_none.1 hf i hi
  simp at this
 | some i =>
  right
  rw [hf] at e
  obtain ⟨h1,h2,h3⟩:=firstIf_some hf
  rw [List.getElem?_eq_getElem h1] at h2
  exact ⟨i,h1,by simpa using h2,e⟩
theorem find_eq (l:List GBlock) (hl:l.length < 1000000000000) (b:GBlock):∃ r:Int,taskmillref_FindBlock l b = some r∧(0≤r↔b ∈ l):=by
 have e:taskmillref_FindBlock l b = match firstIf (fun i=>decide (l[i]? = some b)) l.length with
   | some i=>some (i:Int)
   | none=>some (-1):=by
  unfold taskmillref_FindBlock
  refine loopO_if (step:=taskmillref_FindBlock_l1 l b) (fun i=>((i:Nat):Int)) (fun i=>decide (l[i]? = some b)) (fun i=>some ((i:Nat):Int)) (some (-1)) l.length (fun i hi hp=>?_) (fun i hi hp=>?_) (fun _=>?_)
  ·unfold taskmillref_FindBlock_l1
   rw [List.getElem?_eq_getElem hi] at hp
   have hp:l[i]≠b:=by simpa using hp
   rw [lt_n hi,ge_n,ix_get hi,blk_beq,show decide (l[i] = b) = false by simpa using hp,wrap_n1 _ (by omega)]
   rfl
  ·unfold taskmillref_FindBlock_l1
   rw [List.getElem?_eq_getElem hi] at hp
   have hp:l[i] = b:=by simpa using hp
   rw [lt_n hi,ge_n,ix_get hi,blk_beq,show decide (l[i] = b) = true by simpa using hp]
   rfl
  ·unfold taskmillref_FindBlock_l1
   rw [nlt_n]; rfl
 cases hf:firstIf (fun i=>decide (l[i]? = some b)) l.length with
 | none =>
  rw [hf] at e
  refine ⟨-1,e,by simp; intro hm; obtain ⟨i,hi,rfl⟩:=List.getElem_of_mem hm; have:=firstIf_none.1 hf i hi; simp at this⟩
 | some i =>
  rw [hf] at e
  obtain ⟨h1,h2,h3⟩:=firstIf_some hf
  rw [List.getElem?_eq_getElem h1] at h2
  have h2:l[i] = b:=by simpa using h2
  exact ⟨(i:Int),e,by simp; rw [← h2]; exact List.getElem_mem h1⟩
def ordI (a b:Int):Int:=if a < b then -1 else if b < a then 1 else 0
theorem byStart_eq (a b:GBlock):buddy_byStart a b = some (ordI a.Start b.Start):=by
 unfold buddy_byStart cmp_Compare_int cmp_isNaN_int ordI
 by_cases h1:a.Start < b.Start
 ·simp [h1]
 ·by_cases h2:b.Start < a.Start <;> simp [h1,h2]
theorem bs_eq {l:List GBlock} (hs:l.Pairwise lt) (hl:l.length < 1000000000000) (t:GBlock):∃ i,i≤l.length∧(∀ q (hq:q < l.length),q < i→l[q].Start < t.Start)∧(∀ q (hq:q < l.length),i≤q→t.Start≤l[q].Start) ∧
  slices_BinarySearchFunc_Block l t = some ((i:Int),decide (i < l.length∧(l[i]?.map (·.Start)) = some t.Start)):=by
 have hb:=bs_gen (step:=slices_BinarySearchFunc_Block_l1 l t) l.length (fun i=>match l[i]? with | some x=>decide (x.Start < t.Start) | none=>false) (fun i=>some ((i:Int),decide (i < l.length∧(l[i]?.map (·.Start)) = some t.Start))) (fun a b hab hbl h=>?_) (fun i j hij hj=>?_) (fun i hi _ _=>?_)
 ·obtain ⟨i,hi,g1,g2,g3⟩:=hb
  refine ⟨i,hi,fun q hq hqi=>?_,fun q hq hqi=>?_,g3⟩
  ·have:=g1 q hqi
   rw [List.getElem?_eq_getElem hq] at this
   simpa using this
  ·have:=g2 q hqi hq
   rw [List.getElem?_eq_getElem hq] at this
   simpa using this
 ·have ha:a < l.length:=by omega
  rw [List.getElem?_eq_getElem hbl] at h
  rw [List.getElem?_eq_getElem ha]
  simp only [decide_eq_true_eq] at h ⊢
  have:=sorted_get hs ha hbl hab
  omega
 ·unfold slices_BinarySearchFunc_Block_l1
  dsimp only
  have hm:(i+j) / 2 < l.length:=by omega
  rw [show decide ((i:Int) < (j:Int)) = true from by simp; omega,cond_true,mid_eq i j (by omega),lt_n hm,ge_n,ix_get hm,byStart_eq,List.getElem?_eq_getElem hm,wrap_n1 _ (by omega)]
  simp only [Bool.and_self,cond_true,Option.bind_some]
  unfold ordI
  by_cases h:l[(i+j) / 2].Start < t.Start
  ·simp [h]
  ·by_cases h':t.Start < l[(i+j) / 2].Start <;> simp [h,h']
 ·unfold slices_BinarySearchFunc_Block_l1 slices_BinarySearchFunc_Block_j1
  dsimp only
  rw [show decide ((i:Int) < (i:Int)) = false from by simp,cond_false]
  by_cases hil:i < l.length
  ·rw [lt_n hil,ge_n,ix_get hil,byStart_eq,List.getElem?_eq_getElem hil]
   simp only [Bool.and_self,cond_true,Option.bind_some,Option.map_some,Option.some.injEq]
   unfold ordI
   by_cases h:l[i].Start < t.Start
   ·have:l[i].Start≠t.Start:=by omega
    simp [h,this,hil]
   ·by_cases h':t.Start < l[i].Start
    ·have:l[i].Start≠t.Start:=by omega
     simp [h,h',this,hil]
    ·have:l[i].Start = t.Start:=by omega
     simp [this,hil]
  ·have:i = l.length:=by omega
   subst this
   simp
theorem ins_at {l:List GBlock} {b:GBlock} {i:Nat} (hi:i≤l.length) (h1:∀ q (hq:q < l.length),q < i→l[q].Start < b.Start) (h2:∀ q (hq:q < l.length),i≤q→b.Start≤l[q].Start) (hn:∀ x ∈ l,x.Start≠b.Start) :
  ins l b = l.take i++b::l.drop i:=by
 have e:l = l.take i++l.drop i:=(List.take_append_drop i l).symm
 have ht:∀ x ∈ l.take i,x.Start < b.Start:=fun x hx=>by
  obtain ⟨q,hq,rfl⟩:=List.mem_take_iff_getElem.1 hx
  exact h1 q (by omega) (by omega)
 have hd:∀ x ∈ l.drop i,b.Start < x.Start:=fun x hx=>by
  have hne:=hn x (List.mem_of_mem_drop hx)
  obtain ⟨q,hq,rfl⟩:=List.getElem_of_mem hx
  rw [List.getElem_drop] at hne ⊢
  have:=h2 (i+q) (by simp at hq; omega) (by omega)
  omega
 unfold ins
 have f1:l.filter (fun x=>decide (x.Start < b.Start)) = l.take i:=by
  conv=>lhs; rw [e]
  rw [List.filter_append,List.filter_eq_self.2 fun x hx=>by simpa using ht x hx,List.filter_eq_nil_iff.2 fun x hx=>by have:=hd x hx; simp; omega,List.append_nil]
 have f2:l.filter (fun x=>decide (b.Start < x.Start)) = l.drop i:=by
  conv=>lhs; rw [e]
  rw [List.filter_append,List.filter_eq_nil_iff.2 fun x hx=>by have:=ht x hx; simp; omega,List.filter_eq_self.2 fun x hx=>by simpa using hd x hx,List.nil_append]
 rw [f1,f2]
theorem put_eq {l:List GBlock} (hs:l.Pairwise lt) (hl:l.length < 1000000000000) {b:GBlock} (hn:∀ x ∈ l,x.Start≠b.Start):buddy_put_1 b l = some (ins l b):=by
 obtain ⟨i,hi,h1,h2,e⟩:=bs_eq hs hl b
 unfold buddy_put_1
 rw [e,Option.bind_some]
 unfold slices_Insert_Block_1
 rw [show decide (0≤(i:Int)∧(i:Int)≤(l.length:Int)∧([b]:List GBlock).length = 1∧(l.length+1) * 16≤140737488355328) = true by simp; omega,cond_true,Option.bind_some,ins_at hi h1 h2 hn]
 simp [insL]
end Go.Proofs.Ytpeaimfdeonpgaa
end

section
namespace Go.Proofs.Ytpeaimfdeonpgaa
open Go Go.Sx
set_option linter.unusedVariables false
set_option linter.unusedSimpArgs false
def R64 (x:Int):Prop:=-9223372036854775808≤x∧x≤9223372036854775807
def pw (n:Int):Bool:=(List.range 63).any fun k=>decide (n = ((2 ^ k:Nat):Int))
theorem pw_iff {n:Int}:pw n = true↔∃ k,k < 63∧n = ((2 ^ k:Nat):Int):=by simp [pw,List.any_eq_true]
theorem toNat64 {m:Nat} (h:m < 9223372036854775808):(BitVec.ofInt 64 (m:Int)).toNat = m:=by
 rw [BitVec.ofInt_natCast,BitVec.toNat_ofNat,Nat.mod_eq_of_lt (by omega)]
theorem power_eq {n:Int} (h:R64 n):buddy_power n = some (pw n):=by
 unfold buddy_power
 congr 1
 by_cases hn:0 < n
 ·obtain ⟨m,rfl⟩:=Int.eq_ofNat_of_zero_le (Int.le_of_lt hn)
  have hm:m≤9223372036854775807:=by have:=h.2; omega
  rw [show decide ((0:Int) < (m:Int)) = true by simpa using hn,Bool.true_and]
  rw [wrap_id (x:=(m:Int) - 1) (by omega) (by omega),show (m:Int) - 1 = ((m - 1:Nat):Int) by omega]
  rw [show (IntKind.i64).bits = 64 from rfl,BitVec.toNat_and,toNat64 (by omega),toNat64 (by omega)]
  have hle:m &&& (m - 1)≤m:=Nat.and_le_left
  rw [wrap_id (by omega) (by omega),Bool.eq_iff_iff,pw_iff]
  rw [beq_iff_eq]
  have key:=Nat.and_sub_one_eq_zero_iff_isPowerOfTwo (n:=m) (by omega)
  constructor
  ·intro h0
   obtain ⟨k,hk⟩:=key.1 (by exact_mod_cast h0)
   refine ⟨k,?_,by rw [hk]⟩
   by_cases h63:k < 63
   ·exact h63
   ·have:=Nat.pow_le_pow_right (n:=2) (by decide) (show 63≤k by omega)
    rw [← hk] at this
    have e:(2:Nat) ^ 63 = 9223372036854775808:=by decide
    omega
  ·rintro ⟨k,_,hk⟩
   have:=key.2 ⟨k,by exact_mod_cast hk⟩
   exact_mod_cast this
 ·rw [show decide ((0:Int) < n) = false by simpa using hn,Bool.false_and]
  symm
  rw [Bool.eq_false_iff]
  intro hp
  obtain ⟨k,_,hk⟩:=pw_iff.1 hp
  have:=two_pos k
  omega
theorem isPower_eq (n:Int):taskmillref_IsPower n = some (pw n):=by
 unfold taskmillref_IsPower
 have hp:∀ i,i < 63→2 ^ i≤4611686018427387904:=fun i hi=>Nat.pow_le_pow_right (n:=2) (by decide) (show i≤62 by omega)
 have e:=loopO_if (step:=taskmillref_IsPower_l1 n) (fun i=>if i < 63 then ((2 ^ i:Nat):Int) else -9223372036854775808) (fun i=>decide (n = ((2 ^ i:Nat):Int))) (fun _=>some true) (some false) 63 (fun i hi h=>?_) (fun i hi h=>?_) (fun _=>?_)
 ·rw [if_pos (by decide)] at e
  rw [show ((1:Int)) = ((2 ^ 0:Nat):Int) from rfl,e]
  cases hf:firstIf (fun i=>decide (n = ((2 ^ i:Nat):Int))) 63 with
  | none =>
   have:=firstIf_none.1 hf
   symm
   congr 1
   rw [Bool.eq_false_iff]
   intro hp
   obtain ⟨k,hk,hn⟩:=pw_iff.1 hp
   have:=this k hk
   rw [decide_eq_false_iff_not] at this
   exact this hn
  | some i =>
   obtain ⟨h1,h2,_⟩:=firstIf_some hf
   symm
   congr 1
   exact pw_iff.2 ⟨i,h1,by simpa using h2⟩
 ·unfold taskmillref_IsPower_l1
  have hpos:=two_pos i
  have hl:=hp i hi
  rw [if_pos hi,decide_eq_true (Int.natCast_pos.2 hpos)]
  have hne:(((2 ^ i:Nat):Int) == n) = false:=by
   rw [decide_eq_false_iff_not] at h
   rw [beq_eq_false_iff_ne]; exact fun e=>h e.symm
  rw [hne]
  simp only [cond_true,cond_false,Option.some.injEq,Sum.inl.injEq]
  by_cases h62:i+1 < 63
  ·rw [if_pos h62,Nat.pow_succ]
   have:∀ p:Nat,p≤4611686018427387904→p * 2≤4611686018427387904→IntKind.i64.wrap ((p:Int) * 2) = ((p * 2:Nat):Int):=fun p h1 h2=>by rw [wrap_id (by omega) (by omega)]; omega
   exact this _ hl (by rw [← Nat.pow_succ]; exact hp (i+1) h62)
  ·have:i = 62:=by omega
   subst this
   rw [if_neg (by decide)]
   decide
 ·unfold taskmillref_IsPower_l1
  have hpos:=two_pos i
  have h:n = ((2 ^ i:Nat):Int):=by simpa using h
  rw [if_pos hi,decide_eq_true (Int.natCast_pos.2 hpos),h]
  simp
 ·unfold taskmillref_IsPower_l1
  rw [if_neg (by decide)]
  rfl
theorem xor_sib (k m:Nat):(m * 2 ^ k) ^^^ 2 ^ k = sib m * 2 ^ k:=by
 have h1:m * 2 ^ k = m <<< k:=(Nat.shiftLeft_eq m k).symm
 have h2:2 ^ k = 1 <<< k:=by rw [Nat.shiftLeft_eq,Nat.one_mul]
 rw [h1]
 conv=>lhs; rw [h2]
 rw [← Nat.shiftLeft_xor_distrib,Nat.shiftLeft_eq]
 congr 1
 unfold sib
 have:m ^^^ 1 = if m % 2 = 0 then m+1 else m - 1:=by
  by_cases h:m % 2 = 0
  ·rw [if_pos h]
   apply Nat.eq_of_testBit_eq
   intro i
   cases i with
   | zero=>rw [Nat.testBit_xor]; simp only [Nat.testBit_zero]; rw [Bool.eq_iff_iff]; simp; omega
   | succ i=>rw [Nat.testBit_succ,Nat.testBit_succ]; congr 1; rw [Nat.xor_div_two]; simp; omega
  ·rw [if_neg h]
   apply Nat.eq_of_testBit_eq
   intro i
   cases i with
   | zero=>rw [Nat.testBit_xor]; simp only [Nat.testBit_zero]; rw [Bool.eq_iff_iff]; simp; omega
   | succ i=>rw [Nat.testBit_succ,Nat.testBit_succ]; congr 1; rw [Nat.xor_div_two]; simp; omega
 exact this
theorem p30:(2:Nat) ^ 30 = 1073741824:=by decide
theorem bk_small {k m:Nat} (hk:k≤30) (h:(m+1) * 2 ^ k≤2 ^ 30):m * 2 ^ k < 1073741824∧2 ^ k≤1073741824∧sib m * 2 ^ k≤1073741824:=by
 have hp:=two_pos k
 rw [p30] at h
 rw [Nat.add_mul,Nat.one_mul] at h
 have hs:sib m * 2 ^ k≤(m+1) * 2 ^ k:=Nat.mul_le_mul_right _ (by unfold sib; split <;> omega)
 rw [Nat.add_mul,Nat.one_mul] at hs
 exact ⟨by omega,by omega,by omega⟩
theorem mate_eq {k m:Nat} (hk:k≤30) (h:(m+1) * 2 ^ k≤2 ^ 30):buddy_mate (bk k m) = some (bk k (sib m)):=by
 obtain ⟨h1,h2,h3⟩:=bk_small hk h
 unfold buddy_mate bk
 dsimp only
 rw [show (IntKind.i64).bits = 64 from rfl,BitVec.toNat_xor,toNat64 (by omega),toNat64 (by omega),xor_sib,wrap_id (by omega) (by omega)]
theorem mateOf_eq {k m:Nat} (hk:k≤30) (h:(m+1) * 2 ^ k≤2 ^ 30):taskmillref_MateOf (bk k m) = some (bk k (sib m)):=by
 obtain ⟨h1,h2,h3⟩:=bk_small hk h
 have hp:=two_pos k
 have hne:(((2 ^ k:Nat):Int) != 0) = true:=by rw [bne_iff_ne]; omega
 have hmle:m≤m * 2 ^ k:=Nat.le_mul_of_pos_right _ hp
 have hd:Int.tdiv ((m * 2 ^ k:Nat):Int) ((2 ^ k:Nat):Int) = (m:Int):=by
  rw [Int.tdiv_eq_ediv_of_nonneg (by omega),Int.natCast_mul]
  exact Int.mul_ediv_cancel _ (by omega)
 unfold taskmillref_MateOf bk
 dsimp only
 rw [hne,cond_true,hd,wrap_id (x:=(m:Int)) (by omega) (by omega)]
 unfold sib at h3 ⊢
 have hm:Int.tmod (m:Int) 2 = ((m % 2:Nat):Int):=by rw [Int.tmod_eq_emod_of_nonneg (by omega)]; omega
 rw [hm]
 by_cases he:m % 2 = 0
 ·rw [if_pos he] at h3 ⊢
  rw [he]
  rw [Nat.add_mul,Nat.one_mul] at h3 ⊢
  rw [wrap_id (by omega) (by omega)]
  simp
 ·rw [if_neg he] at h3 ⊢
  have:m * 2 ^ k = (m - 1) * 2 ^ k+2 ^ k:=by rw [← Nat.succ_mul]; congr 1; omega
  have hb:(((m % 2:Nat):Int) == 0) = false:=by rw [beq_eq_false_iff_ne]; omega
  rw [hb,cond_false,this,wrap_id (by omega) (by omega)]
  congr 2
  omega
end Go.Proofs.Ytpeaimfdeonpgaa
end

section
namespace Go.Proofs.Ytpeaimfdeonpgaa
open Go Go.Sx
set_option linter.unusedVariables false
set_option linter.unusedSimpArgs false
def WI (B:Nat):Int:=((2 ^ B:Nat):Int)
theorem W_le {B:Nat} (h:B≤30):2 ^ B≤1073741824:=by
 have:=Nat.pow_le_pow_right (n:=2) (by decide) h
 rwa [p30] at this
theorem WI_b {B:Nat} (h:B≤30):0 < WI B∧WI B≤1073741824:=by
 have h1:=W_le h
 have h2:=two_pos B
 unfold WI
 exact ⟨Int.natCast_pos.2 h2,by generalize 2 ^ B = w at h1; omega⟩
theorem shl_eq {x:Int} {B:Nat} (hx:x = (B:Int)) (h:B≤30):IntKind.i64.wrap ((1:Int) * 2 ^ (min (x).toNat (IntKind.i64).bits)) = WI B:=by
 subst hx
 have:=W_le h
 have hp:=two_pos B
 rw [show (IntKind.i64).bits = 64 from rfl,Int.toNat_natCast,Nat.min_eq_left (by omega),Int.one_mul,show ((2:Int) ^ B) = WI B by simp [WI]]
 have:=WI_b h
 rw [wrap_id (by omega) (by omega)]
theorem VB.in' {B:Nat} {b:GBlock} (h:VB B b):0≤b.Start∧b.Start+b.Size≤WI B:=h.in
structure Wl (l:List GBlock):Prop where
 len:l.length≤9223372036854775807
 r:∀ b ∈ l,R64 b.Start∧R64 b.Size
def vbb (B:Nat) (b:GBlock):Bool:=pw b.Size && decide (0≤b.Start) && decide (Int.tmod b.Start b.Size = 0) && decide (b.Size≤WI B) && decide (b.Start≤WI B - b.Size)
theorem vbb_iff {B:Nat} (hB:B≤30) {b:GBlock}:vbb B b = true↔VB B b:=by
 have hW:=W_le hB
 unfold vbb
 simp only [Bool.and_eq_true,decide_eq_true_eq]
 constructor
 ·rintro ⟨⟨⟨⟨h1,h2⟩,h3⟩,h4⟩,h5⟩
  obtain ⟨k,hk,hs⟩:=pw_iff.1 h1
  have hp:=two_pos k
  rw [hs] at h3 h4 h5
  have hkB:k≤B:=by
   by_cases h:k≤B
   ·exact h
   ·have:=Nat.pow_lt_pow_right (show 1 < 2 by decide) (show B < k by omega)
    unfold WI at h4; omega
  obtain ⟨a,ha⟩:=Int.eq_ofNat_of_zero_le h2
  rw [ha] at h3 h5
  rw [Int.tmod_eq_emod_of_nonneg (by omega)] at h3
  have h3:a % 2 ^ k = 0:=by exact_mod_cast h3
  have hd:=Nat.div_add_mod a (2 ^ k)
  rw [h3,Nat.add_zero,Nat.mul_comm] at hd
  refine ⟨k,a / 2 ^ k,hkB,?_,?_⟩
  ·have h6:=pow_le B k hkB
   unfold WI at h5
   have h7:a+2 ^ k≤2 ^ B:=by omega
   rw [← h6,← hd,← Nat.succ_mul] at h7
   exact Nat.le_of_mul_le_mul_right h7 hp
  ·obtain ⟨x,y⟩:=b
   unfold bk
   simp only at ha hs
   rw [ha,hs,hd]
 ·intro h
  have hin:=h.in'
  obtain ⟨k,m,hk,hm,rfl⟩:=h.ex
  have hp:=two_pos k
  refine ⟨⟨⟨⟨pw_iff.2 ⟨k,by omega,rfl⟩,hin.1⟩,?_⟩,?_⟩,?_⟩
  ·unfold bk
   simp only
   rw [Int.tmod_eq_emod_of_nonneg (by omega)]
   have:m * 2 ^ k % 2 ^ k = 0:=Nat.mul_mod_left m (2 ^ k)
   exact_mod_cast this
  ·have:=Nat.pow_le_pow_right (n:=2) (by decide) hk
   unfold WI bk; simp only; omega
  ·omega
def badI (B:Nat) (k:Int) (l:List GBlock) (i:Nat):Option Fault :=
 if vbb B (ix l (i:Int)) = true then (if 0 < i∧(ix l (i:Int)).Start≤(ix l ((i - 1:Nat):Int)).Start then some ⟨5,k⟩ else none) else some ⟨3,k⟩
def badL (B:Nat) (k:Int) (l:List GBlock):Option Fault:=firstAt (badI B k l) l.length
theorem badL_none {B:Nat} (hB:B≤30) {k:Int} {l:List GBlock} (h:badL B k l = none):(∀ b ∈ l,VB B b)∧l.Pairwise lt:=by
 have h:=(firstAt_none _).1 h
 have hv:∀ b ∈ l,VB B b:=fun b hb=>by
  obtain ⟨i,hi,rfl⟩:=List.getElem_of_mem hb
  have:=h i hi
  unfold badI at this
  rw [ix_get hi] at this
  rw [← vbb_iff hB]
  by_cases hv:vbb B l[i] = true
  ·exact hv
  ·rw [if_neg hv] at this; cases this
 refine ⟨hv,(pairwise_next lt (fun a b c=>lt_trans) l).2 fun i hi=>?_⟩
 have:=h (i+1) hi
 unfold badI at this
 rw [ix_get hi,if_pos ((vbb_iff hB).2 (hv _ (List.getElem_mem hi))),Nat.add_sub_cancel,ix_get (by omega)] at this
 unfold lt
 by_cases hlt:l[i+1].Start≤l[i].Start
 ·rw [if_pos ⟨by omega,hlt⟩] at this; cases this
 ·omega
theorem len_of {B:Nat} (hB:B≤30):∀ {l:List GBlock},(∀ b ∈ l,VB B b)→l.Pairwise lt→l.length≤1073741824:=by
 have gen:∀ (l:List GBlock) (a:Int),0≤a→a≤1073741824→(∀ b ∈ l,a≤b.Start∧b.Start < 1073741824)→l.Pairwise lt→(l.length:Int)≤1073741824 - a:=by
  intro l
  induction l with
  | nil=>intro a h1 h2 h hs; simp; omega
  | cons x l ih =>
   intro a h0 h1 h hs
   obtain ⟨h2,h3⟩:=List.pairwise_cons.1 hs
   have hx:=h x (by simp)
   have:=ih (a+1) (by omega) (by omega) (fun b hb=>⟨by have:=h2 b hb; unfold lt at this; omega,(h b (by simp [hb])).2⟩) h3
   simp only [List.length_cons]; push_cast; omega
 intro l hv hs
 have hW:=W_le hB
 have:=gen l 0 (by omega) (by omega) (fun b hb=>by have h1:=(hv b hb).in; have h2:=(hv b hb).pos; omega) hs
 omega
theorem wrapI {i:Nat} {l:List GBlock} (hw:Wl l) (hi:i < l.length):IntKind.i64.wrap ((i:Int)+1) = ((i+1:Nat):Int):=by
 have:=hw.len
 rw [wrap_id (by omega) (by omega)]; rfl
theorem pair_ix (u f:List GBlock) {k:Int} (hk:k = 0∨k = 1):ix ([u,f]:List (List GBlock)) k = if k = 1 then f else u:=by
 rcases hk with rfl | rfl <;> rfl
theorem chkG {s:Space} {B:Nat} (hs:s.Bits = (B:Int)) (hB:B≤30) {k:Int} (hk:k = 0∨k = 1) {l:List GBlock} (hl:l = if k = 1 then s.Free else s.Used) (hw:Wl l)
  {step:Int→Option (Int ⊕ (Int ⊕ Fault))} (hst:∀ i:Nat,i≤l.length→step ((i:Nat):Int) = buddy_Check_l1 s k ((i:Nat):Int)):loopO step 0 = some (match badL B k l with | some f=>.inr f | none=>.inl (k+1)):=by
 have hWb:=WI_b hB
 have hkw:IntKind.i64.wrap (k+1) = k+1:=by rcases hk with rfl | rfl <;> decide
 have hb0:decide ((0:Int)≤s.Bits) = true:=by rw [hs]; simp
 have e:=loopO_find (step:=step) (fun i=>((i:Nat):Int)) (fun i=>(badI B k l i).map Sum.inr) (some (.inl (k+1))) l.length (fun i hi hb=>?_) (fun i r hi hb=>?_) (fun _=>?_)
 ·unfold badL
  rw [show (0:Int) = ((0:Nat):Int) from rfl,e]
  have hm:∀ (g:Nat→Option Fault) (n:Nat),firstAt (fun i=>(g i).map (Sum.inr (α:=Int))) n = (firstAt g n).map Sum.inr:=fun g n=>by
   induction n with
   | zero=>rfl
   | succ n ih=>simp only [firstAt,ih]; cases firstAt g n <;> rfl
  rw [hm]
  cases firstAt (badI B k l) l.length <;> rfl
 ·rw [show step (i:Int) = _ from hst i (by omega)]
  unfold buddy_Check_l1 buddy_Check_j1
  have hx:=hw.r l[i] (List.getElem_mem hi)
  unfold badI at hb
  rw [ix_get hi] at hb
  rw [pair_ix _ _ hk,← hl,lt_n hi,ge_n,ix_get hi,power_eq hx.2,hb0,shl_eq hs hB]
  by_cases hv:vbb B l[i] = true
  ·rw [if_pos hv] at hb
   unfold vbb at hv
   simp only [Bool.and_eq_true,decide_eq_true_eq] at hv
   obtain ⟨⟨⟨⟨h1,h2⟩,h3⟩,h4⟩,h5⟩:=hv
   have hpos:0 < l[i].Size:=by obtain ⟨q,_,hq⟩:=pw_iff.1 h1; have:=two_pos q; omega
   have hsz:(l[i].Size != 0) = true:=by rw [bne_iff_ne]; omega
   rw [wrap_id (x:=WI B - l[i].Size) (by omega) (by omega)]
   simp only [h1,h2,h3,h4,h5,hsz,Option.bind_some,Bool.not_true,cond_false,cond_true,decide_false,Bool.and_self,show decide (l[i].Start < 0) = false from decide_eq_false (by omega),show ((0:Int) != 0) = false from rfl,show decide (WI B < l[i].Size) = false from decide_eq_false (by omega),show decide (WI B - l[i].Size < l[i].Start) = false from decide_eq_false (by omega),wrapI hw hi]
   by_cases hi0:0 < i
   ·have hw1:IntKind.i64.wrap ((i:Int) - 1) = ((i - 1:Nat):Int):=by have:=hw.len; rw [wrap_id (by omega) (by omega)]; omega
    rw [hw1,ge_n,lt_n (show i - 1 < l.length by omega),show decide ((0:Int) < (i:Int)) = true by simp; omega]
    have hn:¬ (l[i].Start≤(ix l ((i - 1:Nat):Int)).Start):=fun h=>by rw [if_pos ⟨hi0,h⟩] at hb; cases hb
    simp [hn]
   ·have:i = 0:=by omega
    subst this
    simp
  ·rw [if_neg hv] at hb; cases hb
 ·rw [show step (i:Int) = _ from hst i (by omega)]
  unfold buddy_Check_l1 buddy_Check_j1
  have hx:=hw.r l[i] (List.getElem_mem hi)
  obtain ⟨f,hf,rfl⟩:=Option.map_eq_some_iff.1 hb
  unfold badI at hf
  rw [ix_get hi] at hf
  rw [pair_ix _ _ hk,← hl,lt_n hi,ge_n,ix_get hi,power_eq hx.2,hb0,shl_eq hs hB]
  by_cases hv:vbb B l[i] = true
  ·rw [if_pos hv] at hf
   have hq:0 < i∧l[i].Start≤(ix l ((i - 1:Nat):Int)).Start:=by
    by_cases h:0 < i∧l[i].Start≤(ix l ((i - 1:Nat):Int)).Start
    ·exact h
    ·rw [if_neg h] at hf; cases hf
   rw [if_pos hq] at hf
   obtain rfl:=Option.some.inj hf
   unfold vbb at hv
   simp only [Bool.and_eq_true,decide_eq_true_eq] at hv
   obtain ⟨⟨⟨⟨h1,h2⟩,h3⟩,h4⟩,h5⟩:=hv
   have hpos:0 < l[i].Size:=by obtain ⟨q,_,hq⟩:=pw_iff.1 h1; have:=two_pos q; omega
   have hsz:(l[i].Size != 0) = true:=by rw [bne_iff_ne]; omega
   have hw1:IntKind.i64.wrap ((i:Int) - 1) = ((i - 1:Nat):Int):=by have:=hw.len; rw [wrap_id (by omega) (by omega)]; omega
   rw [wrap_id (x:=WI B - l[i].Size) (by omega) (by omega),hw1,ge_n,lt_n (show i - 1 < l.length by omega)]
   simp only [h1,h2,h3,h4,h5,hsz,Option.bind_some,Bool.not_true,cond_false,cond_true,decide_false,Bool.and_self,show decide (l[i].Start < 0) = false from decide_eq_false (by omega),show ((0:Int) != 0) = false from rfl,show decide (WI B < l[i].Size) = false from decide_eq_false (by omega),show decide (WI B - l[i].Size < l[i].Start) = false from decide_eq_false (by omega),show decide ((0:Int) < (i:Int)) = true from decide_eq_true (by omega),Bool.not_false,Bool.false_or,decide_eq_true hq.2]
   rfl
  ·rw [if_neg hv] at hf
   obtain rfl:=Option.some.inj hf
   simp only [Option.bind_some,cond_true,Bool.and_self]
   by_cases h1:pw l[i].Size = true
   ·have hpos:0 < l[i].Size:=by obtain ⟨q,_,hq⟩:=pw_iff.1 h1; have:=two_pos q; omega
    have hsz:(l[i].Size != 0) = true:=by rw [bne_iff_ne]; omega
    rw [h1,Bool.not_true,cond_false]
    by_cases h2:l[i].Start < 0
    ·rw [decide_eq_true h2]; rfl
    ·rw [decide_eq_false h2,cond_false,hsz,cond_true]
     by_cases h3:Int.tmod l[i].Start l[i].Size = 0
     ·rw [h3,show ((0:Int) != 0) = false from rfl,cond_false]
      by_cases h4:WI B < l[i].Size
      ·rw [decide_eq_true h4]; rfl
      ·rw [decide_eq_false h4,cond_false,wrap_id (x:=WI B - l[i].Size) (by omega) (by omega)]
       have h5:WI B - l[i].Size < l[i].Start:=by
        apply Classical.byContradiction
        intro h5
        apply hv
        unfold vbb
        simp only [Bool.and_eq_true,decide_eq_true_eq]
        exact ⟨⟨⟨⟨h1,by omega⟩,h3⟩,by omega⟩,by omega⟩
       rw [decide_eq_true h5]; rfl
     ·rw [show (Int.tmod l[i].Start l[i].Size != 0) = true by rw [bne_iff_ne]; exact h3]; rfl
   ·rw [Bool.not_eq_true] at h1
    rw [h1]; rfl
 ·rw [show step (l.length:Int) = _ from hst _ (Nat.le_refl _)]
  unfold buddy_Check_l1
  rw [pair_ix _ _ hk,← hl,nlt_n,cond_false,hkw]
theorem ref_step {s:Space} {B:Nat} (hs:s.Bits = (B:Int)) (hB:B≤30) {k:Int} (hk:k = 0∨k = 1) {l:List GBlock} (hl:l = if k = 1 then s.Free else s.Used) (hw:Wl l) (i:Nat) (hi:i≤l.length) :
  taskmillref_SpaceFault_l1 s k l (i:Int) = buddy_Check_l1 s k (i:Int):=by
 have hb0:decide ((0:Int)≤s.Bits) = true:=by rw [hs]; simp
 unfold taskmillref_SpaceFault_l1 buddy_Check_l1
 rw [pair_ix _ _ hk,← hl]
 by_cases h:i < l.length
 ·have hx:=hw.r l[i] (List.getElem_mem h)
  rw [lt_n h,ge_n,ix_get h,isPower_eq,power_eq hx.2,hb0]
  unfold taskmillref_SpaceFault_j1 buddy_Check_j1
  rw [pair_ix _ _ hk,← hl]
  rfl
 ·have:i = l.length:=by omega
  subst this
  rw [nlt_n]
  rfl
theorem chk1 {s:Space} {B:Nat} (hs:s.Bits = (B:Int)) (hB:B≤30) {k:Int} (hk:k = 0∨k = 1) {l:List GBlock} (hl:l = if k = 1 then s.Free else s.Used) (hw:Wl l) :
  loopO (buddy_Check_l1 s k) 0 = some (match badL B k l with | some f=>.inr f | none=>.inl (k+1)):=chkG hs hB hk hl hw fun _ _=>rfl
theorem ref1 {s:Space} {B:Nat} (hs:s.Bits = (B:Int)) (hB:B≤30) {k:Int} (hk:k = 0∨k = 1) {l:List GBlock} (hl:l = if k = 1 then s.Free else s.Used) (hw:Wl l) :
  taskmillref_SpaceFault_j2 s k l = some (match badL B k l with | some f=>.inr f | none=>.inl (k+1)):=chkG hs hB hk hl hw (ref_step hs hB hk hl hw)
theorem concat_eq (u f:List GBlock) (hu:u.length≤1073741824) (hf:f.length≤1073741824):slices_Concat_Block [u,f] = some (u++f):=by
 unfold slices_Concat_Block
 rw [loopO_inl (s':=((u.length:Int),1)),loopO_inl (s':=(((u.length+f.length:Nat):Int),2)),loopO_out (x:=some (u++f))]
 ·unfold slices_Concat_Block_l2
  dsimp only
  rw [show decide ((2:Int) < (([u,f].length:Nat):Int)) = false from rfl,cond_false]
  congr 1
  unfold slices_Grow_Block
  rw [show decide (0≤((u.length+f.length:Nat):Int)∧((u.length+f.length:Nat):Int) * 16≤140737488355328) = true from decide_eq_true (by omega),cond_true,Option.bind_some]
  rw [loopO_inl (s':=(1,u)),loopO_inl (s':=(2,u++f)),loopO_out (x:=some (u++f))]
  ·unfold slices_Concat_Block_l1
   rfl
  ·unfold slices_Concat_Block_l1
   dsimp only
   rw [show ix ([u,f]:List (List GBlock)) 1 = f from rfl,show decide ((u++f).length * 16≤140737488355328) = true from decide_eq_true (by rw [List.length_append]; omega)]
   rfl
  ·unfold slices_Concat_Block_l1
   dsimp only
   rw [show ix ([u,f]:List (List GBlock)) 0 = u from rfl,List.nil_append,show decide (u.length * 16≤140737488355328) = true from decide_eq_true (by omega)]
   rfl
 ·unfold slices_Concat_Block_l2
  dsimp only
  rw [show ix ([u,f]:List (List GBlock)) 1 = f from rfl,wrap_id (x:=(u.length:Int)+(f.length:Int)) (by omega) (by omega),show decide ((u.length:Int)+(f.length:Int) < 0) = false from decide_eq_false (by omega)]
  rfl
 ·unfold slices_Concat_Block_l2
  dsimp only
  rw [show ix ([u,f]:List (List GBlock)) 0 = u from rfl,Int.zero_add,wrap_id (x:=(u.length:Int)) (by omega) (by omega),show decide ((u.length:Int) < 0) = false from decide_eq_false (by omega)]
  rfl
theorem sfLt (x y:GBlock):Go.Proofs.ltOf sfCf_26 x y = decide (x.Start < y.Start):=by
 unfold Go.Proofs.ltOf sfCf_26 Go.Lib.compareInt
 by_cases h1:x.Start < y.Start
 ·simp [h1]
 ·by_cases h2:y.Start < x.Start <;> simp [h1,h2]
theorem sfSwo:Go.Sort.SWO (Go.Proofs.ltOf sfCf_26) where
 irrefl x:=by rw [sfLt]; simp
 trans x y z h1 h2:=by rw [sfLt] at *; simp at *; omega
 ntrans x y z h1 h2:=by rw [sfLt] at *; simp at *; omega
theorem sorted_eq (l:List GBlock) (hl:l.length≤4294967296):∃ ys,slices_SortedFunc_Block l = some ys∧ys.Perm l∧ys.Pairwise fun a b=>a.Start≤b.Start:=by
 obtain ⟨hp,ho⟩:=sortF_perm (cf:=sfCf_26) sfSwo l
 refine ⟨sortF sfCf_26 l,?_,hp,?_⟩
 ·unfold slices_SortedFunc_Block slices_Collect_Block slices_SortFunc_Block
  rw [show decide (l.length * 16≤140737488351232) = true from decide_eq_true (by omega),cond_true,Option.bind_some,show decide (l.length < 4611686018427387904) = true from decide_eq_true (by omega),cond_true,Option.bind_some,decide_eq_true hp.length_eq]
  rfl
 ·rw [List.pairwise_iff_getElem]
  intro i j hi hj hij
  have:=ho i j hij (by rw [← hp.length_eq]; exact hj)
  rw [getElem!_pos _ j hj,getElem!_pos _ i hi,sfLt,decide_eq_false_iff_not] at this
  omega
theorem chain_of_til {W:Int} {l ys:List GBlock} (hpos:Pos l) (hp:ys.Perm l) (hs:ys.Pairwise fun a b=>a.Start≤b.Start):chain 0 ys = some W↔Til W l:=by
 constructor
 ·exact fun h=>⟨ys,hp,h⟩
 ·rintro ⟨ms,hm,hc⟩
  have hmp:Pos ms:=fun b hb=>hpos b (hm.mem_iff.1 hb)
  have hms:=chain_sorted hmp hc
  have hnd:ys.Nodup:=(hp.trans hm.symm).nodup_iff.2 (sorted_nodup hms)
  have hys:ys.Pairwise lt:=by
   refine (List.Pairwise.and hs hnd).imp_of_mem fun {a b} ha hb hab=>?_
   have hne:a.Start≠b.Start:=fun e=>hab.2 (sorted_start hms ((hp.trans hm.symm).mem_iff.1 ha) ((hp.trans hm.symm).mem_iff.1 hb) e)
   unfold lt; have:=hab.1; omega
  rw [sorted_unique hys hms fun x=>(hp.trans hm.symm).mem_iff]
  exact hc
end Go.Proofs.Ytpeaimfdeonpgaa
end

section
namespace Go.Proofs.Ytpeaimfdeonpgaa
open Go Go.Sx
set_option linter.unusedVariables false
set_option linter.unusedSimpArgs false
theorem VB.small {B:Nat} (hB:B≤30) {b:GBlock} (h:VB B b):∃ k m:Nat,k≤30∧(m+1) * 2 ^ k≤2 ^ 30∧b = bk k m:=by
 obtain ⟨k,m,hk,hm,rfl⟩:=h.ex
 exact ⟨k,m,by omega,Nat.le_trans (bk_end hk hm) (Nat.pow_le_pow_right (by decide) hB),rfl⟩
theorem mate_v {B:Nat} (hB:B≤30) {b:GBlock} (h:VB B b):buddy_mate b = some (mt b):=by
 obtain ⟨k,m,h1,h2,rfl⟩:=h.small hB
 rw [mate_eq h1 h2,mt_bk]
theorem mateOf_v {B:Nat} (hB:B≤30) {b:GBlock} (h:VB B b):taskmillref_MateOf b = some (mt b):=by
 obtain ⟨k,m,h1,h2,rfl⟩:=h.small hB
 rw [mateOf_eq h1 h2,mt_bk]
def mates (B:Nat) (F:List GBlock):Prop:=∃ b ∈ F,b.Size < WI B∧mt b ∈ F
theorem contains_eq (l:List GBlock) (hl:l.length < 1000000000000) (b:GBlock):slices_Contains_Block l b = some (decide (b ∈ l)):=by
 unfold slices_Contains_Block
 rcases index_eq l hl b with ⟨h1,h2⟩ | ⟨i,hi,h1,h2⟩
 ·rw [h2,decide_eq_false h1]; rfl
 ·rw [h2,decide_eq_true (by rw [← h1]; exact List.getElem_mem hi),Option.bind_some,ge_n]
open Classical in
theorem check1_eq {s:Space} {B:Nat} (hs:s.Bits = (B:Int)) (hB:B≤30) (hl:s.Free.length < 1000000000000) {b:GBlock} (h:VB B b):buddy_Check_1 b s = some (decide (b.Size < WI B∧mt b ∈ s.Free)):=by
 unfold buddy_Check_1 buddy_Check_1_j1
 rw [show decide ((0:Int)≤s.Bits) = true by rw [hs]; simp,shl_eq hs hB,mate_v hB h]
 by_cases hb:b.Size < WI B
 ·rw [decide_eq_true hb,cond_true,cond_true,Option.bind_some,contains_eq _ hl,Option.bind_some]
  simp [hb]
 ·rw [decide_eq_false hb,cond_true,cond_false]
  simp [hb]
open Classical in
theorem containsF_eq {s:Space} {B:Nat} (hs:s.Bits = (B:Int)) (hB:B≤30) (hl:s.Free.length < 1000000000000) (hv:∀ b ∈ s.Free,VB B b):slices_ContainsFunc_Block s.Free s = some (decide (mates B s.Free)):=by
 have e:slices_IndexFunc_Block s.Free s = match firstIf (fun i=>decide (∃ h:i < s.Free.length,s.Free[i].Size < WI B∧mt s.Free[i] ∈ s.Free)) s.Free.length with
   | some i=>some (i:Int)
   | none=>some (-1):=by
  unfold slices_IndexFunc_Block
  refine loopO_if (step:=slices_IndexFunc_Block_l1 s.Free s) (fun i=>((i:Nat):Int)) (fun i=>decide (∃ h:i < s.Free.length,s.Free[i].Size < WI B∧mt s.Free[i] ∈ s.Free)) (fun i=>some ((i:Nat):Int)) (some (-1)) s.Free.length (fun i hi hp=>?_) (fun i hi hp=>?_) (fun _=>?_)
  ·unfold slices_IndexFunc_Block_l1
   rw [decide_eq_false_iff_not] at hp
   rw [lt_n hi,ge_n,ix_get hi,check1_eq hs hB hl (hv _ (List.getElem_mem hi)),decide_eq_false (fun h=>hp ⟨hi,h⟩),wrap_n1 _ (by omega)]
   rfl
  ·unfold slices_IndexFunc_Block_l1
   rw [decide_eq_true_eq] at hp
   obtain ⟨_,hp⟩:=hp
   rw [lt_n hi,ge_n,ix_get hi,check1_eq hs hB hl (hv _ (List.getElem_mem hi)),decide_eq_true hp]
   rfl
  ·unfold slices_IndexFunc_Block_l1
   rw [nlt_n]; rfl
 unfold slices_ContainsFunc_Block
 rw [e]
 cases hf:firstIf (fun i=>decide (∃ h:i < s.Free.length,s.Free[i].Size < WI B∧mt s.Free[i] ∈ s.Free)) s.Free.length with
 | none =>
  have hn:=firstIf_none.1 hf
  rw [decide_eq_false]
  ·rfl
  ·rintro ⟨b,hb,h1,h2⟩
   obtain ⟨i,hi,rfl⟩:=List.getElem_of_mem hb
   have:=hn i hi
   rw [decide_eq_false_iff_not] at this
   exact this ⟨hi,h1,h2⟩
 | some i =>
  obtain ⟨h1,h2,_⟩:=firstIf_some hf
  rw [decide_eq_true_eq] at h2
  obtain ⟨_,h2,h3⟩:=h2
  rw [decide_eq_true (show mates B s.Free from ⟨_,List.getElem_mem h1,h2,h3⟩)]
  simp
open Classical in
noncomputable def fin (B:Nat) (F:List GBlock):Fault:=if mates B F then ⟨11,0⟩ else ⟨0,0⟩
open Classical in
noncomputable def told (p:Prop) (f:Fault):Fault:=if p then f else ⟨8,0⟩
theorem told_pos {p:Prop} {f:Fault} (h:p):told p f = f:=if_pos h
theorem told_neg {p:Prop} {f:Fault} (h:¬ p):told p f = ⟨8,0⟩:=if_neg h
theorem told_congr {p q:Prop} (h:p↔q) (f:Fault):told p f = told q f:=by rw [propext h]
open Classical in
theorem chk2 {s:Space} {B:Nat} (hs:s.Bits = (B:Int)) (hB:B≤30) (hl:s.Free.length < 1000000000000) (hv:∀ b ∈ s.Free,VB B b) (ys:List GBlock) (hy:∀ b ∈ ys,VB B b) (hyl:ys.length < 1000000000000) :
 ∀(d i:Nat) (a:Int),i+d = ys.length→0≤a→a≤WI B→loopO (buddy_Check_l2 s) (a,(ys.length:Int),((i:Nat):Int),ys) = some (told (chain a (ys.drop i) = some (WI B)) (fin B s.Free)):=by
 have hW:=WI_b hB
 intro d
 induction d with
 | zero =>
  intro i a hi h0 h1
  have:i = ys.length:=by omega
  subst this
  rw [List.drop_length]
  rw [told_congr (q:=a = WI B) (by simp [chain]),loopO_out (x:=some (told (a = WI B) (fin B s.Free)))]
  unfold buddy_Check_l2
  dsimp only
  rw [nlt_n,cond_false,show decide ((0:Int)≤s.Bits) = true by rw [hs]; simp,shl_eq hs hB,containsF_eq hs hB hl hv]
  congr 1
  by_cases ha:a = WI B
  ·rw [told_pos ha,show (a != WI B) = false by rw [ha]; simp,cond_true,cond_false,Option.bind_some]
   unfold fin
   by_cases hm:mates B s.Free
   ·rw [decide_eq_true hm,if_pos hm]; rfl
   ·rw [decide_eq_false hm,if_neg hm]; rfl
  ·rw [told_neg ha,show (a != WI B) = true by rw [bne_iff_ne]; exact ha]; rfl
 | succ d ih =>
  intro i a hi h0 h1
  have hil:i < ys.length:=by omega
  rw [List.drop_eq_getElem_cons hil]
  have hb:=hy _ (List.getElem_mem hil)
  have hin:=hb.in'
  have hpos:=hb.pos
  by_cases ha:ys[i].Start = a
  ·rw [told_congr (q:=chain (a+ys[i].Size) (ys.drop (i+1)) = some (WI B)) (by simp only [chain,if_pos ha])]
   rw [← ih (i+1) (a+ys[i].Size) (by omega) (by omega) (by omega)]
   apply loopO_inl
   unfold buddy_Check_l2
   dsimp only
   rw [lt_n hil,ge_n,ix_get hil,wrap_n1 _ (by omega),wrap_id (x:=a+ys[i].Size) (by omega) (by omega),show (ys[i].Start != a) = false by rw [ha]; simp]
   rfl
  ·rw [told_neg (by simp only [chain,if_neg ha]; simp)]
   apply loopO_inr
   unfold buddy_Check_l2
   dsimp only
   rw [lt_n hil,ge_n,ix_get hil,show (ys[i].Start != a) = true by rw [bne_iff_ne]; exact ha]
   rfl
open Classical in
noncomputable def sf (s:Space):Fault :=
 if s.Bits < 0∨30 < s.Bits∨5000 < IntKind.i64.wrap ((s.Used.length:Int)+(s.Free.length:Int)) then ⟨2,0⟩ else
 match badL s.Bits.toNat 0 s.Used with
 | some f=>f
 | none=>match badL s.Bits.toNat 1 s.Free with
  | some f=>f
  | none=>told (Til (WI s.Bits.toNat) (s.Used++s.Free)) (fin s.Bits.toNat s.Free)
structure Wf (s:Space):Prop where
 u:Wl s.Used
 f:Wl s.Free
theorem first_eq (s:Space):((decide (s.Bits < 0)) || ((decide ((30:Int) < s.Bits)) || (decide ((5000:Int) < (IntKind.i64.wrap ((s.Used.length:Int)+(s.Free.length:Int))))))) = decide (s.Bits < 0∨30 < s.Bits∨5000 < IntKind.i64.wrap ((s.Used.length:Int)+(s.Free.length:Int))):=by
 rw [Bool.eq_iff_iff]; simp
theorem check_eq {s:Space} (hw:Wf s):buddy_Check s = some (sf s):=by
 unfold buddy_Check sf
 rw [first_eq]
 by_cases h0:s.Bits < 0∨30 < s.Bits∨5000 < IntKind.i64.wrap ((s.Used.length:Int)+(s.Free.length:Int))
 ·rw [decide_eq_true h0,if_pos h0]; rfl
 ·rw [decide_eq_false h0,if_neg h0,cond_false]
  obtain ⟨B,hB'⟩:=Int.eq_ofNat_of_zero_le (show 0≤s.Bits by omega)
  have hB:B≤30:=by omega
  have hBt:s.Bits.toNat = B:=by omega
  rw [hBt]
  have hu:=chk1 hB' hB (k:=0) (.inl rfl) (l:=s.Used) (by simp) hw.u
  have hf:=chk1 hB' hB (k:=1) (.inr rfl) (l:=s.Free) (by simp) hw.f
  have st0:buddy_Check_l3 s 0 = loopO (buddy_Check_l1 s 0) 0:=by unfold buddy_Check_l3; rfl
  have st1:buddy_Check_l3 s 1 = loopO (buddy_Check_l1 s 1) 0:=by unfold buddy_Check_l3; rfl
  rw [hu] at st0
  rw [hf] at st1
  cases hbu:badL B 0 s.Used with
  | some f=>rw [hbu] at st0; rw [loopO_inr st0]
  | none =>
   rw [hbu] at st0
   rw [loopO_inl st0,show (0:Int)+1 = 1 from rfl]
   cases hbf:badL B 1 s.Free with
   | some f=>rw [hbf] at st1; rw [loopO_inr st1]
   | none =>
    rw [hbf] at st1
    rw [loopO_inl st1,show (1:Int)+1 = 2 from rfl]
    obtain ⟨vu,su⟩:=badL_none hB hbu
    obtain ⟨vf,sf'⟩:=badL_none hB hbf
    have lu:=len_of hB vu su
    have lf:=len_of hB vf sf'
    have hva:∀ b ∈ s.Used++s.Free,VB B b:=fun b hb=>(List.mem_append.1 hb).elim (vu b) (vf b)
    obtain ⟨ys,hy,hp,hso⟩:=sorted_eq (s.Used++s.Free) (by rw [List.length_append]; omega)
    have hyv:∀ b ∈ ys,VB B b:=fun b hb=>hva b (hp.mem_iff.1 hb)
    have hyl:ys.length < 1000000000000:=by rw [hp.length_eq,List.length_append]; omega
    have hc:=chk2 hB' hB (by omega) vf ys hyv hyl ys.length 0 0 (by omega) (Int.le_refl _) (by have:=WI_b hB; omega)
    rw [List.drop_zero] at hc
    rw [loopO_out (x:=some (told (Til (WI B) (s.Used++s.Free)) (fin B s.Free)))]
    unfold buddy_Check_l3
    rw [show decide ((2:Int) < (((([s.Used,s.Free]:List (List GBlock)).length:Nat)):Int)) = false from rfl,cond_false,concat_eq _ _ lu lf,Option.bind_some]
    unfold slices_Values_Block
    rw [Option.bind_some,hy,Option.bind_some]
    congr 1
    rw [show (0:Int) = ((0:Nat):Int) from rfl]
    simp only [Int.natCast_zero] at hc ⊢
    rw [hc,told_congr (chain_of_til (fun b hb=>(hva b hb).pos) hp hso)]
def TilA (a W:Int) (l:List GBlock):Prop:=∃ ms,ms.Perm l∧chain a ms = some W
theorem TilA.nil {a W:Int}:TilA a W []↔a = W:=by
 constructor
 ·rintro ⟨ms,hp,hc⟩
  obtain rfl:=List.perm_nil.1 hp
  simpa [chain] using hc
 ·rintro rfl
  exact ⟨[],.nil,rfl⟩
theorem TilA.cons {a W:Int} {b:GBlock} {l:List GBlock} (hpos:Pos (b::l)) (hb:b.Start = a):TilA a W (b::l)↔TilA (a+b.Size) W l:=by
 constructor
 ·rintro ⟨ms,hp,hc⟩
  have hps:Pos ms:=fun x hx=>hpos x (hp.mem_iff.1 hx)
  have hs:=chain_sorted hps hc
  match ms,hp,hc,hps,hs with
  | [],hp,_,_,_=>exact absurd hp.length_eq (by simp)
  | c::ms,hp,hc,hps,hs =>
   obtain ⟨h1,h2⟩:=chain_cons.1 hc
   have:b = c:=sorted_start hs (hp.mem_iff.2 (by simp)) (by simp) (by omega)
   subst this
   exact ⟨ms,(List.perm_cons b).1 hp,h2⟩
 ·rintro ⟨ms,hp,hc⟩
  exact ⟨b::ms,.cons b hp,chain_cons.2 ⟨hb,hc⟩⟩
theorem TilA.perm {a W:Int} {l l':List GBlock} (p:l.Perm l'):TilA a W l↔TilA a W l':=⟨fun ⟨ms,h,c⟩=>⟨ms,h.trans p,c⟩,fun ⟨ms,h,c⟩=>⟨ms,h.trans p.symm,c⟩⟩
theorem TilA.none {a W:Int} {u f:List GBlock} (hpos:Pos (u++f)) (hu:u.Pairwise lt) (hf:f.Pairwise lt) (h1:∀ b,u.head? = some b→b.Start≠a) (h2:∀ b,f.head? = some b→b.Start≠a) (hne:u≠[]∨f≠[]):¬ TilA a W (u++f):=by
 rintro ⟨ms,hp,hc⟩
 have hps:Pos ms:=fun x hx=>hpos x (hp.mem_iff.1 hx)
 have hfrom:=(chain_from _ _ _ hps hc).2
 match ms,hp,hc,hps,hfrom with
 | [],hp,_,_,_ =>
  have:=List.nil_perm.1 hp
  rw [List.append_eq_nil_iff] at this
  rcases hne with h | h
  ·exact h this.1
  ·exact h this.2
 | c::ms,hp,hc,hps,hfrom =>
  obtain ⟨e1,e2⟩:=chain_cons.1 hc
  have key:∀ l:List GBlock,l.Pairwise lt→(∀ b,l.head? = some b→b.Start≠a)→(∀ b ∈ l,a≤b.Start)→c ∉ l:=by
   intro l hl hh hal hcl
   match l,hl,hh,hal,hcl with
   | x::l,hl,hh,hal,hcl =>
    have hx:=hh x rfl
    have hxa:=hal x (by simp)
    rcases List.mem_cons.1 hcl with rfl | hcl
    ·exact hx e1
    ·have:=(List.pairwise_cons.1 hl).1 c hcl
     unfold lt at this; omega
  have hcm:c ∈ u++f:=hp.mem_iff.1 (by simp)
  rcases List.mem_append.1 hcm with h | h
  ·exact key u hu h1 (fun b hb=>(hfrom b (hp.mem_iff.2 (List.mem_append_left _ hb))).1) h
  ·exact key f hf h2 (fun b hb=>(hfrom b (hp.mem_iff.2 (List.mem_append_right _ hb))).1) h
open Classical in
theorem refl2 {s:Space} {B:Nat} (hs:s.Bits = (B:Int)) (hB:B≤30) (hl:s.Free.length < 1000000000000) (hv:∀ b ∈ s.Free,VB B b):loopO (taskmillref_SpaceFault_l2 s) 0 = some (fin B s.Free):=by
 have e:=loopO_if (step:=taskmillref_SpaceFault_l2 s) (fun i=>((i:Nat):Int)) (fun i=>decide (∃ h:i < s.Free.length,s.Free[i].Size < WI B∧mt s.Free[i] ∈ s.Free)) (fun _=>some ⟨11,0⟩) (some ⟨0,0⟩) s.Free.length (fun i hi hp=>?_) (fun i hi hp=>?_) (fun _=>?_)
 ·rw [show (0:Int) = ((0:Nat):Int) from rfl,e]
  unfold fin
  cases hf:firstIf (fun i=>decide (∃ h:i < s.Free.length,s.Free[i].Size < WI B∧mt s.Free[i] ∈ s.Free)) s.Free.length with
  | none =>
   have hn:=firstIf_none.1 hf
   rw [if_neg]
   rintro ⟨b,hb,h1,h2⟩
   obtain ⟨i,hi,rfl⟩:=List.getElem_of_mem hb
   have:=hn i hi
   rw [decide_eq_false_iff_not] at this
   exact this ⟨hi,h1,h2⟩
  | some i =>
   obtain ⟨h1,h2,_⟩:=firstIf_some hf
   rw [decide_eq_true_eq] at h2
   obtain ⟨_,h2,h3⟩:=h2
   rw [if_pos (show mates B s.Free from ⟨_,List.getElem_mem h1,h2,h3⟩)]
 ·unfold taskmillref_SpaceFault_l2 taskmillref_SpaceFault_j3
  rw [decide_eq_false_iff_not] at hp
  rw [lt_n hi,ge_n,ix_get hi,shl_eq hs hB,mateOf_v hB (hv _ (List.getElem_mem hi)),wrap_n1 _ (by omega)]
  by_cases hb:s.Free[i].Size < WI B
  ·obtain ⟨r,hr,hri⟩:=find_eq s.Free hl (mt s.Free[i])
   have:¬ (0≤r):=fun h=>hp ⟨hi,hb,hri.1 h⟩
   rw [decide_eq_true hb]
   simp only [cond_true,Bool.and_self,Option.bind_some,hr,decide_eq_false this,cond_false]
  ·rw [decide_eq_false hb]; rfl
 ·unfold taskmillref_SpaceFault_l2 taskmillref_SpaceFault_j3
  rw [decide_eq_true_eq] at hp
  obtain ⟨_,hb,hm⟩:=hp
  obtain ⟨r,hr,hri⟩:=find_eq s.Free hl (mt s.Free[i])
  rw [lt_n hi,ge_n,ix_get hi,shl_eq hs hB,mateOf_v hB (hv _ (List.getElem_mem hi)),decide_eq_true hb]
  simp only [cond_true,Bool.and_self,Option.bind_some,hr,decide_eq_true (hri.2 hm)]
  rfl
 ·unfold taskmillref_SpaceFault_l2
  rw [nlt_n]; rfl
theorem head_drop {l:List GBlock} {i:Nat}:(l.drop i).head? = l[i]?:=by rw [List.head?_drop]
theorem ref2 {s:Space} {B:Nat} (hs:s.Bits = (B:Int)) (hB:B≤30) (hlu:s.Used.length < 1000000000000) (hlf:s.Free.length < 1000000000000) (hu:∀ b ∈ s.Used,VB B b) (hf:∀ b ∈ s.Free,VB B b) (su:s.Used.Pairwise lt) (sf':s.Free.Pairwise lt) :
 ∀(d u f:Nat) (a:Int),u+f+d = s.Used.length+s.Free.length→u≤s.Used.length→f≤s.Free.length→0≤a→a≤WI B →
   loopO (taskmillref_SpaceFault_l3 s) (a,(u:Int),(f:Int)) = some (told (TilA a (WI B) (s.Used.drop u++s.Free.drop f)) (fin B s.Free)):=by
 have hW:=WI_b hB
 intro d
 induction d with
 | zero =>
  intro u f a hd h1 h2 h0 ha
  have e1:u = s.Used.length:=by omega
  have e2:f = s.Free.length:=by omega
  subst e1 e2
  rw [List.drop_length,List.drop_length,List.append_nil,told_congr TilA.nil,loopO_out (x:=some (told (a = WI B) (fin B s.Free)))]
  unfold taskmillref_SpaceFault_l3
  dsimp only
  rw [nlt_n,nlt_n,shl_eq hs hB,refl2 hs hB hlf hf]
  simp only [Bool.or_self,cond_false]
  congr 1
  by_cases hw:a = WI B
  ·rw [told_pos hw,show (a != WI B) = false by rw [hw]; simp]; rfl
  ·rw [told_neg hw,show (a != WI B) = true by rw [bne_iff_ne]; exact hw]; rfl
 | succ d ih =>
  intro u f a hd h1 h2 h0 ha
  have hpos:Pos (s.Used.drop u++s.Free.drop f):=fun b hb=>by
   rcases List.mem_append.1 hb with h | h
   ·exact (hu b (List.mem_of_mem_drop h)).pos
   ·exact (hf b (List.mem_of_mem_drop h)).pos
  have or1:(decide ((u:Int) < (s.Used.length:Int)) || decide ((f:Int) < (s.Free.length:Int))) = true:=by
   rw [Bool.or_eq_true,decide_eq_true_eq,decide_eq_true_eq]; omega
  by_cases hcu:∃ h:u < s.Used.length,s.Used[u].Start = a
  ·obtain ⟨hul,hua⟩:=hcu
   have hb:=hu _ (List.getElem_mem hul)
   have hin:=hb.in'
   have hbp:=hb.pos
   rw [List.drop_eq_getElem_cons hul,List.cons_append] at hpos ⊢
   rw [told_congr (TilA.cons hpos hua),← ih (u+1) f (a+s.Used[u].Size) (by omega) (by omega) h2 (by omega) (by omega)]
   apply loopO_inl
   unfold taskmillref_SpaceFault_l3
   dsimp only
   rw [or1,lt_n hul,ge_n,ix_get hul,wrap_n1 u (by omega),wrap_id (x:=a+s.Used[u].Size) (by omega) (by omega),hua]
   simp
  ·by_cases hcf:∃ h:f < s.Free.length,s.Free[f].Start = a
   ·obtain ⟨hfl,hfa⟩:=hcf
    have hb:=hf _ (List.getElem_mem hfl)
    have hin:=hb.in'
    have hbp:=hb.pos
    rw [List.drop_eq_getElem_cons hfl] at hpos ⊢
    have hp:(s.Used.drop u++s.Free[f]::s.Free.drop (f+1)).Perm (s.Free[f]::(s.Used.drop u++s.Free.drop (f+1))):=List.perm_middle
    rw [told_congr ((TilA.perm hp).trans (TilA.cons (fun b hb=>hpos b (hp.mem_iff.2 hb)) hfa)),← ih u (f+1) (a+s.Free[f].Size) (by omega) h1 (by omega) (by omega) (by omega)]
    apply loopO_inl
    unfold taskmillref_SpaceFault_l3
    dsimp only
    rw [or1,lt_n hfl,ge_n f,ix_get hfl,wrap_n1 f (by omega),wrap_id (x:=a+s.Free[f].Size) (by omega) (by omega),hfa]
    by_cases hul:u < s.Used.length
    ·have:(s.Used[u].Start == a) = false:=by rw [beq_eq_false_iff_ne]; exact fun e=>hcu ⟨hul,e⟩
     rw [lt_n hul,ge_n,ix_get hul,this]
     simp
    ·have:u = s.Used.length:=by omega
     subst this
     rw [nlt_n]
     simp
   ·have hno:¬ TilA a (WI B) (s.Used.drop u++s.Free.drop f):=by
     refine TilA.none hpos (su.sublist (List.drop_sublist ..)) (sf'.sublist (List.drop_sublist ..)) (fun b hb e=>?_) (fun b hb e=>?_) ?_
     ·rw [head_drop] at hb
      obtain ⟨h,rfl⟩:=List.getElem?_eq_some_iff.1 hb
      exact hcu ⟨h,e⟩
     ·rw [head_drop] at hb
      obtain ⟨h,rfl⟩:=List.getElem?_eq_some_iff.1 hb
      exact hcf ⟨h,e⟩
     ·by_cases hul:u < s.Used.length
      ·left; intro e; rw [List.drop_eq_nil_iff] at e; omega
      ·right; intro e; rw [List.drop_eq_nil_iff] at e; omega
    rw [told_neg hno]
    ·apply loopO_inr
     unfold taskmillref_SpaceFault_l3
     dsimp only
     rw [or1]
     by_cases hul:u < s.Used.length
     ·have h5:(s.Used[u].Start == a) = false:=by rw [beq_eq_false_iff_ne]; exact fun e=>hcu ⟨hul,e⟩
      rw [lt_n hul,ge_n,ix_get hul,h5]
      by_cases hfl:f < s.Free.length
      ·have h6:(s.Free[f].Start == a) = false:=by rw [beq_eq_false_iff_ne]; exact fun e=>hcf ⟨hfl,e⟩
       rw [lt_n hfl,ge_n,ix_get hfl,h6]
       rfl
      ·have:f = s.Free.length:=by omega
       subst this
       rw [nlt_n]; rfl
     ·have:u = s.Used.length:=by omega
      subst this
      have hfl:f < s.Free.length:=by omega
      have h6:(s.Free[f].Start == a) = false:=by rw [beq_eq_false_iff_ne]; exact fun e=>hcf ⟨hfl,e⟩
      rw [nlt_n,lt_n hfl,ge_n f,ix_get hfl,h6]
      rfl
theorem ref_eq {s:Space} (hw:Wf s):taskmillref_SpaceFault s = some (sf s):=by
 unfold taskmillref_SpaceFault sf
 rw [first_eq]
 by_cases h0:s.Bits < 0∨30 < s.Bits∨5000 < IntKind.i64.wrap ((s.Used.length:Int)+(s.Free.length:Int))
 ·rw [decide_eq_true h0,if_pos h0]; rfl
 ·rw [decide_eq_false h0,if_neg h0,cond_false]
  obtain ⟨B,hB'⟩:=Int.eq_ofNat_of_zero_le (show 0≤s.Bits by omega)
  have hB:B≤30:=by omega
  have hBt:s.Bits.toNat = B:=by omega
  rw [hBt,show decide ((0:Int)≤s.Bits) = true by rw [hB']; simp,cond_true]
  have hu:=ref1 hB' hB (k:=0) (.inl rfl) (l:=s.Used) (by simp) hw.u
  have hf:=ref1 hB' hB (k:=1) (.inr rfl) (l:=s.Free) (by simp) hw.f
  have st0:taskmillref_SpaceFault_l4 s 0 = taskmillref_SpaceFault_j2 s 0 s.Used:=by unfold taskmillref_SpaceFault_l4; rfl
  have st1:taskmillref_SpaceFault_l4 s 1 = taskmillref_SpaceFault_j2 s 1 s.Free:=by unfold taskmillref_SpaceFault_l4; rfl
  rw [hu] at st0
  rw [hf] at st1
  cases hbu:badL B 0 s.Used with
  | some f=>rw [hbu] at st0; rw [loopO_inr st0]
  | none =>
   rw [hbu] at st0
   rw [loopO_inl st0,show (0:Int)+1 = 1 from rfl]
   cases hbf:badL B 1 s.Free with
   | some f=>rw [hbf] at st1; rw [loopO_inr st1]
   | none =>
    rw [hbf] at st1
    rw [loopO_inl st1,show (1:Int)+1 = 2 from rfl]
    obtain ⟨vu,su⟩:=badL_none hB hbu
    obtain ⟨vf,sf'⟩:=badL_none hB hbf
    have lu:=len_of hB vu su
    have lf:=len_of hB vf sf'
    have:=ref2 hB' hB (by omega) (by omega) vu vf su sf' (s.Used.length+s.Free.length) 0 0 0 (by omega) (Nat.zero_le _) (Nat.zero_le _) (Int.le_refl _) (by have:=WI_b hB; omega)
    rw [List.drop_zero,List.drop_zero] at this
    rw [loopO_out (x:=some (told (Til (WI B) (s.Used++s.Free)) (fin B s.Free)))]
    unfold taskmillref_SpaceFault_l4
    rw [show decide ((2:Int) < 2) = false from rfl,cond_false]
    congr 1
end Go.Proofs.Ytpeaimfdeonpgaa
end

section
namespace Go.Proofs.Ytpeaimfdeonpgaa
open Go Go.Sx
set_option linter.unusedVariables false
set_option linter.unusedSimpArgs false
structure OkS (B:Nat) (s:Space):Prop where
 hB:B≤30
 bits:s.Bits = (B:Int)
 len:s.Used.length+s.Free.length≤5000
 vu:∀ b ∈ s.Used,VB B b
 vf:∀ b ∈ s.Free,VB B b
 su:s.Used.Pairwise lt
 so:s.Free.Pairwise lt
 til:Til (WI B) (s.Used++s.Free)
 nm:¬ mates B s.Free
theorem OkS.wf {B:Nat} {s:Space} (h:OkS B s):Wf s:=by
 have hW:=WI_b h.hB
 have hl:=h.len
 refine ⟨⟨by omega,fun b hb=>?_⟩,⟨by omega,fun b hb=>?_⟩⟩
 ·have h1:=(h.vu b hb).in'; have h2:=(h.vu b hb).pos
  exact ⟨⟨by omega,by omega⟩,⟨by omega,by omega⟩⟩
 ·have h1:=(h.vf b hb).in'; have h2:=(h.vf b hb).pos
  exact ⟨⟨by omega,by omega⟩,⟨by omega,by omega⟩⟩
theorem badL_ok {B:Nat} (hB:B≤30) {l:List GBlock} (hv:∀ b ∈ l,VB B b) (hs:l.Pairwise lt) (k:Int):badL B k l = none:=by
 unfold badL
 rw [firstAt_none]
 intro i hi
 unfold badI
 rw [ix_get hi,if_pos ((vbb_iff hB).2 (hv _ (List.getElem_mem hi))),if_neg]
 rintro ⟨h1,h2⟩
 rw [ix_get (by omega)] at h2
 have:=sorted_get hs (i:=i - 1) (j:=i) (by omega) hi (by omega)
 omega
theorem OkS.sf0 {B:Nat} {s:Space} (h:OkS B s):sf s = ⟨0,0⟩:=by
 have hl:=h.len
 have hB:=h.hB
 unfold Ytpeaimfdeonpgaa.sf
 rw [wrap_id (by omega) (by omega),if_neg (by rw [h.bits]; omega),h.bits,show ((B:Int)).toNat = B from rfl,badL_ok hB h.vu h.su,badL_ok hB h.vf h.so]
 dsimp only
 rw [told_pos h.til]
 exact if_neg h.nm
theorem badL_code {B:Nat} {k:Int} {l:List GBlock} {f:Fault} (h:badL B k l = some f):f.Code≠0:=by
 obtain ⟨i,_,h1,_⟩:=firstAt_some _ h
 unfold badI at h1
 split at h1
 ·split at h1
  ·cases h1; exact (by decide:(5:Int)≠0)
  ·cases h1
 ·cases h1; exact (by decide:(3:Int)≠0)
theorem OkS.of {s:Space} (hw:Wf s) (h:(sf s).Code = 0):∃ B,OkS B s:=by
 unfold Ytpeaimfdeonpgaa.sf at h
 by_cases h0:s.Bits < 0∨30 < s.Bits∨5000 < IntKind.i64.wrap ((s.Used.length:Int)+(s.Free.length:Int))
 ·rw [if_pos h0] at h; exact absurd h (by decide)
 ·rw [if_neg h0] at h
  obtain ⟨B,hB'⟩:=Int.eq_ofNat_of_zero_le (show 0≤s.Bits by omega)
  have hB:B≤30:=by omega
  rw [show s.Bits.toNat = B by omega] at h
  cases hbu:badL B 0 s.Used with
  | some f=>rw [hbu] at h; exact absurd h (badL_code hbu)
  | none =>
   rw [hbu] at h
   cases hbf:badL B 1 s.Free with
   | some f=>rw [hbf] at h; exact absurd h (badL_code hbf)
   | none =>
    rw [hbf] at h
    obtain ⟨vu,su⟩:=badL_none hB hbu
    obtain ⟨vf,sf'⟩:=badL_none hB hbf
    have lu:=len_of hB vu su
    have lf:=len_of hB vf sf'
    rw [wrap_id (by omega) (by omega)] at h0
    by_cases ht:Til (WI B) (s.Used++s.Free)
    ·dsimp only at h
     rw [told_pos ht] at h
     unfold fin at h
     by_cases hm:mates B s.Free
     ·rw [if_pos hm] at h; exact absurd h (by decide)
     ·exact ⟨B,hB,hB',by omega,vu,vf,su,sf',ht,hm⟩
    ·dsimp only at h
     rw [told_neg ht] at h; exact absurd h (by decide)
structure Mid (B:Nat) (b:GBlock) (u f:List GBlock):Prop where
 vb:VB B b
 vu:∀ x ∈ u,VB B x
 vf:∀ x ∈ f,VB B x
 su:u.Pairwise lt
 so:f.Pairwise lt
 til:Til (WI B) (b::(u++f))
theorem Mid.pos {B:Nat} {b:GBlock} {u f:List GBlock} (h:Mid B b u f):Pos (b::(u++f)):=fun x hx=>by
 rcases List.mem_cons.1 hx with rfl | hx
 ·exact h.vb.pos
 ·exact (List.mem_append.1 hx).elim (fun h'=>(h.vu x h').pos) (fun h'=>(h.vf x h').pos)
theorem Til.others {W:Int} {b:GBlock} {l:List GBlock} (hp:Pos (b::l)) (h:Til W (b::l)):∀ x ∈ l,x.Start+x.Size≤b.Start∨b.Start+b.Size≤x.Start:=by
 obtain ⟨ms,hm,hc⟩:=h
 have hmp:Pos ms:=fun x hx=>hp x (hm.mem_iff.1 hx)
 have ha:=chain_apart ms 0 W hmp hc
 intro x hx
 obtain ⟨p,q,rfl⟩:=List.append_of_mem (hm.mem_iff.2 (by simp:b ∈ b::l))
 have hpq:(p++q).Perm l:=(List.perm_cons b).1 (List.perm_middle.symm.trans hm)
 obtain ⟨h1,h2,h3⟩:=List.pairwise_append.1 ha
 rcases List.mem_append.1 (hpq.mem_iff.2 hx) with h | h
 ·exact .inl (h3 x h b (by simp))
 ·exact .inr ((List.pairwise_cons.1 h2).1 x h)
theorem Mid.fresh {B:Nat} {b:GBlock} {u f:List GBlock} (h:Mid B b u f):∀ x ∈ u++f,x.Start≠b.Start:=fun x hx e=>by
 have h1:=Til.others h.pos h.til x hx
 have h2:=h.pos x (by simp [hx])
 have h3:=h.vb.pos
 omega
theorem half {k m:Nat}:(bk (k+1) m).Start = (bk k (2 * m)).Start∧(bk k (2 * m+1)).Start = (bk k (2 * m)).Start+(bk k (2 * m)).Size∧(bk k (2 * m)).Size+(bk k (2 * m+1)).Size = (bk (k+1) m).Size:=by
 simp only [bk]
 refine ⟨?_,?_,?_⟩
 ·congr 1; rw [Nat.pow_succ]; simp only [Nat.mul_comm,Nat.mul_left_comm,Nat.mul_assoc]
 ·rw [Nat.add_mul,Nat.one_mul]; push_cast
 ·rw [Nat.pow_succ]; omega
theorem VB.half {B k m:Nat} (h:VB B (bk (k+1) m)):VB B (bk k (2 * m))∧VB B (bk k (2 * m+1)):=by
 obtain ⟨k',m',h1,h2,h3⟩:=h.ex
 obtain ⟨rfl,rfl⟩:=bk_inj h3
 have e:2 ^ (B - k) = 2 ^ (B - (k+1)) * 2:=by rw [← Nat.pow_succ]; congr 1; omega
 exact ⟨⟨k,2 * m,by omega,by omega,rfl⟩,⟨k,2 * m+1,by omega,by omega,rfl⟩⟩
theorem Mid.split {B k m:Nat} {u f:List GBlock} (h:Mid B (bk (k+1) m) u f):(∀ x ∈ f,x.Start≠(bk k (2 * m+1)).Start)∧Mid B (bk k (2 * m)) u (ins f (bk k (2 * m+1))):=by
 obtain ⟨e1,e2,e3⟩:=half (k:=k) (m:=m)
 obtain ⟨v1,v2⟩:=h.vb.half
 have ht:=h.til.split (c:=bk k (2 * m)) (d:=bk k (2 * m+1)) e1.symm e2 e3
 have hfr:∀ x ∈ f,x.Start≠(bk k (2 * m+1)).Start:=fun x hx e=>by
  have h1:=Til.others h.pos h.til x (by simp [hx])
  have h2:=(h.vf x hx).pos
  have h3:=v2.pos
  have h4:=v1.pos
  omega
 refine ⟨hfr,v1,h.vu,fun x hx=>?_,h.su,ins_sorted h.so _,?_⟩
 ·rcases (ins_mem hfr).1 hx with rfl | hx
  ·exact v2
  ·exact h.vf x hx
 ·refine ht.perm (.cons _ ?_)
  exact (List.perm_middle.symm).trans (List.Perm.append_left u (ins_perm hfr).symm)
def spl (j:Nat):Nat→Nat→List GBlock→List GBlock
 | 0,m,f=>f
 | t+1,m,f=>spl j t (2 * m) (ins f (bk (j+t) (2 * m+1)))
theorem Mid.spl {B j:Nat} {u:List GBlock}:∀ (t m:Nat) (f:List GBlock),Mid B (bk (j+t) m) u f→Mid B (bk j (m * 2 ^ t)) u (spl j t m f)∧(spl j t m f).length = f.length+t
 | 0,m,f,h=>by simpa [Ytpeaimfdeonpgaa.spl] using h
 | t+1,m,f,h=>by
  obtain ⟨h1,h2⟩:=Mid.split (k:=j+t) h
  obtain ⟨h3,h4⟩:=Mid.spl t (2 * m) _ h2
  refine ⟨?_,?_⟩
  ·rw [show m * 2 ^ (t+1) = 2 * m * 2 ^ t by rw [Nat.pow_succ]; simp only [Nat.mul_comm,Nat.mul_left_comm,Nat.mul_assoc]]
   exact h3
  ·show (Ytpeaimfdeonpgaa.spl j t (2 * m) _).length = _
   rw [h4,ins_len h1]; omega
theorem bk_start (j t m:Nat):(bk j (m * 2 ^ t)).Start = (bk (j+t) m).Start:=by
 simp only [bk]
 congr 1
 rw [Nat.mul_assoc,← Nat.pow_add,Nat.add_comm t j]
end Go.Proofs.Ytpeaimfdeonpgaa
end

section
namespace Go.Proofs.Ytpeaimfdeonpgaa
open Go Go.Sx
set_option linter.unusedVariables false
set_option linter.unusedSimpArgs false
theorem pow_b {k:Nat} (h:k≤30):(0:Int) < ((2 ^ k:Nat):Int)∧((2 ^ k:Nat):Int)≤1073741824:=WI_b h
theorem pow_mono {i j:Nat} (h:i≤j):((2 ^ i:Nat):Int)≤((2 ^ j:Nat):Int):=by exact_mod_cast Nat.pow_le_pow_right (n:=2) (by decide) h
theorem pow_lt {i j:Nat} (h:i < j):((2 ^ i:Nat):Int) < ((2 ^ j:Nat):Int):=by exact_mod_cast Nat.pow_lt_pow_right (by decide) h
theorem pow_dbl (k:Nat):((2 ^ (k+1):Nat):Int) = ((2 ^ k:Nat):Int) * 2:=by rw [Nat.pow_succ]; push_cast
theorem pow_le_iff {i j:Nat}:((2 ^ i:Nat):Int)≤((2 ^ j:Nat):Int)↔i≤j:=by
 constructor
 ·intro h
  apply Classical.byContradiction
  intro hn
  have:=pow_lt (show j < i by omega)
  omega
 ·exact pow_mono
theorem pow_half {k:Nat} (h:k+1≤30):IntKind.i64.wrap (Int.tdiv ((2 ^ (k+1):Nat):Int) 2) = ((2 ^ k:Nat):Int):=by
 have h1:=pow_b (show k≤30 by omega)
 rw [pow_dbl,Int.tdiv_eq_ediv_of_nonneg (by omega),wrap_id (by omega) (by omega)]
 omega
structure Lp (n:Int) (j:Nat):Prop where
 le:j≤30
 en:n≤((2 ^ j:Nat):Int)
 mi:∀ i,n≤((2 ^ i:Nat):Int)→j≤i
theorem Lp.ex {n:Int} (h:n≤1073741824):∃ j,firstIf (fun i=>decide (n≤((2 ^ i:Nat):Int))) 31 = some j∧Lp n j:=by
 cases hf:firstIf (fun i=>decide (n≤((2 ^ i:Nat):Int))) 31 with
 | none =>
  have:=firstIf_none.1 hf 30 (by decide)
  rw [decide_eq_false_iff_not,p30] at this
  exact absurd h this
 | some j =>
  obtain ⟨h1,h2,h3⟩:=firstIf_some hf
  refine ⟨j,rfl,by omega,by simpa using h2,fun i hi=>?_⟩
  apply Classical.byContradiction
  intro hn
  have:=h3 i (by omega)
  rw [decide_eq_false_iff_not] at this
  exact this hi
theorem take3 {s:Space} {n:Int} (h:n≤1073741824):∃ j,Lp n j∧loopO (buddy_Take_l3 s n) 1 = loopO (buddy_Take_l2 s ((2 ^ j:Nat):Int)) (-1,0):=by
 obtain ⟨j,hj,hl⟩:=Lp.ex h
 refine ⟨j,hl,?_⟩
 have e:=loopO_if (step:=buddy_Take_l3 s n) (fun i=>((2 ^ i:Nat):Int)) (fun i=>decide (n≤((2 ^ i:Nat):Int))) (fun i=>loopO (buddy_Take_l2 s ((2 ^ i:Nat):Int)) (-1,0)) none 31 (fun i hi hp=>?_) (fun i hi hp=>?_) (fun hp=>?_)
 ·rw [hj] at e
  exact e
 ·have hb:=pow_b (show i≤30 by omega)
  rw [decide_eq_false_iff_not] at hp
  unfold buddy_Take_l3
  rw [decide_eq_true (show ((2 ^ i:Nat):Int) < n by omega),cond_true,← pow_dbl,wrap_id]
  ·rw [pow_dbl]; omega
  ·rw [pow_dbl]; omega
 ·rw [decide_eq_true_eq] at hp
  unfold buddy_Take_l3
  rw [decide_eq_false (show ¬ ((2 ^ i:Nat):Int) < n by omega)]
  rfl
 ·have:=firstIf_none.2 hp
  rw [hj] at this; cases this
def Bst (F:List GBlock) (z:Int) (i:Nat):Option Nat→Prop
 | none=>∀ k (h:k < F.length),k < i→F[k].Size < z
 | some b=>b < i∧∃ hb:b < F.length,z≤F[b].Size∧(∀ k (h:k < F.length),k < i→z≤F[k].Size→F[b].Size≤F[k].Size)∧∀ k (h:k < F.length),k < b→z≤F[k].Size→F[b].Size < F[k].Size
def bI:Option Nat→Int
 | none=>-1
 | some b=>(b:Int)
theorem take2 {s:Space} (hl:s.Free.length < 1000000000000) (z:Int):∀ (d i:Nat) (o:Option Nat),i+d = s.Free.length→Bst s.Free z i o →
 ∃o',Bst s.Free z s.Free.length o'∧loopO (buddy_Take_l2 s z) (bI o,(i:Int)) = loopO (buddy_Take_l2 s z) (bI o',(s.Free.length:Int)):=by
 intro d
 induction d with
 | zero =>
  intro i o hi hb
  have:i = s.Free.length:=by omega
  subst this
  exact ⟨o,hb,rfl⟩
 | succ d ih =>
  intro i o hi hb
  have hil:i < s.Free.length:=by omega
  have next:∀ o2,Bst s.Free z (i+1) o2→buddy_Take_l2 s z (bI o,(i:Int)) = some (.inl (bI o2,((i+1:Nat):Int)))→∃ o',Bst s.Free z s.Free.length o'∧loopO (buddy_Take_l2 s z) (bI o,(i:Int)) = loopO (buddy_Take_l2 s z) (bI o',(s.Free.length:Int)):=fun o2 h1 h2=>by
   obtain ⟨o',h3,h4⟩:=ih (i+1) o2 (by omega) h1
   exact ⟨o',h3,(loopO_inl h2).trans h4⟩
  cases o with
  | none =>
   by_cases hz:z≤s.Free[i].Size
   ·refine next (some i) ⟨by omega,hil,hz,fun k h hk hzk=>?_,fun k h hk hzk=>?_⟩ ?_
    ·by_cases e:k = i
     ·subst e; exact Int.le_refl _
     ·have:=hb k h (by omega); omega
    ·have:=hb k h hk; omega
    ·unfold buddy_Take_l2 buddy_Take_j1
     simp only [bI]
     rw [lt_n hil,ge_n,ix_get hil,decide_eq_true hz,wrap_n1 _ (by omega)]
     simp
   ·refine next none (fun k h hk=>?_) ?_
    ·by_cases e:k = i
     ·subst e; omega
     ·exact hb k h (by omega)
    ·unfold buddy_Take_l2 buddy_Take_j1
     simp only [bI]
     rw [lt_n hil,ge_n,ix_get hil,decide_eq_false hz,wrap_n1 _ (by omega)]
     simp
  | some b =>
   obtain ⟨h1,hbl,h2,h3,h4⟩:=hb
   have hneg':¬ (b:Int) < 0:=by omega
   by_cases hz:z≤s.Free[i].Size
   ·by_cases hlt:s.Free[i].Size < s.Free[b].Size
    ·refine next (some i) ⟨by omega,hil,hz,fun k h hk hzk=>?_,fun k h hk hzk=>?_⟩ ?_
     ·by_cases e:k = i
      ·subst e; exact Int.le_refl _
      ·have:=h3 k h (by omega) hzk; omega
     ·have:=h3 k h hk hzk; omega
     ·unfold buddy_Take_l2 buddy_Take_j1
      simp only [bI]
      rw [lt_n hil,ge_n,ix_get hil,decide_eq_true hz,wrap_n1 _ (by omega)]
      simp [ix_get hbl,hbl,hlt,hneg']
    ·refine next (some b) ⟨by omega,hbl,h2,fun k h hk hzk=>?_,h4⟩ ?_
     ·by_cases e:k = i
      ·subst e; omega
      ·exact h3 k h (by omega) hzk
     ·unfold buddy_Take_l2 buddy_Take_j1
      simp only [bI]
      rw [lt_n hil,ge_n,ix_get hil,decide_eq_true hz,wrap_n1 _ (by omega)]
      simp [ix_get hbl,hbl,hlt,hneg']
   ·refine next (some b) ⟨by omega,hbl,h2,fun k h hk hzk=>?_,h4⟩ ?_
    ·by_cases e:k = i
     ·subst e; omega
     ·exact h3 k h (by omega) hzk
    ·unfold buddy_Take_l2 buddy_Take_j1
     simp only [bI]
     rw [lt_n hil,ge_n,ix_get hil,decide_eq_false hz,wrap_n1 _ (by omega)]
     simp
def takeR (bits:Int) (st:Int) (u f:List GBlock):Int×Int×Fault×List GBlock×List GBlock:=if 5000 < u.length+f.length then (0,0,⟨9,0⟩,[],[]) else (bits,st,⟨0,0⟩,u,f)
theorem take1 {B j:Nat} {u:List GBlock} {bits:Int} (hB:B≤30) (hu:u.length < 100000000):∀ (t m:Nat) (f:List GBlock),f.length+t < 100000000→Mid B (bk (j+t) m) u f →
  loopO (buddy_Take_l1 ((2 ^ j:Nat):Int)) (bits,bk (j+t) m,u,f) = some (takeR bits (bk (j+t) m).Start (ins u (bk j (m * 2 ^ t))) (spl j t m f))
 | 0,m,f,hf,h=>by
  have hfr:∀ x ∈ u,x.Start≠(bk j m).Start:=fun x hx=>h.fresh x (by simp [hx])
  apply loopO_inr
  unfold buddy_Take_l1
  dsimp only
  have hil:=ins_len hfr
  rw [show (bk (j+0) m).Size = ((2 ^ j:Nat):Int) from rfl,decide_eq_false (Int.lt_irrefl _),cond_false,Nat.add_zero,put_eq h.su (by omega) hfr,Option.bind_some,wrap_id (by omega) (by omega),show spl j 0 m f = f from rfl,Nat.pow_zero,Nat.mul_one]
  unfold takeR
  by_cases hl:5000 < (ins u (bk j m)).length+f.length
  ·rw [if_pos hl,decide_eq_true (by omega)]; rfl
  ·rw [if_neg hl,decide_eq_false (by omega)]; rfl
 | t+1,m,f,hf,h=>by
  have hk:j+t+1≤30:=by
   obtain ⟨k',m',h1,h2,h3⟩:=h.vb.ex
   obtain ⟨h4,_⟩:=bk_inj h3
   omega
  obtain ⟨h1,h2⟩:=Mid.split (k:=j+t) h
  have hfl:=ins_len h1
  have ih:=take1 hB hu (bits:=bits) t (2 * m) _ (by rw [hfl]; omega) h2
  have hst:(bk (j+(t+1)) m).Start = (bk (j+t) (2 * m)).Start:=half.1
  have hsz:IntKind.i64.wrap (Int.tdiv (bk (j+(t+1)) m).Size 2) = (bk (j+t) (2 * m)).Size:=pow_half (k:=j+t) hk
  have hblk:GBlock.mk (bk (j+(t+1)) m).Start (IntKind.i64.wrap (Int.tdiv (bk (j+(t+1)) m).Size 2)) = bk (j+t) (2 * m):=by rw [hst,hsz]
  rw [show spl j (t+1) m f = spl j t (2 * m) (ins f (bk (j+t) (2 * m+1))) from rfl,hst,show m * 2 ^ (t+1) = 2 * m * 2 ^ t by rw [Nat.pow_succ]; simp only [Nat.mul_comm,Nat.mul_left_comm,Nat.mul_assoc],← ih]
  apply loopO_inl
  unfold buddy_Take_l1
  dsimp only
  have hlt:decide (((2 ^ j:Nat):Int) < (bk (j+(t+1)) m).Size) = true:=decide_eq_true (pow_lt (by omega))
  rw [hlt,cond_true,hblk,mate_v hB h2.vb,Option.bind_some,mt_bk,show sib (2 * m) = 2 * m+1 by unfold sib; rw [if_pos (by omega)],put_eq h.so (by omega) h1]
  rfl
end Go.Proofs.Ytpeaimfdeonpgaa
end

section
namespace Go.Proofs.Ytpeaimfdeonpgaa
open Go Go.Sx
set_option linter.unusedVariables false
set_option linter.unusedSimpArgs false
theorem OkS.mid {B:Nat} {s:Space} (h:OkS B s) {b:GBlock} (hb:b ∈ s.Free):Mid B b s.Used (rem s.Free b) :=
 ⟨h.vf b hb,h.vu,fun x hx=>h.vf x (rem_mem.1 hx).1,h.su,rem_sorted h.so b,h.til.perm ((List.Perm.append_left s.Used (rem_perm h.so hb)).trans List.perm_middle)⟩
theorem copied_eq {s:Space} (hu:s.Used.length < 1000000000000) (hf:s.Free.length < 1000000000000):buddy_copied s = some (s.Bits,s.Used,s.Free):=by
 unfold buddy_copied
 rw [clone_eq hu,clone_eq hf]; rfl
theorem takeO {B:Nat} {s:Space} (h:OkS B s) {j:Nat} {o:Option Nat} (ho:Bst s.Free ((2 ^ j:Nat):Int) s.Free.length o):match o with
  | none=>loopO (buddy_Take_l2 s ((2 ^ j:Nat):Int)) (bI o,(s.Free.length:Int)) = some (0,0,⟨6,0⟩,[],[])
  | some b=>∃ hb:b < s.Free.length,∃ t m,s.Free[b] = bk (j+t) m∧loopO (buddy_Take_l2 s ((2 ^ j:Nat):Int)) (bI o,(s.Free.length:Int)) = some (takeR s.Bits s.Free[b].Start (ins s.Used (bk j (m * 2 ^ t))) (spl j t m (rem s.Free s.Free[b]))):=by
 have hlen:=h.len
 cases o with
 | none =>
  apply loopO_inr
  unfold buddy_Take_l2
  simp only [bI]
  rw [nlt_n]
  rfl
 | some b =>
  obtain ⟨_,hb,hz,hmin,hfirst⟩:=ho
  have hmem:=List.getElem_mem hb
  obtain ⟨k,m,hk,hm,e⟩:=(h.vf _ hmem).ex
  have hjk:j≤k:=by
   rw [e] at hz
   exact pow_le_iff.1 hz
  obtain ⟨t,rfl⟩:=Nat.exists_eq_add_of_le hjk
  refine ⟨hb,t,m,e,?_⟩
  have hM:=h.mid hmem
  have hrl:=rem_len h.so hmem
  apply loopO_out
  change buddy_Take_l2 s _ ((b:Int),_) = _
  unfold buddy_Take_l2
  dsimp only
  rw [nlt_n,cond_false]
  congr 1
  rw [decide_eq_false (show ¬ (b:Int) < 0 by omega),cond_false,copied_eq (by omega) (by omega),Option.bind_some]
  dsimp only
  have hkB:j+t≤30:=Nat.le_trans hk h.hB
  rw [ge_n,lt_n hb,ix_get hb,del_eq h.so (by omega) hb,Option.bind_some]
  rw [e] at hM ⊢
  simp only [Bool.and_self,cond_true]
  exact take1 h.hB (by omega) t m _ (by rw [e] at hrl; omega) hM
theorem take_eq {B:Nat} {s:Space} (h:OkS B s) {n:Int} (h1:1≤n) (h2:n≤1073741824):∃ j o,Lp n j∧Bst s.Free ((2 ^ j:Nat):Int) s.Free.length o∧match o with
  | none=>buddy_Take s n = some (0,0,⟨6,0⟩,[],[])
  | some b=>∃ hb:b < s.Free.length,∃ t m,s.Free[b] = bk (j+t) m∧buddy_Take s n = some (takeR s.Bits s.Free[b].Start (ins s.Used (bk j (m * 2 ^ t))) (spl j t m (rem s.Free s.Free[b]))):=by
 have hlen:=h.len
 obtain ⟨j,hj,e3⟩:=take3 (s:=s) h2
 obtain ⟨o,ho,e2⟩:=take2 (s:=s) (by omega) ((2 ^ j:Nat):Int) s.Free.length 0 none (by omega) (fun k hk hk0=>absurd hk0 (Nat.not_lt_zero k))
 have e:buddy_Take s n = loopO (buddy_Take_l2 s ((2 ^ j:Nat):Int)) (bI o,(s.Free.length:Int)):=by
  unfold buddy_Take
  rw [check_eq h.wf,h.sf0,Option.bind_some,show ((0:Int) != 0) = false from rfl,cond_false,decide_eq_false (show ¬ n < 1 by omega),decide_eq_false (show ¬ (1073741824:Int) < n by omega)]
  exact e3.trans e2
 refine ⟨j,o,hj,ho,?_⟩
 have:=takeO h ho
 rw [← e] at this
 cases o with
 | none=>exact this
 | some b=>exact this
end Go.Proofs.Ytpeaimfdeonpgaa
end

section
namespace Go.Proofs.Ytpeaimfdeonpgaa
open Go Go.Sx
set_option linter.unusedVariables false
set_option linter.unusedSimpArgs false
def mrg:Nat→Nat→Nat→List GBlock→Nat×Nat×List GBlock
 | 0,k,m,f=>(k,m,f)
 | t+1,k,m,f=>if bk k (sib m) ∈ f then mrg t (k+1) (m / 2) (rem f (bk k (sib m))) else (k,m,f)
theorem VB.par {B k m:Nat} (hk:k < B) (h:VB B (bk k m)):VB B (bk (k+1) (m / 2)):=by
 obtain ⟨k',m',h1,h2,h3⟩:=h.ex
 obtain ⟨rfl,rfl⟩:=bk_inj h3
 have e:2 ^ (B - k) = 2 ^ (B - (k+1)) * 2:=by rw [← Nat.pow_succ]; congr 1; omega
 exact ⟨k+1,m / 2,by omega,by omega,rfl⟩
theorem Mid.join {B k m:Nat} {u f:List GBlock} (hk:k < B) (h:Mid B (bk k m) u f) (hm:bk k (sib m) ∈ f):Mid B (bk (k+1) (m / 2)) u (rem f (bk k (sib m))):=by
 have hp:(bk k m::(u++f)).Perm (bk k m::bk k (sib m)::(u++rem f (bk k (sib m)))):=.cons _ ((List.Perm.append_left u (rem_perm h.so hm)).trans List.perm_middle)
 have hpos:=h.pos
 obtain ⟨e1,e2,e3⟩:=half (k:=k) (m:=m / 2)
 refine ⟨h.vb.par hk,h.vu,fun x hx=>h.vf x (rem_mem.1 hx).1,h.su,rem_sorted h.so _,?_⟩
 have ht:=h.til.perm hp
 have hpos2:Pos (bk k m::bk k (sib m)::(u++rem f (bk k (sib m)))):=fun x hx=>hpos x (hp.mem_iff.2 hx)
 by_cases he:m % 2 = 0
 ·have a1:2 * (m / 2) = m:=by omega
  have a2:sib m = m+1:=by unfold sib; rw [if_pos he]
  rw [a1] at e1 e2 e3
  rw [a2] at ht hpos2 ⊢
  exact ht.join hpos2 e1.symm e2 e3
 ·have a1:2 * (m / 2)+1 = m:=by omega
  have a2:sib m = 2 * (m / 2):=by unfold sib; rw [if_neg he]; omega
  rw [a1] at e2 e3
  rw [a2] at ht hpos2 ⊢
  exact (ht.perm (.swap _ _ _)).join (fun x hx=>hpos2 x ((List.Perm.swap _ _ _).mem_iff.1 hx)) e1.symm e2 e3
structure Mrg (B:Nat) (u f:List GBlock) (r:Nat×Nat×List GBlock):Prop where
 mid:Mid B (bk r.1 r.2.1) u r.2.2
 sub:∀ x ∈ r.2.2,x ∈ f
 len:r.2.2.length≤f.length
 done:r.1 < B→bk r.1 (sib r.2.1) ∉ r.2.2
theorem mrg_ok {B:Nat} {u:List GBlock}:∀ (t k m:Nat) (f:List GBlock),k+t = B→Mid B (bk k m) u f→Mrg B u f (mrg t k m f)
 | 0,k,m,f,hk,h=>⟨h,fun _ h=>h,Nat.le_refl _,fun h'=>by simp only [mrg] at h'; omega⟩
 | t+1,k,m,f,hk,h=>by
  unfold mrg
  by_cases hm:bk k (sib m) ∈ f
  ·rw [if_pos hm]
   have ih:=mrg_ok t (k+1) (m / 2) (rem f (bk k (sib m))) (by omega) (h.join (by omega) hm)
   have hl:=rem_len h.so hm
   have:=ih.len
   exact ⟨ih.mid,fun x hx=>(rem_mem.1 (ih.sub x hx)).1,by omega,ih.done⟩
  ·rw [if_neg hm]
   exact ⟨h,fun _ h=>h,Nat.le_refl _,fun _=>hm⟩
theorem par_eq {B k m:Nat} (hB:B≤30) (hk:k < B) (h:VB B (bk k m)):GBlock.mk (min (bk k m).Start (bk k (sib m)).Start) (IntKind.i64.wrap ((2:Int) * (bk k m).Size)) = bk (k+1) (m / 2)∧IntKind.i64.wrap ((2:Int) * (bk k m).Size) = (bk (k+1) (m / 2)).Size:=by
 obtain ⟨e1,e2,e3⟩:=half (k:=k) (m:=m / 2)
 have hb:=pow_b (show k≤30 by omega)
 have hsz:IntKind.i64.wrap ((2:Int) * (bk k m).Size) = (bk (k+1) (m / 2)).Size:=by
  show IntKind.i64.wrap ((2:Int) * ((2 ^ k:Nat):Int)) = ((2 ^ (k+1):Nat):Int)
  rw [pow_dbl,wrap_id (by omega) (by omega)]; omega
 refine ⟨?_,hsz⟩
 rw [hsz]
 have hst:min (bk k m).Start (bk k (sib m)).Start = (bk (k+1) (m / 2)).Start:=by
  rw [e1]
  have hp:0 < (bk k (2 * (m / 2))).Size:=Int.natCast_pos.2 (two_pos k)
  by_cases he:m % 2 = 0
  ·have a1:2 * (m / 2) = m:=by omega
   have a2:sib m = 2 * (m / 2)+1:=by unfold sib; rw [if_pos he]; omega
   rw [a2]
   rw [a1] at e2 hp ⊢
   omega
  ·have a1:2 * (m / 2)+1 = m:=by omega
   have a2:sib m = 2 * (m / 2):=by unfold sib; rw [if_neg he]; omega
   rw [a2]
   rw [a1] at e2
   omega
 rw [hst]
theorem give1 {B:Nat} {s:Space} (hB:B≤30) (hs:s.Bits = (B:Int)) {bits:Int} {u:List GBlock}:∀ (t k m:Nat) (f:List GBlock),k+t = B→f.length < 100000000→Mid B (bk k m) u f →
  loopO (buddy_Give_l1 s) (bits,bk k m,u,f) = some (bits,⟨0,0⟩,u,ins (mrg t k m f).2.2 (bk (mrg t k m f).1 (mrg t k m f).2.1)):=by
 have hb0:decide ((0:Int)≤s.Bits) = true:=by rw [hs]; simp
 intro t
 induction t with
 | zero =>
  intro k m f hk hf h
  have hfr:∀ x ∈ f,x.Start≠(bk k m).Start:=fun x hx=>h.fresh x (by simp [hx])
  apply loopO_inr
  unfold buddy_Give_l1 buddy_Give_j1
  dsimp only
  have hlt:decide ((bk k m).Size < WI B) = false:=by
   apply decide_eq_false
   rw [show k = B by omega]
   exact Int.lt_irrefl _
  rw [hb0,cond_true,shl_eq hs hB,hlt,cond_false,put_eq h.so (by omega) hfr]
  rfl
 | succ t ih =>
  intro k m f hk hf h
  have hkB:k < B:=by omega
  have hlt:decide ((bk k m).Size < WI B) = true:=decide_eq_true (pow_lt hkB)
  unfold mrg
  by_cases hm:bk k (sib m) ∈ f
  ·rw [if_pos hm,← ih (k+1) (m / 2) _ (by omega) (by have:=rem_len h.so hm; omega) (h.join hkB hm)]
   apply loopO_inl
   unfold buddy_Give_l1
   dsimp only
   rw [hb0,cond_true,shl_eq hs hB,hlt,cond_true,mate_v hB h.vb,Option.bind_some,mt_bk]
   rcases index_eq f (by omega) (bk k (sib m)) with ⟨h1,_⟩ | ⟨i,hi,h1,h2⟩
   ·exact absurd hm h1
   ·rw [h2,Option.bind_some,decide_eq_false (show ¬ (i:Int) < 0 by omega),cond_false,del_eq h.so (by omega) hi,Option.bind_some,h1,Option.bind_some,(par_eq hB hkB h.vb).1]
  ·rw [if_neg hm]
   have hfr:∀ x ∈ f,x.Start≠(bk k m).Start:=fun x hx=>h.fresh x (by simp [hx])
   apply loopO_inr
   unfold buddy_Give_l1 buddy_Give_j1
   dsimp only
   rw [hb0,cond_true,shl_eq hs hB,hlt,cond_true,mate_v hB h.vb,Option.bind_some,mt_bk]
   rcases index_eq f (by omega) (bk k (sib m)) with ⟨_,h2⟩ | ⟨i,hi,h1,h2⟩
   ·rw [h2,Option.bind_some,show decide ((-1:Int) < 0) = true from rfl,cond_true,put_eq h.so (by omega) hfr]
    rfl
   ·exact absurd (by rw [← h1]; exact List.getElem_mem hi) hm
theorem OkS.mid2 {B:Nat} {s:Space} (h:OkS B s) {b:GBlock} (hb:b ∈ s.Used):Mid B b (rem s.Used b) s.Free :=
 ⟨h.vu b hb,fun x hx=>h.vu x (rem_mem.1 hx).1,h.vf,rem_sorted h.su b,h.so,h.til.perm (List.Perm.append_right s.Free (rem_perm h.su hb))⟩
def giv (B k m:Nat) (f:List GBlock):List GBlock:=ins (mrg (B - k) k m f).2.2 (bk (mrg (B - k) k m f).1 (mrg (B - k) k m f).2.1)
theorem VB.num {B:Nat} {b:GBlock} (h:VB B b):∃ k m,k≤B∧b = bk k m:=let ⟨k,m,h1,_,h2⟩:=h.ex; ⟨k,m,h1,h2⟩
theorem give_eq {B:Nat} {s:Space} (h:OkS B s) (start:Int):((∀ b ∈ s.Used,b.Start≠start)∧buddy_Give s start = some (0,⟨6,0⟩,[],[])) ∨
 ∃b ∈ s.Used,b.Start = start∧∀ k m,k≤B→b = bk k m→buddy_Give s start = some (s.Bits,⟨0,0⟩,rem s.Used b,giv B k m s.Free):=by
 have hlen:=h.len
 obtain ⟨i,hi,h1,h2,hb⟩:=bs_eq h.su (by omega) (⟨start,0⟩:GBlock)
 have e0:buddy_Give s start = (slices_BinarySearchFunc_Block s.Used (GBlock.mk start 0)).bind fun r4888=>(bif (!r4888.2) then ((buddy_fault 6 0).bind fun r4892=>(some (0,r4892,[],[]))) else ((buddy_copied s).bind fun r4894=>(bif ((decide ((0:Int)≤r4888.1)) && (decide (r4888.1 < (r4894.2.1.length:Int)))) then ((slices_Delete_Block_1 r4888.1 (IntKind.i64.wrap (r4888.1+1)) r4894.2.1).bind fun r4901=>(loopO (buddy_Give_l1 s) (r4894.1,(ix r4894.2.1 r4888.1),r4901,r4894.2.2))) else none))):=by
  unfold buddy_Give
  rw [check_eq h.wf,h.sf0,Option.bind_some,show ((0:Int) != 0) = false from rfl,cond_false]
 rw [e0,hb,Option.bind_some]
 dsimp only
 by_cases hf:i < s.Used.length∧(s.Used[i]?.map (·.Start)) = some start
 ·right
  obtain ⟨hil,hst⟩:=hf
  rw [List.getElem?_eq_getElem hil] at hst
  have hst:s.Used[i].Start = start:=by simpa using hst
  have hmem:=List.getElem_mem hil
  refine ⟨s.Used[i],hmem,hst,fun k m hk e=>?_⟩
  rw [decide_eq_true (show i < s.Used.length∧(s.Used[i]?.map (·.Start)) = some start from ⟨hil,by rw [List.getElem?_eq_getElem hil]; simpa using hst⟩),Bool.not_true,cond_false,copied_eq (by omega) (by omega),Option.bind_some]
  dsimp only
  rw [ge_n,lt_n hil,ix_get hil,del_eq h.su (by omega) hil,Option.bind_some,Bool.and_self,cond_true]
  have hM:=h.mid2 hmem
  rw [e] at hM ⊢
  exact give1 h.hB h.bits (B - k) k m s.Free (by omega) (by omega) hM
 ·left
  refine ⟨fun b hbm hbs=>hf ?_,?_⟩
  ·obtain ⟨q,hq,rfl⟩:=List.getElem_of_mem hbm
   have hqi:¬ q < i:=fun hqi=>by have:=h1 q hq hqi; dsimp only at this; omega
   have hil:i < s.Used.length:=by omega
   have:i = q:=by
    by_cases e:i = q
    ·exact e
    ·have a1:=sorted_get h.su hil hq (by omega)
     have a2:=h2 i hil (Nat.le_refl _)
     dsimp only at a2
     omega
   subst this
   exact ⟨hil,by rw [List.getElem?_eq_getElem hil]; simpa using hbs⟩
  ·rw [decide_eq_false hf]; rfl
end Go.Proofs.Ytpeaimfdeonpgaa
end

section
namespace Go.Proofs.Ytpeaimfdeonpgaa
open Go Go.Sx
set_option linter.unusedVariables false
set_option linter.unusedSimpArgs false
theorem mates_ins {B k m:Nat} {f:List GBlock} (hf:∀ x ∈ f,VB B x) (hn:¬ mates B f) (hfr:∀ x ∈ f,x.Start≠(bk k m).Start) (hs:k < B→bk k (sib m) ∉ f):¬ mates B (ins f (bk k m)):=by
 rintro ⟨c,hc,hsz,hm⟩
 rw [ins_mem hfr] at hc hm
 rcases hc with rfl | hc
 ·have hk:k < B:=Nat.lt_of_not_le fun h=>by have:=pow_mono h; unfold WI at hsz; simp only [bk] at hsz; omega
  rw [mt_bk] at hm
  rcases hm with e | hm
  ·exact sib_ne m (bk_inj e).2
  ·exact hs hk hm
 ·rcases hm with e | hm
  ·obtain ⟨k',m',hk',e'⟩:=(hf c hc).num
   rw [e',mt_bk] at e
   obtain ⟨rfl,e2⟩:=bk_inj e
   have hk:k' < B:=Nat.lt_of_not_le fun h=>by rw [e'] at hsz; have:=pow_mono h; unfold WI at hsz; simp only [bk] at hsz; omega
   refine hs hk ?_
   rw [← e2,sib_sib,← e']
   exact hc
  ·exact hn ⟨c,hc,hsz,hm⟩
theorem mates_sub {B:Nat} {f g:List GBlock} (h:∀ x ∈ g,x ∈ f) (hn:¬ mates B f):¬ mates B g:=fun ⟨c,h1,h2,h3⟩=>hn ⟨c,h c h1,h2,h _ h3⟩
theorem Mid.notin {B:Nat} {b:GBlock} {u f:List GBlock} (h:Mid B b u f):b ∉ f:=fun hb=>h.fresh b (by simp [hb]) rfl
theorem spl_mates {B j:Nat} {u:List GBlock}:∀ (t m:Nat) (f:List GBlock),Mid B (bk (j+t) m) u f→¬ mates B f→¬ mates B (spl j t m f)
 | 0,m,f,_,hn=>hn
 | t+1,m,f,h,hn=>by
  obtain ⟨h1,h2⟩:=Mid.split (k:=j+t) h
  refine spl_mates t (2 * m) _ h2 (mates_ins h.vf hn h1 fun _ hm=>?_)
  have hno:=h2.notin
  rw [ins_mem h1] at hno
  rw [show sib (2 * m+1) = 2 * m by unfold sib; rw [if_neg (by omega)]; omega] at hm
  exact hno (.inr hm)
theorem keep_take {B j t m:Nat} {s:Space} (h:OkS B s) (hb:bk (j+t) m ∈ s.Free) (hl:(ins s.Used (bk j (m * 2 ^ t))).length+(spl j t m (rem s.Free (bk (j+t) m))).length≤5000) :
  OkS B ⟨s.Bits,ins s.Used (bk j (m * 2 ^ t)),spl j t m (rem s.Free (bk (j+t) m))⟩:=by
 have hM:=h.mid hb
 obtain ⟨h1,h2⟩:=Mid.spl t m _ hM
 have hfr:∀ x ∈ s.Used,x.Start≠(bk j (m * 2 ^ t)).Start:=fun x hx=>h1.fresh x (by simp [hx])
 refine ⟨h.hB,h.bits,hl,fun x hx=>?_,h1.vf,ins_sorted h.su _,h1.so,?_,spl_mates t m _ hM (mates_sub (fun x hx=>(rem_mem.1 hx).1) h.nm)⟩
 ·rcases (ins_mem hfr).1 hx with rfl | hx
  ·exact h1.vb
  ·exact h.vu x hx
 ·exact h1.til.perm (List.Perm.append_right _ (ins_perm hfr).symm)
theorem keep_give {B k m:Nat} {s:Space} (h:OkS B s) (hk:k≤B) (hb:bk k m ∈ s.Used):OkS B ⟨s.Bits,rem s.Used (bk k m),giv B k m s.Free⟩∧(giv B k m s.Free).length≤s.Free.length+1:=by
 have hM:=h.mid2 hb
 have hr:=mrg_ok (B - k) k m s.Free (by omega) hM
 have hfr:∀ x ∈ (mrg (B - k) k m s.Free).2.2,x.Start≠(bk (mrg (B - k) k m s.Free).1 (mrg (B - k) k m s.Free).2.1).Start:=fun x hx=>hr.mid.fresh x (by simp [hx])
 have hl1:=ins_len hfr
 have hl2:=rem_len h.su hb
 have hl3:=hr.len
 have hlen:=h.len
 refine ⟨⟨h.hB,h.bits,?_,hr.mid.vu,fun x hx=>?_,rem_sorted h.su _,ins_sorted hr.mid.so _,?_,mates_ins hr.mid.vf (mates_sub hr.sub h.nm) hfr hr.done⟩,?_⟩
 ·show (rem s.Used (bk k m)).length+(ins _ _).length≤5000
  omega
 ·rcases (ins_mem hfr).1 hx with rfl | hx
  ·exact hr.mid.vb
  ·exact hr.mid.vf x hx
 ·exact hr.mid.til.perm (List.perm_middle.symm.trans (List.Perm.append_left _ (ins_perm hfr).symm))
 ·show (ins _ _).length≤_
  omega
theorem ok_new {B:Nat} (hB:B≤30):OkS B ⟨(B:Int),[],[bk B 0]⟩:=by
 have hv:VB B (bk B 0):=⟨B,0,Nat.le_refl _,by rw [Nat.sub_self]; decide,rfl⟩
 have h0:(bk B 0).Start = 0:=by simp [bk]
 refine ⟨hB,rfl,by simp,fun b hb=>(by cases hb),fun b hb=>(by rw [List.mem_singleton.1 hb]; exact hv),.nil,List.pairwise_singleton _ _,⟨[bk B 0],.refl _,?_⟩,?_⟩
 ·rw [chain_cons]
  exact ⟨h0,by simp only [chain]; congr 1; show (0:Int)+((2 ^ B:Nat):Int) = WI B; unfold WI; omega⟩
 ·rintro ⟨c,hc,hsz,_⟩
  rw [List.mem_singleton.1 hc] at hsz
  exact Int.lt_irrefl _ hsz
theorem sameBlocks_eq (a b:List GBlock) (ha:a.length < 1000000000000) (hb:b.length < 1000000000000):taskmillref_SameBlocks a b = some (decide (a = b)):=by
 unfold taskmillref_SameBlocks
 by_cases hl:a.length = b.length
 ·rw [show ((a.length:Int) != (b.length:Int)) = false by rw [hl]; simp,cond_false]
  have e:=loopO_if (step:=taskmillref_SameBlocks_l1 a b) (fun i=>((i:Nat):Int)) (fun i=>decide (a[i]?≠b[i]?)) (fun _=>some false) (some true) a.length (fun i hi hp=>?_) (fun i hi hp=>?_) (fun _=>?_)
  ·rw [show (0:Int) = ((0:Nat):Int) from rfl,e]
   cases hf:firstIf (fun i=>decide (a[i]?≠b[i]?)) a.length with
   | none =>
    have hn:=firstIf_none.1 hf
    rw [decide_eq_true]
    apply List.ext_getElem?
    intro i
    by_cases hi:i < a.length
    ·have:=hn i hi
     simpa using this
    ·rw [List.getElem?_eq_none (by omega),List.getElem?_eq_none (by omega)]
   | some i =>
    obtain ⟨h1,h2,_⟩:=firstIf_some hf
    rw [decide_eq_false]
    intro e
    rw [e] at h2
    simp at h2
  ·unfold taskmillref_SameBlocks_l1
   rw [List.getElem?_eq_getElem hi,List.getElem?_eq_getElem (by omega)] at hp
   have hp:a[i] = b[i]'(by omega):=by simpa using hp
   rw [lt_n hi,ge_n,lt_n (show i < b.length by omega),ix_get hi,ix_get (show i < b.length by omega),blk_beq,decide_eq_true hp,wrap_n1 _ (by omega)]
   rfl
  ·unfold taskmillref_SameBlocks_l1
   rw [List.getElem?_eq_getElem hi,List.getElem?_eq_getElem (by omega)] at hp
   have hp:a[i]≠b[i]'(by omega):=by simpa using hp
   rw [lt_n hi,ge_n,lt_n (show i < b.length by omega),ix_get hi,ix_get (show i < b.length by omega),blk_beq,decide_eq_false hp]
   rfl
  ·unfold taskmillref_SameBlocks_l1
   rw [nlt_n]; rfl
 ·rw [show ((a.length:Int) != (b.length:Int)) = true by rw [bne_iff_ne]; omega,cond_true,decide_eq_false fun e=>hl (by rw [e])]
theorem sameSpace_refl (s:Space) (hu:s.Used.length < 1000000000000) (hf:s.Free.length < 1000000000000):taskmillref_SameSpace s s = some true:=by
 unfold taskmillref_SameSpace taskmillref_SameSpace_j1
 rw [show (s.Bits == s.Bits) = true by simp,cond_true,sameBlocks_eq _ _ hu hu,decide_eq_true rfl,Option.bind_some,cond_true,sameBlocks_eq _ _ hf hf,decide_eq_true rfl]
 rfl
theorem new_eq (bits:Int):buddy_New bits = if bits < 0∨30 < bits then some (0,⟨3,-1⟩,[]) else some (bits,⟨0,0⟩,[bk bits.toNat 0]):=by
 unfold buddy_New
 rw [show ((decide (bits < 0)) || (decide ((30:Int) < bits))) = decide (bits < 0∨30 < bits) by rw [Bool.eq_iff_iff]; simp]
 by_cases h:bits < 0∨30 < bits
 ·rw [decide_eq_true h,if_pos h]; rfl
 ·rw [decide_eq_false h,if_neg h,cond_false,decide_eq_true (show (0:Int)≤bits by omega),cond_true,shl_eq (x:=bits) (B:=bits.toNat) (by omega) (by omega)]
  have:GBlock.mk 0 (WI bits.toNat) = bk bits.toNat 0:=by simp [bk,WI]
  rw [this]
theorem begun:taskmilllaw_buddyBegun = some true:=by
 have hok:=ok_new (B:=3) (by decide)
 have hb3:bk 3 0 = ⟨0,8⟩:=rfl
 obtain ⟨j,o,hj,ho,ht⟩:=take_eq hok (n:=3) (by decide) (by decide)
 have hj2:j = 2:=by
  have h1:=hj.mi 2 (by decide)
  have h2:=hj.en
  match j,h1,h2 with
  | 0,_,h2=>exact absurd h2 (by decide)
  | 1,_,h2=>exact absurd h2 (by decide)
  | 2,_,_=>rfl
  | j+3,h1,_=>omega
 subst hj2
 match o,ho,ht with
 | none,ho,_=>exact absurd (ho 0 (by decide) (by decide)) (by decide)
 | some b,ho,ht =>
  obtain ⟨hb,t,m,e,ht⟩:=ht
  have hb0:b = 0:=by simp at hb; exact hb
  subst hb0
  have e:bk 3 0 = bk (2+t) m:=e
  obtain ⟨h1,rfl⟩:=bk_inj e
  obtain rfl:t = 1:=by omega
  have hT:buddy_Take (Space.mk 3 [] [bk 3 0]) 3 = some (3,0,⟨0,0⟩,[bk 2 0],[bk 2 1]):=by
   rw [show (Space.mk 3 [] [bk 3 0]) = (⟨((3:Nat):Int),[],[bk 3 0]⟩:Space) from rfl,ht]
   change some (takeR 3 (bk 3 0).Start (ins [] (bk 2 0)) (spl 2 1 0 (rem [bk 3 0] (bk 3 0)))) = _
   decide
  unfold taskmilllaw_buddyBegun taskmilllaw_buddyBegun_j1
  rw [new_eq,if_neg (by decide),Option.bind_some]
  dsimp only
  rw [show (3:Int).toNat = 3 from rfl,hT,Option.bind_some]
  dsimp only
  rw [sameBlocks_eq _ _ (by decide) (by decide)]
  rfl
end Go.Proofs.Ytpeaimfdeonpgaa
end

section
namespace Go.Proofs.Ytpeaimfdeonpgaa
open Go Go.Sx
set_option linter.unusedVariables false
set_option linter.unusedSimpArgs false
theorem take_bad {s:Space} (hw:Wf s) (h:(sf s).Code≠0) (n:Int):buddy_Take s n = some (0,0,sf s,[],[]):=by
 unfold buddy_Take
 rw [check_eq hw,Option.bind_some,show ((sf s).Code != 0) = true by rw [bne_iff_ne]; exact h]
 rfl
theorem take_range {B:Nat} {s:Space} (h:OkS B s) {n:Int} (hn:n < 1∨1073741824 < n):buddy_Take s n = some (0,0,⟨3,-1⟩,[],[]):=by
 unfold buddy_Take
 rw [check_eq h.wf,h.sf0,Option.bind_some,show ((0:Int) != 0) = false from rfl,cond_false,show ((decide (n < 1)) || (decide ((1073741824:Int) < n))) = true by rw [Bool.or_eq_true,decide_eq_true_eq,decide_eq_true_eq]; exact hn]
 rfl
theorem take_tot {s:Space} (hw:Wf s) (n:Int):∃ bits at' f u fr,buddy_Take s n = some (bits,at',f,u,fr):=by
 by_cases h0:(sf s).Code = 0
 ·obtain ⟨B,h⟩:=OkS.of hw h0
  by_cases hn:n < 1∨1073741824 < n
  ·exact ⟨_,_,_,_,_,take_range h hn⟩
  ·obtain ⟨j,o,hj,ho,ht⟩:=take_eq h (n:=n) (by omega) (by omega)
   cases o with
   | none=>exact ⟨_,_,_,_,_,ht⟩
   | some b =>
    obtain ⟨hb,t,m,e,ht⟩:=ht
    exact ⟨_,_,_,_,_,ht⟩
 ·exact ⟨_,_,_,_,_,take_bad hw h0 n⟩
end Go.Proofs.Ytpeaimfdeonpgaa
end

section
namespace Go.Proofs.Ytpeaimfdeonpgaa
open Go Go.Sx
set_option linter.unusedVariables false
set_option linter.unusedSimpArgs false
theorem rem_ins {l:List GBlock} (hs:l.Pairwise lt) {b:GBlock} (hn:∀ x ∈ l,x.Start≠b.Start):rem (ins l b) b = l :=
 sorted_unique (rem_sorted (ins_sorted hs b) b) hs fun x=>by
  rw [rem_mem,ins_mem hn]
  constructor
  ·rintro ⟨h | h,hx⟩
   ·exact absurd h hx
   ·exact h
  ·exact fun h=>⟨.inr h,fun e=>hn x h (by rw [e])⟩
theorem rem_fresh {l:List GBlock} (hs:l.Pairwise lt) {b:GBlock} (hb:b ∈ l):∀ x ∈ rem l b,x.Start≠b.Start:=fun x hx e=>by
 obtain ⟨h1,h2⟩:=rem_mem.1 hx
 exact h2 (sorted_start hs h1 hb e)
theorem ins_rem {l:List GBlock} (hs:l.Pairwise lt) {b:GBlock} (hb:b ∈ l):ins (rem l b) b = l :=
 sorted_unique (ins_sorted (rem_sorted hs b) b) hs fun x=>by
  rw [ins_mem (rem_fresh hs hb),rem_mem]
  constructor
  ·rintro (rfl | h)
   ·exact hb
   ·exact h.1
  ·intro h
   by_cases e:x = b
   ·exact .inl e
   ·exact .inr ⟨h,e⟩
theorem mrg_spl {B j:Nat} {u:List GBlock}:∀ (t m:Nat) (f:List GBlock),Mid B (bk (j+t) m) u f→mrg (B - j) j (m * 2 ^ t) (spl j t m f) = mrg (B - (j+t)) (j+t) m f
 | 0,m,f,_=>by simp [spl]
 | t+1,m,f,h=>by
  have hk:j+t+1≤B:=by
   obtain ⟨k',m',h1,h2,h3⟩:=h.vb.ex
   obtain ⟨h4,_⟩:=bk_inj h3
   omega
  obtain ⟨h1,h2⟩:=Mid.split (k:=j+t) h
  rw [show spl j (t+1) m f = spl j t (2 * m) (ins f (bk (j+t) (2 * m+1))) from rfl,show m * 2 ^ (t+1) = 2 * m * 2 ^ t by rw [Nat.pow_succ]; simp only [Nat.mul_comm,Nat.mul_left_comm,Nat.mul_assoc],mrg_spl t (2 * m) _ h2]
  rw [show B - (j+t) = (B - (j+(t+1)))+1 by omega]
  conv=>lhs; unfold mrg
  have hs:sib (2 * m) = 2 * m+1:=by unfold sib; rw [if_pos (by omega)]
  rw [hs,if_pos ((ins_mem h1).2 (.inl rfl)),rem_ins h.so h1,show 2 * m / 2 = m by omega]
  rfl
theorem back {B j t m:Nat} {s:Space} (h:OkS B s) (hb:bk (j+t) m ∈ s.Free):giv B j (m * 2 ^ t) (spl j t m (rem s.Free (bk (j+t) m))) = s.Free:=by
 have hM:=h.mid hb
 have hv:=h.vf _ hb
 unfold giv
 rw [mrg_spl t m _ hM]
 have hno:j+t < B→bk (j+t) (sib m) ∉ rem s.Free (bk (j+t) m):=fun hk hm=>h.nm ⟨_,hb,pow_lt hk,by rw [mt_bk]; exact (rem_mem.1 hm).1⟩
 have hstop:mrg (B - (j+t)) (j+t) m (rem s.Free (bk (j+t) m)) = (j+t,m,rem s.Free (bk (j+t) m)):=by
  cases hd:B - (j+t) with
  | zero=>rfl
  | succ d =>
   unfold mrg
   rw [if_neg (hno (by omega))]
 rw [hstop]
 exact ins_rem h.so hb
theorem take_some {s:Space} (hw:Wf s) {n bits at':Int} {f:Fault} {u fr:List GBlock} (hT:buddy_Take s n = some (bits,at',f,u,fr)) (hf:f.Code = 0) :
  1≤n∧∃ B j t m,OkS B s∧Lp n j∧bk (j+t) m ∈ s.Free∧bits = s.Bits∧at' = (bk (j+t) m).Start∧u = ins s.Used (bk j (m * 2 ^ t))∧fr = spl j t m (rem s.Free (bk (j+t) m))∧OkS B ⟨s.Bits,u,fr⟩∧(∀ x ∈ s.Used,x.Start≠(bk j (m * 2 ^ t)).Start):=by
 by_cases h0:(sf s).Code = 0
 ·obtain ⟨B,h⟩:=OkS.of hw h0
  by_cases hn:n < 1∨1073741824 < n
  ·rw [take_range h hn] at hT
   cases hT
   exact absurd hf (by decide)
  ·refine ⟨by omega,?_⟩
   obtain ⟨j,o,hj,ho,ht⟩:=take_eq h (n:=n) (by omega) (by omega)
   cases o with
   | none =>
    have ht:buddy_Take s n = some (0,0,⟨6,0⟩,[],[]):=ht
    rw [ht] at hT
    cases hT
    exact absurd hf (by decide)
   | some b =>
    obtain ⟨hb,t,m,e,ht⟩:=ht
    have hmem:=List.getElem_mem hb
    rw [e] at hmem ht
    rw [ht] at hT
    have hM:=h.mid hmem
    obtain ⟨h1,h2⟩:=Mid.spl t m _ hM
    have hfr:∀ x ∈ s.Used,x.Start≠(bk j (m * 2 ^ t)).Start:=fun x hx=>h1.fresh x (by simp [hx])
    unfold takeR at hT
    by_cases h5:5000 < (ins s.Used (bk j (m * 2 ^ t))).length+(spl j t m (rem s.Free (bk (j+t) m))).length
    ·rw [if_pos h5] at hT
     cases hT
     exact absurd hf (by decide)
    ·rw [if_neg h5] at hT
     cases hT
     exact ⟨B,j,t,m,h,hj,hmem,rfl,rfl,rfl,rfl,keep_take h hmem (by omega),hfr⟩
 ·rw [take_bad hw h0] at hT
  cases hT
  exact absurd hf h0
end Go.Proofs.Ytpeaimfdeonpgaa
end

section
namespace Go.Proofs.Ytpeaimfdeonpgaa
open Go Go.Sx
set_option linter.unusedVariables false
set_option linter.unusedSimpArgs false
theorem least:∀ (l:List GBlock),l≠[]→∃ b ∈ l,∀ c ∈ l,b.Size≤c.Size
 | [],h=>absurd rfl h
 | [x],_=>⟨x,by simp,fun c hc=>by rw [List.mem_singleton.1 hc]; exact Int.le_refl _⟩
 | x::y::l,_=>by
  obtain ⟨b,hb,hm⟩:=least (y::l) (by simp)
  by_cases h:x.Size≤b.Size
  ·refine ⟨x,by simp,fun c hc=>?_⟩
   rcases List.mem_cons.1 hc with rfl | hc
   ·exact Int.le_refl _
   ·have:=hm c hc; omega
  ·refine ⟨b,by simp [hb],fun c hc=>?_⟩
   rcases List.mem_cons.1 hc with rfl | hc
   ·omega
   ·exact hm c hc
theorem holds_half {k m k' m':Nat} (hk:k < k') (h1:m' * 2 ^ k'≤sib m * 2 ^ k) (h2:sib m * 2 ^ k < (m'+1) * 2 ^ k'):m' * 2 ^ k'≤m * 2 ^ k∧m * 2 ^ k < (m'+1) * 2 ^ k':=by
 obtain ⟨d,rfl⟩:=Nat.exists_eq_add_of_lt hk
 have hp:=two_pos k
 have e:∀ q,q * 2 ^ (k+d+1) = 2 * (q * 2 ^ d) * 2 ^ k:=fun q=>by
  rw [show k+d+1 = d+1+k by omega,Nat.pow_add,Nat.pow_succ]
  simp only [Nat.mul_comm,Nat.mul_left_comm,Nat.mul_assoc]
 rw [e] at h1 h2 ⊢
 rw [e]
 have a1:=Nat.le_of_mul_le_mul_right h1 hp
 have a2:=Nat.lt_of_mul_lt_mul_right h2
 have hs:=sib_half m
 exact ⟨Nat.mul_le_mul_right _ (by omega),Nat.mul_lt_mul_of_pos_right (by omega) hp⟩
theorem bk_sz (k m:Nat):(bk k m).Start = ((m * 2 ^ k:Nat):Int)∧(bk k m).Start+(bk k m).Size = (((m+1) * 2 ^ k:Nat):Int):=by
 refine ⟨rfl,?_⟩
 simp only [bk]
 rw [Nat.add_mul,Nat.one_mul]; push_cast
theorem whole_free {B:Nat} {bits:Int} {F:List GBlock} (h:OkS B ⟨bits,[],F⟩):F = [bk B 0]:=by
 have hW:=WI_b h.hB
 obtain ⟨ms,hp,hc⟩:=h.til
 have hp:ms.Perm F:=hp
 have vf:∀ b ∈ F,VB B b:=h.vf
 have so:F.Pairwise lt:=h.so
 have nm:¬ mates B F:=h.nm
 have hne:F≠[]:=fun e=>by
  rw [e] at hp
  rw [List.perm_nil.1 hp] at hc
  have:(0:Int) = WI B:=by simpa [chain] using hc
  omega
 obtain ⟨b,hb,hmin⟩:=least F hne
 obtain ⟨k,m,hk,hm,e⟩:=(vf b hb).ex
 have hFp:=rem_perm so hb
 have hpos:Pos (b::rem F b):=fun x hx=>(vf x (hFp.mem_iff.2 hx)).pos
 have hto:=Til.others hpos (⟨ms,hp.trans hFp,hc⟩:Til (WI B) (b::rem F b))
 by_cases hkB:k = B
 ·subst hkB
  have hm0:m = 0:=by rw [Nat.sub_self] at hm; omega
  subst hm0
  have hnil:rem F b = []:=by
   rw [List.eq_nil_iff_forall_not_mem]
   intro x hx
   have hv:=vf x (hFp.mem_iff.2 (by simp [hx]))
   have h1:=hv.in'
   have h2:=hv.pos
   have h3:=hto x hx
   have h4:b.Start = 0:=by rw [e]; simp [bk]
   have h5:b.Size = WI k:=by rw [e]; rfl
   omega
  rw [hnil] at hFp
  rw [List.perm_singleton.1 hFp,e]
 ·exfalso
  have hkl:k < B:=by omega
  have hsl:=sib_lt hkl hm
  have hvs:VB B (bk k (sib m)):=⟨k,sib m,hk,hsl,rfl⟩
  have hin:=hvs.in'
  have hsp:=hvs.pos
  obtain ⟨c,hcm,hc1,hc2⟩:=chain_cover ms 0 (WI B) hc (bk k (sib m)).Start hin.1 (by omega)
  have hcF:=hp.mem_iff.1 hcm
  obtain ⟨k',m',hk',hm',e'⟩:=(vf c hcF).ex
  have hkk:k≤k':=by
   have:=hmin c hcF
   rw [e,e'] at this
   exact pow_le_iff.1 this
  rw [e'] at hc1 hc2
  rw [(bk_sz k' m').1,(bk_sz k (sib m)).1] at hc1
  rw [(bk_sz k' m').2,(bk_sz k (sib m)).1] at hc2
  have hc1:m' * 2 ^ k'≤sib m * 2 ^ k:=by exact_mod_cast hc1
  have hc2:sib m * 2 ^ k < (m'+1) * 2 ^ k':=by exact_mod_cast hc2
  rcases Nat.eq_or_lt_of_le hkk with rfl | hlt
  ·have a1:=Nat.le_of_mul_le_mul_right hc1 (two_pos k)
   have a2:=Nat.lt_of_mul_lt_mul_right hc2
   have:m' = sib m:=by omega
   subst this
   refine nm ⟨b,hb,by rw [e]; exact pow_lt hkl,?_⟩
   rw [e,mt_bk,← e']
   exact hcF
  ·obtain ⟨b1,b2⟩:=holds_half hlt hc1 hc2
   have hcb:c ∈ rem F b:=rem_mem.2 ⟨hcF,fun e2=>by rw [e,e'] at e2; have:=(bk_inj e2).1; omega⟩
   have h3:=hto c hcb
   rw [e,e',(bk_sz k' m').2,(bk_sz k m).2,(bk_sz k' m').1,(bk_sz k m).1] at h3
   have hp2:=two_pos k
   have e3:(m+1) * 2 ^ k = m * 2 ^ k+2 ^ k:=by rw [Nat.add_mul,Nat.one_mul]
   rw [e3] at h3
   generalize m * 2 ^ k = x at *
   generalize m' * 2 ^ k' = y at *
   generalize (m'+1) * 2 ^ k' = z at *
   generalize 2 ^ k = w at *
   omega
theorem whole2 {B:Nat} (hB:B≤30) {bits:Int} (hbits:bits = (B:Int)):∀ (d:Nat) (U F:List GBlock),U.length = d→OkS B ⟨bits,U,F⟩→loopO (taskmilllaw_BuddyWhole_l2 bits) (bits,U,F) = some true:=by
 intro d
 induction d with
 | zero =>
  intro U F hd h
  obtain rfl:=List.eq_nil_of_length_eq_zero hd
  have hF:=whole_free h
  subst hF
  apply loopO_inr
  unfold taskmilllaw_BuddyWhole_l2
  dsimp only
  have hbk:GBlock.mk 0 (IntKind.i64.wrap ((1:Int) * 2 ^ (min (bits).toNat (IntKind.i64).bits))) = bk B 0:=by
   rw [shl_eq hbits hB]; simp [bk,WI]
  rw [show decide ((0:Int) < ((([]:List GBlock).length:Nat):Int)) = false from rfl,cond_false,show decide ((0:Int)≤bits) = true by rw [hbits]; simp,cond_true,hbk,sameSpace_refl _ (by simp) (by simp)]
  rfl
 | succ d ih =>
  intro U F hd h
  have hlen:=h.len
  dsimp only at hlen
  have hmid:(d+1) / 2 < U.length:=by omega
  have hmem:=List.getElem_mem hmid
  have hdiv:IntKind.i64.wrap (Int.tdiv (U.length:Int) 2) = (((d+1) / 2:Nat):Int):=by
   rw [Int.tdiv_eq_ediv_of_nonneg (by omega),wrap_id (by omega) (by omega),hd]; omega
  rcases give_eq h (U[(d+1) / 2]).Start with ⟨hno,_⟩ | ⟨b,hb,hbs,hg⟩
  ·exact absurd rfl (hno _ hmem)
  ·have hbi:b = U[(d+1) / 2]:=sorted_start h.su hb hmem hbs
   subst hbi
   obtain ⟨k,m,hk,e⟩:=(h.vu _ hmem).num
   have hg:=hg k m hk e
   have hkeep:=(keep_give h hk (by rw [← e]; exact hmem)).1
   have hrl:=rem_len h.su hmem
   dsimp only at hrl hg hkeep
   rw [← e] at hkeep
   rw [← ih _ _ (by omega) hkeep]
   apply loopO_inl
   unfold taskmilllaw_BuddyWhole_l2
   dsimp only
   rw [decide_eq_true (show (0:Int) < (U.length:Int) by omega),cond_true,hdiv,ge_n,lt_n hmid,ix_get hmid,Bool.and_self,cond_true,hg,Option.bind_some]
   dsimp only
   rw [show ((0:Int) != 0) = false from rfl,Bool.false_or]
   have:((((rem U U[(d+1) / 2]).length:Nat):Int) != IntKind.i64.wrap ((U.length:Int) - 1)) = false:=by
    rw [wrap_id (by omega) (by omega),bne_eq_false_iff_eq]; omega
   rw [this]
   rfl
theorem whole1 {bits:Int} {moves:List Int} {i:Nat} {cb:Int} {cu cf:List GBlock} {st tb:Int} {tu tf:List GBlock} (hl:tu.length < 1000000000000) :
 ∀(d q:Nat) (k:Int),q+d = tu.length→((k = -1∧∀ p (hp:p < tu.length),p < q→tu[p].Start≠st)∨∃ p:Nat,∃ h:p < tu.length,k = ((p:Nat):Int)∧tu[p].Start = st) →
  ∃k':Int,((k' = -1∧∀ b ∈ tu,b.Start≠st)∨∃ p:Nat,∃ h:p < tu.length,k' = ((p:Nat):Int)∧tu[p].Start = st) ∧
    loopO (taskmilllaw_BuddyWhole_l1 bits moves (i:Int) cb cu cf) (st,k,(q:Int),tb,tu,tf) = loopO (taskmilllaw_BuddyWhole_l1 bits moves (i:Int) cb cu cf) (st,k',(tu.length:Int),tb,tu,tf):=by
 intro d
 induction d with
 | zero =>
  intro q k hq hk
  have:q = tu.length:=by omega
  subst this
  refine ⟨k,?_,rfl⟩
  rcases hk with ⟨h1,h2⟩ | h
  ·exact .inl ⟨h1,fun b hb=>by obtain ⟨p,hp,rfl⟩:=List.getElem_of_mem hb; exact h2 p hp hp⟩
  ·exact .inr h
 | succ d ih =>
  intro q k hq hk
  have hql:q < tu.length:=by omega
  by_cases hst:tu[q].Start = st
  ·obtain ⟨k',h1,h2⟩:=ih (q+1) (q:Int) (by omega) (.inr ⟨q,hql,rfl,hst⟩)
   refine ⟨k',h1,?_⟩
   rw [← h2]
   apply loopO_inl
   unfold taskmilllaw_BuddyWhole_l1 taskmilllaw_BuddyWhole_j3
   dsimp only
   rw [lt_n hql,ge_n,ix_get hql,hst,wrap_n1 _ (by omega)]
   simp
  ·obtain ⟨k',h1,h2⟩:=ih (q+1) k (by omega) (by
    rcases hk with ⟨h3,h4⟩ | h
    ·refine .inl ⟨h3,fun p hp hpq=>?_⟩
     by_cases e:p = q
     ·subst e; exact hst
     ·exact h4 p hp (by omega)
    ·exact .inr h)
   refine ⟨k',h1,?_⟩
   rw [← h2]
   apply loopO_inl
   unfold taskmilllaw_BuddyWhole_l1 taskmilllaw_BuddyWhole_j3
   dsimp only
   rw [lt_n hql,ge_n,ix_get hql,show (tu[q].Start == st) = false by rw [beq_eq_false_iff_ne]; exact hst,wrap_n1 _ (by omega)]
   rfl
theorem whole_j2 {B:Nat} {bits:Int} {moves:List Int} {i:Nat} {cb:Int} {U F:List GBlock} (h:OkS B ⟨cb,U,F⟩) (hi:i < 1000):taskmilllaw_BuddyWhole_j2 bits moves (i:Int) cb U F = some (.inl (((i+1:Nat):Int),cb,U,F)):=by
 unfold taskmilllaw_BuddyWhole_j2 taskmilllaw_BuddyWhole_j1
 rw [ref_eq h.wf,h.sf0,Option.bind_some,show ((0:Int) != 0) = false from rfl,cond_false,wrap_n1 _ (by omega)]
theorem whole3 {B:Nat} (hB:B≤30) {bits:Int} (hbits:bits = (B:Int)) (moves:List Int) (hm:moves.length≤200):∀ (d i:Nat) (U F:List GBlock),i+d = moves.length→OkS B ⟨bits,U,F⟩→loopO (taskmilllaw_BuddyWhole_l3 bits moves) (((i:Nat):Int),bits,U,F) = some true:=by
 intro d
 induction d with
 | zero =>
  intro i U F hd h
  have:i = moves.length:=by omega
  subst this
  apply loopO_out
  unfold taskmilllaw_BuddyWhole_l3
  dsimp only
  rw [nlt_n,cond_false,whole2 hB hbits _ U F rfl h]
 | succ d ih =>
  intro i U F hd h
  have hil:i < moves.length:=by omega
  have hlen:=h.len
  dsimp only at hlen
  have next:∀ U' F',OkS B ⟨bits,U',F'⟩→taskmilllaw_BuddyWhole_l3 bits moves ((i:Int),bits,U,F) = some (.inl (((i+1:Nat):Int),bits,U',F'))→loopO (taskmilllaw_BuddyWhole_l3 bits moves) ((i:Int),bits,U,F) = some true:=fun U' F' h1 h2=>by
   rw [loopO_inl h2,ih (i+1) U' F' (by omega) h1]
  by_cases hpos:0 < moves[i]
  ·obtain ⟨b',at',f,u,fr,hT⟩:=take_tot h.wf moves[i]
   by_cases hf:f.Code = 0
   ·obtain ⟨hn1,B',j,t,m,h',hj,hmem,e1,e2,e3,e4,hk,hfr⟩:=take_some h.wf hT hf
    have hBB:B' = B:=by have h1:=h'.bits; have h2:=h.bits; dsimp only at h1 h2; omega
    subst hBB
    dsimp only at e1 e3 e4 hmem hk hfr
    subst e1
    have hst:=bk_start j t m
    have hb0:bk j (m * 2 ^ t) ∈ u:=by rw [e3]; exact (ins_mem hfr).2 (.inl rfl)
    have hul:u.length < 1000000000000:=by have:=hk.len; dsimp only at this; omega
    refine next u fr hk ?_
    unfold taskmilllaw_BuddyWhole_l3
    dsimp only
    rw [lt_n hil,ge_n,ix_get hil,decide_eq_true hpos,Bool.and_self,cond_true,cond_true,cond_true,cond_true,hT,Option.bind_some]
    dsimp only
    rw [show (f.Code != 0) = false by rw [hf]; rfl,cond_false]
    obtain ⟨k',hk1,hk2⟩:=whole1 (bits:=b') (moves:=moves) (i:=i) (cb:=b') (cu:=U) (cf:=F) (st:=at') (tb:=b') (tu:=u) (tf:=fr) hul u.length 0 (-1) (by omega) (.inl ⟨rfl,fun p _ hp=>absurd hp (Nat.not_lt_zero p)⟩)
    refine hk2.trans ?_
    rcases hk1 with ⟨_,hno⟩ | ⟨p,hp,rfl,hps⟩
    ·exact absurd (by rw [e2,← hst]) (hno _ hb0)
    ·have hpb:u[p] = bk j (m * 2 ^ t):=sorted_start hk.su (List.getElem_mem hp) hb0 (by rw [hps,e2,hst])
     have hsz:u[p].Size = ((2 ^ j:Nat):Int):=by rw [hpb]; rfl
     have hj30:=pow_b hj.le
     have hlow:¬ u[p].Size < moves[i]:=by rw [hsz]; have:=hj.en; omega
     have hhigh:¬ 2 * moves[i]≤u[p].Size:=by
      rw [hsz]
      cases hjj:j with
      | zero=>rw [Nat.pow_zero]; omega
      | succ j' =>
       rw [pow_dbl]
       have:¬ moves[i]≤((2 ^ j':Nat):Int):=fun hle=>by have:=hj.mi j' hle; omega
       omega
     have hmb:moves[i]≤1073741824:=by rw [hsz] at hlow; omega
     apply loopO_out
     unfold taskmilllaw_BuddyWhole_l1
     dsimp only
     rw [nlt_n,cond_false,ge_n p,lt_n hp,ix_get hp,ge_n i,lt_n hil,ix_get hil,decide_eq_false hlow,wrap_id (x:=2 * moves[i]) (by omega) (by omega),decide_eq_false hhigh,decide_eq_false (show ¬ (p:Int) < 0 by omega)]
     simp only [Bool.not_false,Bool.not_true,Bool.false_or,Bool.true_and,Bool.and_self,Bool.and_true,Bool.or_self,Bool.or_true,Bool.or_false,cond_true,cond_false]
     rw [whole_j2 hk (by omega)]
   ·refine next U F h ?_
    unfold taskmilllaw_BuddyWhole_l3 taskmilllaw_BuddyWhole_j1
    dsimp only
    rw [lt_n hil,ge_n,ix_get hil,decide_eq_true hpos,Bool.and_self,cond_true,cond_true,cond_true,cond_true,hT,Option.bind_some]
    dsimp only
    rw [show (f.Code != 0) = true by rw [bne_iff_ne]; exact hf,cond_true,wrap_n1 _ (by omega)]
  ·by_cases hu:0 < U.length
   ·have hmod:i % U.length < U.length:=Nat.mod_lt _ hu
    have hmem:=List.getElem_mem hmod
    have htm:Int.tmod (i:Int) (U.length:Int) = ((i % U.length:Nat):Int):=by
     rw [Int.tmod_eq_emod_of_nonneg (by omega)]; rfl
    rcases give_eq h (U[i % U.length]).Start with ⟨hno,_⟩ | ⟨b,hb,hbs,hg⟩
    ·exact absurd rfl (hno _ hmem)
    ·have hbi:b = U[i % U.length]:=sorted_start h.su hb hmem hbs
     subst hbi
     obtain ⟨k,m,hk,e⟩:=(h.vu _ hmem).num
     have hg:=hg k m hk e
     have hkeep:=(keep_give h hk (by rw [← e]; exact hmem)).1
     dsimp only at hg hkeep
     rw [← e] at hkeep
     refine next _ _ hkeep ?_
     unfold taskmilllaw_BuddyWhole_l3
     dsimp only
     rw [lt_n hil,ge_n,ix_get hil,decide_eq_false hpos,Bool.and_self,cond_true,cond_true,cond_false,decide_eq_true (show (0:Int) < (U.length:Int) by omega),cond_true,show ((U.length:Int) != 0) = true by rw [bne_iff_ne]; omega,cond_true,htm,ge_n,lt_n hmod,ix_get hmod,Bool.and_self,cond_true,hg,Option.bind_some]
     dsimp only
     rw [show ((0:Int) != 0) = false from rfl,cond_false,whole_j2 hkeep (by omega)]
   ·have hU:U.length = 0:=by omega
    refine next U F h ?_
    unfold taskmilllaw_BuddyWhole_l3
    dsimp only
    rw [lt_n hil,ge_n,ix_get hil,decide_eq_false hpos,Bool.and_self,cond_true,cond_true,cond_false,decide_eq_false (show ¬ (0:Int) < (U.length:Int) by omega),cond_false,whole_j2 h (by omega)]
theorem whole_law (bits:Int) (moves:List Int):taskmilllaw_BuddyWhole bits moves = some true:=by
 unfold taskmilllaw_BuddyWhole
 rw [begun,Option.bind_some,Bool.not_true,cond_false]
 by_cases hb:bits < 0∨20 < bits∨200 < moves.length
 ·rw [show ((decide (bits < 0)) || ((decide ((20:Int) < bits)) || (decide ((200:Int) < (moves.length:Int))))) = true by
   rw [Bool.or_eq_true,Bool.or_eq_true,decide_eq_true_eq,decide_eq_true_eq,decide_eq_true_eq]; omega]
  rfl
 ·rw [show ((decide (bits < 0)) || ((decide ((20:Int) < bits)) || (decide ((200:Int) < (moves.length:Int))))) = false by
   rw [Bool.or_eq_false_iff,Bool.or_eq_false_iff,decide_eq_false_iff_not,decide_eq_false_iff_not,decide_eq_false_iff_not]; omega,cond_false,new_eq,if_neg (by omega),Option.bind_some]
  dsimp only
  obtain ⟨B,rfl⟩:=Int.eq_ofNat_of_zero_le (show 0≤bits by omega)
  rw [show ((0:Int) != 0) = false from rfl,cond_false,show (B:Int).toNat = B from rfl]
  exact whole3 (by omega) rfl moves (by omega) moves.length 0 [] [bk B 0] (by omega) (ok_new (by omega))
end Go.Proofs.Ytpeaimfdeonpgaa
end
