/-
 Lemmas, put together: QA, QB, QC, dictP, dictP2, dictP3, dictP4, dictP5, dictP6, dictP7, dictP8, dictP9, dictP10, dictP11, dictP12, dictP13, dictP14, dictP15, dictP16, dictP17, dictP18, dictP19.
 No conditions.
-/
import Derived.Test.YticigkhhhmiglaadictA3
import Derived.Test.YticigkhhhmiglaadictG
set_option linter.unusedSimpArgs false
set_option linter.unusedVariables false
section
namespace Go.Sx
open Go
set_option linter.unusedVariables false
theorem wrap_id {x:Int} (h1:-9223372036854775808≤x) (h2:x≤9223372036854775807):IntKind.i64.wrap x = x:=by
 simp only [IntKind.wrap,IntKind.bits,IntKind.signed,if_true]
 simp
 omega
theorem wrap_n1 (i:Nat) (h:i < 4611686018427387904):IntKind.i64.wrap ((i:Int) + 1) = ((i + 1:Nat):Int):=by
 rw [wrap_id (by omega) (by omega)]; rfl
theorem loopO_inv {S ρ:Type} {step:S→Option (S ⊕ ρ)} (I:S→Prop) (mu:S→Nat) (Post:ρ→Prop)
  (hs:∀ s,I s→(∃ s',step s = some (.inl s')∧I s'∧mu s' < mu s) ∨ (∃ r,step s = some (.inr r)∧Post r)) {s0:S} (h0:I s0):∃ r,loopO step s0 = some r∧Post r:=by
 have gen:∀ (n:Nat) (s:S),mu s≤n→I s→∃ r,loopO step s = some r∧Post r:=by
  intro n
  induction n with
  | zero =>
   intro s hm hi
   rcases hs s hi with ⟨s',_,_,h3⟩ | ⟨r,h1,h2⟩
   ·omega
   ·exact ⟨r,loopO_inr h1,h2⟩
  | succ n ih =>
   intro s hm hi
   rcases hs s hi with ⟨s',h1,h2,h3⟩ | ⟨r,h1,h2⟩
   ·rw [loopO_inl h1]; exact ih s' (by omega) h2
   ·exact ⟨r,loopO_inr h1,h2⟩
 exact gen _ s0 (Nat.le_refl _) h0
def firstAt {β:Type} (bad:Nat→Option β):Nat→Option β
 | 0=>none
 | n + 1=>(firstAt bad n).or (bad n)
theorem firstAt_none {β:Type} {f:Nat→Option β}:∀ (n:Nat),firstAt f n = none ↔ ∀ i,i < n→f i = none
 | 0=>by simp [firstAt]
 | n + 1=>by
  simp only [firstAt,Option.or_eq_none_iff,firstAt_none n]
  constructor
  ·rintro ⟨h1,h2⟩ i hi
   by_cases h:i = n
   ·subst h; exact h2
   ·exact h1 i (by omega)
  ·exact fun h=>⟨fun i hi=>h i (by omega),h n (by omega)⟩
theorem firstAt_some {β:Type} {f:Nat→Option β} {b:β}:∀ (n:Nat),firstAt f n = some b→∃ i,i < n∧f i = some b∧∀ j,j < i→f j = none
 | 0,h=>by simp [firstAt] at h
 | n + 1,h=>by
  simp only [firstAt] at h
  cases hf:firstAt f n with
  | some c =>
   rw [hf] at h
   obtain ⟨i,h1,h2,h3⟩:=firstAt_some n hf
   simp only [Option.some_or] at h
   exact ⟨i,by omega,by rw [h2,h],h3⟩
  | none =>
   rw [hf] at h
   simp only [Option.none_or] at h
   exact ⟨n,by omega,h,fun j hj=>(firstAt_none n).1 hf j hj⟩
theorem loopO_find {S ρ:Type} {step:S→Option (S ⊕ ρ)} (E:Nat→S) (bad:Nat→Option ρ) (rest:Option ρ) (n:Nat)
  (h1:∀ i,i < n→bad i = none→step (E i) = some (.inl (E (i + 1)))) (h2:∀ i r,i < n→bad i = some r→step (E i) = some (.inr r)) (h3:(∀ i,i < n→bad i = none)→step (E n) = rest.map .inr) :
  loopO step (E 0) = match firstAt bad n with
   | some r=>some r
   | none=>rest:=by
 have walk:∀ k,k≤n→(∀ i,i < k→bad i = none)→loopO step (E 0) = loopO step (E k):=by
  intro k
  induction k with
  | zero=>exact fun _ _=>rfl
  | succ k ih =>
   intro hk hb
   rw [ih (by omega) fun i hi=>hb i (by omega),loopO_inl (h1 k (by omega) (hb k (by omega)))]
 cases hf:firstAt bad n with
 | none =>
  have hb:=(firstAt_none n).1 hf
  rw [walk n (Nat.le_refl _) hb,loopO_out (h3 hb)]
 | some r =>
  obtain ⟨i,g1,g2,g3⟩:=firstAt_some n hf
  rw [walk i (by omega) g3,loopO_inr (h2 i r g1 g2)]
theorem loopO_all {S ρ:Type} {step:S→Option (S ⊕ ρ)} (E:Nat→S) (rest:Option ρ) (n:Nat)
  (h1:∀ i,i < n→step (E i) = some (.inl (E (i + 1)))) (h3:step (E n) = rest.map .inr):loopO step (E 0) = rest:=by
 have:=loopO_find E (fun _=>none) rest n (fun i hi _=>h1 i hi) (fun i r _ h=>by cases h) (fun _=>h3)
 rw [this,(firstAt_none n).2 fun _ _=>rfl]
theorem ix_get {α:Type} [Enc α] {xs:List α} {i:Nat} (h:i < xs.length):ix xs ((i:Nat):Int) = xs[i]:=by
 simp [ix,List.getD_eq_getElem?_getD,h]
theorem cut_take {α:Type} (xs:List α) (i:Nat):cut xs 0 ((i:Nat):Int) = xs.take i:=by simp [cut]
theorem cut_drop {α:Type} (xs:List α) (i:Nat):cut xs ((i:Nat):Int) ((xs.length:Nat):Int) = xs.drop i:=by
 simp only [cut,Int.toNat_natCast]
 rw [List.take_of_length_le]; simp
theorem miGet_set (m:List (Int × Int)) (a v k:Int):miGet (miSet m a v) k = if k = a then v else miGet m k:=by
 induction m with
 | nil =>
  by_cases h:k = a
  ·subst h; simp [miSet,miGet]
  ·simp [miSet,miGet,h]
 | cons p r ih =>
  simp only [miSet]
  cases ha:(a == p.1) with
  | true =>
   have:a = p.1:=by simpa using ha
   subst this
   by_cases h:k = p.1
   ·subst h; simp [miGet]
   ·simp [miGet,h]
  | false =>
   have hap:a ≠ p.1:=by simpa using ha
   simp only [cond_false]
   by_cases h:k = p.1
   ·subst h
    rw [if_neg (fun e=>hap e.symm)]
    simp [miGet]
   ·have e:∀ (m:List (Int × Int)),miGet (p :: m) k = miGet m k:=fun m=>by
     simp [miGet,List.find?_cons,show (k == p.1) = false from by simpa using h]
    rw [e,e,ih]
def firstIf (p:Nat→Bool) (n:Nat):Option Nat:=firstAt (fun i=>bif p i then some i else none) n
theorem firstIf_none {p:Nat→Bool} {n:Nat}:firstIf p n = none ↔ ∀ i,i < n→p i = false:=by
 unfold firstIf
 rw [firstAt_none]
 constructor
 ·intro h i hi
  have:=h i hi
  cases hp:p i with
  | false=>rfl
  | true=>rw [hp] at this; cases this
 ·intro h i hi
  rw [h i hi]; rfl
theorem firstIf_some {p:Nat→Bool} {n i:Nat} (h:firstIf p n = some i):i < n∧p i = true∧∀ j,j < i→p j = false:=by
 obtain ⟨k,h1,h2,h3⟩:=firstAt_some _ h
 cases hp:p k with
 | false=>rw [hp] at h2; cases h2
 | true =>
  rw [hp] at h2; cases h2
  refine ⟨h1,hp,fun j hj=>?_⟩
  have:=h3 j hj
  cases hq:p j with
  | false=>rfl
  | true=>rw [hq] at this; cases this
theorem loopO_if {S ρ:Type} {step:S→Option (S ⊕ ρ)} (E:Nat→S) (p:Nat→Bool) (R:Nat→Option ρ) (rest:Option ρ) (n:Nat)
  (h1:∀ i,i < n→p i = false→step (E i) = some (.inl (E (i + 1)))) (h2:∀ i,i < n→p i = true→step (E i) = (R i).map .inr) (h3:(∀ i,i < n→p i = false)→step (E n) = rest.map .inr) :
  loopO step (E 0) = match firstIf p n with
   | some i=>R i
   | none=>rest:=by
 have walk:∀ k,k≤n→(∀ i,i < k→p i = false)→loopO step (E 0) = loopO step (E k):=by
  intro k
  induction k with
  | zero=>exact fun _ _=>rfl
  | succ k ih =>
   intro hk hb
   rw [ih (by omega) fun i hi=>hb i (by omega),loopO_inl (h1 k (by omega) (hb k (by omega)))]
 cases hf:firstIf p n with
 | none =>
  have hb:=firstIf_none.1 hf
  rw [walk n (Nat.le_refl _) hb,loopO_out (h3 hb)]
 | some i =>
  obtain ⟨g1,g2,g3⟩:=firstIf_some hf
  rw [walk i (by omega) g3,loopO_out (h2 i g1 g2)]
end Go.Sx
end

section
namespace Go.Sx
variable {α:Type}
def delAt (l:List α) (i j:Nat):List α:=l.take i ++ l.drop j
theorem del_lists [Inhabited α] (l:List α) (i j:Nat) (hi:i≤j) (hj:j≤l.length) (a:Int) (ha:a = ((i + (l.length - j):Nat):Int)) :
  cut (wipe (putL l (cut l (j:Int) ((l.length:Nat):Int)) ((i:Int)).toNat) a ((l.length:Nat):Int)) 0 ((i:Int) + (((cut l (j:Int) ((l.length:Nat):Int)).length:Nat):Int)) = delAt l i j:=by
 subst ha
 rw [cut_drop]
 have e:((i:Int) + (((l.drop j).length:Nat):Int)) = ((i + (l.length - j):Nat):Int):=by simp
 rw [e,cut_take,wipe,putL]
 simp only [Int.toNat_natCast]
 rw [List.append_assoc,List.take_append_of_le_length (by simp [putL]; omega),List.take_of_length_le (by simp; omega)]
 unfold putL delAt
 rw [List.take_append_of_le_length (by simp; omega),List.take_of_length_le (by simp; omega)]
end Go.Sx
end

section
namespace Go.Sx
def toldOr {S ρ:Type} (o:Option ρ) (s:S):Option (S ⊕ ρ):=match o with
 | some r=>some (.inr r)
 | none=>some (.inl s)
@[simp] theorem toldOr_some {S ρ:Type} (r:ρ) (s:S):toldOr (some r) s = some (.inr r):=rfl
@[simp] theorem toldOr_none {S ρ:Type} (s:S):toldOr (none:Option ρ) s = some (.inl s):=rfl
theorem pairwise_next {α:Type} (R:α→α→Prop) (ht:∀ a b c,R a b→R b c→R a c) (l:List α):l.Pairwise R ↔ ∀ i (h:i + 1 < l.length),R l[i] l[i + 1]:=by
 rw [List.pairwise_iff_getElem]
 constructor
 ·exact fun h i hi=>h i (i + 1) (by omega) hi (by omega)
 ·intro h i j hi hj hij
  have gen:∀ d (hd:i + d + 1 < l.length),R l[i] l[i + d + 1]:=by
   intro d
   induction d with
   | zero=>exact fun hd=>h i hd
   | succ d ih =>
    intro hd
    exact ht _ _ _ (ih (by omega)) (h (i + d + 1) hd)
  have:=gen (j - i - 1) (by omega)
  have e:i + (j - i - 1) + 1 = j:=by omega
  simpa only [e] using this
theorem mid_eq (i j:Nat) (h:i + j < 4611686018427387904):IntKind.i64.wrap (Int.fdiv (IntKind.u64.wrap (IntKind.i64.wrap ((i:Int) + (j:Int)))) (2 ^ (min ((1:Int)).toNat (IntKind.u64).bits))) = (((i + j) / 2:Nat):Int):=by
 rw [wrap_id (x:=(i:Int) + j) (by omega) (by omega)]
 have e:IntKind.u64.wrap ((i:Int) + j) = (i:Int) + j:=by
  simp only [IntKind.wrap,IntKind.bits,IntKind.signed]
  simp
  omega
 rw [e,show (2:Int) ^ (min ((1:Int)).toNat (IntKind.u64).bits) = 2 from rfl,Int.fdiv_eq_ediv_of_nonneg _ (by omega)]
 rw [wrap_id (by omega) (by omega)]
 omega
theorem bs_gen {ρ:Type} {step:Int × Int→Option ((Int × Int) ⊕ ρ)} (n:Nat) (lt:Nat→Bool) (R:Nat→Option ρ) (hm:∀ a b,a < b→b < n→lt b = true→lt a = true)
  (h1:∀ i j:Nat,i < j→j≤n→step ((i:Int),(j:Int)) = if lt ((i + j) / 2) then some (.inl ((((i + j) / 2 + 1:Nat):Int),(j:Int))) else some (.inl ((i:Int),(((i + j) / 2:Nat):Int))))
  (h2:∀ i:Nat,i≤n→(∀ k,k < i→lt k = true)→(∀ k,i≤k→k < n→lt k = false)→step ((i:Int),(i:Int)) = (R i).map .inr) :
  ∃ i,i≤n∧(∀ k,k < i→lt k = true)∧(∀ k,i≤k→k < n→lt k = false)∧loopO step (0,(n:Int)) = R i:=by
 have gen:∀ (d i j:Nat),j - i≤d→i≤j→j≤n→(∀ k,k < i→lt k = true)→(∀ k,j≤k→k < n→lt k = false) →
   ∃ q,q≤n∧(∀ k,k < q→lt k = true)∧(∀ k,q≤k→k < n→lt k = false)∧loopO step ((i:Int),(j:Int)) = R q:=by
  intro d
  induction d with
  | zero =>
   intro i j hd hij hj ha hb
   have:i = j:=by omega
   subst this
   exact ⟨i,hj,ha,hb,loopO_out (h2 i hj ha hb)⟩
  | succ d ih =>
   intro i j hd hij hj ha hb
   by_cases he:i = j
   ·subst he
    exact ⟨i,hj,ha,hb,loopO_out (h2 i hj ha hb)⟩
   ·have hs:=h1 i j (by omega) hj
    have hmid:i≤(i + j) / 2∧(i + j) / 2 < j:=by omega
    cases hl:lt ((i + j) / 2) with
    | true =>
     rw [hl,if_pos rfl] at hs
     rw [loopO_inl hs]
     refine ih _ j (by omega) (by omega) hj (fun k hk=>?_) hb
     by_cases hk2:k = (i + j) / 2
     ·rw [hk2]; exact hl
     ·exact hm k ((i + j) / 2) (by omega) (by omega) hl
    | false =>
     rw [hl,if_neg (by simp)] at hs
     rw [loopO_inl hs]
     refine ih i _ (by omega) (by omega) (by omega) ha (fun k hk hkn=>?_)
     cases hk3:lt k with
     | false=>rfl
     | true =>
      by_cases hk2:k = (i + j) / 2
      ·rw [hk2,hl] at hk3; cases hk3
      ·have:=hm ((i + j) / 2) k (by omega) hkn hk3
       rw [hl] at this; cases this
 exact gen n 0 n (by omega) (Nat.zero_le _) (Nat.le_refl _) (fun k hk=>absurd hk (Nat.not_lt_zero k)) (fun k hk hkn=>by omega)
end Go.Sx
end

section
namespace Go.Proofs.Yticigkhhhmiglaa
open Go Go.Sx
set_option linter.unusedVariables false
set_option linter.unusedSimpArgs false
theorem lt_n {i n:Nat} (h:i < n):decide ((i:Int) < (n:Int)) = true:=by simp; omega
theorem nlt_n (n:Nat):decide ((n:Int) < (n:Int)) = false:=by simp
theorem ge_n (i:Nat):decide ((0:Int)≤(i:Int)) = true:=by simp
theorem p2_le {b c:Nat} (h:b≤c):(2:Int) ^ b≤2 ^ c:=by
 have:=Nat.pow_le_pow_right (n:=2) (by omega) h
 exact_mod_cast this
theorem p2_pos (b:Nat):(0:Int) < 2 ^ b:=by
 have:=Nat.pow_pos (n:=b) (show 0 < 2 by omega)
 exact_mod_cast this
theorem bits_toNat (key:Int):(BitVec.ofInt 64 key).toNat = (key % 2 ^ 64).toNat:=by rw [BitVec.toNat_ofInt]; rfl
theorem mod_low (key:Int) (b:Nat) (hb:b≤64):(((key % 2 ^ 64).toNat % 2 ^ b:Nat):Int) = key % 2 ^ b:=by
 have h64:(0:Int)≤key % 2 ^ 64:=Int.emod_nonneg _ (by decide)
 rw [Int.natCast_emod,Int.toNat_of_nonneg h64]
 have:((2 ^ b:Nat):Int) = (2:Int) ^ b:=by push_cast; try rfl
 rw [this]
 refine Int.emod_emod_of_dvd _ ?_
 have h:=Nat.pow_dvd_pow 2 hb
 exact_mod_cast (Int.natCast_dvd_natCast.2 h)
theorem sh_eq (b:Nat) (hb:b≤40):IntKind.i64.wrap ((1:Int) * 2 ^ (min ((b:Nat):Int).toNat (IntKind.i64).bits)) = 2 ^ b:=by
 have e:min ((b:Nat):Int).toNat (IntKind.i64).bits = b:=by
  show min b 64 = b; omega
 have h1:=p2_le hb
 have h2:=p2_pos b
 have h40:(2:Int) ^ 40 = 1099511627776:=by decide
 rw [e,Int.one_mul,wrap_id (by omega) (by omega)]
theorem last_eq (key:Int) (b:Nat) (hb:b≤40):dict_last key (b:Int) = some (key % 2 ^ b):=by
 have h1:=p2_le hb
 have h2:=p2_pos b
 have h40:(2:Int) ^ 40 = 1099511627776:=by decide
 unfold dict_last
 rw [ge_n,cond_true,sh_eq b hb,wrap_id (x:=(2:Int) ^ b - 1) (by omega) (by omega)]
 have hm:(BitVec.ofInt (IntKind.i64).bits key &&& BitVec.ofInt (IntKind.i64).bits ((2:Int) ^ b - 1)).toNat = (key % 2 ^ 64).toNat % 2 ^ b:=by
  show (BitVec.ofInt 64 key &&& BitVec.ofInt 64 ((2:Int) ^ b - 1)).toNat = _
  rw [BitVec.toNat_and,bits_toNat,bits_toNat]
  have e:(((2:Int) ^ b - 1) % 2 ^ 64).toNat = 2 ^ b - 1:=by
   have h64:(2:Int) ^ 64 = 18446744073709551616:=by decide
   rw [Int.emod_eq_of_lt (by omega) (by omega)]
   have:((2 ^ b:Nat):Int) = (2:Int) ^ b:=by push_cast; try rfl
   omega
  rw [e,Nat.and_two_pow_sub_one_eq_mod]
 rw [hm,mod_low key b (by omega)]
 have h3:=Int.emod_nonneg key (show (2:Int) ^ b ≠ 0 by omega)
 have h4:=Int.emod_lt_of_pos key h2
 rw [wrap_id (by omega) (by omega)]
def bitN (key:Int) (b:Nat):Bool:=decide (key % 2 ^ (b + 1) ≠ key % 2 ^ b)
theorem mod_succ (key:Int) (b:Nat) (hb:b≤40):key % 2 ^ (b + 1) = key % 2 ^ b + (bif bitN key b then 2 ^ b else 0):=by
 have e1:=mod_low key (b + 1) (by omega)
 have e2:=mod_low key b (by omega)
 have h:=Nat.mod_pow_succ (x:=(key % 2 ^ 64).toNat) (b:=2) (k:=b)
 have hp:((2 ^ b:Nat):Int) = (2:Int) ^ b:=by push_cast; try rfl
 have hpos:=p2_pos b
 have hr:(key % 2 ^ 64).toNat / 2 ^ b % 2 = 0 ∨ (key % 2 ^ 64).toNat / 2 ^ b % 2 = 1:=by omega
 unfold bitN
 rcases hr with hr | hr
 ·rw [hr,Nat.mul_zero,Nat.add_zero] at h
  have:key % 2 ^ (b + 1) = key % 2 ^ b:=by rw [← e1,← e2,h]; rfl
  rw [decide_eq_false (by simp [this]),this]; simp
 ·rw [hr,Nat.mul_one] at h
  have:key % 2 ^ (b + 1) = key % 2 ^ b + 2 ^ b:=by rw [← e1,← e2,h]; push_cast; try rfl
  rw [decide_eq_true (by omega),this]; rfl
theorem and_p2 (x b:Nat):x &&& 2 ^ b = (x.testBit b).toNat * 2 ^ b:=by
 refine Nat.eq_of_testBit_eq fun i=>?_
 rw [Nat.testBit_and,Nat.testBit_two_pow]
 cases h:x.testBit b with
 | true =>
  rw [show true.toNat = 1 from rfl,Nat.one_mul,Nat.testBit_two_pow]
  by_cases e:b = i
  ·subst e; simp [h]
  ·simp [e]
 | false =>
  rw [show false.toNat = 0 from rfl,Nat.zero_mul,Nat.zero_testBit]
  by_cases e:b = i
  ·subst e; simp [h]
  ·simp [e]
theorem bit_eq (key:Int) (b:Nat) (hb:b≤40):(IntKind.i64.wrap (((BitVec.ofInt (IntKind.i64).bits key &&& BitVec.ofInt (IntKind.i64).bits (IntKind.i64.wrap ((1:Int) * 2 ^ (min ((b:Nat):Int).toNat (IntKind.i64).bits)))).toNat:Nat):Int)) = bif bitN key b then 2 ^ b else 0:=by
 have h1:=p2_le hb
 have h2:=p2_pos b
 have h40:(2:Int) ^ 40 = 1099511627776:=by decide
 have hp:((2 ^ b:Nat):Int) = (2:Int) ^ b:=by push_cast; try rfl
 rw [sh_eq b hb]
 have hm:(BitVec.ofInt (IntKind.i64).bits key &&& BitVec.ofInt (IntKind.i64).bits ((2:Int) ^ b)).toNat = ((key % 2 ^ 64).toNat.testBit b).toNat * 2 ^ b:=by
  show (BitVec.ofInt 64 key &&& BitVec.ofInt 64 ((2:Int) ^ b)).toNat = _
  rw [BitVec.toNat_and,bits_toNat,bits_toNat]
  have e:(((2:Int) ^ b) % 2 ^ 64).toNat = 2 ^ b:=by
   have h64:(2:Int) ^ 64 = 18446744073709551616:=by decide
   rw [Int.emod_eq_of_lt (by omega) (by omega)]; omega
  rw [e,and_p2]
 have ht:(key % 2 ^ 64).toNat.testBit b = bitN key b:=by
  have e1:=mod_low key (b + 1) (by omega)
  have e2:=mod_low key b (by omega)
  have h:=Nat.mod_pow_succ (x:=(key % 2 ^ 64).toNat) (b:=2) (k:=b)
  have hr:(key % 2 ^ 64).toNat / 2 ^ b % 2 = 0 ∨ (key % 2 ^ 64).toNat / 2 ^ b % 2 = 1:=by omega
  rw [Nat.testBit_eq_decide_div_mod_eq]
  unfold bitN
  rcases hr with hr | hr
  ·rw [hr,Nat.mul_zero,Nat.add_zero] at h
   have:key % 2 ^ (b + 1) = key % 2 ^ b:=by rw [← e1,← e2,h]; rfl
   rw [hr]; simp [this]
  ·rw [hr,Nat.mul_one] at h
   have:key % 2 ^ (b + 1) = key % 2 ^ b + 2 ^ b:=by rw [← e1,← e2,h]; push_cast; try rfl
   rw [hr,decide_eq_true rfl,decide_eq_true (by omega)]
 rw [hm,ht]
 cases bitN key b with
 | true=>rw [show ((true.toNat * 2 ^ b:Nat):Int) = 2 ^ b from by rw [show true.toNat = 1 from rfl,Nat.one_mul,hp],cond_true,wrap_id (by omega) (by omega)]
 | false=>rw [show ((false.toNat * 2 ^ b:Nat):Int) = 0 from by rw [show false.toNat = 0 from rfl,Nat.zero_mul]; rfl,cond_false]; rfl
theorem clone_eq (s:List Int) (h:s.length≤1000000):slices_Clone_int s = some s:=by
 have:s.length * 8≤140737488355328:=by omega
 simp [slices_Clone_int,this]
theorem cloneI_eq (s:List GItem) (h:s.length≤1000000):slices_Clone_Item s = some s:=by
 have:s.length * 16≤140737488355328:=by omega
 simp [slices_Clone_Item,this]
structure Sz (P:List Int) (B:List Bucket):Prop where
 p:P.length≤1000000
 b:B.length≤1000000
 i:∀ b ∈ B,b.Items.length≤1000000
theorem copied_eq (d:Dict) (hs:Sz d.Places d.Buckets):dict_copied d = some (d.Depth,d.Places,d.Buckets):=by
 unfold dict_copied
 rw [clone_eq _ hs.p,Option.bind_some]
 have hb:=hs.b
 refine Eq.trans ?_ (loopO_all (step:=dict_copied_l1 d) (fun i=>(((i:Nat):Int),d.Places,d.Buckets.take i)) (some (d.Depth,d.Places,d.Buckets)) d.Buckets.length (fun i hi=>?_) ?_)
 ·rfl
 ·unfold dict_copied_l1
  dsimp only
  have e:d.Buckets.take i ++ [d.Buckets[i]] = d.Buckets.take (i + 1):=by rw [List.take_succ_eq_append_getElem hi]
  have hbb:decide ((d.Buckets.take (i + 1)).length * 32≤140737488355328) = true:=by rw [decide_eq_true_eq,List.length_take]; omega
  rw [lt_n hi,ge_n,ix_get hi,cloneI_eq _ (hs.i _ (List.getElem_mem hi)),wrap_n1 i (by omega)]
  simp only [Bool.and_self,cond_true,Option.bind_some,e,hbb]
 ·unfold dict_copied_l1
  dsimp only
  rw [nlt_n,List.take_length]; rfl
def ordK (a b:Int):Int:=if a < b then -1 else if b < a then 1 else 0
theorem byKey_eq (a b:GItem):dict_byKey a b = some (ordK a.Key b.Key):=by
 unfold dict_byKey cmp_Compare_int cmp_isNaN_int ordK
 by_cases h1:a.Key < b.Key
 ·simp [h1]
 ·by_cases h2:b.Key < a.Key <;> simp [h1,h2]
def keysOf (l:List GItem):List Int:=l.map (·.Key)
def Rise (l:List GItem):Prop:=(keysOf l).Pairwise (· < ·)
def sear (l:List GItem) (k:Int):Nat:=(l.filter fun x=>decide (x.Key < k)).length
theorem sear_le (l:List GItem) (k:Int):sear l k≤l.length:=List.length_filter_le ..
theorem sear_of {l:List GItem} {k:Int} {i:Nat} (hi:i≤l.length) (h1:∀ q (hq:q < l.length),q < i→l[q].Key < k) (h2:∀ q (hq:q < l.length),i≤q→¬ l[q].Key < k):sear l k = i:=by
 unfold sear
 have e:l = l.take i ++ l.drop i:=(List.take_append_drop i l).symm
 rw [e,List.filter_append,List.filter_eq_self.2 fun x hx=>?_,List.filter_eq_nil_iff.2 fun x hx=>?_]
 ·simp; omega
 ·obtain ⟨q,hq,rfl⟩:=List.getElem_of_mem hx
  rw [List.getElem_drop]
  have:=h2 (i + q) (by simp at hq; omega) (by omega)
  simpa using this
 ·obtain ⟨q,hq,rfl⟩:=List.mem_take_iff_getElem.1 hx
  have:=h1 q (by omega) (by omega)
  simpa using this
theorem bs_eq (l:List GItem) (k v:Int) (hr:Rise l) (hl:l.length≤1000000):slices_BinarySearchFunc_Item l ⟨k,v⟩ = some ((sear l k:Int),decide (k ∈ keysOf l))∧(∀ q (hq:q < l.length),q < sear l k→l[q].Key < k)∧∀ q (hq:q < l.length),sear l k≤q→k≤l[q].Key:=by
 have hmono:∀ a b (ha:a < l.length) (hb:b < l.length),a < b→l[a].Key < l[b].Key:=fun a b ha hb hab=>by
  have:=List.pairwise_iff_getElem.1 hr a b (by simpa [keysOf] using ha) (by simpa [keysOf] using hb) hab
  simpa [keysOf] using this
 have hb:=bs_gen (step:=slices_BinarySearchFunc_Item_l1 l ⟨k,v⟩) l.length (fun i=>match l[i]? with | some x=>decide (x.Key < k) | none=>false) (fun i=>some ((i:Int),decide (i < l.length∧(l[i]?.map (·.Key)) = some k))) (fun a b hab hbl h=>?_) (fun i j hij hj=>?_) (fun i hi _ _=>?_)
 ·obtain ⟨i,hi,g1,g2,g3⟩:=hb
  have f1:∀ q (hq:q < l.length),q < i→l[q].Key < k:=fun q hq hqi=>by
   have:=g1 q hqi
   rw [List.getElem?_eq_getElem hq] at this
   simpa using this
  have f2:∀ q (hq:q < l.length),i≤q→k≤l[q].Key:=fun q hq hqi=>by
   have:=g2 q hqi hq
   rw [List.getElem?_eq_getElem hq] at this
   simpa using this
  have hs:sear l k = i:=sear_of hi f1 fun q hq hqi=>by have:=f2 q hq hqi; omega
  rw [hs]
  refine ⟨?_,f1,f2⟩
  unfold slices_BinarySearchFunc_Item
  rw [g3]
  congr 2
  rw [Bool.eq_iff_iff,decide_eq_true_eq,decide_eq_true_eq]
  constructor
  ·rintro ⟨h1,h2⟩
   rw [List.getElem?_eq_getElem h1] at h2
   simp only [Option.map_some,Option.some.injEq] at h2
   exact List.mem_map.2 ⟨l[i],List.getElem_mem h1,h2⟩
  ·intro hm
   obtain ⟨x,hx,hxk⟩:=List.mem_map.1 hm
   obtain ⟨q,hq,rfl⟩:=List.getElem_of_mem hx
   have hqi:¬ q < i:=fun h=>by have:=f1 q hq h; omega
   have hil:i < l.length:=by omega
   have:i = q:=by
    by_cases e:i = q
    ·exact e
    ·have a1:=hmono i q hil hq (by omega)
     have a2:=f2 i hil (Nat.le_refl _)
     omega
   subst this
   exact ⟨hil,by rw [List.getElem?_eq_getElem hil]; simpa using hxk⟩
 ·have ha:a < l.length:=by omega
  rw [List.getElem?_eq_getElem hbl] at h
  rw [List.getElem?_eq_getElem ha]
  simp only [decide_eq_true_eq] at h ⊢
  have:=hmono a b ha hbl hab
  omega
 ·unfold slices_BinarySearchFunc_Item_l1
  dsimp only
  have hm:(i + j) / 2 < l.length:=by omega
  rw [show decide ((i:Int) < (j:Int)) = true from by simp; omega,cond_true,mid_eq i j (by omega),lt_n hm,ge_n,ix_get hm,byKey_eq,List.getElem?_eq_getElem hm,wrap_n1 _ (by omega)]
  simp only [Bool.and_self,cond_true,Option.bind_some]
  unfold ordK
  by_cases h:l[(i + j) / 2].Key < k
  ·simp [h]
  ·by_cases h':k < l[(i + j) / 2].Key <;> simp [h,h']
 ·unfold slices_BinarySearchFunc_Item_l1 slices_BinarySearchFunc_Item_j1
  dsimp only
  rw [show decide ((i:Int) < (i:Int)) = false from by simp,cond_false]
  by_cases hil:i < l.length
  ·rw [lt_n hil,ge_n,ix_get hil,byKey_eq,List.getElem?_eq_getElem hil]
   simp only [Bool.and_self,cond_true,Option.bind_some,Option.map_some,Option.some.injEq]
   unfold ordK
   by_cases h:l[i].Key < k
   ·have:l[i].Key ≠ k:=by omega
    simp [h,this,hil]
   ·by_cases h':k < l[i].Key
    ·have:l[i].Key ≠ k:=by omega
     simp [h,h',this,hil]
    ·have:l[i].Key = k:=by omega
     simp [h,h',this,hil]
  ·rw [show decide ((i:Int) < ((l.length:Nat):Int)) = false from by simp; omega]
   simp [hil]
end Go.Proofs.Yticigkhhhmiglaa
end

section
namespace Go.Proofs.Yticigkhhhmiglaa
open Go Go.Sx
set_option linter.unusedVariables false
set_option linter.unusedSimpArgs false
def dep (B:List Bucket) (n:Int):Nat:=(ix B n).Depth.toNat
structure Mid (D:Nat) (P:List Int) (B:List Bucket):Prop where
 d12:D≤12
 plen:P.length = 2 ^ D
 rng:∀ i:Nat,i < 2 ^ D→0≤ix P (i:Int)∧ix P (i:Int) < (B.length:Int)
 dn:∀ b ∈ B,0≤b.Depth∧b.Depth≤(D:Int)
 same:∀ i j:Nat,i < 2 ^ D→j < 2 ^ D→(ix P (j:Int) = ix P (i:Int) ↔ (j:Int) % 2 ^ dep B (ix P (i:Int)) = (i:Int) % 2 ^ dep B (ix P (i:Int)))
 onto:∀ n:Int,0≤n→n < (B.length:Int)→∃ i:Nat,i < 2 ^ D∧ix P (i:Int) = n
 rise:∀ b ∈ B,Rise b.Items
 home:∀ i:Nat,i < 2 ^ D→∀ x ∈ (ix B (ix P (i:Int))).Items,x.Key % 2 ^ dep B (ix P (i:Int)) = (i:Int) % 2 ^ dep B (ix P (i:Int))
 cap:∀ b ∈ B,b.Items.length≤5000
def Num (P:List Int):Prop:=∀ i:Nat,i < P.length→∀ m:Int,0≤m→m < ix P (i:Int)→∃ j:Nat,j < i∧ix P (j:Int) = m
def Full (D:Nat) (B:List Bucket):Prop:=0 < D→∃ b ∈ B,b.Depth = (D:Int)
def Few (B:List Bucket):Prop:=∀ b ∈ B,b.Items.length≤4 ∨ b.Depth = 12
theorem ix_mem {α:Type} [Enc α] {l:List α} {j:Int} (hj:0≤j∧j < (l.length:Int)):ix l j ∈ l:=by
 have:ix l ((j.toNat:Nat):Int) = l[j.toNat]'(by omega):=ix_get (by omega)
 rw [show ((j.toNat:Nat):Int) = j from by omega] at this
 rw [this]; exact List.getElem_mem _
theorem pow12 {D:Nat} (h:D≤12):2 ^ D≤4096:=by
 have:=Nat.pow_le_pow_right (n:=2) (by omega) h
 exact this
theorem Mid.blen {D:Nat} {P:List Int} {B:List Bucket} (h:Mid D P B):B.length≤2 ^ D:=by
 have key:∀ n:Nat,n≤B.length→∃ f:Nat→Nat,(∀ k,k < n→f k < 2 ^ D∧ix P (f k:Int) = (k:Int)):=fun n hn=>by
  refine ⟨fun k=>if h':k < B.length then (h.onto (k:Int) (by omega) (by omega)).choose else 0,fun k hk=>?_⟩
  have hk':k < B.length:=by omega
  simp only [hk',dif_pos]
  exact (h.onto (k:Int) (by omega) (by omega)).choose_spec
 obtain ⟨f,hf⟩:=key B.length (Nat.le_refl _)
 -- different buckets lie at different places
 have hnd:((List.range B.length).map f).Nodup:=by
  rw [List.nodup_iff_pairwise_ne,List.pairwise_map]
  refine (List.pairwise_iff_forall_sublist).2 fun {a b} hab=>?_
  have hm:a ∈ List.range B.length∧b ∈ List.range B.length:=⟨hab.subset (by simp),hab.subset (by simp)⟩
  have hne:a ≠ b:=by
   have:=(List.nodup_iff_pairwise_ne.1 List.nodup_range).sublist hab
   simpa using this
  intro he
  have h1:=(hf a (List.mem_range.1 hm.1)).2
  have h2:=(hf b (List.mem_range.1 hm.2)).2
  rw [he] at h1
  rw [h1] at h2
  omega
 have hsub:(List.range B.length).map f ⊆ List.range (2 ^ D):=fun x hx=>by
  obtain ⟨k,hk,rfl⟩:=List.mem_map.1 hx
  exact List.mem_range.2 (hf k (List.mem_range.1 hk)).1
 have:=hnd.length_le_of_subset hsub
 simpa using this
theorem Mid.sz {D:Nat} {P:List Int} {B:List Bucket} (h:Mid D P B):Sz P B:=by
 have h1:=pow12 h.d12
 have h2:=h.blen
 have h3:=h.plen
 exact ⟨by omega,by omega,fun b hb=>by have:=h.cap b hb; omega⟩
theorem Mid.dep_eq {D:Nat} {P:List Int} {B:List Bucket} (h:Mid D P B) {n:Int} (h0:0≤n) (h1:n < (B.length:Int)):(ix B n).Depth = (dep B n:Int)∧dep B n≤D:=by
 have:=h.dn _ (ix_mem ⟨h0,h1⟩)
 unfold dep
 omega
theorem index_eq (s:List Int) (v:Int) (hs:s.length≤1000000) (h:∃ i:Nat,i < s.length∧ix s (i:Int) = v):∃ i:Nat,i < s.length∧ix s (i:Int) = v∧slices_Index_int s v = some (i:Int):=by
 unfold slices_Index_int
 have:=loopO_if (step:=slices_Index_int_l1 s v) (fun i=>((i:Nat):Int)) (fun i=>decide (v = ix s (i:Int))) (fun i=>some (i:Int)) (some (-1)) s.length (fun i hi hp=>?_) (fun i hi hp=>?_) (fun _=>?_)
 ·rw [show ((0:Nat):Int) = 0 from rfl] at this
  rw [this]
  cases hf:firstIf (fun i=>decide (v = ix s (i:Int))) s.length with
  | some i =>
   obtain ⟨g1,g2,_⟩:=firstIf_some hf
   simp only [decide_eq_true_eq] at g2
   exact ⟨i,g1,g2.symm,rfl⟩
  | none =>
   obtain ⟨i,hi,he⟩:=h
   have:=firstIf_none.1 hf i hi
   simp [he] at this
 ·unfold slices_Index_int_l1
  simp only [decide_eq_false_iff_not] at hp
  rw [lt_n hi,ge_n,wrap_n1 i (by omega),show (v == ix s (i:Int)) = false from by simpa using hp]
  rfl
 ·unfold slices_Index_int_l1
  simp only [decide_eq_true_eq] at hp
  rw [lt_n hi,ge_n]
  simp [hp]
 ·unfold slices_Index_int_l1
  rw [nlt_n]; rfl
theorem contains_eq (B:List Bucket) (d:Dict) (hB:B.length≤1000000) (h:∃ b ∈ B,b.Depth = d.Depth):slices_ContainsFunc_Bucket B d = some true:=by
 unfold slices_ContainsFunc_Bucket slices_IndexFunc_Bucket
 have:=loopO_if (step:=slices_IndexFunc_Bucket_l1 B d) (fun i=>((i:Nat):Int)) (fun i=>decide ((ix B (i:Int)).Depth = d.Depth)) (fun i=>some (i:Int)) (some (-1)) B.length (fun i hi hp=>?_) (fun i hi hp=>?_) (fun _=>?_)
 ·rw [show ((0:Nat):Int) = 0 from rfl] at this
  rw [this]
  cases hf:firstIf (fun i=>decide ((ix B (i:Int)).Depth = d.Depth)) B.length with
  | some i=>simp
  | none =>
   obtain ⟨b,hb,he⟩:=h
   obtain ⟨i,hi,rfl⟩:=List.getElem_of_mem hb
   have:=firstIf_none.1 hf i hi
   rw [ix_get hi] at this
   simp [he] at this
 ·unfold slices_IndexFunc_Bucket_l1 dict_Check_1
  simp only [decide_eq_false_iff_not] at hp
  rw [lt_n hi,ge_n,wrap_n1 i (by omega),show ((ix B (i:Int)).Depth == d.Depth) = false from by simpa using hp]
  rfl
 ·unfold slices_IndexFunc_Bucket_l1 dict_Check_1
  simp only [decide_eq_true_eq] at hp
  rw [lt_n hi,ge_n]
  simp [hp]
 ·unfold slices_IndexFunc_Bucket_l1
  rw [nlt_n]; rfl
theorem check_items {D:Nat} {P:List Int} {B:List Bucket} (h:Mid D P B) (n f:Nat) (hn:n < B.length) (hf:f < 2 ^ D) (he:ix P (f:Int) = (n:Int)):loopO (dict_Check_l1 ⟨(D:Int),P,B⟩ (n:Int) (f:Int)) 0 = some (.inl (((n + 1:Nat):Int))):=by
 have hb:=h.blen
 have h12:=pow12 h.d12
 have hm:ix B (n:Int) ∈ B:=ix_mem ⟨by omega,by omega⟩
 have hcap:=h.cap _ hm
 have hrise:=h.rise _ hm
 have hhome:=h.home f hf
 rw [he] at hhome
 obtain ⟨hd,hdD⟩:=h.dep_eq (n:=(n:Int)) (by omega) (by omega)
 have hd12:=h.d12
 have:=loopO_all (step:=dict_Check_l1 ⟨(D:Int),P,B⟩ (n:Int) (f:Int)) (fun i=>((i:Nat):Int)) (some (.inl (((n + 1:Nat):Int)))) (ix B (n:Int)).Items.length (fun i hi=>?_) ?_
 ·exact this
 ·unfold dict_Check_l1
  dsimp only
  rw [lt_n hi,ge_n,ix_get hi,hd,last_eq _ _ (by omega),last_eq _ _ (by omega),hhome _ (List.getElem_mem hi),wrap_n1 i (by omega)]
  simp only [Bool.and_self,cond_true,Option.bind_some,bne_self_eq_false,cond_false]
  cases i with
  | zero=>simp
  | succ i =>
   have hi':i < (ix B (n:Int)).Items.length:=by omega
   rw [show IntKind.i64.wrap (((i + 1:Nat):Int) - 1) = (i:Int) from by rw [wrap_id (by omega) (by omega)]; omega,lt_n hi',ge_n,ix_get hi']
   have hr:=List.pairwise_iff_getElem.1 hrise i (i + 1) (by simpa [keysOf] using hi') (by simpa [keysOf] using hi) (by omega)
   simp only [keysOf,List.getElem_map] at hr
   rw [show decide ((ix B (n:Int)).Items[i + 1].Key≤(ix B (n:Int)).Items[i].Key) = false from by simp; omega]
   simp
 ·unfold dict_Check_l1
  dsimp only
  rw [nlt_n,show decide ((5000:Int) < (((ix B (n:Int)).Items.length:Nat):Int)) = false from by simp; omega,wrap_n1 n (by omega)]
  rfl
theorem check_places {D:Nat} {P:List Int} {B:List Bucket} (h:Mid D P B) (hfew:Few B) (n f:Nat) (hn:n < B.length) (hf:f < 2 ^ D) (he:ix P (f:Int) = (n:Int)):loopO (dict_Check_l2 ⟨(D:Int),P,B⟩ (n:Int)) ((f:Int),0) = some (.inl (((n + 1:Nat):Int))):=by
 have hb:=h.blen
 have h12:=pow12 h.d12
 have hd12:=h.d12
 have hpl:=h.plen
 have hm:ix B (n:Int) ∈ B:=ix_mem ⟨by omega,by omega⟩
 obtain ⟨hd,hdD⟩:=h.dep_eq (n:=(n:Int)) (by omega) (by omega)
 refine Eq.trans ?_ (loopO_all (step:=dict_Check_l2 ⟨(D:Int),P,B⟩ (n:Int)) (fun i=>((f:Int),((i:Nat):Int))) (some (.inl (((n + 1:Nat):Int)))) P.length (fun i hi=>?_) ?_)
 ·rfl
 ·unfold dict_Check_l2
  dsimp only
  have hs:=h.same f i hf (by omega)
  rw [he] at hs
  rw [lt_n hi,ge_n,hd,last_eq _ _ (by omega),last_eq _ _ (by omega),wrap_n1 i (by omega)]
  simp only [Bool.and_self,cond_true,Option.bind_some]
  have:((ix P (i:Int) == (n:Int)) != ((i:Int) % 2 ^ dep B (n:Int) == (f:Int) % 2 ^ dep B (n:Int))) = false:=by
   rw [bne_eq_false_iff_eq,Bool.eq_iff_iff,beq_iff_eq,beq_iff_eq]
   exact hs
  rw [this]; rfl
 ·unfold dict_Check_l2
  dsimp only
  have hff:(decide ((4:Int) < (((ix B (n:Int)).Items.length:Nat):Int)) && decide ((ix B (n:Int)).Depth < 12)) = false:=by
   rcases hfew _ hm with h1 | h1
   ·rw [show decide ((4:Int) < (((ix B (n:Int)).Items.length:Nat):Int)) = false from by simp; omega]; rfl
   ·rw [h1]; simp
  rw [nlt_n,cond_false,hff,cond_false,check_items h n f hn hf he]
theorem check_buckets {D:Nat} {P:List Int} {B:List Bucket} (h:Mid D P B) (hfull:Full D B) (hfew:Few B):loopO (dict_Check_l3 ⟨(D:Int),P,B⟩) 0 = some ⟨0,0⟩:=by
 have hb:=h.blen
 have h12:=pow12 h.d12
 have hpl:=h.plen
 have:=loopO_all (step:=dict_Check_l3 ⟨(D:Int),P,B⟩) (fun n=>((n:Nat):Int)) (some ⟨0,0⟩) B.length (fun n hn=>?_) ?_
 ·exact this
 ·unfold dict_Check_l3
  dsimp only
  have hdn:=h.dn _ (ix_mem (l:=B) (j:=(n:Int)) ⟨by omega,by omega⟩)
  obtain ⟨i,hi,he⟩:=h.onto (n:Int) (by omega) (by omega)
  obtain ⟨f,hf,hfe,hfi⟩:=index_eq P (n:Int) (by omega) ⟨i,by omega,he⟩
  rw [lt_n hn,ge_n,show (decide ((ix B (n:Int)).Depth < 0) || decide ((D:Int) < (ix B (n:Int)).Depth)) = false from by simp; omega,hfi]
  simp only [Bool.and_self,cond_true,cond_false,Option.bind_some]
  rw [check_places h hfew n f hn (by omega) hfe]
 ·unfold dict_Check_l3 dict_Check_j2
  dsimp only
  rw [nlt_n,cond_false]
  cases hD:decide ((0:Int) < (D:Int)) with
  | false=>rfl
  | true =>
   simp only [decide_eq_true_eq] at hD
   obtain ⟨b,hbm,hbe⟩:=hfull (by omega)
   rw [cond_true,contains_eq B ⟨(D:Int),P,B⟩ (by omega) ⟨b,hbm,hbe⟩]; rfl
theorem check_ok {D:Nat} {P:List Int} {B:List Bucket} (h:Mid D P B) (hnum:Num P) (hfull:Full D B) (hfew:Few B):dict_Check ⟨(D:Int),P,B⟩ = some ⟨0,0⟩:=by
 have hb:=h.blen
 have h12:=pow12 h.d12
 have hd12:=h.d12
 have hpl:=h.plen
 have hp2:((2 ^ D:Nat):Int) = (2:Int) ^ D:=by push_cast; try rfl
 unfold dict_Check
 dsimp only
 rw [show (decide ((D:Int) < 0) || decide ((12:Int) < (D:Int))) = false from by simp; omega,cond_false,ge_n,cond_true,sh_eq D (by omega),show (((P.length:Nat):Int) != 2 ^ D) = false from by rw [hpl,hp2]; simp,cond_false]
 have:=loopO_inv (step:=dict_Check_l4 ⟨(D:Int),P,B⟩) (fun s=>∃ (seen i:Nat),s = ((seen:Int),(i:Int))∧i≤P.length∧seen≤i∧∀ m:Int,0≤m→(m < (seen:Int) ↔ ∃ j:Nat,j < i∧ix P (j:Int) = m)) (fun s=>P.length - s.2.toNat) (fun r=>r = ⟨0,0⟩) (fun s hs=>?_) (s0:=(0,0)) ⟨0,0,rfl,by omega,by omega,fun m hm=>⟨fun h=>by omega,fun ⟨j,hj,_⟩=>by omega⟩⟩
 ·obtain ⟨r,hr,rfl⟩:=this
  exact hr
 ·obtain ⟨seen,i,rfl,hi,hsi,hse⟩:=hs
  unfold dict_Check_l4
  dsimp only
  by_cases hin:i < P.length
  ·left
   have hr:=h.rng i (by omega)
   have hle:ix P (i:Int)≤(seen:Int):=by
    refine Int.not_lt.1 fun hlt=>?_
    obtain ⟨j,hj,he⟩:=hnum i hin (seen:Int) (by omega) hlt
    have:=(hse (seen:Int) (by omega)).2 ⟨j,hj,he⟩
    omega
   rw [lt_n hin,ge_n,show (decide (ix P (i:Int) < 0) || (decide (((B.length:Nat):Int)≤ix P (i:Int)) || decide ((seen:Int) < ix P (i:Int)))) = false from by simp; omega]
   simp only [Bool.and_self,cond_true,cond_false]
   unfold dict_Check_j1
   rw [wrap_n1 i (by omega),wrap_n1 seen (by omega)]
   by_cases he:ix P (i:Int) = (seen:Int)
   ·rw [show (ix P (i:Int) == (seen:Int)) = true from by simpa using he,cond_true]
    refine ⟨_,rfl,⟨seen + 1,i + 1,rfl,by omega,by omega,fun m hm=>⟨fun hlt=>?_,fun ⟨j,hj,hjm⟩=>?_⟩⟩,by simp only [Int.toNat_natCast]; omega⟩
    ·by_cases hms:m = (seen:Int)
     ·exact ⟨i,by omega,by rw [hms]; exact he⟩
     ·obtain ⟨j,hj,hjm⟩:=(hse m hm).1 (by omega)
      exact ⟨j,by omega,hjm⟩
    ·by_cases hji:j = i
     ·subst hji; omega
     ·have:=(hse m hm).2 ⟨j,by omega,hjm⟩; omega
   ·rw [show (ix P (i:Int) == (seen:Int)) = false from by simpa using he,cond_false]
    refine ⟨_,rfl,⟨seen,i + 1,rfl,by omega,by omega,fun m hm=>⟨fun hlt=>?_,fun ⟨j,hj,hjm⟩=>?_⟩⟩,by simp only [Int.toNat_natCast]; omega⟩
    ·obtain ⟨j,hj,hjm⟩:=(hse m hm).1 hlt
     exact ⟨j,by omega,hjm⟩
    ·by_cases hji:j = i
     ·subst hji; omega
     ·exact (hse m hm).2 ⟨j,by omega,hjm⟩
  ·right
   have:i = P.length:=by omega
   subst this
   have hseen:seen = B.length:=by
    have a1:¬ seen < B.length:=fun hlt=>by
     obtain ⟨j,hj,he⟩:=h.onto (seen:Int) (by omega) (by omega)
     have:=(hse (seen:Int) (by omega)).2 ⟨j,by omega,he⟩
     omega
    have a2:¬ B.length < seen:=fun hlt=>by
     obtain ⟨j,hj,he⟩:=(hse (B.length:Int) (by omega)).1 (by omega)
     have:=h.rng j (by omega)
     omega
    omega
   rw [nlt_n,cond_false,hseen,show (((B.length:Nat):Int) != ((B.length:Nat):Int)) = false from by simp,cond_false,check_buckets h hfull hfew]
   exact ⟨_,rfl,rfl⟩
theorem where_eq {D:Nat} {P:List Int} {B:List Bucket} (h:Mid D P B) (key:Int):∃ i:Nat,i < 2 ^ D∧key % 2 ^ D = (i:Int)∧dict_where ⟨(D:Int),P,B⟩ key = some (ix P (i:Int),(sear (ix B (ix P (i:Int))).Items key:Int),decide (key ∈ keysOf (ix B (ix P (i:Int))).Items)):=by
 have h12:=pow12 h.d12
 have hd12:=h.d12
 have hpl:=h.plen
 have hp2:((2 ^ D:Nat):Int) = (2:Int) ^ D:=by push_cast; try rfl
 have h1:=Int.emod_nonneg key (show (2:Int) ^ D ≠ 0 by have:=p2_pos D; omega)
 have h2:=Int.emod_lt_of_pos key (p2_pos D)
 obtain ⟨i,hi⟩:∃ i:Nat,key % 2 ^ D = (i:Int):=⟨(key % 2 ^ D).toNat,by omega⟩
 have hil:i < 2 ^ D:=by omega
 obtain ⟨r1,r2⟩:=h.rng i hil
 have hm:=ix_mem (l:=B) (j:=ix P (i:Int)) ⟨r1,r2⟩
 refine ⟨i,hil,hi,?_⟩
 unfold dict_where
 dsimp only
 rw [last_eq key D (by omega),Option.bind_some,hi,lt_n (show i < P.length by omega),ge_n,show decide ((0:Int)≤ix P (i:Int)) = true from by simpa using r1,show decide (ix P (i:Int) < ((B.length:Nat):Int)) = true from by simpa using r2,(bs_eq _ key 0 (h.rise _ hm) (by have:=h.cap _ hm; omega)).1]
 rfl
end Go.Proofs.Yticigkhhhmiglaa
end

section
namespace Go.Proofs.Yticigkhhhmiglaa
open Go Go.Sx
set_option linter.unusedVariables false
set_option linter.unusedSimpArgs false
theorem ix_set {α:Type} [Enc α] {l:List α} {i j:Int} (hi:0≤i∧i < (l.length:Int)) (hj:0≤j) (v:α):ix (l.set i.toNat v) j = if i = j then v else ix l j:=by
 unfold ix
 rw [List.getD_eq_getElem?_getD,List.getD_eq_getElem?_getD]
 by_cases h:i = j
 ·subst h; rw [List.getElem?_set_self (by omega),if_pos rfl]; rfl
 ·rw [List.getElem?_set_ne (by omega),if_neg h]
theorem ix_app {α:Type} [Enc α] {l:List α} (v:α) {j:Int} (hj:0≤j∧j≤(l.length:Int)):ix (l ++ [v]) j = if j = (l.length:Int) then v else ix l j:=by
 obtain ⟨n,rfl⟩:∃ n:Nat,j = (n:Int):=⟨j.toNat,by omega⟩
 by_cases h:n = l.length
 ·subst h
  rw [ix_get (by simp),if_pos rfl,List.getElem_append_right (by omega)]; simp
 ·rw [ix_get (by simp; omega),if_neg (by omega),List.getElem_append_left (by omega),ix_get (by omega)]
def loI (t:Nat) (l:List GItem):List GItem:=l.filter fun x=>!bitN x.Key t
def hiI (t:Nat) (l:List GItem):List GItem:=l.filter fun x=>bitN x.Key t
def newB (B:List Bucket) (n:Int) (t:Nat):List Bucket:=B.set n.toNat ⟨((t + 1:Nat):Int),loI t (ix B n).Items⟩ ++ [⟨((t + 1:Nat):Int),hiI t (ix B n).Items⟩]
def newP (Q:List Int) (n m:Int) (t:Nat):List Int:=(List.range Q.length).map fun (i:Nat)=>bif (ix Q (i:Int) == n) && bitN (i:Int) t then m else ix Q (i:Int)
theorem newP_len (Q:List Int) (n m:Int) (t:Nat):(newP Q n m t).length = Q.length:=by simp [newP]
theorem newP_ix (Q:List Int) (n m:Int) (t:Nat) (i:Nat) (hi:i < Q.length):ix (newP Q n m t) (i:Int) = bif (ix Q (i:Int) == n) && bitN (i:Int) t then m else ix Q (i:Int):=by
 rw [ix_get (by rw [newP_len]; exact hi)]
 simp [newP]
theorem bit_zero {key:Int} {t:Nat} (ht:t≤40):((bif bitN key t then (2:Int) ^ t else 0) == 0) = !bitN key t:=by
 have:=p2_pos t
 cases bitN key t with
 | true=>rw [cond_true]; simp; omega
 | false=>rfl
theorem split_l1 (n:Int) (B:List Bucket) (D':Int) (Q:List Int) (t:Nat) (ht:t≤40) (hd:(ixD B n).Depth = (t:Int)) (hn:0≤n∧n < (B.length:Int)) (hB:B.length≤1000000) (hQ:Q.length≤1000000) (a b:List GItem) :
  loopO (dict_split_1_l1 n B D' Q a b) (0,Q) = some (D',newP Q n (B.length:Int) t,B.set n.toNat ⟨((t + 1:Nat):Int),a⟩ ++ [⟨((t + 1:Nat):Int),b⟩]):=by
 have hw:IntKind.i64.wrap ((t:Int) + 1) = ((t + 1:Nat):Int):=wrap_n1 t (by omega)
 have cur:∀ i:Nat,i≤Q.length→((newP Q n (B.length:Int) t).take i ++ Q.drop i).length = Q.length:=fun i hi=>by simp [newP_len]; omega
 refine Eq.trans ?_ (loopO_all (step:=dict_split_1_l1 n B D' Q a b) (fun i=>(((i:Nat):Int),(newP Q n (B.length:Int) t).take i ++ Q.drop i)) (some (D',newP Q n (B.length:Int) t,B.set n.toNat ⟨((t + 1:Nat):Int),a⟩ ++ [⟨((t + 1:Nat):Int),b⟩])) Q.length (fun i hi=>?_) ?_)
 ·rfl
 ·unfold dict_split_1_l1
  dsimp only
  have hci:=cur i (by omega)
  have hget:((newP Q n (B.length:Int) t).take i ++ Q.drop i)[i]'(by omega) = Q[i]:=by
   rw [List.getElem_append_right (by simp [newP_len]; omega)]
   simp [newP_len,Nat.min_eq_left (Nat.le_of_lt hi)]
  have hix:ix ((newP Q n (B.length:Int) t).take i ++ Q.drop i) (i:Int) = ix Q (i:Int):=by rw [ix_get (by omega),hget,ix_get hi]
  have hnx:=newP_ix Q n (B.length:Int) t i hi
  rw [lt_n hi,ge_n,hci,lt_n hi,hix,hd,bit_eq (i:Int) t ht]
  simp only [Bool.and_self,cond_true]
  have hbne:((bif bitN (i:Int) t then (2:Int) ^ t else 0) != 0) = bitN (i:Int) t:=by rw [bne,bit_zero ht,Bool.not_not]
  rw [hbne]
  unfold dict_split_1_j2
  rw [wrap_n1 i (by omega)]
  have hni:i < (newP Q n (B.length:Int) t).length:=by rw [newP_len]; exact hi
  have hnext:(newP Q n (B.length:Int) t).take (i + 1) ++ Q.drop (i + 1) = ((newP Q n (B.length:Int) t).take i ++ Q.drop i).set i (ix (newP Q n (B.length:Int) t) (i:Int)):=by
   rw [List.take_succ_eq_append_getElem hni,List.set_append_right _ _ (by simp [newP_len]; omega),List.append_assoc]
   congr 1
   rw [show i - ((newP Q n (B.length:Int) t).take i).length = 0 from by simp [newP_len]; omega,List.drop_eq_getElem_cons hi,List.set_cons_zero,ix_get hni]
   rfl
  rw [hnx] at hnext
  cases hb:(ix Q (i:Int) == n) && bitN (i:Int) t with
  | true =>
   rw [hb,cond_true] at hnext
   rw [cond_true,hnext]
   simp only [hw,List.length_append,List.length_set,List.length_singleton,Int.toNat_natCast]
   rw [show IntKind.i64.wrap (((B.length + 1:Nat):Int) - 1) = (B.length:Int) from by rw [wrap_id (by omega) (by omega)]; omega]
  | false =>
   rw [hb,cond_false,← hix] at hnext
   rw [cond_false,hnext,ix_get (by omega),List.set_getElem_self]
 ·unfold dict_split_1_l1
  dsimp only
  rw [nlt_n,cond_false,List.drop_length,List.append_nil,List.take_of_length_le (by rw [newP_len]; exact Nat.le_refl _),hd,hw]
theorem split_l2 (n:Int) (B:List Bucket) (D':Int) (Q:List Int) (t:Nat) (ht:t≤40) (hd:(ixD B n).Depth = (t:Int)) (hn:0≤n∧n < (B.length:Int)) (hB:B.length≤1000000) (hQ:Q.length≤1000000) (hI:(ixD B n).Items.length≤1000000) :
  loopO (dict_split_1_l2 n B D' Q) (0,[],[]) = some (D',newP Q n (B.length:Int) t,newB B n t):=by
 have hB2:∀ a b:List GItem,decide (((B.set n.toNat (Bucket.mk ((t + 1:Nat):Int) a)) ++ [(Bucket.mk ((t + 1:Nat):Int) b)]).length * 32≤140737488355328) = true:=fun a b=>by rw [decide_eq_true_eq]; simp; omega
 have hnn:decide (n < ((B.length:Nat):Int)) = true:=by simpa using hn.2
 have hn0:decide ((0:Int)≤n) = true:=by simpa using hn.1
 have hw:IntKind.i64.wrap ((t:Int) + 1) = ((t + 1:Nat):Int):=wrap_n1 t (by omega)
 have hxD:ixD B n = ix B n:=ixD_pos hn.1
 refine Eq.trans ?_ (loopO_all (step:=dict_split_1_l2 n B D' Q) (fun i=>(((i:Nat):Int),loI t ((ix B n).Items.take i),hiI t ((ix B n).Items.take i))) (some (D',newP Q n (B.length:Int) t,newB B n t)) (ixD B n).Items.length (fun i hi=>?_) ?_)
 ·rfl
 ·unfold dict_split_1_l2
  dsimp only
  rw [lt_n hi,ge_n]
  rw [hxD] at hi hd hI ⊢
  rw [ix_get hi,hd,bit_eq _ t ht,bit_zero ht]
  simp only [Bool.and_self,cond_true]
  unfold dict_split_1_j1
  rw [wrap_n1 i (by omega)]
  have hlo:loI t ((ix B n).Items.take (i + 1)) = bif !bitN (ix B n).Items[i].Key t then loI t ((ix B n).Items.take i) ++ [(ix B n).Items[i]] else loI t ((ix B n).Items.take i):=by
   unfold loI
   rw [List.take_succ_eq_append_getElem hi,List.filter_append]
   cases h:!bitN (ix B n).Items[i].Key t <;> simp [h]
  have hhi:hiI t ((ix B n).Items.take (i + 1)) = bif bitN (ix B n).Items[i].Key t then hiI t ((ix B n).Items.take i) ++ [(ix B n).Items[i]] else hiI t ((ix B n).Items.take i):=by
   unfold hiI
   rw [List.take_succ_eq_append_getElem hi,List.filter_append]
   cases h:bitN (ix B n).Items[i].Key t <;> simp [h]
  have h1:(loI t ((ix B n).Items.take i)).length≤i:=Nat.le_trans (List.length_filter_le ..) (by simp; omega)
  have h2:(hiI t ((ix B n).Items.take i)).length≤i:=Nat.le_trans (List.length_filter_le ..) (by simp; omega)
  rw [hlo,hhi]
  cases hb:bitN (ix B n).Items[i].Key t with
  | true =>
   simp only [Bool.not_true,cond_false,cond_true]
   rw [decide_eq_true (show (hiI t ((ix B n).Items.take i) ++ ([(ix B n).Items[i]]:List GItem)).length * 16≤140737488355328 by simp; omega)]; rfl
  | false =>
   simp only [Bool.not_false,cond_false,cond_true]
   rw [decide_eq_true (show (loI t ((ix B n).Items.take i) ++ ([(ix B n).Items[i]]:List GItem)).length * 16≤140737488355328 by simp; omega)]; rfl
 ·unfold dict_split_1_l2
  dsimp only
  rw [nlt_n,cond_false,hn0,hnn,hxD,List.take_length]
  rw [hxD] at hd
  rw [hd,hw,hB2]
  simp only [Bool.and_self,cond_true]
  have:=split_l1 n B D' Q t ht (by rw [hxD]; exact hd) hn hB hQ (loI t (ix B n).Items) (hiI t (ix B n).Items)
  rw [this]; rfl
theorem split_eq {D:Nat} {P:List Int} {B:List Bucket} (h:Mid D P B) (n:Int) (h0:0≤n) (h1:n < (B.length:Int)) :
  dict_split_1 n (D:Int) P B = some (bif dep B n == D then (((D + 1:Nat):Int),newP (P ++ P) n (B.length:Int) D,newB B n D) else ((D:Int),newP P n (B.length:Int) (dep B n),newB B n (dep B n))):=by
 have h12:=pow12 h.d12
 have hd12:=h.d12
 have hpl:=h.plen
 have hbl:=h.blen
 obtain ⟨hd,hdD⟩:=h.dep_eq h0 h1
 have hcap:=h.cap _ (ix_mem (l:=B) (j:=n) ⟨h0,h1⟩)
 have hxD:ixD B n = ix B n:=ixD_pos h0
 unfold dict_split_1
 rw [show decide ((0:Int)≤n) = true from by simpa using h0,show decide (n < ((B.length:Nat):Int)) = true from by simpa using h1,hxD,hd]
 simp only [Bool.and_self,cond_true]
 unfold dict_split_1_j3
 rw [hxD,hd,ge_n]
 simp only [cond_true]
 have hbeq:((dep B n:Int) == (D:Int)) = (dep B n == D):=by rw [Bool.eq_iff_iff]; simp; omega
 rw [hbeq]
 cases he:dep B n == D with
 | true =>
  have hed:dep B n = D:=by simpa using he
  rw [cond_true,cond_true,decide_eq_true (show (P ++ P).length * 8≤140737488355328 by simp; omega),cond_true,wrap_n1 D (by omega),split_l2 n B _ (P ++ P) D (by omega) (by rw [hxD,hd,hed]) ⟨h0,h1⟩ (by omega) (by simp; omega) (by rw [hxD]; omega)]
 | false =>
  rw [cond_false,cond_false,split_l2 n B _ P (dep B n) (by omega) (by rw [hxD,hd]) ⟨h0,h1⟩ (by omega) (by omega) (by rw [hxD]; omega)]
end Go.Proofs.Yticigkhhhmiglaa
end

section
namespace Go.Proofs.Yticigkhhhmiglaa
open Go Go.Sx
set_option linter.unusedVariables false
set_option linter.unusedSimpArgs false
theorem p2_cast (D:Nat):((2 ^ D:Nat):Int) = (2:Int) ^ D:=by push_cast; try rfl
theorem mod_mod {k:Int} {a b:Nat} (h:a≤b):(k % 2 ^ b) % 2 ^ a = k % 2 ^ a:=by
 refine Int.emod_emod_of_dvd _ ?_
 have h:=Nat.pow_dvd_pow 2 h
 exact_mod_cast (Int.natCast_dvd_natCast.2 h)
theorem mod_nn (k:Int) (a:Nat):0≤k % 2 ^ a:=Int.emod_nonneg _ (by have:=p2_pos a; omega)
theorem mod_lt (k:Int) (a:Nat):k % 2 ^ a < 2 ^ a:=Int.emod_lt_of_pos _ (p2_pos a)
theorem mod_of {k:Int} {a:Nat} (h0:0≤k) (h1:k < 2 ^ a):k % 2 ^ a = k:=Int.emod_eq_of_lt h0 h1
def plc (D:Nat) (k:Int):Nat:=(k % 2 ^ D).toNat
theorem plc_cast (D:Nat) (k:Int):(plc D k:Int) = k % 2 ^ D:=by unfold plc; have:=mod_nn k D; omega
theorem plc_lt (D:Nat) (k:Int):plc D k < 2 ^ D:=by
 have h1:=plc_cast D k
 have h2:=mod_lt k D
 have h3:=p2_cast D
 omega
theorem pp_ix {P:List Int} {D:Nat} (hp:P.length = 2 ^ D) (i:Nat) (hi:i < 2 ^ (D + 1)):ix (P ++ P) (i:Int) = ix P (plc D (i:Int):Int):=by
 have h2:2 ^ (D + 1) = 2 ^ D + 2 ^ D:=by rw [Nat.pow_succ]; omega
 have hc:=p2_cast D
 have hpc:=plc_cast D (i:Int)
 have hpl:=plc_lt D (i:Int)
 by_cases h:i < 2 ^ D
 ·rw [mod_of (by omega) (by omega)] at hpc
  have e:plc D (i:Int) = i:=by omega
  rw [e,ix_get (by simp; omega),List.getElem_append_left (by omega),ix_get (by omega)]
 ·have e:(i:Int) % 2 ^ D = ((i - 2 ^ D:Nat):Int):=by
   rw [← Int.sub_emod_right,mod_of (by omega) (by omega)]; omega
  have e:plc D (i:Int) = i - P.length:=by omega
  rw [e,ix_get (by simp; omega),List.getElem_append_right (by omega),ix_get (by omega)]
theorem Mid.double {D:Nat} {P:List Int} {B:List Bucket} (h:Mid D P B) (hD:D < 12):Mid (D + 1) (P ++ P) B:=by
 have h2:2 ^ (D + 1) = 2 ^ D + 2 ^ D:=by rw [Nat.pow_succ]; omega
 have hix:=pp_ix h.plen
 have hlow:∀ (i:Nat) (t:Nat),t≤D→(plc D (i:Int):Int) % 2 ^ t = (i:Int) % 2 ^ t:=fun i t ht=>by rw [plc_cast,mod_mod ht]
 have hdl:∀ i:Nat,dep B (ix P (plc D (i:Int):Int))≤D:=fun i=>by
  have:=h.rng _ (plc_lt D (i:Int))
  exact (h.dep_eq this.1 this.2).2
 refine ⟨by omega,by simp [h.plen]; omega,fun i hi=>?_,fun b hb=>?_,fun i j hi hj=>?_,fun n h0 h1=>?_,h.rise,fun i hi x hx=>?_,h.cap⟩
 ·rw [hix i hi]; exact h.rng _ (plc_lt D _)
 ·have:=h.dn b hb; omega
 ·rw [hix i hi,hix j hj,h.same _ _ (plc_lt D _) (plc_lt D _),hlow _ _ (hdl i),hlow _ _ (hdl i)]
 ·obtain ⟨i,hi,he⟩:=h.onto n h0 h1
  refine ⟨i,by omega,?_⟩
  rw [hix i (by omega)]
  have hpc:=plc_cast D (i:Int)
  have hc:=p2_cast D
  rw [mod_of (by omega) (by omega)] at hpc
  rw [hpc]; exact he
 ·rw [hix i hi] at hx ⊢
  rw [h.home _ (plc_lt D _) x hx,hlow _ _ (hdl i)]
theorem newB_len (B:List Bucket) (n:Int) (t:Nat):(newB B n t).length = B.length + 1:=by simp [newB]
theorem newB_ix {B:List Bucket} {n:Int} (t:Nat) (hn:0≤n∧n < (B.length:Int)) {k:Int} (hk:0≤k∧k≤(B.length:Int)) :
  ix (newB B n t) k = if k = (B.length:Int) then ⟨((t + 1:Nat):Int),hiI t (ix B n).Items⟩ else if n = k then ⟨((t + 1:Nat):Int),loI t (ix B n).Items⟩ else ix B k:=by
 unfold newB
 rw [ix_app _ (by simp; omega),ix_set hn hk.1]
 simp
theorem newB_dep {B:List Bucket} {n:Int} (t:Nat) (hn:0≤n∧n < (B.length:Int)) {k:Int} (hk:0≤k∧k≤(B.length:Int)) :
  dep (newB B n t) k = if k = (B.length:Int) then t + 1 else if n = k then t + 1 else dep B k:=by
 unfold dep
 rw [newB_ix t hn hk]
 split
 ·simp only [Int.toNat_natCast]
 ·split
  ·simp only [Int.toNat_natCast]
  ·rfl
theorem newB_mem {B:List Bucket} {n:Int} {t:Nat} {b:Bucket} (hb:b ∈ newB B n t):b = ⟨((t + 1:Nat):Int),hiI t (ix B n).Items⟩ ∨ b = ⟨((t + 1:Nat):Int),loI t (ix B n).Items⟩ ∨ b ∈ B:=by
 unfold newB at hb
 rcases List.mem_append.1 hb with h | h
 ·rcases List.mem_or_eq_of_mem_set h with h | h
  ·exact .inr (.inr h)
  ·exact .inr (.inl h)
 ·exact .inl (by simpa using h)
theorem mem_lo {t:Nat} {l:List GItem} {x:GItem}:x ∈ loI t l ↔ x ∈ l∧bitN x.Key t = false:=by simp [loI]
theorem mem_hi {t:Nat} {l:List GItem} {x:GItem}:x ∈ hiI t l ↔ x ∈ l∧bitN x.Key t = true:=by simp [hiI]
theorem Rise.sub {l m:List GItem} (h:Rise l) (hs:List.Sublist m l):Rise m:=List.Pairwise.sublist (hs.map _) h
theorem next_iff (j i:Int) (t:Nat) (ht:t≤40):j % 2 ^ (t + 1) = i % 2 ^ (t + 1) ↔ j % 2 ^ t = i % 2 ^ t∧bitN j t = bitN i t:=by
 constructor
 ·intro h
  have h1:j % 2 ^ t = i % 2 ^ t:=by rw [← mod_mod (k:=j) (show t≤t + 1 by omega),h,mod_mod (by omega)]
  refine ⟨h1,?_⟩
  unfold bitN
  rw [h,h1]
 ·rintro ⟨h1,h2⟩
  rw [mod_succ j t ht,mod_succ i t ht,h1,h2]
theorem Mid.half {D:Nat} {P:List Int} {B:List Bucket} (h:Mid D P B) {n:Int} (h0:0≤n) (h1:n < (B.length:Int)) (ht:dep B n < D) :
  Mid D (newP P n (B.length:Int) (dep B n)) (newB B n (dep B n)):=by
 have h12:=h.d12
 have hix:∀ i:Nat,i < 2 ^ D→ix (newP P n (B.length:Int) (dep B n)) (i:Int) = bif (ix P (i:Int) == n) && bitN (i:Int) (dep B n) then (B.length:Int) else ix P (i:Int):=fun i hi=>newP_ix P n _ _ i (by rw [h.plen]; exact hi)
 have hB:=fun {k:Int} (hk:0≤k∧k≤(B.length:Int))=>newB_ix (dep B n) ⟨h0,h1⟩ hk
 have hd:=fun {k:Int} (hk:0≤k∧k≤(B.length:Int))=>newB_dep (dep B n) ⟨h0,h1⟩ hk
 generalize hte:dep B n = t at *
 have far:∀ i:Nat,i < 2 ^ D→ix P (i:Int) ≠ n→ix (newP P n (B.length:Int) t) (i:Int) = ix P (i:Int):=fun i hi hne=>by
  rw [hix i hi,show (ix P (i:Int) == n) = false from by simpa using hne]; rfl
 have near:∀ i:Nat,i < 2 ^ D→ix P (i:Int) = n→ix (newP P n (B.length:Int) t) (i:Int) = bif bitN (i:Int) t then (B.length:Int) else n:=fun i hi he=>by
  rw [hix i hi,show (ix P (i:Int) == n) = true from by simpa using he,Bool.true_and,he]
 have dfar:∀ i:Nat,i < 2 ^ D→ix P (i:Int) ≠ n→ix (newB B n t) (ix P (i:Int)) = ix B (ix P (i:Int)):=fun i hi hne=>by
  have:=h.rng i hi
  rw [hB ⟨this.1,by omega⟩,if_neg (by omega),if_neg (fun e=>hne e.symm)]
 have d1:dep (newB B n t) (B.length:Int) = t + 1:=by rw [hd ⟨by omega,by omega⟩,if_pos rfl]
 have d2:dep (newB B n t) n = t + 1:=by rw [hd ⟨h0,by omega⟩,if_neg (by omega),if_pos rfl]
 have dfar':∀ i:Nat,i < 2 ^ D→ix P (i:Int) ≠ n→dep (newB B n t) (ix P (i:Int)) = dep B (ix P (i:Int)):=fun i hi hne=>by
  unfold dep; rw [dfar i hi hne]
 have dnear:∀ i:Nat,i < 2 ^ D→ix P (i:Int) = n→dep (newB B n t) (ix (newP P n (B.length:Int) t) (i:Int)) = t + 1:=fun i hi he=>by
  rw [near i hi he]
  cases bitN (i:Int) t with
  | true=>exact d1
  | false=>exact d2
 refine ⟨h12,by rw [newP_len]; exact h.plen,fun i hi=>?_,fun b hb=>?_,fun i j hi hj=>?_,fun k k0 k1=>?_,fun b hb=>?_,fun i hi x hx=>?_,fun b hb=>?_⟩
 ·have:=h.rng i hi
  rw [newB_len]
  by_cases he:ix P (i:Int) = n
  ·rw [near i hi he]
   cases bitN (i:Int) t with
   | true=>rw [cond_true]; omega
   | false=>rw [cond_false]; omega
  ·rw [far i hi he]; omega
 ·rcases newB_mem hb with rfl | rfl | hb
  ·dsimp only; omega
  ·dsimp only; omega
  ·exact h.dn b hb
 ·by_cases he:ix P (i:Int) = n
  ·rw [dnear i hi he,near i hi he,next_iff _ _ _ (by omega)]
   have hs:=h.same i j hi hj
   rw [he,hte] at hs
   rw [← hs]
   by_cases hj':ix P (j:Int) = n
   ·rw [near j hj hj']
    cases bitN (i:Int) t <;> cases bitN (j:Int) t <;> simp <;> omega
   ·rw [far j hj hj']
    have:=h.rng j hj
    cases bitN (i:Int) t <;> simp <;> omega
  ·rw [far i hi he,dfar' i hi he,← h.same i j hi hj]
   have hr:=h.rng i hi
   by_cases hj':ix P (j:Int) = n
   ·rw [near j hj hj',hj']
    cases bitN (j:Int) t <;> simp <;> omega
   ·rw [far j hj hj']
 ·rw [newB_len] at k1
  have hlo:∀ b:Bool,∃ i:Nat,i < 2 ^ D∧ix P (i:Int) = n∧bitN (i:Int) t = b:=fun b=>by
   obtain ⟨i,hi,he⟩:=h.onto n h0 h1
   have hs:=fun j hj=>h.same i j hi hj
   rw [he,hte] at hs
   have hr:=plc_cast t (i:Int)
   have hrl:=plc_lt t (i:Int)
   have hpp:2 ^ (t + 1) = 2 ^ t + 2 ^ t:=by rw [Nat.pow_succ]; omega
   have hpD:=Nat.pow_le_pow_right (n:=2) (by omega) (show t + 1≤D by omega)
   have hc:=p2_cast t
   have hc1:=p2_cast (t + 1)
   cases b with
   | false =>
    refine ⟨plc t (i:Int),by omega,(hs _ (by omega)).2 (by rw [hr,mod_mod (Nat.le_refl _)]),?_⟩
    unfold bitN
    rw [mod_of (a:=t + 1) (by omega) (by omega),mod_of (a:=t) (by omega) (by omega)]; simp
   | true =>
    have e1:(((plc t (i:Int) + 2 ^ t:Nat):Int)) % 2 ^ t = (i:Int) % 2 ^ t:=by
     rw [Int.natCast_add,hc,Int.add_emod_right,hr,mod_mod (Nat.le_refl _)]
    refine ⟨plc t (i:Int) + 2 ^ t,by omega,(hs _ (by omega)).2 e1,?_⟩
    unfold bitN
    rw [e1,mod_of (a:=t + 1) (by omega) (by omega),← hr,decide_eq_true_eq]
    have:=p2_pos t
    omega
  by_cases hkm:k = (B.length:Int)
  ·obtain ⟨i,hi,he,hb⟩:=hlo true
   exact ⟨i,hi,by rw [near i hi he,hb,hkm]; rfl⟩
  ·by_cases hkn:k = n
   ·obtain ⟨i,hi,he,hb⟩:=hlo false
    exact ⟨i,hi,by rw [near i hi he,hb,hkn]; rfl⟩
   ·obtain ⟨i,hi,he⟩:=h.onto k k0 (by omega)
    exact ⟨i,hi,by rw [far i hi (by omega),he]⟩
 ·have hm:=ix_mem (l:=B) (j:=n) ⟨h0,h1⟩
  rcases newB_mem hb with rfl | rfl | hb
  ·exact (h.rise _ hm).sub List.filter_sublist
  ·exact (h.rise _ hm).sub List.filter_sublist
  ·exact h.rise b hb
 ·by_cases he:ix P (i:Int) = n
  ·rw [dnear i hi he]
   have hh:=h.home i hi
   rw [he,hte] at hh
   rw [near i hi he] at hx
   rw [next_iff _ _ _ (by omega)]
   cases hb:bitN (i:Int) t with
   | true =>
    rw [hb,cond_true,hB ⟨by omega,by omega⟩,if_pos rfl] at hx
    have:=mem_hi.1 hx
    exact ⟨hh x this.1,this.2⟩
   | false =>
    rw [hb,cond_false,hB ⟨h0,by omega⟩,if_neg (by omega),if_pos rfl] at hx
    have:=mem_lo.1 hx
    exact ⟨hh x this.1,this.2⟩
  ·rw [far i hi he,dfar' i hi he]
   rw [far i hi he,dfar i hi he] at hx
   exact h.home i hi x hx
 ·have hm:=h.cap _ (ix_mem (l:=B) (j:=n) ⟨h0,h1⟩)
  rcases newB_mem hb with rfl | rfl | hb
  ·exact Nat.le_trans (List.length_filter_le ..) hm
  ·exact Nat.le_trans (List.length_filter_le ..) hm
  ·exact h.cap b hb
end Go.Proofs.Yticigkhhhmiglaa
end

section
namespace Go.Proofs.Yticigkhhhmiglaa
open Go Go.Sx
set_option linter.unusedVariables false
set_option linter.unusedSimpArgs false
theorem miHas_set (m:List (Int × Int)) (a v k:Int):miHas (miSet m a v) k = (decide (k = a) || miHas m k):=by
 induction m with
 | nil =>
  by_cases h:k = a
  ·subst h; simp [miSet,miHas]
  ·simp [miSet,miHas,h]
 | cons p r ih =>
  have hc:∀ (q:Int × Int) (m:List (Int × Int)),miHas (q :: m) k = (decide (k = q.1) || miHas m k):=fun q m=>by
   by_cases h:k = q.1
   ·simp [miHas,h]
   ·simp [miHas,List.find?_cons,show (k == q.1) = false from by simpa using h,h]
  simp only [miSet]
  cases ha:(a == p.1) with
  | true =>
   have:a = p.1:=by simpa using ha
   subst this
   rw [cond_true,hc,hc]
   cases decide (k = p.1) <;> simp
  | false =>
   rw [cond_false,hc,hc,ih]
   cases decide (k = p.1) <;> cases decide (k = a) <;> simp
structure NumI (P:List Int) (B:List Bucket) (i:Nat) (Q:List Int) (m:List (Int × Int)) (L:List Bucket):Prop where
 ile:i≤P.length
 qlen:Q.length = P.length
 rest:∀ j:Nat,i≤j→j < P.length→ix Q (j:Int) = ix P (j:Int)
 rng:∀ j:Nat,j < i→0≤ix Q (j:Int)∧ix Q (j:Int) < (L.length:Int)
 at':∀ j:Nat,j < i→ix L (ix Q (j:Int)) = ix B (ix P (j:Int))
 has:∀ k,miHas m k = true ↔ ∃ j:Nat,j < i∧ix P (j:Int) = k
 get:∀ j:Nat,j < i→miGet m (ix P (j:Int)) = ix Q (j:Int)
 inj:∀ j j':Nat,j < i→j' < i→ix Q (j:Int) = ix Q (j':Int)→ix P (j:Int) = ix P (j':Int)
 llen:L.length≤i
 onto:∀ n:Int,0≤n→n < (L.length:Int)→∃ j:Nat,j < i∧ix Q (j:Int) = n
 num:∀ j:Nat,j < i→∀ n:Int,0≤n→n < ix Q (j:Int)→∃ j':Nat,j' < j∧ix Q (j':Int) = n
structure Renum (P:List Int) (B:List Bucket) (Q:List Int) (L:List Bucket):Prop where
 qlen:Q.length = P.length
 rng:∀ j:Nat,j < P.length→0≤ix Q (j:Int)∧ix Q (j:Int) < (L.length:Int)
 at':∀ j:Nat,j < P.length→ix L (ix Q (j:Int)) = ix B (ix P (j:Int))
 iff:∀ j j':Nat,j < P.length→j' < P.length→(ix Q (j:Int) = ix Q (j':Int) ↔ ix P (j:Int) = ix P (j':Int))
 onto:∀ n:Int,0≤n→n < (L.length:Int)→∃ j:Nat,j < P.length∧ix Q (j:Int) = n
 num:Num Q
theorem number_eq (D:Int) {P:List Int} {B:List Bucket} (hP:P.length≤1000000) (hr:∀ i:Nat,i < P.length→0≤ix P (i:Int)∧ix P (i:Int) < (B.length:Int)) :
  ∃ Q L,dict_number_1 D P B = some (D,L,Q)∧Renum P B Q L:=by
 have:=loopO_inv (step:=dict_number_1_l1 D P) (fun s=>∃ (i:Nat) (Q:List Int) (m:List (Int × Int)) (L:List Bucket),s = ((i:Int),B,Q,m,L)∧NumI P B i Q m L) (fun s=>P.length - s.1.toNat) (fun r=>∃ Q L,r = (D,L,Q)∧Renum P B Q L) (fun s hs=>?_) (s0:=(0,B,P,[],[])) ⟨0,P,[],[],rfl,?_⟩
 ·obtain ⟨r,h1,Q,L,rfl,h2⟩:=this
  exact ⟨Q,L,h1,h2⟩
 ·obtain ⟨i,Q,m,L,rfl,h⟩:=hs
  unfold dict_number_1_l1
  dsimp only
  have hil:=h.ile
  have hql:=h.qlen
  have hll:=h.llen
  by_cases hi:i < P.length
  ·left
   have hri:=hr i hi
   have hres:=h.rest i (Nat.le_refl _) hi
   rw [lt_n hi,ge_n,hql,lt_n hi,hres]
   simp only [Bool.and_self,cond_true]
   unfold dict_number_1_j1
   rw [hql,lt_n hi,ge_n,wrap_n1 i (by omega),Int.toNat_natCast]
   simp only [Bool.and_self,cond_true]
   have hset:∀ (v:Int) (j:Nat),ix (Q.set i v) (j:Int) = if (i:Int) = (j:Int) then v else ix Q (j:Int):=fun v j=>by
    have:=ix_set (l:=Q) (i:=(i:Int)) (j:=(j:Int)) ⟨by omega,by omega⟩ (by omega) v
    simpa using this
   cases hh:miHas m (ix P (i:Int)) with
   | true =>
    rw [Bool.not_true,cond_false]
    refine ⟨_,rfl,⟨i + 1,_,m,L,rfl,?_⟩,by simp only [Int.toNat_natCast]; omega⟩
    obtain ⟨j0,hj0,he0⟩:=(h.has _).1 hh
    have hg:=h.get j0 hj0
    rw [he0] at hg
    rw [hg]
    have s1:ix (Q.set i (ix Q (j0:Int))) (i:Int) = ix Q (j0:Int):=by rw [hset,if_pos rfl]
    have s2:∀ j:Nat,j ≠ i→ix (Q.set i (ix Q (j0:Int))) (j:Int) = ix Q (j:Int):=fun j hj=>by rw [hset,if_neg (by omega)]
    have cs:∀ j:Nat,j < i + 1→∃ j1:Nat,j1 < i∧j1≤j∧ix (Q.set i (ix Q (j0:Int))) (j:Int) = ix Q (j1:Int)∧ix P (j:Int) = ix P (j1:Int):=fun j hj=>by
     by_cases hji:j = i
     ·subst hji; exact ⟨j0,hj0,by omega,s1,he0.symm⟩
     ·exact ⟨j,by omega,by omega,s2 j hji,rfl⟩
    refine ⟨by omega,by simp [hql],fun j hj hjl=>?_,fun j hj=>?_,fun j hj=>?_,fun k=>⟨fun hk=>?_,fun ⟨j,hj,hk⟩=>?_⟩,fun j hj=>?_,fun j j' hj hj' he=>?_,by omega,fun n n0 n1=>?_,fun j hj n n0 n1=>?_⟩
    ·rw [s2 j (by omega)]; exact h.rest j (by omega) hjl
    ·obtain ⟨j1,a1,_,a2,a3⟩:=cs j hj
     rw [a2]; exact h.rng j1 a1
    ·obtain ⟨j1,a1,_,a2,a3⟩:=cs j hj
     rw [a2,a3]; exact h.at' j1 a1
    ·obtain ⟨j,hj,he⟩:=(h.has k).1 hk
     exact ⟨j,by omega,he⟩
    ·obtain ⟨j1,a1,_,a2,a3⟩:=cs j hj
     exact (h.has k).2 ⟨j1,a1,by rw [← a3]; exact hk⟩
    ·obtain ⟨j1,a1,_,a2,a3⟩:=cs j hj
     rw [a2,a3]; exact h.get j1 a1
    ·obtain ⟨j1,a1,_,a2,a3⟩:=cs j hj
     obtain ⟨j2,b1,_,b2,b3⟩:=cs j' hj'
     rw [a3,b3]
     exact h.inj j1 j2 a1 b1 (by rw [← a2,← b2]; exact he)
    ·obtain ⟨j,hj,he⟩:=h.onto n n0 n1
     exact ⟨j,by omega,by rw [s2 j (by omega)]; exact he⟩
    ·obtain ⟨j1,a1,a4,a2,a3⟩:=cs j hj
     obtain ⟨j',hj',he⟩:=h.num j1 a1 n n0 (by rw [← a2]; exact n1)
     exact ⟨j',by omega,by rw [s2 j' (by omega)]; exact he⟩
   | false =>
    rw [Bool.not_false,cond_true,show decide ((0:Int)≤ix P (i:Int)) = true from by simpa using hri.1,show decide (ix P (i:Int) < ((B.length:Nat):Int)) = true from by simpa using hri.2,decide_eq_true (show (L ++ ([ix B (ix P (i:Int))]:List Bucket)).length * 32≤140737488355328 by simp; omega)]
    simp only [Bool.and_self,cond_true]
    refine ⟨_,rfl,⟨i + 1,_,_,_,rfl,?_⟩,by simp only [Int.toNat_natCast]; omega⟩
    have hno:∀ j:Nat,j < i→ix P (j:Int) ≠ ix P (i:Int):=fun j hj e=>by
     have:=(h.has (ix P (i:Int))).2 ⟨j,hj,e⟩
     rw [hh] at this; cases this
    have s1:ix (Q.set i (L.length:Int)) (i:Int) = (L.length:Int):=by rw [hset,if_pos rfl]
    have s2:∀ j:Nat,j ≠ i→ix (Q.set i (L.length:Int)) (j:Int) = ix Q (j:Int):=fun j hj=>by rw [hset,if_neg (by omega)]
    have l1:∀ n:Int,0≤n→n≤(L.length:Int)→ix (L ++ [ix B (ix P (i:Int))]) n = if n = (L.length:Int) then ix B (ix P (i:Int)) else ix L n:=fun n n0 n1=>ix_app _ ⟨n0,n1⟩
    have ll:(L ++ [ix B (ix P (i:Int))]).length = L.length + 1:=by simp
    refine ⟨by omega,by simp [hql],fun j hj hjl=>?_,fun j hj=>?_,fun j hj=>?_,fun k=>?_,fun j hj=>?_,fun j j' hj hj' he=>?_,by omega,fun n n0 n1=>?_,fun j hj n n0 n1=>?_⟩
    ·rw [s2 j (by omega)]; exact h.rest j (by omega) hjl
    ·by_cases hji:j = i
     ·subst hji; rw [s1]; omega
     ·rw [s2 j hji]
      have:=h.rng j (by omega)
      omega
    ·by_cases hji:j = i
     ·subst hji; rw [s1,l1 _ (by omega) (by omega),if_pos rfl]
     ·have:=h.rng j (by omega)
      rw [s2 j hji,l1 _ (by omega) (by omega),if_neg (by omega)]
      exact h.at' j (by omega)
    ·rw [miHas_set,Bool.or_eq_true,decide_eq_true_eq,h.has k]
     constructor
     ·rintro (rfl | ⟨j,hj,he⟩)
      ·exact ⟨i,by omega,rfl⟩
      ·exact ⟨j,by omega,he⟩
     ·rintro ⟨j,hj,he⟩
      by_cases hji:j = i
      ·subst hji; exact .inl he.symm
      ·exact .inr ⟨j,by omega,he⟩
    ·rw [miGet_set]
     by_cases hji:j = i
     ·subst hji; rw [if_pos rfl,s1]
     ·rw [if_neg (hno j (by omega)),s2 j hji]; exact h.get j (by omega)
    ·by_cases hji:j = i <;> by_cases hji':j' = i
     ·rw [hji,hji']
     ·rw [hji,s1,s2 j' hji'] at he
      have:=h.rng j' (by omega)
      omega
     ·rw [hji',s1,s2 j hji] at he
      have:=h.rng j (by omega)
      omega
     ·rw [s2 j hji,s2 j' hji'] at he
      exact h.inj j j' (by omega) (by omega) he
    ·by_cases hn:n = (L.length:Int)
     ·exact ⟨i,by omega,by rw [s1,hn]⟩
     ·obtain ⟨j,hj,he⟩:=h.onto n n0 (by omega)
      exact ⟨j,by omega,by rw [s2 j (by omega)]; exact he⟩
    ·by_cases hji:j = i
     ·subst hji
      rw [s1] at n1
      obtain ⟨j',hj',he⟩:=h.onto n n0 n1
      exact ⟨j',hj',by rw [s2 j' (by omega)]; exact he⟩
     ·rw [s2 j hji] at n1
      obtain ⟨j',hj',he⟩:=h.num j (by omega) n n0 n1
      exact ⟨j',hj',by rw [s2 j' (by omega)]; exact he⟩
  ·right
   have e:i = P.length:=by omega
   subst e
   rw [nlt_n,cond_false]
   refine ⟨_,rfl,Q,L,rfl,hql,h.rng,h.at',fun j j' hj hj'=>⟨h.inj j j' hj hj',fun he=>?_⟩,h.onto,fun j hj n n0 n1=>h.num j (by omega) n n0 n1⟩
   rw [← h.get j hj,← h.get j' hj',he]
 ·refine ⟨by omega,rfl,fun _ _ _=>rfl,fun j hj=>by omega,fun j hj=>by omega,fun k=>⟨fun hk=>?_,fun ⟨j,hj,_⟩=>by omega⟩,fun j hj=>by omega,fun j j' hj=>by omega,by simp,fun n n0 n1=>?_,fun j hj=>by omega⟩
  ·simp [miHas] at hk
  ·simp at n1; omega
theorem Mid.renum {D:Nat} {P Q:List Int} {B L:List Bucket} (h:Mid D P B) (hr:Renum P B Q L):Mid D Q L∧(∀ b,b ∈ L ↔ b ∈ B):=by
 have hpl:=h.plen
 have hdep:∀ i:Nat,i < 2 ^ D→dep L (ix Q (i:Int)) = dep B (ix P (i:Int)):=fun i hi=>by unfold dep; rw [hr.at' i (by omega)]
 have hmem:∀ b,b ∈ L ↔ b ∈ B:=fun b=>by
  constructor
  ·intro hb
   obtain ⟨n,hn,rfl⟩:=List.getElem_of_mem hb
   obtain ⟨j,hj,he⟩:=hr.onto (n:Int) (by omega) (by omega)
   have h1:=hr.at' j hj
   rw [he,ix_get hn] at h1
   rw [h1]
   exact ix_mem (h.rng j (by omega))
  ·intro hb
   obtain ⟨n,hn,rfl⟩:=List.getElem_of_mem hb
   obtain ⟨j,hj,he⟩:=h.onto (n:Int) (by omega) (by omega)
   have h1:=hr.at' j (by omega)
   rw [he,ix_get hn] at h1
   rw [← h1]
   exact ix_mem (hr.rng j (by omega))
 refine ⟨⟨h.d12,by rw [hr.qlen,hpl],fun i hi=>hr.rng i (by omega),fun b hb=>h.dn b ((hmem b).1 hb),fun i j hi hj=>?_,fun n n0 n1=>?_,fun b hb=>h.rise b ((hmem b).1 hb),fun i hi x hx=>?_,fun b hb=>h.cap b ((hmem b).1 hb)⟩,hmem⟩
 ·rw [hdep i hi,hr.iff j i (by omega) (by omega),h.same i j hi hj]
 ·obtain ⟨j,hj,he⟩:=hr.onto n n0 n1
  exact ⟨j,by omega,he⟩
 ·rw [hdep i hi]
  rw [hr.at' i (by omega)] at hx
  exact h.home i hi x hx
end Go.Proofs.Yticigkhhhmiglaa
end

section
namespace Go.Proofs.Yticigkhhhmiglaa
open Go Go.Sx
set_option linter.unusedVariables false
set_option linter.unusedSimpArgs false
def bkt (D:Nat) (P:List Int) (B:List Bucket) (k:Int):Bucket:=ix B (ix P (plc D k:Int))
def dpt (b:Bucket):Nat:=b.Depth.toNat
def KeyIn (M:GItem→Prop) (k:Int):Prop:=∃ v,M ⟨k,v⟩
structure Cont (M:GItem→Prop) (D:Nat) (P:List Int) (B:List Bucket):Prop where
 sub:∀ b ∈ B,∀ x ∈ b.Items,M x
 sup:∀ x,M x→x ∈ (bkt D P B x.Key).Items
def Need (S:Int→Prop) (D:Nat) (P:List Int) (B:List Bucket):Prop:=∀ k:Int,0 < dpt (bkt D P B k)→∃ l:List Int,l.Nodup∧5≤l.length∧∀ x ∈ l,S x∧x % 2 ^ (dpt (bkt D P B k) - 1) = k % 2 ^ (dpt (bkt D P B k) - 1)
def Cap (N:Nat) (B:List Bucket):Prop:=∀ b ∈ B,b.Items.length≤N
theorem Mid.prng {D:Nat} {P:List Int} {B:List Bucket} (h:Mid D P B) (k:Int):0≤ix P (plc D k:Int)∧ix P (plc D k:Int) < (B.length:Int):=h.rng _ (plc_lt D k)
theorem Mid.bmem {D:Nat} {P:List Int} {B:List Bucket} (h:Mid D P B) (k:Int):bkt D P B k ∈ B:=ix_mem (h.prng k)
theorem Mid.bdep {D:Nat} {P:List Int} {B:List Bucket} (h:Mid D P B) (k:Int):(bkt D P B k).Depth = (dpt (bkt D P B k):Int)∧dpt (bkt D P B k)≤D:=h.dep_eq (h.prng k).1 (h.prng k).2
theorem Mid.bhome {D:Nat} {P:List Int} {B:List Bucket} (h:Mid D P B) (k:Int):∀ x ∈ (bkt D P B k).Items,x.Key % 2 ^ dpt (bkt D P B k) = k % 2 ^ dpt (bkt D P B k):=fun x hx=>by
 have:x.Key % 2 ^ dpt (bkt D P B k) = (plc D k:Int) % 2 ^ dpt (bkt D P B k):=h.home _ (plc_lt D k) x hx
 rwa [plc_cast,mod_mod (h.bdep k).2] at this
theorem Mid.bsame {D:Nat} {P:List Int} {B:List Bucket} (h:Mid D P B) (k j:Int):ix P (plc D j:Int) = ix P (plc D k:Int) ↔ j % 2 ^ dpt (bkt D P B k) = k % 2 ^ dpt (bkt D P B k):=by
 have:ix P (plc D j:Int) = ix P (plc D k:Int) ↔ (plc D j:Int) % 2 ^ dpt (bkt D P B k) = (plc D k:Int) % 2 ^ dpt (bkt D P B k):=h.same _ _ (plc_lt D k) (plc_lt D j)
 refine this.trans ?_
 rw [plc_cast,plc_cast,mod_mod (h.bdep k).2,mod_mod (h.bdep k).2]
theorem Mid.bonto {D:Nat} {P:List Int} {B:List Bucket} (h:Mid D P B) {n:Int} (h0:0≤n) (h1:n < (B.length:Int)):∃ k:Int,ix P (plc D k:Int) = n:=by
 obtain ⟨i,hi,he⟩:=h.onto n h0 h1
 refine ⟨(i:Int),?_⟩
 have hc:=p2_cast D
 have:=plc_cast D (i:Int)
 rw [mod_of (by omega) (by omega)] at this
 rw [this]; exact he
theorem Mid.ball {D:Nat} {P:List Int} {B:List Bucket} (h:Mid D P B) {b:Bucket} (hb:b ∈ B):∃ k:Int,bkt D P B k = b:=by
 obtain ⟨n,hn,rfl⟩:=List.getElem_of_mem hb
 obtain ⟨k,hk⟩:=h.bonto (n:=(n:Int)) (by omega) (by omega)
 exact ⟨k,by unfold bkt; rw [hk,ix_get hn]⟩
theorem split_to {D:Nat} {P:List Int} {B:List Bucket} (h:Mid D P B) (n:Int) (h0:0≤n) (h1:n < (B.length:Int)) (ht:dep B n < 12) :
  ∃ (D':Nat) (Q:List Int),dict_split_1 n (D:Int) P B = some ((D':Int),newP Q n (B.length:Int) (dep B n),newB B n (dep B n))∧Mid D' Q B∧dep B n < D'∧(dep B n + 1 = D' ∨ D' = D)∧D≤D'∧∀ k:Int,ix Q (plc D' k:Int) = ix P (plc D k:Int):=by
 have hs:=split_eq h n h0 h1
 obtain ⟨hd,hdD⟩:=h.dep_eq h0 h1
 by_cases he:dep B n = D
 ·rw [he] at hs ht ⊢
  refine ⟨D + 1,P ++ P,?_,h.double (by omega),by omega,.inl rfl,by omega,fun k=>?_⟩
  ·rw [hs]; simp
  ·rw [pp_ix h.plen _ (plc_lt _ _)]
   congr 1
   rw [plc_cast,plc_cast,plc_cast,mod_mod (by omega)]
 ·refine ⟨D,P,?_,h,by omega,.inr rfl,by omega,fun k=>rfl⟩
  rw [hs,show (dep B n == D) = false from by simpa using he]; rfl
theorem bit_plc {t D:Nat} (h:t < D) (k:Int):bitN (plc D k:Int) t = bitN k t:=by
 unfold bitN
 rw [plc_cast,mod_mod (by omega),mod_mod (by omega)]
theorem half_at {D:Nat} {Q:List Int} {B:List Bucket} (h:Mid D Q B) {n:Int} (h0:0≤n) (h1:n < (B.length:Int)) (t:Nat) (ht:t < D) (k:Int) :
  ix (newP Q n (B.length:Int) t) (plc D k:Int) = (bif (ix Q (plc D k:Int) == n) && bitN k t then (B.length:Int) else ix Q (plc D k:Int)) ∧
  bkt D (newP Q n (B.length:Int) t) (newB B n t) k = if ix Q (plc D k:Int) = n then ⟨((t + 1:Nat):Int),bif bitN k t then hiI t (ix B n).Items else loI t (ix B n).Items⟩ else bkt D Q B k:=by
 have e:ix (newP Q n (B.length:Int) t) (plc D k:Int) = (bif (ix Q (plc D k:Int) == n) && bitN k t then (B.length:Int) else ix Q (plc D k:Int)):=by
  rw [newP_ix _ _ _ _ _ (by rw [h.plen]; exact plc_lt D k),bit_plc ht]
 refine ⟨e,?_⟩
 unfold bkt
 rw [e]
 have hr:=h.prng k
 by_cases hn:ix Q (plc D k:Int) = n
 ·rw [if_pos hn,show (ix Q (plc D k:Int) == n) = true from by simpa using hn,Bool.true_and,hn]
  cases bitN k t with
  | true=>rw [cond_true,newB_ix t ⟨h0,h1⟩ ⟨by omega,by omega⟩,if_pos rfl]; rfl
  | false=>rw [cond_false,newB_ix t ⟨h0,h1⟩ ⟨h0,by omega⟩,if_neg (by omega),if_pos rfl]; rfl
 ·rw [if_neg hn,show (ix Q (plc D k:Int) == n) = false from by simpa using hn,Bool.false_and,cond_false,newB_ix t ⟨h0,h1⟩ ⟨hr.1,by omega⟩,if_neg (by omega),if_neg (fun e=>hn e.symm)]
theorem mem_half {t:Nat} {l:List GItem} {k:Int} {x:GItem}:x ∈ (bif bitN k t then hiI t l else loI t l) ↔ x ∈ l∧bitN x.Key t = bitN k t:=by
 cases bitN k t with
 | true=>exact mem_hi
 | false=>exact mem_lo
theorem half_le {t:Nat} {l:List GItem} (k:Int):(bif bitN k t then hiI t l else loI t l).length≤l.length:=by
 cases bitN k t with
 | true=>exact List.length_filter_le ..
 | false=>exact List.length_filter_le ..
theorem half_other {t:Nat} {l:List GItem} {k key:Int} (hk:key ∈ keysOf l) (hb:bitN k t ≠ bitN key t):(bif bitN k t then hiI t l else loI t l).length < l.length:=by
 have key':∀ (p:GItem→Bool) (x:GItem),x ∈ l→p x = false→(l.filter p).length < l.length:=fun p x hx hp=>by
  refine Nat.lt_of_le_of_ne (List.length_filter_le ..) fun e=>?_
  have:=(List.length_filter_eq_length_iff.1 e) x hx
  rw [hp] at this; cases this
 obtain ⟨x,hx,rfl⟩:=List.mem_map.1 hk
 cases hh:bitN k t with
 | true=>exact key' _ x hx (by rw [hh] at hb; cases hx':bitN x.Key t with | true=>exact absurd hx'.symm hb | false=>rfl)
 | false=>exact key' _ x hx (by rw [hh] at hb; cases hx':bitN x.Key t with | false=>exact absurd hx'.symm hb | true=>rfl)
structure Loop (M:GItem→Prop) (w:Prop) (N:Nat) (key:Int) (D:Nat) (P:List Int) (B:List Bucket):Prop where
 mid:Mid D P B
 full:Full D B
 cont:Cont M D P B
 need:w→Need (KeyIn M) D P B
 cap:Cap N B
 few:∀ k:Int,ix P (plc D k:Int) ≠ ix P (plc D key:Int)→(bkt D P B k).Items.length≤4 ∨ (bkt D P B k).Depth = 12
 cur:(bkt D P B key).Items.length≤5 ∨ (bkt D P B key).Depth = 12
 has:key ∈ keysOf (bkt D P B key).Items
structure Table (M:GItem→Prop) (w:Prop) (N:Nat) (D:Nat) (P:List Int) (B:List Bucket):Prop where
 mid:Mid D P B
 num:Num P
 full:Full D B
 few:Few B
 cont:Cont M D P B
 need:w→Need (KeyIn M) D P B
 cap:Cap N B
theorem keys_nodup {l:List GItem} (h:Rise l):(keysOf l).Nodup:=List.Pairwise.imp (fun h=>by omega) h
theorem Loop.next {M:GItem→Prop} {w:Prop} {N:Nat} {key:Int} {D:Nat} {P:List Int} {B:List Bucket} (h:Loop M w N key D P B) (h4:4 < (bkt D P B key).Items.length) (h12:(bkt D P B key).Depth < 12) :
  ∃ (D':Nat) (P':List Int) (B':List Bucket),dict_split_1 (ix P (plc D key:Int)) (D:Int) P B = some ((D':Int),P',B')∧Loop M w N key D' P' B'∧dpt (bkt D' P' B' key) = dpt (bkt D P B key) + 1∧D≤D' ∧
   (∀ k,ix P' (plc D' k:Int) = ix P' (plc D' key:Int) ↔ ix P (plc D k:Int) = ix P (plc D key:Int)∧bitN k (dpt (bkt D P B key)) = bitN key (dpt (bkt D P B key))) ∧
   ∀ k,bkt D' P' B' k = if ix P (plc D k:Int) = ix P (plc D key:Int) then ⟨((dpt (bkt D P B key) + 1:Nat):Int),bif bitN k (dpt (bkt D P B key)) then hiI (dpt (bkt D P B key)) (bkt D P B key).Items else loI (dpt (bkt D P B key)) (bkt D P B key).Items⟩ else bkt D P B k:=by
 have hr:=h.mid.prng key
 have hbd:=h.mid.bdep key
 have hbd':=h.mid.dep_eq hr.1 hr.2
 have hde:dep B (ix P (plc D key:Int)) = dpt (bkt D P B key):=rfl
 obtain ⟨D',Q,hs,hm,htD,hfl,hDD,hQ⟩:=split_to h.mid _ hr.1 hr.2 (by omega)
 have hbQ:∀ k,bkt D' Q B k = bkt D P B k:=fun k=>by unfold bkt; rw [hQ]
 have hat:=fun k=>half_at hm hr.1 hr.2 _ htD k
 refine ⟨D',_,_,hs,?_,?_,?_,fun k=>?_,fun k=>?_⟩
 ·have hnew:=hm.half hr.1 hr.2 htD
  have hnb:ix B (ix P (plc D key:Int)) = bkt D P B key:=rfl
  have hmem:=h.mid.bmem key
  rw [hde,hnb] at hat
  rw [hde] at hnew htD hfl
  rw [hde]
  generalize ht:dpt (bkt D P B key) = t at *
  generalize hn:ix P (plc D key:Int) = n at *
  have ha1:=fun k=>(hat k).1
  have ha2:=fun k=>(hat k).2
  simp only [hQ,hbQ] at ha1 ha2
  -- a new bucket's items are items of an old one
  have old:∀ b ∈ newB B n t,∃ b' ∈ B,(∀ x ∈ b.Items,x ∈ b'.Items)∧b.Items.length≤b'.Items.length:=fun b hb=>by
   have hmm:=ix_mem (l:=B) (j:=n) hr
   rcases newB_mem hb with rfl | rfl | hb
   ·exact ⟨_,hmm,fun x hx=>(mem_hi.1 hx).1,List.length_filter_le ..⟩
   ·exact ⟨_,hmm,fun x hx=>(mem_lo.1 hx).1,List.length_filter_le ..⟩
   ·exact ⟨b,hb,fun x hx=>hx,Nat.le_refl _⟩
  have hcur:=ha2 key
  rw [if_pos hn] at hcur
  have hdne:(bkt D P B key).Depth ≠ 12:=by omega
  have h5:(bkt D P B key).Items.length≤5:=h.cur.resolve_right hdne
  refine ⟨hnew,fun hD=>?_,⟨fun b hb x hx=>?_,fun x hx=>?_⟩,fun hw k hk=>?_,fun b hb=>?_,fun k hne=>?_,?_,?_⟩
  ·rcases hfl with hfl | hfl
   ·refine ⟨bkt D' (newP Q n (B.length:Int) t) (newB B n t) key,hnew.bmem key,?_⟩
    rw [hcur,← hfl]
   ·obtain ⟨b,hb,hbe⟩:=h.full (by omega)
    obtain ⟨k,rfl⟩:=h.mid.ball hb
    have hne:ix P (plc D k:Int) ≠ n:=fun e=>by
     have:bkt D P B k = bkt D P B key:=by unfold bkt; rw [e,hn]
     rw [this] at hbe
     omega
    have:=ha2 k
    rw [if_neg hne] at this
    exact ⟨_,hnew.bmem k,by rw [this,hbe,hfl]⟩
  ·obtain ⟨b',hb',h1,_⟩:=old b hb
   exact h.cont.sub b' hb' x (h1 x hx)
  ·have hx':=h.cont.sup x hx
   rw [ha2 x.Key]
   by_cases he:ix P (plc D x.Key:Int) = n
   ·rw [if_pos he]
    have:bkt D P B x.Key = bkt D P B key:=by unfold bkt; rw [he,hn]
    rw [this] at hx'
    exact mem_half.2 ⟨hx',rfl⟩
   ·rw [if_neg he]; exact hx'
  ·rw [ha2 k] at hk ⊢
   by_cases he:ix P (plc D k:Int) = n
   ·rw [if_pos he] at hk ⊢
    have hdt:dpt ⟨((t + 1:Nat):Int),bif bitN k t then hiI t (bkt D P B key).Items else loI t (bkt D P B key).Items⟩ = t + 1:=by unfold dpt; dsimp only; omega
    rw [hdt]
    refine ⟨keysOf (bkt D P B key).Items,keys_nodup (h.mid.rise _ hmem),by simp [keysOf]; omega,fun x hx=>?_⟩
    obtain ⟨y,hy,rfl⟩:=List.mem_map.1 hx
    refine ⟨⟨y.Value,h.cont.sub _ hmem y hy⟩,?_⟩
    have e1:=h.mid.bhome key y hy
    have e2:=(h.mid.bsame key k).1 (by rw [he,hn])
    rw [ht] at e1 e2
    rw [show t + 1 - 1 = t from by omega,e1,e2]
   ·rw [if_neg he] at hk ⊢
    exact h.need hw k hk
  ·obtain ⟨b',hb',_,h1⟩:=old b hb
   have:=h.cap b' hb'
   omega
  ·rw [ha2 k]
   by_cases he:ix P (plc D k:Int) = n
   ·rw [if_pos he]
    rw [ha1,ha1,he,hn] at hne
    have hbn:bitN k t ≠ bitN key t:=fun e=>hne (by rw [e])
    left
    have:=half_other h.has hbn
    dsimp only
    omega
   ·rw [if_neg he]
    exact h.few k (by rw [hn]; exact he)
  ·rw [hcur]
   left
   have:=half_le (t:=t) (l:=(bkt D P B key).Items) key
   dsimp only
   omega
  ·rw [hcur]
   dsimp only
   obtain ⟨x,hx,hxk⟩:=List.mem_map.1 h.has
   exact List.mem_map.2 ⟨x,mem_half.2 ⟨hx,by rw [hxk]⟩,hxk⟩
 ·have:=(hat key).2
  rw [if_pos (hQ key)] at this
  rw [this,hde]
  unfold dpt; dsimp only; omega
 ·exact hDD
 ·have e1:=(hat k).1
  have e2:=(hat key).1
  rw [hQ,hde] at e1 e2
  rw [beq_self_eq_true,Bool.true_and] at e2
  rw [hde,e1,e2]
  have hk:=h.mid.prng k
  by_cases he:ix P (plc D k:Int) = ix P (plc D key:Int)
  ·rw [he,beq_self_eq_true,Bool.true_and]
   cases bitN k (dpt (bkt D P B key)) <;> cases bitN key (dpt (bkt D P B key)) <;> simp <;> omega
  ·rw [show (ix P (plc D k:Int) == ix P (plc D key:Int)) = false from by simpa using he,Bool.false_and,cond_false]
   refine ⟨fun hc=>?_,fun hc=>absurd hc.1 he⟩
   cases hb:bitN key (dpt (bkt D P B key)) with
   | true=>rw [hb,cond_true] at hc; omega
   | false=>rw [hb,cond_false] at hc; exact absurd hc he
 ·have e:=(hat k).2
  rw [hQ,hbQ,hde] at e
  rw [hde]
  exact e
end Go.Proofs.Yticigkhhhmiglaa
end

section
namespace Go.Proofs.Yticigkhhhmiglaa
open Go Go.Sx
set_option linter.unusedVariables false
set_option linter.unusedSimpArgs false
theorem Mid.bkt_renum {D:Nat} {P Q:List Int} {B L:List Bucket} (h:Mid D P B) (hr:Renum P B Q L) (k:Int):bkt D Q L k = bkt D P B k:=hr.at' _ (by rw [h.plen]; exact plc_lt D k)
theorem Loop.end {M:GItem→Prop} {w:Prop} {N:Nat} {key:Int} {D:Nat} {P:List Int} {B:List Bucket} (h:Loop M w N key D P B) (he:¬ (4 < (bkt D P B key).Items.length∧(bkt D P B key).Depth < 12)) :
  ∃ Q L,dict_number_1 (D:Int) P B = some ((D:Int),L,Q)∧Table M w N D Q L:=by
 have h12:=pow12 h.mid.d12
 have hp:=h.mid.plen
 obtain ⟨Q,L,h1,h2⟩:=number_eq (D:Int) (P:=P) (B:=B) (by omega) (fun i hi=>h.mid.rng i (by omega))
 obtain ⟨hm,hmem⟩:=h.mid.renum h2
 have hb:=h.mid.bkt_renum h2
 refine ⟨Q,L,h1,hm,h2.num,fun hD=>?_,fun b hb'=>?_,⟨fun b hb'=>h.cont.sub b ((hmem b).1 hb'),fun x hx=>by rw [hb]; exact h.cont.sup x hx⟩,fun hw k hk=>?_,fun b hb'=>h.cap b ((hmem b).1 hb')⟩
 ·obtain ⟨b,hb1,hb2⟩:=h.full hD
  exact ⟨b,(hmem b).2 hb1,hb2⟩
 ·obtain ⟨k,rfl⟩:=h.mid.ball ((hmem b).1 hb')
  by_cases hk:ix P (plc D k:Int) = ix P (plc D key:Int)
  ·have e:bkt D P B k = bkt D P B key:=by unfold bkt; rw [hk]
   rw [e]
   have:=h.mid.bdep key
   have hd:=h.mid.d12
   by_cases h4:4 < (bkt D P B key).Items.length
   ·right
    have:¬ (bkt D P B key).Depth < 12:=fun hl=>he ⟨h4,hl⟩
    omega
   ·left; omega
  ·exact h.few k hk
 ·rw [hb] at hk ⊢
  exact h.need hw k hk
theorem put_loop {M:GItem→Prop} {w:Prop} {N:Nat} {key:Int} {D:Nat} {P:List Int} {B:List Bucket} (h:Loop M w N key D P B) :
  ∃ (D':Nat) (Q:List Int) (L:List Bucket),loopO (dict_Put_l1 key) (ix P (plc D key:Int),(D:Int),P,B) = some ((D':Int),L,false,⟨0,0⟩,Q)∧Table M w N D' Q L:=by
 have:=loopO_inv (step:=dict_Put_l1 key) (fun s=>∃ (D:Nat) (P:List Int) (B:List Bucket),s = (ix P (plc D key:Int),(D:Int),P,B)∧Loop M w N key D P B) (fun s=>12 - dpt (ix s.2.2.2 s.1)) (fun r=>∃ (D':Nat) (Q:List Int) (L:List Bucket),r = ((D':Int),L,false,⟨0,0⟩,Q)∧Table M w N D' Q L) (fun s hs=>?_) (s0:=(ix P (plc D key:Int),(D:Int),P,B)) ⟨D,P,B,rfl,h⟩
 ·obtain ⟨r,h1,D',Q,L,rfl,h2⟩:=this
  exact ⟨D',Q,L,h1,h2⟩
 ·obtain ⟨D,P,B,rfl,h⟩:=hs
  unfold dict_Put_l1
  dsimp only
  have hr:=h.mid.prng key
  have hbd:=h.mid.bdep key
  have hc0:decide ((0:Int)≤ix P (plc D key:Int)) = true:=by simpa using hr.1
  have hc1:decide (ix P (plc D key:Int) < ((B.length:Nat):Int)) = true:=by simpa using hr.2
  have hx:ixD B (ix P (plc D key:Int)) = bkt D P B key:=by rw [ixD_pos hr.1]; rfl
  rw [hc0,hc1,hx]
  simp only [Bool.and_self,cond_true,Bool.or_true]
  by_cases hgo:4 < (bkt D P B key).Items.length∧(bkt D P B key).Depth < 12
  ·left
   rw [show decide ((4:Int) < (((bkt D P B key).Items.length:Nat):Int)) = true from by simp; omega,show decide ((bkt D P B key).Depth < 12) = true from by simp; omega]
   obtain ⟨D',P',B',h1,h2,h3,_⟩:=h.next hgo.1 hgo.2
   have h12:=h2.mid.d12
   have hpl:plc D' key < P'.length:=by rw [h2.mid.plen]; exact plc_lt _ _
   rw [h1]
   simp only [Bool.and_self,cond_true,Option.bind_some]
   rw [last_eq key D' (by omega),← plc_cast,Option.bind_some,lt_n hpl,ge_n]
   refine ⟨_,rfl,⟨D',P',B',rfl,h2⟩,?_⟩
   show 12 - dpt (bkt D' P' B' key) < 12 - dpt (bkt D P B key)
   omega
  ·right
   have:(decide ((4:Int) < (((bkt D P B key).Items.length:Nat):Int)) && decide ((bkt D P B key).Depth < 12)) = false:=by
    rw [Bool.and_eq_false_iff]
    by_cases h4:4 < (bkt D P B key).Items.length
    ·right; simp only [decide_eq_false_iff_not]; exact fun hl=>hgo ⟨h4,hl⟩
    ·left; simp; omega
   obtain ⟨Q,L,h1,h2⟩:=h.end hgo
   rw [this,cond_false,h1]
   exact ⟨_,rfl,D,Q,L,rfl,h2⟩
def setB (B:List Bucket) (n:Int) (l:List GItem):List Bucket:=B.set n.toNat { ix B n with Items:=l }
theorem setB_ix {B:List Bucket} {n:Int} (l:List GItem) (hn:0≤n∧n < (B.length:Int)) {k:Int} (hk:0≤k):ix (setB B n l) k = if n = k then { ix B n with Items:=l } else ix B k:=ix_set hn hk _
theorem setB_dep {B:List Bucket} {n:Int} (l:List GItem) (hn:0≤n∧n < (B.length:Int)) {k:Int} (hk:0≤k):dep (setB B n l) k = dep B k:=by
 unfold dep
 rw [setB_ix l hn hk]
 split
 ·rename_i e; rw [e]
 ·rfl
theorem setB_mem {B:List Bucket} {n:Int} {l:List GItem} {b:Bucket} (hb:b ∈ setB B n l):b = { ix B n with Items:=l } ∨ b ∈ B:=by
 rcases List.mem_or_eq_of_mem_set hb with h | h
 ·exact .inr h
 ·exact .inl h
theorem Mid.items {D:Nat} {P:List Int} {B:List Bucket} (h:Mid D P B) (key:Int) (l:List GItem) (hl:Rise l) (hh:∀ x ∈ l,x.Key ∈ keysOf (bkt D P B key).Items ∨ x.Key = key) (hc:l.length≤5000):Mid D P (setB B (ix P (plc D key:Int)) l):=by
 have hr:=h.prng key
 have hlen:(setB B (ix P (plc D key:Int)) l).length = B.length:=by simp [setB]
 have hmem:=h.bmem key
 refine ⟨h.d12,h.plen,fun i hi=>by rw [hlen]; exact h.rng i hi,fun b hb=>?_,fun i j hi hj=>?_,fun n h0 h1=>h.onto n h0 (by rw [hlen] at h1; exact h1),fun b hb=>?_,fun i hi x hx=>?_,fun b hb=>?_⟩
 ·rcases setB_mem hb with rfl | hb
  ·have:=h.dn _ hmem
   exact this
  ·exact h.dn b hb
 ·rw [setB_dep l hr (h.rng i hi).1]; exact h.same i j hi hj
 ·rcases setB_mem hb with rfl | hb
  ·exact hl
  ·exact h.rise b hb
 ·rw [setB_dep l hr (h.rng i hi).1]
  rw [setB_ix l hr (h.rng i hi).1] at hx
  by_cases he:ix P (plc D key:Int) = ix P (i:Int)
  ·rw [if_pos he] at hx
   have hk:key % 2 ^ dep B (ix P (i:Int)) = (i:Int) % 2 ^ dep B (ix P (i:Int)):=by
    have hri:=h.rng i hi
    have:=(h.same i _ hi (plc_lt D key)).1 he
    rwa [plc_cast,mod_mod (h.dep_eq hri.1 hri.2).2] at this
   rcases hh x hx with hx | hx
   ·obtain ⟨y,hy,hyx⟩:=List.mem_map.1 hx
    have:=h.bhome key y hy
    rw [hyx] at this
    have e:dpt (bkt D P B key) = dep B (ix P (i:Int)):=by unfold dpt bkt dep; rw [he]
    rw [e] at this
    rw [this,hk]
   ·rw [hx,hk]
  ·rw [if_neg he] at hx
   exact h.home i hi x hx
 ·rcases setB_mem hb with rfl | hb
  ·exact hc
  ·exact h.cap b hb
theorem bkt_setB {D:Nat} {P:List Int} {B:List Bucket} (h:Mid D P B) (key k:Int) (l:List GItem):bkt D P (setB B (ix P (plc D key:Int)) l) k = if ix P (plc D key:Int) = ix P (plc D k:Int) then { bkt D P B key with Items:=l } else bkt D P B k :=
 setB_ix l (h.prng key) (h.prng k).1
theorem sear_lt {l:List GItem} (hr:Rise l) (hl:l.length≤1000000) {k:Int} (hk:k ∈ keysOf l):∃ h:sear l k < l.length,l[sear l k].Key = k:=by
 obtain ⟨_,h1,h2⟩:=bs_eq l k 0 hr hl
 obtain ⟨x,hx,rfl⟩:=List.mem_map.1 hk
 obtain ⟨q,hq,rfl⟩:=List.getElem_of_mem hx
 have hqs:¬ q < sear l l[q].Key:=fun h=>by have:=h1 q hq h; omega
 have hlt:sear l l[q].Key < l.length:=by omega
 have h3:=h2 _ hlt (Nat.le_refl _)
 refine ⟨hlt,?_⟩
 by_cases e:sear l l[q].Key = q
 ·exact congrArg GItem.Key (getElem_congr_idx e)
 ·have:=List.pairwise_iff_getElem.1 hr (sear l l[q].Key) q (by simpa [keysOf] using hlt) (by simpa [keysOf] using hq) (by omega)
  simp only [keysOf,List.getElem_map] at this
  omega
theorem upd_items {l:List GItem} (hr:Rise l) {q:Nat} (hq:q < l.length) (v:Int):keysOf (l.set q ⟨l[q].Key,v⟩) = keysOf l∧∀ x,x ∈ l.set q ⟨l[q].Key,v⟩ ↔ x = ⟨l[q].Key,v⟩ ∨ (x.Key ≠ l[q].Key∧x ∈ l):=by
 constructor
 ·unfold keysOf
  rw [List.map_set]
  refine List.ext_getElem (by simp) fun i h1 h2=>?_
  rw [List.getElem_set]
  split
  ·rename_i e; subst e; simp
  ·rfl
 ·intro x
  constructor
  ·intro hx
   obtain ⟨i,hi,rfl⟩:=List.getElem_of_mem hx
   rw [List.getElem_set]
   split
   ·exact .inl rfl
   ·rename_i hne
    have hi':i < l.length:=by simpa using hi
    refine .inr ⟨fun e=>?_,List.getElem_mem _⟩
    have:=List.pairwise_iff_getElem.1 (keys_nodup hr)
    rcases Nat.lt_or_gt_of_ne hne with h' | h'
    ·exact this q i (by simpa [keysOf] using hq) (by simpa [keysOf] using hi') h' (by simp [keysOf,e])
    ·exact this i q (by simpa [keysOf] using hi') (by simpa [keysOf] using hq) h' (by simp [keysOf,e])
  ·rintro (rfl | ⟨hne,hx⟩)
   ·exact List.mem_of_getElem? (i:=q) (by simp [hq])
   ·obtain ⟨i,hi,rfl⟩:=List.getElem_of_mem hx
    have hqi:q ≠ i:=fun e=>hne (by subst e; rfl)
    exact List.mem_of_getElem? (i:=i) (by rw [List.getElem?_set_ne hqi,List.getElem?_eq_getElem hi])
theorem ins_items {l:List GItem} (hr:Rise l) (hl:l.length≤1000000) {k v:Int} (hk:k ∉ keysOf l):Rise (insL l (sear l k:Int) [⟨k,v⟩])∧∀ x,x ∈ insL l (sear l k:Int) [⟨k,v⟩] ↔ x = ⟨k,v⟩ ∨ x ∈ l:=by
 obtain ⟨_,h1,h2⟩:=bs_eq l k 0 hr hl
 have hsl:=sear_le l k
 have e:insL l (sear l k:Int) [⟨k,v⟩] = l.take (sear l k) ++ ⟨k,v⟩ :: l.drop (sear l k):=by unfold insL; simp
 rw [e]
 constructor
 ·unfold Rise keysOf at hr ⊢
  have hr':=hr
  rw [← List.take_append_drop (sear l k) l,List.map_append,List.pairwise_append] at hr'
  rw [List.map_append,List.map_cons,List.pairwise_append,List.pairwise_cons]
  refine ⟨hr'.1,⟨fun a ha=>?_,hr'.2.1⟩,fun a ha b hb=>?_⟩
  ·obtain ⟨x,hx,rfl⟩:=List.mem_map.1 ha
   obtain ⟨q,hq,rfl⟩:=List.getElem_of_mem hx
   rw [List.getElem_drop]
   have hq':sear l k + q < l.length:=by simp at hq; omega
   have:=h2 (sear l k + q) hq' (by omega)
   have hne:k ≠ l[sear l k + q].Key:=fun e=>hk (List.mem_map.2 ⟨_,List.getElem_mem hq',e.symm⟩)
   show k < _
   omega
  ·have hak:a < k:=by
    obtain ⟨x,hx,rfl⟩:=List.mem_map.1 ha
    obtain ⟨q,hq,rfl⟩:=List.mem_take_iff_getElem.1 hx
    exact h1 q (by omega) (by omega)
   rcases List.mem_cons.1 hb with rfl | hb
   ·exact hak
   ·exact hr'.2.2 a ha b hb
 ·intro x
  rw [List.mem_append,List.mem_cons]
  have:x ∈ l ↔ x ∈ l.take (sear l k) ∨ x ∈ l.drop (sear l k):=by rw [← List.mem_append,List.take_append_drop]
  rw [this]
  constructor
  ·rintro (h | h | h)
   ·exact .inr (.inl h)
   ·exact .inl h
   ·exact .inr (.inr h)
  ·rintro (h | h | h)
   ·exact .inr (.inl h)
   ·exact .inl h
   ·exact .inr (.inr h)
end Go.Proofs.Yticigkhhhmiglaa
end

section
namespace Go.Proofs.Yticigkhhhmiglaa
open Go Go.Sx
set_option linter.unusedVariables false
set_option linter.unusedSimpArgs false
def putM (M:GItem→Prop) (k v:Int):GItem→Prop:=fun x=>x = ⟨k,v⟩ ∨ (x.Key ≠ k∧M x)
theorem putM_key {M:GItem→Prop} {k v j:Int} (h:KeyIn M j):KeyIn (putM M k v) j:=by
 obtain ⟨u,hu⟩:=h
 by_cases e:j = k
 ·exact ⟨v,.inl (by rw [e])⟩
 ·exact ⟨u,.inr ⟨e,hu⟩⟩
theorem Table.key_iff {M:GItem→Prop} {w:Prop} {N:Nat} {D:Nat} {P:List Int} {B:List Bucket} (h:Table M w N D P B) (k:Int):k ∈ keysOf (bkt D P B k).Items ↔ KeyIn M k:=by
 constructor
 ·intro hk
  obtain ⟨x,hx,rfl⟩:=List.mem_map.1 hk
  exact ⟨x.Value,h.cont.sub _ (h.mid.bmem _) x hx⟩
 ·rintro ⟨v,hv⟩
  exact List.mem_map.2 ⟨_,h.cont.sup _ hv,rfl⟩
theorem Table.onSet {M M':GItem→Prop} {w:Prop} {N N':Nat} {D:Nat} {P:List Int} {B:List Bucket} (h:Table M w N D P B) (key:Int) (l:List GItem) :
  Full D (setB B (ix P (plc D key:Int)) l)∧((∀ k,KeyIn M k→KeyIn M' k)→w→Need (KeyIn M') D P (setB B (ix P (plc D key:Int)) l)):=by
 have hr:=h.mid.prng key
 have hd:∀ k,dpt (bkt D P (setB B (ix P (plc D key:Int)) l) k) = dpt (bkt D P B k):=fun k=>setB_dep l hr (h.mid.prng k).1
 constructor
 ·intro hD
  obtain ⟨b,hb,hbe⟩:=h.full hD
  obtain ⟨k,rfl⟩:=h.mid.ball hb
  refine ⟨bkt D P (setB B (ix P (plc D key:Int)) l) k,ix_mem ⟨(h.mid.prng k).1,by have:=h.mid.prng k; simp [setB]; omega⟩,?_⟩
  rw [bkt_setB h.mid]
  split
  ·rename_i e
   rw [← hbe]
   show (bkt D P B key).Depth = _
   unfold bkt; rw [e]
  ·exact hbe
 ·intro hM hw k hk
  rw [hd] at hk ⊢
  obtain ⟨l,h1,h2,h3⟩:=h.need hw k hk
  exact ⟨l,h1,h2,fun x hx=>⟨hM x (h3 x hx).1,(h3 x hx).2⟩⟩
theorem Table.check {M:GItem→Prop} {w:Prop} {N:Nat} {D:Nat} {P:List Int} {B:List Bucket} (h:Table M w N D P B):dict_Check ⟨(D:Int),P,B⟩ = some ⟨0,0⟩:=check_ok h.mid h.num h.full h.few
theorem keys_len (l:List GItem):(keysOf l).length = l.length:=by simp [keysOf]
theorem put_eq {M:GItem→Prop} {w:Prop} {N:Nat} {D:Nat} {P:List Int} {B:List Bucket} (h:Table M w N D P B) (hN:N < 5000) (key value:Int) :
  ∃ (D':Nat) (P':List Int) (B':List Bucket) (was:Bool),dict_Put ⟨(D:Int),P,B⟩ key value = some ((D':Int),B',was,⟨0,0⟩,P')∧Table (putM M key value) w (N + 1) D' P' B'∧(was = true ↔ KeyIn M key):=by
 have h12:=pow12 h.mid.d12
 have hpl:=h.mid.plen
 obtain ⟨i,hi,hik,hw⟩:=where_eq h.mid key
 have hip:i = plc D key:=by have:=plc_cast D key; omega
 subst hip
 have hr:=h.mid.prng key
 have hmem:=h.mid.bmem key
 have hcap:=h.cap _ hmem
 have hrise:=h.mid.rise _ hmem
 have hc0:decide ((0:Int)≤ix P (plc D key:Int)) = true:=by simpa using hr.1
 have hc1:decide (ix P (plc D key:Int) < ((B.length:Nat):Int)) = true:=by simpa using hr.2
 have hx:ixD B (ix P (plc D key:Int)) = bkt D P B key:=by rw [ixD_pos hr.1]; rfl
 have hb:ix B (ix P (plc D key:Int)) = bkt D P B key:=rfl
 unfold dict_Put
 rw [h.check,Option.bind_some,copied_eq _ h.mid.sz,Option.bind_some,hw]
 rw [hb]
 simp only [Option.bind_some,bne_self_eq_false,cond_false]
 by_cases hk:key ∈ keysOf (bkt D P B key).Items
 ·obtain ⟨hlt,hkey⟩:=sear_lt hrise (by omega) hk
  rw [decide_eq_true hk,cond_true,hc0,hc1,hx,lt_n hlt,ge_n,ix_get hlt]
  simp only [Bool.and_self,cond_true]
  obtain ⟨u1,u2⟩:=upd_items hrise hlt value
  rw [hkey] at u1 u2
  have hm:Mid D P (setB B (ix P (plc D key:Int)) ((bkt D P B key).Items.set (sear (bkt D P B key).Items key) ⟨key,value⟩)):=h.mid.items key _ (by unfold Rise; rw [u1]; exact hrise) (fun x hx=>.inl (by rw [← u1]; exact List.mem_map.2 ⟨x,hx,rfl⟩)) (by rw [List.length_set]; omega)
  obtain ⟨s1,s2⟩:=h.onSet (M':=putM M key value) (N':=N) key ((bkt D P B key).Items.set (sear (bkt D P B key).Items key) ⟨key,value⟩)
  refine ⟨D,P,_,true,?_,⟨hm,h.num,s1,fun b hb'=>?_,⟨fun b hb' x hx'=>?_,fun x hx'=>?_⟩,s2 fun k=>putM_key,fun b hb'=>?_⟩,by simp [← h.key_iff,hk]⟩
  ·simp only [Int.toNat_natCast,hkey]
   rfl
  ·rcases setB_mem hb' with rfl | hb'
   ·rw [hb]; dsimp only; rw [List.length_set]; exact h.few _ hmem
   ·exact h.few b hb'
  ·by_cases he:x.Key = key
   ·obtain ⟨k,rfl⟩:=hm.ball hb'
    have hk':=hm.bhome k x hx'
    have hsame:=(hm.bsame k key).2 (by rw [he] at hk'; exact hk')
    rw [bkt_setB h.mid,if_pos hsame] at hx'
    dsimp only at hx'
    rcases (u2 x).1 hx' with e | ⟨e,_⟩
    ·exact .inl e
    ·exact absurd he e
   ·refine .inr ⟨he,?_⟩
    rcases setB_mem hb' with rfl | hb'
    ·rw [hb] at hx'
     dsimp only at hx'
     rcases (u2 x).1 hx' with e | ⟨_,e⟩
     ·rw [e] at he; exact absurd rfl he
     ·exact h.cont.sub _ hmem x e
    ·exact h.cont.sub b hb' x hx'
  ·rw [bkt_setB h.mid]
   rcases hx' with rfl | ⟨hne,hM⟩
   ·rw [if_pos rfl]
    exact (u2 _).2 (.inl rfl)
   ·have hs:=h.cont.sup x hM
    by_cases he:ix P (plc D key:Int) = ix P (plc D x.Key:Int)
    ·rw [if_pos he]
     have e:bkt D P B x.Key = bkt D P B key:=by unfold bkt; rw [he]
     rw [e] at hs
     exact (u2 x).2 (.inr ⟨hne,hs⟩)
    ·rw [if_neg he]; exact hs
  ·rcases setB_mem hb' with rfl | hb'
   ·rw [hb]; dsimp only; rw [List.length_set]; omega
   ·have:=h.cap b hb'; omega
 ·have hsl:=sear_le (bkt D P B key).Items key
  rw [decide_eq_false hk,cond_false,hc0,hc1,hx]
  simp only [Bool.and_self,cond_true]
  rw [show ((((bkt D P B key).Items.length:Nat):Int) == 5000) = false from by simp; omega,cond_false]
  obtain ⟨n1,n2⟩:=ins_items (k:=key) (v:=value) hrise (by omega) hk
  have hins:slices_Insert_Item (sear (bkt D P B key).Items key:Int) (bkt D P B key).Items [⟨key,value⟩] = some (insL (bkt D P B key).Items (sear (bkt D P B key).Items key:Int) [⟨key,value⟩]):=by
   unfold slices_Insert_Item
   rw [decide_eq_true ⟨by omega,by omega,rfl,by omega⟩,cond_true]
  have hlen:(insL (bkt D P B key).Items (sear (bkt D P B key).Items key:Int) [⟨key,value⟩]).length = (bkt D P B key).Items.length + 1:=by rw [insL_len]; rfl
  rw [hins,Option.bind_some]
  generalize insL (bkt D P B key).Items (sear (bkt D P B key).Items key:Int) [⟨key,value⟩] = l at *
  have hm:Mid D P (setB B (ix P (plc D key:Int)) l):=h.mid.items key l n1 (fun x hx=>by
   rcases (n2 x).1 hx with rfl | hx
   ·exact .inr rfl
   ·exact .inl (List.mem_map.2 ⟨x,hx,rfl⟩)) (by omega)
  obtain ⟨s1,s2⟩:=h.onSet (M':=putM M key value) (N':=N) key l
  have hcur:bkt D P (setB B (ix P (plc D key:Int)) l) key = { bkt D P B key with Items:=l }:=by rw [bkt_setB h.mid,if_pos rfl]
  have hnk:∀ x,M x→x.Key ≠ key:=fun x hx e=>hk ((h.key_iff key).2 ⟨x.Value,by rw [← e]; exact hx⟩)
  have hloop:Loop (putM M key value) w (N + 1) key D P (setB B (ix P (plc D key:Int)) l):=by
   refine ⟨hm,s1,⟨fun b hb' x hx'=>?_,fun x hx'=>?_⟩,s2 fun k=>putM_key,fun b hb'=>?_,fun k hne=>?_,?_,?_⟩
   ·rcases setB_mem hb' with rfl | hb'
    ·rw [hb] at hx'
     dsimp only at hx'
     rcases (n2 x).1 hx' with e | e
     ·exact .inl e
     ·have:=h.cont.sub _ hmem x e
      exact .inr ⟨hnk x this,this⟩
    ·have:=h.cont.sub b hb' x hx'
     exact .inr ⟨hnk x this,this⟩
   ·rw [bkt_setB h.mid]
    rcases hx' with rfl | ⟨hne,hM⟩
    ·rw [if_pos rfl]
     exact (n2 _).2 (.inl rfl)
    ·have hs:=h.cont.sup x hM
     by_cases he:ix P (plc D key:Int) = ix P (plc D x.Key:Int)
     ·rw [if_pos he]
      have e:bkt D P B x.Key = bkt D P B key:=by unfold bkt; rw [he]
      rw [e] at hs
      exact (n2 x).2 (.inr hs)
     ·rw [if_neg he]; exact hs
   ·rcases setB_mem hb' with rfl | hb'
    ·dsimp only; omega
    ·have:=h.cap b hb'; omega
   ·rw [bkt_setB h.mid,if_neg (fun e=>hne e.symm)]
    exact h.few _ (h.mid.bmem k)
   ·rw [hcur]
    dsimp only
    rcases h.few _ hmem with h4 | h4
    ·left; omega
    ·right; exact h4
   ·rw [hcur]
    exact List.mem_map.2 ⟨⟨key,value⟩,(n2 _).2 (.inl rfl),rfl⟩
  obtain ⟨D',Q,L,g1,g2⟩:=put_loop hloop
  refine ⟨D',Q,L,false,?_,g2,by simp [← h.key_iff,hk]⟩
  exact g1
theorem new_table {w:Prop}:Table (fun _=>False) w 0 0 [0] [⟨0,[]⟩]:=by
 have h0:∀ i:Nat,i < 2 ^ 0→i = 0:=fun i hi=>by simpa using hi
 refine ⟨⟨by omega,rfl,fun i hi=>?_,fun b hb=>?_,fun i j hi hj=>?_,fun n n0 n1=>?_,fun b hb=>?_,fun i hi x hx=>?_,fun b hb=>?_⟩,fun i hi m m0 m1=>?_,fun hD=>by omega,fun b hb=>?_,⟨fun b hb x hx=>?_,fun x hx=>hx.elim⟩,fun hw k hk=>?_,fun b hb=>?_⟩
 ·rw [h0 i hi]; decide
 ·rw [List.mem_singleton.1 hb]; decide
 ·rw [h0 i hi,h0 j hj]
  simp
 ·refine ⟨0,by decide,?_⟩
  simp only [List.length_singleton] at n1
  have:n = 0:=by omega
  rw [this]; rfl
 ·rw [List.mem_singleton.1 hb]; exact List.Pairwise.nil
 ·rw [h0 i hi] at hx
  exact absurd hx (by intro h; cases h)
 ·rw [List.mem_singleton.1 hb]; decide
 ·simp only [List.length_singleton] at hi
  have:i = 0:=by omega
  rw [this] at m1
  have e:ix ([0]:List Int) ((0:Nat):Int) = 0:=rfl
  omega
 ·rw [List.mem_singleton.1 hb]; left; decide
 ·rw [List.mem_singleton.1 hb] at hx
  cases hx
 ·have:plc 0 k = 0:=by have:=plc_lt 0 k; omega
  unfold bkt at hk
  rw [this] at hk
  exact absurd hk (by decide)
 ·rw [List.mem_singleton.1 hb]; decide
end Go.Proofs.Yticigkhhhmiglaa
end

section
namespace Go.Proofs.Yticigkhhhmiglaa
open Go Go.Sx
set_option linter.unusedVariables false
set_option linter.unusedSimpArgs false
theorem rise_ext:∀ {l m:List GItem},Rise l→Rise m→(∀ x,x ∈ l ↔ x ∈ m)→l = m
 | [],[],_,_,_=>rfl
 | [],b :: m,_,_,h=>absurd ((h b).2 (List.mem_cons_self ..)) (by intro h; cases h)
 | a :: l,[],_,_,h=>absurd ((h a).1 (List.mem_cons_self ..)) (by intro h; cases h)
 | a :: l,b :: m,hl,hm,h=>by
  have hl':=List.pairwise_cons.1 hl
  have hm':=List.pairwise_cons.1 hm
  have la:∀ x ∈ l,a.Key < x.Key:=fun x hx=>hl'.1 _ (List.mem_map.2 ⟨x,hx,rfl⟩)
  have mb:∀ x ∈ m,b.Key < x.Key:=fun x hx=>hm'.1 _ (List.mem_map.2 ⟨x,hx,rfl⟩)
  have hab:a = b:=by
   rcases List.mem_cons.1 ((h a).1 (List.mem_cons_self ..)) with e | e
   ·exact e
   ·rcases List.mem_cons.1 ((h b).2 (List.mem_cons_self ..)) with e' | e'
    ·exact e'.symm
    ·have:=mb a e; have:=la b e'; omega
  subst hab
  congr 1
  refine rise_ext hl'.2 hm'.2 fun x=>⟨fun hx=>?_,fun hx=>?_⟩
  ·rcases List.mem_cons.1 ((h x).1 (List.mem_cons_of_mem _ hx)) with e | e
   ·have:=la x hx; rw [e] at this; omega
   ·exact e
  ·rcases List.mem_cons.1 ((h x).2 (List.mem_cons_of_mem _ hx)) with e | e
   ·have:=mb x hx; rw [e] at this; omega
   ·exact e
theorem Table.in_iff {M:GItem→Prop} {w:Prop} {N D:Nat} {P:List Int} {B:List Bucket} (h:Table M w N D P B) (k:Int) (x:GItem):x ∈ (bkt D P B k).Items ↔ M x∧x.Key % 2 ^ dpt (bkt D P B k) = k % 2 ^ dpt (bkt D P B k):=by
 constructor
 ·intro hx
  exact ⟨h.cont.sub _ (h.mid.bmem k) x hx,h.mid.bhome k x hx⟩
 ·rintro ⟨h1,h2⟩
  have hs:=h.cont.sup x h1
  have e:bkt D P B x.Key = bkt D P B k:=by unfold bkt; rw [(h.mid.bsame k x.Key).2 h2]
  rw [e] at hs; exact hs
theorem plc_nat {D i:Nat} (h:i < 2 ^ D):plc D (i:Int) = i:=by
 have h1:=plc_cast D (i:Int)
 have h2:=p2_cast D
 rw [mod_of (by omega) (by omega)] at h1
 omega
def Own (S:Int→Prop):GItem→Prop:=fun x=>x.Value = x.Key∧S x.Key
theorem own_key {S:Int→Prop} {k:Int}:KeyIn (Own S) k ↔ S k:=⟨fun ⟨v,h1,h2⟩=>h2,fun h=>⟨k,rfl,h⟩⟩
theorem Table.congr {M M':GItem→Prop} {w:Prop} {N D:Nat} {P:List Int} {B:List Bucket} (h:Table M w N D P B) (he:∀ x,M x ↔ M' x):Table M' w N D P B:=by
 have:M = M':=funext fun x=>propext (he x)
 subst this; exact h
theorem put_own {S:Int→Prop} {w:Prop} {N D:Nat} {P:List Int} {B:List Bucket} (h:Table (Own S) w N D P B) (hN:N < 5000) (k:Int) :
  ∃ (D':Nat) (P':List Int) (B':List Bucket) (was:Bool),dict_Put ⟨(D:Int),P,B⟩ k k = some ((D':Int),B',was,⟨0,0⟩,P')∧Table (Own fun x=>S x ∨ x = k) w (N + 1) D' P' B'∧(was = true ↔ S k):=by
 obtain ⟨D',P',B',was,h1,h2,h3⟩:=put_eq h hN k k
 refine ⟨D',P',B',was,h1,h2.congr fun x=>?_,by rw [h3,own_key]⟩
 unfold putM Own
 constructor
 ·rintro (rfl | ⟨h1,h2,h3⟩)
  ·exact ⟨rfl,.inr rfl⟩
  ·exact ⟨h2,.inl h3⟩
 ·rintro ⟨h1,h2⟩
  by_cases e:x.Key = k
  ·left
   cases x with
   | mk a b=>simp only at h1 e; rw [h1,e]
  ·exact .inr ⟨e,h1,h2.resolve_right e⟩
theorem new_own {w:Prop}:Table (Own fun _=>False) w 0 0 [0] [⟨0,[]⟩]:=new_table.congr fun x=>⟨fun h=>h.elim,fun h=>h.2⟩
def cl (n d:Nat):Nat:=(n + 2 ^ d - 1) / 2 ^ d
theorem p2n (d:Nat):0 < 2 ^ d:=Nat.pow_pos (by omega)
theorem Table.dense {n N D:Nat} {P:List Int} {B:List Bucket} (h:Table (Own fun x=>0≤x∧x < (n:Int)) True N D P B) (hn:n≤120):cl n D≤4∧∀ d,d < D→4 < cl n d:=by
 have hd12:=h.mid.d12
 constructor
 ·have hb:=h.mid.bdep 0
  generalize ht:dpt (bkt D P B 0) = t at *
  have hpos:=p2n t
  have hposD:=p2n D
  have hmono:cl n D≤cl n t:=by
   have hle:=Nat.pow_le_pow_right (n:=2) (by omega) hb.2
   unfold cl
   by_cases h0:n = 0
   ·subst h0
    rw [Nat.div_eq_of_lt (by omega)]; exact Nat.zero_le _
   ·have e:∀ q,0 < q→(n + q - 1) / q = (n - 1) / q + 1:=fun q hq=>by
     rw [show n + q - 1 = (n - 1) + q by omega,Nat.add_div_right _ hq]
    rw [e _ hpos,e _ hposD]
    exact Nat.succ_le_succ (Nat.div_le_div_left hle hpos)
  rcases h.few _ (h.mid.bmem 0) with hf | hf
  ·refine Nat.le_trans hmono (Nat.le_trans ?_ hf)
   have hnd:((List.range (cl n t)).map fun j=>((j * 2 ^ t:Nat):Int)).Nodup:=by
    rw [List.nodup_iff_pairwise_ne,List.pairwise_map]
    refine List.Pairwise.imp (fun {a b} hab e=>hab ?_) (List.nodup_iff_pairwise_ne.1 List.nodup_range)
    exact Nat.eq_of_mul_eq_mul_right hpos (by omega)
   have hsub:((List.range (cl n t)).map fun j=>((j * 2 ^ t:Nat):Int)) ⊆ keysOf (bkt D P B 0).Items:=fun x hx=>by
    obtain ⟨j,hj,rfl⟩:=List.mem_map.1 hx
    have hj:=List.mem_range.1 hj
    have hlt:j * 2 ^ t < n:=by
     have h1:(j + 1) * 2 ^ t≤n + 2 ^ t - 1:=Nat.le_trans (Nat.mul_le_mul_right _ hj) (Nat.div_mul_le_self _ _)
     rw [Nat.add_mul] at h1
     omega
    refine List.mem_map.2 ⟨⟨((j * 2 ^ t:Nat):Int),((j * 2 ^ t:Nat):Int)⟩,(h.in_iff 0 _).2 ⟨⟨rfl,Int.natCast_nonneg _,Int.ofNat_lt.2 hlt⟩,?_⟩,rfl⟩
    dsimp only
    rw [ht,Int.natCast_mul,p2_cast,Int.mul_emod_left,Int.zero_emod]
   have:=hnd.length_le_of_subset hsub
   simpa [keys_len] using this
  ·have hD:D = 12:=by omega
   subst hD
   unfold cl
   have:(n + 2 ^ 12 - 1) / 2 ^ 12≤1:=by omega
   omega
 ·intro d hd
  obtain ⟨b,hb,hbe⟩:=h.full (by omega)
  obtain ⟨k,rfl⟩:=h.mid.ball hb
  have hbd:=h.mid.bdep k
  have hdk:dpt (bkt D P B k) = D:=by omega
  obtain ⟨l,h1,h2,h3⟩:=h.need trivial k (by omega)
  rw [hdk] at h3
  have hpos:=p2_pos d
  have hposn:=p2n d
  have hm:∀ x ∈ l,0≤x∧x < (n:Int)∧x % 2 ^ d = k % 2 ^ d:=fun x hx=>by
   obtain ⟨a,b⟩:=h3 x hx
   have a':=own_key.1 a
   exact ⟨a'.1,a'.2,by rw [← mod_mod (k:=x) (show d≤D - 1 by omega),b,mod_mod (by omega)]⟩
  have hnd:(l.map fun x=>(x / 2 ^ d).toNat).Nodup:=by
   rw [List.nodup_iff_pairwise_ne,List.pairwise_map]
   refine (List.pairwise_iff_forall_sublist).2 fun {a b} hab e=>?_
   have ha:=hm a (hab.subset (by simp))
   have hb:=hm b (hab.subset (by simp))
   have hne:a ≠ b:=by
    have:=(List.nodup_iff_pairwise_ne.1 h1).sublist hab
    simpa using this
   have e1:=Int.emod_add_mul_ediv a (2 ^ d)
   have e2:=Int.emod_add_mul_ediv b (2 ^ d)
   have n1:=Int.ediv_nonneg ha.1 (Int.le_of_lt hpos)
   have n2:=Int.ediv_nonneg hb.1 (Int.le_of_lt hpos)
   have:a / 2 ^ d = b / 2 ^ d:=by omega
   rw [this,ha.2.2] at e1
   rw [hb.2.2] at e2
   omega
  have hsub:(l.map fun x=>(x / 2 ^ d).toNat) ⊆ List.range (cl n d):=fun y hy=>by
   obtain ⟨x,hx,rfl⟩:=List.mem_map.1 hy
   have hx':=hm x hx
   rw [List.mem_range]
   obtain ⟨a,rfl⟩:∃ a:Nat,x = (a:Int):=⟨x.toNat,by omega⟩
   have e:(((a:Int)) / 2 ^ d).toNat = a / 2 ^ d:=by
    rw [← p2_cast,← Int.natCast_ediv,Int.toNat_natCast]
   rw [e]
   unfold cl
   rw [show n + 2 ^ d - 1 = (n - 1) + 2 ^ d by omega,Nat.add_div_right _ hposn]
   exact Nat.lt_succ_of_le (Nat.div_le_div_right (by omega))
  have:=hnd.length_le_of_subset hsub
  simp only [List.length_map,List.length_range] at this
  omega
end Go.Proofs.Yticigkhhhmiglaa
end

section
namespace Go.Proofs.Yticigkhhhmiglaa
open Go Go.Sx
set_option linter.unusedVariables false
set_option linter.unusedSimpArgs false
theorem own_congr {S S':Int→Prop} {w:Prop} {N D:Nat} {P:List Int} {B:List Bucket} (h:Table (Own S) w N D P B) (he:∀ x,S x ↔ S' x):Table (Own S') w N D P B :=
 h.congr fun x=>⟨fun h=>⟨h.1,(he _).1 h.2⟩,fun h=>⟨h.1,(he _).2 h.2⟩⟩
theorem dict_five {N D:Nat} {P:List Int} {B:List Bucket} (h:Table (Own fun x=>0≤x∧x < ((5:Nat):Int)) True N D P B):D = 1∧B.length = 2∧(ix B 0).Items.length = 3:=by
 obtain ⟨h1,h2⟩:=h.dense (by omega)
 have hD:D = 1:=by
  have a1:D ≠ 0:=fun e=>by subst e; exact absurd h1 (by decide)
  have a2:¬ 1 < D:=fun e=>absurd (h2 1 e) (by decide)
  omega
 subst hD
 have hpl:=h.mid.plen
 obtain ⟨b,hb,hbe⟩:=h.full (by omega)
 obtain ⟨k,rfl⟩:=h.mid.ball hb
 have hbd:=h.mid.bdep k
 have hk1:dpt (bkt 1 P B k) = 1:=by omega
 have hne:ix P ((0:Nat):Int) ≠ ix P ((1:Nat):Int):=fun e=>by
  -- the bucket of k is the bucket of all
  have hpk:=plc_lt 1 k
  have hs:=h.mid.bsame k
  rw [hk1] at hs
  have hall:∀ i:Nat,i < 2 ^ 1→ix P (i:Int) = ix P ((0:Nat):Int):=fun i hi=>by
   have:i = 0 ∨ i = 1:=by omega
   rcases this with rfl | rfl
   ·rfl
   ·exact e.symm
  have e0:=(hs 0).1 (by rw [hall _ (plc_lt 1 0),hall _ hpk])
  have e1:=(hs 1).1 (by rw [hall _ (plc_lt 1 1),hall _ hpk])
  rw [← e1] at e0
  exact absurd e0 (by decide)
 have hz:ix P ((0:Nat):Int) = 0:=by
  have r:=h.mid.rng 0 (by omega)
  refine Int.le_antisymm (Int.not_lt.1 fun hlt=>?_) r.1
  obtain ⟨j,hj,_⟩:=h.num 0 (by omega) 0 (by omega) hlt
  omega
 have ho:ix P ((1:Nat):Int) = 1:=by
  have r:=h.mid.rng 1 (by omega)
  have:¬ 1 < ix P ((1:Nat):Int):=fun hlt=>by
   obtain ⟨j,hj,he⟩:=h.num 1 (by omega) 1 (by omega) hlt
   have:j = 0:=by omega
   subst this
   omega
  omega
 have hbl:=h.mid.blen
 have hr1:=h.mid.rng 1 (by omega)
 have hlen:B.length = 2:=by omega
 refine ⟨rfl,hlen,?_⟩
 have e0:bkt 1 P B 0 = ix B 0:=by unfold bkt; rw [show plc 1 0 = 0 from by decide,hz]
 have hd0:dpt (bkt 1 P B 0) = 1:=by
  have hb0:=h.mid.bdep 0
  have:dpt (bkt 1 P B 0) ≠ 0:=fun e=>by
   have:=(h.mid.bsame 0 1).2 (by rw [e]; decide)
   rw [show plc 1 0 = 0 from by decide,show plc 1 1 = 1 from by decide] at this
   exact hne this.symm
  omega
 have hI:(bkt 1 P B 0).Items = [⟨0,0⟩,⟨2,2⟩,⟨4,4⟩]:=by
  refine rise_ext (h.mid.rise _ (h.mid.bmem 0)) (by unfold Rise keysOf; decide) fun x=>?_
  rw [h.in_iff,hd0]
  cases x with
  | mk a b =>
   unfold Own
   simp only [List.mem_cons,GItem.mk.injEq,List.not_mem_nil,or_false]
   omega
 rw [← e0,hI]; rfl
theorem begun_eq:taskmilllaw_dictBegun = some true:=by
 unfold taskmilllaw_dictBegun dict_New
 simp only [Option.bind_some]
 have hinv:=loopO_inv (step:=taskmilllaw_dictBegun_l1) (fun s=>∃ (k D:Nat) (P:List Int) (B:List Bucket),s = ((k:Int),(D:Int),B,P)∧k≤5∧Table (Own fun x=>0≤x∧x < (k:Int)) True k D P B) (fun s=>5 - s.1.toNat) (fun r=>r = true) (fun s hs=>?_) (s0:=(0,0,[⟨0,[]⟩],[0])) ⟨0,0,[0],[⟨0,[]⟩],rfl,by omega,own_congr new_own fun x=>⟨fun h=>h.elim,fun h=>by omega⟩⟩
 ·obtain ⟨r,hr,rfl⟩:=hinv
  exact hr
 ·obtain ⟨k,D,P,B,rfl,hk,h⟩:=hs
  unfold taskmilllaw_dictBegun_l1
  dsimp only
  by_cases hk5:k < 5
  ·left
   obtain ⟨D',P',B',was,h1,h2,h3⟩:=put_own h (by omega) (k:Int)
   rw [show decide ((k:Int) < 5) = true from by simp; omega,cond_true,h1,wrap_n1 k (by omega)]
   refine ⟨_,rfl,⟨k + 1,D',P',B',rfl,by omega,own_congr h2 fun x=>by omega⟩,by simp only [Int.toNat_natCast]; omega⟩
  ·right
   have:k = 5:=by omega
   subst this
   obtain ⟨rfl,h2,h3⟩:=dict_five h
   rw [show decide (((5:Nat):Int) < 5) = false from by decide,cond_false,h2,h3]
   exact ⟨_,rfl,by decide⟩
theorem same_items (l:List GItem) (hl:l.length≤1000000):taskmillref_SameItems l l = some true:=by
 unfold taskmillref_SameItems
 rw [show (((l.length:Nat):Int) != ((l.length:Nat):Int)) = false from by simp,cond_false]
 have:=loopO_all (step:=taskmillref_SameItems_l1 l l) (fun i=>((i:Nat):Int)) (some true) l.length (fun i hi=>?_) ?_
 ·exact this
 ·unfold taskmillref_SameItems_l1
  rw [lt_n hi,ge_n,wrap_n1 i (by omega)]
  simp
 ·unfold taskmillref_SameItems_l1
  rw [nlt_n]; rfl
theorem same_ints (l:List Int) (hl:l.length≤1000000):taskmillref_Ints l l = some true:=by
 unfold taskmillref_Ints
 rw [show (((l.length:Nat):Int) != ((l.length:Nat):Int)) = false from by simp,cond_false]
 have:=loopO_all (step:=taskmillref_Ints_l1 l l) (fun i=>((i:Nat):Int)) (some true) l.length (fun i hi=>?_) ?_
 ·exact this
 ·unfold taskmillref_Ints_l1
  rw [lt_n hi,ge_n,wrap_n1 i (by omega)]
  simp
 ·unfold taskmillref_Ints_l1
  rw [nlt_n]; rfl
theorem same_dict (D:Int) (P:List Int) (B:List Bucket) (h:Sz P B):taskmillref_SameDict ⟨D,P,B⟩ ⟨D,P,B⟩ = some true:=by
 unfold taskmillref_SameDict taskmillref_SameDict_j2
 have hb:=h.b
 dsimp only
 rw [show (D != D) = false from by simp,cond_false,same_ints _ h.p]
 simp only [Option.bind_some,Bool.not_true,cond_false,bne_self_eq_false]
 have:=loopO_all (step:=taskmillref_SameDict_l1 ⟨D,P,B⟩ ⟨D,P,B⟩) (fun i=>((i:Nat):Int)) (some true) B.length (fun i hi=>?_) ?_
 ·exact this
 ·unfold taskmillref_SameDict_l1 taskmillref_SameDict_j1
  dsimp only
  rw [lt_n hi,ge_n,wrap_n1 i (by omega),same_items _ (h.i _ (ix_mem ⟨by omega,by omega⟩))]
  simp
 ·unfold taskmillref_SameDict_l1
  dsimp only
  rw [nlt_n]; rfl
def oth (by':Int) (n i:Nat):Nat:=((by' % (n:Int)).toNat + n - i) % n
end Go.Proofs.Yticigkhhhmiglaa
end

section
namespace Go.Proofs.Yticigkhhhmiglaa
open Go Go.Sx
set_option linter.unusedVariables false
set_option linter.unusedSimpArgs false
theorem and_one (x:Int):(IntKind.i64.wrap (((BitVec.ofInt (IntKind.i64).bits x &&& BitVec.ofInt (IntKind.i64).bits 1).toNat:Nat):Int)) = x % 2:=by
 have e:(BitVec.ofInt (IntKind.i64).bits x &&& BitVec.ofInt (IntKind.i64).bits 1).toNat = (x % 2 ^ 64).toNat % 2:=by
  show (BitVec.ofInt 64 x &&& BitVec.ofInt 64 1).toNat = _
  rw [BitVec.toNat_and,bits_toNat,bits_toNat]
  have e1:((1:Int) % 2 ^ 64).toNat = 2 ^ 1 - 1:=by decide
  rw [e1,Nat.and_two_pow_sub_one_eq_mod]
 have e2:(((x % 2 ^ 64).toNat % 2:Nat):Int) = x % 2:=mod_low x 1 (by omega)
 rw [e,e2,wrap_id (by omega) (by omega)]
theorem bit_div (key:Int) (b:Nat) (hb:b≤40):key / 2 ^ b % 2 = bif bitN key b then 1 else 0:=by
 have h1:=p2_pos b
 have h2:=Int.emod_add_mul_ediv key (2 ^ b)
 have h3:=Int.emod_add_mul_ediv (key / 2 ^ b) 2
 have hp:(2:Int) ^ (b + 1) = 2 ^ b * 2:=Int.pow_succ ..
 have r0:=mod_nn key b
 have r1:=mod_lt key b
 have key':key % 2 ^ (b + 1) = key % 2 ^ b + 2 ^ b * (key / 2 ^ b % 2):=by
  have hr:key / 2 ^ b % 2 = 0 ∨ key / 2 ^ b % 2 = 1:=by omega
  have e:key = (key % 2 ^ b + 2 ^ b * (key / 2 ^ b % 2)) + 2 ^ (b + 1) * (key / 2 ^ b / 2):=by
   rw [hp,Int.mul_assoc,Int.add_assoc,← Int.mul_add,h3,h2]
  have hlt:0≤key % 2 ^ b + 2 ^ b * (key / 2 ^ b % 2)∧key % 2 ^ b + 2 ^ b * (key / 2 ^ b % 2) < 2 ^ (b + 1):=by
   rcases hr with hr | hr <;> rw [hr] <;> omega
  conv=>lhs; rw [e]
  rw [Int.add_mul_emod_self_left,mod_of hlt.1 hlt.2]
 rw [mod_succ key b hb] at key'
 have hr:key / 2 ^ b % 2 = 0 ∨ key / 2 ^ b % 2 = 1:=by omega
 cases hbit:bitN key b with
 | true =>
  rw [hbit,cond_true] at key'
  rcases hr with hr | hr
  ·rw [hr] at key'; omega
  ·rw [hr]; rfl
 | false =>
  rw [hbit,cond_false] at key'
  rcases hr with hr | hr
  ·rw [hr]; rfl
  ·rw [hr] at key'; omega
theorem shr_eq (key:Int) (b:Nat) (hb:b≤40):(IntKind.i64.wrap (((BitVec.ofInt (IntKind.i64).bits (Int.fdiv key (2 ^ (min ((b:Nat):Int).toNat (IntKind.i64).bits))) &&& BitVec.ofInt (IntKind.i64).bits 1).toNat:Nat):Int)) = bif bitN key b then 1 else 0:=by
 have e:min ((b:Nat):Int).toNat (IntKind.i64).bits = b:=by
  show min b 64 = b; omega
 have h1:=p2_pos b
 rw [and_one,e,Int.fdiv_eq_ediv_of_nonneg _ (by omega),bit_div key b hb]
theorem bits_eq (key:Int) (t:Nat) (ht:t≤40):taskmillref_Bits key (t:Int) = some (key % 2 ^ t):=by
 unfold taskmillref_Bits
 refine Eq.trans ?_ (loopO_all (step:=taskmillref_Bits_l1 key (t:Int)) (fun i=>(key % 2 ^ i,((i:Nat):Int))) (some (key % 2 ^ t)) t (fun i hi=>?_) ?_)
 ·rw [show key % 2 ^ 0 = 0 from by rw [Int.pow_zero]; exact Int.emod_one _]; rfl
 ·unfold taskmillref_Bits_l1 taskmillref_Bits_j1
  dsimp only
  have h40:(2:Int) ^ 40 = 1099511627776:=by decide
  have h1:=p2_le (show i≤40 by omega)
  have h2:=p2_pos i
  have r0:=mod_nn key i
  have r1:=mod_lt key i
  rw [show decide ((i:Int) < (t:Int)) = true from by simp; omega,ge_n,shr_eq key i (by omega),wrap_n1 i (by omega),mod_succ key i (by omega)]
  simp only [cond_true]
  cases bitN key i with
  | true=>rw [cond_true,cond_true,sh_eq i (by omega),wrap_id (by omega) (by omega)]; rfl
  | false=>rw [cond_false,cond_false,Int.add_zero]; rfl
 ·unfold taskmillref_Bits_l1
  dsimp only
  rw [nlt_n]; rfl
theorem loop_or {S S' ρ:Type} {step:S→Option (S ⊕ (S' ⊕ ρ))} (E:Nat→S) (bad:Nat→Option ρ) (last:Option ρ) (s':S') (n:Nat)
  (h1:∀ i,i < n→bad i = none→step (E i) = some (.inl (E (i + 1)))) (h2:∀ i w,i < n→bad i = some w→step (E i) = some (.inr (.inr w)))
  (h3:(∀ i,i < n→bad i = none)→step (E n) = (toldOr last s').map .inr):loopO step (E 0) = toldOr ((firstAt bad n).or last) s':=by
 have walk:∀ k,k≤n→(∀ i,i < k→bad i = none)→loopO step (E 0) = loopO step (E k):=by
  intro k
  induction k with
  | zero=>exact fun _ _=>rfl
  | succ k ih =>
   intro hk hb
   rw [ih (by omega) fun i hi=>hb i (by omega),loopO_inl (h1 k (by omega) (hb k (by omega)))]
 cases hf:firstAt bad n with
 | none =>
  have hb:=(firstAt_none n).1 hf
  rw [walk n (Nat.le_refl _) hb,loopO_out (h3 hb)]; rfl
 | some r =>
  obtain ⟨i,g1,g2,g3⟩:=firstAt_some n hf
  rw [walk i (by omega) g3,loopO_inr (h2 i r g1 g2)]; rfl
theorem loop_or' {S ρ:Type} {step:S→Option (S ⊕ ρ)} (E:Nat→S) (bad:Nat→Option ρ) (rest:Option ρ) (n:Nat)
  (h1:∀ i,i < n→(∀ j,j < i→bad j = none)→step (E i) = toldOr (bad i) (E (i + 1)))
  (h3:(∀ i,i < n→bad i = none)→step (E n) = rest.map .inr):loopO step (E 0) = (firstAt bad n).or rest:=by
 have walk:∀ k,k≤n→(∀ i,i < k→bad i = none)→loopO step (E 0) = loopO step (E k):=by
  intro k
  induction k with
  | zero=>exact fun _ _=>rfl
  | succ k ih =>
   intro hk hb
   have:=h1 k (by omega) fun i hi=>hb i (by omega)
   rw [hb k (by omega),toldOr_none] at this
   rw [ih (by omega) fun i hi=>hb i (by omega),loopO_inl this]
 cases hf:firstAt bad n with
 | none =>
  have hb:=(firstAt_none n).1 hf
  rw [walk n (Nat.le_refl _) hb,loopO_out (h3 hb)]; rfl
 | some r =>
  obtain ⟨i,g1,g2,g3⟩:=firstAt_some n hf
  have:=h1 i g1 g3
  rw [g2,toldOr_some] at this
  rw [walk i (by omega) g3,loopO_inr this]; rfl
def badI (b:Bucket) (n f j:Nat):Option Fault :=
 if (ix b.Items (j:Int)).Key % 2 ^ dpt b ≠ (f:Int) % 2 ^ dpt b then some ⟨11,(n:Int)⟩
 else if 0 < j∧(ix b.Items (j:Int)).Key≤(ix b.Items ((j - 1:Nat):Int)).Key then some ⟨10,(n:Int)⟩ else none
def muchF (b:Bucket) (n:Nat):Option Fault:=if 5000 < b.Items.length then some ⟨9,(n:Int)⟩ else none
def badP (P:List Int) (b:Bucket) (n f i:Nat):Option Fault:=if (ix P (i:Int) == (n:Int)) != ((i:Int) % 2 ^ dpt b == (f:Int) % 2 ^ dpt b) then some ⟨4,(n:Int)⟩ else none
def manyF (b:Bucket) (n:Nat):Option Fault:=if 4 < b.Items.length∧b.Depth < 12 then some ⟨2,(n:Int)⟩ else none
def firstP (P:List Int) (n:Nat):Nat:=(firstIf (fun i=>decide (ix P (i:Int) = (n:Int))) P.length).getD 0
def insideF (P:List Int) (b:Bucket) (n f:Nat):Option Fault:=(firstAt (badP P b n f) P.length).or ((manyF b n).or ((firstAt (badI b n f) b.Items.length).or (muchF b n)))
def bucketF (D:Int) (P:List Int) (B:List Bucket) (n:Nat):Option Fault :=
 if (ix B (n:Int)).Depth < 0 ∨ D < (ix B (n:Int)).Depth then some ⟨4,(n:Int)⟩ else insideF P (ix B (n:Int)) n (firstP P n)
def seenN (P:List Int):Nat→Nat
 | 0=>0
 | i + 1=>if ix P (i:Int) = (seenN P i:Int) then seenN P i + 1 else seenN P i
def badS (P:List Int) (B:List Bucket) (i:Nat):Option Fault:=if ix P (i:Int) < 0 ∨ (B.length:Int)≤ix P (i:Int) ∨ (seenN P i:Int) < ix P (i:Int) then some ⟨5,(i:Int)⟩ else none
def falseF (D:Int) (B:List Bucket):Option Fault:=if 0 < D∧¬ ∃ b ∈ B,b.Depth = D then some ⟨7,-1⟩ else none
def sizeF (P:List Int) (B:List Bucket):Option Fault:=if seenN P P.length ≠ B.length then some ⟨8,-1⟩ else none
def faultF (d:Dict):Fault :=
 if d.Depth < 0 ∨ 12 < d.Depth then ⟨3,-1⟩ else if (d.Places.length:Int) ≠ 2 ^ d.Depth.toNat then ⟨8,-1⟩
 else ((firstAt (badS d.Places d.Buckets) d.Places.length).or ((sizeF d.Places d.Buckets).or ((firstAt (bucketF d.Depth d.Places d.Buckets) d.Buckets.length).or (falseF d.Depth d.Buckets)))).getD ⟨0,0⟩
theorem seen_le (P:List Int):∀ i,seenN P i≤i
 | 0=>Nat.le_refl _
 | i + 1=>by
  have:=seen_le P i
  unfold seenN
  split <;> omega
theorem seen_at {P:List Int} {B:List Bucket}:∀ {i:Nat},i≤P.length→(∀ j,j < i→badS P B j = none)→(∀ m:Nat,m < seenN P i ↔ ∃ j,j < i∧ix P (j:Int) = (m:Int))∧seenN P i≤B.length
 | 0,_,_=>⟨fun m=>⟨fun h=>by simp [seenN] at h,fun ⟨j,hj,_⟩=>by omega⟩,Nat.zero_le _⟩
 | i + 1,hi,h=>by
  obtain ⟨ih,ih2⟩:=seen_at (i:=i) (by omega) fun j hj=>h j (by omega)
  have hb:=h i (by omega)
  unfold badS at hb
  have hb':¬ (ix P (i:Int) < 0 ∨ (B.length:Int)≤ix P (i:Int) ∨ (seenN P i:Int) < ix P (i:Int)):=fun hc=>by rw [if_pos hc] at hb; cases hb
  unfold seenN
  split
  ·rename_i he
   refine ⟨fun m=>⟨fun hm=>?_,fun ⟨j,hj,hje⟩=>?_⟩,by omega⟩
   ·by_cases hms:m = seenN P i
    ·exact ⟨i,by omega,by rw [he,hms]⟩
    ·obtain ⟨j,hj,hje⟩:=(ih m).1 (by omega)
     exact ⟨j,by omega,hje⟩
   ·by_cases hji:j = i
    ·subst hji; omega
    ·have:=(ih m).2 ⟨j,by omega,hje⟩; omega
  ·rename_i he
   refine ⟨fun m=>⟨fun hm=>?_,fun ⟨j,hj,hje⟩=>?_⟩,ih2⟩
   ·obtain ⟨j,hj,hje⟩:=(ih m).1 hm
    exact ⟨j,by omega,hje⟩
   ·by_cases hji:j = i
    ·subst hji; omega
    ·exact (ih m).2 ⟨j,by omega,hje⟩
theorem firstP_at {P:List Int} {n:Nat} (h:∃ j,j < P.length∧ix P (j:Int) = (n:Int)):firstP P n < P.length∧ix P (firstP P n:Int) = (n:Int)∧∀ j,j < firstP P n→ix P (j:Int) ≠ (n:Int):=by
 unfold firstP
 cases hf:firstIf (fun i=>decide (ix P (i:Int) = (n:Int))) P.length with
 | none =>
  obtain ⟨j,hj,he⟩:=h
  have:=firstIf_none.1 hf j hj
  simp [he] at this
 | some i =>
  obtain ⟨h1,h2,h3⟩:=firstIf_some hf
  refine ⟨h1,by simpa using h2,fun j hj=>by simpa using h3 j hj⟩
section
variable {D:Int} {P:List Int} {B:List Bucket}
theorem cki (hb:Sz P B) (n f:Nat) (hn:n < B.length) (hd:0≤(ix B (n:Int)).Depth∧(ix B (n:Int)).Depth≤12):loopO (dict_Check_l1 ⟨D,P,B⟩ (n:Int) (f:Int)) 0 = toldOr ((firstAt (badI (ix B (n:Int)) n f) (ix B (n:Int)).Items.length).or (muchF (ix B (n:Int)) n)) (((n + 1:Nat):Int)):=by
 have hl:=hb.i _ (ix_mem (l:=B) (j:=(n:Int)) ⟨by omega,by omega⟩)
 have hbl:=hb.b
 have hdep:(ix B (n:Int)).Depth = (dpt (ix B (n:Int)):Int):=by unfold dpt; omega
 have hd12:dpt (ix B (n:Int))≤12:=by unfold dpt; omega
 have go:∀ j:Nat,j < (ix B (n:Int)).Items.length→dict_Check_l1 ⟨D,P,B⟩ (n:Int) (f:Int) (j:Int) = match badI (ix B (n:Int)) n f j with
   | some w=>some (.inr (.inr w))
   | none=>some (.inl (((j + 1:Nat):Int))):=fun j hj=>by
  unfold dict_Check_l1 badI
  dsimp only
  rw [lt_n hj,ge_n,hdep,last_eq _ _ (by omega),last_eq _ _ (by omega),wrap_n1 j (by omega)]
  simp only [Bool.and_self,cond_true,Option.bind_some]
  by_cases h1:(ix (ix B (n:Int)).Items (j:Int)).Key % 2 ^ dpt (ix B (n:Int)) = (f:Int) % 2 ^ dpt (ix B (n:Int))
  ·rw [h1,bne_self_eq_false,cond_false,if_neg (by simp)]
   cases j with
   | zero=>simp
   | succ j =>
    have hj':j < (ix B (n:Int)).Items.length:=by omega
    rw [show IntKind.i64.wrap (((j + 1:Nat):Int) - 1) = (j:Int) from by rw [wrap_id (by omega) (by omega)]; omega,lt_n hj',ge_n,show j + 1 - 1 = j from rfl]
    by_cases h2:(ix (ix B (n:Int)).Items ((j + 1:Nat):Int)).Key≤(ix (ix B (n:Int)).Items (j:Int)).Key
    ·rw [if_pos ⟨by omega,h2⟩,decide_eq_true h2,show decide ((0:Int) < ((j + 1:Nat):Int)) = true from decide_eq_true (by omega)]
     rfl
    ·rw [if_neg (fun h=>h2 h.2),decide_eq_false h2]
     simp
  ·rw [if_pos h1,bne_iff_ne.2 h1,cond_true]; rfl
 refine loop_or (fun j=>((j:Nat):Int)) (badI (ix B (n:Int)) n f) (muchF (ix B (n:Int)) n) _ _ (fun j hj hn'=>by rw [go j hj,hn']) (fun j w hj hw=>by rw [go j hj,hw]) (fun _=>?_)
 unfold dict_Check_l1 muchF
 dsimp only
 rw [nlt_n,cond_false,wrap_n1 n (by omega)]
 by_cases h:5000 < (ix B (n:Int)).Items.length
 ·rw [if_pos h,show decide ((5000:Int) < (((ix B (n:Int)).Items.length:Nat):Int)) = true from by simp; omega]; rfl
 ·rw [if_neg h,show decide ((5000:Int) < (((ix B (n:Int)).Items.length:Nat):Int)) = false from by simp; omega]; rfl
theorem ckp (hb:Sz P B) (n f:Nat) (hn:n < B.length) (hd:0≤(ix B (n:Int)).Depth∧(ix B (n:Int)).Depth≤12):loopO (dict_Check_l2 ⟨D,P,B⟩ (n:Int)) ((f:Int),0) = toldOr (insideF P (ix B (n:Int)) n f) (((n + 1:Nat):Int)):=by
 have hpl:=hb.p
 have hdep:(ix B (n:Int)).Depth = (dpt (ix B (n:Int)):Int):=by unfold dpt; omega
 have hd12:dpt (ix B (n:Int))≤12:=by unfold dpt; omega
 have go:∀ i:Nat,i < P.length→dict_Check_l2 ⟨D,P,B⟩ (n:Int) ((f:Int),(i:Int)) = match badP P (ix B (n:Int)) n f i with
   | some w=>some (.inr (.inr w))
   | none=>some (.inl ((f:Int),((i + 1:Nat):Int))):=fun i hi=>by
  unfold dict_Check_l2 badP
  dsimp only
  rw [lt_n hi,ge_n,hdep,last_eq _ _ (by omega),last_eq _ _ (by omega),wrap_n1 i (by omega)]
  simp only [Bool.and_self,cond_true,Option.bind_some]
  generalize ((ix P (i:Int) == (n:Int)) != ((i:Int) % 2 ^ dpt (ix B (n:Int)) == (f:Int) % 2 ^ dpt (ix B (n:Int)))) = c
  cases c <;> rfl
 refine loop_or (fun i=>((f:Int),((i:Nat):Int))) (badP P (ix B (n:Int)) n f) _ _ P.length (fun j hj hn'=>by rw [go j hj,hn']) (fun j w hj hw=>by rw [go j hj,hw]) (fun _=>?_)
 unfold dict_Check_l2
 dsimp only
 rw [nlt_n,cond_false]
 unfold manyF
 by_cases h:4 < (ix B (n:Int)).Items.length∧(ix B (n:Int)).Depth < 12
 ·rw [if_pos h,show (decide ((4:Int) < (((ix B (n:Int)).Items.length:Nat):Int)) && decide ((ix B (n:Int)).Depth < 12)) = true from by simp; omega]; rfl
 ·rw [if_neg h,show (decide ((4:Int) < (((ix B (n:Int)).Items.length:Nat):Int)) && decide ((ix B (n:Int)).Depth < 12)) = false from by simp; omega,cond_false,cki hb n f hn hd]; rfl
theorem ckb (hb:Sz P B) (hD:D≤12) (hall:∀ n:Nat,n < B.length→∃ j,j < P.length∧ix P (j:Int) = (n:Int)):loopO (dict_Check_l3 ⟨D,P,B⟩) 0 = (firstAt (bucketF D P B) B.length).or (some ((falseF D B).getD ⟨0,0⟩)):=by
 have hbl:=hb.b
 refine loop_or' (fun n=>((n:Nat):Int)) (bucketF D P B) _ B.length (fun n hn _=>?_) (fun _=>?_)
 ·unfold dict_Check_l3 bucketF
  dsimp only
  obtain ⟨g1,g2,g3⟩:=firstP_at (hall n hn)
  rw [lt_n hn,ge_n]
  simp only [Bool.and_self,cond_true]
  by_cases h:(ix B (n:Int)).Depth < 0 ∨ D < (ix B (n:Int)).Depth
  ·rw [if_pos h,show (decide ((ix B (n:Int)).Depth < 0) || decide (D < (ix B (n:Int)).Depth)) = true from by simpa using h]; rfl
  ·rw [if_neg h,show (decide ((ix B (n:Int)).Depth < 0) || decide (D < (ix B (n:Int)).Depth)) = false from by simp; omega,cond_false]
   have hidx:slices_Index_int P (n:Int) = some (firstP P n:Int):=by
    unfold slices_Index_int
    have:=loopO_if (step:=slices_Index_int_l1 P (n:Int)) (fun i=>((i:Nat):Int)) (fun i=>decide ((n:Int) = ix P (i:Int))) (fun i=>some (i:Int)) (some (-1)) P.length (fun i hi hp=>?_) (fun i hi hp=>?_) (fun _=>?_)
    ·rw [show ((0:Nat):Int) = 0 from rfl] at this
     rw [this]
     have hpp:=hb.p
     cases hf:firstIf (fun i=>decide ((n:Int) = ix P (i:Int))) P.length with
     | none =>
      have:=firstIf_none.1 hf _ g1
      simp [g2] at this
     | some i =>
      obtain ⟨a1,a2,a3⟩:=firstIf_some hf
      have a2:(n:Int) = ix P (i:Int):=by simpa using a2
      have:i = firstP P n:=by
       rcases Nat.lt_trichotomy i (firstP P n) with h | h | h
       ·exact absurd a2.symm (g3 i h)
       ·exact h
       ·have:=a3 _ h; simp [g2] at this
      rw [this]
    ·have hpp:=hb.p
     unfold slices_Index_int_l1
     simp only [decide_eq_false_iff_not] at hp
     rw [lt_n hi,ge_n,wrap_n1 i (by omega),show ((n:Int) == ix P (i:Int)) = false from by simpa using hp]
     rfl
    ·unfold slices_Index_int_l1
     simp only [decide_eq_true_eq] at hp
     rw [lt_n hi,ge_n]
     simp [hp]
    ·unfold slices_Index_int_l1
     rw [nlt_n]; rfl
   rw [hidx,Option.bind_some,ckp hb n _ hn (by omega)]
 ·unfold dict_Check_l3 dict_Check_j2 falseF
  dsimp only
  rw [nlt_n,cond_false]
  by_cases h0:0 < D
  ·rw [decide_eq_true h0,cond_true]
   by_cases h:∃ b ∈ B,b.Depth = D
   ·rw [contains_eq B ⟨D,P,B⟩ (by omega) h,if_neg (fun hc=>hc.2 h)]; rfl
   ·rw [if_pos ⟨h0,h⟩]
    have:slices_ContainsFunc_Bucket B ⟨D,P,B⟩ = some false:=by
     unfold slices_ContainsFunc_Bucket slices_IndexFunc_Bucket
     have:=loopO_all (step:=slices_IndexFunc_Bucket_l1 B ⟨D,P,B⟩) (fun i=>((i:Nat):Int)) (some (-1)) B.length (fun i hi=>?_) ?_
     ·rw [show ((0:Nat):Int) = 0 from rfl] at this
      rw [this]; rfl
     ·unfold slices_IndexFunc_Bucket_l1 dict_Check_1
      have hne:(ix B (i:Int)).Depth ≠ D:=fun e=>h ⟨_,ix_mem ⟨by omega,by omega⟩,e⟩
      rw [lt_n hi,ge_n,wrap_n1 i (by omega),show ((ix B (i:Int)).Depth == D) = false from by simpa using hne]
      rfl
     ·unfold slices_IndexFunc_Bucket_l1
      rw [nlt_n]; rfl
    rw [this]; rfl
  ·rw [decide_eq_false h0,cond_false,if_neg (fun hc=>h0 hc.1)]; rfl
theorem check_fault (d:Dict) (hb:Sz d.Places d.Buckets):dict_Check d = some (faultF d):=by
 obtain ⟨D,P,B⟩:=d
 have hpl:=hb.p
 have hbl:=hb.b
 unfold dict_Check faultF
 dsimp only at *
 by_cases h:D < 0 ∨ 12 < D
 ·rw [if_pos h,show (decide (D < 0) || decide (12 < D)) = true from by simpa using h]; rfl
 ·rw [if_neg h,show (decide (D < 0) || decide (12 < D)) = false from by simp; omega,cond_false]
  obtain ⟨t,rfl⟩:∃ t:Nat,D = (t:Int):=⟨D.toNat,by omega⟩
  rw [ge_n,cond_true,sh_eq t (by omega),Int.toNat_natCast]
  by_cases hs:((P.length:Nat):Int) = 2 ^ t
  ·rw [if_neg (by simpa using hs),show (((P.length:Nat):Int) != 2 ^ t) = false from by simpa using hs,cond_false]
   have:=loop_or' (step:=dict_Check_l4 ⟨(t:Int),P,B⟩) (fun i=>((seenN P i:Int),((i:Nat):Int))) (badS P B) (some (((sizeF P B).or ((firstAt (bucketF (t:Int) P B) B.length).or (falseF (t:Int) B))).getD ⟨0,0⟩)) P.length (fun i hi hbef=>?_) (fun hall=>?_)
   ·refine Eq.trans (show _ = loopO (dict_Check_l4 ⟨(t:Int),P,B⟩) ((seenN P 0:Int),((0:Nat):Int)) from rfl) ?_
    rw [this]
    cases firstAt (badS P B) P.length <;> rfl
   ·unfold dict_Check_l4 badS dict_Check_j1
    dsimp only
    have hsl:=seen_le P i
    rw [lt_n hi,ge_n]
    simp only [Bool.and_self,cond_true]
    by_cases hc:ix P (i:Int) < 0 ∨ (B.length:Int)≤ix P (i:Int) ∨ (seenN P i:Int) < ix P (i:Int)
    ·rw [if_pos hc,show (decide (ix P (i:Int) < 0) || (decide (((B.length:Nat):Int)≤ix P (i:Int)) || decide ((seenN P i:Int) < ix P (i:Int)))) = true from by simpa using hc]; rfl
    ·rw [if_neg hc,show (decide (ix P (i:Int) < 0) || (decide (((B.length:Nat):Int)≤ix P (i:Int)) || decide ((seenN P i:Int) < ix P (i:Int)))) = false from by simp; omega,cond_false,wrap_n1 i (by omega),wrap_n1 (seenN P i) (by omega)]
     have e:seenN P (i + 1) = if ix P (i:Int) = (seenN P i:Int) then seenN P i + 1 else seenN P i:=rfl
     rw [e]
     by_cases he:ix P (i:Int) = (seenN P i:Int)
     ·rw [if_pos he,show (ix P (i:Int) == (seenN P i:Int)) = true from by simpa using he]; rfl
     ·rw [if_neg he,show (ix P (i:Int) == (seenN P i:Int)) = false from by simpa using he]; rfl
   ·unfold dict_Check_l4 sizeF
    dsimp only
    rw [nlt_n,cond_false]
    obtain ⟨s1,s2⟩:=seen_at (Nat.le_refl _) hall
    by_cases hc:seenN P P.length = B.length
    ·rw [if_neg (by simpa using hc),show ((seenN P P.length:Int) != ((B.length:Nat):Int)) = false from by simp [hc],cond_false,ckb hb (by omega) (fun n hn=>(s1 n).1 (by omega))]
     cases firstAt (bucketF (t:Int) P B) B.length <;> rfl
    ·rw [if_pos hc,show ((seenN P P.length:Int) != ((B.length:Nat):Int)) = true from by simp; omega]; rfl
  ·rw [if_pos hs,show (((P.length:Nat):Int) != 2 ^ t) = true from bne_iff_ne.2 hs]; rfl
end
end Go.Proofs.Yticigkhhhmiglaa
end

section
namespace Go.Proofs.Yticigkhhhmiglaa
open Go Go.Sx
set_option linter.unusedVariables false
set_option linter.unusedSimpArgs false
section
variable {D:Int} {P:List Int} {B:List Bucket}
def anyD (D:Int) (B:List Bucket) (n:Nat):Bool:=(List.range n).any fun i=>decide ((ix B (i:Int)).Depth = D)
theorem anyD_succ (D:Int) (B:List Bucket) (n:Nat):anyD D B (n + 1) = (anyD D B n || ((ix B (n:Int)).Depth == D)):=by
 unfold anyD
 rw [List.range_succ,List.any_append]
 simp only [List.any_cons,List.any_nil,Bool.or_false]
 congr 1
theorem anyD_all (D:Int) (B:List Bucket):anyD D B B.length = decide (∃ b ∈ B,b.Depth = D):=by
 unfold anyD
 rw [Bool.eq_iff_iff,List.any_eq_true,decide_eq_true_eq]
 constructor
 ·rintro ⟨i,hi,he⟩
  exact ⟨_,ix_mem (j:=(i:Int)) ⟨by omega,by have:=List.mem_range.1 hi; omega⟩,by simpa using he⟩
 ·rintro ⟨b,hb,he⟩
  obtain ⟨i,hi,rfl⟩:=List.getElem_of_mem hb
  exact ⟨i,List.mem_range.2 hi,by rw [ix_get hi]; simpa using he⟩
theorem dfi (hb:Sz P B) (sm:Bool) (n f:Nat) (hn:n < B.length) (hd:0≤(ix B (n:Int)).Depth∧(ix B (n:Int)).Depth≤12):loopO (taskmillref_DictFault_l1 ⟨D,P,B⟩ sm (n:Int) ((f:Int) % 2 ^ dpt (ix B (n:Int)))) 0 = toldOr ((firstAt (badI (ix B (n:Int)) n f) (ix B (n:Int)).Items.length).or (muchF (ix B (n:Int)) n)) ((sm || ((ix B (n:Int)).Depth == D)),((n + 1:Nat):Int)):=by
 have hl:=hb.i _ (ix_mem (l:=B) (j:=(n:Int)) ⟨by omega,by omega⟩)
 have hbl:=hb.b
 have hdep:(ix B (n:Int)).Depth = (dpt (ix B (n:Int)):Int):=by unfold dpt; omega
 have hd12:dpt (ix B (n:Int))≤12:=by unfold dpt; omega
 have go:∀ j:Nat,j < (ix B (n:Int)).Items.length→taskmillref_DictFault_l1 ⟨D,P,B⟩ sm (n:Int) ((f:Int) % 2 ^ dpt (ix B (n:Int))) (j:Int) = match badI (ix B (n:Int)) n f j with
   | some w=>some (.inr (.inr w))
   | none=>some (.inl (((j + 1:Nat):Int))):=fun j hj=>by
  unfold taskmillref_DictFault_l1 badI
  dsimp only
  rw [lt_n hj,ge_n]
  have hbt:taskmillref_Bits (ix (ix B (n:Int)).Items (j:Int)).Key (ix B (n:Int)).Depth = some ((ix (ix B (n:Int)).Items (j:Int)).Key % 2 ^ dpt (ix B (n:Int))):=by
   conv=>lhs; rw [hdep]
   exact bits_eq _ _ (by omega)
  rw [hbt,wrap_n1 j (by omega)]
  simp only [Bool.and_self,cond_true,Option.bind_some,Bool.or_true]
  by_cases h1:(ix (ix B (n:Int)).Items (j:Int)).Key % 2 ^ dpt (ix B (n:Int)) = (f:Int) % 2 ^ dpt (ix B (n:Int))
  ·rw [h1,bne_self_eq_false,cond_false,if_neg (by simp)]
   cases j with
   | zero=>simp
   | succ j =>
    have hj':j < (ix B (n:Int)).Items.length:=by omega
    rw [show IntKind.i64.wrap (((j + 1:Nat):Int) - 1) = (j:Int) from by rw [wrap_id (by omega) (by omega)]; omega,lt_n hj',ge_n,show j + 1 - 1 = j from rfl]
    by_cases h2:(ix (ix B (n:Int)).Items ((j + 1:Nat):Int)).Key≤(ix (ix B (n:Int)).Items (j:Int)).Key
    ·rw [if_pos ⟨by omega,h2⟩,decide_eq_true h2,show decide ((0:Int) < ((j + 1:Nat):Int)) = true from decide_eq_true (by omega)]
     rfl
    ·rw [if_neg (fun h=>h2 h.2),decide_eq_false h2]
     simp
  ·rw [if_pos h1,bne_iff_ne.2 h1,cond_true]; rfl
 refine loop_or (fun j=>((j:Nat):Int)) (badI (ix B (n:Int)) n f) (muchF (ix B (n:Int)) n) _ _ (fun j hj hn'=>by rw [go j hj,hn']) (fun j w hj hw=>by rw [go j hj,hw]) (fun _=>?_)
 unfold taskmillref_DictFault_l1 muchF
 dsimp only
 rw [nlt_n,cond_false,wrap_n1 n (by omega)]
 by_cases h:5000 < (ix B (n:Int)).Items.length
 ·rw [if_pos h,show decide ((5000:Int) < (((ix B (n:Int)).Items.length:Nat):Int)) = true from by simp; omega]; rfl
 ·rw [if_neg h,show decide ((5000:Int) < (((ix B (n:Int)).Items.length:Nat):Int)) = false from by simp; omega]; rfl
theorem dfp (hb:Sz P B) (sm:Bool) (n f:Nat) (hn:n < B.length) (hd:0≤(ix B (n:Int)).Depth∧(ix B (n:Int)).Depth≤12):loopO (taskmillref_DictFault_l2 ⟨D,P,B⟩ sm (n:Int)) ((f:Int) % 2 ^ dpt (ix B (n:Int)),0) = toldOr (insideF P (ix B (n:Int)) n f) ((sm || ((ix B (n:Int)).Depth == D)),((n + 1:Nat):Int)):=by
 have hpl:=hb.p
 have hdep:(ix B (n:Int)).Depth = (dpt (ix B (n:Int)):Int):=by unfold dpt; omega
 have hd12:dpt (ix B (n:Int))≤12:=by unfold dpt; omega
 have go:∀ i:Nat,i < P.length→taskmillref_DictFault_l2 ⟨D,P,B⟩ sm (n:Int) ((f:Int) % 2 ^ dpt (ix B (n:Int)),(i:Int)) = match badP P (ix B (n:Int)) n f i with
   | some w=>some (.inr (.inr w))
   | none=>some (.inl ((f:Int) % 2 ^ dpt (ix B (n:Int)),((i + 1:Nat):Int))):=fun i hi=>by
  unfold taskmillref_DictFault_l2 badP
  dsimp only
  have hbt:taskmillref_Bits (i:Int) (ix B (n:Int)).Depth = some ((i:Int) % 2 ^ dpt (ix B (n:Int))):=by
   conv=>lhs; rw [hdep]
   exact bits_eq _ _ (by omega)
  rw [lt_n hi,ge_n,hbt,wrap_n1 i (by omega)]
  simp only [Bool.and_self,cond_true,Option.bind_some]
  generalize ((ix P (i:Int) == (n:Int)) != ((i:Int) % 2 ^ dpt (ix B (n:Int)) == (f:Int) % 2 ^ dpt (ix B (n:Int)))) = c
  cases c <;> rfl
 refine loop_or (fun i=>((f:Int) % 2 ^ dpt (ix B (n:Int)),((i:Nat):Int))) (badP P (ix B (n:Int)) n f) _ _ P.length (fun j hj hn'=>by rw [go j hj,hn']) (fun j w hj hw=>by rw [go j hj,hw]) (fun _=>?_)
 unfold taskmillref_DictFault_l2
 dsimp only
 rw [nlt_n,cond_false]
 unfold manyF
 by_cases h:4 < (ix B (n:Int)).Items.length∧(ix B (n:Int)).Depth < 12
 ·rw [if_pos h,show (decide ((4:Int) < (((ix B (n:Int)).Items.length:Nat):Int)) && decide ((ix B (n:Int)).Depth < 12)) = true from by simp; omega]; rfl
 ·rw [if_neg h,show (decide ((4:Int) < (((ix B (n:Int)).Items.length:Nat):Int)) && decide ((ix B (n:Int)).Depth < 12)) = false from by simp; omega,cond_false,dfi hb sm n f hn hd]; rfl
theorem dff (hb:Sz P B) (sm:Bool) (n:Nat) (hn:n < B.length) (hd:0≤(ix B (n:Int)).Depth∧(ix B (n:Int)).Depth≤12) (hall:∃ j,j < P.length∧ix P (j:Int) = (n:Int)):loopO (taskmillref_DictFault_l3 ⟨D,P,B⟩ sm (n:Int)) 0 = toldOr (insideF P (ix B (n:Int)) n (firstP P n)) ((sm || ((ix B (n:Int)).Depth == D)),((n + 1:Nat):Int)):=by
 obtain ⟨g1,g2,g3⟩:=firstP_at hall
 have hpl:=hb.p
 have hdep:(ix B (n:Int)).Depth = (dpt (ix B (n:Int)):Int):=by unfold dpt; omega
 have hd12:dpt (ix B (n:Int))≤12:=by unfold dpt; omega
 refine Eq.trans ?_ (loopO_all (step:=taskmillref_DictFault_l3 ⟨D,P,B⟩ sm (n:Int)) (fun i=>((i:Nat):Int)) _ (firstP P n) (fun i hi=>?_) ?_)
 ·rfl
 ·have:=g3 i hi
  unfold taskmillref_DictFault_l3
  dsimp only
  rw [lt_n (show i < P.length by omega),ge_n,bne_iff_ne.2 this,wrap_n1 i (by omega)]; rfl
 ·unfold taskmillref_DictFault_l3
  dsimp only
  have hbt:taskmillref_Bits (firstP P n:Int) (ix B (n:Int)).Depth = some ((firstP P n:Int) % 2 ^ dpt (ix B (n:Int))):=by
   conv=>lhs; rw [hdep]
   exact bits_eq _ _ (by omega)
  rw [lt_n g1,ge_n,g2,bne_self_eq_false,cond_false,hbt,Option.bind_some,dfp hb sm n _ hn hd]
  rfl
theorem dfb (hb:Sz P B) (hD:D≤12) (hall:∀ n:Nat,n < B.length→∃ j,j < P.length∧ix P (j:Int) = (n:Int)):loopO (taskmillref_DictFault_l4 ⟨D,P,B⟩) (false,0) = (firstAt (bucketF D P B) B.length).or (some ((falseF D B).getD ⟨0,0⟩)):=by
 have hbl:=hb.b
 refine loop_or' (fun n=>(anyD D B n,((n:Nat):Int))) (bucketF D P B) _ B.length (fun n hn _=>?_) (fun _=>?_)
 ·unfold taskmillref_DictFault_l4 bucketF
  dsimp only
  rw [lt_n hn,ge_n]
  simp only [Bool.and_self,cond_true]
  by_cases h:(ix B (n:Int)).Depth < 0 ∨ D < (ix B (n:Int)).Depth
  ·rw [if_pos h,show (decide ((ix B (n:Int)).Depth < 0) || decide (D < (ix B (n:Int)).Depth)) = true from by simpa using h]; rfl
  ·rw [if_neg h,show (decide ((ix B (n:Int)).Depth < 0) || decide (D < (ix B (n:Int)).Depth)) = false from by simp; omega,cond_false,dff hb _ n hn (by omega) (hall n hn),anyD_succ]
 ·unfold taskmillref_DictFault_l4 falseF
  dsimp only
  rw [nlt_n,cond_false,anyD_all]
  by_cases h0:0 < D <;> by_cases h:∃ b ∈ B,b.Depth = D
  ·rw [decide_eq_true h0,decide_eq_true h,if_neg (fun hc=>hc.2 h)]; rfl
  ·rw [decide_eq_true h0,decide_eq_false h,if_pos ⟨h0,h⟩]; rfl
  ·rw [decide_eq_false h0,if_neg (fun hc=>h0 hc.1)]; rfl
  ·rw [decide_eq_false h0,if_neg (fun hc=>h0 hc.1)]; rfl
theorem ref_fault (d:Dict) (hb:Sz d.Places d.Buckets):taskmillref_DictFault d = some (faultF d):=by
 obtain ⟨D,P,B⟩:=d
 have hpl:=hb.p
 have hbl:=hb.b
 unfold taskmillref_DictFault faultF
 dsimp only at *
 by_cases h:D < 0 ∨ 12 < D
 ·rw [if_pos h,show (decide (D < 0) || decide (12 < D)) = true from by simpa using h]; rfl
 ·rw [if_neg h,show (decide (D < 0) || decide (12 < D)) = false from by simp; omega,cond_false]
  obtain ⟨t,rfl⟩:∃ t:Nat,D = (t:Int):=⟨D.toNat,by omega⟩
  rw [ge_n,cond_true,sh_eq t (by omega),Int.toNat_natCast]
  by_cases hs:((P.length:Nat):Int) = 2 ^ t
  ·rw [if_neg (by simpa using hs),show (((P.length:Nat):Int) != 2 ^ t) = false from by simpa using hs,cond_false]
   have:=loop_or' (step:=taskmillref_DictFault_l5 ⟨(t:Int),P,B⟩) (fun i=>((seenN P i:Int),((i:Nat):Int))) (badS P B) (some (((sizeF P B).or ((firstAt (bucketF (t:Int) P B) B.length).or (falseF (t:Int) B))).getD ⟨0,0⟩)) P.length (fun i hi hbef=>?_) (fun hall=>?_)
   ·refine Eq.trans (show _ = loopO (taskmillref_DictFault_l5 ⟨(t:Int),P,B⟩) ((seenN P 0:Int),((0:Nat):Int)) from rfl) ?_
    rw [this]
    cases firstAt (badS P B) P.length <;> rfl
   ·unfold taskmillref_DictFault_l5 badS taskmillref_DictFault_j1
    dsimp only
    have hsl:=seen_le P i
    rw [lt_n hi,ge_n]
    simp only [Bool.and_self,cond_true]
    by_cases hc:ix P (i:Int) < 0 ∨ (B.length:Int)≤ix P (i:Int) ∨ (seenN P i:Int) < ix P (i:Int)
    ·rw [if_pos hc,show (decide (ix P (i:Int) < 0) || (decide (((B.length:Nat):Int)≤ix P (i:Int)) || decide ((seenN P i:Int) < ix P (i:Int)))) = true from by simpa using hc]; rfl
    ·rw [if_neg hc,show (decide (ix P (i:Int) < 0) || (decide (((B.length:Nat):Int)≤ix P (i:Int)) || decide ((seenN P i:Int) < ix P (i:Int)))) = false from by simp; omega,cond_false,wrap_n1 i (by omega),wrap_n1 (seenN P i) (by omega)]
     have e:seenN P (i + 1) = if ix P (i:Int) = (seenN P i:Int) then seenN P i + 1 else seenN P i:=rfl
     rw [e]
     by_cases he:ix P (i:Int) = (seenN P i:Int)
     ·rw [if_pos he,show (ix P (i:Int) == (seenN P i:Int)) = true from by simpa using he]; rfl
     ·rw [if_neg he,show (ix P (i:Int) == (seenN P i:Int)) = false from by simpa using he]; rfl
   ·unfold taskmillref_DictFault_l5 sizeF
    dsimp only
    rw [nlt_n,cond_false]
    obtain ⟨s1,s2⟩:=seen_at (Nat.le_refl _) hall
    by_cases hc:seenN P P.length = B.length
    ·rw [if_neg (by simpa using hc),show decide ((seenN P P.length:Int) < ((B.length:Nat):Int)) = false from by simp; omega,cond_false,dfb hb (by omega) (fun n hn=>(s1 n).1 (by omega))]
     cases firstAt (bucketF (t:Int) P B) B.length <;> rfl
    ·rw [if_pos hc,show decide ((seenN P P.length:Int) < ((B.length:Nat):Int)) = true from by simp; omega]; rfl
  ·rw [if_pos hs,show (((P.length:Nat):Int) != 2 ^ t) = true from bne_iff_ne.2 hs]; rfl
end
theorem fine_of {d:Dict} (h:(faultF d).Code = 0):∃ D:Nat,d.Depth = (D:Int)∧Mid D d.Places d.Buckets∧Num d.Places∧Full D d.Buckets∧Few d.Buckets:=by
 obtain ⟨D,P,B⟩:=d
 unfold faultF at h
 dsimp only at h ⊢
 by_cases h1:D < 0 ∨ 12 < D
 ·rw [if_pos h1] at h; cases h
 rw [if_neg h1] at h
 by_cases h2:(P.length:Int) ≠ 2 ^ D.toNat
 ·rw [if_pos h2] at h; cases h
 rw [if_neg h2] at h
 obtain ⟨t,rfl⟩:∃ t:Nat,D = (t:Int):=⟨D.toNat,by omega⟩
 rw [Int.toNat_natCast] at h2
 have hpl:P.length = 2 ^ t:=by
  have:=p2_cast t
  simp only [ne_eq,Decidable.not_not] at h2
  omega
 cases hS:firstAt (badS P B) P.length with
 | some w =>
  rw [hS] at h
  obtain ⟨i,_,hi,_⟩:=firstAt_some _ hS
  unfold badS at hi
  split at hi
  ·cases hi; cases h
  ·cases hi
 | none =>
  rw [hS,Option.none_or] at h
  have hall:=(firstAt_none _).1 hS
  obtain ⟨s1,s2⟩:=seen_at (Nat.le_refl _) hall
  unfold sizeF at h
  by_cases hc:seenN P P.length ≠ B.length
  ·rw [if_pos hc] at h; cases h
  rw [if_neg hc,Option.none_or] at h
  have hc:seenN P P.length = B.length:=by simpa using hc
  cases hB:firstAt (bucketF (t:Int) P B) B.length with
  | some w =>
   rw [hB] at h
   obtain ⟨n,_,hn,_⟩:=firstAt_some _ hB
   exfalso
   unfold bucketF at hn
   split at hn
   ·cases hn; cases h
   ·unfold insideF at hn
    cases hp:firstAt (badP P (ix B (n:Int)) n (firstP P n)) P.length with
    | some w' =>
     rw [hp] at hn
     obtain ⟨i,_,hi,_⟩:=firstAt_some _ hp
     cases hn
     unfold badP at hi
     split at hi
     ·cases hi; cases h
     ·cases hi
    | none =>
     rw [hp,Option.none_or] at hn
     unfold manyF at hn
     split at hn
     ·cases hn; cases h
     ·rw [Option.none_or] at hn
      cases hi':firstAt (badI (ix B (n:Int)) n (firstP P n)) (ix B (n:Int)).Items.length with
      | some w' =>
       rw [hi'] at hn
       obtain ⟨i,_,hi,_⟩:=firstAt_some _ hi'
       cases hn
       unfold badI at hi
       split at hi
       ·cases hi; cases h
       ·split at hi
        ·cases hi; cases h
        ·cases hi
      | none =>
       rw [hi',Option.none_or] at hn
       unfold muchF at hn
       split at hn
       ·cases hn; cases h
       ·cases hn
  | none =>
   rw [hB,Option.none_or] at h
   have hbk:=(firstAt_none _).1 hB
   have hfull:Full t B:=fun h0=>by
    unfold falseF at h
    by_cases hf:0 < (t:Int)∧¬ ∃ b ∈ B,b.Depth = (t:Int)
    ·rw [if_pos hf] at h; cases h
    ·exact Decidable.byContradiction fun hne=>hf ⟨by omega,hne⟩
   have hex:∀ n:Nat,n < B.length→∃ j,j < P.length∧ix P (j:Int) = (n:Int):=fun n hn=>(s1 n).1 (by omega)
   -- what is known of each bucket
   have hbuck:∀ n:Nat,n < B.length→(0≤(ix B (n:Int)).Depth∧(ix B (n:Int)).Depth≤(t:Int)) ∧
     (∀ i,i < P.length→(ix P (i:Int) = (n:Int) ↔ (i:Int) % 2 ^ dpt (ix B (n:Int)) = (firstP P n:Int) % 2 ^ dpt (ix B (n:Int)))) ∧
     ¬ (4 < (ix B (n:Int)).Items.length∧(ix B (n:Int)).Depth < 12) ∧
     (∀ j:Nat,j < (ix B (n:Int)).Items.length→(ix (ix B (n:Int)).Items (j:Int)).Key % 2 ^ dpt (ix B (n:Int)) = (firstP P n:Int) % 2 ^ dpt (ix B (n:Int))∧¬ (0 < j∧(ix (ix B (n:Int)).Items (j:Int)).Key≤(ix (ix B (n:Int)).Items ((j - 1:Nat):Int)).Key))∧(ix B (n:Int)).Items.length≤5000:=fun n hn=>by
    have hk:=hbk n hn
    unfold bucketF at hk
    by_cases c1:(ix B (n:Int)).Depth < 0 ∨ (t:Int) < (ix B (n:Int)).Depth
    ·rw [if_pos c1] at hk; cases hk
    rw [if_neg c1] at hk
    unfold insideF at hk
    simp only [Option.or_eq_none_iff] at hk
    obtain ⟨k1,k2,k3,k4⟩:=hk
    refine ⟨by omega,fun i hi=>?_,fun hc=>?_,fun j hj=>?_,?_⟩
    ·have:=(firstAt_none _).1 k1 i hi
     unfold badP at this
     split at this
     ·cases this
     ·rename_i hne
      rw [Bool.not_eq_true,bne_eq_false_iff_eq,Bool.eq_iff_iff,beq_iff_eq,beq_iff_eq] at hne
      exact hne
    ·unfold manyF at k2
     rw [if_pos hc] at k2; cases k2
    ·have:=(firstAt_none _).1 k3 j hj
     unfold badI at this
     split at this
     ·cases this
     ·rename_i c2
      split at this
      ·cases this
      ·rename_i c3
       exact ⟨by simpa using c2,c3⟩
    ·unfold muchF at k4
     split at k4
     ·cases k4
     ·omega
   have hrng:∀ i:Nat,i < 2 ^ t→0≤ix P (i:Int)∧ix P (i:Int) < (B.length:Int):=fun i hi=>by
    have:=hall i (by omega)
    unfold badS at this
    split at this
    ·cases this
    ·omega
   have mem:∀ b ∈ B,∃ n:Nat,n < B.length∧b = ix B (n:Int):=fun b hb=>by
    obtain ⟨n,hn,rfl⟩:=List.getElem_of_mem hb
    exact ⟨n,hn,(ix_get hn).symm⟩
   have mods:∀ i:Nat,i < 2 ^ t→∃ n:Nat,n < B.length∧ix P (i:Int) = (n:Int):=fun i hi=>⟨(ix P (i:Int)).toNat,by have:=hrng i hi; omega,by have:=hrng i hi; omega⟩
   refine ⟨t,rfl,⟨by omega,hpl,hrng,fun b hb=>?_,fun i j hi hj=>?_,fun n n0 n1=>?_,fun b hb=>?_,fun i hi x hx=>?_,fun b hb=>?_⟩,fun i hi m m0 m1=>?_,hfull,fun b hb=>?_⟩
   ·obtain ⟨n,hn,rfl⟩:=mem b hb
    exact (hbuck n hn).1
   ·obtain ⟨n,hn,he⟩:=mods i hi
    have hb:=(hbuck n hn).2.1
    have hi':=(hb i (by omega)).1 he
    have hdp:dep B (ix P (i:Int)) = dpt (ix B (n:Int)):=by rw [he]; rfl
    rw [hdp,hi',he]
    exact hb j (by omega)
   ·obtain ⟨j,hj,he⟩:=hex n.toNat (by omega)
    exact ⟨j,by omega,by rw [he]; omega⟩
   ·obtain ⟨n,hn,rfl⟩:=mem b hb
    have hi:=(hbuck n hn).2.2.2.1
    refine (pairwise_next (· < ·) (fun a b c h1 h2=>Int.lt_trans h1 h2) _).2 fun j hj=>?_
    have hj':j + 1 < (ix B (n:Int)).Items.length:=by simpa [keysOf] using hj
    have h:=(hi (j + 1) hj').2
    have e:j + 1 - 1 = j:=rfl
    rw [e,ix_get hj',ix_get (show j < (ix B (n:Int)).Items.length by omega)] at h
    simp only [keysOf,List.getElem_map]
    omega
   ·obtain ⟨n,hn,he⟩:=mods i hi
    rw [he] at hx
    have hb:=(hbuck n hn).2.1
    have hi':=(hb i (by omega)).1 he
    have hdp:dep B (ix P (i:Int)) = dpt (ix B (n:Int)):=by rw [he]; rfl
    obtain ⟨q,hq,rfl⟩:=List.getElem_of_mem hx
    have:=((hbuck n hn).2.2.2.1 q hq).1
    rw [ix_get hq] at this
    rw [hdp,hi',this]
   ·obtain ⟨n,hn,rfl⟩:=mem b hb
    exact (hbuck n hn).2.2.2.2
   ·have:=hall i hi
    unfold badS at this
    split at this
    ·cases this
    ·rename_i hc
     obtain ⟨a1,_⟩:=seen_at (P:=P) (B:=B) (i:=i) (by omega) fun j hj=>hall j (by omega)
     obtain ⟨j,hj,he⟩:=(a1 m.toNat).1 (by omega)
     exact ⟨j,hj,by rw [he]; omega⟩
   ·obtain ⟨n,hn,rfl⟩:=mem b hb
    have h1:=(hbuck n hn).2.2.1
    have h2:=(hbuck n hn).1
    by_cases h4:4 < (ix B (n:Int)).Items.length
    ·right
     have:¬ (ix B (n:Int)).Depth < 12:=fun hl=>h1 ⟨h4,hl⟩
     omega
    ·left; omega
end Go.Proofs.Yticigkhhhmiglaa
end

section
namespace Go.Proofs.Yticigkhhhmiglaa
open Go Go.Sx
set_option linter.unusedVariables false
set_option linter.unusedSimpArgs false
theorem sear_split {l:List GItem} (hr:Rise l) (hl:l.length≤1000000) (k:Int):(∀ q (hq:q < l.length),q < sear l k→l[q].Key < k)∧∀ q (hq:q < l.length),sear l k≤q→k≤l[q].Key:=(bs_eq l k 0 hr hl).2
theorem putItem_eq {l:List GItem} (hr:Rise l) (hl:l.length≤100000) (x:GItem):∃ r,taskmillref_PutItem l x = some r∧Rise r∧(∀ y,y ∈ r ↔ putM (· ∈ l) x.Key x.Value y)∧r.length≤l.length + 1:=by
 obtain ⟨s1,s2⟩:=sear_split hr (by omega) x.Key
 have hsl:=sear_le l x.Key
 have hx:(⟨x.Key,x.Value⟩:GItem) = x:=rfl
 by_cases hk:x.Key ∈ keysOf l
 ·obtain ⟨hlt,hkey⟩:=sear_lt hr (by omega) hk
  obtain ⟨u1,u2⟩:=upd_items hr hlt x.Value
  rw [hkey] at u1 u2
  refine ⟨l.set (sear l x.Key) x,?_,by unfold Rise; rw [show x = ⟨x.Key,x.Value⟩ from rfl,u1]; exact hr,fun y=>by unfold putM; exact u2 y,by simp⟩
  unfold taskmillref_PutItem
  refine Eq.trans ?_ (loopO_all (step:=taskmillref_PutItem_l1 l x) (fun i=>((i:Nat):Int)) _ (sear l x.Key) (fun i hi=>?_) ?_)
  ·rfl
  ·have hil:i < l.length:=by omega
   have:=s1 i hil hi
   unfold taskmillref_PutItem_l1
   rw [lt_n hil,ge_n,ix_get hil,decide_eq_true this,wrap_n1 i (by omega)]; rfl
  ·unfold taskmillref_PutItem_l1
   rw [lt_n hlt,ge_n,ix_get hlt,hkey,show decide (x.Key < x.Key) = false from by simp,decide_eq_true (show l.length * 16≤140737488355328 by omega)]
   simp
 ·obtain ⟨n1,n2⟩:=ins_items (k:=x.Key) (v:=x.Value) hr (by omega) hk
  have hlen:=insL_len l (sear l x.Key:Int) [x]
  have e:insL l (sear l x.Key:Int) [x] = l.take (sear l x.Key) ++ [x] ++ l.drop (sear l x.Key):=by unfold insL; simp
  refine ⟨insL l (sear l x.Key:Int) [x],?_,n1,fun y=>?_,by rw [hlen]; simp⟩
  ·unfold taskmillref_PutItem
   refine Eq.trans ?_ (loopO_all (step:=taskmillref_PutItem_l1 l x) (fun i=>((i:Nat):Int)) _ (sear l x.Key) (fun i hi=>?_) ?_)
   ·rfl
   ·have hil:i < l.length:=by omega
    have:=s1 i hil hi
    unfold taskmillref_PutItem_l1
    rw [lt_n hil,ge_n,ix_get hil,decide_eq_true this,wrap_n1 i (by omega)]; rfl
   ·have hback:(bif decide (0≤(sear l x.Key:Int)) && decide ((sear l x.Key:Int)≤((l.length:Nat):Int)) then (bif (decide ((cut l 0 (sear l x.Key:Int)).length * 16≤140737488355328)) then (bif (decide (((cut l 0 (sear l x.Key:Int)) ++ ([x]:List GItem)).length * 16≤140737488355328)) then (bif ((decide (0≤(sear l x.Key:Int))) && (decide ((sear l x.Key:Int)≤((l.length:Nat):Int)))) then (bif (decide ((((cut l 0 (sear l x.Key:Int)) ++ ([x]:List GItem)) ++ (cut l (sear l x.Key:Int) ((l.length:Nat):Int))).length * 16≤140737488355328)) then (some ((((cut l 0 (sear l x.Key:Int)) ++ ([x]:List GItem)) ++ (cut l (sear l x.Key:Int) ((l.length:Nat):Int))))) else none) else none) else none) else none) else none) = some (insL l (sear l x.Key:Int) [x]):=by
     have d1:decide ((sear l x.Key:Int)≤((l.length:Nat):Int)) = true:=by simp; omega
     rw [cut_take,cut_drop,ge_n,d1,e,decide_eq_true (show (l.take (sear l x.Key)).length * 16≤140737488355328 by simp; omega),decide_eq_true (show (l.take (sear l x.Key) ++ [x]).length * 16≤140737488355328 by simp; omega),decide_eq_true (show (l.take (sear l x.Key) ++ [x] ++ l.drop (sear l x.Key)).length * 16≤140737488355328 by simp; omega)]
     rfl
    unfold taskmillref_PutItem_l1
    by_cases hlt:sear l x.Key < l.length
    ·have h1:=s2 _ hlt (Nat.le_refl _)
     have h2:l[sear l x.Key].Key ≠ x.Key:=fun e=>hk (List.mem_map.2 ⟨_,List.getElem_mem hlt,e⟩)
     rw [lt_n hlt,ix_get hlt,decide_eq_false (show ¬ l[sear l x.Key].Key < x.Key by omega),show (l[sear l x.Key].Key == x.Key) = false from by simpa using h2,hback]
     simp
    ·have e2:sear l x.Key = l.length:=by omega
     rw [hback,e2,nlt_n]
     simp
  ·rw [n2 y]
   unfold putM
   rw [hx]
   constructor
   ·rintro (h | h)
    ·exact .inl h
    ·exact .inr ⟨fun e=>hk (List.mem_map.2 ⟨y,h,e⟩),h⟩
   ·rintro (h | ⟨_,h⟩)
    ·exact .inl h
    ·exact .inr h
theorem noItem_eq (l:List GItem) (hl:l.length≤1000000) (key:Int):taskmillref_NoItem l key = some (l.filter fun x=>x.Key != key):=by
 unfold taskmillref_NoItem
 have hfl:∀ i,((l.take i).filter fun x=>x.Key != key).length≤l.length:=fun i=>Nat.le_trans (List.length_filter_le ..) (by simp; omega)
 refine Eq.trans ?_ (loopO_all (step:=taskmillref_NoItem_l1 l key) (fun i=>(((i:Nat):Int),(l.take i).filter fun x=>x.Key != key)) (some (l.filter fun x=>x.Key != key)) l.length (fun i hi=>?_) ?_)
 ·rfl
 ·unfold taskmillref_NoItem_l1 taskmillref_NoItem_j1
  dsimp only
  have h1:=hfl i
  rw [lt_n hi,ge_n,ix_get hi,wrap_n1 i (by omega),List.take_succ_eq_append_getElem hi,List.filter_append]
  simp only [Bool.and_self,cond_true]
  cases hc:l[i].Key != key with
  | true =>
   rw [cond_true,decide_eq_true (show (((l.take i).filter fun x=>x.Key != key) ++ ([l[i]]:List GItem)).length * 16≤140737488355328 by rw [List.length_append,List.length_singleton]; omega)]
   simp [hc]
  | false=>simp [hc]
 ·unfold taskmillref_NoItem_l1
  dsimp only
  rw [nlt_n,List.take_length]; rfl
theorem findItem_eq (l:List GItem) (hl:l.length≤1000000) (key:Int):(∃ i:Nat,i < l.length∧taskmillref_FindItem l key = some (i:Int)∧(ix l (i:Int)).Key = key) ∨ (taskmillref_FindItem l key = some (-1)∧key ∉ keysOf l):=by
 unfold taskmillref_FindItem
 have:=loopO_if (step:=taskmillref_FindItem_l1 l key) (fun i=>((i:Nat):Int)) (fun i=>decide ((ix l (i:Int)).Key = key)) (fun i=>some (i:Int)) (some (-1)) l.length (fun i hi hp=>?_) (fun i hi hp=>?_) (fun _=>?_)
 ·rw [show ((0:Nat):Int) = 0 from rfl] at this
  rw [this]
  cases hf:firstIf (fun i=>decide ((ix l (i:Int)).Key = key)) l.length with
  | some i =>
   obtain ⟨g1,g2,_⟩:=firstIf_some hf
   exact .inl ⟨i,g1,rfl,by simpa using g2⟩
  | none =>
   refine .inr ⟨rfl,fun hk=>?_⟩
   obtain ⟨x,hx,he⟩:=List.mem_map.1 hk
   obtain ⟨i,hi,rfl⟩:=List.getElem_of_mem hx
   have:=firstIf_none.1 hf i hi
   rw [ix_get hi] at this
   simp [he] at this
 ·unfold taskmillref_FindItem_l1
  simp only [decide_eq_false_iff_not] at hp
  rw [lt_n hi,ge_n,wrap_n1 i (by omega),show ((ix l (i:Int)).Key == key) = false from by simpa using hp]
  rfl
 ·unfold taskmillref_FindItem_l1
  simp only [decide_eq_true_eq] at hp
  rw [lt_n hi,ge_n,show ((ix l (i:Int)).Key == key) = true from by simpa using hp]
  rfl
 ·unfold taskmillref_FindItem_l1
  rw [nlt_n]; rfl
theorem findItem_ge (l:List GItem) (hl:l.length≤1000000) (key:Int):∃ i:Int,taskmillref_FindItem l key = some i∧decide (0≤i) = decide (key ∈ keysOf l):=by
 rcases findItem_eq l hl key with ⟨i,h1,h2,h3⟩ | ⟨h1,h2⟩
 ·refine ⟨_,h2,?_⟩
  rw [ge_n,decide_eq_true]
  exact List.mem_map.2 ⟨_,ix_mem ⟨by omega,by omega⟩,h3⟩
 ·exact ⟨_,h1,by rw [decide_eq_false h2]; rfl⟩
theorem del_eq {l:List GItem} (hr:Rise l) (hl:l.length≤100000) {k:Int} (hk:k ∈ keysOf l):slices_Delete_Item_1 (sear l k:Int) (IntKind.i64.wrap ((sear l k:Int) + 1)) l = some (l.filter fun x=>x.Key != k):=by
 obtain ⟨hlt,hkey⟩:=sear_lt hr (by omega) hk
 obtain ⟨s1,s2⟩:=sear_split hr (by omega) k
 have hd:=del_lists l (sear l k) (sear l k + 1) (by omega) (by omega) ((((cut l 0 (sear l k:Int)).length + (cut l ((sear l k + 1:Nat):Int) ((l.length:Nat):Int)).length:Nat):Int)) (by rw [cut_take,cut_drop]; simp; omega)
 unfold slices_Delete_Item_1
 rw [wrap_n1 _ (by omega),hd]
 have e:delAt l (sear l k) (sear l k + 1) = l.filter fun x=>x.Key != k:=by
  unfold delAt
  have el:l = l.take (sear l k) ++ l[sear l k] :: l.drop (sear l k + 1):=by rw [← List.drop_eq_getElem_cons hlt,List.take_append_drop]
  conv=>rhs; rw [el]
  rw [List.filter_append,List.filter_cons,show (l[sear l k].Key != k) = false from by simp [hkey]]
  simp only [Bool.false_eq_true,if_false]
  rw [List.filter_eq_self.2 fun x hx=>?_,List.filter_eq_self.2 fun x hx=>?_]
  ·obtain ⟨q,hq,rfl⟩:=List.getElem_of_mem hx
   rw [List.getElem_drop]
   have hq':sear l k + 1 + q < l.length:=by simp at hq; omega
   have:=List.pairwise_iff_getElem.1 hr (sear l k) (sear l k + 1 + q) (by simpa [keysOf] using hlt) (by simpa [keysOf] using hq') (by omega)
   simp only [keysOf,List.getElem_map] at this
   simp; omega
  ·obtain ⟨q,hq,rfl⟩:=List.mem_take_iff_getElem.1 hx
   have:=s1 q (by omega) (by omega)
   simp; omega
 rw [e,ge_n,show decide ((sear l k:Int)≤((sear l k + 1:Nat):Int)) = true from by simp; omega,show decide (((sear l k + 1:Nat):Int)≤((l.length:Nat):Int)) = true from by simp; omega,show ((sear l k:Int) == ((sear l k + 1:Nat):Int)) = false from by simp; omega,show decide ((sear l k:Int)≤((l.length:Nat):Int)) = true from by simp; omega,ge_n]
 rfl
structure Fine (D:Nat) (P:List Int) (B:List Bucket):Prop where
 mid:Mid D P B
 num:Num P
 full:Full D B
 few:Few B
theorem Fine.check {D:Nat} {P:List Int} {B:List Bucket} (h:Fine D P B):dict_Check ⟨(D:Int),P,B⟩ = some ⟨0,0⟩:=check_ok h.mid h.num h.full h.few
def dropB (D:Nat) (P:List Int) (B:List Bucket) (key:Int):List Bucket:=bif decide (key ∈ keysOf (bkt D P B key).Items) then setB B (ix P (plc D key:Int)) ((bkt D P B key).Items.filter fun x=>x.Key != key) else B
theorem drop_eq {D:Nat} {P:List Int} {B:List Bucket} (h:Fine D P B) (key:Int) :
  dict_Drop ⟨(D:Int),P,B⟩ key = some ((D:Int),decide (key ∈ keysOf (bkt D P B key).Items),⟨0,0⟩,P,dropB D P B key):=by
 have h12:=pow12 h.mid.d12
 obtain ⟨i,hi,hik,hw⟩:=where_eq h.mid key
 have hip:i = plc D key:=by have:=plc_cast D key; omega
 subst hip
 have hr:=h.mid.prng key
 have hmem:=h.mid.bmem key
 have hcap:=h.mid.cap _ hmem
 have hrise:=h.mid.rise _ hmem
 have hc0:decide ((0:Int)≤ix P (plc D key:Int)) = true:=by simpa using hr.1
 have hc1:decide (ix P (plc D key:Int) < ((B.length:Nat):Int)) = true:=by simpa using hr.2
 have hx:ixD B (ix P (plc D key:Int)) = bkt D P B key:=by rw [ixD_pos hr.1]; rfl
 have hb:ix B (ix P (plc D key:Int)) = bkt D P B key:=rfl
 unfold dict_Drop dict_Drop_j1 dropB
 rw [h.check,Option.bind_some,copied_eq _ h.mid.sz,Option.bind_some,hw]
 rw [hb]
 simp only [Option.bind_some,bne_self_eq_false,cond_false]
 by_cases hk:key ∈ keysOf (bkt D P B key).Items
 ·rw [decide_eq_true hk,cond_true,cond_true,hc0,hc1,hx,del_eq hrise (by omega) hk]
  rfl
 ·rw [decide_eq_false hk,cond_false,cond_false]
theorem Table.drop {M:GItem→Prop} {N:Nat} {D:Nat} {P:List Int} {B:List Bucket} (h:Table M False N D P B) (key:Int):Table (fun x=>x.Key ≠ key∧M x) False N D P (dropB D P B key):=by
 unfold dropB
 by_cases hk:key ∈ keysOf (bkt D P B key).Items
 ·rw [decide_eq_true hk,cond_true]
  have hmem:=h.mid.bmem key
  have hsub:List.Sublist ((bkt D P B key).Items.filter fun x=>x.Key != key) (bkt D P B key).Items:=List.filter_sublist
  have hlen:=hsub.length_le
  have hcap:=h.mid.cap _ hmem
  have hm:=h.mid.items key ((bkt D P B key).Items.filter fun x=>x.Key != key) ((h.mid.rise _ hmem).sub hsub) (fun x hx=>.inl (List.mem_map.2 ⟨x,hsub.subset hx,rfl⟩)) (by omega)
  have hb:ix B (ix P (plc D key:Int)) = bkt D P B key:=rfl
  refine ⟨hm,h.num,(h.onSet (M':=M) (N':=N) key _).1,fun b hb'=>?_,⟨fun b hb' x hx'=>?_,fun x hx'=>?_⟩,fun hw=>hw.elim,fun b hb'=>?_⟩
  ·rcases setB_mem hb' with rfl | hb'
   ·rw [hb]; dsimp only
    rcases h.few _ hmem with h4 | h4
    ·left; omega
    ·right; exact h4
   ·exact h.few b hb'
  ·have hM:M x:=by
    rcases setB_mem hb' with rfl | hb'
    ·rw [hb] at hx'; exact h.cont.sub _ hmem x (hsub.subset hx')
    ·exact h.cont.sub b hb' x hx'
   refine ⟨fun he=>?_,hM⟩
   obtain ⟨k,rfl⟩:=hm.ball hb'
   have hk':=hm.bhome k x hx'
   have hsame:=(hm.bsame k key).2 (by rw [he] at hk'; exact hk')
   rw [bkt_setB h.mid,if_pos hsame] at hx'
   have:=(List.mem_filter.1 hx').2
   simp [he] at this
  ·rw [bkt_setB h.mid]
   have hs:=h.cont.sup x hx'.2
   by_cases he:ix P (plc D key:Int) = ix P (plc D x.Key:Int)
   ·rw [if_pos he]
    have e:bkt D P B x.Key = bkt D P B key:=by unfold bkt; rw [he]
    rw [e] at hs
    exact List.mem_filter.2 ⟨hs,by simpa using hx'.1⟩
   ·rw [if_neg he]; exact hs
  ·rcases setB_mem hb' with rfl | hb'
   ·have:=h.cap _ hmem
    rw [hb]; dsimp only; omega
   ·exact h.cap b hb'
 ·rw [decide_eq_false hk,cond_false]
  refine h.congr fun x=>⟨fun hx=>⟨fun e=>?_,hx⟩,fun hx=>hx.2⟩
  exact hk ((h.key_iff key).2 ⟨x.Value,by rw [← e]; exact hx⟩)
theorem Mid.place {D:Nat} {P:List Int} {B:List Bucket} (h:Mid D P B) {n:Int} (h0:0≤n) (h1:n < (B.length:Int)) {x:GItem} (hx:x ∈ (ix B n).Items):ix P (plc D x.Key:Int) = n:=by
 obtain ⟨k,hk⟩:=h.bonto h0 h1
 have e:bkt D P B k = ix B n:=by unfold bkt; rw [hk]
 rw [← e] at hx
 have:=(h.bsame k x.Key).2 (h.bhome k x hx)
 rw [this,hk]
def allI (B:List Bucket):List GItem:=B.flatMap (·.Items)
theorem allI_len {B:List Bucket} {N:Nat} (h:Cap N B):(allI B).length≤B.length * N:=by
 unfold allI
 induction B with
 | nil=>simp
 | cons b B ih =>
  have h1:=h b (List.mem_cons_self ..)
  have h2:=ih fun b hb=>h b (List.mem_cons_of_mem _ hb)
  simp only [List.flatMap_cons,List.length_append,List.length_cons,Nat.add_mul,Nat.one_mul]
  omega
theorem Mid.all_nodup {D:Nat} {P:List Int} {B:List Bucket} (h:Mid D P B):(keysOf (allI B)).Nodup:=by
 have key:∀ n,n≤B.length→(keysOf (allI (B.take n))).Nodup:=fun n=>by
  induction n with
  | zero=>intro _; exact List.nodup_nil
  | succ n ih =>
   intro hn
   have hn':n < B.length:=by omega
   have e:keysOf (allI (B.take (n + 1))) = keysOf (allI (B.take n)) ++ keysOf B[n].Items:=by
    unfold keysOf allI
    rw [List.take_succ_eq_append_getElem hn',List.flatMap_append]
    simp
   rw [e,List.nodup_append]
   refine ⟨ih (by omega),keys_nodup (h.rise _ (List.getElem_mem hn')),fun a ha b hb hab=>?_⟩
   obtain ⟨x,hx,rfl⟩:=List.mem_map.1 ha
   obtain ⟨y,hy,rfl⟩:=List.mem_map.1 hb
   obtain ⟨c,hc,hxc⟩:=List.mem_flatMap.1 hx
   obtain ⟨q,hq,rfl⟩:=List.mem_take_iff_getElem.1 hc
   have h1:=h.place (n:=(q:Int)) (by omega) (by omega) (x:=x) (by rw [ix_get (by omega)]; exact hxc)
   have h2:=h.place (n:=(n:Int)) (by omega) (by omega) (x:=y) (by rw [ix_get hn']; exact hy)
   rw [hab] at h1
   omega
 have:=key B.length (Nat.le_refl _)
 rwa [List.take_length] at this
end Go.Proofs.Yticigkhhhmiglaa
end

section
namespace Go.Proofs.Yticigkhhhmiglaa
open Go Go.Sx
set_option linter.unusedVariables false
set_option linter.unusedSimpArgs false
theorem Table.fine {M:GItem→Prop} {w:Prop} {N:Nat} {D:Nat} {P:List Int} {B:List Bucket} (h:Table M w N D P B):Fine D P B:=⟨h.mid,h.num,h.full,h.few⟩
theorem Table.mono {M:GItem→Prop} {w:Prop} {N N':Nat} {D:Nat} {P:List Int} {B:List Bucket} (h:Table M w N D P B) (hN:N≤N'):Table M w N' D P B :=
 ⟨h.mid,h.num,h.full,h.few,h.cont,h.need,fun b hb=>Nat.le_trans (h.cap b hb) hN⟩
end Go.Proofs.Yticigkhhhmiglaa
end

section
namespace Go.Proofs.Yticigkhhhmiglaa
open Go Go.Sx
set_option linter.unusedVariables false
set_option linter.unusedSimpArgs false
theorem own_eq (s:List Int) (h:s.length≤1000000):taskmilllaw_own s = some s:=by
 unfold taskmilllaw_own
 rw [decide_eq_true (show s.length * 8≤140737488355328 by omega)]; rfl
theorem ownDict_eq (d:Dict) (hs:Sz d.Places d.Buckets):taskmilllaw_ownDict d = some (d.Depth,d.Places,d.Buckets):=by
 unfold taskmilllaw_ownDict
 rw [own_eq _ hs.p,Option.bind_some]
 have hb:=hs.b
 refine Eq.trans ?_ (loopO_all (step:=taskmilllaw_ownDict_l1 d) (fun i=>(((i:Nat):Int),d.Places,d.Buckets.take i)) (some (d.Depth,d.Places,d.Buckets)) d.Buckets.length (fun i hi=>?_) ?_)
 ·rfl
 ·unfold taskmilllaw_ownDict_l1
  dsimp only
  have hI:=hs.i _ (List.getElem_mem hi)
  have e:d.Buckets.take i ++ [Bucket.mk d.Buckets[i].Depth d.Buckets[i].Items] = d.Buckets.take (i + 1):=by rw [List.take_succ_eq_append_getElem hi]
  have hbb:decide ((d.Buckets.take (i + 1)).length * 32≤140737488355328) = true:=by rw [decide_eq_true_eq,List.length_take]; omega
  rw [lt_n hi,ge_n,ix_get hi,decide_eq_true (show d.Buckets[i].Items.length * 16≤140737488355328 by omega),wrap_n1 i (by omega)]
  simp only [Bool.and_self,cond_true,e,hbb]
 ·unfold taskmilllaw_ownDict_l1
  dsimp only
  rw [nlt_n,List.take_length]; rfl
theorem allI_take (B:List Bucket) {n:Nat} (h:n < B.length):allI (B.take (n + 1)) = allI (B.take n) ++ B[n].Items:=by
 unfold allI; rw [List.take_succ_eq_append_getElem h,List.flatMap_append]; simp
theorem allI_le (B:List Bucket) (n:Nat):(allI (B.take n)).length≤(allI B).length:=by
 unfold allI
 conv=>rhs; rw [← List.take_append_drop n B,List.flatMap_append,List.length_append]
 omega
theorem vast_eq (d:Dict) (hb:d.Buckets.length≤1000000) (hi':∀ b ∈ d.Buckets,b.Items.length≤1000000):∃ v,taskmilllaw_vastDict d = some v∧(v = false→(allI d.Buckets).length≤6000∧d.Buckets.length≤300∧d.Places.length≤5000):=by
 refine ⟨_,loopO_all (step:=taskmilllaw_vastDict_l1 d) (fun i=>(((allI (d.Buckets.take i)).length:Int),((i:Nat):Int))) (some ((decide ((6000:Int) < ((allI d.Buckets).length:Int))) || ((decide ((300:Int) < ((d.Buckets.length:Nat):Int))) || (decide ((5000:Int) < ((d.Places.length:Nat):Int)))))) d.Buckets.length (fun i hi=>?_) ?_,fun hv=>?_⟩
 ·unfold taskmilllaw_vastDict_l1
  dsimp only
  have hI:=hi' _ (List.getElem_mem hi)
  have hcap:=allI_len (B:=d.Buckets.take i) (N:=1000000) fun b hb=>hi' b (List.mem_of_mem_take hb)
  have hle:(d.Buckets.take i).length≤1000000:=by simp; omega
  have hmul:(d.Buckets.take i).length * 1000000≤1000000 * 1000000:=Nat.mul_le_mul_right 1000000 hle
  rw [lt_n hi,ge_n,ix_get hi,wrap_n1 i (by omega),allI_take _ hi,List.length_append,wrap_id (by omega) (by omega)]
  simp
 ·unfold taskmilllaw_vastDict_l1
  dsimp only
  rw [nlt_n,List.take_length]; rfl
 ·simp only [Bool.or_eq_false_iff,decide_eq_false_iff_not] at hv
  omega
theorem putItem_new {l:List GItem} (hr:Rise l) (hl:l.length≤100000) (x:GItem) (hx:x.Key ∉ keysOf l):∃ r,taskmillref_PutItem l x = some r∧Rise r∧(∀ y,y ∈ r ↔ y = x ∨ y ∈ l)∧r.length≤l.length + 1:=by
 obtain ⟨r,h1,h2,h3,h4⟩:=putItem_eq hr hl x
 refine ⟨r,h1,h2,fun y=>?_,h4⟩
 rw [h3]
 unfold putM
 constructor
 ·rintro (h | h)
  ·exact .inl h
  ·exact .inr h.2
 ·rintro (h | h)
  ·exact .inl h
  ·exact .inr ⟨fun e=>hx (List.mem_map.2 ⟨y,h,e⟩),h⟩
theorem itemsOf_in (d:Dict) (hs:Sz d.Places d.Buckets) (ht:(allI d.Buckets).length≤6000) (hnd:(keysOf (allI d.Buckets)).Nodup) (n:Nat) (hn:n < d.Buckets.length) (c:List GItem) (hc:Rise c) (hm:∀ y,y ∈ c ↔ y ∈ allI (d.Buckets.take n)) (hl:c.length≤(allI (d.Buckets.take n)).length) :
  ∃ c',loopO (taskmillref_ItemsOf_l1 d (n:Int)) (0,c) = some (.inl (((n + 1:Nat):Int),c'))∧Rise c'∧(∀ y,y ∈ c' ↔ y ∈ allI (d.Buckets.take (n + 1)))∧c'.length≤(allI (d.Buckets.take (n + 1))).length:=by
 have hb:=hs.b
 have hI:=hs.i _ (List.getElem_mem hn)
 have hpre:(keysOf (allI (d.Buckets.take n) ++ d.Buckets[n].Items)).Nodup:=by
  rw [← allI_take _ hn]
  refine hnd.sublist ?_
  unfold keysOf allI
  conv=>rhs; rw [← List.take_append_drop (n + 1) d.Buckets,List.flatMap_append,List.map_append]
  exact List.sublist_append_left _ _
 have hpl:=allI_le d.Buckets (n + 1)
 rw [allI_take _ hn,List.length_append] at hpl
 have hinv:=loopO_inv (step:=taskmillref_ItemsOf_l1 d (n:Int)) (fun s=>∃ (i:Nat) (c:List GItem),s = ((i:Int),c)∧i≤d.Buckets[n].Items.length∧Rise c∧(∀ y,y ∈ c ↔ y ∈ allI (d.Buckets.take n) ++ d.Buckets[n].Items.take i)∧c.length≤(allI (d.Buckets.take n)).length + i) (fun s=>d.Buckets[n].Items.length - s.1.toNat) (fun r=>∃ c',r = (.inl (((n + 1:Nat):Int),c'))∧Rise c'∧(∀ y,y ∈ c' ↔ y ∈ allI (d.Buckets.take (n + 1)))∧c'.length≤(allI (d.Buckets.take (n + 1))).length) (fun s hs'=>?_) (s0:=(0,c)) ⟨0,c,rfl,Nat.zero_le _,hc,fun y=>by rw [hm,List.take_zero,List.append_nil],by omega⟩
 ·obtain ⟨r,h1,c',rfl,h2⟩:=hinv
  exact ⟨c',h1,h2⟩
 ·obtain ⟨i,c,rfl,hi,hc,hm,hl⟩:=hs'
  unfold taskmillref_ItemsOf_l1
  dsimp only
  rw [lt_n hn,ge_n,ix_get hn]
  simp only [Bool.and_self,cond_true]
  by_cases hin:i < d.Buckets[n].Items.length
  ·left
   have hfresh:d.Buckets[n].Items[i].Key ∉ keysOf c:=fun hk=>by
    obtain ⟨y,hy,hye⟩:=List.mem_map.1 hk
    rw [hm] at hy
    have e:keysOf (allI (d.Buckets.take n) ++ d.Buckets[n].Items) = keysOf (allI (d.Buckets.take n) ++ d.Buckets[n].Items.take i) ++ keysOf (d.Buckets[n].Items.drop i):=by
     unfold keysOf
     rw [← List.map_append,List.append_assoc,List.take_append_drop]
    rw [e,List.nodup_append] at hpre
    exact hpre.2.2 _ (List.mem_map.2 ⟨y,hy,rfl⟩) _ (List.mem_map.2 ⟨d.Buckets[n].Items[i],by rw [List.drop_eq_getElem_cons hin]; exact List.mem_cons_self ..,rfl⟩) hye
   obtain ⟨r,r1,r2,r3,r4⟩:=putItem_new hc (by omega) _ hfresh
   rw [lt_n hin,ge_n,ix_get hin,r1,wrap_n1 i (by omega)]
   refine ⟨_,rfl,⟨i + 1,r,rfl,by omega,r2,fun y=>?_,by omega⟩,by simp only [Int.toNat_natCast]; omega⟩
   rw [r3,hm,List.take_succ_eq_append_getElem hin,← List.append_assoc,List.mem_append (s:=allI (d.Buckets.take n) ++ d.Buckets[n].Items.take i),List.mem_singleton,or_comm]
  ·right
   have e:i = d.Buckets[n].Items.length:=by omega
   subst e
   rw [nlt_n,wrap_n1 n (by omega)]
   refine ⟨_,rfl,c,rfl,hc,fun y=>by rw [hm,List.take_length,allI_take _ hn],by rw [allI_take _ hn,List.length_append]; omega⟩
theorem itemsOf_eq (d:Dict) (hs:Sz d.Places d.Buckets) (ht:(allI d.Buckets).length≤6000) (hnd:(keysOf (allI d.Buckets)).Nodup) :
  ∃ c,taskmillref_ItemsOf d = some c∧Rise c∧(∀ y,y ∈ c ↔ y ∈ allI d.Buckets)∧c.length≤6000:=by
 have hinv:=loopO_inv (step:=taskmillref_ItemsOf_l2 d) (fun s=>∃ (n:Nat) (c:List GItem),s = ((n:Int),c)∧n≤d.Buckets.length∧Rise c∧(∀ y,y ∈ c ↔ y ∈ allI (d.Buckets.take n))∧c.length≤(allI (d.Buckets.take n)).length) (fun s=>d.Buckets.length - s.1.toNat) (fun c=>Rise c∧(∀ y,y ∈ c ↔ y ∈ allI d.Buckets)∧c.length≤6000) (fun s hs'=>?_) (s0:=(0,[])) ⟨0,[],rfl,Nat.zero_le _,List.Pairwise.nil,fun y=>by simp [allI],by simp⟩
 ·exact hinv
 ·obtain ⟨n,c,rfl,hn,hc,hm,hl⟩:=hs'
  unfold taskmillref_ItemsOf_l2
  dsimp only
  by_cases hnn:n < d.Buckets.length
  ·left
   obtain ⟨c',h1,h2,h3,h4⟩:=itemsOf_in d hs ht hnd n hnn c hc hm hl
   rw [lt_n hnn,cond_true,h1]
   exact ⟨_,rfl,⟨n + 1,c',rfl,by omega,h2,h3,h4⟩,by simp only [Int.toNat_natCast]; omega⟩
  ·right
   have e:n = d.Buckets.length:=by omega
   subst e
   rw [nlt_n,cond_false]
   rw [List.take_length] at hm hl
   exact ⟨_,rfl,hc,hm,by omega⟩
theorem Mid.find {D:Nat} {P:List Int} {B:List Bucket} (h:Mid D P B) {x:GItem} (hx:x ∈ allI B):x ∈ (bkt D P B x.Key).Items:=by
 obtain ⟨b,hb,hxb⟩:=List.mem_flatMap.1 hx
 obtain ⟨n,hn,rfl⟩:=List.getElem_of_mem hb
 have:=h.place (n:=(n:Int)) (by omega) (by omega) (x:=x) (by rw [ix_get hn]; exact hxb)
 unfold bkt
 rw [this,ix_get hn]; exact hxb
theorem fault_bad {d:Dict} (hs:Sz d.Places d.Buckets):(faultF d).Code = 0→faultF d = ⟨0,0⟩:=fun h=>by
 obtain ⟨D,e,h1,h2,h3,h4⟩:=fine_of h
 have hf:Fine D d.Places d.Buckets:=⟨h1,h2,h3,h4⟩
 have hd:d = ⟨(D:Int),d.Places,d.Buckets⟩:=by rw [← e]
 have:=check_fault d hs
 rw [hd,hf.check] at this
 exact (Option.some.inj this).symm.trans (by rfl) |> fun h=>by rw [hd]; exact h
end Go.Proofs.Yticigkhhhmiglaa
end

section
namespace Go.Proofs.Yticigkhhhmiglaa
open Go Go.Sx
set_option linter.unusedVariables false
set_option linter.unusedSimpArgs false
def half (k:Int) (t:Nat) (l:List GItem):List GItem:=bif bitN k t then hiI t l else loI t l
def bk (key:Int):Nat→Nat→List GItem→Int→Bucket
 | 0,t,l,_=>⟨(t:Int),l⟩
 | f + 1,t,l,k=>if 4 < l.length∧t < 12 then (if bitN k t = bitN key t then bk key f (t + 1) (half key t l) k else ⟨((t + 1:Nat):Int),half k t l⟩) else ⟨(t:Int),l⟩
theorem bk_stop {key:Int} {t:Nat} {l:List GItem} (h:¬ (4 < l.length∧t < 12)) (f:Nat) (k:Int):bk key f t l k = ⟨(t:Int),l⟩:=by
 cases f with
 | zero=>rfl
 | succ f=>unfold bk; rw [if_neg h]
theorem bk_go {key:Int} {t:Nat} {l:List GItem} (h:4 < l.length∧t < 12) (k:Int):bk key (12 - t) t l k = if bitN k t = bitN key t then bk key (12 - (t + 1)) (t + 1) (half key t l) k else ⟨((t + 1:Nat):Int),half k t l⟩:=by
 rw [show 12 - t = (12 - (t + 1)) + 1 by omega]
 conv=>lhs; unfold bk
 rw [if_pos h]
theorem put_loopR {M:GItem→Prop} {w:Prop} {N:Nat} {key:Int} {D:Nat} {P:List Int} {B:List Bucket} (h:Loop M w N key D P B) (R:Int→Bucket)
  (hR:∀ k,R k = if ix P (plc D k:Int) = ix P (plc D key:Int) then bk key (12 - dpt (bkt D P B key)) (dpt (bkt D P B key)) (bkt D P B key).Items k else bkt D P B k) :
  ∃ (D':Nat) (Q:List Int) (L:List Bucket),loopO (dict_Put_l1 key) (ix P (plc D key:Int),(D:Int),P,B) = some ((D':Int),L,false,⟨0,0⟩,Q)∧Table M w N D' Q L∧D≤D'∧∀ k,bkt D' Q L k = R k:=by
 have hinv:=loopO_inv (step:=dict_Put_l1 key) (fun s=>∃ (D1:Nat) (P:List Int) (B:List Bucket),s = (ix P (plc D1 key:Int),(D1:Int),P,B)∧Loop M w N key D1 P B∧D≤D1∧∀ k,R k = if ix P (plc D1 k:Int) = ix P (plc D1 key:Int) then bk key (12 - dpt (bkt D1 P B key)) (dpt (bkt D1 P B key)) (bkt D1 P B key).Items k else bkt D1 P B k) (fun s=>12 - dpt (ix s.2.2.2 s.1)) (fun r=>∃ (D':Nat) (Q:List Int) (L:List Bucket),r = ((D':Int),L,false,⟨0,0⟩,Q)∧Table M w N D' Q L∧D≤D'∧∀ k,bkt D' Q L k = R k) (fun s hs=>?_) (s0:=(ix P (plc D key:Int),(D:Int),P,B)) ⟨D,P,B,rfl,h,Nat.le_refl _,hR⟩
 ·obtain ⟨r,h1,D',Q,L,rfl,h2⟩:=hinv
  exact ⟨D',Q,L,h1,h2⟩
 ·obtain ⟨D1,P,B,rfl,h,hDD,hR⟩:=hs
  unfold dict_Put_l1
  dsimp only
  have hr:=h.mid.prng key
  have hbd:=h.mid.bdep key
  have hc0:decide ((0:Int)≤ix P (plc D1 key:Int)) = true:=by simpa using hr.1
  have hc1:decide (ix P (plc D1 key:Int) < ((B.length:Nat):Int)) = true:=by simpa using hr.2
  have hx:ixD B (ix P (plc D1 key:Int)) = bkt D1 P B key:=by rw [ixD_pos hr.1]; rfl
  rw [hc0,hc1,hx]
  simp only [Bool.and_self,cond_true,Bool.or_true]
  by_cases hgo:4 < (bkt D1 P B key).Items.length∧(bkt D1 P B key).Depth < 12
  ·left
   rw [show decide ((4:Int) < (((bkt D1 P B key).Items.length:Nat):Int)) = true from by simp; omega,show decide ((bkt D1 P B key).Depth < 12) = true from by simp; omega]
   obtain ⟨D',P',B',h1,h2,h3,h4,h5,h6⟩:=h.next hgo.1 hgo.2
   have h12:=h2.mid.d12
   have hpl:plc D' key < P'.length:=by rw [h2.mid.plen]; exact plc_lt _ _
   rw [h1]
   simp only [Bool.and_self,cond_true,Option.bind_some]
   rw [last_eq key D' (by omega),← plc_cast,Option.bind_some,lt_n hpl,ge_n]
   refine ⟨_,rfl,⟨D',P',B',rfl,h2,by omega,fun k=>?_⟩,?_⟩
   ·rw [hR k]
    have hk:=h5 k
    have hcur:=h6 key
    rw [if_pos rfl] at hcur
    have hci:(bkt D' P' B' key).Items = half key (dpt (bkt D1 P B key)) (bkt D1 P B key).Items:=by rw [hcur]; rfl
    by_cases he:ix P (plc D1 k:Int) = ix P (plc D1 key:Int)
    ·rw [if_pos he,bk_go ⟨hgo.1,by omega⟩]
     by_cases hb:bitN k (dpt (bkt D1 P B key)) = bitN key (dpt (bkt D1 P B key))
     ·rw [if_pos hb,if_pos (hk.2 ⟨he,hb⟩),h3,hci]
     ·rw [if_neg hb,if_neg (fun hc=>hb (hk.1 hc).2),h6 k,if_pos he]; rfl
    ·rw [if_neg he,if_neg (fun hc=>he (hk.1 hc).1),h6 k,if_neg he]
   ·show 12 - dpt (bkt D' P' B' key) < 12 - dpt (bkt D1 P B key)
    omega
  ·right
   have:(decide ((4:Int) < (((bkt D1 P B key).Items.length:Nat):Int)) && decide ((bkt D1 P B key).Depth < 12)) = false:=by
    rw [Bool.and_eq_false_iff]
    by_cases h4:4 < (bkt D1 P B key).Items.length
    ·right; simp only [decide_eq_false_iff_not]; exact fun hl=>hgo ⟨h4,hl⟩
    ·left; simp; omega
   have hp:=h.mid.plen
   have h12:=pow12 h.mid.d12
   obtain ⟨Q0,L0,n1,n2⟩:=number_eq (D1:Int) (P:=P) (B:=B) (by omega) (fun i hi=>h.mid.rng i (by omega))
   obtain ⟨Q,L,h1,h2⟩:=h.end hgo
   rw [h1] at n1
   have e0:=Option.some.inj n1
   simp only [Prod.mk.injEq,true_and] at e0
   obtain ⟨rfl,rfl⟩:=e0
   rw [this,cond_false,h1]
   refine ⟨_,rfl,D1,Q,L,rfl,h2,hDD,fun k=>?_⟩
   rw [h.mid.bkt_renum n2,hR k]
   by_cases he:ix P (plc D1 k:Int) = ix P (plc D1 key:Int)
   ·have e:bkt D1 P B k = bkt D1 P B key:=by unfold bkt; rw [he]
    rw [if_pos he,bk_stop (fun hc=>hgo ⟨hc.1,by omega⟩),e,← hbd.1]
   ·rw [if_neg he]
theorem put_new {D:Nat} {P:List Int} {B:List Bucket} (h:Fine D P B) (key value:Int) (hk:key ∉ keysOf (bkt D P B key).Items) (h5:(bkt D P B key).Items.length < 5000) (l:List GItem) (hl:Rise l) (hm:∀ x,x ∈ l ↔ x = ⟨key,value⟩ ∨ x ∈ (bkt D P B key).Items) :
  ∃ (D':Nat) (Q:List Int) (L:List Bucket),dict_Put ⟨(D:Int),P,B⟩ key value = some ((D':Int),L,false,⟨0,0⟩,Q)∧Fine D' Q L∧D≤D'∧∀ k,bkt D' Q L k = if ix P (plc D k:Int) = ix P (plc D key:Int) then bk key (12 - dpt (bkt D P B key)) (dpt (bkt D P B key)) l k else bkt D P B k:=by
 have h12:=pow12 h.mid.d12
 obtain ⟨i,hi,hik,hw⟩:=where_eq h.mid key
 have hip:i = plc D key:=by have:=plc_cast D key; omega
 subst hip
 have hr:=h.mid.prng key
 have hmem:=h.mid.bmem key
 have hrise:=h.mid.rise _ hmem
 have hc0:decide ((0:Int)≤ix P (plc D key:Int)) = true:=by simpa using hr.1
 have hc1:decide (ix P (plc D key:Int) < ((B.length:Nat):Int)) = true:=by simpa using hr.2
 have hx:ixD B (ix P (plc D key:Int)) = bkt D P B key:=by rw [ixD_pos hr.1]; rfl
 have hb:ix B (ix P (plc D key:Int)) = bkt D P B key:=rfl
 have hsl:=sear_le (bkt D P B key).Items key
 obtain ⟨n1,n2⟩:=ins_items (k:=key) (v:=value) hrise (by omega) hk
 have hel:insL (bkt D P B key).Items (sear (bkt D P B key).Items key:Int) [⟨key,value⟩] = l:=rise_ext n1 hl fun x=>by rw [n2,hm]
 have hlen:l.length = (bkt D P B key).Items.length + 1:=by rw [← hel,insL_len]; rfl
 have hins:slices_Insert_Item (sear (bkt D P B key).Items key:Int) (bkt D P B key).Items [⟨key,value⟩] = some l:=by
  unfold slices_Insert_Item
  rw [decide_eq_true ⟨by omega,by omega,rfl,by omega⟩,cond_true,hel]
 have hmd:Mid D P (setB B (ix P (plc D key:Int)) l):=h.mid.items key l hl (fun x hx=>by
  rcases (hm x).1 hx with rfl | hx
  ·exact .inr rfl
  ·exact .inl (List.mem_map.2 ⟨x,hx,rfl⟩)) (by omega)
 have hcur:bkt D P (setB B (ix P (plc D key:Int)) l) key = { bkt D P B key with Items:=l }:=by rw [bkt_setB h.mid,if_pos rfl]
 have hset:∀ k,bkt D P (setB B (ix P (plc D key:Int)) l) k = if ix P (plc D key:Int) = ix P (plc D k:Int) then { bkt D P B key with Items:=l } else bkt D P B k:=fun k=>bkt_setB h.mid key k l
 have hfull:Full D (setB B (ix P (plc D key:Int)) l):=fun hD=>by
  obtain ⟨b,hb',hbe⟩:=h.full hD
  obtain ⟨k,rfl⟩:=h.mid.ball hb'
  refine ⟨bkt D P (setB B (ix P (plc D key:Int)) l) k,hmd.bmem k,?_⟩
  rw [hset k]
  split
  ·rename_i e
   have:bkt D P B k = bkt D P B key:=by unfold bkt; rw [e]
   rw [← hbe,this]
  ·exact hbe
 have hloop:Loop (fun x=>∃ b ∈ setB B (ix P (plc D key:Int)) l,x ∈ b.Items) False 5000 key D P (setB B (ix P (plc D key:Int)) l):=by
  refine ⟨hmd,hfull,⟨fun b hb' x hx'=>⟨b,hb',hx'⟩,fun x hx'=>?_⟩,fun hw=>hw.elim,fun b hb'=>hmd.cap b hb',fun k hne=>?_,?_,?_⟩
  ·obtain ⟨b,hb',hx'⟩:=hx'
   obtain ⟨k,rfl⟩:=hmd.ball hb'
   have:=(hmd.bsame k x.Key).2 (hmd.bhome k x hx')
   have e:bkt D P (setB B (ix P (plc D key:Int)) l) x.Key = bkt D P (setB B (ix P (plc D key:Int)) l) k:=by unfold bkt; rw [this]
   rw [e]; exact hx'
  ·rw [hset,if_neg (fun e=>hne e.symm)]
   exact h.few _ (h.mid.bmem k)
  ·rw [hcur]
   dsimp only
   rcases h.few _ hmem with h4 | h4
   ·left; omega
   ·right; exact h4
  ·rw [hcur]
   exact List.mem_map.2 ⟨⟨key,value⟩,(hm _).2 (.inl rfl),rfl⟩
 obtain ⟨D',Q,L,g1,g2,g3,g4⟩:=put_loopR hloop (fun k=>if ix P (plc D k:Int) = ix P (plc D key:Int) then bk key (12 - dpt (bkt D P B key)) (dpt (bkt D P B key)) l k else bkt D P B k) (fun k=>by
  rw [hcur,hset k]
  by_cases he:ix P (plc D k:Int) = ix P (plc D key:Int)
  ·rw [if_pos he,if_pos he]; rfl
  ·rw [if_neg he,if_neg he,if_neg (fun e=>he e.symm)])
 refine ⟨D',Q,L,?_,g2.fine,g3,g4⟩
 unfold dict_Put
 rw [h.check,Option.bind_some,copied_eq _ h.mid.sz,Option.bind_some,hw]
 rw [hb]
 simp only [Option.bind_some,bne_self_eq_false,cond_false]
 rw [decide_eq_false hk,cond_false,hc0,hc1,hx]
 simp only [Bool.and_self,cond_true]
 rw [show ((((bkt D P B key).Items.length:Nat):Int) == 5000) = false from by simp; omega,cond_false,hins,Option.bind_some]
 exact g1
theorem put_old {D:Nat} {P:List Int} {B:List Bucket} (h:Fine D P B) (key value:Int) (hk:key ∈ keysOf (bkt D P B key).Items) :
  dict_Put ⟨(D:Int),P,B⟩ key value = some ((D:Int),setB B (ix P (plc D key:Int)) ((bkt D P B key).Items.set (sear (bkt D P B key).Items key) ⟨key,value⟩),true,⟨0,0⟩,P):=by
 obtain ⟨i,hi,hik,hw⟩:=where_eq h.mid key
 have hip:i = plc D key:=by have:=plc_cast D key; omega
 subst hip
 have hr:=h.mid.prng key
 have hmem:=h.mid.bmem key
 have hcap:=h.mid.cap _ hmem
 have hrise:=h.mid.rise _ hmem
 have hc0:decide ((0:Int)≤ix P (plc D key:Int)) = true:=by simpa using hr.1
 have hc1:decide (ix P (plc D key:Int) < ((B.length:Nat):Int)) = true:=by simpa using hr.2
 have hx:ixD B (ix P (plc D key:Int)) = bkt D P B key:=by rw [ixD_pos hr.1]; rfl
 have hb:ix B (ix P (plc D key:Int)) = bkt D P B key:=rfl
 obtain ⟨hlt,hkey⟩:=sear_lt hrise (by omega) hk
 unfold dict_Put
 rw [h.check,Option.bind_some,copied_eq _ h.mid.sz,Option.bind_some,hw]
 rw [hb]
 simp only [Option.bind_some,bne_self_eq_false,cond_false]
 rw [decide_eq_true hk,cond_true,hc0,hc1,hx,lt_n hlt,ge_n,ix_get hlt]
 simp only [Bool.and_self,cond_true,Int.toNat_natCast,hkey]
 rfl
theorem put_much {D:Nat} {P:List Int} {B:List Bucket} (h:Fine D P B) (key value:Int) (hk:key ∉ keysOf (bkt D P B key).Items) (h5:(bkt D P B key).Items.length = 5000) :
  dict_Put ⟨(D:Int),P,B⟩ key value = some (0,[],false,⟨9,0⟩,[]):=by
 obtain ⟨i,hi,hik,hw⟩:=where_eq h.mid key
 have hip:i = plc D key:=by have:=plc_cast D key; omega
 subst hip
 have hr:=h.mid.prng key
 have hc0:decide ((0:Int)≤ix P (plc D key:Int)) = true:=by simpa using hr.1
 have hc1:decide (ix P (plc D key:Int) < ((B.length:Nat):Int)) = true:=by simpa using hr.2
 have hx:ixD B (ix P (plc D key:Int)) = bkt D P B key:=by rw [ixD_pos hr.1]; rfl
 have hb:ix B (ix P (plc D key:Int)) = bkt D P B key:=rfl
 unfold dict_Put
 rw [h.check,Option.bind_some,copied_eq _ h.mid.sz,Option.bind_some,hw]
 rw [hb]
 simp only [Option.bind_some,bne_self_eq_false,cond_false]
 rw [decide_eq_false hk,cond_false,hc0,hc1,hx,h5]
 rfl
theorem uniqP {D:Nat} {P P':List Int} {B B':List Bucket} (hp:P.length = 2 ^ D) (hp':P'.length = 2 ^ D)
  (r:∀ i:Nat,i < 2 ^ D→0≤ix P (i:Int)∧ix P (i:Int) < (B.length:Int)) (r':∀ i:Nat,i < 2 ^ D→0≤ix P' (i:Int)∧ix P' (i:Int) < (B'.length:Int)) (hn:Num P) (hn':Num P')
  (ho:∀ n:Nat,n < B.length→∃ i:Nat,i < 2 ^ D∧ix P (i:Int) = (n:Int)) (ho':∀ n:Nat,n < B'.length→∃ i:Nat,i < 2 ^ D∧ix P' (i:Int) = (n:Int))
  (cls:∀ i j:Nat,i < 2 ^ D→j < 2 ^ D→(ix P (j:Int) = ix P (i:Int) ↔ ix P' (j:Int) = ix P' (i:Int)))
  (hb:∀ i:Nat,i < 2 ^ D→ix B (ix P (i:Int)) = ix B' (ix P' (i:Int))):P = P'∧B = B':=by
 have hP:∀ i:Nat,i < 2 ^ D→ix P (i:Int) = ix P' (i:Int):=fun i=>by
  induction i using Nat.strongRecOn with
  | _ i ih =>
   intro hi
   have r1:=r i hi
   have r2:=r' i hi
   rcases Int.lt_trichotomy (ix P (i:Int)) (ix P' (i:Int)) with hlt | he | hlt
   ·obtain ⟨j,hj,hje⟩:=hn' i (by omega) _ r1.1 hlt
    have:=ih j hj (by omega)
    have:=(cls i j hi (by omega)).1 (by omega)
    omega
   ·exact he
   ·obtain ⟨j,hj,hje⟩:=hn i (by omega) _ r2.1 hlt
    have:=ih j hj (by omega)
    have:=(cls i j hi (by omega)).2 (by omega)
    omega
 have hPP:P = P':=by
  refine List.ext_getElem (by omega) fun i h1 h2=>?_
  have:=hP i (by omega)
  rwa [ix_get h1,ix_get h2] at this
 subst hPP
 have hle:∀ {B B':List Bucket},(∀ n:Nat,n < B.length→∃ i:Nat,i < 2 ^ D∧ix P (i:Int) = (n:Int))→(∀ i:Nat,i < 2 ^ D→0≤ix P (i:Int)∧ix P (i:Int) < (B'.length:Int))→B.length≤B'.length:=fun {B B'} ho r'=>by
  by_cases h0:B.length = 0
  ·omega
  ·obtain ⟨i,hi,he⟩:=ho (B.length - 1) (by omega)
   have:=r' i hi
   omega
 have hlen:=Nat.le_antisymm (hle ho r') (hle ho' r)
 refine ⟨rfl,List.ext_getElem hlen fun n h1 h2=>?_⟩
 obtain ⟨i,hi,he⟩:=ho n h1
 have:=hb i hi
 rw [he,ix_get h1,ix_get h2] at this
 exact this
end Go.Proofs.Yticigkhhhmiglaa
end

section
namespace Go.Proofs.Yticigkhhhmiglaa
open Go Go.Sx
set_option linter.unusedVariables false
set_option linter.unusedSimpArgs false
def pm (p:part) (k:Int):Prop:=k % 2 ^ p.depth.toNat = p.bits
instance pm_dec (p:part) (k:Int):Decidable (pm p k):=inferInstanceAs (Decidable (k % 2 ^ p.depth.toNat = p.bits))
structure Parts (R:Int→Bucket) (key:Int) (L:List part):Prop where
 dn:∀ p ∈ L,0≤p.depth∧p.depth≤12∧0≤p.bits∧p.bits < 2 ^ p.depth.toNat
 one:∀ k:Int,∃ i:Nat,i < L.length∧pm (ix L (i:Int)) k∧∀ j:Nat,j < L.length→pm (ix L (j:Int)) k→j = i
 res:∀ (k:Int) (i:Nat),i < L.length→pm (ix L (i:Int)) k→R k = if pm (ix L (i:Int)) key then bk key (12 - (ix L (i:Int)).depth.toNat) (ix L (i:Int)).depth.toNat (ix L (i:Int)).items k else ⟨(ix L (i:Int)).depth,(ix L (i:Int)).items⟩
 few:∀ i:Nat,i < L.length→pm (ix L (i:Int)) key→L.length≤4096 + (ix L (i:Int)).depth.toNat
 il:∀ p ∈ L,p.items.length≤5001
theorem pm_bits (key:Int) (p:part) (h:0≤p.depth∧p.depth≤12):taskmillref_Bits key p.depth = some (key % 2 ^ p.depth.toNat):=by
 conv=>lhs; rw [show p.depth = ((p.depth.toNat:Nat):Int) by omega]
 exact bits_eq _ _ (by omega)
theorem at_gen {L:List part} {x:GItem} (hdn:∀ p ∈ L,0≤p.depth∧p.depth≤12∧0≤p.bits∧p.bits < 2 ^ p.depth.toNat) (hone:∀ k:Int,∃ i:Nat,i < L.length∧pm (ix L (i:Int)) k∧∀ j:Nat,j < L.length→pm (ix L (j:Int)) k→j = i) (hl:L.length≤1000000):∃ i:Nat,i < L.length∧pm (ix L (i:Int)) x.Key∧taskmillref_PutDict_1 L x = some (i:Int):=by
 obtain ⟨i,h1,h2,h3⟩:=hone x.Key
 refine ⟨i,h1,h2,?_⟩
 unfold taskmillref_PutDict_1
 refine Eq.trans ?_ (loopO_all (step:=taskmillref_PutDict_1_l1 L x) (fun j=>((j:Nat):Int)) (some (i:Int)) i (fun j hj=>?_) ?_)
 ·rfl
 ·have hjl:j < L.length:=by omega
  have hne:¬ pm (ix L (j:Int)) x.Key:=fun hc=>by have:=h3 j hjl hc; omega
  have hd:=hdn _ (ix_mem (l:=L) (j:=(j:Int)) ⟨by omega,by omega⟩)
  unfold taskmillref_PutDict_1_l1
  rw [lt_n hjl,ge_n,pm_bits _ _ ⟨hd.1,hd.2.1⟩,wrap_n1 j (by omega)]
  simp only [Bool.and_self,cond_true,Option.bind_some]
  rw [show (x.Key % 2 ^ (ix L (j:Int)).depth.toNat == (ix L (j:Int)).bits) = false from by simpa [pm] using hne]; rfl
 ·have hd:=hdn _ (ix_mem (l:=L) (j:=(i:Int)) ⟨by omega,by omega⟩)
  unfold taskmillref_PutDict_1_l1
  rw [lt_n h1,ge_n,pm_bits _ _ ⟨hd.1,hd.2.1⟩]
  simp only [Bool.and_self,cond_true,Option.bind_some]
  rw [show (x.Key % 2 ^ (ix L (i:Int)).depth.toNat == (ix L (i:Int)).bits) = true from by simpa [pm] using h2]; rfl
theorem at_eq {R:Int→Bucket} {L:List part} {x:GItem} (h:Parts R x.Key L) (hl:L.length≤1000000):∃ i:Nat,i < L.length∧pm (ix L (i:Int)) x.Key∧taskmillref_PutDict_1 L x = some (i:Int):=at_gen h.dn h.one hl
def zeroP (p:part):part:=⟨p.depth + 1,p.bits,loI p.depth.toNat p.items⟩
def oneP (p:part):part:=⟨p.depth + 1,p.bits + 2 ^ p.depth.toNat,hiI p.depth.toNat p.items⟩
def splitP (L:List part) (i:Nat):List part:=L.set i (zeroP (ix L (i:Int))) ++ [oneP (ix L (i:Int))]
theorem splitP_ix {L:List part} {i:Nat} (hi:i < L.length) (j:Nat) (hj:j≤L.length):ix (splitP L i) (j:Int) = if j = L.length then oneP (ix L (i:Int)) else if i = j then zeroP (ix L (i:Int)) else ix L (j:Int):=by
 unfold splitP
 rw [ix_app _ (by simp; omega)]
 simp only [List.length_set,Int.natCast_inj]
 by_cases h:j = L.length
 ·rw [if_pos h,if_pos h]
 ·rw [if_neg h,if_neg h]
  have:=ix_set (l:=L) (i:=(i:Int)) (j:=(j:Int)) ⟨by omega,by omega⟩ (by omega) (zeroP (ix L (i:Int)))
  rw [Int.toNat_natCast] at this
  rw [this]
  simp only [Int.natCast_inj]
theorem pm_zero {p:part} (h:0≤p.depth∧p.depth≤12∧0≤p.bits∧p.bits < 2 ^ p.depth.toNat) (k:Int):pm (zeroP p) k ↔ pm p k∧bitN k p.depth.toNat = false:=by
 unfold pm zeroP
 dsimp only
 have e:(p.depth + 1).toNat = p.depth.toNat + 1:=by omega
 have h1:=mod_nn k p.depth.toNat
 have h2:=mod_lt k p.depth.toNat
 rw [e,mod_succ k _ (by omega)]
 cases bitN k p.depth.toNat with
 | true=>rw [cond_true]; constructor
      ·intro h'; omega
      ·intro h'; cases h'.2
 | false=>rw [cond_false,Int.add_zero]; simp
theorem pm_one {p:part} (h:0≤p.depth∧p.depth≤12∧0≤p.bits∧p.bits < 2 ^ p.depth.toNat) (k:Int):pm (oneP p) k ↔ pm p k∧bitN k p.depth.toNat = true:=by
 unfold pm oneP
 dsimp only
 have e:(p.depth + 1).toNat = p.depth.toNat + 1:=by omega
 have h1:=mod_nn k p.depth.toNat
 have h2:=mod_lt k p.depth.toNat
 rw [e,mod_succ k _ (by omega)]
 cases bitN k p.depth.toNat with
 | true=>rw [cond_true]; simp
 | false=>rw [cond_false]; constructor
       ·intro h'; omega
       ·intro h'; cases h'.2
theorem Parts.split {R:Int→Bucket} {key:Int} {L:List part} (h:Parts R key L) {i:Nat} (hi:i < L.length) (hm:pm (ix L (i:Int)) key) (h4:4 < (ix L (i:Int)).items.length) (h12:(ix L (i:Int)).depth < 12):Parts R key (splitP L i):=by
 have hp:=h.dn _ (ix_mem (l:=L) (j:=(i:Int)) ⟨by omega,by omega⟩)
 have hlen:(splitP L i).length = L.length + 1:=by unfold splitP; simp
 have hix:=fun j hj=>splitP_ix (L:=L) hi j hj
 have hz:=pm_zero hp
 have ho:=pm_one hp
 have hil:=h.il _ (ix_mem (l:=L) (j:=(i:Int)) ⟨by omega,by omega⟩)
 have e:((ix L (i:Int)).depth + 1).toNat = (ix L (i:Int)).depth.toNat + 1:=by omega
 have hpow:(2:Int) ^ ((ix L (i:Int)).depth.toNat + 1) = 2 ^ (ix L (i:Int)).depth.toNat * 2:=Int.pow_succ ..
 have hpos:=p2_pos (ix L (i:Int)).depth.toNat
 -- of a key that the part has, both halves
 have hres:∀ k,pm (ix L (i:Int)) k→R k = if bitN k (ix L (i:Int)).depth.toNat = bitN key (ix L (i:Int)).depth.toNat then bk key (12 - ((ix L (i:Int)).depth.toNat + 1)) ((ix L (i:Int)).depth.toNat + 1) (half key (ix L (i:Int)).depth.toNat (ix L (i:Int)).items) k else ⟨(((ix L (i:Int)).depth.toNat + 1:Nat):Int),half k (ix L (i:Int)).depth.toNat (ix L (i:Int)).items⟩:=fun k hk=>by
  rw [h.res k i hi hk,if_pos hm,bk_go ⟨h4,by omega⟩]
 refine ⟨fun p hp'=>?_,fun k=>?_,fun k j hj hjk=>?_,fun j hj hjk=>?_,fun p hp'=>?_⟩
 ·unfold splitP at hp'
  rcases List.mem_append.1 hp' with hp' | hp'
  ·rcases List.mem_or_eq_of_mem_set hp' with hp' | rfl
   ·exact h.dn p hp'
   ·unfold zeroP
    dsimp only
    rw [e,hpow]
    omega
  ·rw [List.mem_singleton.1 hp']
   unfold oneP
   dsimp only
   rw [e,hpow]
   omega
 ·obtain ⟨q,q1,q2,q3⟩:=h.one k
  by_cases hq:q = i
  ·subst hq
   cases hb:bitN k (ix L (q:Int)).depth.toNat with
   | true =>
    refine ⟨L.length,by omega,by rw [hix _ (Nat.le_refl _),if_pos rfl]; exact (ho k).2 ⟨q2,hb⟩,fun j hj hjk=>?_⟩
    rw [hix j (by omega)] at hjk
    by_cases hjl:j = L.length
    ·exact hjl
    ·rw [if_neg hjl] at hjk
     by_cases hqj:q = j
     ·rw [if_pos hqj] at hjk
      have:=((hz k).1 hjk).2
      rw [hb] at this; cases this
     ·rw [if_neg hqj] at hjk
      have:=q3 j (by omega) hjk
      omega
   | false =>
    refine ⟨q,by omega,by rw [hix _ (by omega),if_neg (by omega),if_pos rfl]; exact (hz k).2 ⟨q2,hb⟩,fun j hj hjk=>?_⟩
    rw [hix j (by omega)] at hjk
    by_cases hjl:j = L.length
    ·rw [if_pos hjl] at hjk
     have:=((ho k).1 hjk).2
     rw [hb] at this; cases this
    ·rw [if_neg hjl] at hjk
     by_cases hqj:q = j
     ·exact hqj.symm
     ·rw [if_neg hqj] at hjk
      exact q3 j (by omega) hjk
  ·refine ⟨q,by omega,by rw [hix _ (by omega),if_neg (by omega),if_neg (fun e=>hq e.symm)]; exact q2,fun j hj hjk=>?_⟩
   rw [hix j (by omega)] at hjk
   by_cases hjl:j = L.length
   ·rw [if_pos hjl] at hjk
    exact absurd (q3 i hi ((ho k).1 hjk).1).symm hq
   ·rw [if_neg hjl] at hjk
    by_cases hqj:i = j
    ·rw [if_pos hqj] at hjk
     exact absurd (q3 i hi ((hz k).1 hjk).1).symm hq
    ·rw [if_neg hqj] at hjk
     exact q3 j (by omega) hjk
 ·rw [hix j (by omega)] at hjk ⊢
  by_cases hjl:j = L.length
  ·rw [if_pos hjl] at hjk ⊢
   obtain ⟨k1,k2⟩:=(ho k).1 hjk
   rw [hres k k1]
   have e1:(oneP (ix L (i:Int))).depth.toNat = (ix L (i:Int)).depth.toNat + 1:=e
   have e2:(oneP (ix L (i:Int))).items = hiI (ix L (i:Int)).depth.toNat (ix L (i:Int)).items:=rfl
   have e3:(oneP (ix L (i:Int))).depth = (((ix L (i:Int)).depth.toNat + 1:Nat):Int):=by show (ix L (i:Int)).depth + 1 = _; omega
   rw [e1,e2,e3,k2]
   by_cases hb:bitN key (ix L (i:Int)).depth.toNat = true
   ·rw [if_pos hb.symm,if_pos ((ho key).2 ⟨hm,hb⟩)]
    unfold half; rw [hb]; rfl
   ·rw [if_neg (fun hc=>hb hc.symm),if_neg (fun hc=>hb ((ho key).1 hc).2)]
    unfold half; rw [k2]; rfl
  ·rw [if_neg hjl] at hjk ⊢
   by_cases hij:i = j
   ·rw [if_pos hij] at hjk ⊢
    obtain ⟨k1,k2⟩:=(hz k).1 hjk
    rw [hres k k1]
    have e1:(zeroP (ix L (i:Int))).depth.toNat = (ix L (i:Int)).depth.toNat + 1:=e
    have e2:(zeroP (ix L (i:Int))).items = loI (ix L (i:Int)).depth.toNat (ix L (i:Int)).items:=rfl
    have e3:(zeroP (ix L (i:Int))).depth = (((ix L (i:Int)).depth.toNat + 1:Nat):Int):=by show (ix L (i:Int)).depth + 1 = _; omega
    rw [e1,e2,e3,k2]
    by_cases hb:bitN key (ix L (i:Int)).depth.toNat = false
    ·rw [if_pos hb.symm,if_pos ((hz key).2 ⟨hm,hb⟩)]
     unfold half; rw [hb]; rfl
    ·rw [if_neg (fun hc=>hb hc.symm),if_neg (fun hc=>hb ((hz key).1 hc).2)]
     unfold half; rw [k2]; rfl
   ·rw [if_neg hij] at hjk ⊢
    exact h.res k j (by omega) hjk
 ·rw [hix j (by omega)] at hjk ⊢
  have hf:=h.few i hi hm
  rw [hlen]
  by_cases hjl:j = L.length
  ·rw [if_pos hjl]
   show L.length + 1≤4096 + ((ix L (i:Int)).depth + 1).toNat
   omega
  ·rw [if_neg hjl] at hjk ⊢
   by_cases hij:i = j
   ·rw [if_pos hij]
    show L.length + 1≤4096 + ((ix L (i:Int)).depth + 1).toNat
    omega
   ·rw [if_neg hij] at hjk
    obtain ⟨q,_,_,q3⟩:=h.one key
    have a:=q3 j (by omega) hjk
    have b:=q3 i hi hm
    omega
 ·unfold splitP at hp'
  rcases List.mem_append.1 hp' with hp' | hp'
  ·rcases List.mem_or_eq_of_mem_set hp' with hp' | rfl
   ·exact h.il p hp'
   ·exact Nat.le_trans (List.length_filter_le ..) hil
  ·rw [List.mem_singleton.1 hp']
   exact Nat.le_trans (List.length_filter_le ..) hil
theorem parts_l2 {R:Int→Bucket} {d:Dict} {x:GItem} {L:List part} (h:Parts R x.Key L) {i:Nat} (hi:i < L.length) (hm:pm (ix L (i:Int)) x.Key) (h12:(ix L (i:Int)).depth < 12) :
  loopO (taskmillref_PutDict_l2 d x L) ((i:Int),0,ix L (i:Int),(ix L (i:Int)).depth + 1,(ix L (i:Int)).bits,(ix L (i:Int)).depth + 1,(ix L (i:Int)).bits + 2 ^ (ix L (i:Int)).depth.toNat,[],[]) = some (.inl (splitP L i)):=by
 have hp:=h.dn _ (ix_mem (l:=L) (j:=(i:Int)) ⟨by omega,by omega⟩)
 have hil:=h.il _ (ix_mem (l:=L) (j:=(i:Int)) ⟨by omega,by omega⟩)
 have hf:=h.few i hi hm
 generalize hpe:ix L (i:Int) = p at *
 obtain ⟨t,ht⟩:∃ t:Nat,p.depth = (t:Int):=⟨p.depth.toNat,by omega⟩
 have htn:p.depth.toNat = t:=by omega
 refine Eq.trans ?_ (loopO_all (step:=taskmillref_PutDict_l2 d x L) (fun k=>((i:Int),((k:Nat):Int),p,p.depth + 1,p.bits,p.depth + 1,p.bits + 2 ^ p.depth.toNat,loI p.depth.toNat (p.items.take k),hiI p.depth.toNat (p.items.take k))) (some (.inl (splitP L i))) p.items.length (fun k hk=>?_) ?_)
 ·rfl
 ·unfold taskmillref_PutDict_l2 taskmillref_PutDict_j1
  dsimp only
  have h1:(loI p.depth.toNat (p.items.take k)).length≤k:=Nat.le_trans (List.length_filter_le ..) (by simp; omega)
  have h2:(hiI p.depth.toNat (p.items.take k)).length≤k:=Nat.le_trans (List.length_filter_le ..) (by simp; omega)
  rw [lt_n hk,ge_n,ix_get hk,wrap_n1 k (by omega),ht,ge_n,shr_eq _ t (by omega),Int.toNat_natCast]
  rw [htn] at h1 h2
  have hlo:loI t (p.items.take (k + 1)) = bif !bitN p.items[k].Key t then loI t (p.items.take k) ++ [p.items[k]] else loI t (p.items.take k):=by
   unfold loI
   rw [List.take_succ_eq_append_getElem hk,List.filter_append]
   cases h:!bitN p.items[k].Key t <;> simp [h]
  have hhi:hiI t (p.items.take (k + 1)) = bif bitN p.items[k].Key t then hiI t (p.items.take k) ++ [p.items[k]] else hiI t (p.items.take k):=by
   unfold hiI
   rw [List.take_succ_eq_append_getElem hk,List.filter_append]
   cases h:bitN p.items[k].Key t <;> simp [h]
  rw [hlo,hhi]
  cases hb:bitN p.items[k].Key t with
  | true =>
   simp only [Bool.not_true,cond_false,cond_true,Bool.and_self]
   rw [decide_eq_true (show (hiI t (p.items.take k) ++ ([p.items[k]]:List GItem)).length * 16≤140737488355328 by simp; omega)]; rfl
  | false =>
   simp only [Bool.not_false,cond_false,cond_true,Bool.and_self]
   rw [decide_eq_true (show (loI t (p.items.take k) ++ ([p.items[k]]:List GItem)).length * 16≤140737488355328 by simp; omega)]; rfl
 ·unfold taskmillref_PutDict_l2
  dsimp only
  have e:L.set ((i:Int)).toNat (⟨p.depth + 1,p.bits,loI p.depth.toNat (p.items.take p.items.length)⟩:part) ++ ([⟨p.depth + 1,p.bits + 2 ^ p.depth.toNat,hiI p.depth.toNat (p.items.take p.items.length)⟩]:List part) = splitP L i:=by
   unfold splitP zeroP oneP
   rw [hpe,List.take_length,Int.toNat_natCast]
  have hlen:(splitP L i).length = L.length + 1:=by unfold splitP; simp
  rw [nlt_n,cond_false,lt_n hi,ge_n,e,decide_eq_true (show (splitP L i).length * 40≤140737488355328 by omega)]
  rfl
end Go.Proofs.Yticigkhhhmiglaa
end

section
namespace Go.Proofs.Yticigkhhhmiglaa
open Go Go.Sx
set_option linter.unusedVariables false
set_option linter.unusedSimpArgs false
structure Done (R:Int→Bucket) (L:List part):Prop where
 dn:∀ p ∈ L,0≤p.depth∧p.depth≤12∧0≤p.bits∧p.bits < 2 ^ p.depth.toNat
 one:∀ k:Int,∃ i:Nat,i < L.length∧pm (ix L (i:Int)) k∧∀ j:Nat,j < L.length→pm (ix L (j:Int)) k→j = i
 res:∀ (k:Int) (i:Nat),i < L.length→pm (ix L (i:Int)) k→R k = ⟨(ix L (i:Int)).depth,(ix L (i:Int)).items⟩
 len:L.length≤5000
theorem parts_l6 {R:Int→Bucket} {d:Dict} {x:GItem}:∀ (n:Nat) {L:List part} (h:Parts R x.Key L) (i:Nat),i < L.length→pm (ix L (i:Int)) x.Key→12 - (ix L (i:Int)).depth.toNat≤n→∃ L',Done R L'∧loopO (taskmillref_PutDict_l6 d x) L = loopO (taskmillref_PutDict_l5 L') (0,d.Depth):=by
 intro n
 induction n with
 | zero =>
  intro L h i hi hm hn
  have hp:=h.dn _ (ix_mem (l:=L) (j:=(i:Int)) ⟨by omega,by omega⟩)
  have hf:=h.few i hi hm
  obtain ⟨i',g1,g2,g3⟩:=at_eq h (by omega)
  obtain ⟨q,_,_,q3⟩:=h.one x.Key
  have ei:i' = i:=by have a:=q3 i' g1 g2; have b:=q3 i hi hm; omega
  subst ei
  refine ⟨L,⟨h.dn,h.one,fun k j hj hjk=>?_,by omega⟩,loopO_out ?_⟩
  ·rw [h.res k j hj hjk]
   split
   ·rename_i hmk
    have ej:j = i':=by have a:=q3 j hj hmk; have b:=q3 i' hi hm; omega
    subst ej
    rw [bk_stop (by omega),show (((ix L (j:Int)).depth.toNat:Nat):Int) = (ix L (j:Int)).depth by omega]
   ·rfl
  ·unfold taskmillref_PutDict_l6 taskmillref_PutDict_j5
   rw [g3,Option.bind_some,lt_n hi,ge_n]
   simp only [Bool.and_self,cond_true,Option.bind_some,lt_n hi,ge_n]
   have h12:decide ((ix L (i':Int)).depth < 12) = false:=by simp; omega
   rw [h12]
   cases decide ((4:Int) < (((ix L (i':Int)).items.length:Nat):Int)) <;> rfl
 | succ n ih =>
  intro L h i hi hm hn
  have hp:=h.dn _ (ix_mem (l:=L) (j:=(i:Int)) ⟨by omega,by omega⟩)
  have hf:=h.few i hi hm
  obtain ⟨i',g1,g2,g3⟩:=at_eq h (by omega)
  obtain ⟨q,_,_,q3⟩:=h.one x.Key
  have ei:i' = i:=by have a:=q3 i' g1 g2; have b:=q3 i hi hm; omega
  subst ei
  by_cases hgo:4 < (ix L (i':Int)).items.length∧(ix L (i':Int)).depth < 12
  ·have hs:=h.split hi hm hgo.1 hgo.2
   have hpp:=h.dn _ (ix_mem (l:=L) (j:=(i':Int)) ⟨by omega,by omega⟩)
   obtain ⟨i2,a1,a2,a3⟩:=hs.one x.Key
   have hdep:(ix (splitP L i') (i2:Int)).depth.toNat = (ix L (i':Int)).depth.toNat + 1:=by
    have hlen:(splitP L i').length = L.length + 1:=by unfold splitP; simp
    rw [splitP_ix hi i2 (by omega)] at a2 ⊢
    by_cases e1:i2 = L.length
    ·rw [if_pos e1]
     show ((ix L (i':Int)).depth + 1).toNat = _
     omega
    ·rw [if_neg e1] at a2 ⊢
     by_cases e2:i' = i2
     ·rw [if_pos e2]
      show ((ix L (i':Int)).depth + 1).toNat = _
      omega
     ·rw [if_neg e2] at a2
      have a:=q3 i2 (by omega) a2
      have b:=q3 i' hi hm
      omega
   obtain ⟨L',d1,d2⟩:=ih hs i2 a1 a2 (by omega)
   refine ⟨L',d1,?_⟩
   rw [← d2]
   refine loopO_inl ?_
   unfold taskmillref_PutDict_l6 taskmillref_PutDict_j5
   have hl2:=parts_l2 (d:=d) h hi hm hgo.2
   obtain ⟨t,ht⟩:∃ t:Nat,(ix L (i':Int)).depth = (t:Int):=⟨(ix L (i':Int)).depth.toNat,by omega⟩
   have htn:(ix L (i':Int)).depth.toNat = t:=by omega
   have hb40:(2:Int) ^ t≤2 ^ 12:=p2_le (by omega)
   have h4096:(2:Int) ^ 12 = 4096:=by decide
   rw [htn] at hl2 hpp
   rw [g3,Option.bind_some,lt_n hi,ge_n]
   simp only [Bool.and_self,cond_true,Option.bind_some,lt_n hi,ge_n]
   rw [decide_eq_true (show (4:Int) < (((ix L (i':Int)).items.length:Nat):Int) by omega),decide_eq_true hgo.2,show decide ((0:Int)≤(ix L (i':Int)).depth) = true from by simp; omega]
   simp only [cond_true]
   rw [show min ((ix L (i':Int)).depth).toNat (IntKind.i64).bits = min ((t:Nat):Int).toNat (IntKind.i64).bits from by rw [ht],sh_eq t (by omega),wrap_id (x:=(ix L (i':Int)).depth + 1) (by omega) (by omega),wrap_id (x:=(ix L (i':Int)).bits + 2 ^ t) (by omega) (by omega)]
   exact hl2
  ·refine ⟨L,⟨h.dn,h.one,fun k j hj hjk=>?_,by omega⟩,loopO_out ?_⟩
   ·rw [h.res k j hj hjk]
    split
    ·rename_i hmk
     have ej:j = i':=by have a:=q3 j hj hmk; have b:=q3 i' hi hm; omega
     subst ej
     rw [bk_stop (fun hc=>hgo ⟨hc.1,by omega⟩),show (((ix L (j:Int)).depth.toNat:Nat):Int) = (ix L (j:Int)).depth by omega]
    ·rfl
   ·unfold taskmillref_PutDict_l6 taskmillref_PutDict_j5
    rw [g3,Option.bind_some,lt_n hi,ge_n]
    simp only [Bool.and_self,cond_true,Option.bind_some,lt_n hi,ge_n]
    by_cases h4:4 < (ix L (i':Int)).items.length
    ·rw [decide_eq_false (show ¬ (ix L (i':Int)).depth < 12 from fun hc=>hgo ⟨h4,hc⟩)]
     cases decide ((4:Int) < (((ix L (i':Int)).items.length:Nat):Int)) <;> rfl
    ·rw [decide_eq_false (show ¬ (4:Int) < (((ix L (i':Int)).items.length:Nat):Int) by omega)]; rfl
def mxN (L:List part) (D:Int):Nat→Int
 | 0=>D
 | i + 1=>if mxN L D i < (ix L (i:Int)).depth then (ix L (i:Int)).depth else mxN L D i
theorem mxN_spec (L:List part) (D:Int):∀ n,n≤L.length→D≤mxN L D n∧(∀ j:Nat,j < n→(ix L (j:Int)).depth≤mxN L D n)∧(mxN L D n = D ∨ ∃ j:Nat,j < n∧(ix L (j:Int)).depth = mxN L D n)
 | 0,_=>⟨Int.le_refl _,fun j hj=>by omega,.inl rfl⟩
 | n + 1,hn=>by
  obtain ⟨h1,h2,h3⟩:=mxN_spec L D n (by omega)
  unfold mxN
  split
  ·rename_i hlt
   refine ⟨by omega,fun j hj=>?_,.inr ⟨n,by omega,rfl⟩⟩
   by_cases e:j = n
   ·subst e; omega
   ·have:=h2 j (by omega); omega
  ·rename_i hlt
   refine ⟨h1,fun j hj=>?_,?_⟩
   ·by_cases e:j = n
    ·subst e; omega
    ·exact h2 j (by omega)
   ·rcases h3 with h3 | ⟨j,hj,he⟩
    ·exact .inl h3
    ·exact .inr ⟨j,by omega,he⟩
theorem parts_l5 (L:List part) (D:Int) (hl:L.length≤5000):loopO (taskmillref_PutDict_l5 L) (0,D) = loopO (taskmillref_PutDict_l4 L (mxN L D L.length)) (0,List.replicate L.length (default:Int),[],[]):=by
 refine Eq.trans ?_ (loopO_all (step:=taskmillref_PutDict_l5 L) (fun i=>(((i:Nat):Int),mxN L D i)) _ L.length (fun i hi=>?_) ?_)
 ·rfl
 ·unfold taskmillref_PutDict_l5 taskmillref_PutDict_j2
  dsimp only
  rw [lt_n hi,ge_n,wrap_n1 i (by omega)]
  have e:mxN L D (i + 1) = if mxN L D i < (ix L (i:Int)).depth then (ix L (i:Int)).depth else mxN L D i:=rfl
  rw [e]
  by_cases h:mxN L D i < (ix L (i:Int)).depth
  ·rw [if_pos h,decide_eq_true h]; rfl
  ·rw [if_neg h,decide_eq_false h]; rfl
 ·unfold taskmillref_PutDict_l5
  dsimp only
  rw [nlt_n,cond_false,decide_eq_true ⟨by omega,by omega,by omega⟩]
  rfl
structure NumP (L:List part) (i:Nat) (c3:List Int) (c5:List Int) (c6:List Bucket):Prop where
 nlen:c3.length = L.length
 plen:c5.length = i
 at':∀ j:Nat,j < i→∀ q:Nat,q < L.length→pm (ix L (q:Int)) (j:Int)→ix c3 (q:Int) = ix c5 (j:Int) + 1∧ix c6 (ix c5 (j:Int)) = ⟨(ix L (q:Int)).depth,(ix L (q:Int)).items⟩
 rng:∀ j:Nat,j < i→0≤ix c5 (j:Int)∧ix c5 (j:Int) < (c6.length:Int)
 zero:∀ q:Nat,q < L.length→ix c3 (q:Int) ≠ 0→∃ j:Nat,j < i∧pm (ix L (q:Int)) (j:Int)
 inj:∀ j j':Nat,j < i→j' < i→ix c5 (j:Int) = ix c5 (j':Int)→∀ q:Nat,q < L.length→pm (ix L (q:Int)) (j:Int)→pm (ix L (q:Int)) (j':Int)
 llen:c6.length≤i
 onto:∀ n:Nat,n < c6.length→∃ j:Nat,j < i∧ix c5 (j:Int) = (n:Int)
 num:∀ j:Nat,j < i→∀ n:Int,0≤n→n < ix c5 (j:Int)→∃ j':Nat,j' < j∧ix c5 (j':Int) = n
def stepN (L:List part) (q:Nat) (c3 c5:List Int) (c6:List Bucket):List Int × List Int × List Bucket :=
 if ix c3 (q:Int) = 0 then (c3.set q ((c6.length + 1:Nat):Int),c5 ++ [(c6.length:Int)],c6 ++ [⟨(ix L (q:Int)).depth,(ix L (q:Int)).items⟩])
 else (c3,c5 ++ [ix c3 (q:Int) - 1],c6)
theorem parts_l3 {R:Int→Bucket} {L:List part} (h:Done R L) (m:Int) (i:Nat) (hi:i≤10000) {c3 c5:List Int} {c6:List Bucket} (hn:NumP L i c3 c5 c6) {q:Nat} (hq:q < L.length) (hqm:pm (ix L (q:Int)) (i:Int)) (hqu:∀ j:Nat,j < L.length→pm (ix L (j:Int)) (i:Int)→j = q) :
  loopO (taskmillref_PutDict_l3 L m (i:Int)) (0,c3,c5,c6) = some (.inl (((i + 1:Nat):Int),stepN L q c3 c5 c6)):=by
 have hlen:=h.len
 have hnl:=hn.nlen
 have hpl:=hn.plen
 have hll:=hn.llen
 refine Eq.trans ?_ (loopO_all (step:=taskmillref_PutDict_l3 L m (i:Int)) (fun k=>(((k:Nat):Int),if k≤q then (c3,c5,c6) else stepN L q c3 c5 c6)) (some (.inl (((i + 1:Nat):Int),stepN L q c3 c5 c6))) L.length (fun k hk=>?_) ?_)
 ·rw [if_pos (Nat.zero_le _)]; rfl
 ·have hd:=h.dn _ (ix_mem (l:=L) (j:=(k:Int)) ⟨by omega,by omega⟩)
  by_cases hkq:k = q
  ·subst hkq
   rw [if_pos (Nat.le_refl _),if_neg (by omega)]
   unfold taskmillref_PutDict_l3
   dsimp only
   rw [lt_n hk,ge_n,pm_bits _ _ ⟨hd.1,hd.2.1⟩]
   simp only [Bool.and_self,cond_true,Option.bind_some]
   rw [show ((i:Int) % 2 ^ (ix L (k:Int)).depth.toNat != (ix L (k:Int)).bits) = false from by simpa [pm] using hqm,cond_false,show decide ((k:Int) < ((c3.length:Nat):Int)) = true from by simp; omega]
   unfold taskmillref_PutDict_j4 taskmillref_PutDict_j3
   by_cases h0:ix c3 (k:Int) = 0
   ·rw [h0]
    unfold stepN
    rw [if_pos h0]
    have hix:ix (c3.set ((k:Int)).toNat ((c6.length + 1:Nat):Int)) (k:Int) = ((c6.length + 1:Nat):Int):=by rw [ix_set ⟨by omega,by omega⟩ (by omega),if_pos rfl]
    have e6:((c6 ++ ([⟨(ix L (k:Int)).depth,(ix L (k:Int)).items⟩]:List Bucket)).length) = c6.length + 1:=by simp
    rw [show ((0:Int) == 0) = true from rfl,cond_true,decide_eq_true (show (c6 ++ ([⟨(ix L (k:Int)).depth,(ix L (k:Int)).items⟩]:List Bucket)).length * 32≤140737488355328 by rw [e6]; omega),cond_true,e6,hix,ge_n,show decide ((k:Int) < (((c3.set ((k:Int)).toNat ((c6.length + 1:Nat):Int)).length:Nat):Int)) = true from by simp; omega,show IntKind.i64.wrap (((c6.length + 1:Nat):Int) - 1) = (c6.length:Int) from by rw [wrap_id (by omega) (by omega)]; omega,decide_eq_true (show (c5 ++ ([(c6.length:Int)]:List Int)).length * 8≤140737488355328 by simp; omega),wrap_n1 k (by omega)]
    simp only [Bool.and_self,cond_true,Int.toNat_natCast]
   ·have hz:=hn.zero k hk h0
    obtain ⟨j,hj,hjm⟩:=hz
    have hat:=(hn.at' j hj k hk hjm).1
    have hrj:=hn.rng j hj
    unfold stepN
    rw [if_neg h0,show (ix c3 (k:Int) == 0) = false from by simpa using h0,cond_false,ge_n,show decide ((k:Int) < ((c3.length:Nat):Int)) = true from by simp; omega,wrap_id (x:=ix c3 (k:Int) - 1) (by omega) (by omega),decide_eq_true (show (c5 ++ ([ix c3 (k:Int) - 1]:List Int)).length * 8≤140737488355328 by simp; omega),wrap_n1 k (by omega)]
    simp only [Bool.and_self,cond_true]
  ·have hne:¬ pm (ix L (k:Int)) (i:Int):=fun hc=>hkq (hqu k hk hc)
   have hcond:(if k≤q then (c3,c5,c6) else stepN L q c3 c5 c6) = if k + 1≤q then (c3,c5,c6) else stepN L q c3 c5 c6:=by
    by_cases hle:k≤q
    ·rw [if_pos hle,if_pos (by omega)]
    ·rw [if_neg hle,if_neg (by omega)]
   rw [← hcond]
   generalize (if k≤q then (c3,c5,c6) else stepN L q c3 c5 c6) = st
   obtain ⟨s3,s5,s6⟩:=st
   unfold taskmillref_PutDict_l3 taskmillref_PutDict_j3
   dsimp only
   rw [lt_n hk,ge_n,pm_bits _ _ ⟨hd.1,hd.2.1⟩]
   simp only [Bool.and_self,cond_true,Option.bind_some]
   rw [show ((i:Int) % 2 ^ (ix L (k:Int)).depth.toNat != (ix L (k:Int)).bits) = true from by simpa [pm] using hne,cond_true,wrap_n1 k (by omega)]
 ·rw [if_neg (by omega)]
  generalize stepN L q c3 c5 c6 = st
  obtain ⟨s3,s5,s6⟩:=st
  unfold taskmillref_PutDict_l3
  dsimp only
  rw [nlt_n,cond_false,wrap_n1 i (by omega)]
theorem NumP.step {R:Int→Bucket} {L:List part} (h:Done R L) {i:Nat} {c3 c5:List Int} {c6:List Bucket} (hn:NumP L i c3 c5 c6) {q:Nat} (hq:q < L.length) (hqm:pm (ix L (q:Int)) (i:Int)) (hqu:∀ j:Nat,j < L.length→pm (ix L (j:Int)) (i:Int)→j = q) :
  NumP L (i + 1) (stepN L q c3 c5 c6).1 (stepN L q c3 c5 c6).2.1 (stepN L q c3 c5 c6).2.2:=by
 have hnl:=hn.nlen
 have hpl:=hn.plen
 have hll:=hn.llen
 have app:∀ (v:Int) (j:Nat),j≤i→ix (c5 ++ [v]) (j:Int) = if j = i then v else ix c5 (j:Int):=fun v j hj=>by
  rw [ix_app _ ⟨by omega,by omega⟩,hpl]
  simp only [Int.natCast_inj]
 unfold stepN
 by_cases h0:ix c3 (q:Int) = 0
 ·rw [if_pos h0]
  dsimp only
  have hnew:∀ j:Nat,j < i→¬ pm (ix L (q:Int)) (j:Int):=fun j hj hc=>by
   have:=(hn.at' j hj q hq hc).1
   have:=hn.rng j hj
   omega
  have hset:∀ r:Nat,ix (c3.set q ((c6.length + 1:Nat):Int)) (r:Int) = if q = r then ((c6.length + 1:Nat):Int) else ix c3 (r:Int):=fun r=>by
   have:=ix_set (l:=c3) (i:=(q:Int)) (j:=(r:Int)) ⟨by omega,by omega⟩ (by omega) ((c6.length + 1:Nat):Int)
   rw [Int.toNat_natCast] at this
   rw [this]
   simp only [Int.natCast_inj]
  have a6:∀ n:Int,0≤n→n≤(c6.length:Int)→ix (c6 ++ [⟨(ix L (q:Int)).depth,(ix L (q:Int)).items⟩]) n = if n = (c6.length:Int) then ⟨(ix L (q:Int)).depth,(ix L (q:Int)).items⟩ else ix c6 n:=fun n n0 n1=>ix_app _ ⟨n0,n1⟩
  have l6:(c6 ++ [(⟨(ix L (q:Int)).depth,(ix L (q:Int)).items⟩:Bucket)]).length = c6.length + 1:=by simp
  refine ⟨by simp [hnl],by simp [hpl],fun j hj r hr hrm=>?_,fun j hj=>?_,fun r hr hrn=>?_,fun j j' hj hj' he r hr hrm=>?_,by omega,fun n hnn=>?_,fun j hj n n0 n1=>?_⟩
  ·rw [app _ j (by omega),hset r]
   by_cases hji:j = i
   ·subst hji
    have:r = q:=hqu r hr hrm
    subst this
    rw [if_pos rfl,if_pos rfl,a6 _ (by omega) (by omega),if_pos rfl]
    exact ⟨by omega,rfl⟩
   ·have hrq:q ≠ r:=fun e=>hnew j (by omega) (by rw [e]; exact hrm)
    have hr':=hn.rng j (by omega)
    rw [if_neg hji,if_neg hrq,a6 _ hr'.1 (by omega),if_neg (by omega)]
    exact hn.at' j (by omega) r hr hrm
  ·rw [app _ j (by omega),l6]
   by_cases hji:j = i
   ·rw [if_pos hji]; omega
   ·rw [if_neg hji]
    have:=hn.rng j (by omega)
    omega
  ·rw [hset r] at hrn
   by_cases hqr:q = r
   ·subst hqr; exact ⟨i,by omega,hqm⟩
   ·rw [if_neg hqr] at hrn
    obtain ⟨j,hj,hjm⟩:=hn.zero r hr hrn
    exact ⟨j,by omega,hjm⟩
  ·rw [app _ j (by omega),app _ j' (by omega)] at he
   by_cases hji:j = i <;> by_cases hji':j' = i
   ·rw [hji'] ; rw [hji] at hrm; exact hrm
   ·rw [if_pos hji,if_neg hji'] at he
    have:=hn.rng j' (by omega)
    omega
   ·rw [if_neg hji,if_pos hji'] at he
    have:=hn.rng j (by omega)
    omega
   ·rw [if_neg hji,if_neg hji'] at he
    exact hn.inj j j' (by omega) (by omega) he r hr hrm
  ·rw [l6] at hnn
   by_cases hne:n = c6.length
   ·exact ⟨i,by omega,by rw [app _ i (Nat.le_refl _),if_pos rfl,hne]⟩
   ·obtain ⟨j,hj,he⟩:=hn.onto n (by omega)
    exact ⟨j,by omega,by rw [app _ j (by omega),if_neg (by omega)]; exact he⟩
  ·rw [app _ j (by omega)] at n1
   by_cases hji:j = i
   ·rw [if_pos hji] at n1
    obtain ⟨j',hj',he⟩:=hn.onto n.toNat (by omega)
    exact ⟨j',by omega,by rw [app _ j' (by omega),if_neg (by omega),he]; omega⟩
   ·rw [if_neg hji] at n1
    obtain ⟨j',hj',he⟩:=hn.num j (by omega) n n0 n1
    exact ⟨j',hj',by rw [app _ j' (by omega),if_neg (by omega)]; exact he⟩
 ·rw [if_neg h0]
  dsimp only
  obtain ⟨j0,hj0,hjm0⟩:=hn.zero q hq h0
  have hat0:=hn.at' j0 hj0 q hq hjm0
  have hv:ix c3 (q:Int) - 1 = ix c5 (j0:Int):=by omega
  rw [hv]
  -- the place i is as the place j0
  have cs:∀ j:Nat,j < i + 1→∃ j1:Nat,j1 < i∧j1≤j∧ix (c5 ++ [ix c5 (j0:Int)]) (j:Int) = ix c5 (j1:Int)∧∀ r:Nat,r < L.length→(pm (ix L (r:Int)) (j:Int) ↔ pm (ix L (r:Int)) (j1:Int)):=fun j hj=>by
   by_cases hji:j = i
   ·subst hji
    refine ⟨j0,hj0,by omega,by rw [app _ j (Nat.le_refl _),if_pos rfl],fun r hr=>⟨fun hrm=>?_,fun hrm=>?_⟩⟩
    ·rw [hqu r hr hrm]; exact hjm0
    ·obtain ⟨u,_,_,u3⟩:=h.one (j0:Int)
     have a:=u3 r hr hrm
     have b:=u3 q hq hjm0
     have:r = q:=by omega
     rw [this]; exact hqm
   ·exact ⟨j,by omega,Nat.le_refl _,by rw [app _ j (by omega),if_neg hji],fun r hr=>Iff.rfl⟩
  refine ⟨hnl,by simp [hpl],fun j hj r hr hrm=>?_,fun j hj=>?_,fun r hr hrn=>?_,fun j j' hj hj' he r hr hrm=>?_,by omega,fun n hnn=>?_,fun j hj n n0 n1=>?_⟩
  ·obtain ⟨j1,a1,_,a2,a3⟩:=cs j hj
   rw [a2]; exact hn.at' j1 a1 r hr ((a3 r hr).1 hrm)
  ·obtain ⟨j1,a1,_,a2,a3⟩:=cs j hj
   rw [a2]; exact hn.rng j1 a1
  ·obtain ⟨j,hj,hjm⟩:=hn.zero r hr hrn
   exact ⟨j,by omega,hjm⟩
  ·obtain ⟨j1,a1,_,a2,a3⟩:=cs j hj
   obtain ⟨j2,b1,_,b2,b3⟩:=cs j' hj'
   exact (b3 r hr).2 (hn.inj j1 j2 a1 b1 (by rw [← a2,← b2]; exact he) r hr ((a3 r hr).1 hrm))
  ·obtain ⟨j,hj,he⟩:=hn.onto n hnn
   exact ⟨j,by omega,by rw [app _ j (by omega),if_neg (by omega)]; exact he⟩
  ·obtain ⟨j1,a1,a4,a2,a3⟩:=cs j hj
   rw [a2] at n1
   obtain ⟨j',hj',he⟩:=hn.num j1 a1 n n0 n1
   exact ⟨j',by omega,by rw [app _ j' (by omega),if_neg (by omega)]; exact he⟩
theorem parts_l4 {R:Int→Bucket} {L:List part} (h:Done R L) (D:Nat) (hD:D≤12):∃ c3 c5 c6,loopO (taskmillref_PutDict_l4 L (D:Int)) (0,List.replicate L.length (default:Int),[],[]) = some ((D:Int),c5,c6)∧NumP L (2 ^ D) c3 c5 c6:=by
 have h12:=pow12 hD
 have hc:=p2_cast D
 have hinv:=loopO_inv (step:=taskmillref_PutDict_l4 L (D:Int)) (fun s=>∃ (i:Nat) (c3 c5:List Int) (c6:List Bucket),s = ((i:Int),c3,c5,c6)∧i≤2 ^ D∧NumP L i c3 c5 c6) (fun s=>2 ^ D - s.1.toNat) (fun r=>∃ c3 c5 c6,r = ((D:Int),c5,c6)∧NumP L (2 ^ D) c3 c5 c6) (fun s hs=>?_) (s0:=(0,List.replicate L.length (default:Int),[],[])) ⟨0,_,[],[],rfl,Nat.zero_le _,?_⟩
 ·obtain ⟨r,h1,c3,c5,c6,rfl,h2⟩:=hinv
  exact ⟨c3,c5,c6,h1,h2⟩
 ·obtain ⟨i,c3,c5,c6,rfl,hi,hn⟩:=hs
  unfold taskmillref_PutDict_l4
  dsimp only
  rw [ge_n,sh_eq D (by omega),cond_true]
  by_cases hin:i < 2 ^ D
  ·left
   obtain ⟨q,q1,q2,q3⟩:=h.one (i:Int)
   rw [decide_eq_true (show (i:Int) < 2 ^ D by omega),cond_true,parts_l3 h (D:Int) i (by omega) hn q1 q2 q3]
   refine ⟨_,rfl,⟨i + 1,_,_,_,rfl,by omega,hn.step h q1 q2 q3⟩,by simp only [Int.toNat_natCast]; omega⟩
  ·right
   have e:i = 2 ^ D:=by omega
   subst e
   rw [decide_eq_false (show ¬ (((2 ^ D:Nat):Int)) < 2 ^ D by omega),cond_false]
   exact ⟨_,rfl,c3,c5,c6,rfl,hn⟩
 ·refine ⟨by simp,rfl,fun j hj=>by omega,fun j hj=>by omega,fun q hq hne=>?_,fun j j' hj=>by omega,by simp,fun n hn=>by simp at hn,fun j hj=>by omega⟩
  rw [ix_get (by simpa using hq)] at hne
  simp at hne
end Go.Proofs.Yticigkhhhmiglaa
end

section
namespace Go.Proofs.Yticigkhhhmiglaa
open Go Go.Sx
set_option linter.unusedVariables false
set_option linter.unusedSimpArgs false
def part0 (P:List Int) (B:List Bucket) (n:Nat):part:=⟨(ix B (n:Int)).Depth,(firstP P n:Int) % 2 ^ dpt (ix B (n:Int)),(ix B (n:Int)).Items⟩
def parts0 (P:List Int) (B:List Bucket):List part:=(List.range B.length).map (part0 P B)
theorem parts0_len (P:List Int) (B:List Bucket):(parts0 P B).length = B.length:=by simp [parts0]
theorem parts0_ix (P:List Int) (B:List Bucket) {n:Nat} (h:n < B.length):ix (parts0 P B) (n:Int) = part0 P B n:=by
 rw [ix_get (by rw [parts0_len]; exact h)]
 simp [parts0]
theorem pm0 {D:Nat} {P:List Int} {B:List Bucket} (h:Mid D P B) {n:Nat} (hn:n < B.length) (k:Int):pm (part0 P B n) k ↔ ix P (plc D k:Int) = (n:Int):=by
 have hpl:=h.plen
 obtain ⟨j,hj,he⟩:=h.onto (n:Int) (by omega) (by omega)
 obtain ⟨g1,g2,_⟩:=firstP_at (P:=P) (n:=n) ⟨j,by omega,he⟩
 have hs:=h.bsame (firstP P n:Int) k
 have hb:bkt D P B (firstP P n:Int) = ix B (n:Int):=by unfold bkt; rw [plc_nat (by omega),g2]
 rw [hb,plc_nat (by omega),g2] at hs
 rw [hs]
 unfold pm part0 dpt
 exact Iff.rfl
theorem putDict_eq {D:Nat} {P:List Int} {B:List Bucket} (h:Fine D P B) (x:GItem) (hk:x.Key ∉ keysOf (bkt D P B x.Key).Items) (h5:(bkt D P B x.Key).Items.length < 5000)
  {D':Nat} {Q:List Int} {L:List Bucket} (hr:List GItem) (hput:taskmillref_PutItem (bkt D P B x.Key).Items x = some hr) (hrl:hr.length≤5001) (h':Fine D' Q L) (hDD:D≤D')
  (hR:∀ k,bkt D' Q L k = if ix P (plc D k:Int) = ix P (plc D x.Key:Int) then bk x.Key (12 - dpt (bkt D P B x.Key)) (dpt (bkt D P B x.Key)) hr k else bkt D P B k) :
  taskmillref_PutDict ⟨(D:Int),P,B⟩ x = some ((D':Int),Q,L):=by
 have h12:=pow12 h.mid.d12
 have hpl:=h.mid.plen
 have hbl:=h.mid.blen
 have hrng:=h.mid.prng x.Key
 have hd12:=h.mid.d12
 obtain ⟨n0,hn0⟩:∃ n0:Nat,ix P (plc D x.Key:Int) = (n0:Int):=⟨(ix P (plc D x.Key:Int)).toNat,by omega⟩
 have hn0l:n0 < B.length:=by omega
 have hbk:bkt D P B x.Key = ix B (n0:Int):=by unfold bkt; rw [hn0]
 have hB0:∀ n:Nat,n < B.length→0≤(ix B (n:Int)).Depth∧(ix B (n:Int)).Depth≤12:=fun n hn=>by
  have:=h.mid.dn _ (ix_mem (l:=B) (j:=(n:Int)) ⟨by omega,by omega⟩)
  omega
 have hdn0:∀ p ∈ parts0 P B,0≤p.depth∧p.depth≤12∧0≤p.bits∧p.bits < 2 ^ p.depth.toNat:=fun p hp=>by
  unfold parts0 at hp
  obtain ⟨n,hn,rfl⟩:=List.mem_map.1 hp
  have hn:=List.mem_range.1 hn
  have h1:=hB0 n hn
  exact ⟨h1.1,h1.2,mod_nn _ _,mod_lt _ _⟩
 have hone0:∀ k:Int,∃ i:Nat,i < (parts0 P B).length∧pm (ix (parts0 P B) (i:Int)) k∧∀ j:Nat,j < (parts0 P B).length→pm (ix (parts0 P B) (j:Int)) k→j = i:=fun k=>by
  have hk:=h.mid.prng k
  obtain ⟨n,hn⟩:∃ n:Nat,ix P (plc D k:Int) = (n:Int):=⟨(ix P (plc D k:Int)).toNat,by omega⟩
  have hnl:n < B.length:=by omega
  refine ⟨n,by rw [parts0_len]; exact hnl,by rw [parts0_ix _ _ hnl]; exact (pm0 h.mid hnl k).2 hn,fun j hj hjm=>?_⟩
  rw [parts0_len] at hj
  rw [parts0_ix _ _ hj] at hjm
  have:=(pm0 h.mid hj k).1 hjm
  omega
 obtain ⟨i0,g1,g2,g3⟩:=at_gen (x:=x) hdn0 hone0 (by rw [parts0_len]; omega)
 have ei:i0 = n0:=by
  rw [parts0_len] at g1
  rw [parts0_ix _ _ g1] at g2
  have:=(pm0 h.mid g1 x.Key).1 g2
  omega
 subst ei
 -- the parts with the new item
 have hset:∀ j:Nat,j < B.length→ix ((parts0 P B).set i0 { part0 P B i0 with items:=hr }) (j:Int) = if i0 = j then { part0 P B i0 with items:=hr } else part0 P B j:=fun j hj=>by
  have:=ix_set (l:=parts0 P B) (i:=(i0:Int)) (j:=(j:Int)) ⟨by omega,by omega⟩ (by omega) { part0 P B i0 with items:=hr }
  rw [Int.toNat_natCast] at this
  rw [this,parts0_ix _ _ hj]
  simp only [Int.natCast_inj]
 have hpm1:∀ (j:Nat) (k:Int),j < B.length→(pm (ix ((parts0 P B).set i0 { part0 P B i0 with items:=hr }) (j:Int)) k ↔ ix P (plc D k:Int) = (j:Int)):=fun j k hj=>by
  rw [hset j hj]
  by_cases hij:i0 = j
  ·rw [if_pos hij,← hij]
   exact pm0 h.mid hn0l k
  ·rw [if_neg hij]
   exact pm0 h.mid hj k
 have hlen1:((parts0 P B).set i0 { part0 P B i0 with items:=hr }).length = B.length:=by rw [List.length_set,parts0_len]
 have hparts:Parts (fun k=>bkt D' Q L k) x.Key ((parts0 P B).set i0 { part0 P B i0 with items:=hr }):=by
  refine ⟨fun p hp=>?_,fun k=>?_,fun k j hj hjm=>?_,fun j hj hjm=>?_,fun p hp=>?_⟩
  ·rcases List.mem_or_eq_of_mem_set hp with hp | rfl
   ·exact hdn0 p hp
   ·exact hdn0 (part0 P B i0) (List.mem_map.2 ⟨i0,List.mem_range.2 hn0l,rfl⟩)
  ·have hk:=h.mid.prng k
   obtain ⟨n,hn⟩:∃ n:Nat,ix P (plc D k:Int) = (n:Int):=⟨(ix P (plc D k:Int)).toNat,by omega⟩
   have hnl:n < B.length:=by omega
   refine ⟨n,by rw [hlen1]; exact hnl,(hpm1 n k hnl).2 hn,fun j hj hjm=>?_⟩
   rw [hlen1] at hj
   have:=(hpm1 j k hj).1 hjm
   omega
  ·rw [hlen1] at hj
   have hjk:=(hpm1 j k hj).1 hjm
   show bkt D' Q L k = _
   rw [hR k,hn0,hjk]
   have hc:pm (ix ((parts0 P B).set i0 { part0 P B i0 with items:=hr }) (j:Int)) x.Key ↔ (j:Int) = (i0:Int):=by rw [hpm1 j x.Key hj,hn0]; exact eq_comm
   by_cases hji:(j:Int) = (i0:Int)
   ·have e:j = i0:=by omega
    subst e
    rw [if_pos rfl,if_pos (hc.2 rfl),hset j hj,if_pos rfl,hbk]
    rfl
   ·rw [if_neg hji,if_neg (fun h=>hji (hc.1 h)),hset j hj,if_neg (by omega)]
    unfold bkt part0
    rw [hjk]
  ·rw [hlen1]; omega
  ·rcases List.mem_or_eq_of_mem_set hp with hp | rfl
   ·unfold parts0 at hp
    obtain ⟨n,hn,rfl⟩:=List.mem_map.1 hp
    have hn:=List.mem_range.1 hn
    have:=h.mid.cap _ (ix_mem (l:=B) (j:=(n:Int)) ⟨by omega,by omega⟩)
    show (ix B (n:Int)).Items.length≤5001
    omega
   ·exact hrl
 obtain ⟨L',hdone,hl6⟩:=parts_l6 (d:=⟨(D:Int),P,B⟩) (x:=x) 12 hparts i0 (by rw [hlen1]; exact hn0l) ((hpm1 i0 x.Key hn0l).2 hn0) (by omega)
 have hl5:=parts_l5 L' (D:Int) hdone.len
 -- how deep it is
 have hpart:∀ q:Nat,q < L'.length→(ix L' (q:Int)).depth = (dpt (bkt D' Q L (ix L' (q:Int)).bits):Int):=fun q hq=>by
  have hd:=hdone.dn _ (ix_mem (l:=L') (j:=(q:Int)) ⟨by omega,by omega⟩)
  have hm:pm (ix L' (q:Int)) (ix L' (q:Int)).bits:=mod_of hd.2.2.1 hd.2.2.2
  have:bkt D' Q L (ix L' (q:Int)).bits = ⟨(ix L' (q:Int)).depth,(ix L' (q:Int)).items⟩:=hdone.res _ q hq hm
  rw [this]
  unfold dpt
  dsimp only
  omega
 have hmx:mxN L' (D:Int) L'.length = (D':Int):=by
  obtain ⟨m1,m2,m3⟩:=mxN_spec L' (D:Int) L'.length (Nat.le_refl _)
  refine Int.le_antisymm ?_ ?_
  ·rcases m3 with m3 | ⟨j,hj,hje⟩
   ·omega
   ·have:=hpart j hj
    have:=(h'.mid.bdep (ix L' (j:Int)).bits).2
    omega
  ·by_cases h0:0 < D'
   ·obtain ⟨b,hb,hbe⟩:=h'.full h0
    obtain ⟨k,rfl⟩:=h'.mid.ball hb
    obtain ⟨q,q1,q2,_⟩:=hdone.one k
    have:bkt D' Q L k = ⟨(ix L' (q:Int)).depth,(ix L' (q:Int)).items⟩:=hdone.res k q q1 q2
    rw [this] at hbe
    have:=m2 q q1
    dsimp only at hbe
    omega
   ·omega
 rw [hmx] at hl5
 obtain ⟨c3,c5,c6,hl4,hn⟩:=parts_l4 hdone D' h'.mid.d12
 have huq:Q = c5∧L = c6:=by
  refine uniqP h'.mid.plen hn.plen h'.mid.rng hn.rng h'.num (fun i hi m m0 m1=>hn.num i (by rw [hn.plen] at hi; exact hi) m m0 m1) (fun n hnn=>h'.mid.onto (n:Int) (by omega) (by omega)) hn.onto (fun i j hi hj=>?_) (fun i hi=>?_)
  ·have hs:=h'.mid.bsame (i:Int) (j:Int)
   rw [plc_nat hi,plc_nat hj] at hs
   obtain ⟨q,q1,q2,q3⟩:=hdone.one (i:Int)
   have hres:bkt D' Q L (i:Int) = ⟨(ix L' (q:Int)).depth,(ix L' (q:Int)).items⟩:=hdone.res _ q q1 q2
   have hdp:dpt (bkt D' Q L (i:Int)) = (ix L' (q:Int)).depth.toNat:=by rw [hres]; rfl
   rw [hs,hdp]
   have hq2:(i:Int) % 2 ^ (ix L' (q:Int)).depth.toNat = (ix L' (q:Int)).bits:=q2
   rw [hq2]
   constructor
   ·intro hjq
    have a:=hn.at' i hi q q1 q2
    have b:=hn.at' j hj q q1 hjq
    omega
   ·intro he
    exact hn.inj i j hi hj he.symm q q1 q2
  ·obtain ⟨q,q1,q2,q3⟩:=hdone.one (i:Int)
   have hres:bkt D' Q L (i:Int) = ⟨(ix L' (q:Int)).depth,(ix L' (q:Int)).items⟩:=hdone.res _ q q1 q2
   have hb:bkt D' Q L (i:Int) = ix L (ix Q (i:Int)):=by unfold bkt; rw [plc_nat hi]
   rw [← hb,hres,(hn.at' i hi q q1 q2).2]
 obtain ⟨rfl,rfl⟩:=huq
 unfold taskmillref_PutDict
 refine Eq.trans ?_ (loopO_all (step:=taskmillref_PutDict_l7 ⟨(D:Int),P,B⟩ x) (fun n=>(((n:Nat):Int),(parts0 P B).take n)) (some ((D':Int),Q,L)) B.length (fun n hnb=>?_) ?_)
 ·rfl
 ·-- a bucket becomes a part
  have hdB:=hB0 n hnb
  obtain ⟨j,hj,he⟩:=h.mid.onto (n:Int) (by omega) (by omega)
  obtain ⟨f1,f2,f3⟩:=firstP_at (P:=P) (n:=n) ⟨j,by omega,he⟩
  unfold taskmillref_PutDict_l7
  dsimp only
  rw [lt_n hnb,cond_true]
  refine Eq.trans ?_ (loopO_all (step:=taskmillref_PutDict_l1 ⟨(D:Int),P,B⟩ x (n:Int) ((parts0 P B).take n)) (fun f=>((f:Nat):Int)) (some (.inl (((n + 1:Nat):Int),(parts0 P B).take (n + 1)))) (firstP P n) (fun f hf=>?_) ?_)
  ·rfl
  ·have:=f3 f hf
   unfold taskmillref_PutDict_l1
   dsimp only
   rw [lt_n (show f < P.length by omega),ge_n,bne_iff_ne.2 this,wrap_n1 f (by omega)]; rfl
  ·unfold taskmillref_PutDict_l1
   dsimp only
   have hbt:taskmillref_Bits (firstP P n:Int) (ix B (n:Int)).Depth = some ((firstP P n:Int) % 2 ^ dpt (ix B (n:Int))):=by
    conv=>lhs; rw [show (ix B (n:Int)).Depth = ((dpt (ix B (n:Int)):Nat):Int) by unfold dpt; omega]
    exact bits_eq _ _ (by unfold dpt; omega)
   have hnl:n < (parts0 P B).length:=by rw [parts0_len]; exact hnb
   have e:(parts0 P B).take n ++ ([⟨(ix B (n:Int)).Depth,(firstP P n:Int) % 2 ^ dpt (ix B (n:Int)),(ix B (n:Int)).Items⟩]:List part) = (parts0 P B).take (n + 1):=by
    rw [List.take_succ_eq_append_getElem hnl]
    congr 1
    simp [parts0,part0]
   have hln:((parts0 P B).take (n + 1)).length≤5000:=by rw [List.length_take,parts0_len]; omega
   rw [lt_n f1,ge_n,f2,bne_self_eq_false,cond_false,lt_n hnb,ge_n,hbt]
   simp only [Bool.and_self,cond_true,Option.bind_some,e]
   rw [decide_eq_true (show ((parts0 P B).take (n + 1)).length * 40≤140737488355328 by omega),wrap_n1 n (by omega)]
   rfl
 ·unfold taskmillref_PutDict_l7
  dsimp only
  rw [nlt_n,cond_false,show (parts0 P B).take B.length = parts0 P B from by rw [← parts0_len P B,List.take_length],g3]
  simp only [Option.bind_some]
  rw [lt_n g1,ge_n]
  simp only [Bool.and_self,cond_true]
  rw [parts0_ix _ _ hn0l,show (part0 P B i0).items = (bkt D P B x.Key).Items from by rw [hbk]; rfl,hput,Option.bind_some,Int.toNat_natCast,hl6,hl5,hl4]
end Go.Proofs.Yticigkhhhmiglaa
end
