/-
 Lemmas, put together: QA, QB, QC, raceO, raceO2, raceO3, raceO4, raceO5, raceO6, raceO7, raceO9, raceO10, raceO11, raceO12, raceO13, raceR, raceR2, raceR3, raceR4.
 No conditions.
-/
import Derived.Test.YtelegonboeacaaaraceA3
import Derived.Test.YtelegonboeacaaaraceG
set_option linter.unusedSimpArgs false
set_option linter.unusedVariables false
set_option linter.unusedSectionVars false
section
namespace Go.Sx
open Go
set_option linter.unusedVariables false
theorem wrap_id {x:Int} (h1:-9223372036854775808≤x) (h2:x≤9223372036854775807):IntKind.i64.wrap x = x:=by
 simp only [IntKind.wrap,IntKind.bits,IntKind.signed,if_true]
 simp
 omega
theorem wrap_n1 (i:Nat) (h:i < 4611686018427387904):IntKind.i64.wrap ((i:Int)+1) = ((i+1:Nat):Int):=by
 rw [wrap_id (by omega) (by omega)]; rfl
def firstAt {β:Type} (bad:Nat→Option β):Nat→Option β
 | 0=>none
 | n+1=>(firstAt bad n).or (bad n)
theorem firstAt_none {β:Type} {f:Nat→Option β}:∀ (n:Nat),firstAt f n = none↔∀ i,i < n→f i = none
 | 0=>by simp [firstAt]
 | n+1=>by
  simp only [firstAt,Option.or_eq_none_iff,firstAt_none n]
  constructor
  ·rintro ⟨h1,h2⟩ i hi
   by_cases h:i = n
   ·subst h; exact h2
   ·exact h1 i (by omega)
  ·exact fun h=>⟨fun i hi=>h i (by omega),h n (by omega)⟩
theorem firstAt_some {β:Type} {f:Nat→Option β} {b:β}:∀ (n:Nat),firstAt f n = some b→∃ i,i < n∧f i = some b∧∀ j,j < i→f j = none
 | 0,h=>by simp [firstAt] at h
 | n+1,h=>by
  simp only [firstAt] at h
  cases hf:firstAt f n with
  | some c =>
   rw [hf] at h
   obtain ⟨i,h1,h2,h3⟩:=firstAt_some n hf
   simp only [Option.some_or] at h
   exact ⟨i,by omega,by rw [h2,h],h3⟩
  | none =>
   rw [hf] at h
   simp only [Option.none_or] at h
   exact ⟨n,by omega,h,fun j hj=>(firstAt_none n).1 hf j hj⟩
theorem loopO_find {S ρ:Type} {step:S→Option (S ⊕ ρ)} (E:Nat→S) (bad:Nat→Option ρ) (rest:Option ρ) (n:Nat)
  (h1:∀ i,i < n→bad i = none→step (E i) = some (.inl (E (i+1)))) (h2:∀ i r,i < n→bad i = some r→step (E i) = some (.inr r)) (h3:(∀ i,i < n→bad i = none)→step (E n) = rest.map .inr) :
  loopO step (E 0) = match firstAt bad n with
   | some r=>some r
   | none=>rest:=by
 have walk:∀ k,k≤n→(∀ i,i < k→bad i = none)→loopO step (E 0) = loopO step (E k):=by
  intro k
  induction k with
  | zero=>exact fun _ _=>rfl
  | succ k ih =>
   intro hk hb
   rw [ih (by omega) fun i hi=>hb i (by omega),loopO_inl (h1 k (by omega) (hb k (by omega)))]
 cases hf:firstAt bad n with
 | none =>
  have hb:=(firstAt_none n).1 hf
  rw [walk n (Nat.le_refl _) hb,loopO_out (h3 hb)]
 | some r =>
  obtain ⟨i,g1,g2,g3⟩:=firstAt_some n hf
  rw [walk i (by omega) g3,loopO_inr (h2 i r g1 g2)]
theorem loopO_all {S ρ:Type} {step:S→Option (S ⊕ ρ)} (E:Nat→S) (rest:Option ρ) (n:Nat)
  (h1:∀ i,i < n→step (E i) = some (.inl (E (i+1)))) (h3:step (E n) = rest.map .inr):loopO step (E 0) = rest:=by
 have:=loopO_find E (fun _=>none) rest n (fun i hi _=>h1 i hi) (fun i r _ h=>by cases h) (fun _=>h3)
 rw [this,(firstAt_none n).2 fun _ _=>rfl]
theorem ix_get {α:Type} [Enc α] {xs:List α} {i:Nat} (h:i < xs.length):ix xs (i:Int) = xs[i]:=by
 simp [ix,List.getD_eq_getElem?_getD,h]
theorem cut_take {α:Type} (xs:List α) (i:Nat):cut xs 0 (i:Int) = xs.take i:=by simp [cut]
end Go.Sx
end

section
namespace Go.Sx
variable {α:Type}
end Go.Sx
end

section
namespace Go.Sx
def toldOr {S ρ:Type} (o:Option ρ) (s:S):Option (S ⊕ ρ):=match o with
 | some r=>some (.inr r)
 | none=>some (.inl s)
@[simp] theorem toldOr_some {S ρ:Type} (r:ρ) (s:S):toldOr (some r) s = some (.inr r):=rfl
@[simp] theorem toldOr_none {S ρ:Type} (s:S):toldOr (none:Option ρ) s = some (.inl s):=rfl
theorem loopO_findP {S ρ:Type} {step:S→Option (S ⊕ ρ)} (E:Nat→S) (bad:Nat→Option ρ) (d:ρ) (n:Nat)
  (h1:∀ i,i < n→(∀ j,j < i→bad j = none)→step (E i) = toldOr (bad i) (E (i+1)))
  (h3:(∀ i,i < n→bad i = none)→step (E n) = some (.inr d)):loopO step (E 0) = some ((firstAt bad n).getD d):=by
 have walk:∀ k,k≤n→(∀ i,i < k→bad i = none)→loopO step (E 0) = loopO step (E k):=by
  intro k
  induction k with
  | zero=>exact fun _ _=>rfl
  | succ k ih =>
   intro hk hb
   have:=h1 k (by omega) fun i hi=>hb i (by omega)
   rw [hb k (by omega),toldOr_none] at this
   rw [ih (by omega) fun i hi=>hb i (by omega),loopO_inl this]
 cases hf:firstAt bad n with
 | none =>
  have hb:=(firstAt_none n).1 hf
  rw [walk n (Nat.le_refl _) hb,loopO_inr (h3 hb)]; rfl
 | some r =>
  obtain ⟨i,g1,g2,g3⟩:=firstAt_some n hf
  have:=h1 i g1 g3
  rw [g2,toldOr_some] at this
  rw [walk i (by omega) g3,loopO_inr this]; rfl
theorem nodup_snoc {α:Type} {l:List α} {x:α}:(l++[x]).Nodup↔l.Nodup∧x ∉ l:=by
 rw [List.nodup_append]
 constructor
 ·rintro ⟨h1,_,h3⟩
  exact ⟨h1,fun h=>h3 x h x (by simp) rfl⟩
 ·rintro ⟨h1,h2⟩
  exact ⟨h1,by simp,fun a ha b hb e=>by simp at hb; subst hb; subst e; exact h2 ha⟩
theorem loopO_up {A S ρ:Type} {step:S→Option (S ⊕ ρ)} (n:Nat) (E:Nat→A→S) (I:Nat→A→Prop) (F:Nat→A→Option ρ)
  (hend:∀ a,I n a→step (E n a) = (F n a).map .inr)
  (hstep:∀ i a,i < n→I i a→(∃ a',step (E i a) = some (.inl (E (i+1) a'))∧I (i+1) a'∧F i a = F (i+1) a')∨step (E i a) = (F i a).map .inr)
  (a0:A) (h0:I 0 a0):loopO step (E 0 a0) = F 0 a0:=by
 have gen:∀ (d i:Nat) (a:A),i+d = n→I i a→loopO step (E i a) = F i a:=by
  intro d
  induction d with
  | zero=>intro i a hi ha; rw [Nat.add_zero] at hi; subst hi; exact loopO_out (hend a ha)
  | succ d ih =>
   intro i a hi ha
   rcases hstep i a (by omega) ha with ⟨a',h1,h2,h3⟩ | h1
   ·rw [loopO_inl h1,h3]; exact ih (i+1) a' (by omega) h2
   ·exact loopO_out h1
 exact gen n 0 a0 (by omega) h0
end Go.Sx
end

section
namespace Go.Proofs.Ytelegonboeacaaa
open Go Go.Sx
set_option linter.unusedVariables false
set_option linter.unusedSimpArgs false
variable {α:Type} [Enc α]
abbrev V:=VArr 65
theorem get_set {n:Nat} (a:VArr n) (i j v:Int) (hi:0≤i∧i < (n:Int)) (hj:0≤j):(a.set i v).get j = if j = i then v else a.get j:=by
 unfold VArr.set VArr.get
 have:=a.h
 by_cases h:j = i
 ·subst h; rw [if_pos rfl]
  simp only [List.getD_eq_getElem?_getD]
  rw [List.getElem?_set_self (by omega)]; rfl
 ·rw [if_neg h]
  simp only [List.getD_eq_getElem?_getD]
  rw [List.getElem?_set_ne (by omega)]
theorem v_ext {n:Nat} {a b:VArr n} (h:∀ j:Int,0≤j→j < (n:Int)→a.get j = b.get j):a = b:=by
 refine VArr.ext (List.ext_getElem (by rw [a.h,b.h]) fun i h1 h2=>?_)
 have:=h (i:Int) (by omega) (by have:=a.h; omega)
 unfold VArr.get at this
 simp only [Int.toNat_natCast,List.getD_eq_getElem?_getD,List.getElem?_eq_getElem h1,List.getElem?_eq_getElem h2,Option.getD_some] at this
 exact this
theorem get_default {n:Nat} (j:Int):(default:VArr n).get j = 0:=by
 unfold VArr.get
 show (List.replicate n (0:Int)).getD j.toNat 0 = 0
 rw [List.getD_eq_getElem?_getD]
 by_cases h:j.toNat < n
 ·rw [List.getElem?_eq_getElem (by simpa using h)]; simp
 ·rw [List.getElem?_eq_none (by simpa using h)]; rfl
def vmax {n:Nat} (a b:VArr n):VArr n:=⟨(List.range n).map fun i=>max (a.get ((i:Nat):Int)) (b.get ((i:Nat):Int)),by simp⟩
theorem vmax_get {n:Nat} (a b:VArr n) (j:Int) (h0:0≤j) (h1:j < (n:Int)):(vmax a b).get j = max (a.get j) (b.get j):=by
 show ((List.range n).map fun i=>max (a.get ((i:Nat):Int)) (b.get ((i:Nat):Int))).getD j.toNat 0 = _
 rw [List.getD_eq_getElem?_getD,List.getElem?_map,List.getElem?_range (by omega)]
 simp only [Option.map_some,Option.getD_some]
 rw [show (j.toNat:Int) = j from by omega]
def vmaxU {n:Nat} (i:Nat) (a b:VArr n):VArr n:=⟨(List.range n).map fun q=>if q < i then max (a.get ((q:Nat):Int)) (b.get ((q:Nat):Int)) else a.get ((q:Nat):Int),by simp⟩
theorem vmaxU_get {n:Nat} (i:Nat) (a b:VArr n) (j:Int) (h0:0≤j) (h1:j < (n:Int)):(vmaxU i a b).get j = if j < (i:Int) then max (a.get j) (b.get j) else a.get j:=by
 show ((List.range n).map fun q=>if q < i then max (a.get ((q:Nat):Int)) (b.get ((q:Nat):Int)) else a.get ((q:Nat):Int)).getD j.toNat 0 = _
 rw [List.getD_eq_getElem?_getD,List.getElem?_map,List.getElem?_range (by omega)]
 simp only [Option.map_some,Option.getD_some]
 rw [show (j.toNat:Int) = j from by omega]
 by_cases h:j < (i:Int)
 ·rw [if_pos h,if_pos (by omega)]
 ·rw [if_neg h,if_neg (by omega)]
theorem vmaxU_0 {n:Nat} (a b:VArr n):vmaxU 0 a b = a:=v_ext fun j h0 h1=>by rw [vmaxU_get _ _ _ _ h0 h1,if_neg (by omega)]
theorem vmaxU_n {n:Nat} (a b:VArr n):vmaxU n a b = vmax a b:=v_ext fun j h0 h1=>by rw [vmaxU_get _ _ _ _ h0 h1,if_pos (by omega),vmax_get _ _ _ h0 h1]
theorem vmaxU_step {n:Nat} (i:Nat) (hi:i < n) (a b:VArr n):(vmaxU i a b).set (i:Int) (max ((vmaxU i a b).get (i:Int)) (b.get (i:Int))) = vmaxU (i+1) a b:=v_ext fun j h0 h1=>by
 rw [get_set _ _ _ _ (by omega) h0,vmaxU_get i a b _ (show (0:Int)≤(i:Int) by omega) (by omega)]
 by_cases h:j = (i:Int)
 ·subst h; rw [if_pos rfl,if_neg (by omega),vmaxU_get _ _ _ _ h0 h1,if_pos (by omega)]
 ·rw [if_neg h,vmaxU_get _ _ _ _ h0 h1,vmaxU_get _ _ _ _ h0 h1]
  by_cases h2:j < (i:Int)
  ·rw [if_pos h2,if_pos (by omega)]
  ·rw [if_neg h2,if_neg (by omega)]
theorem ix_set {xs:List α} {i:Int} (h:0≤i∧i < (xs.length:Int)) (y:α):ix (xs.set i.toNat y) i = y:=by
 unfold ix; rw [List.getD_eq_getElem?_getD,List.getElem?_set_self (by omega)]; rfl
theorem ix_set_ne {xs:List α} {i j:Int} (h:i.toNat≠j.toNat) (y:α):ix (xs.set i.toNat y) j = ix xs j:=by
 unfold ix; rw [List.getD_eq_getElem?_getD,List.getD_eq_getElem?_getD,List.getElem?_set_ne h]
omit [Enc α] in
theorem set_set {xs:List α} (i:Nat) (x y:α):(xs.set i x).set i y = xs.set i y:=List.set_set ..
theorem set_ix {xs:List α} {i:Int} (h:0≤i∧i < (xs.length:Int)):xs.set i.toNat (ix xs i) = xs:=by
 unfold ix
 rw [List.getD_eq_getElem?_getD,List.getElem?_eq_getElem (show i.toNat < xs.length by omega)]
 exact List.set_getElem_self _
theorem join2_eq (t c:V):order_stamp_join_2 t c = some (vmax c t):=by
 unfold order_stamp_join_2
 have:=loopO_all (step:=order_stamp_join_2_l1 t) (fun i=>(((i:Nat):Int),vmaxU i c t)) (some (vmax c t)) 65 (fun i hi=>by
  unfold order_stamp_join_2_l1
  simp only
  rw [decide_eq_true (show ((i:Int) < 65) by omega),decide_eq_true (show (0:Int)≤(i:Int) by omega),decide_eq_true (show (i:Int) < ((65:Nat):Int) by omega)]
  simp only [cond_true,Bool.and_self,vmaxU_step i hi,wrap_n1 i (by omega)]) (by
  unfold order_stamp_join_2_l1
  simp only
  rw [decide_eq_false (show ¬ (((65:Nat):Int) < 65) by omega)]
  simp only [cond_false,vmaxU_n,Option.map_some])
 rw [vmaxU_0] at this
 exact this
theorem join_eq (si:Int) (t:V) (c:List V) (h:0≤si∧si < (c.length:Int)):order_stamp_join si t c = some (c.set si.toNat (vmax (ix c si) t)):=by
 unfold order_stamp_join
 rw [decide_eq_true h,cond_true]
 have:=loopO_all (step:=order_stamp_join_l1 si t) (fun i=>(((i:Nat):Int),c.set si.toNat (vmaxU i (ix c si) t))) (some (c.set si.toNat (vmax (ix c si) t))) 65 (fun i hi=>by
  unfold order_stamp_join_l1
  simp only
  rw [decide_eq_true (show 0≤si∧si < (((c.set si.toNat (vmaxU i (ix c si) t)).length:Nat):Int) by rw [List.length_set]; exact h),decide_eq_true (show ((i:Int) < 65) by omega),decide_eq_true (show (0:Int)≤(i:Int) by omega),decide_eq_true (show (i:Int) < ((65:Nat):Int) by omega)]
  simp only [cond_true,Bool.and_self,ix_set h,set_set,vmaxU_step i hi,wrap_n1 i (by omega)]) (by
  unfold order_stamp_join_l1
  simp only
  rw [decide_eq_true (show 0≤si∧si < (((c.set si.toNat (vmaxU 65 (ix c si) t)).length:Nat):Int) by rw [List.length_set]; exact h),decide_eq_false (show ¬ (((65:Nat):Int) < 65) by omega)]
  simp only [cond_true,cond_false,vmaxU_n,Option.map_some])
 rw [vmaxU_0,set_ix h] at this
 exact this
theorem join3_eq (si:Int) (t:V) (c:List guard) (h:0≤si∧si < (c.length:Int)):order_stamp_join_3 si t c = some (c.set si.toNat { ix c si with all:=vmax (ix c si).all t }):=by
 unfold order_stamp_join_3
 rw [decide_eq_true h,cond_true]
 have:=loopO_all (step:=order_stamp_join_3_l1 si t) (fun i=>(((i:Nat):Int),c.set si.toNat { ix c si with all:=vmaxU i (ix c si).all t })) (some (c.set si.toNat { ix c si with all:=vmax (ix c si).all t })) 65 (fun i hi=>by
  unfold order_stamp_join_3_l1
  simp only
  rw [decide_eq_true (show 0≤si∧si < (((c.set si.toNat ({ ix c si with all:=vmaxU i (ix c si).all t }:guard)).length:Nat):Int) by rw [List.length_set]; exact h),decide_eq_true (show ((i:Int) < 65) by omega),decide_eq_true (show (0:Int)≤(i:Int) by omega),decide_eq_true (show (i:Int) < ((65:Nat):Int) by omega)]
  simp only [cond_true,Bool.and_self,ix_set h,set_set,vmaxU_step i hi,wrap_n1 i (by omega)]) (by
  unfold order_stamp_join_3_l1
  simp only
  rw [decide_eq_true (show 0≤si∧si < (((c.set si.toNat ({ ix c si with all:=vmaxU 65 (ix c si).all t }:guard)).length:Nat):Int) by rw [List.length_set]; exact h),decide_eq_false (show ¬ (((65:Nat):Int) < 65) by omega)]
  simp only [cond_true,cond_false,vmaxU_n,Option.map_some])
 rw [vmaxU_0,set_ix h] at this
 exact this
theorem join4_eq (si:Int) (t:V) (c:List guard) (h:0≤si∧si < (c.length:Int)):order_stamp_join_4 si t c = some (c.set si.toNat { ix c si with writers:=vmax (ix c si).writers t }):=by
 unfold order_stamp_join_4
 rw [decide_eq_true h,cond_true]
 have:=loopO_all (step:=order_stamp_join_4_l1 si t) (fun i=>(((i:Nat):Int),c.set si.toNat { ix c si with writers:=vmaxU i (ix c si).writers t })) (some (c.set si.toNat { ix c si with writers:=vmax (ix c si).writers t })) 65 (fun i hi=>by
  unfold order_stamp_join_4_l1
  simp only
  rw [decide_eq_true (show 0≤si∧si < (((c.set si.toNat ({ ix c si with writers:=vmaxU i (ix c si).writers t }:guard)).length:Nat):Int) by rw [List.length_set]; exact h),decide_eq_true (show ((i:Int) < 65) by omega),decide_eq_true (show (0:Int)≤(i:Int) by omega),decide_eq_true (show (i:Int) < ((65:Nat):Int) by omega)]
  simp only [cond_true,Bool.and_self,ix_set h,set_set,vmaxU_step i hi,wrap_n1 i (by omega)]) (by
  unfold order_stamp_join_4_l1
  simp only
  rw [decide_eq_true (show 0≤si∧si < (((c.set si.toNat ({ ix c si with writers:=vmaxU 65 (ix c si).writers t }:guard)).length:Nat):Int) by rw [List.length_set]; exact h),decide_eq_false (show ¬ (((65:Nat):Int) < 65) by omega)]
  simp only [cond_true,cond_false,vmaxU_n,Option.map_some])
 rw [vmaxU_0,set_ix h] at this
 exact this
structure Mok (ks:List Int) (xs:List α):Prop where
 len:ks.length = xs.length
 nd:ks.Nodup
def G (ks:List Int) (xs:List α) (k:Int):α:=if kHas ks k = true then ix xs (kAt ks k) else default
theorem has_mem {ks:List Int} {k:Int}:kHas ks k = true↔k ∈ ks:=by
 unfold kHas
 rw [List.any_eq_true]
 constructor
 ·rintro ⟨x,hx,he⟩
  have:k = x:=by simpa using he
  subst this; exact hx
 ·exact fun h=>⟨k,h,by simp⟩
theorem at_lt {ks:List Int} {k:Int} (h:kHas ks k = true):0≤kAt ks k∧kAt ks k < (ks.length:Int):=by
 unfold kAt
 unfold kHas at h
 have:List.findIdx (fun a=>k == a) ks < ks.length:=List.findIdx_lt_length_of_exists (by
  rw [List.any_eq_true] at h
  exact h)
 omega
theorem at_get {ks:List Int} {k:Int} (h:kHas ks k = true) (h2:(kAt ks k).toNat < ks.length):ks[(kAt ks k).toNat] = k:=by
 have h3:List.findIdx (fun a=>k == a) ks < ks.length:=by have:=at_lt h; unfold kAt at this; omega
 have:=List.findIdx_getElem (p:=fun a=>k == a) (xs:=ks) (w:=h3)
 have he:k = ks[List.findIdx (fun a=>k == a) ks]:=by simpa using this
 simp only [kAt,Int.toNat_natCast]
 exact he.symm
theorem at_inj {ks:List Int} {j k:Int} (hj:kHas ks j = true) (hk:kHas ks k = true) (h:(kAt ks j).toNat = (kAt ks k).toNat):j = k:=by
 have h1:=at_lt hj
 have h2:=at_lt hk
 have e1:=at_get hj (by omega)
 have e2:=at_get hk (by omega)
 simp only [h] at e1
 exact e1.symm.trans e2
theorem has_app {ks:List Int} {k j:Int}:kHas (ks++[k]) j = (kHas ks j || (j == k)):=by
 unfold kHas; rw [List.any_append]; simp
theorem at_app_old {ks:List Int} {k j:Int} (h:kHas ks j = true):kAt (ks++[k]) j = kAt ks j:=by
 unfold kAt
 have h3:List.findIdx (fun a=>j == a) ks < ks.length:=by have:=at_lt h; unfold kAt at this; omega
 rw [List.findIdx_append,if_pos h3]
theorem at_app_new {ks:List Int} {k:Int} (h:kHas ks k = false):kAt (ks++[k]) k = (ks.length:Int):=by
 unfold kAt
 have h3:¬ List.findIdx (fun a=>k == a) ks < ks.length:=fun hlt=>by
  have:=List.findIdx_getElem (p:=fun a=>k == a) (xs:=ks) (w:=hlt)
  have hm:k ∈ ks:=by
   have he:k = ks[List.findIdx (fun a=>k == a) ks]:=by simpa using this
   rw [he]; exact List.getElem_mem hlt
  rw [has_mem.2 hm] at h; cases h
 rw [List.findIdx_append,if_neg h3]
 simp [List.findIdx_cons]
omit [Enc α] in
theorem Mok.app {ks:List Int} {xs:List α} (h:Mok ks xs) {k:Int} (hk:kHas ks k = false) (y:α):Mok (ks++[k]) (xs++[y]):=by
 refine ⟨by simp [h.len],?_⟩
 rw [nodup_snoc]
 refine ⟨h.nd,fun hm=>?_⟩
 rw [has_mem.2 hm] at hk; cases hk
omit [Enc α] in
theorem Mok.set {ks:List Int} {xs:List α} (h:Mok ks xs) (i:Nat) (y:α):Mok ks (xs.set i y):=⟨by rw [List.length_set]; exact h.len,h.nd⟩
theorem G_app {ks:List Int} {xs:List α} (h:Mok ks xs) {k:Int} (hk:kHas ks k = false) (y:α) (j:Int):G (ks++[k]) (xs++[y]) j = if j = k then y else G ks xs j:=by
 unfold G
 by_cases hj:j = k
 ·subst hj
  rw [if_pos rfl,has_app,beq_self_eq_true,Bool.or_true,if_pos rfl,at_app_new hk]
  unfold ix
  rw [h.len]
  simp
 ·rw [if_neg hj,has_app,show (j == k) = false from by simpa using hj,Bool.or_false]
  by_cases hh:kHas ks j = true
  ·rw [if_pos hh,if_pos hh,at_app_old hh]
   have:=at_lt hh
   have hl:=h.len
   unfold ix
   rw [List.getD_eq_getElem?_getD,List.getD_eq_getElem?_getD,List.getElem?_append_left (by omega)]
  ·rw [if_neg hh,if_neg hh]
theorem G_set {ks:List Int} {xs:List α} (h:Mok ks xs) {k:Int} (hk:kHas ks k = true) (y:α) (j:Int):G ks (xs.set (kAt ks k).toNat y) j = if j = k then y else G ks xs j:=by
 unfold G
 have hl:=h.len
 have hlt:=at_lt hk
 by_cases hj:j = k
 ·subst hj
  rw [if_pos rfl,if_pos hk,ix_set (by omega)]
 ·rw [if_neg hj]
  by_cases hh:kHas ks j = true
  ·rw [if_pos hh,if_pos hh,ix_set_ne (fun e=>hj (at_inj hk hh e).symm)]
  ·rw [if_neg hh,if_neg hh]
theorem G_no {ks:List Int} {xs:List α} {k:Int} (h:kHas ks k = false):G ks xs k = default:=by unfold G; rw [h,if_neg (by simp)]
theorem G_yes {ks:List Int} {xs:List α} {k:Int} (h:kHas ks k = true):G ks xs k = ix xs (kAt ks k):=by unfold G; rw [if_pos h]
structure AtOk (ks:List Int) (xs:List α) (k:Int) (r:Int×List Int×List α):Prop where
 ok:Mok r.2.1 r.2.2
 has:kHas r.2.1 k = true
 i:r.1 = kAt r.2.1 k
 same:∀ j,G r.2.1 r.2.2 j = G ks xs j
 lt:0≤r.1∧r.1 < (r.2.2.length:Int)
theorem at_stamp_ok (k:Int) (ks:List Int) (xs:List V) (h:Mok ks xs):∃ r,order_at_stamp k ks xs = some r∧AtOk ks xs k r:=by
 unfold order_at_stamp order_at_stamp_j1
 have hl:=h.len
 rw [decide_eq_true hl,cond_true]
 cases hk:kHas ks k with
 | true =>
  have hlt:=at_lt hk
  rw [decide_eq_true hlt.1,decide_eq_true (show kAt ks k < (xs.length:Int) by omega)]
  simp only [cond_true,Bool.and_self]
  exact ⟨_,rfl,h,hk,rfl,fun _=>rfl,by simp only; omega⟩
 | false =>
  have hd:(default:V) = (⟨List.replicate 65 0,by simp⟩:V):=rfl
  have hkk:kHas (ks++[k]) k = true:=by rw [has_app,beq_self_eq_true,Bool.or_true]
  have h2:=h.app hk (default:V)
  have hlt:=at_lt hkk
  have hl2:=h2.len
  rw [decide_eq_true hl2,hkk,decide_eq_true hlt.1,decide_eq_true (show kAt (ks++[k]) k < (((xs++[(default:V)]).length:Nat):Int) by omega)]
  simp only [cond_true,cond_false,Bool.and_self]
  refine ⟨_,rfl,h2,hkk,rfl,fun j=>?_,by simp only; omega⟩
  simp only
  rw [G_app h hk]
  by_cases hj:j = k
  ·subst hj; rw [if_pos rfl,G_no hk]
  ·rw [if_neg hj]
theorem at_guard_ok (k:Int) (ks:List Int) (xs:List guard) (h:Mok ks xs):∃ r,order_at_guard k ks xs = some r∧AtOk ks xs k r:=by
 unfold order_at_guard order_at_guard_j1
 have hl:=h.len
 rw [decide_eq_true hl,cond_true]
 cases hk:kHas ks k with
 | true =>
  have hlt:=at_lt hk
  rw [decide_eq_true hlt.1,decide_eq_true (show kAt ks k < (xs.length:Int) by omega)]
  simp only [cond_true,Bool.and_self]
  exact ⟨_,rfl,h,hk,rfl,fun _=>rfl,by simp only; omega⟩
 | false =>
  have hkk:kHas (ks++[k]) k = true:=by rw [has_app,beq_self_eq_true,Bool.or_true]
  have h2:=h.app hk ({ writers:=default,all:=default }:guard)
  have hlt:=at_lt hkk
  have hl2:=h2.len
  rw [decide_eq_true hl2,hkk,decide_eq_true hlt.1,decide_eq_true (show kAt (ks++[k]) k < (((xs++[({ writers:=default,all:=default }:guard)]).length:Nat):Int) by omega)]
  simp only [cond_true,cond_false,Bool.and_self]
  refine ⟨_,rfl,h2,hkk,rfl,fun j=>?_,by simp only; omega⟩
  simp only
  rw [G_app h hk]
  by_cases hj:j = k
  ·subst hj; rw [if_pos rfl,G_no hk]; rfl
  ·rw [if_neg hj]
end Go.Proofs.Ytelegonboeacaaa
end

section
namespace Go.Proofs.Ytelegonboeacaaa
open Go Go.Sx
set_option linter.unusedVariables false
set_option linter.unusedSimpArgs false
def upd1 {β:Type} (f:Int→β) (k:Int) (y:β):Int→β:=fun j=>if j = k then y else f j
structure A where
 T:Int→V
 P:List pipe
 L:Int→guard
 R:Int→V
def inc (v:V) (t:Int):V:=v.set t (IntKind.i64.wrap (v.get t+1))
def setP (P:List pipe) (o:Int) (p:pipe):List pipe:=P.set o.toNat p
def seeA (caps:List Int) (a:A) (e:GEvent):V×A :=
 let s0:=inc (a.T e.Task) e.Task
 let p:=ixD a.P e.Obj
 if e.Op = 15 then
  if p.sends.length≤p.gets.length then
   let s:=if p.closed = true then vmax s0 p.shut else s0
   (s,{ a with T:=upd1 a.T e.Task s })
  else
   let s:=vmax s0 (ix p.sends (p.gets.length:Int))
   let P':=setP a.P e.Obj { p with gets:=p.gets++[s] }
   let T1:=upd1 a.T e.Task s
   let l:=ix p.late (p.gets.length:Int)
   if ix caps e.Obj = 0∧l≠e.Task then (s,{ a with P:=P',T:=upd1 T1 l (vmax (T1 l) s) }) else (s,{ a with P:=P',T:=T1 })
 else if e.Op = 14 then
  let k:=IntKind.i64.wrap ((p.sends.length:Int) - ix caps e.Obj)
  let s:=if 0 < ix caps e.Obj∧0≤k∧k < (p.gets.length:Int) then vmax s0 (ix p.gets k) else s0
  (s,{ a with P:=setP a.P e.Obj { p with sends:=p.sends++[s],late:=p.late++[e.Task] },T:=upd1 a.T e.Task s })
 else if e.Op = 16 then (s0,{ a with P:=setP a.P e.Obj { p with shut:=s0,closed:=true },T:=upd1 a.T e.Task s0 })
 else if e.Op = 17 then
  let s:=vmax s0 (if e.Value = 1 then (a.L e.Obj).all else (a.L e.Obj).writers)
  (s,{ a with T:=upd1 a.T e.Task s })
 else if e.Op = 18 then (s0,{ a with T:=upd1 a.T e.Task s0,L:=upd1 a.L e.Obj ⟨if e.Value = 1 then vmax (a.L e.Obj).writers s0 else (a.L e.Obj).writers,vmax (a.L e.Obj).all s0⟩ })
 else if e.Op = 19 then (s0,{ a with T:=upd1 a.T e.Task s0,R:=upd1 a.R e.Obj (vmax (a.R e.Obj) s0) })
 else if e.Op = 20 then (vmax s0 (a.R e.Obj),{ a with T:=upd1 a.T e.Task (vmax s0 (a.R e.Obj)) })
 else if e.Op = 11 then (s0,{ a with T:=upd1 (upd1 a.T e.Task s0) e.Value (vmax (upd1 a.T e.Task s0 e.Value) s0) })
 else (s0,{ a with T:=upd1 a.T e.Task s0 })
structure EvOk (np:Nat) (e:GEvent):Prop where
 task:1≤e.Task∧e.Task≤64
 op:8≤e.Op∧e.Op≤22
 obj:0≤e.Obj∧e.Obj≤20
 pipe:e.Op = 14∨e.Op = 15∨e.Op = 16→e.Obj < (np:Int)
 go:e.Op = 11→1≤e.Value∧e.Value≤64
def CapsOk (caps:List Int):Prop:=∀ i,(h:i < caps.length)→0≤caps[i]∧caps[i]≤100
structure PipeOk (n:Nat) (p:pipe):Prop where
 late:p.late.length = p.sends.length
 s:p.sends.length≤n
 g:p.gets.length≤n
structure WfA (caps:List Int) (n:Nat) (a:A):Prop where
 len:a.P.length = caps.length
 ps:∀ p ∈ a.P,PipeOk n p
structure Rel (k1:List Int) (x1:List V) (p:List pipe) (k7:List Int) (x8:List guard) (k9:List Int) (x10:List V) (a:A):Prop where
 m1:Mok k1 x1
 m2:Mok k7 x8
 m3:Mok k9 x10
 T:∀ j,G k1 x1 j = a.T j
 P:p = a.P
 L:∀ j,G k7 x8 j = a.L j
 R:∀ j,G k9 x10 j = a.R j
theorem j1_ok {caps:List Int} {si:Int} {k1:List Int} {p:List pipe} {k7 k9:List Int} {x1:List V} {x8:List guard} {x10:List V} (h1:k1.length = x1.length) (h2:k7.length = x8.length) (h3:k9.length = x10.length) (h:0≤si∧si < (x1.length:Int)) :
  order_watch_see_j1 caps si k1 p k7 k9 x1 x8 x10 = some (ix x1 si,caps,k1,p,k7,k9,x1,x8,x10):=by
 unfold order_watch_see_j1
 rw [decide_eq_true h1,decide_eq_true h2,decide_eq_true h3,decide_eq_true h]; rfl
theorem j2_ok {caps:List Int} {p:List pipe} {k7 k9:List Int} {x8:List guard} {x10:List V} {si:Int} {k1:List Int} {x1:List V} (h1:k1.length = x1.length) (h2:k7.length = x8.length) (h3:k9.length = x10.length) (h:0≤si∧si < (x1.length:Int)) :
  order_watch_see_j2 caps p k7 k9 x8 x10 si k1 x1 = some (ix x1 si,caps,k1,p,k7,k9,x1,x8,x10):=by
 unfold order_watch_see_j2
 rw [decide_eq_true h1,decide_eq_true h2,decide_eq_true h3,decide_eq_true h,j1_ok h1 h2 h3 h]; rfl
theorem setP_set {P:List pipe} {o:Int} (x y:pipe):(P.set o.toNat x).set o.toNat y = setP P o y:=List.set_set ..
theorem ixD_set {P:List pipe} {o:Int} (h:0≤o∧o < (P.length:Int)) (y:pipe):ixD (P.set o.toNat y) o = y:=by
 rw [ixD_pos h.1]; exact ix_set h y
theorem j3_ok {e:GEvent} {caps:List Int} {p:List pipe} {k7 k9:List Int} {x8:List guard} {x10:List V} {si:Int} {k1:List Int} {x1:List V} (h1:k1.length = x1.length) (h2:k7.length = x8.length) (h3:k9.length = x10.length) (h:0≤si∧si < (x1.length:Int))
  (ho:0≤e.Obj∧e.Obj < (p.length:Int)) (hs:(ixD p e.Obj).sends.length≤4000) (hl:(ixD p e.Obj).late.length≤4000) :
  order_watch_see_j3 e caps p k7 k9 x8 x10 si k1 x1 = some (ix x1 si,caps,k1,setP p e.Obj { ixD p e.Obj with sends:=(ixD p e.Obj).sends++[ix x1 si],late:=(ixD p e.Obj).late++[e.Task] },k7,k9,x1,x8,x10):=by
 unfold order_watch_see_j3
 rw [decide_eq_true h1,decide_eq_true h2,decide_eq_true h3,decide_eq_true h,decide_eq_true ho.1,decide_eq_true ho.2,decide_eq_true (show ((ixD p e.Obj).sends++([ix x1 si]:List V)).length * 520≤140737488355328 by simp; omega),decide_eq_true (show ((ixD p e.Obj).late++([e.Task]:List Int)).length * 8≤140737488355328 by simp; omega)]
 simp only [cond_true,Bool.and_self,ixD_set ho,setP_set]
 rw [j1_ok h1 h2 h3 h]
def SeeOk (caps:List Int) (a:A) (e:GEvent) (o:Option (V×List Int×List Int×List pipe×List Int×List Int×List V×List guard×List V)):Prop :=
∃k1 p k7 k9 x1 x8 x10,o = some ((seeA caps a e).1,caps,k1,p,k7,k9,x1,x8,x10)∧Rel k1 x1 p k7 x8 k9 x10 (seeA caps a e).2
theorem vmax_self {n:Nat} (v:VArr n):vmax v v = v:=v_ext fun j h0 h1=>by rw [vmax_get _ _ _ h0 h1,Int.max_self]
theorem see_ok {caps:List Int} {n:Nat} {a:A} {e:GEvent} {k1:List Int} {x1:List V} {p:List pipe} {k7:List Int} {x8:List guard} {k9:List Int} {x10:List V} (hR:Rel k1 x1 p k7 x8 k9 x10 a) (hW:WfA caps n a) (hn:n≤3000) (hc:CapsOk caps) (he:EvOk caps.length e) :
  SeeOk caps a e (order_watch_see e caps k1 p k7 k9 x1 x8 x10):=by
 obtain ⟨m1,m2,m3,hT,rfl,hL,hRR⟩:=hR
 unfold order_watch_see
 rw [decide_eq_true m1.len,decide_eq_true m2.len,decide_eq_true m3.len]
 simp only [cond_true]
 obtain ⟨⟨si,k1',x1'⟩,hr,ho⟩:=at_stamp_ok e.Task k1 x1 m1
 obtain ⟨o1,o2,o3,o4,o5⟩:=ho
 simp only at o1 o2 o3 o4 o5
 rw [hr]
 simp only [Option.bind_some]
 rw [decide_eq_true o1.len,decide_eq_true o5,decide_eq_true (show 0≤e.Task by have:=he.task; omega),decide_eq_true (show e.Task < ((65:Nat):Int) by have:=he.task; omega)]
 simp only [cond_true,Bool.and_self]
 -- the task's stamp, one farther
 have e0:ix x1' si = a.T e.Task:=by rw [← hT,← o4,G_yes o2,o3]
 have es0:(ix x1' si).set e.Task (IntKind.i64.wrap ((ix x1' si).get e.Task+1)) = inc (a.T e.Task) e.Task:=by rw [e0]; rfl
 rw [es0]
 generalize hs0:inc (a.T e.Task) e.Task = s0
 have m1':=o1.set si.toNat s0
 have l1':=m1'.len
 have T':∀ y j,G k1' (x1'.set si.toNat y) j = upd1 a.T e.Task y j:=fun y j=>by
  rw [o3,G_set o1 o2]
  unfold upd1
  by_cases hj:j = e.Task
  ·rw [if_pos hj,if_pos hj]
  ·rw [if_neg hj,if_neg hj,o4,hT]
 have o5':0≤si∧si < (((x1'.set si.toNat s0).length:Nat):Int):=by rw [List.length_set]; exact o5
 have ixs:ix (x1'.set si.toNat s0) si = s0:=ix_set o5 s0
 have jn:∀ t,order_stamp_join si t (x1'.set si.toNat s0) = some (x1'.set si.toNat (vmax s0 t)):=fun t=>by
  rw [join_eq si t _ o5',ixs,set_set]
 have rl:∀ y,Rel k1' (x1'.set si.toNat y) a.P k7 x8 k9 x10 { a with T:=upd1 a.T e.Task y }:=fun y=>⟨o1.set _ _,m2,m3,T' y,rfl,hL,hRR⟩
 have l1:∀ y,k1'.length = (x1'.set si.toNat y).length:=fun y=>(o1.set _ _).len
 have o5y:∀ y:V,0≤si∧si < (((x1'.set si.toNat y).length:Nat):Int):=fun y=>by rw [List.length_set]; exact o5
 have ixy:∀ y,ix (x1'.set si.toNat y) si = y:=fun y=>ix_set o5 y
 by_cases h15:e.Op = 15
 ·rw [show (e.Op == 15) = true from by simp [h15],cond_true]
  have hob:0≤e.Obj∧e.Obj < (a.P.length:Int):=⟨he.obj.1,by rw [hW.len]; exact he.pipe (.inr (.inl h15))⟩
  have hmem:ixD a.P e.Obj ∈ a.P:=by
   rw [ixD_pos hob.1]; unfold ix
   rw [List.getD_eq_getElem?_getD,List.getElem?_eq_getElem (show e.Obj.toNat < a.P.length by omega)]
   exact List.getElem_mem _
  have hp:=hW.ps _ hmem
  rw [decide_eq_true hob.1,decide_eq_true hob.2]
  simp only [cond_true,Bool.and_self]
  unfold SeeOk seeA
  simp only [h15,if_true,hs0]
  by_cases hle:(ixD a.P e.Obj).sends.length≤(ixD a.P e.Obj).gets.length
  ·rw [decide_eq_true (show (((ixD a.P e.Obj).sends.length:Nat):Int)≤(((ixD a.P e.Obj).gets.length:Nat):Int) by omega)]
   simp only [cond_true,hle,if_true]
   cases hcl:(ixD a.P e.Obj).closed with
   | true =>
    simp only [cond_true,if_true,jn,Option.bind_some]
    rw [decide_eq_true (l1 _),decide_eq_true (o5y _)]
    simp only [cond_true]
    rw [j2_ok (l1 _) m2.len m3.len (o5y _),ixy]
    exact ⟨_,_,_,_,_,_,_,rfl,rl _⟩
   | false =>
    simp only [cond_false,Bool.false_eq_true,if_false]
    rw [j2_ok (l1 _) m2.len m3.len (o5y _),ixy]
    exact ⟨_,_,_,_,_,_,_,rfl,rl _⟩
  ·rw [decide_eq_false (show ¬ (((ixD a.P e.Obj).sends.length:Nat):Int)≤(((ixD a.P e.Obj).gets.length:Nat):Int) by omega)]
   simp only [cond_false,hle,if_false]
   rw [decide_eq_true (show (0:Int)≤(((ixD a.P e.Obj).gets.length:Nat):Int) by omega),decide_eq_true (show (((ixD a.P e.Obj).gets.length:Nat):Int) < (((ixD a.P e.Obj).sends.length:Nat):Int) by omega)]
   simp only [cond_true,Bool.and_self,jn,Option.bind_some]
   rw [decide_eq_true (l1 _),decide_eq_true (o5y _)]
   simp only [cond_true,ixy]
   generalize hs:vmax s0 (ix (ixD a.P e.Obj).sends (((ixD a.P e.Obj).gets.length:Nat):Int)) = s
   rw [decide_eq_true (show ((ixD a.P e.Obj).gets++([s]:List V)).length * 520≤140737488355328 by have:=hp.g; simp; omega),decide_eq_true (show e.Obj < (caps.length:Int) by rw [← hW.len]; exact hob.2)]
   simp only [cond_true,ixD_set hob]
   have hlt:(((ixD a.P e.Obj).gets.length:Nat):Int) < (((ixD a.P e.Obj).late.length:Nat):Int):=by rw [hp.late]; omega
   rw [decide_eq_true hlt]
   simp only [Bool.or_true,cond_true,Bool.and_self,Bool.true_and]
   generalize hl:ix (ixD a.P e.Obj).late (((ixD a.P e.Obj).gets.length:Nat):Int) = l
   by_cases hq:ix caps e.Obj = 0∧l≠e.Task
   ·rw [show (ix caps e.Obj == 0) = true from by simp [hq.1],show (l != e.Task) = true from by simp [hq.2]]
    simp only [Bool.and_self,cond_true,if_pos hq]
    have hne:l≠e.Task:=hq.2
    cases hk:kHas k1' l with
    | true =>
     have hlt2:=at_lt hk
     have hla:=at_lt hk
     rw [show order_at_stamp_1 l k1' (x1'.set si.toNat s) = some (kAt k1' l) by
      unfold order_at_stamp_1
      rw [decide_eq_true (l1 s),decide_eq_true hlt2.1,decide_eq_true (show kAt k1' l < (((x1'.set si.toNat s).length:Nat):Int) by rw [← l1 s]; exact hlt2.2)]; rfl]
     simp only [cond_true,Option.bind_some]
     have hr2:0≤kAt k1' l∧kAt k1' l < (((x1'.set si.toNat s).length:Nat):Int):=by rw [← l1 s]; exact hlt2
     rw [decide_eq_true hr2,join_eq _ _ _ hr2]
     simp only [cond_true,Option.bind_some]
     have l3:∀ y,k1'.length = ((x1'.set si.toNat s).set (kAt k1' l).toNat y).length:=fun y=>by rw [List.length_set]; exact l1 s
     have o3':∀ y,0≤si∧si < ((((x1'.set si.toNat s).set (kAt k1' l).toNat y).length:Nat):Int):=fun y=>by rw [List.length_set]; exact o5y s
     have r3:∀ y,0≤kAt k1' l∧kAt k1' l < ((((x1'.set si.toNat s).set (kAt k1' l).toNat y).length:Nat):Int):=fun y=>by rw [List.length_set]; exact hr2
     rw [decide_eq_true (l3 _),decide_eq_true (o3' _),decide_eq_true (r3 _)]
     simp only [cond_true]
     rw [j1_ok (l3 _) m2.len m3.len (o3' _)]
     have hx:∀ y,ix ((x1'.set si.toNat s).set (kAt k1' l).toNat y) si = s:=fun y=>by
      rw [ix_set_ne (fun ee=>hne (at_inj hk o2 (by rw [ee,o3]))),ixy]
     rw [hx]
     refine ⟨_,_,_,_,_,_,_,rfl,(o1.set _ _).set _ _,m2,m3,fun j=>?_,rfl,hL,hRR⟩
     rw [G_set (o1.set _ _) hk,T']
     have e5:ix (x1'.set si.toNat s) (kAt k1' l) = upd1 a.T e.Task s l:=by rw [← T',G_yes hk]
     rw [e5]
     rfl
    | false =>
     simp only [cond_false]
     rw [show order_at_stamp_2 l k1' (x1'.set si.toNat s) = some (default,k1') by unfold order_at_stamp_2; rw [decide_eq_true (l1 s)]; rfl]
     simp only [Option.bind_some]
     rw [decide_eq_true (l1 s),join2_eq]
     simp only [cond_true,Option.bind_some]
     have hap:=(o1.set si.toNat s).app hk (vmax default s)
     have o6:0≤si∧si < (((x1'.set si.toNat s++[vmax default s]).length:Nat):Int):=by
      have:=o5y s
      rw [List.length_append]; simp only [List.length_cons,List.length_nil]; omega
     rw [j1_ok hap.len m2.len m3.len o6]
     have hx:ix (x1'.set si.toNat s++[vmax default s]) si = s:=by
      have:=ixy s
      have h7:=o5y s
      unfold ix at this ⊢
      rw [List.getD_eq_getElem?_getD] at this ⊢
      rw [List.getElem?_append_left (by omega)]; exact this
     rw [hx]
     refine ⟨_,_,_,_,_,_,_,rfl,hap,m2,m3,fun j=>?_,rfl,hL,hRR⟩
     rw [G_app (o1.set _ _) hk,T']
     have e5:upd1 a.T e.Task s l = default:=by rw [← T',G_no hk]
     show _ = upd1 (upd1 a.T e.Task s) l (vmax (upd1 a.T e.Task s l) s) j
     rw [e5]; rfl
   ·have hb:((ix caps e.Obj == 0) && (l != e.Task)) = false:=by
     cases h8:((ix caps e.Obj == 0) && (l != e.Task)) with
     | false=>rfl
     | true =>
      rw [Bool.and_eq_true] at h8
      exact absurd ⟨by simpa using h8.1,by simpa using h8.2⟩ hq
    rw [hb]
    simp only [cond_false,if_neg hq]
    rw [j1_ok (l1 _) m2.len m3.len (o5y _),ixy]
    exact ⟨_,_,_,_,_,_,_,rfl,o1.set _ _,m2,m3,T' s,rfl,hL,hRR⟩
 rw [show (e.Op == 15) = false from by simpa using h15,cond_false]
 by_cases h14:e.Op = 14
 ·rw [show (e.Op == 14) = true from by simp [h14],cond_true]
  have hob:0≤e.Obj∧e.Obj < (a.P.length:Int):=⟨he.obj.1,by rw [hW.len]; exact he.pipe (.inl h14)⟩
  have hmem:ixD a.P e.Obj ∈ a.P:=by
   rw [ixD_pos hob.1]; unfold ix
   rw [List.getD_eq_getElem?_getD,List.getElem?_eq_getElem (show e.Obj.toNat < a.P.length by omega)]
   exact List.getElem_mem _
  have hp:=hW.ps _ hmem
  have hz:∀ s:V,Rel k1' (x1'.set si.toNat s) (setP a.P e.Obj { ixD a.P e.Obj with sends:=(ixD a.P e.Obj).sends++[s],late:=(ixD a.P e.Obj).late++[e.Task] }) k7 x8 k9 x10 { a with P:=setP a.P e.Obj { ixD a.P e.Obj with sends:=(ixD a.P e.Obj).sends++[s],late:=(ixD a.P e.Obj).late++[e.Task] },T:=upd1 a.T e.Task s }:=fun s=>⟨o1.set _ _,m2,m3,T' s,rfl,hL,hRR⟩
  have j3:∀ s:V,order_watch_see_j3 e caps a.P k7 k9 x8 x10 si k1' (x1'.set si.toNat s) = some (s,caps,k1',setP a.P e.Obj { ixD a.P e.Obj with sends:=(ixD a.P e.Obj).sends++[s],late:=(ixD a.P e.Obj).late++[e.Task] },k7,k9,x1'.set si.toNat s,x8,x10):=fun s=>by
   rw [j3_ok (l1 s) m2.len m3.len (o5y s) hob (by have:=hp.s; omega) (by have:=hp.s; have:=hp.late; omega),ixy]
  rw [decide_eq_true hob.1,decide_eq_true hob.2,decide_eq_true (show e.Obj < (caps.length:Int) by rw [← hW.len]; exact hob.2)]
  simp only [cond_true,Bool.and_self]
  unfold SeeOk seeA
  simp only [h14,show ¬ ((14:Int) = 15) by omega,if_false,if_true,hs0]
  generalize IntKind.i64.wrap (((ixD a.P e.Obj).sends.length:Nat) - ix caps e.Obj) = k
  by_cases hk:0 < ix caps e.Obj∧0≤k∧k < (((ixD a.P e.Obj).gets.length:Nat):Int)
  ·rw [decide_eq_true hk.1,decide_eq_true hk.2.1,decide_eq_true hk.2.2]
   simp only [Bool.and_self,cond_true,if_pos hk,jn,Option.bind_some]
   rw [decide_eq_true (l1 _),decide_eq_true (o5y _),j3]
   exact ⟨_,_,_,_,_,_,_,rfl,hz _⟩
  ·have hb:(decide (0 < ix caps e.Obj) && (decide (0≤k) && decide (k < (((ixD a.P e.Obj).gets.length:Nat):Int)))) = false:=by
    cases h8:(decide (0 < ix caps e.Obj) && (decide (0≤k) && decide (k < (((ixD a.P e.Obj).gets.length:Nat):Int)))) with
    | false=>rfl
    | true =>
     simp only [Bool.and_eq_true,decide_eq_true_eq] at h8
     exact absurd h8 hk
   rw [hb]
   simp only [cond_false,if_neg hk]
   rw [j3]
   exact ⟨_,_,_,_,_,_,_,rfl,hz _⟩
 rw [show (e.Op == 14) = false from by simpa using h14,cond_false]
 by_cases h16:e.Op = 16
 ·rw [show (e.Op == 16) = true from by simp [h16],cond_true]
  have hob:0≤e.Obj∧e.Obj < (a.P.length:Int):=⟨he.obj.1,by rw [hW.len]; exact he.pipe (.inr (.inr h16))⟩
  rw [decide_eq_true hob.1,decide_eq_true hob.2,ixs]
  simp only [cond_true,Bool.and_self]
  rw [decide_eq_true (show e.Obj < (((a.P.set e.Obj.toNat ({ ixD a.P e.Obj with shut:=s0 }:pipe)).length:Nat):Int) by rw [List.length_set]; exact hob.2)]
  simp only [cond_true,ixD_set hob,setP_set]
  rw [j1_ok (l1 _) m2.len m3.len (o5y _),ixy]
  unfold SeeOk seeA
  simp only [h16,show ¬ ((16:Int) = 15) by omega,show ¬ ((16:Int) = 14) by omega,if_false,if_true,hs0]
  exact ⟨_,_,_,_,_,_,_,rfl,o1.set _ _,m2,m3,T' _,rfl,hL,hRR⟩
 rw [show (e.Op == 16) = false from by simpa using h16,cond_false]
 by_cases h17:e.Op = 17
 ·rw [show (e.Op == 17) = true from by simp [h17],cond_true]
  obtain ⟨⟨gi,k7',x8'⟩,hg,go⟩:=at_guard_ok e.Obj k7 x8 m2
  obtain ⟨g1,g2,g3,g4,g5⟩:=go
  simp only at g1 g2 g3 g4 g5
  have eg:ix x8' gi = a.L e.Obj:=by rw [← hL,← g4,G_yes g2,g3]
  rw [hg]
  simp only [Option.bind_some]
  rw [decide_eq_true g1.len,decide_eq_true g5,eg]
  simp only [cond_true]
  have rz:∀ s:V,Rel k1' (x1'.set si.toNat s) a.P k7' x8' k9 x10 { a with T:=upd1 a.T e.Task s }:=fun s=>⟨o1.set _ _,g1,m3,T' s,rfl,fun j=>(g4 j).trans (hL j),hRR⟩
  unfold SeeOk seeA
  simp only [h17,show ¬ ((17:Int) = 15) by omega,show ¬ ((17:Int) = 14) by omega,show ¬ ((17:Int) = 16) by omega,if_false,if_true,hs0]
  by_cases hv:e.Value = 1
  ·rw [show (e.Value == 1) = true from by simp [hv],cond_true,jn]
   simp only [Option.bind_some]
   rw [decide_eq_true (l1 _),decide_eq_true (o5y _)]
   simp only [cond_true,if_pos hv]
   rw [j1_ok (l1 _) g1.len m3.len (o5y _),ixy]
   exact ⟨_,_,_,_,_,_,_,rfl,rz _⟩
  ·rw [show (e.Value == 1) = false from by simpa using hv,cond_false,jn]
   simp only [Option.bind_some]
   rw [decide_eq_true (l1 _),decide_eq_true (o5y _)]
   simp only [cond_true,if_neg hv]
   rw [j1_ok (l1 _) g1.len m3.len (o5y _),ixy]
   exact ⟨_,_,_,_,_,_,_,rfl,rz _⟩
 rw [show (e.Op == 17) = false from by simpa using h17,cond_false]
 by_cases h18:e.Op = 18
 ·rw [show (e.Op == 18) = true from by simp [h18],cond_true]
  obtain ⟨⟨gi,k7',x8'⟩,hg,go⟩:=at_guard_ok e.Obj k7 x8 m2
  obtain ⟨g1,g2,g3,g4,g5⟩:=go
  simp only at g1 g2 g3 g4 g5
  have eg:ix x8' gi = a.L e.Obj:=by rw [← hL,← g4,G_yes g2,g3]
  rw [hg]
  simp only [Option.bind_some]
  rw [decide_eq_true g1.len,decide_eq_true g5,join3_eq _ _ _ g5,eg,ixs]
  simp only [cond_true,Option.bind_some]
  have gl:∀ y,k7'.length = (x8'.set gi.toNat y).length:=fun y=>(g1.set _ _).len
  have gr:∀ y:guard,0≤gi∧gi < (((x8'.set gi.toNat y).length:Nat):Int):=fun y=>by rw [List.length_set]; exact g5
  have gx:∀ y:guard,ix (x8'.set gi.toNat y) gi = y:=fun y=>ix_set g5 y
  have gL:∀ y j,G k7' (x8'.set gi.toNat y) j = upd1 a.L e.Obj y j:=fun y j=>by
   rw [g3,G_set g1 g2]
   unfold upd1
   by_cases hj:j = e.Obj
   ·rw [if_pos hj,if_pos hj]
   ·rw [if_neg hj,if_neg hj,g4,hL]
  rw [decide_eq_true (gl _),decide_eq_true (gr _)]
  simp only [cond_true]
  unfold SeeOk seeA
  simp only [h18,show ¬ ((18:Int) = 15) by omega,show ¬ ((18:Int) = 14) by omega,show ¬ ((18:Int) = 16) by omega,show ¬ ((18:Int) = 17) by omega,if_false,if_true,hs0]
  by_cases hv:e.Value = 1
  ·rw [show (e.Value == 1) = true from by simp [hv],cond_true,join4_eq _ _ _ (gr _),gx]
   simp only [Option.bind_some,set_set]
   rw [decide_eq_true (gl _),decide_eq_true (gr _)]
   simp only [cond_true,if_pos hv]
   rw [j1_ok (l1 _) (gl _) m3.len (o5y _),ixy]
   exact ⟨_,_,_,_,_,_,_,rfl,o1.set _ _,g1.set _ _,m3,T' _,rfl,gL _,hRR⟩
  ·rw [show (e.Value == 1) = false from by simpa using hv,cond_false]
   simp only [if_neg hv]
   rw [j1_ok (l1 _) (gl _) m3.len (o5y _),ixy]
   exact ⟨_,_,_,_,_,_,_,rfl,o1.set _ _,g1.set _ _,m3,T' _,rfl,gL _,hRR⟩
 rw [show (e.Op == 18) = false from by simpa using h18,cond_false]
 have upR:∀ (f:Int→V) (k:Int) (xs:List V) (ks:List Int) (h:Mok ks xs) (hf:∀ j,G ks xs j = f j) (y:V) (hk:kHas ks k = true) (j:Int),G ks (xs.set (kAt ks k).toNat y) j = upd1 f k y j:=fun f k xs ks h hf y hk j=>by
  rw [G_set h hk]
  unfold upd1
  by_cases hj:j = k
  ·rw [if_pos hj,if_pos hj]
  ·rw [if_neg hj,if_neg hj,hf]
 have upN:∀ (f:Int→V) (k:Int) (xs:List V) (ks:List Int) (h:Mok ks xs) (hf:∀ j,G ks xs j = f j) (y:V) (hk:kHas ks k = false) (j:Int),G (ks++[k]) (xs++[y]) j = upd1 f k y j:=fun f k xs ks h hf y hk j=>by
  rw [G_app h hk]
  unfold upd1
  by_cases hj:j = k
  ·rw [if_pos hj,if_pos hj]
  ·rw [if_neg hj,if_neg hj,hf]
 have st1:∀ (k:Int) (ks:List Int) (xs:List V),Mok ks xs→kHas ks k = true→order_at_stamp_1 k ks xs = some (kAt ks k):=fun k ks xs h hk=>by
  have hlt:=at_lt hk
  have:=h.len
  unfold order_at_stamp_1
  rw [decide_eq_true h.len,decide_eq_true hlt.1,decide_eq_true (show kAt ks k < (xs.length:Int) by omega)]; rfl
 have st2:∀ (k:Int) (ks:List Int) (xs:List V),Mok ks xs→order_at_stamp_2 k ks xs = some (default,ks):=fun k ks xs h=>by
  unfold order_at_stamp_2; rw [decide_eq_true h.len]; rfl
 by_cases h19:e.Op = 19
 ·rw [show (e.Op == 19) = true from by simp [h19],cond_true]
  unfold SeeOk seeA
  simp only [h19,show ¬ ((19:Int) = 15) by omega,show ¬ ((19:Int) = 14) by omega,show ¬ ((19:Int) = 16) by omega,show ¬ ((19:Int) = 17) by omega,show ¬ ((19:Int) = 18) by omega,if_false,if_true,hs0]
  cases hk:kHas k9 e.Obj with
  | true =>
   have hlt:=at_lt hk
   have hr2:0≤kAt k9 e.Obj∧kAt k9 e.Obj < (x10.length:Int):=by rw [← m3.len]; exact hlt
   rw [st1 _ _ _ m3 hk]
   simp only [cond_true,Option.bind_some]
   rw [decide_eq_true hr2,join_eq _ _ _ hr2,ixs]
   simp only [cond_true,Option.bind_some]
   rw [decide_eq_true (m3.set _ _).len,decide_eq_true (show 0≤kAt k9 e.Obj∧kAt k9 e.Obj < (((x10.set (kAt k9 e.Obj).toNat (vmax (ix x10 (kAt k9 e.Obj)) s0)).length:Nat):Int) by rw [List.length_set]; exact hr2)]
   simp only [cond_true]
   rw [j1_ok (l1 _) m2.len (m3.set _ _).len (o5y _),ixy]
   have eR:ix x10 (kAt k9 e.Obj) = a.R e.Obj:=by rw [← hRR,G_yes hk]
   rw [eR]
   exact ⟨_,_,_,_,_,_,_,rfl,o1.set _ _,m2,m3.set _ _,T' _,rfl,hL,upR a.R _ _ _ m3 hRR _ hk⟩
  | false =>
   rw [st2 _ _ _ m3]
   simp only [cond_false,Option.bind_some]
   rw [decide_eq_true m3.len,join2_eq,ixs]
   simp only [cond_true,Option.bind_some]
   rw [j1_ok (l1 _) m2.len (m3.app hk _).len (o5y _),ixy]
   have eR:a.R e.Obj = default:=by rw [← hRR,G_no hk]
   rw [eR]
   exact ⟨_,_,_,_,_,_,_,rfl,o1.set _ _,m2,m3.app hk _,T' _,rfl,hL,upN a.R _ _ _ m3 hRR _ hk⟩
 rw [show (e.Op == 19) = false from by simpa using h19,cond_false]
 by_cases h20:e.Op = 20
 ·rw [show (e.Op == 20) = true from by simp [h20],cond_true]
  unfold SeeOk seeA
  simp only [h20,show ¬ ((20:Int) = 15) by omega,show ¬ ((20:Int) = 14) by omega,show ¬ ((20:Int) = 16) by omega,show ¬ ((20:Int) = 17) by omega,show ¬ ((20:Int) = 18) by omega,show ¬ ((20:Int) = 19) by omega,if_false,if_true,hs0]
  cases hk:kHas k9 e.Obj with
  | true =>
   have hlt:=at_lt hk
   have hr2:0≤kAt k9 e.Obj∧kAt k9 e.Obj < (x10.length:Int):=by rw [← m3.len]; exact hlt
   rw [st1 _ _ _ m3 hk]
   simp only [cond_true,Option.bind_some]
   have eR:ix x10 (kAt k9 e.Obj) = a.R e.Obj:=by rw [← hRR,G_yes hk]
   rw [decide_eq_true hr2,jn,eR]
   simp only [cond_true,Option.bind_some]
   rw [decide_eq_true (l1 _),decide_eq_true (o5y _)]
   simp only [cond_true]
   rw [j1_ok (l1 _) m2.len m3.len (o5y _),ixy]
   exact ⟨_,_,_,_,_,_,_,rfl,rl _⟩
  | false =>
   rw [st2 _ _ _ m3]
   simp only [cond_false,Option.bind_some]
   have eR:a.R e.Obj = default:=by rw [← hRR,G_no hk]
   rw [decide_eq_true m3.len,jn,eR]
   simp only [cond_true,Option.bind_some]
   rw [decide_eq_true (l1 _),decide_eq_true (o5y _)]
   simp only [cond_true]
   rw [j1_ok (l1 _) m2.len (m3.app hk _).len (o5y _),ixy]
   refine ⟨_,_,_,_,_,_,_,rfl,o1.set _ _,m2,m3.app hk _,T' _,rfl,hL,fun j=>?_⟩
   rw [upN a.R _ _ _ m3 hRR _ hk]
   unfold upd1
   by_cases hj:j = e.Obj
   ·subst hj; rw [if_pos rfl,eR]
   ·rw [if_neg hj]
 rw [show (e.Op == 20) = false from by simpa using h20,cond_false]
 by_cases h11:e.Op = 11
 ·rw [show (e.Op == 11) = true from by simp [h11],cond_true]
  unfold SeeOk seeA
  simp only [h11,show ¬ ((11:Int) = 15) by omega,show ¬ ((11:Int) = 14) by omega,show ¬ ((11:Int) = 16) by omega,show ¬ ((11:Int) = 17) by omega,show ¬ ((11:Int) = 18) by omega,show ¬ ((11:Int) = 19) by omega,show ¬ ((11:Int) = 20) by omega,if_false,if_true,hs0]
  cases hk:kHas k1' e.Value with
  | true =>
   have hlt:=at_lt hk
   have hr2:0≤kAt k1' e.Value∧kAt k1' e.Value < (((x1'.set si.toNat s0).length:Nat):Int):=by rw [← l1 s0]; exact hlt
   rw [st1 _ _ _ (o1.set _ _) hk]
   simp only [cond_true,Option.bind_some]
   have eT:ix (x1'.set si.toNat s0) (kAt k1' e.Value) = upd1 a.T e.Task s0 e.Value:=by rw [← T',G_yes hk]
   rw [decide_eq_true hr2,join_eq _ _ _ hr2,ixs,eT]
   simp only [cond_true,Option.bind_some]
   rw [decide_eq_true ((o1.set _ _).set _ _).len,decide_eq_true (show 0≤si∧si < ((((x1'.set si.toNat s0).set (kAt k1' e.Value).toNat (vmax (upd1 a.T e.Task s0 e.Value) s0)).length:Nat):Int) by rw [List.length_set]; exact o5y s0),
    decide_eq_true (show 0≤kAt k1' e.Value∧kAt k1' e.Value < ((((x1'.set si.toNat s0).set (kAt k1' e.Value).toNat (vmax (upd1 a.T e.Task s0 e.Value) s0)).length:Nat):Int) by rw [List.length_set]; exact hr2)]
   simp only [cond_true]
   rw [j1_ok ((o1.set _ _).set _ _).len m2.len m3.len (by rw [List.length_set]; exact o5y s0)]
   have hx:ix ((x1'.set si.toNat s0).set (kAt k1' e.Value).toNat (vmax (upd1 a.T e.Task s0 e.Value) s0)) si = s0:=by
    by_cases hve:e.Value = e.Task
    ·rw [hve,← o3,ix_set o5']
     unfold upd1; rw [if_pos rfl,vmax_self]
    ·rw [ix_set_ne (fun ee=>hve (at_inj hk o2 (by rw [ee,o3]))),ixy]
   rw [hx]
   exact ⟨_,_,_,_,_,_,_,rfl,(o1.set _ _).set _ _,m2,m3,upR _ _ _ _ (o1.set _ _) (T' s0) _ hk,rfl,hL,hRR⟩
  | false =>
   rw [st2 _ _ _ (o1.set _ _)]
   simp only [cond_false,Option.bind_some]
   rw [decide_eq_true (l1 s0),join2_eq,ixs]
   simp only [cond_true,Option.bind_some]
   have eT:upd1 a.T e.Task s0 e.Value = default:=by rw [← T',G_no hk]
   have hap:=(o1.set si.toNat s0).app hk (vmax default s0)
   rw [j1_ok hap.len m2.len m3.len (by have:=o5y s0; rw [List.length_append]; simp only [List.length_cons,List.length_nil]; omega)]
   have hx:ix (x1'.set si.toNat s0++[vmax default s0]) si = s0:=by
    have:=ixy s0
    have h7:=o5y s0
    unfold ix at this ⊢
    rw [List.getD_eq_getElem?_getD] at this ⊢
    rw [List.getElem?_append_left (by omega)]; exact this
   rw [hx,eT]
   exact ⟨_,_,_,_,_,_,_,rfl,hap,m2,m3,upN _ _ _ _ (o1.set _ _) (T' s0) _ hk,rfl,hL,hRR⟩
 rw [show (e.Op == 11) = false from by simpa using h11,cond_false]
 rw [j1_ok (l1 _) m2.len m3.len (o5y _),ixy]
 unfold SeeOk seeA
 simp only [h11,h14,h15,h16,h17,h18,h19,h20,if_false,hs0]
 exact ⟨_,_,_,_,_,_,_,rfl,rl _⟩
end Go.Proofs.Ytelegonboeacaaa
end

section
namespace Go.Proofs.Ytelegonboeacaaa
open Go Go.Sx
set_option linter.unusedVariables false
set_option linter.unusedSimpArgs false
def badP (p:List Int) (i:Nat):Option Fault:=if ix p (i:Int) < 0∨100 < ix p (i:Int) then some ⟨8,(i:Int)⟩ else none
def badE (np:Nat) (e:GEvent) (i:Int):Option Fault :=
 if e.Task < 1∨64 < e.Task then some ⟨3,i⟩
 else if e.Op < 8∨22 < e.Op then some ⟨4,i⟩
 else if e.Obj < 0∨20 < e.Obj∨((e.Op = 14∨e.Op = 15∨e.Op = 16)∧(np:Int)≤e.Obj) then some ⟨5,i⟩
 else if e.Op = 11∧(e.Value < 1∨64 < e.Value) then some ⟨5,i⟩ else none
def checkF (t:List GEvent) (p:List Int):Fault :=
 if 2000 < t.length∨20 < p.length then ⟨2,0⟩
 else (firstAt (badP p) p.length).getD ((firstAt (fun i=>badE p.length (ix t (i:Int)) (i:Int)) t.length).getD ⟨0,0⟩)
theorem bcond {α:Type} {p:Prop} [Decidable p] {b:Bool} (h:b = true↔p) (x y:α):(bif b then x else y) = if p then x else y:=by
 by_cases hp:p
 ·rw [if_pos hp,h.2 hp]; rfl
 ·rw [if_neg hp]
  cases b with
  | false=>rfl
  | true=>exact absurd (h.1 rfl) hp
theorem check_l1 (t:List GEvent) (p:List Int) (ht:t.length≤2000):loopO (order_Check_l1 t p) 0 = some ((firstAt (fun i=>badE p.length (ix t (i:Int)) (i:Int)) t.length).getD ⟨0,0⟩):=by
 refine loopO_findP (fun i=>((i:Nat):Int)) _ _ t.length (fun i hi _=>?_) fun _=>?_
 ·unfold order_Check_l1 badE
  try simp only
  rw [decide_eq_true (show (i:Int) < (t.length:Int) by omega),decide_eq_true (show (0:Int)≤(i:Int) by omega)]
  simp only [cond_true,Bool.and_self,order_fault,Option.bind_some,Option.map_some]
  generalize ix t (i:Int) = e
  rw [bcond (p:=e.Task < 1∨64 < e.Task) (by simp),bcond (p:=e.Op < 8∨22 < e.Op) (by simp),
   bcond (p:=e.Obj < 0∨20 < e.Obj∨((e.Op = 14∨e.Op = 15∨e.Op = 16)∧(p.length:Int)≤e.Obj)) (by
    by_cases h1:e.Op = 14 <;> by_cases h2:e.Op = 15 <;> by_cases h3:e.Op = 16 <;> simp [h1,h2,h3]),
   bcond (p:=e.Op = 11∧(e.Value < 1∨64 < e.Value)) (by simp),wrap_n1 i (by omega)]
  split
  ·rfl
  split
  ·rfl
  split
  ·rfl
  split
  ·rfl
  ·rfl
 ·unfold order_Check_l1
  rw [decide_eq_false (show ¬ (t.length:Int) < (t.length:Int) by omega)]
  rfl
theorem check_eq (t:List GEvent) (p:List Int):order_Check t p = some (checkF t p):=by
 unfold order_Check checkF
 rw [bcond (p:=2000 < t.length∨20 < p.length) (by simp; omega)]
 by_cases h:2000 < t.length∨20 < p.length
 ·rw [if_pos h,if_pos h]; rfl
 ·rw [if_neg h,if_neg h]
  refine loopO_findP (fun i=>((i:Nat):Int)) (badP p) _ p.length (fun i hi _=>?_) fun _=>?_
  ·unfold order_Check_l2 badP
   try simp only
   rw [decide_eq_true (show (i:Int) < (p.length:Int) by omega),decide_eq_true (show (0:Int)≤(i:Int) by omega)]
   simp only [cond_true,Bool.and_self,order_fault,Option.bind_some,Option.map_some]
   rw [bcond (p:=ix p (i:Int) < 0∨100 < ix p (i:Int)) (by simp),wrap_n1 i (by omega)]
   split
   ·rfl
   ·rfl
  ·unfold order_Check_l2
   rw [decide_eq_false (show ¬ (p.length:Int) < (p.length:Int) by omega),check_l1 t p (by omega)]
   rfl
structure TrOk (t:List GEvent) (p:List Int):Prop where
 n:t.length≤2000
 np:p.length≤20
 caps:CapsOk p
 ev:∀ i,(h:i < t.length)→EvOk p.length t[i]
theorem badE_none {np:Nat} {e:GEvent} {i:Int} (h:badE np e i = none):EvOk np e:=by
 unfold badE at h
 split at h
 ·cases h
 ·split at h
  ·cases h
  ·split at h
   ·cases h
   ·split at h
    ·cases h
    ·rename_i h1 h2 h3 h4
     exact ⟨by omega,by omega,by omega,fun h5=>by
      by_cases h6:e.Obj < (np:Int)
      ·exact h6
      ·exact absurd (.inr (.inr ⟨h5,by omega⟩)) h3,fun h5=>by
      by_cases h6:1≤e.Value∧e.Value≤64
      ·exact h6
      ·exact absurd ⟨h5,by omega⟩ h4⟩
theorem badE_code {np:Nat} {e:GEvent} {i:Int} {f:Fault} (h:badE np e i = some f):f.Code≠0:=by
 unfold badE at h
 split at h
 ·cases h; simp
 ·split at h
  ·cases h; simp
  ·split at h
   ·cases h; simp
   ·split at h
    ·cases h; simp
    ·cases h
theorem check_ok {t:List GEvent} {p:List Int} (h:(checkF t p).Code = 0):TrOk t p∧checkF t p = ⟨0,0⟩:=by
 unfold checkF at h ⊢
 by_cases h0:2000 < t.length∨20 < p.length
 ·rw [if_pos h0] at h; simp at h
 ·rw [if_neg h0] at h ⊢
  cases h1:firstAt (badP p) p.length with
  | some f =>
   obtain ⟨i,a1,a2,a3⟩:=firstAt_some _ h1
   rw [h1] at h
   simp only [Option.getD_some] at h
   unfold badP at a2
   split at a2
   ·cases a2; simp at h
   ·cases a2
  | none =>
   have b1:=(firstAt_none _).1 h1
   rw [h1] at h
   simp only [Option.getD_none] at h ⊢
   cases h2:firstAt (fun i=>badE p.length (ix t (i:Int)) (i:Int)) t.length with
   | some f =>
    obtain ⟨i,a1,a2,a3⟩:=firstAt_some _ h2
    rw [h2] at h
    exact absurd h (badE_code a2)
   | none =>
    have b2:=(firstAt_none _).1 h2
    refine ⟨⟨by omega,by omega,fun i hi=>?_,fun i hi=>?_⟩,rfl⟩
    ·have:=b1 i hi
     unfold badP at this
     rw [ix_get hi] at this
     split at this
     ·cases this
     ·rename_i hh; omega
    ·have:=badE_none (b2 i hi)
     rwa [ix_get hi] at this
def a0 (np:Nat):A:=⟨fun _=>default,List.replicate np default,fun _=>default,fun _=>default⟩
def afterA (caps:List Int) (a:A) (t:List GEvent):A:=t.foldl (fun a e=>(seeA caps a e).2) a
def stA (caps:List Int):A→List GEvent→List V
 | _,[]=>[]
 | a,e::r=>(seeA caps a e).1::stA caps (seeA caps a e).2 r
theorem stA_len (caps:List Int):∀ (t:List GEvent) (a:A),(stA caps a t).length = t.length
 | [],_=>rfl
 | e::r,a=>by simp [stA,stA_len caps r]
theorem afterA_snoc (caps:List Int) (a:A) (t:List GEvent) (e:GEvent):afterA caps a (t++[e]) = (seeA caps (afterA caps a t) e).2:=by simp [afterA,List.foldl_append]
theorem stA_snoc (caps:List Int):∀ (t:List GEvent) (a:A) (e:GEvent),stA caps a (t++[e]) = stA caps a t++[(seeA caps (afterA caps a t) e).1]
 | [],a,e=>rfl
 | x::r,a,e=>by
  rw [List.cons_append,stA,stA_snoc caps r,stA,List.cons_append]; rfl
theorem take_snoc {β:Type} (t:List β) {i:Nat} (h:i < t.length):t.take (i+1) = t.take i++[t[i]]:=by
 rw [List.take_succ_eq_append_getElem h]
theorem stA_take (caps:List Int) (a:A) (t:List GEvent) {i:Nat} (h:i < t.length):stA caps a (t.take (i+1)) = stA caps a (t.take i)++[(seeA caps (afterA caps a (t.take i)) t[i]).1]:=by
 rw [take_snoc t h,stA_snoc]
theorem afterA_take (caps:List Int) (a:A) (t:List GEvent) {i:Nat} (h:i < t.length):afterA caps a (t.take (i+1)) = (seeA caps (afterA caps a (t.take i)) t[i]).2:=by
 rw [take_snoc t h,afterA_snoc]
theorem PipeOk.mono {n m:Nat} (hm:n≤m) {p:pipe} (h:PipeOk n p):PipeOk m p:=⟨h.late,Nat.le_trans h.s hm,Nat.le_trans h.g hm⟩
theorem wf_set {caps:List Int} {n:Nat} {a:A} (h:WfA caps n a) {o:Int} {p:pipe} (hp:PipeOk (n+1) p) (T:Int→V) (L:Int→guard) (R:Int→V):WfA caps (n+1) ⟨T,setP a.P o p,L,R⟩:=by
 refine ⟨by rw [setP,List.length_set]; exact h.len,fun q hq=>?_⟩
 rcases List.mem_or_eq_of_mem_set hq with hq | rfl
 ·exact (h.ps q hq).mono (Nat.le_succ n)
 ·exact hp
theorem wf_same {caps:List Int} {n:Nat} {a:A} (h:WfA caps n a) (T:Int→V) (L:Int→guard) (R:Int→V):WfA caps (n+1) ⟨T,a.P,L,R⟩:=⟨h.len,fun q hq=>(h.ps q hq).mono (Nat.le_succ n)⟩
theorem pipe_at {caps:List Int} {n:Nat} {a:A} (h:WfA caps n a) {e:GEvent} (he:EvOk caps.length e) (ho:e.Op = 14∨e.Op = 15∨e.Op = 16):PipeOk n (ixD a.P e.Obj):=by
 have h1:=he.pipe ho
 have h2:=he.obj.1
 have h3:=h.len
 refine h.ps _ ?_
 rw [ixD_pos h2]; unfold ix
 rw [List.getD_eq_getElem?_getD,List.getElem?_eq_getElem (show e.Obj.toNat < a.P.length by omega)]
 exact List.getElem_mem _
theorem wf_step {caps:List Int} {n:Nat} {a:A} (h:WfA caps n a) {e:GEvent} (he:EvOk caps.length e):WfA caps (n+1) (seeA caps a e).2:=by
 unfold seeA
 simp only
 split
 ·rename_i ho
  have hp:=pipe_at h he (.inr (.inl ho))
  split
  ·exact wf_same h _ _ _
  ·rename_i hle
   have hq:∀ s:V,PipeOk (n+1) { ixD a.P e.Obj with gets:=(ixD a.P e.Obj).gets++[s] }:=fun s=>⟨hp.late,by have:=hp.s; simp only; omega,by have:=hp.s; simp; omega⟩
   split
   ·exact wf_set h (hq _) _ _ _
   ·exact wf_set h (hq _) _ _ _
 split
 ·rename_i ho
  have hp:=pipe_at h he (.inl ho)
  refine wf_set h ⟨?_,?_,?_⟩ _ _ _
  ·simp [hp.late]
  ·have:=hp.s; simp; omega
  ·have:=hp.g; simp only; omega
 split
 ·rename_i ho
  have hp:=pipe_at h he (.inr (.inr ho))
  have hq:PipeOk (n+1) { ixD a.P e.Obj with shut:=inc (a.T e.Task) e.Task,closed:=true }:=⟨hp.late,Nat.le_succ_of_le hp.s,Nat.le_succ_of_le hp.g⟩
  exact wf_set h hq _ _ _
 split
 ·exact wf_same h _ _ _
 split
 ·exact wf_same h _ _ _
 split
 ·exact wf_same h _ _ _
 split
 ·exact wf_same h _ _ _
 split
 ·exact wf_same h _ _ _
 ·exact wf_same h _ _ _
theorem wf_0 (caps:List Int):WfA caps 0 (a0 caps.length):=⟨by simp [a0],fun p hp=>by
 have:p = default:=List.eq_of_mem_replicate hp
 subst this
 exact ⟨rfl,Nat.le_refl _,Nat.le_refl _⟩⟩
theorem wf_at {t:List GEvent} {p:List Int} (h:TrOk t p):∀ i,i≤t.length→WfA p i (afterA p (a0 p.length) (t.take i))
 | 0,_=>by rw [List.take_zero]; exact wf_0 p
 | i+1,hi=>by
  rw [afterA_take _ _ _ (show i < t.length by omega)]
  exact wf_step (wf_at h i (by omega)) (h.ev i (by omega))
theorem stamps_eq {t:List GEvent} {p:List Int} (h:TrOk t p):order_Stamps t p = some (stA p (a0 p.length) t):=by
 unfold order_Stamps
 have hn:=h.n
 have hnp:=h.np
 rw [decide_eq_true (show 0≤(p.length:Int)∧(p.length:Int)≤4611686018427387904∧(600:Int) * (p.length:Int)≤140737488355328 by omega)]
 simp only [cond_true]
 refine loopO_up (A:=List Int×List V×List pipe×List Int×List guard×List Int×List V) t.length (fun i c=>(((i:Nat):Int),p,stA p (a0 p.length) (t.take i),c.1,c.2.2.1,c.2.2.2.1,c.2.2.2.2.2.1,c.2.1,c.2.2.2.2.1,c.2.2.2.2.2.2)) (fun i c=>Rel c.1 c.2.1 c.2.2.1 c.2.2.2.1 c.2.2.2.2.1 c.2.2.2.2.2.1 c.2.2.2.2.2.2 (afterA p (a0 p.length) (t.take i))) (fun _ _=>some (stA p (a0 p.length) t)) (fun c hc=>?_) (fun i c hi hc=>.inl ?_) ([],[],List.replicate p.length default,[],[],[],[]) ?_
 ·unfold order_Stamps_l1
  simp only
  rw [decide_eq_true hc.m1.len,decide_eq_true hc.m2.len,decide_eq_true hc.m3.len,decide_eq_false (show ¬ (t.length:Int) < (t.length:Int) by omega),List.take_length]
  rfl
 ·obtain ⟨k1,q,k7,k9,x1,x8,x10,e1,e2⟩:=see_ok hc (wf_at h i (by omega)) (by omega) h.caps (h.ev i hi)
  refine ⟨(k1,x1,q,k7,x8,k9,x10),?_,?_,rfl⟩
  ·unfold order_Stamps_l1
   simp only
   rw [decide_eq_true hc.m1.len,decide_eq_true hc.m2.len,decide_eq_true hc.m3.len,decide_eq_true (show (i:Int) < (t.length:Int) by omega),decide_eq_true (show (0:Int)≤(i:Int) by omega),ix_get hi,e1]
   simp only [cond_true,Bool.and_self,Option.bind_some]
   rw [decide_eq_true e2.m1.len,decide_eq_true e2.m2.len,decide_eq_true e2.m3.len,decide_eq_true (show (stA p (a0 p.length) (t.take i)++([(seeA p (afterA p (a0 p.length) (t.take i)) t[i]).1]:List V)).length * 520≤140737488355328 by
    rw [List.length_append,stA_len,List.length_take]; simp; omega)]
   simp only [cond_true]
   rw [wrap_n1 i (by omega),stA_take _ _ _ hi]
  ·rw [afterA_take _ _ _ hi]; exact e2
 ·have g0:∀ {β:Type} [Enc β] (j:Int),G ([]:List Int) ([]:List β) j = default:=fun j=>G_no rfl
  exact ⟨⟨rfl,List.nodup_nil⟩,⟨rfl,List.nodup_nil⟩,⟨rfl,List.nodup_nil⟩,fun j=>g0 j,rfl,fun j=>g0 j,fun j=>g0 j⟩
end Go.Proofs.Ytelegonboeacaaa
end

section
namespace Go.Proofs.Ytelegonboeacaaa
open Go Go.Sx
set_option linter.unusedVariables false
set_option linter.unusedSimpArgs false
def vle (a b:V):Prop:=∀ j:Int,0≤j→j < 65→a.get j≤b.get j
theorem vle_refl (a:V):vle a a:=fun _ _ _=>Int.le_refl _
theorem vle_trans {a b c:V} (h:vle a b) (g:vle b c):vle a c:=fun j h0 h1=>Int.le_trans (h j h0 h1) (g j h0 h1)
theorem vle_l (a b:V):vle a (vmax a b):=fun j h0 h1=>by rw [vmax_get _ _ _ h0 (by omega)]; omega
theorem vle_r (a b:V):vle b (vmax a b):=fun j h0 h1=>by rw [vmax_get _ _ _ h0 (by omega)]; omega
def InA (a:A) (v:V):Prop:=(∃ x,v = a.T x)∨(∃ p ∈ a.P,v ∈ p.sends∨v ∈ p.gets∨v = p.shut)∨(∃ x,v = (a.L x).writers∨v = (a.L x).all)∨∃ x,v = a.R x
theorem inT (a:A) (x:Int):InA a (a.T x):=.inl ⟨x,rfl⟩
theorem ix_mem {xs:List V} {i:Int} (h:0≤i∧i < (xs.length:Int)):ix xs i ∈ xs:=by
 unfold ix
 rw [List.getD_eq_getElem?_getD,List.getElem?_eq_getElem (show i.toNat < xs.length by omega)]
 exact List.getElem_mem _
theorem pipe_mem {caps:List Int} {n:Nat} {a:A} (h:WfA caps n a) {e:GEvent} (he:EvOk caps.length e) (ho:e.Op = 14∨e.Op = 15∨e.Op = 16):ixD a.P e.Obj ∈ a.P:=by
 have h1:=he.pipe ho
 have h2:=he.obj.1
 have h3:=h.len
 rw [ixD_pos h2]; unfold ix
 rw [List.getD_eq_getElem?_getD,List.getElem?_eq_getElem (show e.Obj.toNat < a.P.length by omega)]
 exact List.getElem_mem _
def s0A (a:A) (e:GEvent):V:=inc (a.T e.Task) e.Task
section step
variable {caps:List Int} {n:Nat} {a:A} {e:GEvent} (h:WfA caps n a) (he:EvOk caps.length e)
include h he
theorem stamp_cases:(seeA caps a e).1 = s0A a e∨∃ w,InA a w∧(seeA caps a e).1 = vmax (s0A a e) w:=by
 unfold seeA s0A
 simp only
 split
 ·rename_i ho
  have hm:=pipe_mem h he (.inr (.inl ho))
  split
  ·simp only
   split
   ·exact .inr ⟨_,.inr (.inl ⟨_,hm,.inr (.inr rfl)⟩),rfl⟩
   ·exact .inl rfl
  ·rename_i hle
   have hx:ix (ixD a.P e.Obj).sends (((ixD a.P e.Obj).gets.length:Nat):Int) ∈ (ixD a.P e.Obj).sends:=ix_mem (by omega)
   split
   ·exact .inr ⟨_,.inr (.inl ⟨_,hm,.inl hx⟩),rfl⟩
   ·exact .inr ⟨_,.inr (.inl ⟨_,hm,.inl hx⟩),rfl⟩
 split
 ·rename_i ho
  have hm:=pipe_mem h he (.inl ho)
  simp only
  split
  ·rename_i hk
   exact .inr ⟨_,.inr (.inl ⟨_,hm,.inr (.inl (ix_mem ⟨hk.2.1,hk.2.2⟩))⟩),rfl⟩
  ·exact .inl rfl
 split
 ·exact .inl rfl
 split
 ·simp only
  refine .inr ⟨_,.inr (.inr (.inl ⟨e.Obj,?_⟩)),rfl⟩
  split
  ·exact .inr rfl
  ·exact .inl rfl
 split
 ·exact .inl rfl
 split
 ·exact .inl rfl
 split
 ·exact .inr ⟨_,.inr (.inr (.inr ⟨e.Obj,rfl⟩)),rfl⟩
 split
 ·exact .inl rfl
 ·exact .inl rfl
theorem s0_le:vle (s0A a e) (seeA caps a e).1:=by
 rcases stamp_cases h he with h1 | ⟨w,_,h1⟩
 ·rw [h1]; exact vle_refl _
 ·rw [h1]; exact vle_l _ _
omit h he in
theorem upd1_or {β:Type} (f:Int→β) (k:Int) (y:β) (x:Int):upd1 f k y x = f x∨upd1 f k y x = y:=by
 unfold upd1; split
 ·exact .inr rfl
 ·exact .inl rfl
theorem in_after {v:V} (hv:InA (seeA caps a e).2 v):InA a v∨v = (seeA caps a e).1∨∃ w,InA a w∧v = vmax w (seeA caps a e).1:=by
 have oldP:∀ {p:pipe},p ∈ a.P→(v ∈ p.sends∨v ∈ p.gets∨v = p.shut)→InA a v:=fun hp hv=>.inr (.inl ⟨_,hp,hv⟩)
 have tt:∀ {s:V} {x:Int},v = upd1 a.T e.Task s x→InA a v∨v = s:=fun hh=>by
  rcases upd1_or a.T e.Task _ _ with h1 | h1
  ·exact .inl (.inl ⟨_,hh.trans h1⟩)
  ·exact .inr (hh.trans h1)
 have setp:∀ {o:Int} {q:pipe},(∃ p ∈ setP a.P o q,v ∈ p.sends∨v ∈ p.gets∨v = p.shut)→InA a v∨(v ∈ q.sends∨v ∈ q.gets∨v = q.shut):=by
  rintro o q ⟨p,hp,hh⟩
  rcases List.mem_or_eq_of_mem_set hp with hp | rfl
  ·exact .inl (oldP hp hh)
  ·exact .inr hh
 have gd:(∃ x,v = (a.L x).writers∨v = (a.L x).all)→InA a v:=fun hh=>.inr (.inr (.inl hh))
 have rr:(∃ x,v = a.R x)→InA a v:=fun hh=>.inr (.inr (.inr hh))
 have base:∀ {s:V},(∃ x,v = upd1 a.T e.Task s x)∨(∃ p ∈ a.P,v ∈ p.sends∨v ∈ p.gets∨v = p.shut)∨(∃ x,v = (a.L x).writers∨v = (a.L x).all)∨(∃ x,v = a.R x)→InA a v∨v = s∨∃ w,InA a w∧v = vmax w s:=by
  rintro s (⟨x,hh⟩ | ⟨p,hp,hh⟩ | hh | hh)
  ·exact (tt hh).imp id .inl
  ·exact .inl (oldP hp hh)
  ·exact .inl (gd hh)
  ·exact .inl (rr hh)
 revert hv
 unfold seeA
 simp only
 split
 ·rename_i ho
  have hm:=pipe_mem h he (.inr (.inl ho))
  split
  ·exact base
  ·rename_i hle
   have hgets:∀ s:V,(∃ p ∈ setP a.P e.Obj { ixD a.P e.Obj with gets:=(ixD a.P e.Obj).gets++[s] },v ∈ p.sends∨v ∈ p.gets∨v = p.shut)→InA a v∨v = s:=fun s hh=>by
    rcases setp hh with h1 | h1 | h1 | h1
    ·exact .inl h1
    ·exact .inl (oldP hm (.inl h1))
    ·rcases List.mem_append.1 h1 with h1 | h1
     ·exact .inl (oldP hm (.inr (.inl h1)))
     ·exact .inr (by simpa using h1)
    ·exact .inl (oldP hm (.inr (.inr h1)))
   split
   ·rintro (⟨x,hh⟩ | hh | hh | hh)
    ·simp only at hh
     rcases upd1_or (upd1 a.T e.Task (vmax (inc (a.T e.Task) e.Task) (ix (ixD a.P e.Obj).sends (((ixD a.P e.Obj).gets.length:Nat):Int)))) (ix (ixD a.P e.Obj).late (((ixD a.P e.Obj).gets.length:Nat):Int)) (vmax (upd1 a.T e.Task (vmax (inc (a.T e.Task) e.Task) (ix (ixD a.P e.Obj).sends (((ixD a.P e.Obj).gets.length:Nat):Int))) (ix (ixD a.P e.Obj).late (((ixD a.P e.Obj).gets.length:Nat):Int))) (vmax (inc (a.T e.Task) e.Task) (ix (ixD a.P e.Obj).sends (((ixD a.P e.Obj).gets.length:Nat):Int)))) x with h1 | h1
     ·exact (tt (hh.trans h1)).imp id .inl
     ·rw [h1] at hh
      rcases upd1_or a.T e.Task (vmax (inc (a.T e.Task) e.Task) (ix (ixD a.P e.Obj).sends (((ixD a.P e.Obj).gets.length:Nat):Int))) (ix (ixD a.P e.Obj).late (((ixD a.P e.Obj).gets.length:Nat):Int)) with h2 | h2
      ·rw [h2] at hh; exact .inr (.inr ⟨_,inT a _,hh⟩)
      ·rw [h2,vmax_self] at hh; exact .inr (.inl hh)
    ·exact (hgets _ hh).imp id .inl
    ·exact .inl (gd hh)
    ·exact .inl (rr hh)
   ·rintro (⟨x,hh⟩ | hh | hh | hh)
    ·exact (tt hh).imp id .inl
    ·exact (hgets _ hh).imp id .inl
    ·exact .inl (gd hh)
    ·exact .inl (rr hh)
 split
 ·rename_i ho
  have hm:=pipe_mem h he (.inl ho)
  rintro (⟨x,hh⟩ | hh | hh | hh)
  ·exact (tt hh).imp id .inl
  ·rcases setp hh with h1 | h1 | h1 | h1
   ·exact .inl h1
   ·rcases List.mem_append.1 h1 with h1 | h1
    ·exact .inl (oldP hm (.inl h1))
    ·exact .inr (.inl (by simpa using h1))
   ·exact .inl (oldP hm (.inr (.inl h1)))
   ·exact .inl (oldP hm (.inr (.inr h1)))
  ·exact .inl (gd hh)
  ·exact .inl (rr hh)
 split
 ·rename_i ho
  have hm:=pipe_mem h he (.inr (.inr ho))
  rintro (⟨x,hh⟩ | hh | hh | hh)
  ·exact (tt hh).imp id .inl
  ·rcases setp hh with h1 | h1 | h1 | h1
   ·exact .inl h1
   ·exact .inl (oldP hm (.inl h1))
   ·exact .inl (oldP hm (.inr (.inl h1)))
   ·exact .inr (.inl h1)
  ·exact .inl (gd hh)
  ·exact .inl (rr hh)
 split
 ·exact base
 split
 ·rintro (⟨x,hh⟩ | ⟨p,hp,hh⟩ | ⟨x,hh⟩ | hh)
  ·exact (tt hh).imp id .inl
  ·exact .inl (oldP hp hh)
  ·simp only at hh
   rcases upd1_or a.L e.Obj (⟨if e.Value = 1 then vmax (a.L e.Obj).writers (inc (a.T e.Task) e.Task) else (a.L e.Obj).writers,vmax (a.L e.Obj).all (inc (a.T e.Task) e.Task)⟩:guard) x with h1 | h1
   ·rw [h1] at hh; exact .inl (gd ⟨x,hh⟩)
   ·rw [h1] at hh
    rcases hh with hh | hh
    ·simp only at hh
     split at hh
     ·exact .inr (.inr ⟨_,.inr (.inr (.inl ⟨e.Obj,.inl rfl⟩)),hh⟩)
     ·exact .inl (gd ⟨e.Obj,.inl hh⟩)
    ·exact .inr (.inr ⟨_,.inr (.inr (.inl ⟨e.Obj,.inr rfl⟩)),hh⟩)
  ·exact .inl (rr hh)
 split
 ·rintro (⟨x,hh⟩ | ⟨p,hp,hh⟩ | hh | ⟨x,hh⟩)
  ·exact (tt hh).imp id .inl
  ·exact .inl (oldP hp hh)
  ·exact .inl (gd hh)
  ·simp only at hh
   rcases upd1_or a.R e.Obj (vmax (a.R e.Obj) (inc (a.T e.Task) e.Task)) x with h1 | h1
   ·rw [h1] at hh; exact .inl (rr ⟨x,hh⟩)
   ·rw [h1] at hh; exact .inr (.inr ⟨_,.inr (.inr (.inr ⟨e.Obj,rfl⟩)),hh⟩)
 split
 ·exact base
 split
 ·rintro (⟨x,hh⟩ | ⟨p,hp,hh⟩ | hh | hh)
  ·simp only at hh
   rcases upd1_or (upd1 a.T e.Task (inc (a.T e.Task) e.Task)) e.Value (vmax (upd1 a.T e.Task (inc (a.T e.Task) e.Task) e.Value) (inc (a.T e.Task) e.Task)) x with h1 | h1
   ·exact (tt (hh.trans h1)).imp id .inl
   ·rw [h1] at hh
    rcases upd1_or a.T e.Task (inc (a.T e.Task) e.Task) e.Value with h2 | h2
    ·rw [h2] at hh; exact .inr (.inr ⟨_,inT a _,hh⟩)
    ·rw [h2,vmax_self] at hh; exact .inr (.inl hh)
  ·exact .inl (oldP hp hh)
  ·exact .inl (gd hh)
  ·exact .inl (rr hh)
 ·exact base
omit h he in
theorem upd1_same {β:Type} (f:Int→β) (k:Int) (y:β):upd1 f k y k = y:=by unfold upd1; rw [if_pos rfl]
omit h he in
theorem upd1_ne {β:Type} (f:Int→β) {k j:Int} (y:β) (hj:j≠k):upd1 f k y j = f j:=by unfold upd1; rw [if_neg hj]
omit h he in
theorem T_task:(seeA caps a e).2.T e.Task = (seeA caps a e).1:=by
 unfold seeA
 simp only
 split
 ·split
  ·exact upd1_same _ _ _
  ·split
   ·rename_i hq
    show upd1 _ _ _ e.Task = _
    rw [upd1_ne _ _ (fun e'=>hq.2 e'.symm),upd1_same]
   ·exact upd1_same _ _ _
 split
 ·exact upd1_same _ _ _
 split
 ·exact upd1_same _ _ _
 split
 ·exact upd1_same _ _ _
 split
 ·exact upd1_same _ _ _
 split
 ·exact upd1_same _ _ _
 split
 ·exact upd1_same _ _ _
 split
 ·show upd1 _ _ _ e.Task = _
  by_cases hv:e.Task = e.Value
  ·rw [← hv,upd1_same,upd1_same,vmax_self]
  ·rw [upd1_ne _ _ hv,upd1_same]
 ·exact upd1_same _ _ _
omit h he in
theorem T_other {x:Int} (hx:x≠e.Task):(seeA caps a e).2.T x = a.T x∨(seeA caps a e).2.T x = vmax (a.T x) (seeA caps a e).1:=by
 have hu:∀ s:V,upd1 a.T e.Task s x = a.T x:=fun s=>upd1_ne _ _ hx
 unfold seeA
 simp only
 split
 ·split
  ·exact .inl (hu _)
  ·split
   ·rename_i hq
    show upd1 _ _ _ x = _∨upd1 _ _ _ x = _
    by_cases hl:x = ix (ixD a.P e.Obj).late (((ixD a.P e.Obj).gets.length:Nat):Int)
    ·rw [← hl,upd1_same,hu]; exact .inr rfl
    ·rw [upd1_ne _ _ hl,hu]; exact .inl rfl
   ·exact .inl (hu _)
 split
 ·exact .inl (hu _)
 split
 ·exact .inl (hu _)
 split
 ·exact .inl (hu _)
 split
 ·exact .inl (hu _)
 split
 ·exact .inl (hu _)
 split
 ·exact .inl (hu _)
 split
 ·show upd1 _ _ _ x = _∨upd1 _ _ _ x = _
  by_cases hv:x = e.Value
  ·rw [← hv,upd1_same,hu]; exact .inr rfl
  ·rw [upd1_ne _ _ hv,hu]; exact .inl rfl
 ·exact .inl (hu _)
omit h he in
theorem T_go (ho:e.Op = 11):vle (seeA caps a e).1 ((seeA caps a e).2.T e.Value):=by
 unfold seeA
 simp only [ho,show ¬ ((11:Int) = 15) by omega,show ¬ ((11:Int) = 14) by omega,show ¬ ((11:Int) = 16) by omega,show ¬ ((11:Int) = 17) by omega,show ¬ ((11:Int) = 18) by omega,show ¬ ((11:Int) = 19) by omega,show ¬ ((11:Int) = 20) by omega,if_false,if_true]
 show vle _ (upd1 _ _ _ e.Value)
 rw [upd1_same]
 exact vle_r _ _
end step
end Go.Proofs.Ytelegonboeacaaa
end

section
namespace Go.Proofs.Ytelegonboeacaaa
open Go Go.Sx
set_option linter.unusedVariables false
set_option linter.unusedSimpArgs false
theorem inc_get {v:V} {t j:Int} (ht:0≤t∧t < 65) (hj:0≤j) (hb:0≤v.get t∧v.get t≤1000000):(inc v t).get j = if j = t then v.get t+1 else v.get j:=by
 unfold inc
 rw [get_set _ _ _ _ (by omega) hj,wrap_id (by omega) (by omega)]
def stp (t:List GEvent) (p:List Int) (i:Nat):A:=afterA p (a0 p.length) (t.take i)
def stm (t:List GEvent) (p:List Int) (i:Nat):V:=(seeA p (stp t p i) (t.getD i default)).1
section
variable {t:List GEvent} {p:List Int} (h:TrOk t p)
include h
theorem ev_at {i:Nat} (hi:i < t.length):EvOk p.length (t.getD i default):=by
 rw [List.getD_eq_getElem?_getD,List.getElem?_eq_getElem hi]; exact h.ev i hi
omit h in
theorem stp_succ {i:Nat} (hi:i < t.length):stp t p (i+1) = (seeA p (stp t p i) (t.getD i default)).2:=by
 unfold stp
 rw [afterA_take _ _ _ hi,List.getD_eq_getElem?_getD,List.getElem?_eq_getElem hi]; rfl
theorem wf_stp {i:Nat} (hi:i≤t.length):WfA p i (stp t p i):=wf_at h i hi
omit h in
theorem stA_get {i:Nat} (hi:i < t.length):(stA p (a0 p.length) t)[i]'(by rw [stA_len]; exact hi) = stm t p i:=by
 have h1:=stA_take p (a0 p.length) t hi
 have h2:stA p (a0 p.length) t = stA p (a0 p.length) (t.take (i+1))++stA p (afterA p (a0 p.length) (t.take (i+1))) (t.drop (i+1)):=by
  have gen:∀ (l r:List GEvent) (a:A),stA p a (l++r) = stA p a l++stA p (afterA p a l) r:=by
   intro l
   induction l with
   | nil=>intro r a; rfl
   | cons e l ih=>intro r a; rw [List.cons_append,stA,ih,stA,List.cons_append]; rfl
  rw [← gen,List.take_append_drop]
 have h3:(stA p (a0 p.length) t)[i]? = some (stm t p i):=by
  rw [h2,h1,List.append_assoc,List.getElem?_append_right (by rw [stA_len,List.length_take]; omega)]
  rw [stA_len,List.length_take,show i - min i t.length = 0 by omega]
  simp only [List.cons_append,List.nil_append,List.getElem?_cons_zero]
  unfold stm stp
  rw [List.getD_eq_getElem?_getD,List.getElem?_eq_getElem hi]; rfl
 rw [List.getElem?_eq_getElem (by rw [stA_len]; exact hi)] at h3
 exact Option.some.inj h3
theorem task_at {i:Nat} (hi:i < t.length):0≤(t.getD i default).Task∧(t.getD i default).Task < 65:=by have:=(ev_at h hi).task; omega
def Bd (n:Int) (v:V):Prop:=∀ j:Int,0≤j→j < 65→0≤v.get j∧v.get j≤n
omit h in
theorem Bd.max {n:Int} {a b:V} (ha:Bd n a) (hb:Bd n b):Bd n (vmax a b):=fun j h0 h1=>by
 have:=ha j h0 h1; have:=hb j h0 h1
 rw [vmax_get _ _ _ h0 (by omega)]; omega
theorem bd_at:∀ i,i≤t.length→∀ v,InA (stp t p i) v→Bd i v
 | 0,_,v,hv=>by
  have hd:∀ j,(default:V).get j = 0:=fun j=>get_default j
  have:v = default:=by
   unfold stp at hv
   rw [List.take_zero] at hv
   rcases hv with ⟨x,hv⟩ | ⟨q,hq,hv⟩ | ⟨x,hv⟩ | ⟨x,hv⟩
   ·exact hv
   ·have hq:q = default:=List.eq_of_mem_replicate hq
    subst hq
    rcases hv with hv | hv | hv
    ·cases hv
    ·cases hv
    ·exact hv
   ·rcases hv with hv | hv <;> exact hv
   ·exact hv
  subst this
  exact fun j _ _=>by rw [hd]; omega
 | i+1,hi,v,hv=>by
  have hi':i < t.length:=by omega
  have ih:=bd_at i (by omega)
  have hn:=h.n
  rw [stp_succ hi'] at hv
  have up:∀ w,InA (stp t p i) w→Bd ((i+1:Nat):Int) w:=fun w hw j h0 h1=>by have:=ih w hw j h0 h1; omega
  have ht:=task_at h hi'
  have hT:=ih _ (inT (stp t p i) (t.getD i default).Task)
  have hs0:Bd ((i+1:Nat):Int) (s0A (stp t p i) (t.getD i default)):=fun j h0 h1=>by
   unfold s0A
   have:=hT _ ht.1 ht.2
   rw [inc_get ht h0 ⟨this.1,by omega⟩]
   split
   ·omega
   ·have:=hT j h0 h1; omega
  have hS:Bd ((i+1:Nat):Int) (seeA p (stp t p i) (t.getD i default)).1:=by
   rcases stamp_cases (wf_stp h (i:=i) (by omega)) (ev_at h hi') with e | ⟨w,hw,e⟩
   ·rw [e]; exact hs0
   ·rw [e]; exact hs0.max (up w hw)
  rcases in_after (wf_stp h (i:=i) (by omega)) (ev_at h hi') hv with h1 | h1 | ⟨w,hw,h1⟩
  ·exact up v h1
  ·rw [h1]; exact hS
  ·rw [h1]; exact (up w hw).max hS
theorem s0_own {i:Nat} (hi:i < t.length) (j:Int) (hj:0≤j):(s0A (stp t p i) (t.getD i default)).get j = if j = (t.getD i default).Task then ((stp t p i).T (t.getD i default).Task).get j+1 else ((stp t p i).T (t.getD i default).Task).get j:=by
 have ht:=task_at h hi
 have hn:=h.n
 have:=bd_at h i (by omega) _ (inT (stp t p i) (t.getD i default).Task) _ ht.1 ht.2
 unfold s0A
 rw [inc_get ht hj ⟨this.1,by omega⟩]
 split
 ·rename_i e; rw [e]
 ·rfl
theorem T_s0 {i:Nat} (hi:i < t.length):vle ((stp t p i).T (t.getD i default).Task) (s0A (stp t p i) (t.getD i default)):=fun j h0 h1=>by
 rw [s0_own h hi j h0]; split <;> omega
theorem s0_S {i:Nat} (hi:i < t.length):vle (s0A (stp t p i) (t.getD i default)) (stm t p i):=s0_le (wf_stp h (by omega)) (ev_at h hi)
theorem T_mono1 {i:Nat} (hi:i < t.length) (x:Int):vle ((stp t p i).T x) ((stp t p (i+1)).T x):=by
 rw [stp_succ hi]
 by_cases hx:x = (t.getD i default).Task
 ·subst hx; rw [T_task]; exact vle_trans (T_s0 h hi) (s0_S h hi)
 ·rcases T_other (caps:=p) (a:=stp t p i) hx with e | e
  ·rw [e]; exact vle_refl _
  ·rw [e]; exact vle_l _ _
theorem T_mono {i k:Nat} (hik:i≤k) (hk:k≤t.length) (x:Int):vle ((stp t p i).T x) ((stp t p k).T x):=by
 obtain ⟨d,rfl⟩:=Nat.exists_eq_add_of_le hik
 induction d with
 | zero=>exact vle_refl _
 | succ d ih=>exact vle_trans (ih (by omega) (by omega)) (T_mono1 h (i:=i+d) (by omega) x)
omit h in
theorem T_S {i:Nat} (hi:i < t.length):(stp t p (i+1)).T (t.getD i default).Task = stm t p i:=by rw [stp_succ hi,T_task]; rfl
theorem own_at:∀ i,i≤t.length→∀ v,InA (stp t p i) v→∀ x:Int,0≤x→x < 65→v.get x≤((stp t p i).T x).get x
 | 0,_,v,hv,x,h0,h1=>by
  have:=bd_at h 0 (Nat.zero_le _) v hv x h0 h1
  have:=bd_at h 0 (Nat.zero_le _) _ (inT (stp t p 0) x) x h0 h1
  omega
 | i+1,hi,v,hv,x,h0,h1=>by
  have hi':i < t.length:=by omega
  have ih:=own_at i (by omega)
  have hm:=T_mono1 h hi' x x h0 h1
  have hS:(stm t p i).get x≤((stp t p (i+1)).T x).get x:=by
   by_cases hx:x = (t.getD i default).Task
   ·subst hx; rw [T_S hi']; exact Int.le_refl _
   ·have e0:=s0_own h hi' x h0
    rw [if_neg hx] at e0
    have a1:=ih _ (inT _ (t.getD i default).Task) x h0 h1
    unfold stm
    rcases stamp_cases (wf_stp h (i:=i) (by omega)) (ev_at h hi') with e | ⟨w,hw,e⟩
    ·rw [e,e0]; omega
    ·have a2:=ih w hw x h0 h1
     rw [e,vmax_get _ _ _ h0 (by omega),e0]; omega
  rw [stp_succ hi'] at hv
  rcases in_after (wf_stp h (i:=i) (by omega)) (ev_at h hi') hv with e | e | ⟨w,hw,e⟩
  ·have:=ih v e x h0 h1; omega
  ·rw [e]; exact hS
  ·rw [e,vmax_get _ _ _ h0 (by omega)]
   have:=ih w hw x h0 h1
   have h9:(seeA p (stp t p i) (t.getD i default)).1 = stm t p i:=rfl
   rw [h9]; omega
theorem S_own {i:Nat} (hi:i < t.length):(stm t p i).get (t.getD i default).Task = ((stp t p i).T (t.getD i default).Task).get (t.getD i default).Task+1:=by
 have ht:=task_at h hi
 have e0:=s0_own h hi _ ht.1
 rw [if_pos rfl] at e0
 unfold stm
 rcases stamp_cases (wf_stp h (i:=i) (by omega)) (ev_at h hi) with e | ⟨w,hw,e⟩
 ·rw [e,e0]
 ·have:=own_at h i (by omega) w hw _ ht.1 ht.2
  rw [e,vmax_get _ _ _ ht.1 (by omega),e0]; omega
theorem fund {j:Nat} (hj:j < t.length):∀ i,j < i→i≤t.length→∀ v,InA (stp t p i) v→(stm t p j).get (t.getD j default).Task≤v.get (t.getD j default).Task→vle (stm t p j) v
 | 0,hji,_,v,hv,hle=>absurd hji (by omega)
 | i+1,hji,hi,v,hv,hle=>by
  have hi':i < t.length:=by omega
  have htj:=task_at h hj
  rw [stp_succ hi'] at hv
  by_cases hij:i = j
  ·subst hij
   rcases in_after (wf_stp h (i:=i) (by omega)) (ev_at h hi') hv with e | e | ⟨w,hw,e⟩
   ·have a1:=own_at h i (by omega) v e _ htj.1 htj.2
    have a2:=S_own h hi'
    omega
   ·rw [e]; exact vle_refl _
   ·rw [e]; exact vle_r _ _
  ·have ih:=fund hj i (by omega) (by omega)
   have hTj:vle (stm t p j) ((stp t p i).T (t.getD j default).Task):=by
    rw [← T_S hj]; exact T_mono h (show j+1≤i by omega) (by omega) _
   have hs0:(stm t p j).get (t.getD j default).Task≤(s0A (stp t p i) (t.getD i default)).get (t.getD j default).Task→vle (stm t p j) (s0A (stp t p i) (t.getD i default)):=fun hh=>by
    refine vle_trans ?_ (T_s0 h hi')
    by_cases hx:(t.getD j default).Task = (t.getD i default).Task
    ·rw [← hx]; exact hTj
    ·rw [s0_own h hi' _ htj.1,if_neg hx] at hh
     exact ih _ (inT _ _) hh
   have hS:(stm t p j).get (t.getD j default).Task≤(stm t p i).get (t.getD j default).Task→vle (stm t p j) (stm t p i):=fun hh=>by
    unfold stm at hh ⊢
    rcases stamp_cases (wf_stp h (i:=i) (by omega)) (ev_at h hi') with e | ⟨w,hw,e⟩
    ·rw [e] at hh ⊢; exact hs0 hh
    ·rw [e] at hh ⊢
     rw [vmax_get _ _ _ htj.1 (by omega)] at hh
     by_cases h1:(stm t p j).get (t.getD j default).Task≤(s0A (stp t p i) (t.getD i default)).get (t.getD j default).Task
     ·exact vle_trans (hs0 h1) (vle_l _ _)
     ·refine vle_trans (ih w hw ?_) (vle_r _ _)
      show (stm t p j).get _≤_
      have hh':(stm t p j).get (t.getD j default).Task≤max ((s0A (stp t p i) (t.getD i default)).get (t.getD j default).Task) (w.get (t.getD j default).Task):=hh
      omega
   rcases in_after (wf_stp h (i:=i) (by omega)) (ev_at h hi') hv with e | e | ⟨w,hw,e⟩
   ·exact ih v e hle
   ·rw [e] at hle ⊢; exact hS hle
   ·rw [e] at hle ⊢
    rw [vmax_get _ _ _ htj.1 (by omega)] at hle
    by_cases h1:(stm t p j).get (t.getD j default).Task≤w.get (t.getD j default).Task
    ·exact vle_trans (ih w hw h1) (vle_l _ _)
    ·refine vle_trans (hS ?_) (vle_r _ _)
     have h9:(seeA p (stp t p i) (t.getD i default)).1 = stm t p i:=rfl
     rw [h9] at hle; omega
omit h in
theorem S_in {j:Nat} (hj:j < t.length):InA (stp t p (j+1)) (stm t p j):=by rw [← T_S hj]; exact inT _ _
theorem S_trans {j i:Nat} (hji:j < i) (hi:i < t.length) (hle:(stm t p j).get (t.getD j default).Task≤(stm t p i).get (t.getD j default).Task):vle (stm t p j) (stm t p i) :=
 fund h (by omega) (i+1) (by omega) (by omega) _ (S_in hi) hle
theorem S_same {j i:Nat} (hji:j < i) (hi:i < t.length) (hx:(t.getD j default).Task = (t.getD i default).Task):vle (stm t p j) (stm t p i):=by
 refine vle_trans ?_ (s0_S h hi)
 refine vle_trans ?_ (T_s0 h hi)
 rw [← hx,← T_S (show j < t.length by omega)]
 exact T_mono h (show j+1≤i by omega) (by omega) _
theorem S_go {j i:Nat} (hji:j < i) (hi:i < t.length) (ho:(t.getD j default).Op = 11) (hx:(t.getD j default).Value = (t.getD i default).Task):vle (stm t p j) (stm t p i):=by
 refine vle_trans ?_ (s0_S h hi)
 refine vle_trans ?_ (T_s0 h hi)
 have h1:=T_go (caps:=p) (a:=stp t p j) (e:=t.getD j default) ho
 rw [← stp_succ (show j < t.length by omega),hx] at h1
 exact vle_trans h1 (T_mono h (show j+1≤i by omega) (by omega) _)
theorem S_less {j i:Nat} (hji:j < i) (hi:i < t.length):(stm t p j).get (t.getD i default).Task < (stm t p i).get (t.getD i default).Task:=by
 have ht:=task_at h hi
 have h1:=own_at h (j+1) (by omega) _ (S_in (show j < t.length by omega)) _ ht.1 ht.2
 have h2:=T_mono h (show j+1≤i by omega) (by omega) (t.getD i default).Task _ ht.1 ht.2
 have h3:=S_own h hi
 omega
end
def bef (t:List GEvent) (p:List Int) (i k:Nat):Bool:=decide (i < k) && decide ((stm t p i).get (t.getD i default).Task≤(stm t p k).get (t.getD i default).Task)
end Go.Proofs.Ytelegonboeacaaa
end

section
namespace Go.Proofs.Ytelegonboeacaaa
open Go Go.Sx
set_option linter.unusedVariables false
set_option linter.unusedSimpArgs false
theorem d_at {t:List GEvent} {i:Nat} (hi:i < t.length):t.getD i default = t[i]:=by rw [List.getD_eq_getElem?_getD,List.getElem?_eq_getElem hi]; rfl
theorem bef_same {t:List GEvent} {p:List Int} (h:TrOk t p) {i k:Nat} (hik:i < k) (hk:k < t.length) (e:(t[i]'(by omega)).Task = t[k].Task∨((t[i]'(by omega)).Op = 11∧(t[i]'(by omega)).Value = t[k].Task)):bef t p i k = true:=by
 have ei:=d_at (t:=t) (i:=i) (by omega)
 have ek:=d_at hk
 have ht:=task_at h (i:=i) (by omega)
 unfold bef
 rw [decide_eq_true hik,Bool.true_and]
 refine decide_eq_true ?_
 rcases e with e | ⟨e1,e2⟩
 ·exact S_same h hik hk (by rw [ei,ek]; exact e) _ ht.1 ht.2
 ·exact S_go h hik hk (by rw [ei]; exact e1) (by rw [ei,ek]; exact e2) _ ht.1 ht.2
end Go.Proofs.Ytelegonboeacaaa
end

section
namespace Go.Proofs.Ytelegonboeacaaa
open Go Go.Sx
set_option linter.unusedVariables false
set_option linter.unusedSimpArgs false
theorem bef_iff {t:List GEvent} {p:List Int} {i k:Nat}:bef t p i k = true↔i < k∧(stm t p i).get (t.getD i default).Task≤(stm t p k).get (t.getD i default).Task:=by
 unfold bef; simp
theorem bef_trans {t:List GEvent} {p:List Int} (h:TrOk t p) {i j k:Nat} (hk:k < t.length) (h1:bef t p i j = true) (h2:bef t p j k = true):bef t p i k = true:=by
 rw [bef_iff] at *
 have ht:=task_at h (show i < t.length by omega)
 exact ⟨by omega,Int.le_trans h1.2 (S_trans h h2.1 hk h2.2 _ ht.1 ht.2)⟩
end Go.Proofs.Ytelegonboeacaaa
end

section
namespace Go.Proofs.Ytelegonboeacaaa
open Go Go.Sx
set_option linter.unusedVariables false
set_option linter.unusedSimpArgs false
set_option linter.unusedSectionVars false
theorem P_after (caps:List Int) (a:A) (e:GEvent):(seeA caps a e).2.P =
  if e.Op = 15 then (if (ixD a.P e.Obj).sends.length≤(ixD a.P e.Obj).gets.length then a.P else setP a.P e.Obj { ixD a.P e.Obj with gets:=(ixD a.P e.Obj).gets++[(seeA caps a e).1] })
  else if e.Op = 14 then setP a.P e.Obj { ixD a.P e.Obj with sends:=(ixD a.P e.Obj).sends++[(seeA caps a e).1],late:=(ixD a.P e.Obj).late++[e.Task] }
  else if e.Op = 16 then setP a.P e.Obj { ixD a.P e.Obj with shut:=(seeA caps a e).1,closed:=true } else a.P:=by
 generalize hr:seeA caps a e = r
 unfold seeA at hr
 split at hr
 ·rename_i h15
  rw [if_pos h15]
  simp only at hr
  split at hr
  ·rename_i hl; rw [if_pos hl]; subst hr; rfl
  ·rename_i hl
   rw [if_neg hl]
   split at hr <;> (subst hr; rfl)
 rename_i h15
 rw [if_neg h15]
 split at hr
 ·rename_i h14; rw [if_pos h14]; subst hr; rfl
 rename_i h14
 rw [if_neg h14]
 split at hr
 ·rename_i h16; rw [if_pos h16]; subst hr; rfl
 rename_i h16
 rw [if_neg h16]
 split at hr
 ·subst hr; rfl
 split at hr
 ·subst hr; rfl
 split at hr
 ·subst hr; rfl
 split at hr
 ·subst hr; rfl
 split at hr <;> (subst hr; rfl)
theorem L_after (caps:List Int) (a:A) (e:GEvent):(seeA caps a e).2.L =
  if e.Op = 18 then upd1 a.L e.Obj ⟨if e.Value = 1 then vmax (a.L e.Obj).writers (seeA caps a e).1 else (a.L e.Obj).writers,vmax (a.L e.Obj).all (seeA caps a e).1⟩ else a.L:=by
 generalize hr:seeA caps a e = r
 unfold seeA at hr
 split at hr
 ·rename_i ho
  rw [if_neg (show ¬ e.Op = 18 by omega)]
  simp only at hr
  split at hr
  ·subst hr; rfl
  ·split at hr <;> (subst hr; rfl)
 split at hr
 ·rename_i ho; rw [if_neg (show ¬ e.Op = 18 by omega)]; subst hr; rfl
 split at hr
 ·rename_i ho; rw [if_neg (show ¬ e.Op = 18 by omega)]; subst hr; rfl
 split at hr
 ·rename_i ho; rw [if_neg (show ¬ e.Op = 18 by omega)]; subst hr; rfl
 split at hr
 ·rename_i ho; rw [if_pos ho]; subst hr; rfl
 rename_i ho
 rw [if_neg ho]
 split at hr
 ·subst hr; rfl
 split at hr
 ·subst hr; rfl
 split at hr <;> (subst hr; rfl)
theorem R_after (caps:List Int) (a:A) (e:GEvent):(seeA caps a e).2.R = if e.Op = 19 then upd1 a.R e.Obj (vmax (a.R e.Obj) (seeA caps a e).1) else a.R:=by
 generalize hr:seeA caps a e = r
 unfold seeA at hr
 split at hr
 ·rename_i ho
  rw [if_neg (show ¬ e.Op = 19 by omega)]
  simp only at hr
  split at hr
  ·subst hr; rfl
  ·split at hr <;> (subst hr; rfl)
 split at hr
 ·rename_i ho; rw [if_neg (show ¬ e.Op = 19 by omega)]; subst hr; rfl
 split at hr
 ·rename_i ho; rw [if_neg (show ¬ e.Op = 19 by omega)]; subst hr; rfl
 split at hr
 ·rename_i ho; rw [if_neg (show ¬ e.Op = 19 by omega)]; subst hr; rfl
 split at hr
 ·rename_i ho; rw [if_neg (show ¬ e.Op = 19 by omega)]; subst hr; rfl
 split at hr
 ·rename_i ho; rw [if_pos ho]; subst hr; rfl
 rename_i ho
 rw [if_neg ho]
 split at hr
 ·subst hr; rfl
 split at hr <;> (subst hr; rfl)
def TellsA (caps:List Int) (a:A) (e:GEvent) (x:Int):Prop :=
 (e.Op = 11∧e.Value = x)∨(e.Op = 15∧¬ (ixD a.P e.Obj).sends.length≤(ixD a.P e.Obj).gets.length∧ix caps e.Obj = 0∧ix (ixD a.P e.Obj).late (((ixD a.P e.Obj).gets.length:Nat):Int) = x)
theorem T_after {caps:List Int} {a:A} {e:GEvent} {x:Int} (hx:x≠e.Task) :
  ((seeA caps a e).2.T x = a.T x∧¬ TellsA caps a e x)∨((seeA caps a e).2.T x = vmax (a.T x) (seeA caps a e).1∧TellsA caps a e x):=by
 have hu:∀ s:V,upd1 a.T e.Task s x = a.T x:=fun s=>upd1_ne _ _ hx
 unfold TellsA
 unfold seeA
 simp only
 split
 ·rename_i ho
  split
  ·rename_i hl
   refine .inl ⟨hu _,?_⟩
   rintro (⟨h1,_⟩ | ⟨_,h1,_⟩)
   ·omega
   ·exact h1 hl
  ·rename_i hl
   split
   ·rename_i hq
    show (upd1 _ _ _ x = _∧_)∨(upd1 _ _ _ x = _∧_)
    by_cases hl':x = ix (ixD a.P e.Obj).late (((ixD a.P e.Obj).gets.length:Nat):Int)
    ·rw [← hl',upd1_same,hu]; exact .inr ⟨rfl,.inr ⟨ho,hl,hq.1,rfl⟩⟩
    ·rw [upd1_ne _ _ hl',hu]; refine .inl ⟨rfl,?_⟩
     rintro (⟨h1,_⟩ | ⟨_,_,_,h1⟩)
     ·omega
     ·exact hl' h1.symm
   ·rename_i hq
    refine .inl ⟨hu _,?_⟩
    rintro (⟨h1,_⟩ | ⟨_,_,h2,h1⟩)
    ·omega
    ·exact hq ⟨h2,fun e'=>hx (by rw [← h1,e'])⟩
 have n15:∀ {P:Prop},¬ e.Op = 15→¬ e.Op = 11→¬ ((e.Op = 11∧e.Value = x)∨(e.Op = 15∧P)):=fun h1 h2=>by
  rintro (⟨h3,_⟩ | ⟨h3,_⟩)
  ·exact h2 h3
  ·exact h1 h3
 split
 ·exact .inl ⟨hu _,n15 (by omega) (by omega)⟩
 split
 ·exact .inl ⟨hu _,n15 (by omega) (by omega)⟩
 split
 ·exact .inl ⟨hu _,n15 (by omega) (by omega)⟩
 split
 ·exact .inl ⟨hu _,n15 (by omega) (by omega)⟩
 split
 ·exact .inl ⟨hu _,n15 (by omega) (by omega)⟩
 split
 ·exact .inl ⟨hu _,n15 (by omega) (by omega)⟩
 split
 ·rename_i ho
  show (upd1 _ _ _ x = _∧_)∨(upd1 _ _ _ x = _∧_)
  by_cases hl':x = e.Value
  ·rw [← hl',upd1_same,hu]; exact .inr ⟨rfl,.inl ⟨ho,rfl⟩⟩
  ·rw [upd1_ne _ _ hl',hu]; refine .inl ⟨rfl,?_⟩
   rintro (⟨_,h1⟩ | ⟨h1,_⟩)
   ·exact hl' h1.symm
   ·omega
 ·exact .inl ⟨hu _,n15 (by omega) (by omega)⟩
theorem S_after (caps:List Int) (a:A) (e:GEvent):(seeA caps a e).1 =
  if e.Op = 15 then
   (if (ixD a.P e.Obj).sends.length≤(ixD a.P e.Obj).gets.length then (if (ixD a.P e.Obj).closed = true then vmax (s0A a e) (ixD a.P e.Obj).shut else s0A a e) else vmax (s0A a e) (ix (ixD a.P e.Obj).sends (((ixD a.P e.Obj).gets.length:Nat):Int)))
  else if e.Op = 14 then (if 0 < ix caps e.Obj∧0≤IntKind.i64.wrap ((((ixD a.P e.Obj).sends.length:Nat):Int) - ix caps e.Obj)∧IntKind.i64.wrap ((((ixD a.P e.Obj).sends.length:Nat):Int) - ix caps e.Obj) < (((ixD a.P e.Obj).gets.length:Nat):Int) then vmax (s0A a e) (ix (ixD a.P e.Obj).gets (IntKind.i64.wrap ((((ixD a.P e.Obj).sends.length:Nat):Int) - ix caps e.Obj))) else s0A a e)
  else if e.Op = 17 then vmax (s0A a e) (if e.Value = 1 then (a.L e.Obj).all else (a.L e.Obj).writers)
  else if e.Op = 20 then vmax (s0A a e) (a.R e.Obj) else s0A a e:=by
 unfold seeA s0A
 simp only
 split
 ·split
  ·rfl
  ·split <;> rfl
 split
 ·rfl
 split
 ·rename_i ho; rw [if_neg (show ¬ e.Op = 17 by omega),if_neg (show ¬ e.Op = 20 by omega)]
 split
 ·rfl
 split
 ·rename_i ho; rw [if_neg (show ¬ e.Op = 20 by omega)]
 split
 ·rename_i ho; rw [if_neg (show ¬ e.Op = 20 by omega)]
 split
 ·rfl
 split <;> rfl
theorem ixD_setP {P:List pipe} {o o':Int} (h:0≤o') (h':0≤o∧o < (P.length:Int)) (y:pipe):ixD (setP P o' y) o = if o = o' then y else ixD P o:=by
 by_cases e:o = o'
 ·subst e; rw [if_pos rfl]; exact ixD_set h' y
 ·rw [if_neg e,ixD_pos h'.1,ixD_pos h'.1]
  unfold ix setP
  rw [List.getD_eq_getElem?_getD,List.getD_eq_getElem?_getD,List.getElem?_set_ne (by omega)]
structure PI where
 s:List Nat
 g:List Nat
 c:Option Nat
def pi (t:List GEvent) (o:Int):Nat→PI
 | 0=>⟨[],[],none⟩
 | i+1=>if (t.getD i default).Obj = o then
   (if (t.getD i default).Op = 15 then (if (pi t o i).s.length≤(pi t o i).g.length then pi t o i else ⟨(pi t o i).s,(pi t o i).g++[i],(pi t o i).c⟩)
    else if (t.getD i default).Op = 14 then ⟨(pi t o i).s++[i],(pi t o i).g,(pi t o i).c⟩
    else if (t.getD i default).Op = 16 then ⟨(pi t o i).s,(pi t o i).g,some i⟩ else pi t o i)
   else pi t o i
theorem snoc_at {α:Type} {l:List α} {x y:α} {k:Nat} (h:(l++[x])[k]? = some y):l[k]? = some y∨(k = l.length∧y = x):=by
 by_cases hk:k < l.length
 ·rw [List.getElem?_append_left hk] at h; exact .inl h
 ·rw [List.getElem?_append_right (by omega)] at h
  by_cases h0:k - l.length = 0
  ·rw [h0] at h; exact .inr ⟨by omega,by simpa using h.symm⟩
  ·rw [List.getElem?_eq_none (by simp; omega)] at h; cases h
theorem snoc_old {α:Type} {l:List α} {x y:α} {k:Nat} (h:l[k]? = some y):(l++[x])[k]? = some y:=by
 rw [List.getElem?_append_left (by have:=List.getElem?_eq_some_iff.1 h; exact this.1)]; exact h
theorem pi_s {t:List GEvent} {o:Int}:∀ i k a,(pi t o i).s[k]? = some a→a < i∧(t.getD a default).Op = 14∧(t.getD a default).Obj = o∧(pi t o a).s.length = k
 | 0,k,a,h=>by simp [pi] at h
 | i+1,k,a,h=>by
  have ih:=fun hh=>pi_s (t:=t) (o:=o) i k a hh
  have up:=fun hh=>let r:=ih hh; (⟨by omega,r.2⟩:a < i+1∧_)
  unfold pi at h
  split at h
  ·rename_i hob
   split at h
   ·split at h
    ·exact up h
    ·exact up h
   split at h
   ·rename_i hop
    rcases snoc_at h with h | ⟨h1,h2⟩
    ·exact up h
    ·subst h2; exact ⟨by omega,hop,hob,h1.symm⟩
   split at h <;> exact up h
  ·exact up h
theorem pi_g {t:List GEvent} {o:Int}:∀ i k a,(pi t o i).g[k]? = some a→a < i∧(t.getD a default).Op = 15∧(t.getD a default).Obj = o∧(pi t o a).g.length = k∧¬ (pi t o a).s.length≤(pi t o a).g.length
 | 0,k,a,h=>by simp [pi] at h
 | i+1,k,a,h=>by
  have ih:=fun hh=>pi_g (t:=t) (o:=o) i k a hh
  have up:=fun hh=>let r:=ih hh; (⟨by omega,r.2⟩:a < i+1∧_)
  unfold pi at h
  split at h
  ·rename_i hob
   split at h
   ·rename_i hop
    split at h
    ·exact up h
    ·rename_i hl
     rcases snoc_at h with h | ⟨h1,h2⟩
     ·exact up h
     ·subst h2; exact ⟨by omega,hop,hob,h1.symm,hl⟩
   split at h
   ·exact up h
   split at h <;> exact up h
  ·exact up h
theorem pi_c {t:List GEvent} {o:Int}:∀ i a,(pi t o i).c = some a→a < i
 | 0,a,h=>by simp [pi] at h
 | i+1,a,h=>by
  have up:=fun hh=>Nat.lt_succ_of_lt (pi_c (t:=t) (o:=o) i a hh)
  unfold pi at h
  split at h
  ·split at h
   ·split at h <;> exact up h
   split at h
   ·exact up h
   split at h
   ·cases h; exact Nat.lt_succ_self _
   ·exact up h
  ·exact up h
theorem pi_pre1 {t:List GEvent} {o:Int} (i k a:Nat):((pi t o i).s[k]? = some a→(pi t o (i+1)).s[k]? = some a)∧((pi t o i).g[k]? = some a→(pi t o (i+1)).g[k]? = some a):=by
 rw [pi]
 split
 ·split
  ·split
   ·exact ⟨id,id⟩
   ·exact ⟨id,snoc_old⟩
  split
  ·exact ⟨snoc_old,id⟩
  split <;> exact ⟨id,id⟩
 ·exact ⟨id,id⟩
theorem pi_pre {t:List GEvent} {o:Int} {i j:Nat} (hij:i≤j) (k a:Nat):((pi t o i).s[k]? = some a→(pi t o j).s[k]? = some a)∧((pi t o i).g[k]? = some a→(pi t o j).g[k]? = some a):=by
 obtain ⟨d,rfl⟩:=Nat.exists_eq_add_of_le hij
 induction d with
 | zero=>exact ⟨id,id⟩
 | succ d ih=>exact ⟨fun h=>(pi_pre1 _ _ _).1 ((ih (by omega)).1 h),fun h=>(pi_pre1 _ _ _).2 ((ih (by omega)).2 h)⟩
theorem pi_s_new {t:List GEvent} {a:Nat} (h:(t.getD a default).Op = 14):(pi t (t.getD a default).Obj (a+1)).s[(pi t (t.getD a default).Obj a).s.length]? = some a:=by
 rw [pi,if_pos rfl,if_neg (by omega),if_pos h]; simp
theorem pi_g_new {t:List GEvent} {a:Nat} (h:(t.getD a default).Op = 15) (hl:¬ (pi t (t.getD a default).Obj a).s.length≤(pi t (t.getD a default).Obj a).g.length):(pi t (t.getD a default).Obj (a+1)).g[(pi t (t.getD a default).Obj a).g.length]? = some a:=by
 rw [pi,if_pos rfl,if_pos h,if_neg hl]; simp
theorem pi_le {t:List GEvent} {o:Int}:∀ i,(pi t o i).g.length≤(pi t o i).s.length
 | 0=>Nat.le_refl _
 | i+1=>by
  have ih:=pi_le (t:=t) (o:=o) i
  rw [pi]
  split
  ·split
   ·split
    ·exact ih
    ·rename_i hl; simp; omega
   split
   ·simp; omega
   split <;> exact ih
  ·exact ih
def pipeOf (t:List GEvent) (p:List Int) (q:PI):pipe :=
 ⟨q.s.map (stm t p),q.g.map (stm t p),q.s.map fun j=>(t.getD j default).Task,(match q.c with | none=>default | some j=>stm t p j),q.c.isSome⟩
section
variable {t:List GEvent} {p:List Int} (h:TrOk t p)
include h
theorem pipes_eq:∀ i,i≤t.length→∀ o:Int,0≤o∧o < (p.length:Int)→ixD (stp t p i).P o = pipeOf t p (pi t o i)
 | 0,_,o,ho=>by
  unfold stp
  rw [List.take_zero]
  show ixD (List.replicate p.length default) o = _
  rw [ixD_pos ho.1]; unfold ix
  rw [List.getD_eq_getElem?_getD,List.getElem?_replicate,if_pos (by omega)]; rfl
 | i+1,hi,o,ho=>by
  have hi':i < t.length:=by omega
  have ih:=pipes_eq i (by omega) o ho
  have hl:=(wf_stp h (i:=i) (by omega)).len
  have he:=ev_at h hi'
  have hob:=he.obj
  rw [stp_succ hi',P_after,pi]
  have hS:(seeA p (stp t p i) (t.getD i default)).1 = stm t p i:=rfl
  rw [hS]
  by_cases hoo:(t.getD i default).Obj = o
  ·rw [if_pos hoo,hoo,ih]
   split
   ·by_cases hle:(pi t o i).s.length≤(pi t o i).g.length
    ·rw [if_pos (show (pipeOf t p (pi t o i)).sends.length≤(pipeOf t p (pi t o i)).gets.length by simpa [pipeOf] using hle),if_pos hle]; exact ih
    ·rw [if_neg (show ¬ (pipeOf t p (pi t o i)).sends.length≤(pipeOf t p (pi t o i)).gets.length by simpa [pipeOf] using hle),if_neg hle,ixD_setP ho.1 (by omega),if_pos rfl]; simp [pipeOf]
   split
   ·rw [ixD_setP ho.1 (by omega),if_pos rfl]; simp [pipeOf]
   split
   ·rw [ixD_setP ho.1 (by omega),if_pos rfl]; simp [pipeOf]
   ·exact ih
  ·rw [if_neg hoo]
   have nn:∀ y,ixD (setP (stp t p i).P (t.getD i default).Obj y) o = pipeOf t p (pi t o i):=fun y=>by
    rw [ixD_setP hob.1 (by omega),if_neg (fun e=>hoo e.symm),ih]
   split
   ·split
    ·exact ih
    ·exact nn _
   split
   ·exact nn _
   split
   ·exact nn _
   ·exact ih
end
end Go.Proofs.Ytelegonboeacaaa
end

section
namespace Go.Proofs.Ytelegonboeacaaa
open Go Go.Sx
set_option linter.unusedVariables false
set_option linter.unusedSimpArgs false
set_option linter.unusedSectionVars false
def Nx (t:List GEvent) (x:Int) (i k:Nat):Prop:=i < k∧k < t.length∧(t.getD k default).Task = x∧∀ m,i < m→m < k→(t.getD m default).Task≠x
def EK (t:List GEvent) (b a:Nat):Prop:=b < a∧a < t.length∧(t.getD a default).Obj = (t.getD b default).Obj ∧
 (((t.getD b default).Op = 18∧(t.getD a default).Op = 17∧((t.getD b default).Value = 1∨(t.getD a default).Value = 1))∨((t.getD b default).Op = 19∧(t.getD a default).Op = 20))
def E1 (t:List GEvent) (b a:Nat):Prop:=Nx t (t.getD b default).Task b a∨((t.getD b default).Op = 11∧Nx t (t.getD b default).Value b a)∨EK t b a
def ES (t:List GEvent) (o:Int) (b a:Nat):Prop:=a < t.length∧(t.getD a default).Obj = o∧(t.getD a default).Op = 15∧(pi t o a).s.length≤(pi t o a).g.length∧(pi t o a).c = some b
def EP (t:List GEvent) (p:List Int) (o:Int) (k b a:Nat):Prop:=∃ x y,(pi t o t.length).s[k]? = some x∧(pi t o t.length).g[k]? = some y ∧
 ((b = x∧a = y)∨(ix p o = 0∧b = y∧Nx t (t.getD x default).Task y a)∨(ix p o≠0∧b = y∧(pi t o t.length).s[k+(ix p o).toNat]? = some a∧b < a))
def E2 (t:List GEvent) (p:List Int) (b a:Nat):Prop:=∃ o:Nat,o < p.length∧(ES t o b a∨∃ k,EP t p o k b a)
def E (t:List GEvent) (p:List Int) (b a:Nat):Prop:=E1 t b a∨E2 t p b a
def Le (t:List GEvent) (p:List Int) (b a:Nat):Prop:=b≤a∧(stm t p b).get (t.getD b default).Task≤(stm t p a).get (t.getD b default).Task
def Kn (t:List GEvent) (p:List Int) (v:V) (i:Nat) (S:Nat→Prop):Prop:=∀ c,c < i→(stm t p c).get (t.getD c default).Task≤v.get (t.getD c default).Task→∃ d,Le t p c d∧d < i∧S d
def To (t:List GEvent) (p:List Int) (x:Int) (i d:Nat):Prop:=∀ k,i≤k→k < t.length→(t.getD k default).Task = x→(∀ m,i≤m→m < k→(t.getD m default).Task≠x)→E t p d k
section
variable {t:List GEvent} {p:List Int} (h:TrOk t p)
include h
theorem own_no {i:Nat} (hi:i < t.length) {v:V} (hv:InA (stp t p i) v):v.get (t.getD i default).Task < (stm t p i).get (t.getD i default).Task:=by
 have ht:=task_at h hi
 have h1:=S_own h hi
 have h2:=own_at h i (by omega) v hv _ ht.1 ht.2
 omega
theorem Kn.keep {i:Nat} (hi:i < t.length) {v:V} {S S':Nat→Prop} (hk:Kn t p v i S) (hv:InA (stp t p i) v) (hS:∀ d,d < i→S d→S' d):Kn t p v (i+1) S':=fun c hc hle=>by
 by_cases e:c = i
 ·subst e; have:=own_no h hi hv; omega
 ·obtain ⟨d,h1,h2,h3⟩:=hk c (by omega) hle
  exact ⟨d,h1,by omega,hS d h2 h3⟩
theorem Kn.new {i:Nat} (hi:i < t.length) {S':Nat→Prop} (hS:S' i):Kn t p (stm t p i) (i+1) S':=fun c hc hle=>⟨i,⟨by omega,hle⟩,by omega,hS⟩
theorem Kn.max {i:Nat} (hi:i≤t.length) {v w:V} {S':Nat→Prop} (h1:Kn t p v i S') (h2:Kn t p w i S'):Kn t p (vmax v w) i S':=fun c hc hle=>by
 have ht:=task_at h (show c < t.length by omega)
 rw [vmax_get _ _ _ ht.1 (by omega)] at hle
 by_cases e:(stm t p c).get (t.getD c default).Task≤v.get (t.getD c default).Task
 ·exact h1 c hc e
 ·exact h2 c hc (by omega)
structure Knows (t:List GEvent) (p:List Int) (i:Nat):Prop where
 T:∀ x,Kn t p ((stp t p i).T x) i (To t p x i)
 W:∀ o,Kn t p ((stp t p i).L o).writers i fun d=>(t.getD d default).Op = 18∧(t.getD d default).Obj = o∧(t.getD d default).Value = 1
 L:∀ o,Kn t p ((stp t p i).L o).all i fun d=>(t.getD d default).Op = 18∧(t.getD d default).Obj = o
 R:∀ o,Kn t p ((stp t p i).R o) i fun d=>(t.getD d default).Op = 19∧(t.getD d default).Obj = o
omit h in
theorem To.own {i:Nat}:To t p (t.getD i default).Task (i+1) i:=fun k h1 h2 h3 h4=>.inl (.inl ⟨by omega,h2,h3,fun m g1 g2=>h4 m (by omega) g2⟩)
omit h in
theorem To.keep {x:Int} {i d:Nat} (hx:x≠(t.getD i default).Task) (hd:To t p x i d):To t p x (i+1) d:=fun k h1 h2 h3 h4=>hd k (by omega) h2 h3 fun m g1 g2=>by
 by_cases e:m = i
 ·subst e; exact fun e=>hx e.symm
 ·exact h4 m (by omega) g2
theorem pipe_len (o:Int) {i:Nat} (hi:i≤t.length) (ho:0≤o∧o < (p.length:Int)):(ixD (stp t p i).P o).sends.length = (pi t o i).s.length∧(ixD (stp t p i).P o).gets.length = (pi t o i).g.length:=by
 rw [pipes_eq h i hi o ho]; simp [pipeOf]
theorem late_at {o:Int} {i k:Nat} (hi:i≤t.length) (ho:0≤o∧o < (p.length:Int)) {x:Nat} (hx:(pi t o i).s[k]? = some x):ix (ixD (stp t p i).P o).late (k:Int) = (t.getD x default).Task∧ix (ixD (stp t p i).P o).sends (k:Int) = stm t p x:=by
 rw [pipes_eq h i hi o ho]
 unfold ix
 simp [pipeOf,List.getD_eq_getElem?_getD,hx]
theorem gets_at {o:Int} {i k:Nat} (hi:i≤t.length) (ho:0≤o∧o < (p.length:Int)) {x:Nat} (hx:(pi t o i).g[k]? = some x):ix (ixD (stp t p i).P o).gets (k:Int) = stm t p x:=by
 rw [pipes_eq h i hi o ho]
 unfold ix
 simp [pipeOf,List.getD_eq_getElem?_getD,hx]
omit h in
theorem to_nat {o:Int} (ho:0≤o∧o < (p.length:Int)):∃ n:Nat,o = n∧n < p.length:=⟨o.toNat,by omega,by omega⟩
theorem tells_to {i:Nat} (hi:i < t.length) {x:Int} (hx:TellsA p (stp t p i) (t.getD i default) x):To t p x (i+1) i:=fun k h1 h2 h3 h4=>by
 have nx:Nx t x i k:=⟨by omega,h2,h3,fun m g1 g2=>h4 m (by omega) g2⟩
 rcases hx with ⟨g1,g2⟩ | ⟨g1,g2,g3,g4⟩
 ·exact .inl (.inr (.inl ⟨g1,by rw [g2]; exact nx⟩))
 ·have he:=ev_at h hi
  have ho:0≤(t.getD i default).Obj∧(t.getD i default).Obj < (p.length:Int):=⟨he.obj.1,he.pipe (by omega)⟩
  have hl:=pipe_len h _ (show i≤t.length by omega) ho
  rw [hl.1,hl.2] at g2
  rw [hl.2] at g4
  have hs:(pi t (t.getD i default).Obj i).g.length < (pi t (t.getD i default).Obj i).s.length:=by omega
  have hsx:=List.getElem?_eq_getElem hs
  have h5:=late_at h (show i≤t.length by omega) ho hsx
  rw [h5.1] at g4
  have hg:=(pi_pre (t:=t) (show i+1≤t.length by omega) _ _).2 (pi_g_new g1 g2)
  have hs':=(pi_pre (t:=t) (show i≤t.length by omega) _ _).1 hsx
  obtain ⟨n,e1,e2⟩:=to_nat ho
  refine .inr ⟨n,e2,.inr ⟨_,_,_,(by rw [← e1]; exact hs'),(by rw [← e1]; exact hg),.inr (.inl ⟨by rw [← e1]; exact g3,rfl,by rw [g4]; exact nx⟩)⟩⟩
theorem knows_at:∀ i,i≤t.length→Knows t p i
 | 0,_=>⟨fun _ c hc=>absurd hc (by omega),fun _ c hc=>absurd hc (by omega),fun _ c hc=>absurd hc (by omega),fun _ c hc=>absurd hc (by omega)⟩
 | i+1,hi=>by
  have hi':i < t.length:=by omega
  have ih:=knows_at i (by omega)
  have hS:(seeA p (stp t p i) (t.getD i default)).1 = stm t p i:=rfl
  have iW:∀ o,InA (stp t p i) ((stp t p i).L o).writers:=fun o=>.inr (.inr (.inl ⟨o,.inl rfl⟩))
  have iL:∀ o,InA (stp t p i) ((stp t p i).L o).all:=fun o=>.inr (.inr (.inl ⟨o,.inr rfl⟩))
  have iR:∀ o,InA (stp t p i) ((stp t p i).R o):=fun o=>.inr (.inr (.inr ⟨o,rfl⟩))
  refine ⟨fun x=>?_,fun o=>?_,fun o=>?_,fun o=>?_⟩
  ·by_cases hx:x = (t.getD i default).Task
   ·rw [hx,T_S hi']
    exact Kn.new h hi' To.own
   ·rw [stp_succ hi']
    rcases T_after (caps:=p) (a:=stp t p i) hx with ⟨e,_⟩ | ⟨e,e2⟩
    ·rw [e]
     exact (ih.T x).keep h hi' (inT _ _) fun d _ hd=>hd.keep hx
    ·rw [e,hS]
     exact Kn.max h hi ((ih.T x).keep h hi' (inT _ _) fun d _ hd=>hd.keep hx) (Kn.new h hi' (tells_to h hi' e2))
  ·rw [stp_succ hi',L_after,hS]
   split
   ·rename_i ho
    rcases upd1_or (stp t p i).L (t.getD i default).Obj (⟨if (t.getD i default).Value = 1 then vmax ((stp t p i).L (t.getD i default).Obj).writers (stm t p i) else ((stp t p i).L (t.getD i default).Obj).writers,vmax ((stp t p i).L (t.getD i default).Obj).all (stm t p i)⟩:guard) o with e | e
    ·rw [e]; exact (ih.W o).keep h hi' (iW o) fun d _ hd=>hd
    ·by_cases hoo:o = (t.getD i default).Obj
     ·subst hoo
      rw [e]
      simp only
      split
      ·rename_i hv
       exact Kn.max h hi ((ih.W _).keep h hi' (iW _) fun d _ hd=>hd) (Kn.new h hi' ⟨ho,rfl,hv⟩)
      ·exact (ih.W _).keep h hi' (iW _) fun d _ hd=>hd
     ·rw [upd1_ne _ _ hoo]; exact (ih.W o).keep h hi' (iW o) fun d _ hd=>hd
   ·exact (ih.W o).keep h hi' (iW o) fun d _ hd=>hd
  ·rw [stp_succ hi',L_after,hS]
   split
   ·rename_i ho
    by_cases hoo:o = (t.getD i default).Obj
    ·subst hoo
     rw [upd1_same]
     exact Kn.max h hi ((ih.L _).keep h hi' (iL _) fun d _ hd=>hd) (Kn.new h hi' ⟨ho,rfl⟩)
    ·rw [upd1_ne _ _ hoo]; exact (ih.L o).keep h hi' (iL o) fun d _ hd=>hd
   ·exact (ih.L o).keep h hi' (iL o) fun d _ hd=>hd
  ·rw [stp_succ hi',R_after,hS]
   split
   ·rename_i ho
    by_cases hoo:o = (t.getD i default).Obj
    ·subst hoo
     rw [upd1_same]
     exact Kn.max h hi ((ih.R _).keep h hi' (iR _) fun d _ hd=>hd) (Kn.new h hi' ⟨ho,rfl⟩)
    ·rw [upd1_ne _ _ hoo]; exact (ih.R o).keep h hi' (iR o) fun d _ hd=>hd
   ·exact (ih.R o).keep h hi' (iR o) fun d _ hd=>hd
theorem le_of {b c:Nat} (hb:b < t.length) (hle:(stm t p b).get (t.getD b default).Task≤(stm t p c).get (t.getD b default).Task):b≤c:=by
 by_cases e:b≤c
 ·exact e
 ·have:=S_less h (show c < b by omega) hb; omega
theorem back {b a:Nat} (hba:b < a) (ha:a < t.length) (hle:(stm t p b).get (t.getD b default).Task≤(stm t p a).get (t.getD b default).Task):∃ m,m < a∧E t p m a∧Le t p b m:=by
 have ht:=task_at h (show b < t.length by omega)
 have hn:=h.n
 have hK:=knows_at h a (by omega)
 have he:=ev_at h ha
 have hs0:(stm t p b).get (t.getD b default).Task≤(s0A (stp t p a) (t.getD a default)).get (t.getD b default).Task→∃ m,m < a∧E t p m a∧Le t p b m:=fun hh=>by
  have h2:(stm t p b).get (t.getD b default).Task≤((stp t p a).T (t.getD a default).Task).get (t.getD b default).Task:=by
   by_cases hx:(t.getD b default).Task = (t.getD a default).Task
   ·rw [← hx,← T_S (show b < t.length by omega)]
    exact T_mono h (show b+1≤a by omega) (by omega) _ _ ht.1 ht.2
   ·rw [s0_own h ha _ ht.1,if_neg hx] at hh; exact hh
  obtain ⟨d,g1,g2,g3⟩:=hK.T _ b hba h2
  exact ⟨d,g2,g3 a (Nat.le_refl _) ha rfl (fun m g1 g2=>absurd g1 (by omega)),g1⟩
 have hmax:∀ w:V,((stm t p b).get (t.getD b default).Task≤w.get (t.getD b default).Task→∃ m,m < a∧E t p m a∧Le t p b m)→(stm t p b).get (t.getD b default).Task≤(vmax (s0A (stp t p a) (t.getD a default)) w).get (t.getD b default).Task→∃ m,m < a∧E t p m a∧Le t p b m:=fun w hw hh=>by
  rw [vmax_get _ _ _ ht.1 (by omega)] at hh
  by_cases e:(stm t p b).get (t.getD b default).Task≤(s0A (stp t p a) (t.getD a default)).get (t.getD b default).Task
  ·exact hs0 e
  ·exact hw (by omega)
 have hev:∀ c,c < a→E t p c a→(stm t p b).get (t.getD b default).Task≤(stm t p c).get (t.getD b default).Task→∃ m,m < a∧E t p m a∧Le t p b m:=fun c hc hE hh=>⟨c,hc,hE,le_of h (by omega) hh,hh⟩
 unfold stm at hle
 change (stm t p b).get (t.getD b default).Task≤_ at hle
 rw [S_after] at hle
 split at hle
 ·rename_i hop
  have ho:0≤(t.getD a default).Obj∧(t.getD a default).Obj < (p.length:Int):=⟨he.obj.1,he.pipe (by omega)⟩
  obtain ⟨n,e1,e2⟩:=to_nat ho
  have hl:=pipe_len h _ (show a≤t.length by omega) ho
  rw [hl.1,hl.2] at hle
  split at hle
  ·rename_i hsg
   split at hle
   ·rename_i hcl
    refine hmax _ (fun hh=>?_) hle
    rw [pipes_eq h a (by omega) _ ho] at hcl hh
    cases hc:(pi t (t.getD a default).Obj a).c with
    | none=>rw [pipeOf,hc] at hcl; cases hcl
    | some c =>
     have h9:(pipeOf t p (pi t (t.getD a default).Obj a)).shut = stm t p c:=by rw [pipeOf,hc]
     rw [h9] at hh
     exact hev c (pi_c _ _ hc) (.inr ⟨n,e2,.inl ⟨ha,e1,hop,by rw [← e1]; exact hsg,by rw [← e1]; exact hc⟩⟩) hh
   ·exact hs0 hle
  ·rename_i hsg
   refine hmax _ (fun hh=>?_) hle
   have hs:(pi t (t.getD a default).Obj a).g.length < (pi t (t.getD a default).Obj a).s.length:=by omega
   have hsx:=List.getElem?_eq_getElem hs
   rw [(late_at h (show a≤t.length by omega) ho hsx).2] at hh
   have hg:=(pi_pre (t:=t) (show a+1≤t.length by omega) _ _).2 (pi_g_new hop hsg)
   have hs':=(pi_pre (t:=t) (show a≤t.length by omega) _ _).1 hsx
   exact hev _ (pi_s _ _ _ hsx).1 (.inr ⟨n,e2,.inr ⟨_,_,_,(by rw [← e1]; exact hs'),(by rw [← e1]; exact hg),.inl ⟨rfl,rfl⟩⟩⟩) hh
 split at hle
 ·rename_i hop
  have ho:0≤(t.getD a default).Obj∧(t.getD a default).Obj < (p.length:Int):=⟨he.obj.1,he.pipe (by omega)⟩
  obtain ⟨n,e1,e2⟩:=to_nat ho
  have hl:=pipe_len h _ (show a≤t.length by omega) ho
  rw [hl.1,hl.2] at hle
  have hcap:0≤ix p (t.getD a default).Obj∧ix p (t.getD a default).Obj≤100:=by rw [e1,ix_get e2]; exact h.caps n e2
  have hpl:=(wf_stp h (i:=a) (by omega)).ps _ (pipe_mem (wf_stp h (i:=a) (by omega)) he (.inl hop))
  have hpl2:=hpl.s
  rw [hl.1] at hpl2
  rw [wrap_id (by omega) (by omega)] at hle
  split at hle
  ·rename_i hk
   refine hmax _ (fun hh=>?_) hle
   obtain ⟨k,hkk⟩:=Int.eq_ofNat_of_zero_le hk.2.1
   rw [hkk] at hk hh
   have hg:k < (pi t (t.getD a default).Obj a).g.length:=by omega
   have hgx:=List.getElem?_eq_getElem hg
   rw [gets_at h (show a≤t.length by omega) ho hgx] at hh
   have hsn:=(pi_pre (t:=t) (show a+1≤t.length by omega) _ _).1 (pi_s_new hop)
   have hg':=(pi_pre (t:=t) (show a≤t.length by omega) _ _).2 hgx
   have hpg:=pi_le (t:=t) (o:=(t.getD a default).Obj) a
   have hs:k < (pi t (t.getD a default).Obj a).s.length:=by omega
   have hs':=(pi_pre (t:=t) (show a≤t.length by omega) _ _).1 (List.getElem?_eq_getElem hs)
   have hc:=(pi_g _ _ _ hgx).1
   refine hev _ hc (.inr ⟨n,e2,.inr ⟨k,_,_,(by rw [← e1]; exact hs'),(by rw [← e1]; exact hg'),.inr (.inr ⟨by rw [← e1]; omega,rfl,?_,hc⟩)⟩⟩) hh
   rw [← e1,show k+(ix p (t.getD a default).Obj).toNat = (pi t (t.getD a default).Obj a).s.length by omega]; exact hsn
  ·exact hs0 hle
 split at hle
 ·rename_i hop
  refine hmax _ (fun hh=>?_) hle
  split at hh
  ·rename_i hv
   obtain ⟨d,g1,g2,g3,g4⟩:=hK.L _ b hba hh
   exact ⟨d,g2,.inl (.inr (.inr ⟨g2,ha,g4.symm,.inl ⟨g3,hop,.inr hv⟩⟩)),g1⟩
  ·obtain ⟨d,g1,g2,g3,g4,g5⟩:=hK.W _ b hba hh
   exact ⟨d,g2,.inl (.inr (.inr ⟨g2,ha,g4.symm,.inl ⟨g3,hop,.inl g5⟩⟩)),g1⟩
 split at hle
 ·rename_i hop
  refine hmax _ (fun hh=>?_) hle
  obtain ⟨d,g1,g2,g3,g4⟩:=hK.R _ b hba hh
  exact ⟨d,g2,.inl (.inr (.inr ⟨g2,ha,g4.symm,.inr ⟨g3,hop⟩⟩)),g1⟩
 ·exact hs0 hle
structure Has (t:List GEvent) (p:List Int) (i:Nat):Prop where
 L:∀ d,d < i→(t.getD d default).Op = 18→vle (stm t p d) ((stp t p i).L (t.getD d default).Obj).all
 W:∀ d,d < i→(t.getD d default).Op = 18→(t.getD d default).Value = 1→vle (stm t p d) ((stp t p i).L (t.getD d default).Obj).writers
 R:∀ d,d < i→(t.getD d default).Op = 19→vle (stm t p d) ((stp t p i).R (t.getD d default).Obj)
end
end Go.Proofs.Ytelegonboeacaaa
end

section
namespace Go.Proofs.Ytelegonboeacaaa
open Go Go.Sx
set_option linter.unusedVariables false
set_option linter.unusedSimpArgs false
set_option linter.unusedSectionVars false
def Q (n N:Nat) (c:List (List Int)) (S:Nat→Nat→Prop):Prop:=c.length = n∧∀ b,b < n→(c.getD b []).length≤N∧∀ x:Int,x ∈ c.getD b []↔∃ a:Nat,x = (a:Int)∧S b a
theorem Q.to {n N M:Nat} {c:List (List Int)} {S S':Nat→Nat→Prop} (h:Q n N c S) (hN:N≤M) (hS:∀ b a,b < n→(S b a↔S' b a)):Q n M c S' :=
 ⟨h.1,fun b hb=>⟨Nat.le_trans (h.2 b hb).1 hN,fun x=>((h.2 b hb).2 x).trans ⟨fun ⟨a,e,s⟩=>⟨a,e,(hS b a hb).1 s⟩,fun ⟨a,e,s⟩=>⟨a,e,(hS b a hb).2 s⟩⟩⟩⟩
end Go.Proofs.Ytelegonboeacaaa
end

section
namespace Go.Proofs.Ytelegonboeacaaa
open Go Go.Sx
set_option linter.unusedVariables false
set_option linter.unusedSimpArgs false
set_option linter.unusedSectionVars false
section
variable {t:List GEvent} {p:List Int} (h:TrOk t p) (ht:t.length≤300)
include h ht
end
end Go.Proofs.Ytelegonboeacaaa
end

section
namespace Go.Proofs.Ytelegonboeacaaa
open Go Go.Sx
set_option linter.unusedVariables false
set_option linter.unusedSimpArgs false
set_option linter.unusedSectionVars false
def M (n:Nat) (r:List (List Bool)) (F:Nat→Nat→Prop):Prop:=r.length = n∧∀ k,k < n→(r.getD k []).length = n∧∀ j,j < n→(ix (r.getD k []) ((j:Nat):Int) = true↔F k j)
theorem M.to {n:Nat} {r:List (List Bool)} {F G:Nat→Nat→Prop} (h:M n r F) (hg:∀ k j,k < n→j < n→(F k j↔G k j)):M n r G :=
 ⟨h.1,fun k hk=>⟨(h.2 k hk).1,fun j hj=>((h.2 k hk).2 j hj).trans (hg k j hk hj)⟩⟩
theorem M.set {n:Nat} {r:List (List Bool)} {F:Nat→Nat→Prop} (h:M n r F) {a b:Nat} (ha:a < n) (hb:b < n) (v:Bool) :
  M n (r.set a ((r.getD a []).set b v)) fun k j=>(k = a∧j = b∧v = true)∨(¬ (k = a∧j = b)∧F k j):=by
 obtain ⟨h1,h2⟩:=h
 refine ⟨by rw [List.length_set]; exact h1,fun k hk=>?_⟩
 by_cases e:k = a
 ·subst e
  have e2:(r.set k ((r.getD k []).set b v)).getD k [] = (r.getD k []).set b v:=by rw [List.getD_eq_getElem?_getD,List.getElem?_set_self (by omega)]; rfl
  rw [e2]
  refine ⟨by rw [List.length_set]; exact (h2 k hk).1,fun j hj=>?_⟩
  by_cases e3:j = b
  ·subst e3
   rw [ix_get (by rw [List.length_set]; have:=(h2 k hk).1; omega),List.getElem_set_self]
   exact ⟨fun g=>.inl ⟨rfl,rfl,g⟩,fun g=>g.elim (fun g=>g.2.2) (fun g=>absurd ⟨rfl,rfl⟩ g.1)⟩
  ·have hl:=(h2 k hk).1
   rw [ix_get (by rw [List.length_set]; omega),List.getElem_set_ne (by omega),← ix_get (by omega),(h2 k hk).2 j hj]
   exact ⟨fun g=>.inr ⟨fun g'=>e3 g'.2,g⟩,fun g=>g.elim (fun g=>absurd g.2.1 e3) (fun g=>g.2)⟩
 ·have e2:(r.set a ((r.getD a []).set b v)).getD k [] = r.getD k []:=by rw [List.getD_eq_getElem?_getD,List.getElem?_set_ne (by omega),← List.getD_eq_getElem?_getD]
  rw [e2]
  refine ⟨(h2 k hk).1,fun j hj=>((h2 k hk).2 j hj).trans ⟨fun g=>.inr ⟨fun g'=>e g'.1,g⟩,fun g=>g.elim (fun g=>absurd g.1 e) (fun g=>g.2)⟩⟩
theorem M.at {n:Nat} {r:List (List Bool)} {F:Nat→Nat→Prop} (h:M n r F) {k j:Nat} (hk:k < n) (hj:j < n):(ix (ixD r (k:Int)) (j:Int) = true↔F k j)∧(ixD r (k:Int)).length = n∧ixD r (k:Int) = r.getD k []:=by
 have e:ixD r (k:Int) = r.getD k []:=ixD_nat r k
 rw [e]; exact ⟨(h.2 k hk).2 j hj,(h.2 k hk).1,rfl⟩
section
variable {t:List GEvent} {p:List Int} (h:TrOk t p) (ht:t.length≤300)
include h
include ht
end
end Go.Proofs.Ytelegonboeacaaa
end

section
namespace Go.Proofs.Ytelegonboeacaaa
open Go Go.Sx
set_option linter.unusedVariables false
set_option linter.unusedSimpArgs false
set_option linter.unusedSectionVars false
abbrev ev (t:List GEvent) (i:Nat):GEvent:=ix t (i:Int)
def le1 (t:List GEvent) (p:List Int) (i k:Nat):Bool:=decide ((stm t p i).get (ev t i).Task≤(stm t p k).get (ev t i).Task)
def lt1 (t:List GEvent) (p:List Int) (i k:Nat):Bool:=decide ((ev t i).Task≠(ev t k).Task) && !le1 t p i k
def acc (e:GEvent):Bool:=e.Op == 12 || e.Op == 13
def R2 (t:List GEvent) (p:List Int) (i k:Nat):Bool:=acc (ev t i) && acc (ev t k) && decide ((ev t i).Obj = (ev t k).Obj) && decide ((ev t i).Task≠(ev t k).Task) && ((ev t i).Op == 13 || (ev t k).Op == 13) && !le1 t p i k
section
variable {t:List GEvent}
theorem lsF_at {x:Int} {i k:Nat} (hi:i < k) (ho:(ev t i).Op = 13) (hx:x = (ev t i).Obj):∃ j:Nat,lsF GEvent.Op GEvent.Obj t k x = j∧i≤j:=by
 induction k with
 | zero=>omega
 | succ k ih =>
  show∃j:Nat,(if (ev t k).Op = 13∧x = (ev t k).Obj then (k:Int) else lsF GEvent.Op GEvent.Obj t k x) = j∧i≤j
  split
  ·exact ⟨k,rfl,by omega⟩
  ·rename_i c
   by_cases e:i = k
   ·subst e; exact absurd ⟨ho,hx⟩ c
   ·exact ih (by omega)
theorem lsF_is {x:Int} {j k:Nat} (h:lsF GEvent.Op GEvent.Obj t k x = (j:Int)):j < k∧(ev t j).Op = 13∧x = (ev t j).Obj:=by
 induction k with
 | zero=>have h:(-1:Int) = (j:Int):=h; omega
 | succ k ih =>
  have h:(if (ev t k).Op = 13∧x = (ev t k).Obj then (k:Int) else lsF GEvent.Op GEvent.Obj t k x) = (j:Int):=h
  split at h
  ·rename_i c
   have:=Int.ofNat.inj h
   subst this
   exact ⟨by omega,c⟩
  ·have:=ih h; exact ⟨by omega,this.2⟩
theorem ldF_at {x s:Int} {i k:Nat} (hi:i < k) (ho:(ev t i).Op = 12) (hx:x = (ev t i).Obj) (hs:s = (ev t i).Task) (hn:∀ j,i < j→j < k→¬ ((ev t j).Op = 13∧x = (ev t j).Obj)):∃ j:Nat,ldF GEvent.Task GEvent.Op GEvent.Obj t k x s = some j∧i≤j:=by
 induction k with
 | zero=>omega
 | succ k ih =>
  show∃j:Nat,(if (ev t k).Op = 13∧x = (ev t k).Obj then none else if (ev t k).Op = 12∧x = (ev t k).Obj∧s = (ev t k).Task then some k else ldF GEvent.Task GEvent.Op GEvent.Obj t k x s) = some j∧i≤j
  by_cases e:i = k
  ·subst e
   rw [if_neg (by omega),if_pos ⟨ho,hx,hs⟩]
   exact ⟨i,rfl,Nat.le_refl _⟩
  ·rw [if_neg (hn k (by omega) (by omega))]
   split
   ·exact ⟨k,rfl,by omega⟩
   ·exact ih (by omega) fun j h1 h2=>hn j h1 (by omega)
theorem ldF_is {x s:Int} {i k:Nat} (h:ldF GEvent.Task GEvent.Op GEvent.Obj t k x s = some i):i < k∧(ev t i).Op = 12∧x = (ev t i).Obj∧s = (ev t i).Task:=by
 induction k with
 | zero=>cases h
 | succ k ih =>
  have h:(if (ev t k).Op = 13∧x = (ev t k).Obj then none else if (ev t k).Op = 12∧x = (ev t k).Obj∧s = (ev t k).Task then some k else ldF GEvent.Task GEvent.Op GEvent.Obj t k x s) = some i:=h
  split at h
  ·cases h
  ·split at h
   ·rename_i c
    have:=Option.some.inj h
    subst this
    exact ⟨by omega,c⟩
   ·have:=ih h; exact ⟨by omega,this.2⟩
end
section
variable {t:List GEvent} {p:List Int} (h:TrOk t p)
theorem acc_iff {e:GEvent}:acc e = true↔e.Op = 12∨e.Op = 13:=by simp [acc]
theorem R2_iff {i k:Nat}:R2 t p i k = true↔((ev t i).Op = 12∨(ev t i).Op = 13)∧((ev t k).Op = 12∨(ev t k).Op = 13)∧(ev t i).Obj = (ev t k).Obj∧(ev t i).Task≠(ev t k).Task∧((ev t i).Op = 13∨(ev t k).Op = 13)∧le1 t p i k = false:=by
 unfold R2
 simp only [Bool.and_eq_true,acc_iff,decide_eq_true_eq,Bool.or_eq_true,beq_iff_eq,Bool.not_eq_true',and_assoc]
theorem lt1_iff {i k:Nat}:lt1 t p i k = true↔(ev t i).Task≠(ev t k).Task∧le1 t p i k = false:=by
 unfold lt1
 simp only [Bool.and_eq_true,decide_eq_true_eq,Bool.not_eq_true']
theorem le1_bef {i k:Nat} (hik:i < k):le1 t p i k = bef t p i k:=by
 unfold le1 bef
 rw [decide_eq_true hik,Bool.true_and]
 rfl
theorem bad_race {k:Nat} (hb:Bad GEvent.Task GEvent.Op GEvent.Obj t (lt1 t p) k):∃ i,i < k∧R2 t p i k = true:=by
 obtain ⟨hk,hb | ⟨h13,s,i,hf,hl⟩⟩:=hb
 ·obtain ⟨j,hj,hjk⟩:=lsF_lt hb.1
  have hl:=hb.2
  rw [hj,Int.toNat_natCast] at hl
  have h1:=lsF_is hj
  have h2:=lt1_iff.1 hl
  exact ⟨j,h1.1,R2_iff.2 ⟨.inr h1.2.1,hk,h1.2.2.symm,h2.1,.inl h1.2.1,h2.2⟩⟩
 ·have h1:=ldF_is hf
  have h2:=lt1_iff.1 hl
  exact ⟨i,h1.1,R2_iff.2 ⟨.inl h1.2.1,hk,h1.2.2.1.symm,h2.1,.inr h13,h2.2⟩⟩
include h
theorem bef_of {i k:Nat} (hik:i < k) (hk:k < t.length) (he:lt1 t p i k = false):bef t p i k = true:=by
 by_cases e:(ev t i).Task = (ev t k).Task
 ·refine bef_same h hik hk (.inl ?_)
  have h1:ev t i = t[i]'(by omega):=d_at (by omega)
  have h2:ev t k = t[k]:=d_at hk
  rw [← h1,← h2]; exact e
 ·rw [← le1_bef hik]
  unfold lt1 at he
  rw [decide_eq_true e,Bool.true_and] at he
  simpa using he
theorem race_bad {k:Nat} (hk:k < t.length) (hn:∀ i j,j < k→i < j→R2 t p i j = false) {i:Nat} (hik:i < k) (hr:R2 t p i k = true):Bad GEvent.Task GEvent.Op GEvent.Obj t (lt1 t p) k:=by
 obtain ⟨hi,hk2,ho,ht,hs,hl⟩:=R2_iff.1 hr
 refine ⟨hk2,Classical.byContradiction fun hc=>?_⟩
 have nb:bef t p i k = false:=by rw [← le1_bef hik]; exact hl
 -- an event between, that is a store of the same cell
 have mid:∀ j,i < j→lsF GEvent.Op GEvent.Obj t k (ev t k).Obj = (j:Int)→False:=fun j hij hj=>by
  have h1:=lsF_is hj
  have b1:bef t p i j = true:=by
   refine bef_of h hij (by omega) ?_
   have h0:=hn i j h1.1 hij
   cases hx:lt1 t p i j with
   | false=>rfl
   | true =>
    have h2:=lt1_iff.1 hx
    rw [R2_iff.2 ⟨hi,.inr h1.2.1,ho.trans h1.2.2,h2.1,.inr h1.2.1,h2.2⟩] at h0
    cases h0
  have b2:bef t p j k = true:=by
   refine bef_of h h1.1 hk ?_
   cases hx:lt1 t p j k with
   | false=>rfl
   | true=>exact absurd (.inl ⟨by rw [hj]; omega,by rw [hj]; exact hx⟩) hc
  rw [bef_trans h hk b1 b2] at nb
  cases nb
 by_cases hst:∃ j,i < j∧j < k∧(ev t j).Op = 13∧(ev t k).Obj = (ev t j).Obj
 ·obtain ⟨j,h1,h2,h3,h4⟩:=hst
  obtain ⟨j',h5,h6⟩:=lsF_at h2 h3 h4
  exact mid j' (by omega) h5
 ·rcases hi with hi | hi
  ·have h13:(ev t k).Op = 13:=hs.resolve_left (by omega)
   obtain ⟨i',h1,h2⟩:=ldF_at (s:=(ev t i).Task) hik hi ho.symm rfl fun j h1 h2 h3=>hst ⟨j,h1,h2,h3⟩
   have h3:=ldF_is h1
   have b2:bef t p i' k = true:=by
    refine bef_of h h3.1 hk ?_
    cases hx:lt1 t p i' k with
    | false=>rfl
    | true=>exact absurd (.inr ⟨h13,_,i',h1,hx⟩) hc
   by_cases e:i = i'
   ·subst e; rw [b2] at nb; cases nb
   ·have b1:bef t p i i' = true:=by
     refine bef_same h (by omega) (by omega) (.inl ?_)
     have e1:ev t i = t[i]'(by omega):=d_at (by omega)
     have e2:ev t i' = t[i']'(by omega):=d_at (by omega)
     rw [← e1,← e2]; exact h3.2.2.2
    rw [bef_trans h hk b1 b2] at nb
    cases nb
  ·obtain ⟨j,h1,h2⟩:=lsF_at hik hi ho.symm
   by_cases e:i = j
   ·subst e
    exact hc (.inl ⟨by rw [h1]; omega,by rw [h1,Int.toNat_natCast]; exact lt1_iff.2 ⟨ht,hl⟩⟩)
   ·exact mid j (by omega) h1
end
end Go.Proofs.Ytelegonboeacaaa
end

section
namespace Go.Proofs.Ytelegonboeacaaa
open Go Go.Sx
set_option linter.unusedVariables false
set_option linter.unusedSimpArgs false
set_option linter.unusedSectionVars false
def rowF (R:Nat→Nat→Bool) (k:Nat):Nat→Nat→List S55
 | 0,_=>[]
 | d+1,i=>(if R i k = true then [S55.mk (i:Int) (k:Int)] else [])++rowF R k d (i+1)
def allF (R:Nat→Nat→Bool):Nat→Nat→List S55
 | 0,_=>[]
 | d+1,k=>rowF R k k 0++allF R d (k+1)
theorem rowF_nil (R:Nat→Nat→Bool) (k:Nat):∀ d i,rowF R k d i = []↔∀ j,i≤j→j < i+d→R j k = false
 | 0,i=>⟨fun _ j h1 h2=>by omega,fun _=>rfl⟩
 | d+1,i=>by
  rw [rowF,List.append_eq_nil_iff,rowF_nil R k d (i+1)]
  constructor
  ·rintro ⟨h1,h2⟩ j h3 h4
   by_cases e:j = i
   ·subst e
    cases hr:R j k with
    | false=>rfl
    | true=>rw [if_pos hr] at h1; cases h1
   ·exact h2 j (by omega) (by omega)
  ·intro hh
   exact ⟨by rw [if_neg (by rw [hh i (Nat.le_refl _) (by omega)]; decide)],fun j h1 h2=>hh j (by omega) (by omega)⟩
theorem rowF_e1 (R:Nat→Nat→Bool) (k:Nat):∀ d i,∀ x ∈ rowF R k d i,x.e1 = (k:Int)
 | 0,_,x,h=>by cases h
 | d+1,i,x,h=>by
  rw [rowF,List.mem_append] at h
  rcases h with h | h
  ·split at h
   ·rw [List.mem_singleton] at h; rw [h]
   ·cases h
  ·exact rowF_e1 R k d (i+1) x h
theorem allF_head (R:Nat→Nat→Bool):∀ d k,(allF R d k = []∧∀ b,k≤b→b < k+d→∀ a,a < b→R a b = false)∨∃ b,k≤b∧b < k+d∧(∃ a,a < b∧R a b = true)∧(∀ c,k≤c→c < b→∀ a,a < c→R a c = false)∧∃ x l,allF R d k = x::l∧x.e1 = (b:Int)
 | 0,k=>.inl ⟨rfl,fun b h1 h2=>by omega⟩
 | d+1,k=>by
  cases hr:rowF R k k 0 with
  | nil =>
   have h0:=(rowF_nil R k k 0).1 hr
   rcases allF_head R d (k+1) with ⟨h1,h2⟩ | ⟨b,h1,h2,h3,h4,h5⟩
   ·refine .inl ⟨by rw [allF,hr,h1]; rfl,fun b h3 h4 a ha=>?_⟩
    by_cases e:b = k
    ·subst e; exact h0 a (by omega) (by omega)
    ·exact h2 b (by omega) (by omega) a ha
   ·refine .inr ⟨b,by omega,by omega,h3,fun c h6 h7 a ha=>?_,by rw [allF,hr]; exact h5⟩
    by_cases e:c = k
    ·subst e; exact h0 a (by omega) (by omega)
    ·exact h4 c (by omega) h7 a ha
  | cons x l =>
   refine .inr ⟨k,Nat.le_refl _,by omega,?_,fun c h1 h2=>by omega,x,l++allF R d (k+1),by rw [allF,hr]; rfl,rowF_e1 R k k 0 x (by rw [hr]; exact List.mem_cons_self ..)⟩
   refine Classical.byContradiction fun hc=>?_
   have:rowF R k k 0 = []:=(rowF_nil R k k 0).2 fun j h1 h2=>by
    cases hx:R j k with
    | false=>rfl
    | true=>exact absurd ⟨j,by omega,hx⟩ hc
   rw [hr] at this; cases this
section
variable {t:List GEvent} {p:List Int} (h:TrOk t p)
include h
theorem ahead_eq {i k:Nat} (hi:i < t.length) (hk:k < t.length):order_Ahead (ev t i) (ix (stA p (a0 p.length) t) (i:Int)) (ix (stA p (a0 p.length) t) (k:Int)) = some (le1 t p i k):=by
 unfold order_Ahead le1
 have:=task_at h hi
 have e:t.getD i default = ev t i:=rfl
 rw [e] at this
 rw [decide_eq_true this.1,decide_eq_true (show (ev t i).Task < ((65:Nat):Int) by omega),ix_get (by rw [stA_len]; exact hi),ix_get (by rw [stA_len]; exact hk),stA_get hi,stA_get hk]
 rfl
end
end Go.Proofs.Ytelegonboeacaaa
end

section
namespace Go.Proofs.Ytelegonboeacaaa
open Go Go.Sx
set_option linter.unusedVariables false
set_option linter.unusedSimpArgs false
set_option linter.unusedSectionVars false
theorem badE_ok {np:Nat} {e:GEvent} {i:Int} (h:EvOk np e):badE np e i = none:=by
 have h1:=h.task; have h2:=h.op; have h3:=h.obj; have h4:=h.pipe; have h5:=h.go
 unfold badE
 rw [if_neg (by omega),if_neg (by omega),if_neg (by
  rintro (g | g | ⟨g1,g2⟩)
  ·omega
  ·omega
  ·have:=h4 g1; omega),if_neg (by
  rintro ⟨g1,g2⟩
  have:=h5 g1; omega)]
theorem check_of {t:List GEvent} {p:List Int} (h:TrOk t p):(checkF t p).Code = 0:=by
 have h1:=h.n; have h2:=h.np
 unfold checkF
 rw [if_neg (by omega),(firstAt_none _).2 fun i hi=>by
  unfold badP
  have:=h.caps i hi
  rw [ix_get hi,if_neg (by omega)],(firstAt_none _).2 fun i hi=>badE_ok (by rw [ix_get hi]; exact h.ev i hi)]
 rfl
section
variable {t:List GEvent} {p:List Int} (h:TrOk t p)
include h
theorem first1_eq {i k:Nat} (hi:i < t.length) (hk:k < t.length):race_First_1 (i:Int) (k:Int) t (stA p (a0 p.length) t) = some (lt1 t p i k):=by
 have hsl:(stA p (a0 p.length) t).length = t.length:=stA_len _ _ _
 unfold race_First_1 race_First_1_j1
 have e3:((ev t i).Task != (ev t k).Task) = decide ((ev t i).Task≠(ev t k).Task):=by by_cases e:(ev t i).Task = (ev t k).Task <;> simp [e]
 rw [show ix t ((i:Int)) = ev t i from rfl,show ix t ((k:Int)) = ev t k from rfl,ahead_eq h hi hk,hsl,e3,decide_eq_true (show (0:Int)≤(i:Int) by omega),decide_eq_true (show (i:Int) < (t.length:Int) by omega),decide_eq_true (show (0:Int)≤(k:Int) by omega),decide_eq_true (show (k:Int) < (t.length:Int) by omega)]
 simp only [cond_true,Bool.and_self,Option.bind_some]
 unfold lt1
 cases decide ((ev t i).Task≠(ev t k).Task) <;> rfl
def firstF (l:List S55):Int×Fault:=match l with
 | []=>(0,⟨6,0⟩)
 | x::_=>(x.e1,⟨0,0⟩)
omit h in
theorem bad_congr {l1 l2:Nat→Nat→Bool} {k:Nat} (hl:∀ i,i < k→l1 i k = l2 i k) (hb:Bad GEvent.Task GEvent.Op GEvent.Obj t l1 k):Bad GEvent.Task GEvent.Op GEvent.Obj t l2 k:=by
 obtain ⟨hk,hb | ⟨h13,s,i,hf,hx⟩⟩:=hb
 ·obtain ⟨j,hj,hjk⟩:=lsF_lt hb.1
  refine ⟨hk,.inl ⟨hb.1,?_⟩⟩
  have:=hb.2
  rw [hj,Int.toNat_natCast] at this ⊢
  rw [← hl j hjk]; exact this
 ·exact ⟨hk,.inr ⟨h13,s,i,hf,by rw [← hl i (ldF_is hf).1]; exact hx⟩⟩
theorem wf_int {x:Int} (h0:0≤x) (h1:x≤2000):Wf x:=by
 obtain ⟨n,rfl⟩:=Int.eq_ofNat_of_zero_le h0
 exact wf_nat (by omega)
theorem first_eq:race_First t p = some (firstF (allF (R2 t p) t.length 0)):=by
 have hn:=h.n
 have hk0:=check_of h
 unfold race_First
 rw [check_eq,(check_ok hk0).2]
 simp only [Option.bind_some]
 rw [stamps_eq h]
 have hev:∀ k:Nat,k < t.length→EvOk p.length (ev t k):=fun k hk=>by rw [show ev t k = t[k] from ix_get hk]; exact h.ev k hk
 have hcond:t.length≤2000∧(∀ k:Nat,k < t.length→Wf (ix t k).Task∧Wf (ix t k).Obj)∧(∀ i k:Nat,i < t.length→k < t.length→(race_First_1 i k t (stA p (a0 p.length) t)).isSome = true) :=
  ⟨h.n,fun k hk=>by
   have h1:=(hev k hk).task
   have h2:=(hev k hk).obj
   exact ⟨wf_int h (x:=(ev t k).Task) (by omega) (by omega),wf_int h (x:=(ev t k).Obj) (by omega) (by omega)⟩,fun i k hi hk=>by rw [first1_eq h hi hk]; rfl⟩
 have hR:Res GEvent.Task GEvent.Op GEvent.Obj t (fun i k:Nat=>(race_First_1 i k t (stA p (a0 p.length) t)).getD false) (firstF (allF (R2 t p) t.length 0)).1 (firstF (allF (R2 t p) t.length 0)).2.Code:=by
  have cg:∀ k,k < t.length→∀ i,i < k→(race_First_1 (i:Int) (k:Int) t (stA p (a0 p.length) t)).getD false = lt1 t p i k:=fun k hk i hi=>by rw [first1_eq h (by omega) hk]; rfl
  rcases allF_head (R2 t p) t.length 0 with ⟨e,hno⟩ | ⟨b,-,hb,⟨a,ha,hab⟩,hno,x,l,e,hx⟩
  ·rw [e]
   refine .inr ⟨fun j hj hbad=>?_,rfl,rfl⟩
   obtain ⟨i,hi,hr⟩:=bad_race (bad_congr (cg j hj) hbad)
   rw [hno j (Nat.zero_le _) (by omega) i hi] at hr; cases hr
  ·rw [e]
   have hb':b < t.length:=by omega
   refine .inl ⟨b,hb',?_,fun j hj hbad=>?_,hx,rfl⟩
   ·exact bad_congr (fun i hi=>(cg b hb' i hi).symm) (race_bad h hb' (fun i j hj hij=>hno j (Nat.zero_le _) hj i hij) ha hab)
   ·obtain ⟨i,hi,hr⟩:=bad_race (bad_congr (cg j (by omega)) hbad)
    rw [hno j (Nat.zero_le _) hj i hi] at hr; cases hr
 have hz:(firstF (allF (R2 t p) t.length 0)).2 = ⟨(firstF (allF (R2 t p) t.length 0)).2.Code,0⟩:=by
  unfold firstF; split <;> rfl
 rw [show ((0:Int) != 0) = false from rfl,cond_false]
 simp only [Option.bind_some]
 rw [if_pos hcond,firstR_res hR,← hz]
end
end Go.Proofs.Ytelegonboeacaaa
end

section
namespace Go.Proofs.Ytelegonboeacaaa
open Go Go.Sx
set_option linter.unusedVariables false
set_option linter.unusedSimpArgs false
set_option linter.unusedSectionVars false
theorem first_bad {t:List GEvent} {p:List Int} (h:(checkF t p).Code≠0):race_First t p = some (0,checkF t p):=by
 unfold race_First
 rw [check_eq]
 simp only [Option.bind_some]
 rw [show ((checkF t p).Code != 0) = true by simpa using h,cond_true]
theorem stp_take {t:List GEvent} {p:List Int} {m i:Nat} (hi:i≤m):stp (t.take m) p i = stp t p i:=by
 unfold stp
 rw [List.take_take,Nat.min_eq_left hi]
theorem ev_take {t:List GEvent} {m i:Nat} (hi:i < m):ev (t.take m) i = ev t i:=by
 show (t.take m).getD i default = t.getD i default
 rw [List.getD_eq_getElem?_getD,List.getD_eq_getElem?_getD,List.getElem?_take_of_lt hi]
theorem stm_take {t:List GEvent} {p:List Int} {m i:Nat} (hi:i < m):stm (t.take m) p i = stm t p i:=by
 unfold stm
 rw [stp_take (by omega),show (t.take m).getD i default = t.getD i default from ev_take hi]
theorem R2_take {t:List GEvent} {p:List Int} {m i k:Nat} (hi:i < k) (hk:k < m):R2 (t.take m) p i k = R2 t p i k:=by
 unfold R2 le1
 rw [ev_take hk,ev_take (show i < m by omega),stm_take hk,stm_take (show i < m by omega)]
theorem tr_take {t:List GEvent} {p:List Int} (h:TrOk t p) (m:Nat):TrOk (t.take m) p :=
 ⟨by have:=h.n; rw [List.length_take]; omega,h.np,h.caps,fun i hi=>by
  rw [List.length_take] at hi
  rw [List.getElem_take]; exact h.ev i (by omega)⟩
theorem online_law (t:List GEvent) (p:List Int):taskmilllaw_RaceOnline t p = some true:=by
 unfold taskmilllaw_RaceOnline taskmilllaw_raceBegun
 rw [Option.bind_some,Bool.not_true,cond_false]
 by_cases h0:300 < t.length∨100 < p.length
 ·have:(decide ((300:Int) < (t.length:Int)) || decide ((100:Int) < (p.length:Int))) = true:=by simp; omega
  rw [this,cond_true]
 have:(decide ((300:Int) < (t.length:Int)) || decide ((100:Int) < (p.length:Int))) = false:=by simp; omega
 rw [this,cond_false]
 by_cases hk:(checkF t p).Code = 0
 ·obtain ⟨h1,h2⟩:=check_ok hk
  rw [first_eq h1]
  simp only [Option.bind_some]
  rcases allF_head (R2 t p) t.length 0 with ⟨e,hno⟩ | ⟨b,-,hb,⟨a,ha,hab⟩,hno,x,l,e,hx⟩
  ·rw [e]; rfl
  ·rw [e]
   have hb':b < t.length:=by omega
   have f1:race_First (cut t (0:Int) (b:Int)) p = some (0,⟨6,0⟩):=by
    rw [cut_take,first_eq (tr_take h1 b)]
    rcases allF_head (R2 (t.take b) p) (t.take b).length 0 with ⟨e2,_⟩ | ⟨c,-,hc,⟨a2,ha2,hab2⟩,_⟩
    ·rw [e2]; rfl
    ·rw [List.length_take] at hc
     rw [R2_take ha2 (by omega),hno c (Nat.zero_le _) (by omega) a2 ha2] at hab2
     cases hab2
   have f2:race_First (cut t (0:Int) ((b+1:Nat):Int)) p = some ((b:Int),⟨0,0⟩):=by
    rw [cut_take,first_eq (tr_take h1 (b+1))]
    rcases allF_head (R2 (t.take (b+1)) p) (t.take (b+1)).length 0 with ⟨e2,hn2⟩ | ⟨c,-,hc,⟨a2,ha2,hab2⟩,hn2,y,l2,e2,hy⟩
    ·have:=hn2 b (Nat.zero_le _) (by rw [List.length_take]; omega) a ha
     rw [R2_take ha (by omega),hab] at this; cases this
    ·rw [List.length_take] at hc
     rw [R2_take ha2 (by omega)] at hab2
     have:c = b:=by
      rcases Nat.lt_trichotomy c b with g | g | g
      ·rw [hno c (Nat.zero_le _) g a2 ha2] at hab2; cases hab2
      ·exact g
      ·omega
     subst this
     rw [e2]
     show some (y.e1,(⟨0,0⟩:Fault)) = _
     rw [hy]
   have hacc:taskmillref_Access (ix t (b:Int)) = some true:=by
    unfold taskmillref_Access
    have:=(R2_iff.1 hab).2.1
    exact congrArg some (by simpa using this)
   rw [show firstF (x::l) = ((b:Int),⟨0,0⟩) from by rw [← hx]; rfl]
   rw [show ((0:Int) != 0) = false from rfl,cond_false,decide_eq_false (show ¬ (b:Int) < 1 by omega),decide_eq_false (show ¬ (t.length:Int)≤(b:Int) by omega),decide_eq_true (show (0:Int)≤(b:Int) by omega),decide_eq_true (show (b:Int) < (t.length:Int) by omega)]
   simp only [cond_false,cond_true,Bool.and_self]
   rw [hacc]
   simp only [Option.bind_some,Bool.not_true]
   unfold taskmilllaw_RaceOnline_j2 taskmilllaw_RaceOnline_j1 taskmillref_F
   rw [wrap_n1 b (by omega),decide_eq_true (show (0:Int)≤(b:Int) by omega),decide_eq_true (show (b:Int)≤(t.length:Int) by omega),decide_eq_true (show (0:Int)≤((b+1:Nat):Int) by omega),decide_eq_true (show ((b+1:Nat):Int)≤(t.length:Int) by omega),f1,f2]
   simp
 ·rw [first_bad hk]
  simp only [Option.bind_some]
  rw [show ((checkF t p).Code != 0) = true by simpa using hk,cond_true]
end Go.Proofs.Ytelegonboeacaaa
end
