/-
 Lemmas, put together: QA, QB, QC, frameP1, frameP2, frameP3, frameP4, frameP5, frameP6, framePnests, framePnest2, frameP7, frameP8, frameP9, framePa, framePb, framePc.
 No conditions.
-/
import Derived.Test.YteelocnklamegaaDoorframeA3
import Derived.Test.YteelocnklamegaaDoorframeG
set_option linter.unusedSimpArgs false
set_option linter.unusedVariables false
set_option linter.unusedSectionVars false
section
namespace Go.Sx
open Go
set_option linter.unusedVariables false
theorem wrap_id {x:Int} (h1:-9223372036854775808≤x) (h2:x≤9223372036854775807):IntKind.i64.wrap x = x:=by
 simp only [IntKind.wrap,IntKind.bits,IntKind.signed,if_true]
 simp
 omega
theorem wrap_n1 (i:Nat) (h:i < 4611686018427387904):IntKind.i64.wrap ((i:Int)+1) = ((i+1:Nat):Int):=by
 rw [wrap_id (by omega) (by omega)]; rfl
def firstAt {β:Type} (bad:Nat→Option β):Nat→Option β
 | 0=>none
 | n+1=>(firstAt bad n).or (bad n)
theorem firstAt_none {β:Type} {f:Nat→Option β}:∀ (n:Nat),firstAt f n = none↔∀ i,i < n→f i = none
 | 0=>by simp [firstAt]
 | n+1=>by
  simp only [firstAt,Option.or_eq_none_iff,firstAt_none n]
  constructor
  ·rintro ⟨h1,h2⟩ i hi
   by_cases h:i = n
   ·subst h; exact h2
   ·exact h1 i (by omega)
  ·exact fun h=>⟨fun i hi=>h i (by omega),h n (by omega)⟩
theorem firstAt_some {β:Type} {f:Nat→Option β} {b:β}:∀ (n:Nat),firstAt f n = some b→∃ i,i < n∧f i = some b∧∀ j,j < i→f j = none
 | 0,h=>by simp [firstAt] at h
 | n+1,h=>by
  simp only [firstAt] at h
  cases hf:firstAt f n with
  | some c =>
   rw [hf] at h
   obtain ⟨i,h1,h2,h3⟩:=firstAt_some n hf
   simp only [Option.some_or] at h
   exact ⟨i,by omega,by rw [h2,h],h3⟩
  | none =>
   rw [hf] at h
   simp only [Option.none_or] at h
   exact ⟨n,by omega,h,fun j hj=>(firstAt_none n).1 hf j hj⟩
theorem loopO_find {S ρ:Type} {step:S→Option (S ⊕ ρ)} (E:Nat→S) (bad:Nat→Option ρ) (rest:Option ρ) (n:Nat)
  (h1:∀ i,i < n→bad i = none→step (E i) = some (.inl (E (i+1)))) (h2:∀ i r,i < n→bad i = some r→step (E i) = some (.inr r)) (h3:(∀ i,i < n→bad i = none)→step (E n) = rest.map .inr) :
  loopO step (E 0) = match firstAt bad n with
   | some r=>some r
   | none=>rest:=by
 have walk:∀ k,k≤n→(∀ i,i < k→bad i = none)→loopO step (E 0) = loopO step (E k):=by
  intro k
  induction k with
  | zero=>exact fun _ _=>rfl
  | succ k ih =>
   intro hk hb
   rw [ih (by omega) fun i hi=>hb i (by omega),loopO_inl (h1 k (by omega) (hb k (by omega)))]
 cases hf:firstAt bad n with
 | none =>
  have hb:=(firstAt_none n).1 hf
  rw [walk n (Nat.le_refl _) hb,loopO_out (h3 hb)]
 | some r =>
  obtain ⟨i,g1,g2,g3⟩:=firstAt_some n hf
  rw [walk i (by omega) g3,loopO_inr (h2 i r g1 g2)]
theorem loopO_findD {S ρ:Type} {step:S→Option (S ⊕ ρ)} (E:Nat→S) (bad:Nat→Option ρ) (d:ρ) (n:Nat)
  (h1:∀ i,i < n→bad i = none→step (E i) = some (.inl (E (i+1)))) (h2:∀ i r,i < n→bad i = some r→step (E i) = some (.inr r)) (h3:(∀ i,i < n→bad i = none)→step (E n) = some (.inr d)) :
  loopO step (E 0) = some ((firstAt bad n).getD d):=by
 rw [loopO_find E bad (some d) n h1 h2 (fun h=>by rw [h3 h]; rfl)]
 cases firstAt bad n <;> rfl
theorem loopO_all {S ρ:Type} {step:S→Option (S ⊕ ρ)} (E:Nat→S) (rest:Option ρ) (n:Nat)
  (h1:∀ i,i < n→step (E i) = some (.inl (E (i+1)))) (h3:step (E n) = rest.map .inr):loopO step (E 0) = rest:=by
 have:=loopO_find E (fun _=>none) rest n (fun i hi _=>h1 i hi) (fun i r _ h=>by cases h) (fun _=>h3)
 rw [this,(firstAt_none n).2 fun _ _=>rfl]
theorem ix_get {α:Type} [Enc α] {xs:List α} {i:Nat} (h:i < xs.length):ix xs (i:Int) = xs[i]:=by
 simp [ix,List.getD_eq_getElem?_getD,h]
theorem cut_take {α:Type} (xs:List α) (i:Nat):cut xs 0 (i:Int) = xs.take i:=by simp [cut]
end Go.Sx
end

section
namespace Go.Sx
variable {α:Type}
end Go.Sx
end

section
namespace Go.Sx
def toldOr {S ρ:Type} (o:Option ρ) (s:S):Option (S ⊕ ρ):=match o with
 | some r=>some (.inr r)
 | none=>some (.inl s)
@[simp] theorem toldOr_some {S ρ:Type} (r:ρ) (s:S):toldOr (some r) s = some (.inr r):=rfl
@[simp] theorem toldOr_none {S ρ:Type} (s:S):toldOr (none:Option ρ) s = some (.inl s):=rfl
end Go.Sx
end

section
namespace Go.Proofs.YteelocnklamegaaDoor
open Go Go.Sx
set_option linter.unusedVariables false
set_option linter.unusedSimpArgs false
abbrev CR:=Err×Nat×List Int×Option Err
def bodyS (rc:Int→Nat→List Int→CR):List Deed→Option Err→Nat→List Int→List Int→Err×Nat×List Int×List Int×Option Err
 | [],up,fuel,out,late=>(.nil,fuel,out,late,up)
 | d::r,up,0,out,late=>(.tired,0,out,late,up)
 | d::r,up,fuel+1,out,late =>
  if d.Op = 1 then (if (rc d.A fuel out).1 = .nil then bodyS rc r up (rc d.A fuel out).2.1 (rc d.A fuel out).2.2.1 late else ((rc d.A fuel out).1,(rc d.A fuel out).2.1,(rc d.A fuel out).2.2.1,late,up))
  else if d.Op = 2 then bodyS rc r up fuel out (late++[d.A])
  else if d.Op = 3 then (.pan d.A,fuel,out,late,up)
  else if d.Op = 4 then (if (up.getD .nil).isPan then bodyS rc r (some .nil) fuel (out++[(up.getD .nil).val]) late else bodyS rc r up fuel (out++[-1]) late)
  else if d.Op = 5 then bodyS rc r up fuel (out++[d.A]) late
  else if d.Op = 6 then (.nil,fuel,out,late,up)
  else bodyS rc r up fuel out late
def lateS (rc:Err→Int→Nat→List Int→CR):List Int→Err→Nat→List Int→Err×Nat×List Int
 | [],e,fuel,out=>(e,fuel,out)
 | g::r,e,fuel,out=>if e = .tired then (e,fuel,out) else
  lateS rc r (if (rc e g fuel out).1 = .nil then (rc e g fuel out).2.2.2.getD .nil else (rc e g fuel out).1) (rc e g fuel out).2.1 (rc e g fuel out).2.2.1
def callS (funcs:List (List Deed)):Nat→Option Err→Int→Nat→List Int→CR
 | 0,up,f,fuel,out=>(.tired,fuel,out,up)
 | d+1,up,f,fuel,out =>
  let b:=bodyS (fun A fu o=>callS funcs d none A fu o) (ix funcs f) up fuel out []
  let l:=lateS (fun e g fu o=>callS funcs d (some e) g fu o) b.2.2.2.1.reverse b.1 b.2.1 b.2.2.1
  (l.1,l.2.1,l.2.2,b.2.2.2.2)
def LeC (c:CR) (fu:Nat) (o:List Int):Prop:=c.2.1+c.2.2.1.length≤fu+o.length∧c.2.1≤fu
theorem bodyS_le {rc:Int→Nat→List Int→CR} (h:∀ A fu o,LeC (rc A fu o) fu o):∀ (r:List Deed) (up:Option Err) (fuel:Nat) (out late:List Int),
  (bodyS rc r up fuel out late).2.1+(bodyS rc r up fuel out late).2.2.1.length≤fuel+out.length∧(bodyS rc r up fuel out late).2.1≤fuel∧(bodyS rc r up fuel out late).2.1+(bodyS rc r up fuel out late).2.2.2.1.length≤fuel+late.length
 | [],up,fuel,out,late=>⟨Nat.le_refl _,Nat.le_refl _,Nat.le_refl _⟩
 | d::r,up,0,out,late=>⟨Nat.le_refl _,Nat.le_refl _,Nat.le_refl _⟩
 | d::r,up,fuel+1,out,late=>by
  have hc:=h d.A fuel out
  unfold LeC at hc
  unfold bodyS
  have i1:=bodyS_le h r up (rc d.A fuel out).2.1 (rc d.A fuel out).2.2.1 late
  have i2:=bodyS_le h r up fuel out (late++[d.A])
  have i4:=bodyS_le h r (some .nil) fuel (out++[(up.getD .nil).val]) late
  have i5:=bodyS_le h r up fuel (out++[-1]) late
  have i6:=bodyS_le h r up fuel (out++[d.A]) late
  have i7:=bodyS_le h r up fuel out late
  simp only [List.length_append,List.length_cons,List.length_nil] at i1 i2 i4 i5 i6 i7
  split
  ·split
   ·omega
   ·simp only; omega
  split
  ·omega
  split
  ·simp only; omega
  split
  ·split <;> omega
  split
  ·omega
  split
  ·simp only; omega
  ·omega
theorem lateS_le {rc:Err→Int→Nat→List Int→CR} (h:∀ e A fu o,LeC (rc e A fu o) fu o):∀ (r:List Int) (e:Err) (fuel:Nat) (out:List Int),
  (lateS rc r e fuel out).2.1+(lateS rc r e fuel out).2.2.length≤fuel+out.length∧(lateS rc r e fuel out).2.1≤fuel
 | [],e,fuel,out=>⟨Nat.le_refl _,Nat.le_refl _⟩
 | g::r,e,fuel,out=>by
  unfold lateS
  split
  ·exact ⟨Nat.le_refl _,Nat.le_refl _⟩
  ·have hc:=h e g fuel out
   unfold LeC at hc
   have:=lateS_le h r (if (rc e g fuel out).1 = .nil then (rc e g fuel out).2.2.2.getD .nil else (rc e g fuel out).1) (rc e g fuel out).2.1 (rc e g fuel out).2.2.1
   omega
theorem callS_le (funcs:List (List Deed)):∀ (d:Nat) (up:Option Err) (f:Int) (fuel:Nat) (out:List Int),LeC (callS funcs d up f fuel out) fuel out
 | 0,up,f,fuel,out=>⟨Nat.le_refl _,Nat.le_refl _⟩
 | d+1,up,f,fuel,out=>by
  have h1:=bodyS_le (rc:=fun A fu o=>callS funcs d none A fu o) (fun A fu o=>callS_le funcs d none A fu o) (ix funcs f) up fuel out []
  have h2:=lateS_le (rc:=fun e g fu o=>callS funcs d (some e) g fu o) (fun e A fu o=>callS_le funcs d (some e) A fu o) (bodyS (fun A fu o=>callS funcs d none A fu o) (ix funcs f) up fuel out []).2.2.2.1.reverse (bodyS (fun A fu o=>callS funcs d none A fu o) (ix funcs f) up fuel out []).1 (bodyS (fun A fu o=>callS funcs d none A fu o) (ix funcs f) up fuel out []).2.1 (bodyS (fun A fu o=>callS funcs d none A fu o) (ix funcs f) up fuel out []).2.2.1
  unfold LeC callS
  simp only
  omega
def Ok (funcs:List (List Deed)):Prop:=∀ l ∈ funcs,l.length≤100∧∀ d ∈ l,d.Op = 1∨d.Op = 2→0≤d.A∧d.A < (funcs.length:Int)
def In (funcs:List (List Deed)) (A:Int):Prop:=0≤A∧A < (funcs.length:Int)
theorem bodyS_late {funcs:List (List Deed)} {rc:Int→Nat→List Int→CR}:∀ (r:List Deed) (hr:∀ d ∈ r,d.Op = 1∨d.Op = 2→In funcs d.A) (up:Option Err) (fuel:Nat) (out late:List Int),(∀ g ∈ late,In funcs g)→∀ g ∈ (bodyS rc r up fuel out late).2.2.2.1,In funcs g
 | [],hr,up,fuel,out,late,hl=>hl
 | d::r,hr,up,0,out,late,hl=>hl
 | d::r,hr,up,fuel+1,out,late,hl=>by
  have hr':∀ d ∈ r,d.Op = 1∨d.Op = 2→In funcs d.A:=fun x hx=>hr x (by simp [hx])
  unfold bodyS
  split
  ·split
   ·exact bodyS_late r hr' _ _ _ _ hl
   ·exact hl
  split
  ·rename_i h2
   exact bodyS_late r hr' _ _ _ _ (fun g hg=>by
    rcases List.mem_append.1 hg with h | h
    ·exact hl g h
    ·rw [List.mem_singleton.1 h]; exact hr d (by simp) (.inr h2))
  split
  ·exact hl
  split
  ·split <;> exact bodyS_late r hr' _ _ _ _ hl
  split
  ·exact bodyS_late r hr' _ _ _ _ hl
  split
  ·exact hl
  ·exact bodyS_late r hr' _ _ _ _ hl
theorem bodyS_up {rc:Int→Nat→List Int→CR}:∀ (r:List Deed) (up:Err) (fuel:Nat) (out late:List Int),∃ x,(bodyS rc r (some up) fuel out late).2.2.2.2 = some x
 | [],up,fuel,out,late=>⟨_,rfl⟩
 | d::r,up,0,out,late=>⟨_,rfl⟩
 | d::r,up,fuel+1,out,late=>by
  unfold bodyS
  split
  ·split
   ·exact bodyS_up r _ _ _ _
   ·exact ⟨_,rfl⟩
  split
  ·exact bodyS_up r _ _ _ _
  split
  ·exact ⟨_,rfl⟩
  split
  ·split <;> exact bodyS_up r _ _ _ _
  split
  ·exact bodyS_up r _ _ _ _
  split
  ·exact ⟨_,rfl⟩
  ·exact bodyS_up r _ _ _ _
theorem callS_up (funcs:List (List Deed)) (d:Nat) (up:Err) (f:Int) (fuel:Nat) (out:List Int):∃ x,(callS funcs d (some up) f fuel out).2.2.2 = some x:=by
 cases d with
 | zero=>exact ⟨_,rfl⟩
 | succ d=>exact bodyS_up _ _ _ _ _
end Go.Proofs.YteelocnklamegaaDoor
end

section
namespace Go.Proofs.YteelocnklamegaaDoor
open Go Go.Sx
set_option linter.unusedVariables false
set_option linter.unusedSimpArgs false
abbrev RN:=Int→(List (List Deed))→Int→Int→(List Int)→Option (Err×(List (List Deed))×Int×Int×(List Int))
abbrev RU:=Int→(List (List Deed))→Int→Int→Err→(List Int)→Option (Err×(List (List Deed))×Int×Int×(List Int)×Err)
def OkN (funcs:List (List Deed)) (rcf:RN) (rc:Int→Nat→List Int→CR) (deep:Int):Prop :=
∀A fu (o:List Int),In funcs A→fu+o.length≤5000→∃ dp,rcf A funcs ((fu:Nat):Int) deep o = some ((rc A fu o).1,funcs,(((rc A fu o).2.1:Nat):Int),dp,(rc A fu o).2.2.1)∧((rc A fu o).1≠.tired→dp = deep)
theorem wrap1 (n:Nat) (h:n < 100000):IntKind.i64.wrap (((n+1:Nat):Int) - 1) = (n:Int):=by rw [wrap_id (by omega) (by omega)]; omega
theorem room1 {α:Type} (xs:List α) (y:α) (h:xs.length≤100000):decide ((xs++[y]).length * 8≤140737488355328) = true:=by
 rw [List.length_append,List.length_singleton]; exact decide_eq_true (by omega)
theorem dec1 (n:Nat):((((n+1:Nat):Int)) == 0) = false:=by rw [beq_eq_false_iff_ne]; omega
theorem opF {a b:Int} (h:¬ a = b):(a == b) = false:=by simpa using h
theorem opT {a b:Int} (h:a = b):(a == b) = true:=by simpa using h
theorem bodyN_loop {funcs:List (List Deed)} {f:Int} {l:List Deed} (hl:ix funcs f = l) (hlen:l.length≤100) (hin:∀ d ∈ l,d.Op = 1∨d.Op = 2→In funcs d.A) {rcf:RN} {rc:Int→Nat→List Int→CR} {deep:Int} (hrc:OkN funcs rcf rc deep) (hle:∀ A fu o,LeC (rc A fu o) fu o) :
 ∀(r:List Deed) (i:Nat) (fuel:Nat) (out late:List Int),l.drop i = r→fuel+out.length≤5000→fuel+late.length≤5000 →
  ∃dp,loopO (frame_player_body_l1 f funcs rcf) ((i:Int),funcs,(fuel:Int),deep,out,late) = some ((bodyS rc r none fuel out late).1,funcs,(((bodyS rc r none fuel out late).2.1:Nat):Int),dp,(bodyS rc r none fuel out late).2.2.1,(bodyS rc r none fuel out late).2.2.2.1)∧((bodyS rc r none fuel out late).1≠.tired→dp = deep)
 | [],i,fuel,out,late,hd,ho,hla=>by
  have hi:l.length≤i:=by simpa using hd
  refine ⟨deep,loopO_inr ?_,fun _=>rfl⟩
  simp only [frame_player_body_l1,hl]
  rw [decide_eq_false (by omega),cond_false]; rfl
 | d::r,i,fuel,out,late,hd,ho,hla=>by
  have hi:i < l.length:=by
   rcases Nat.lt_or_ge i l.length with h | h
   ·exact h
   ·rw [List.drop_eq_nil_of_le h] at hd; cases hd
  have hcons:=List.drop_eq_getElem_cons hi
  rw [hd] at hcons
  simp only [List.cons.injEq] at hcons
  obtain ⟨hdi,hr⟩:=hcons
  have hx:ix l (i:Int) = d:=by rw [ix_get hi,hdi]
  have hdl:d ∈ l:=hdi ▸ List.getElem_mem hi
  have t1:decide ((i:Int) < (l.length:Int)) = true:=decide_eq_true (by omega)
  have t2:decide ((0:Int)≤(i:Int)) = true:=decide_eq_true (by omega)
  have hi1:IntKind.i64.wrap ((i:Int)+1) = ((i+1:Nat):Int):=by rw [wrap_id (by omega) (by omega)]; omega
  have ih:=fun fuel out late=>bodyN_loop hl hlen hin hrc hle r (i+1) fuel out late hr.symm
  cases fuel with
  | zero =>
   refine ⟨deep,loopO_inr ?_,fun h=>absurd rfl h⟩
   simp only [frame_player_body_l1,hl,t1,t2,Bool.and_self,cond_true]
   rfl
  | succ fuel =>
   have hw:=wrap1 fuel (by omega)
   by_cases h1:d.Op = 1
   ·obtain ⟨dp,e1,e2⟩:=hrc d.A fuel out (hin d hdl (.inl h1)) (by omega)
    have hc:=hle d.A fuel out
    unfold LeC at hc
    by_cases hn:(rc d.A fuel out).1 = .nil
    ·have hdp:dp = deep:=e2 (by rw [hn]; simp)
     subst hdp
     have eb:bodyS rc (d::r) none (fuel+1) out late = bodyS rc r none (rc d.A fuel out).2.1 (rc d.A fuel out).2.2.1 late:=by
      rw [bodyS,if_pos h1,if_pos hn]
     rw [eb]
     obtain ⟨dp',i1,i2⟩:=ih (rc d.A fuel out).2.1 (rc d.A fuel out).2.2.1 late (by omega) (by omega)
     refine ⟨dp',(loopO_inl ?_).trans i1,i2⟩
     simp only [frame_player_body_l1,frame_player_body_j1,hl,t1,t2,hx,Bool.and_self,cond_true,dec1,cond_false,opT h1,hw,e1,Option.bind_some,hn,decide_true,Bool.not_true,hi1]
    ·have eb:bodyS rc (d::r) none (fuel+1) out late = ((rc d.A fuel out).1,(rc d.A fuel out).2.1,(rc d.A fuel out).2.2.1,late,none):=by
      rw [bodyS,if_pos h1,if_neg hn]
     rw [eb]
     refine ⟨dp,loopO_inr ?_,e2⟩
     simp only [frame_player_body_l1,hl,t1,t2,hx,Bool.and_self,cond_true,dec1,cond_false,opT h1,hw,e1,Option.bind_some,hn,decide_false,Bool.not_false]
     rfl
   by_cases h2:d.Op = 2
   ·have eb:bodyS rc (d::r) none (fuel+1) out late = bodyS rc r none fuel out (late++[d.A]):=by rw [bodyS,if_neg h1,if_pos h2]
    rw [eb]
    obtain ⟨dp',i1,i2⟩:=ih fuel out (late++[d.A]) (by omega) (by rw [List.length_append,List.length_singleton]; omega)
    refine ⟨dp',(loopO_inl ?_).trans i1,i2⟩
    simp only [frame_player_body_l1,frame_player_body_j1,hl,t1,t2,hx,Bool.and_self,cond_true,dec1,cond_false,opF h1,opT h2,hw,room1 late d.A (by omega),hi1]
   by_cases h3:d.Op = 3
   ·have eb:bodyS rc (d::r) none (fuel+1) out late = (.pan d.A,fuel,out,late,none):=by rw [bodyS,if_neg h1,if_neg h2,if_pos h3]
    rw [eb]
    refine ⟨deep,loopO_inr ?_,fun _=>rfl⟩
    simp only [frame_player_body_l1,hl,t1,t2,hx,Bool.and_self,cond_true,dec1,cond_false,opF h1,opF h2,opT h3,hw]
    rfl
   by_cases h4:d.Op = 4
   ·have eb:bodyS rc (d::r) none (fuel+1) out late = bodyS rc r none fuel (out++[-1]) late:=by
     rw [bodyS,if_neg h1,if_neg h2,if_neg h3,if_pos h4]; rfl
    rw [eb]
    obtain ⟨dp',i1,i2⟩:=ih fuel (out++[-1]) late (by rw [List.length_append,List.length_singleton]; omega) (by omega)
    refine ⟨dp',(loopO_inl ?_).trans i1,i2⟩
    simp only [frame_player_body_l1,frame_player_body_j1,hl,t1,t2,hx,Bool.and_self,cond_true,dec1,cond_false,opF h1,opF h2,opF h3,opT h4,hw,room1 out (-1) (by omega),hi1]
   by_cases h5:d.Op = 5
   ·have eb:bodyS rc (d::r) none (fuel+1) out late = bodyS rc r none fuel (out++[d.A]) late:=by
     rw [bodyS,if_neg h1,if_neg h2,if_neg h3,if_neg h4,if_pos h5]
    rw [eb]
    obtain ⟨dp',i1,i2⟩:=ih fuel (out++[d.A]) late (by rw [List.length_append,List.length_singleton]; omega) (by omega)
    refine ⟨dp',(loopO_inl ?_).trans i1,i2⟩
    simp only [frame_player_body_l1,frame_player_body_j1,hl,t1,t2,hx,Bool.and_self,cond_true,dec1,cond_false,opF h1,opF h2,opF h3,opF h4,opT h5,hw,room1 out d.A (by omega),hi1]
   by_cases h6:d.Op = 6
   ·have eb:bodyS rc (d::r) none (fuel+1) out late = (.nil,fuel,out,late,none):=by rw [bodyS,if_neg h1,if_neg h2,if_neg h3,if_neg h4,if_neg h5,if_pos h6]
    rw [eb]
    refine ⟨deep,loopO_inr ?_,fun _=>rfl⟩
    simp only [frame_player_body_l1,hl,t1,t2,hx,Bool.and_self,cond_true,dec1,cond_false,opF h1,opF h2,opF h3,opF h4,opF h5,opT h6,hw]
    rfl
   ·have eb:bodyS rc (d::r) none (fuel+1) out late = bodyS rc r none fuel out late:=by rw [bodyS,if_neg h1,if_neg h2,if_neg h3,if_neg h4,if_neg h5,if_neg h6]
    rw [eb]
    obtain ⟨dp',i1,i2⟩:=ih fuel out late (by omega) (by omega)
    refine ⟨dp',(loopO_inl ?_).trans i1,i2⟩
    simp only [frame_player_body_l1,frame_player_body_j1,hl,t1,t2,hx,Bool.and_self,cond_true,dec1,cond_false,opF h1,opF h2,opF h3,opF h4,opF h5,opF h6,hw,hi1]
end Go.Proofs.YteelocnklamegaaDoor
end

section
namespace Go.Proofs.YteelocnklamegaaDoor
open Go Go.Sx
set_option linter.unusedVariables false
set_option linter.unusedSimpArgs false
theorem bodyU_loop {funcs:List (List Deed)} {f:Int} {l:List Deed} (hl:ix funcs f = l) (hlen:l.length≤100) (hin:∀ d ∈ l,d.Op = 1∨d.Op = 2→In funcs d.A) {rcf:RN} {rc:Int→Nat→List Int→CR} {deep:Int} (hrc:OkN funcs rcf rc deep) (hle:∀ A fu o,LeC (rc A fu o) fu o) :
 ∀(r:List Deed) (i:Nat) (up:Err) (fuel:Nat) (out late:List Int),l.drop i = r→fuel+out.length≤5000→fuel+late.length≤5000 →
  ∃dp,loopO (frame_player_body_1_l1 f funcs rcf) ((i:Int),funcs,(fuel:Int),deep,up,out,late) = some ((bodyS rc r (some up) fuel out late).1,funcs,(((bodyS rc r (some up) fuel out late).2.1:Nat):Int),dp,(bodyS rc r (some up) fuel out late).2.2.1,(bodyS rc r (some up) fuel out late).2.2.2.1,(bodyS rc r (some up) fuel out late).2.2.2.2.getD .nil)∧((bodyS rc r (some up) fuel out late).1≠.tired→dp = deep)
 | [],i,up,fuel,out,late,hd,ho,hla=>by
  have hi:l.length≤i:=by simpa using hd
  refine ⟨deep,loopO_inr ?_,fun _=>rfl⟩
  simp only [frame_player_body_1_l1,hl]
  rw [decide_eq_false (by omega),cond_false]; rfl
 | d::r,i,up,fuel,out,late,hd,ho,hla=>by
  have hi:i < l.length:=by
   rcases Nat.lt_or_ge i l.length with h | h
   ·exact h
   ·rw [List.drop_eq_nil_of_le h] at hd; cases hd
  have hcons:=List.drop_eq_getElem_cons hi
  rw [hd] at hcons
  simp only [List.cons.injEq] at hcons
  obtain ⟨hdi,hr⟩:=hcons
  have hx:ix l (i:Int) = d:=by rw [ix_get hi,hdi]
  have hdl:d ∈ l:=hdi ▸ List.getElem_mem hi
  have t1:decide ((i:Int) < (l.length:Int)) = true:=decide_eq_true (by omega)
  have t2:decide ((0:Int)≤(i:Int)) = true:=decide_eq_true (by omega)
  have hi1:IntKind.i64.wrap ((i:Int)+1) = ((i+1:Nat):Int):=by rw [wrap_id (by omega) (by omega)]; omega
  have ih:=fun up fuel out late=>bodyU_loop hl hlen hin hrc hle r (i+1) up fuel out late hr.symm
  cases fuel with
  | zero =>
   refine ⟨deep,loopO_inr ?_,fun h=>absurd rfl h⟩
   simp only [frame_player_body_1_l1,hl,t1,t2,Bool.and_self,cond_true]
   rfl
  | succ fuel =>
   have hw:=wrap1 fuel (by omega)
   by_cases h1:d.Op = 1
   ·obtain ⟨dp,e1,e2⟩:=hrc d.A fuel out (hin d hdl (.inl h1)) (by omega)
    have hc:=hle d.A fuel out
    unfold LeC at hc
    by_cases hn:(rc d.A fuel out).1 = .nil
    ·have hdp:dp = deep:=e2 (by rw [hn]; simp)
     subst hdp
     have eb:bodyS rc (d::r) (some up) (fuel+1) out late = bodyS rc r (some up) (rc d.A fuel out).2.1 (rc d.A fuel out).2.2.1 late:=by
      rw [bodyS,if_pos h1,if_pos hn]
     rw [eb]
     obtain ⟨dp',i1,i2⟩:=ih up (rc d.A fuel out).2.1 (rc d.A fuel out).2.2.1 late (by omega) (by omega)
     refine ⟨dp',(loopO_inl ?_).trans i1,i2⟩
     simp only [frame_player_body_1_l1,frame_player_body_1_j1,hl,t1,t2,hx,Bool.and_self,cond_true,dec1,cond_false,opT h1,hw,e1,Option.bind_some,hn,decide_true,Bool.not_true,hi1]
    ·have eb:bodyS rc (d::r) (some up) (fuel+1) out late = ((rc d.A fuel out).1,(rc d.A fuel out).2.1,(rc d.A fuel out).2.2.1,late,some up):=by
      rw [bodyS,if_pos h1,if_neg hn]
     rw [eb]
     refine ⟨dp,loopO_inr ?_,e2⟩
     simp only [frame_player_body_1_l1,hl,t1,t2,hx,Bool.and_self,cond_true,dec1,cond_false,opT h1,hw,e1,Option.bind_some,hn,decide_false,Bool.not_false]
     rfl
   by_cases h2:d.Op = 2
   ·have eb:bodyS rc (d::r) (some up) (fuel+1) out late = bodyS rc r (some up) fuel out (late++[d.A]):=by rw [bodyS,if_neg h1,if_pos h2]
    rw [eb]
    obtain ⟨dp',i1,i2⟩:=ih up fuel out (late++[d.A]) (by omega) (by rw [List.length_append,List.length_singleton]; omega)
    refine ⟨dp',(loopO_inl ?_).trans i1,i2⟩
    simp only [frame_player_body_1_l1,frame_player_body_1_j1,hl,t1,t2,hx,Bool.and_self,cond_true,dec1,cond_false,opF h1,opT h2,hw,room1 late d.A (by omega),hi1]
   by_cases h3:d.Op = 3
   ·have eb:bodyS rc (d::r) (some up) (fuel+1) out late = (.pan d.A,fuel,out,late,some up):=by rw [bodyS,if_neg h1,if_neg h2,if_pos h3]
    rw [eb]
    refine ⟨deep,loopO_inr ?_,fun _=>rfl⟩
    simp only [frame_player_body_1_l1,hl,t1,t2,hx,Bool.and_self,cond_true,dec1,cond_false,opF h1,opF h2,opT h3,hw]
    rfl
   by_cases h4:d.Op = 4
   ·by_cases hp:up.isPan = true
    ·have eb:bodyS rc (d::r) (some up) (fuel+1) out late = bodyS rc r (some .nil) fuel (out++[up.val]) late:=by
      rw [bodyS,if_neg h1,if_neg h2,if_neg h3,if_pos h4]; simp only [Option.getD_some]; rw [if_pos hp]
     rw [eb]
     obtain ⟨dp',i1,i2⟩:=ih .nil fuel (out++[up.val]) late (by rw [List.length_append,List.length_singleton]; omega) (by omega)
     refine ⟨dp',(loopO_inl ?_).trans i1,i2⟩
     simp only [frame_player_body_1_l1,frame_player_body_1_j1,errors_As,Option.bind_some,hp,hl,t1,t2,hx,Bool.and_self,cond_true,dec1,cond_false,opF h1,opF h2,opF h3,opT h4,hw,room1 out up.val (by omega),hi1]
    ·have hp':up.isPan = false:=by simpa using hp
     have eb:bodyS rc (d::r) (some up) (fuel+1) out late = bodyS rc r (some up) fuel (out++[-1]) late:=by
      rw [bodyS,if_neg h1,if_neg h2,if_neg h3,if_pos h4]; simp only [Option.getD_some]; rw [if_neg hp]
     rw [eb]
     obtain ⟨dp',i1,i2⟩:=ih up fuel (out++[-1]) late (by rw [List.length_append,List.length_singleton]; omega) (by omega)
     refine ⟨dp',(loopO_inl ?_).trans i1,i2⟩
     simp only [frame_player_body_1_l1,frame_player_body_1_j1,errors_As_1,Option.bind_some,hp',hl,t1,t2,hx,Bool.and_self,cond_true,dec1,cond_false,opF h1,opF h2,opF h3,opT h4,hw,room1 out (-1) (by omega),hi1]
   by_cases h5:d.Op = 5
   ·have eb:bodyS rc (d::r) (some up) (fuel+1) out late = bodyS rc r (some up) fuel (out++[d.A]) late:=by
     rw [bodyS,if_neg h1,if_neg h2,if_neg h3,if_neg h4,if_pos h5]
    rw [eb]
    obtain ⟨dp',i1,i2⟩:=ih up fuel (out++[d.A]) late (by rw [List.length_append,List.length_singleton]; omega) (by omega)
    refine ⟨dp',(loopO_inl ?_).trans i1,i2⟩
    simp only [frame_player_body_1_l1,frame_player_body_1_j1,hl,t1,t2,hx,Bool.and_self,cond_true,dec1,cond_false,opF h1,opF h2,opF h3,opF h4,opT h5,hw,room1 out d.A (by omega),hi1]
   by_cases h6:d.Op = 6
   ·have eb:bodyS rc (d::r) (some up) (fuel+1) out late = (.nil,fuel,out,late,some up):=by rw [bodyS,if_neg h1,if_neg h2,if_neg h3,if_neg h4,if_neg h5,if_pos h6]
    rw [eb]
    refine ⟨deep,loopO_inr ?_,fun _=>rfl⟩
    simp only [frame_player_body_1_l1,hl,t1,t2,hx,Bool.and_self,cond_true,dec1,cond_false,opF h1,opF h2,opF h3,opF h4,opF h5,opT h6,hw]
    rfl
   ·have eb:bodyS rc (d::r) (some up) (fuel+1) out late = bodyS rc r (some up) fuel out late:=by rw [bodyS,if_neg h1,if_neg h2,if_neg h3,if_neg h4,if_neg h5,if_neg h6]
    rw [eb]
    obtain ⟨dp',i1,i2⟩:=ih up fuel out late (by omega) (by omega)
    refine ⟨dp',(loopO_inl ?_).trans i1,i2⟩
    simp only [frame_player_body_1_l1,frame_player_body_1_j1,hl,t1,t2,hx,Bool.and_self,cond_true,dec1,cond_false,opF h1,opF h2,opF h3,opF h4,opF h5,opF h6,hw,hi1]
def OkU (funcs:List (List Deed)) (rcg:RU) (rc:Err→Int→Nat→List Int→CR) (deep:Int):Prop :=
∀e A fu (o:List Int),In funcs A→fu+o.length≤5000→∃ dp,rcg A funcs ((fu:Nat):Int) deep e o = some ((rc e A fu o).1,funcs,(((rc e A fu o).2.1:Nat):Int),dp,(rc e A fu o).2.2.1,(rc e A fu o).2.2.2.getD .nil)∧((rc e A fu o).1≠.tired→dp = deep)
theorem lastB {lt:List Int} {g:Int} (h:(lt++[g]).length≤100000):IntKind.i64.wrap ((((lt++[g]).length:Nat):Int) - 1) = (lt.length:Int):=by
 rw [List.length_append,List.length_singleton] at h ⊢
 rw [wrap_id (by omega) (by omega)]; omega
theorem lastX (lt:List Int) (g:Int):ix (lt++[g]) (lt.length:Int) = g:=by
 rw [ix_get (by simp)]; simp
theorem lastC (lt:List Int) (g:Int):cut (lt++[g]) (0:Int) (lt.length:Int) = lt:=by rw [cut_take]; simp
theorem is_tired (e:Err):errors_Is e Err.tired = some (decide (e = .tired)):=by unfold errors_Is; simp
theorem lateN_loop {funcs:List (List Deed)} {rcf:RN} {rc:Err→Int→Nat→List Int→CR} {deep:Int} (hrc:OkU funcs (frame_player_call_3 rcf) rc deep) (hle:∀ e A fu o,LeC (rc e A fu o) fu o) :
 ∀(rl:List Int) (e:Err) (fuel:Nat) (out:List Int) (dp:Int),(∀ g ∈ rl,In funcs g)→rl.length≤5000→fuel+out.length≤5000→(e≠.tired→dp = deep) →
  ∃dp',loopO (frame_player_call_1_l1 rcf) (e,rl.reverse,funcs,(fuel:Int),dp,out) = some ((lateS rc rl e fuel out).1,funcs,(((lateS rc rl e fuel out).2.1:Nat):Int),dp',(lateS rc rl e fuel out).2.2)∧((lateS rc rl e fuel out).1≠.tired→dp' = IntKind.i64.wrap (deep - 1))
 | [],e,fuel,out,dp,hin,hlen,ho,hd=>by
  refine ⟨IntKind.i64.wrap (dp - 1),loopO_inr ?_,fun h=>by rw [hd h]⟩
  simp [frame_player_call_1_l1,frame_player_call_1_j1,frame_player_call_1_1,lateS]
 | g::rl,e,fuel,out,dp,hin,hlen,ho,hd=>by
  simp only [List.length_cons] at hlen
  rw [List.reverse_cons]
  have hrl:rl.reverse.length = rl.length:=List.length_reverse ..
  have hpos:decide ((0:Int) < (((rl.reverse++[g]).length:Nat):Int)) = true:=decide_eq_true (by rw [List.length_append,List.length_singleton]; omega)
  by_cases ht:e = .tired
  ·have eb:lateS rc (g::rl) e fuel out = (e,fuel,out):=by rw [lateS,if_pos ht]
   rw [eb]
   refine ⟨IntKind.i64.wrap (dp - 1),loopO_inr ?_,fun h=>absurd ht h⟩
   simp only [frame_player_call_1_l1,hpos,cond_true,is_tired,Option.bind_some,ht,decide_true,Bool.not_true,frame_player_call_1_j1,cond_false,frame_player_call_1_1]
   rfl
  ·have hdp:=hd ht
   subst hdp
   obtain ⟨dp2,e1,e2⟩:=hrc e g fuel out (hin g (by simp)) ho
   have hc:=hle e g fuel out
   unfold LeC at hc
   have eb:lateS rc (g::rl) e fuel out = lateS rc rl (if (rc e g fuel out).1 = .nil then (rc e g fuel out).2.2.2.getD .nil else (rc e g fuel out).1) (rc e g fuel out).2.1 (rc e g fuel out).2.2.1:=by rw [lateS,if_neg ht]
   rw [eb]
   have hb:=lastB (lt:=rl.reverse) (g:=g) (by rw [List.length_append,List.length_singleton]; omega)
   have t1:decide ((0:Int)≤(rl.reverse.length:Int)) = true:=decide_eq_true (by omega)
   have t2:decide ((rl.reverse.length:Int) < (((rl.reverse++[g]).length:Nat):Int)) = true:=decide_eq_true (by rw [List.length_append,List.length_singleton]; omega)
   have t3:decide ((rl.reverse.length:Int)≤(((rl.reverse++[g]).length:Nat):Int)) = true:=decide_eq_true (by rw [List.length_append,List.length_singleton]; omega)
   by_cases hn:(rc e g fuel out).1 = .nil
   ·obtain ⟨dp3,i1,i2⟩:=lateN_loop hrc hle rl ((rc e g fuel out).2.2.2.getD .nil) (rc e g fuel out).2.1 (rc e g fuel out).2.2.1 dp2 (fun x hx=>hin x (by simp [hx])) (by omega) (by omega) (fun _=>e2 (by rw [hn]; simp))
    rw [if_pos hn]
    refine ⟨dp3,(loopO_inl ?_).trans i1,i2⟩
    simp only [frame_player_call_1_l1,hpos,cond_true,is_tired,Option.bind_some,ht,decide_false,Bool.not_false,frame_player_call_1_j1,hb,t1,t2,t3,Bool.and_self,lastX,lastC,e1,hn,decide_true,Bool.not_true,cond_false]
   ·obtain ⟨dp3,i1,i2⟩:=lateN_loop hrc hle rl (rc e g fuel out).1 (rc e g fuel out).2.1 (rc e g fuel out).2.2.1 dp2 (fun x hx=>hin x (by simp [hx])) (by omega) (by omega) e2
    rw [if_neg hn]
    refine ⟨dp3,(loopO_inl ?_).trans i1,i2⟩
    simp only [frame_player_call_1_l1,hpos,cond_true,is_tired,Option.bind_some,ht,decide_false,Bool.not_false,frame_player_call_1_j1,hb,t1,t2,t3,Bool.and_self,lastX,lastC,e1,hn]
theorem lateU_loop {funcs:List (List Deed)} {rcg:RU} {rc:Err→Int→Nat→List Int→CR} {deep:Int} (hrc:OkU funcs rcg rc deep) (hle:∀ e A fu o,LeC (rc e A fu o) fu o) :
 ∀(rl:List Int) (e:Err) (fuel:Nat) (out:List Int) (dp:Int) (up:Err),(∀ g ∈ rl,In funcs g)→rl.length≤5000→fuel+out.length≤5000→(e≠.tired→dp = deep) →
  ∃dp',loopO (frame_player_call_3_l1 rcg) (e,rl.reverse,funcs,(fuel:Int),dp,out,up) = some ((lateS rc rl e fuel out).1,funcs,(((lateS rc rl e fuel out).2.1:Nat):Int),dp',(lateS rc rl e fuel out).2.2,up)∧((lateS rc rl e fuel out).1≠.tired→dp' = IntKind.i64.wrap (deep - 1))
 | [],e,fuel,out,dp,up,hin,hlen,ho,hd=>by
  refine ⟨IntKind.i64.wrap (dp - 1),loopO_inr ?_,fun h=>by rw [hd h]⟩
  simp [frame_player_call_3_l1,frame_player_call_3_j1,frame_player_call_1_1,lateS]
 | g::rl,e,fuel,out,dp,up,hin,hlen,ho,hd=>by
  simp only [List.length_cons] at hlen
  rw [List.reverse_cons]
  have hrl:rl.reverse.length = rl.length:=List.length_reverse ..
  have hpos:decide ((0:Int) < (((rl.reverse++[g]).length:Nat):Int)) = true:=decide_eq_true (by rw [List.length_append,List.length_singleton]; omega)
  by_cases ht:e = .tired
  ·have eb:lateS rc (g::rl) e fuel out = (e,fuel,out):=by rw [lateS,if_pos ht]
   rw [eb]
   refine ⟨IntKind.i64.wrap (dp - 1),loopO_inr ?_,fun h=>absurd ht h⟩
   simp only [frame_player_call_3_l1,hpos,cond_true,is_tired,Option.bind_some,ht,decide_true,Bool.not_true,frame_player_call_3_j1,cond_false,frame_player_call_1_1]
   rfl
  ·have hdp:=hd ht
   subst hdp
   obtain ⟨dp2,e1,e2⟩:=hrc e g fuel out (hin g (by simp)) ho
   have hc:=hle e g fuel out
   unfold LeC at hc
   have eb:lateS rc (g::rl) e fuel out = lateS rc rl (if (rc e g fuel out).1 = .nil then (rc e g fuel out).2.2.2.getD .nil else (rc e g fuel out).1) (rc e g fuel out).2.1 (rc e g fuel out).2.2.1:=by rw [lateS,if_neg ht]
   rw [eb]
   have hb:=lastB (lt:=rl.reverse) (g:=g) (by rw [List.length_append,List.length_singleton]; omega)
   have t1:decide ((0:Int)≤(rl.reverse.length:Int)) = true:=decide_eq_true (by omega)
   have t2:decide ((rl.reverse.length:Int) < (((rl.reverse++[g]).length:Nat):Int)) = true:=decide_eq_true (by rw [List.length_append,List.length_singleton]; omega)
   have t3:decide ((rl.reverse.length:Int)≤(((rl.reverse++[g]).length:Nat):Int)) = true:=decide_eq_true (by rw [List.length_append,List.length_singleton]; omega)
   by_cases hn:(rc e g fuel out).1 = .nil
   ·obtain ⟨dp3,i1,i2⟩:=lateU_loop hrc hle rl ((rc e g fuel out).2.2.2.getD .nil) (rc e g fuel out).2.1 (rc e g fuel out).2.2.1 dp2 up (fun x hx=>hin x (by simp [hx])) (by omega) (by omega) (fun _=>e2 (by rw [hn]; simp))
    rw [if_pos hn]
    refine ⟨dp3,(loopO_inl ?_).trans i1,i2⟩
    simp only [frame_player_call_3_l1,hpos,cond_true,is_tired,Option.bind_some,ht,decide_false,Bool.not_false,frame_player_call_3_j1,hb,t1,t2,t3,Bool.and_self,lastX,lastC,e1,hn,decide_true,Bool.not_true,cond_false]
   ·obtain ⟨dp3,i1,i2⟩:=lateU_loop hrc hle rl (rc e g fuel out).1 (rc e g fuel out).2.1 (rc e g fuel out).2.2.1 dp2 up (fun x hx=>hin x (by simp [hx])) (by omega) (by omega) e2
    rw [if_neg hn]
    refine ⟨dp3,(loopO_inl ?_).trans i1,i2⟩
    simp only [frame_player_call_3_l1,hpos,cond_true,is_tired,Option.bind_some,ht,decide_false,Bool.not_false,frame_player_call_3_j1,hb,t1,t2,t3,Bool.and_self,lastX,lastC,e1,hn]
end Go.Proofs.YteelocnklamegaaDoor
end

section
namespace Go.Proofs.YteelocnklamegaaDoor
open Go Go.Sx
set_option linter.unusedVariables false
set_option linter.unusedSimpArgs false
theorem ix_in {funcs:List (List Deed)} {f:Int} (h:In funcs f):ix funcs f ∈ funcs:=by
 obtain ⟨n,rfl⟩:=Int.eq_ofNat_of_zero_le h.1
 have hn:n < funcs.length:=by have:=h.2; omega
 rw [ix_get hn]; exact List.getElem_mem hn
theorem in_dec {funcs:List (List Deed)} {f:Int} (h:In funcs f):(decide ((0:Int)≤f) && decide (f < (funcs.length:Int))) = true:=by
 rw [decide_eq_true h.1,decide_eq_true h.2]; rfl
theorem callN_step {funcs:List (List Deed)} (hok:Ok funcs) (d:Nat) (hd:d < 100) {rcf:RN} (h1:OkN funcs rcf (fun A fu o=>callS funcs d none A fu o) (100 - (d:Int))) (h2:OkU funcs (frame_player_call_3 rcf) (fun e A fu o=>callS funcs d (some e) A fu o) (100 - (d:Int))) :
  OkN funcs (frame_player_call_1_b rcf) (fun A fu o=>callS funcs (d+1) none A fu o) (100 - ((d+1:Nat):Int)):=by
 intro f fuel out hf ho
 have hm:=hok _ (ix_in hf)
 have hw:IntKind.i64.wrap (100 - ((d+1:Nat):Int)+1) = 100 - (d:Int):=by rw [wrap_id (by omega) (by omega)]; omega
 have hw2:IntKind.i64.wrap (100 - (d:Int) - 1) = 100 - ((d+1:Nat):Int):=by rw [wrap_id (by omega) (by omega)]; omega
 have hle:=fun A fu o=>callS_le funcs d none A fu o
 obtain ⟨dp,e1,e2⟩:=bodyN_loop (rc:=fun A fu o=>callS funcs d none A fu o) rfl hm.1 (fun x hx hh=>hm.2 x hx hh) h1 hle (ix funcs f) 0 fuel out [] rfl ho (by simp; omega)
 have bl:=bodyS_le (rc:=fun A fu o=>callS funcs d none A fu o) hle (ix funcs f) none fuel out []
 have hla:=bodyS_late (funcs:=funcs) (rc:=fun A fu o=>callS funcs d none A fu o) (ix funcs f) (fun x hx hh=>hm.2 x hx hh) none fuel out [] (by simp)
 generalize hb:bodyS (fun A fu o=>callS funcs d none A fu o) (ix funcs f) none fuel out [] = b at *
 simp only [List.length_nil,Nat.add_zero] at bl
 obtain ⟨dp2,g1,g2⟩:=lateN_loop h2 (fun e A fu o=>callS_le funcs d (some e) A fu o) b.2.2.2.1.reverse b.1 b.2.1 b.2.2.1 dp (fun g hg=>hla g (by simpa using hg)) (by simp; omega) (by omega) e2
 have ec:callS funcs (d+1) none f fuel out = ((lateS (fun e g fu o=>callS funcs d (some e) g fu o) b.2.2.2.1.reverse b.1 b.2.1 b.2.2.1).1,(lateS (fun e g fu o=>callS funcs d (some e) g fu o) b.2.2.2.1.reverse b.1 b.2.1 b.2.2.1).2.1,(lateS (fun e g fu o=>callS funcs d (some e) g fu o) b.2.2.2.1.reverse b.1 b.2.1 b.2.2.1).2.2,b.2.2.2.2):=by
  rw [callS,hb]
 refine ⟨dp2,?_,fun h=>?_⟩
 ·simp only [ec,frame_player_call_1_b,hw]
  rw [decide_eq_false (by omega),cond_false]
  unfold frame_player_body
  rw [in_dec hf,cond_true,show (0:Int) = ((0:Nat):Int) from rfl,e1,Option.bind_some]
  rw [List.reverse_reverse] at g1
  exact g1
 ·simp only [ec] at h
  rw [g2 h,hw2]
theorem callU_step {funcs:List (List Deed)} (hok:Ok funcs) (d:Nat) (hd:d < 100) {rcf:RN} {rcg:RU} (h1:OkN funcs rcf (fun A fu o=>callS funcs d none A fu o) (100 - (d:Int))) (h2:OkU funcs rcg (fun e A fu o=>callS funcs d (some e) A fu o) (100 - (d:Int))) :
  OkU funcs (frame_player_call_3_b rcf rcg) (fun e A fu o=>callS funcs (d+1) (some e) A fu o) (100 - ((d+1:Nat):Int)):=by
 intro up f fuel out hf ho
 have hm:=hok _ (ix_in hf)
 have hw:IntKind.i64.wrap (100 - ((d+1:Nat):Int)+1) = 100 - (d:Int):=by rw [wrap_id (by omega) (by omega)]; omega
 have hw2:IntKind.i64.wrap (100 - (d:Int) - 1) = 100 - ((d+1:Nat):Int):=by rw [wrap_id (by omega) (by omega)]; omega
 have hle:=fun A fu o=>callS_le funcs d none A fu o
 obtain ⟨dp,e1,e2⟩:=bodyU_loop (rc:=fun A fu o=>callS funcs d none A fu o) rfl hm.1 (fun x hx hh=>hm.2 x hx hh) h1 hle (ix funcs f) 0 up fuel out [] rfl ho (by simp; omega)
 have bl:=bodyS_le (rc:=fun A fu o=>callS funcs d none A fu o) hle (ix funcs f) (some up) fuel out []
 have hla:=bodyS_late (funcs:=funcs) (rc:=fun A fu o=>callS funcs d none A fu o) (ix funcs f) (fun x hx hh=>hm.2 x hx hh) (some up) fuel out [] (by simp)
 generalize hb:bodyS (fun A fu o=>callS funcs d none A fu o) (ix funcs f) (some up) fuel out [] = b at *
 simp only [List.length_nil,Nat.add_zero] at bl
 obtain ⟨dp2,g1,g2⟩:=lateU_loop h2 (fun e A fu o=>callS_le funcs d (some e) A fu o) b.2.2.2.1.reverse b.1 b.2.1 b.2.2.1 dp (b.2.2.2.2.getD .nil) (fun g hg=>hla g (by simpa using hg)) (by simp; omega) (by omega) e2
 have ec:callS funcs (d+1) (some up) f fuel out = ((lateS (fun e g fu o=>callS funcs d (some e) g fu o) b.2.2.2.1.reverse b.1 b.2.1 b.2.2.1).1,(lateS (fun e g fu o=>callS funcs d (some e) g fu o) b.2.2.2.1.reverse b.1 b.2.1 b.2.2.1).2.1,(lateS (fun e g fu o=>callS funcs d (some e) g fu o) b.2.2.2.1.reverse b.1 b.2.1 b.2.2.1).2.2,b.2.2.2.2):=by
  rw [callS,hb]
 refine ⟨dp2,?_,fun h=>?_⟩
 ·simp only [ec,frame_player_call_3_b,hw]
  rw [decide_eq_false (by omega),cond_false]
  unfold frame_player_body_1
  rw [in_dec hf,cond_true,show (0:Int) = ((0:Nat):Int) from rfl,e1,Option.bind_some]
  rw [List.reverse_reverse] at g1
  exact g1
 ·simp only [ec] at h
  rw [g2 h,hw2]
theorem calls_eq {funcs:List (List Deed)} (hok:Ok funcs):∀ d:Nat,d≤100→(∀ k,d+1≤k→OkN funcs (frame_player_call_1_n k) (fun A fu o=>callS funcs d none A fu o) (100 - (d:Int))) ∧
  (∀ k n,d+1≤k→d+1≤n→OkU funcs (frame_player_call_3_n (frame_player_call_1_n k) n) (fun e A fu o=>callS funcs d (some e) A fu o) (100 - (d:Int)))
 | 0,_=>by
  have hw:IntKind.i64.wrap (100 - ((0:Nat):Int)+1) = 101:=by decide
  refine ⟨fun k hk=>?_,fun k n hk hn=>?_⟩
  ·obtain ⟨k,rfl⟩:=Nat.exists_eq_add_of_le hk
   intro f fuel out hf ho
   refine ⟨101,?_,fun h=>absurd rfl h⟩
   rw [show (0+1+k) = k+1 from by omega]
   show frame_player_call_1_b (frame_player_call_1_n k) f funcs _ _ out = _
   simp only [frame_player_call_1_b,hw,callS]
   rfl
  ·obtain ⟨n,rfl⟩:=Nat.exists_eq_add_of_le hn
   intro up f fuel out hf ho
   refine ⟨101,?_,fun h=>absurd rfl h⟩
   rw [show (0+1+n) = n+1 from by omega]
   show frame_player_call_3_b (frame_player_call_1_n k) (frame_player_call_3_n (frame_player_call_1_n k) n) f funcs _ _ up out = _
   simp only [frame_player_call_3_b,hw,callS]
   rfl
 | d+1,hd=>by
  obtain ⟨i1,i2⟩:=calls_eq hok d (by omega)
  refine ⟨fun k hk=>?_,fun k n hk hn=>?_⟩
  ·obtain ⟨k,rfl⟩:∃ j,k = j+1:=⟨k - 1,by omega⟩
   exact callN_step hok d (by omega) (i1 k (by omega)) (i2 k 5000 (by omega) (by omega))
  ·obtain ⟨n,rfl⟩:∃ j,n = j+1:=⟨n - 1,by omega⟩
   exact callU_step hok d (by omega) (i1 k (by omega)) (i2 k n (by omega) (by omega))
def runS (funcs:List (List Deed)):Int×Bool×Fault×List Int :=
 if (callS funcs 100 none 0 5000 []).1 = .tired then (0,false,⟨9,0⟩,[])
 else ((callS funcs 100 none 0 5000 []).1.val,(callS funcs 100 none 0 5000 []).1.isPan,⟨0,0⟩,(callS funcs 100 none 0 5000 []).2.2.1)
theorem run_eq {funcs:List (List Deed)} (hok:Ok funcs) (h0:0 < funcs.length) (hc:frame_Check funcs = some ⟨0,0⟩):frame_Run funcs = some (runS funcs):=by
 obtain ⟨dp,h,_⟩:=(calls_eq hok 100 (Nat.le_refl _)).1 5000 (by decide) 0 5000 [] ⟨by decide,by omega⟩ (by decide)
 unfold frame_Run runS
 rw [hc,Option.bind_some]
 have:frame_player_call_1 0 funcs 5000 0 [] = frame_player_call_1_n 5000 0 funcs ((5000:Nat):Int) (100 - ((100:Nat):Int)) []:=rfl
 rw [this,h]
 simp only [Option.bind_some,is_tired]
 by_cases ht:(callS funcs 100 none 0 5000 []).1 = .tired
 ·simp [ht,frame_fault]
 ·rw [if_neg ht]
  cases hp:(callS funcs 100 none 0 5000 []).1 with
  | tired=>exact absurd hp ht
  | nil=>simp [errors_As_1,Err.isPan,Err.val]
  | pan v=>simp [errors_As,Err.isPan,Err.val]
end Go.Proofs.YteelocnklamegaaDoor
end

section
namespace Go.Proofs.YteelocnklamegaaDoor
open Go Go.Sx
set_option linter.unusedVariables false
set_option linter.unusedSimpArgs false
def deedF (n:Nat) (d:Deed):Option Int :=
 if d.Op = 1∨d.Op = 2 then (if d.A < 0∨(n:Int)≤d.A then some 3 else none)
 else if d.Op = 4∨d.Op = 6 then (if d.A = 0 then none else some 5)
 else if d.Op = 3∨d.Op = 5 then none else some 4
def listF (n:Nat) (l:List Deed):Option Int:=if 100 < l.length then some 8 else firstAt (fun k=>deedF n (ix l ((k:Nat):Int))) l.length
def chk (funcs:List (List Deed)):Fault:=if funcs.length < 1∨50 < funcs.length then ⟨2,0⟩
 else (firstAt (fun i=>(listF funcs.length (ix funcs ((i:Nat):Int))).map fun c=>(⟨c,((i:Nat):Int)⟩:Fault)) funcs.length).getD ⟨0,0⟩
theorem deed_step (funcs:List (List Deed)) (i k:Nat) (hk:k < 4611686018427387904) :
  (bif ((ix (ix funcs (i:Int)) (k:Int)).Op == 1) then (frame_Check_j4 funcs (i:Int) (k:Int) ((ix (ix funcs (i:Int)) (k:Int)).Op == 1)) else (frame_Check_j4 funcs (i:Int) (k:Int) ((ix (ix funcs (i:Int)) (k:Int)).Op == 2)))
   = match deedF funcs.length (ix (ix funcs (i:Int)) (k:Int)) with
    | none=>some (.inl ((k+1:Nat):Int))
    | some c=>some (.inr (.inr (⟨c,(i:Int)⟩:Fault))):=by
 have hw:IntKind.i64.wrap ((k:Int)+1) = ((k+1:Nat):Int):=wrap_n1 k hk
 unfold frame_Check_j4 frame_Check_j3 frame_Check_j2 frame_Check_j1 frame_fault deedF
 rw [hw]
 generalize ix (ix funcs (i:Int)) (k:Int) = d
 obtain ⟨op,a⟩:=d
 simp only
 by_cases h1:op = 1
 ·subst h1
  have hb:(decide (a < 0) || decide ((funcs.length:Int)≤a)) = decide (a < 0∨(funcs.length:Int)≤a):=(Bool.decide_or _ _).symm
  by_cases ha:a < 0∨(funcs.length:Int)≤a <;> simp [hb,ha]
 by_cases h2:op = 2
 ·subst h2
  have hb:(decide (a < 0) || decide ((funcs.length:Int)≤a)) = decide (a < 0∨(funcs.length:Int)≤a):=(Bool.decide_or _ _).symm
  by_cases ha:a < 0∨(funcs.length:Int)≤a <;> simp [hb,ha]
 by_cases h4:op = 4
 ·subst h4
  have hb:(a != 0) = !decide (a = 0):=by by_cases h:a = 0 <;> simp [h,bne]
  by_cases ha:a = 0 <;> simp [hb,ha]
 by_cases h6:op = 6
 ·subst h6
  have hb:(a != 0) = !decide (a = 0):=by by_cases h:a = 0 <;> simp [h,bne]
  by_cases ha:a = 0 <;> simp [hb,ha]
 by_cases h3:op = 3
 ·subst h3; simp
 by_cases h5:op = 5
 ·subst h5; simp
 ·simp [opF h1,opF h2,opF h3,opF h4,opF h5,opF h6,h1,h2,h3,h4,h5,h6]
theorem check_in (funcs:List (List Deed)) (i:Nat) (hi:i < funcs.length) (h50:funcs.length≤50) (h100:(ix funcs (i:Int)).length≤100) :
  loopO (frame_Check_l1 funcs (i:Int)) (0:Int) = some (((firstAt (fun k=>deedF funcs.length (ix (ix funcs (i:Int)) ((k:Nat):Int))) (ix funcs (i:Int)).length).map fun c=>(Sum.inr (⟨c,(i:Int)⟩:Fault):Int ⊕ Fault)).getD (.inl ((i+1:Nat):Int))):=by
 generalize hl:ix funcs (i:Int) = l at *
 have:=loopO_findD (step:=frame_Check_l1 funcs (i:Int)) (fun k=>((k:Nat):Int)) (fun k=>(deedF funcs.length (ix l ((k:Nat):Int))).map fun c=>(Sum.inr (⟨c,(i:Int)⟩:Fault):Int ⊕ Fault)) (.inl ((i+1:Nat):Int)) l.length (fun k hk hb=>by
   have:=deed_step funcs i k (by omega)
   rw [hl] at this
   simp only [frame_Check_l1,hl]
   rw [decide_eq_true (by omega),decide_eq_true (by omega),Bool.and_self,cond_true,cond_true,this,Option.map_eq_none_iff.1 hb])
  (fun k r hk hb=>by
   have:=deed_step funcs i k (by omega)
   rw [hl] at this
   obtain ⟨c,hc,rfl⟩:=Option.map_eq_some_iff.1 hb
   simp only [frame_Check_l1,hl]
   rw [decide_eq_true (by omega),decide_eq_true (by omega),Bool.and_self,cond_true,cond_true,this,hc])
  (fun _=>by
   simp only [frame_Check_l1,hl]
   rw [decide_eq_false (by omega),cond_false,wrap_n1 i (by omega)]
   rfl)
 rw [show (0:Int) = ((0:Nat):Int) from rfl,this]
 congr 1
 have gen:∀ n,firstAt (fun k=>(deedF funcs.length (ix l ((k:Nat):Int))).map fun c=>(Sum.inr (⟨c,(i:Int)⟩:Fault):Int ⊕ Fault)) n = (firstAt (fun k=>deedF funcs.length (ix l ((k:Nat):Int))) n).map fun c=>(Sum.inr (⟨c,(i:Int)⟩:Fault):Int ⊕ Fault):=by
  intro n
  induction n with
  | zero=>rfl
  | succ n ih =>
   simp only [firstAt,ih]
   cases firstAt (fun k=>deedF funcs.length (ix l ((k:Nat):Int))) n <;> rfl
 rw [gen]
theorem check_eq (funcs:List (List Deed)) (hl:funcs.length < 4611686018427387904):frame_Check funcs = some (chk funcs):=by
 unfold frame_Check chk
 by_cases h:funcs.length < 1∨50 < funcs.length
 ·rw [if_pos h]
  have:((decide ((funcs.length:Int) < 1)) || (decide ((50:Int) < (funcs.length:Int)))) = true:=by
   simp only [Bool.or_eq_true,decide_eq_true_eq]; omega
  rw [this,cond_true]; rfl
 ·rw [if_neg h]
  have:((decide ((funcs.length:Int) < 1)) || (decide ((50:Int) < (funcs.length:Int)))) = false:=by
   simp only [Bool.or_eq_false_iff,decide_eq_false_iff_not]; omega
  rw [this,cond_false]
  refine loopO_findD (step:=frame_Check_l2 funcs) (fun k=>((k:Nat):Int)) (fun i=>(listF funcs.length (ix funcs ((i:Nat):Int))).map fun c=>(⟨c,((i:Nat):Int)⟩:Fault)) ⟨0,0⟩ funcs.length (fun i hi hb=>?_) (fun i r hi hb=>?_) (fun _=>?_)
  ·have hb:=Option.map_eq_none_iff.1 hb
   unfold listF at hb
   by_cases h100:100 < (ix funcs (i:Int)).length
   ·rw [if_pos h100] at hb; cases hb
   ·rw [if_neg h100] at hb
    simp only [frame_Check_l2]
    rw [decide_eq_true (by omega),decide_eq_true (by omega),Bool.and_self,cond_true,cond_true,decide_eq_false (by omega),cond_false,check_in funcs i hi (by omega) (by omega),hb]
    rfl
  ·obtain ⟨c,hc,rfl⟩:=Option.map_eq_some_iff.1 hb
   unfold listF at hc
   simp only [frame_Check_l2]
   rw [decide_eq_true (by omega),decide_eq_true (by omega),Bool.and_self,cond_true,cond_true]
   by_cases h100:100 < (ix funcs (i:Int)).length
   ·rw [if_pos h100] at hc; cases hc
    rw [decide_eq_true (by omega),cond_true]; rfl
   ·rw [if_neg h100] at hc
    rw [decide_eq_false (by omega),cond_false,check_in funcs i hi (by omega) (by omega),hc]
    rfl
  ·simp only [frame_Check_l2]
   rw [decide_eq_false (by omega),cond_false]; rfl
def Good (funcs:List (List Deed)):Prop:=1≤funcs.length∧funcs.length≤50∧∀ l ∈ funcs,l.length≤100∧∀ d ∈ l,deedF funcs.length d = none
theorem deedF_in {n:Nat} {d:Deed} (h:deedF n d = none):d.Op = 1∨d.Op = 2→0≤d.A∧d.A < (n:Int):=fun ho=>by
 unfold deedF at h
 rw [if_pos ho] at h
 split at h
 ·cases h
 ·omega
theorem Good.ok {funcs:List (List Deed)} (h:Good funcs):Ok funcs:=fun l hl=>⟨(h.2.2 l hl).1,fun d hd=>deedF_in ((h.2.2 l hl).2 d hd)⟩
theorem listF_none {n:Nat} {l:List Deed}:listF n l = none↔l.length≤100∧∀ d ∈ l,deedF n d = none:=by
 unfold listF
 split
 ·exact ⟨fun h=>(by cases h),fun h=>(by omega)⟩
 ·rw [firstAt_none]
  refine ⟨fun h=>⟨by omega,fun d hd=>?_⟩,fun h i hi=>?_⟩
  ·obtain ⟨i,hi,rfl⟩:=List.mem_iff_getElem.1 hd
   have:=h i hi
   rwa [ix_get hi] at this
  ·rw [ix_get hi]; exact h.2 _ (List.getElem_mem hi)
theorem listF_code {n:Nat} {l:List Deed} {c:Int} (h:listF n l = some c):c≠0:=by
 unfold listF at h
 split at h
 ·cases h; decide
 ·obtain ⟨i,_,hc,_⟩:=firstAt_some _ h
  unfold deedF at hc
  repeat' split at hc
  all_goals first | (cases hc; decide) | cases hc
theorem chk_good {funcs:List (List Deed)}:(chk funcs).Code = 0↔Good funcs:=by
 unfold chk Good
 by_cases h:funcs.length < 1∨50 < funcs.length
 ·rw [if_pos h]; exact ⟨fun h=>(by cases h),fun h=>(by omega)⟩
 ·rw [if_neg h]
  cases hf:firstAt (fun i=>(listF funcs.length (ix funcs ((i:Nat):Int))).map fun c=>(⟨c,((i:Nat):Int)⟩:Fault)) funcs.length with
  | none =>
   refine ⟨fun _=>⟨by omega,by omega,fun l hl=>?_⟩,fun _=>rfl⟩
   obtain ⟨i,hi,rfl⟩:=List.mem_iff_getElem.1 hl
   have:=(firstAt_none _).1 hf i hi
   rw [Option.map_eq_none_iff,ix_get hi] at this
   exact listF_none.1 this
  | some r =>
   obtain ⟨i,hi,hc,_⟩:=firstAt_some _ hf
   obtain ⟨c,hc3,rfl⟩:=Option.map_eq_some_iff.1 hc
   have hc:=hc3
   refine ⟨fun h=>absurd h (listF_code hc3),fun h=>?_⟩
   have:=listF_none.2 (h.2.2 (ix funcs (i:Int)) (by rw [ix_get hi]; exact List.getElem_mem hi))
   rw [this] at hc; cases hc
theorem chk_zero {funcs:List (List Deed)} (h:Good funcs):chk funcs = ⟨0,0⟩:=by
 have hc:=chk_good.2 h
 unfold chk at hc ⊢
 split at hc
 ·cases hc
 ·rename_i hn
  rw [if_neg hn]
  cases hf:firstAt (fun i=>(listF funcs.length (ix funcs ((i:Nat):Int))).map fun c=>(⟨c,((i:Nat):Int)⟩:Fault)) funcs.length with
  | none=>rfl
  | some r =>
   obtain ⟨i,hi,hc2,_⟩:=firstAt_some _ hf
   obtain ⟨c,hc3,rfl⟩:=Option.map_eq_some_iff.1 hc2
   rw [hf] at hc
   exact absurd hc (listF_code hc3)
theorem run_good {funcs:List (List Deed)} (h:Good funcs):frame_Run funcs = some (runS funcs) :=
 run_eq h.ok (by have:=h.1; omega) (by rw [check_eq funcs (by have:=h.2.1; omega),chk_zero h])
theorem run_bad {funcs:List (List Deed)} (hl:funcs.length < 4611686018427387904) (h:¬ Good funcs):frame_Run funcs = some (0,false,chk funcs,[])∧(chk funcs).Code≠0:=by
 have hc:(chk funcs).Code≠0:=fun e=>h (chk_good.1 e)
 refine ⟨?_,hc⟩
 unfold frame_Run
 rw [check_eq funcs hl,Option.bind_some]
 have:((chk funcs).Code != 0) = true:=by simpa using hc
 rw [this,cond_true]
end Go.Proofs.YteelocnklamegaaDoor
end

section
namespace Go.Proofs.YteelocnklamegaaDoor
open Go Go.Sx
set_option linter.unusedVariables false
set_option linter.unusedSimpArgs false
theorem ints_eq (a b:List Int) (ha:a.length < 4611686018427387904):taskmillref_Ints a b = some (decide (a = b)):=by
 unfold taskmillref_Ints
 by_cases hl:a.length = b.length
 ·rw [show ((a.length:Int) != (b.length:Int)) = false from by simp [hl],cond_false]
  have:=loopO_findD (step:=taskmillref_Ints_l1 a b) (fun k=>((k:Nat):Int)) (fun k=>if ix a ((k:Nat):Int) = ix b ((k:Nat):Int) then none else some false) true a.length (fun k hk hb=>by
    have hx:ix a (k:Int) = ix b (k:Int):=by
     by_cases h:ix a (k:Int) = ix b (k:Int)
     ·exact h
     ·rw [if_neg h] at hb; cases hb
    simp only [taskmillref_Ints_l1]
    rw [decide_eq_true (by omega),decide_eq_true (by omega),decide_eq_true (show (k:Int) < (b.length:Int) by omega),Bool.and_self,cond_true,cond_true,cond_true,hx,bne_self_eq_false,cond_false,wrap_n1 k (by omega)])
   (fun k r hk hb=>by
    have hx:¬ ix a (k:Int) = ix b (k:Int):=fun h=>by rw [if_pos h] at hb; cases hb
    rw [if_neg hx] at hb; cases hb
    simp only [taskmillref_Ints_l1]
    rw [decide_eq_true (by omega),decide_eq_true (by omega),decide_eq_true (show (k:Int) < (b.length:Int) by omega),Bool.and_self,cond_true,cond_true,cond_true,show (ix a (k:Int) != ix b (k:Int)) = true from by simpa using hx,cond_true]
    rfl)
   (fun _=>by
    simp only [taskmillref_Ints_l1]
    rw [decide_eq_false (by omega),cond_false]; rfl)
  rw [show (0:Int) = ((0:Nat):Int) from rfl,this]
  congr 1
  by_cases he:a = b
  ·subst he
   rw [(firstAt_none _).2 fun i _=>by simp]; simp
  ·cases hf:firstAt (fun k=>if ix a ((k:Nat):Int) = ix b ((k:Nat):Int) then none else some false) a.length with
   | none =>
    refine absurd (List.ext_getElem hl fun i h1 h2=>?_) he
    have:=(firstAt_none _).1 hf i h1
    by_cases h:ix a (i:Int) = ix b (i:Int)
    ·rwa [ix_get h1,ix_get h2] at h
    ·rw [if_neg h] at this; cases this
   | some r =>
    obtain ⟨i,_,hc,_⟩:=firstAt_some _ hf
    split at hc
    ·cases hc
    ·cases hc; simp [he]
 ·rw [show ((a.length:Int) != (b.length:Int)) = true from by rw [bne_iff_ne]; omega,cond_true,decide_eq_false fun h=>hl (by rw [h])]
theorem begun:taskmilllaw_frameBegun = some true:=by
 unfold taskmilllaw_frameBegun
 have hg:Good ([([(Deed.mk 2 1),(Deed.mk 5 5),(Deed.mk 3 7)]:List Deed),([(Deed.mk 4 0)]:List Deed)]:List (List Deed)):=by
  refine ⟨by decide,by decide,fun l hl=>?_⟩
  simp only [List.mem_cons,List.not_mem_nil,or_false] at hl
  rcases hl with rfl | rfl
  ·refine ⟨by decide,fun d hd=>?_⟩
   simp only [List.mem_cons,List.not_mem_nil,or_false] at hd
   rcases hd with rfl | rfl | rfl <;> decide
  ·refine ⟨by decide,fun d hd=>?_⟩
   simp only [List.mem_cons,List.not_mem_nil,or_false] at hd
   subst hd; decide
 have hr:runS ([([(Deed.mk 2 1),(Deed.mk 5 5),(Deed.mk 3 7)]:List Deed),([(Deed.mk 4 0)]:List Deed)]:List (List Deed)) = (0,false,⟨0,0⟩,[5,7]):=by decide
 rw [run_good hg,hr]
 simp only [Option.bind_some,beq_self_eq_true,cond_true,Bool.not_false]
 rw [ints_eq _ _ (by decide)]
 rfl
end Go.Proofs.YteelocnklamegaaDoor
end

section
namespace Go.Proofs.YteelocnklamegaaDoor
open Go Go.Sx
set_option linter.unusedVariables false
set_option linter.unusedSimpArgs false
theorem lateS_tired (rc:Err→Int→Nat→List Int→CR) (rl:List Int) (fuel:Nat) (out:List Int):(lateS rc rl .tired fuel out).1 = .tired:=by
 cases rl with
 | nil=>rfl
 | cons g rl=>rw [lateS,if_pos rfl]
end Go.Proofs.YteelocnklamegaaDoor
end

section
namespace Go.Proofs.YteelocnklamegaaDoor
open Go Go.Sx
set_option linter.unusedVariables false
set_option linter.unusedSimpArgs false
theorem wrapI (i:Nat) (h:i < 9223372036854775807):IntKind.i64.wrap ((i:Int)+1) = ((i+1:Nat):Int):=by rw [wrap_id (by omega) (by omega)]; omega
theorem vast_eq (l:List (List Deed)) (hl:l.length≤9223372036854775807):∃ b,taskmilllaw_vastDeeds l = some b:=by
 unfold taskmilllaw_vastDeeds
 have:=loopO_findD (step:=taskmilllaw_vastDeeds_l1 l) (fun k=>((k:Nat):Int)) (fun k=>if 1000 < (ix l ((k:Nat):Int)).length then some true else none) (decide ((1000:Int) < (l.length:Int))) l.length (fun k hk hb=>by
   have hx:¬ 1000 < (ix l (k:Int)).length:=fun h=>by rw [if_pos h] at hb; cases hb
   simp only [taskmilllaw_vastDeeds_l1]
   rw [decide_eq_true (by omega),decide_eq_true (by omega),Bool.and_self,cond_true,cond_true,decide_eq_false (by omega),cond_false,wrapI k (by omega)])
  (fun k r hk hb=>by
   have hx:1000 < (ix l (k:Int)).length:=by
    by_cases h:1000 < (ix l (k:Int)).length
    ·exact h
    ·rw [if_neg h] at hb; cases hb
   rw [if_pos hx] at hb; cases hb
   simp only [taskmilllaw_vastDeeds_l1]
   rw [decide_eq_true (by omega),decide_eq_true (by omega),Bool.and_self,cond_true,cond_true,decide_eq_true (by omega),cond_true]
   rfl)
  (fun _=>by
   simp only [taskmilllaw_vastDeeds_l1]
   rw [decide_eq_false (by omega),cond_false]; rfl)
 exact ⟨_,this⟩
end Go.Proofs.YteelocnklamegaaDoor
end

section
namespace Go.Proofs.YteelocnklamegaaDoor
open Go Go.Sx
set_option linter.unusedVariables false
set_option linter.unusedSimpArgs false
theorem vast_not (l:List (List Deed)) (hl:l.length≤9223372036854775807) (h:taskmilllaw_vastDeeds l = some false):l.length≤1000∧∀ m ∈ l,m.length≤1000:=by
 unfold taskmilllaw_vastDeeds at h
 have:=loopO_findD (step:=taskmilllaw_vastDeeds_l1 l) (fun k=>((k:Nat):Int)) (fun k=>if 1000 < (ix l ((k:Nat):Int)).length then some true else none) (decide ((1000:Int) < (l.length:Int))) l.length (fun k hk hb=>by
   have hx:¬ 1000 < (ix l (k:Int)).length:=fun h=>by rw [if_pos h] at hb; cases hb
   simp only [taskmilllaw_vastDeeds_l1]
   rw [decide_eq_true (by omega),decide_eq_true (by omega),Bool.and_self,cond_true,cond_true,decide_eq_false (by omega),cond_false,wrapI k (by omega)])
  (fun k r hk hb=>by
   have hx:1000 < (ix l (k:Int)).length:=by
    by_cases h:1000 < (ix l (k:Int)).length
    ·exact h
    ·rw [if_neg h] at hb; cases hb
   rw [if_pos hx] at hb; cases hb
   simp only [taskmilllaw_vastDeeds_l1]
   rw [decide_eq_true (by omega),decide_eq_true (by omega),Bool.and_self,cond_true,cond_true,decide_eq_true (by omega),cond_true]
   rfl)
  (fun _=>by
   simp only [taskmilllaw_vastDeeds_l1]
   rw [decide_eq_false (by omega),cond_false]; rfl)
 rw [show (0:Int) = ((0:Nat):Int) from rfl,this] at h
 cases hf:firstAt (fun k=>if 1000 < (ix l ((k:Nat):Int)).length then some true else none) l.length with
 | some r =>
  obtain ⟨i,_,hc,_⟩:=firstAt_some _ hf
  split at hc
  ·cases hc; rw [hf] at h; cases h
  ·cases hc
 | none =>
  rw [hf] at h
  simp only [Option.getD_none,Option.some.injEq,decide_eq_false_iff_not] at h
  refine ⟨by omega,fun m hm=>?_⟩
  obtain ⟨i,hi,rfl⟩:=List.mem_iff_getElem.1 hm
  have:=(firstAt_none _).1 hf i hi
  rw [ix_get hi] at this
  by_cases h2:1000 < l[i].length
  ·rw [if_pos h2] at this; cases this
  ·omega
theorem own_eq (l:List (List Deed)) (h1:l.length≤1000) (h2:∀ m ∈ l,m.length≤1000):taskmilllaw_ownDeeds l = some l:=by
 unfold taskmilllaw_ownDeeds
 have:=loopO_all (step:=taskmilllaw_ownDeeds_l1 l) (fun i=>(((i:Nat):Int),l.take i)) (some l) l.length (fun i hi=>by
   have hm:(ix l (i:Int)).length≤1000:=by rw [ix_get hi]; exact h2 _ (List.getElem_mem hi)
   simp only [taskmilllaw_ownDeeds_l1]
   rw [decide_eq_true (show (i:Int) < (l.length:Int) by omega),decide_eq_true (show (0:Int)≤(i:Int) by omega),Bool.and_self,cond_true,cond_true,decide_eq_true (by omega),cond_true,decide_eq_true (by simp; omega),cond_true,wrapI i (by omega),List.take_succ_eq_append_getElem hi,ix_get hi])
  (by
   simp only [taskmilllaw_ownDeeds_l1]
   rw [decide_eq_false (by omega),cond_false,List.take_length])
 exact this
theorem ref_step (n:Nat) (d:Deed) (i k:Nat) (hk:k < 9223372036854775807) :
  (bif ((decide (d.Op < 1)) || (decide ((6:Int) < d.Op))) then ((taskmillref_F 4 (i:Int)).bind fun r=>(Option.map Sum.inr (Option.map Sum.inr (some (r))))) else (bif ((decide (d.Op≤2)) && ((decide (d.A < 0)) || (decide ((n:Int)≤d.A)))) then ((taskmillref_F 3 (i:Int)).bind fun r=>(Option.map Sum.inr (Option.map Sum.inr (some (r))))) else (bif (bif (d.Op == 4) then (d.A != 0) else ((d.Op == 6) && (d.A != 0))) then ((taskmillref_F 5 (i:Int)).bind fun r=>(Option.map Sum.inr (Option.map Sum.inr (some (r))))) else (some (Sum.inl ((IntKind.i64.wrap ((k:Int)+1)))))))
  :Option (Int ⊕ (Int ⊕ Fault))) = match deedF n d with
    | none=>some (.inl ((k+1:Nat):Int))
    | some c=>some (.inr (.inr (⟨c,(i:Int)⟩:Fault))):=by
 rw [wrapI k hk]
 unfold taskmillref_F deedF
 obtain ⟨op,a⟩:=d
 simp only
 have hb:(decide (a < 0) || decide ((n:Int)≤a)) = decide (a < 0∨(n:Int)≤a):=(Bool.decide_or _ _).symm
 have hz:(a != 0) = !decide (a = 0):=by by_cases h:a = 0 <;> simp [h,bne]
 rw [hb,hz]
 by_cases h1:op = 1
 ·subst h1; by_cases ha:a < 0∨(n:Int)≤a <;> simp [ha]
 by_cases h2:op = 2
 ·subst h2; by_cases ha:a < 0∨(n:Int)≤a <;> simp [ha]
 by_cases h4:op = 4
 ·subst h4; by_cases ha:a = 0 <;> simp [ha]
 by_cases h6:op = 6
 ·subst h6; by_cases ha:a = 0 <;> simp [ha]
 by_cases h3:op = 3
 ·subst h3; simp
 by_cases h5:op = 5
 ·subst h5; simp
 ·have:(decide (op < 1) || decide ((6:Int) < op)) = true:=by
   simp only [Bool.or_eq_true,decide_eq_true_eq]; omega
  rw [this]
  simp [h1,h2,h3,h4,h5,h6]
theorem ref_in (funcs:List (List Deed)) (i:Nat) (hi:i < funcs.length) (h50:funcs.length≤50) (h100:(ix funcs (i:Int)).length≤100) :
  loopO (taskmillref_DeedsFault_l1 funcs (i:Int)) (0:Int) = some (((firstAt (fun k=>deedF funcs.length (ix (ix funcs (i:Int)) ((k:Nat):Int))) (ix funcs (i:Int)).length).map fun c=>(Sum.inr (⟨c,(i:Int)⟩:Fault):Int ⊕ Fault)).getD (.inl ((i+1:Nat):Int))):=by
 generalize hl:ix funcs (i:Int) = l at *
 have hd0:decide ((0:Int)≤(i:Int)) = true:=decide_eq_true (by omega)
 have hd1:decide ((i:Int) < (funcs.length:Int)) = true:=decide_eq_true (by omega)
 have:=loopO_findD (step:=taskmillref_DeedsFault_l1 funcs (i:Int)) (fun k=>((k:Nat):Int)) (fun k=>(deedF funcs.length (ix l ((k:Nat):Int))).map fun c=>(Sum.inr (⟨c,(i:Int)⟩:Fault):Int ⊕ Fault)) (.inl ((i+1:Nat):Int)) l.length (fun k hk hb=>by
   have:=ref_step funcs.length (ix l (k:Int)) i k (by omega)
   simp only [taskmillref_DeedsFault_l1,hl]
   rw [hd0,hd1,decide_eq_true (show (k:Int) < (l.length:Int) by omega),decide_eq_true (show (0:Int)≤(k:Int) by omega)]
   simp only [Bool.and_self,cond_true]
   rw [this,Option.map_eq_none_iff.1 hb])
  (fun k r hk hb=>by
   have:=ref_step funcs.length (ix l (k:Int)) i k (by omega)
   obtain ⟨c,hc,rfl⟩:=Option.map_eq_some_iff.1 hb
   simp only [taskmillref_DeedsFault_l1,hl]
   rw [hd0,hd1,decide_eq_true (show (k:Int) < (l.length:Int) by omega),decide_eq_true (show (0:Int)≤(k:Int) by omega)]
   simp only [Bool.and_self,cond_true]
   rw [this,hc])
  (fun _=>by
   simp only [taskmillref_DeedsFault_l1,hl]
   rw [hd0,hd1,decide_eq_false (show ¬ (l.length:Int) < (l.length:Int) by omega),wrapI i (by omega)]
   rfl)
 rw [show (0:Int) = ((0:Nat):Int) from rfl,this]
 congr 1
 have gen:∀ n,firstAt (fun k=>(deedF funcs.length (ix l ((k:Nat):Int))).map fun c=>(Sum.inr (⟨c,(i:Int)⟩:Fault):Int ⊕ Fault)) n = (firstAt (fun k=>deedF funcs.length (ix l ((k:Nat):Int))) n).map fun c=>(Sum.inr (⟨c,(i:Int)⟩:Fault):Int ⊕ Fault):=by
  intro n
  induction n with
  | zero=>rfl
  | succ n ih =>
   simp only [firstAt,ih]
   cases firstAt (fun k=>deedF funcs.length (ix l ((k:Nat):Int))) n <;> rfl
 rw [gen]
theorem ref_eq (funcs:List (List Deed)) (hl:funcs.length < 4611686018427387904):taskmillref_DeedsFault funcs = some (chk funcs):=by
 unfold taskmillref_DeedsFault chk
 by_cases h:funcs.length < 1∨50 < funcs.length
 ·rw [if_pos h]
  have:((decide ((funcs.length:Int) < 1)) || (decide ((50:Int) < (funcs.length:Int)))) = true:=by
   simp only [Bool.or_eq_true,decide_eq_true_eq]; omega
  rw [this,cond_true]; rfl
 ·rw [if_neg h]
  have:((decide ((funcs.length:Int) < 1)) || (decide ((50:Int) < (funcs.length:Int)))) = false:=by
   simp only [Bool.or_eq_false_iff,decide_eq_false_iff_not]; omega
  rw [this,cond_false]
  refine loopO_findD (step:=taskmillref_DeedsFault_l2 funcs) (fun k=>((k:Nat):Int)) (fun i=>(listF funcs.length (ix funcs ((i:Nat):Int))).map fun c=>(⟨c,((i:Nat):Int)⟩:Fault)) ⟨0,0⟩ funcs.length (fun i hi hb=>?_) (fun i r hi hb=>?_) (fun _=>?_)
  ·have hb:=Option.map_eq_none_iff.1 hb
   unfold listF at hb
   by_cases h100:100 < (ix funcs (i:Int)).length
   ·rw [if_pos h100] at hb; cases hb
   ·rw [if_neg h100] at hb
    simp only [taskmillref_DeedsFault_l2]
    rw [decide_eq_true (by omega),decide_eq_true (by omega),Bool.and_self,cond_true,cond_true,decide_eq_false (by omega),cond_false,ref_in funcs i hi (by omega) (by omega),hb]
    rfl
  ·obtain ⟨c,hc,rfl⟩:=Option.map_eq_some_iff.1 hb
   unfold listF at hc
   simp only [taskmillref_DeedsFault_l2]
   rw [decide_eq_true (by omega),decide_eq_true (by omega),Bool.and_self,cond_true,cond_true]
   by_cases h100:100 < (ix funcs (i:Int)).length
   ·rw [if_pos h100] at hc; cases hc
    rw [decide_eq_true (by omega),cond_true]; rfl
   ·rw [if_neg h100] at hc
    rw [decide_eq_false (by omega),cond_false,ref_in funcs i hi (by omega) (by omega),hc]
    rfl
  ·simp only [taskmillref_DeedsFault_l2]
   rw [decide_eq_false (by omega),cond_false]; rfl
end Go.Proofs.YteelocnklamegaaDoor
end

section
namespace Go.Proofs.YteelocnklamegaaDoor
open Go Go.Sx
set_option linter.unusedVariables false
set_option linter.unusedSimpArgs false
theorem stk_n (S:List GFrame) (t:GFrame) (h:S.length < 100):IntKind.i64.wrap ((((S++[t]).length:Nat):Int) - 1) = (S.length:Int):=by
 rw [List.length_append,List.length_singleton,wrap_id (by omega) (by omega)]; omega
theorem stk_ix (S:List GFrame) (t:GFrame):ixD (S++[t]) (S.length:Int) = t:=by
 rw [ixD_nat,List.getD_eq_getElem?_getD,List.getElem?_append_right (Nat.le_refl _)]; simp
theorem stk_set (S:List GFrame) (t x:GFrame):(S++[t]).set ((S.length:Int)).toNat x = S++[x]:=by
 rw [Int.toNat_natCast,List.set_append_right _ _ (Nat.le_refl _)]; simp
theorem stk_b1 (S:List GFrame) (t:GFrame):decide ((0:Int)≤(S.length:Int)) = true:=decide_eq_true (by omega)
theorem stk_b2 (S:List GFrame) (t:GFrame):decide ((S.length:Int) < (((S++[t]).length:Nat):Int)) = true:=decide_eq_true (by rw [List.length_append,List.length_singleton]; omega)
theorem stk_len (S:List GFrame) (t:GFrame):(S++[t]).length = S.length+1:=by simp
def fresh (f:Int) (b:Bool):GFrame:=GFrame.mk f 0 [] false 0 b
structure Top (funcs:List (List Deed)) (S:List GFrame) (t:GFrame) (i:Nat) (d:Deed):Prop where
 s:S.length < 100
 f:In funcs t.Func
 at_:t.At = (i:Int)
 lt:i < (ix funcs t.Func).length
 d:ix (ix funcs t.Func) (i:Int) = d
 l:(ix funcs t.Func).length≤100
theorem st_tired {funcs:List (List Deed)} {S:List GFrame} {t:GFrame} {i:Nat} {d:Deed} (h:Top funcs S t i d) (out:List Int):taskmillref_RanFrames_l1 funcs ((0:Int),S++[t],out) = some (.inr (0,false,false,[])):=by
 simp only [taskmillref_RanFrames_l1,stk_n S t h.s,stk_ix,stk_set,stk_b1 S t,stk_b2 S t,h.at_,h.d,decide_eq_true h.f.1,decide_eq_true h.f.2,decide_eq_true (show (0:Int)≤(i:Int) by omega),decide_eq_true (show (i:Int) < (((ix funcs t.Func).length:Nat):Int) by have:=h.lt; omega),Bool.and_self,Bool.not_true,Bool.false_or,cond_true,beq_self_eq_true]
 rfl
theorem st_call {funcs:List (List Deed)} {S:List GFrame} {t:GFrame} {i:Nat} {d:Deed} (h:Top funcs S t i d) (h1:d.Op = 1) (fuel:Nat) (hfu:fuel < 10000) (out:List Int):taskmillref_RanFrames_l1 funcs (((fuel+1:Nat):Int),S++[t],out) = if S.length = 99 then some (.inr (0,false,false,[])) else some (.inl ((fuel:Int),S++[{ t with At:=((i+1:Nat):Int) }]++[fresh d.A false],out)):=by
 have hl:=h.l; have hlt:=h.lt; have hs:=h.s
 simp only [taskmillref_RanFrames_l1,taskmillref_RanFrames_j1,stk_n S t h.s,stk_ix,stk_set,stk_b1 S t,stk_b2 S t,h.at_,h.d,decide_eq_true h.f.1,decide_eq_true h.f.2,decide_eq_true (show (0:Int)≤(i:Int) by omega),decide_eq_true (show (i:Int) < (((ix funcs t.Func).length:Nat):Int) by omega),Bool.and_self,Bool.not_true,Bool.false_or,cond_true,dec1,cond_false,opT h1,wrapI i (by omega),wrap1 fuel (by omega)]
 simp only [stk_len]
 by_cases h99:S.length = 99
 ·rw [if_pos h99,show ((((S.length+1:Nat):Int)) == 100) = true from by rw [h99]; rfl,cond_true]; rfl
 ·rw [if_neg h99,show ((((S.length+1:Nat):Int)) == 100) = false from by rw [beq_eq_false_iff_ne]; omega,cond_false,decide_eq_true (by omega),cond_true]
  rfl
theorem st_defer {funcs:List (List Deed)} {S:List GFrame} {t:GFrame} {i:Nat} {d:Deed} (h:Top funcs S t i d) (h1:d.Op = 2) (fuel:Nat) (hfu:fuel < 10000) (hla:t.Late.length≤10000) (out:List Int):taskmillref_RanFrames_l1 funcs (((fuel+1:Nat):Int),S++[t],out) = some (.inl ((fuel:Int),S++[{ t with At:=((i+1:Nat):Int),Late:=t.Late++[d.A] }],out)):=by
 have hl:=h.l; have hlt:=h.lt; have hs:=h.s
 have h0:¬ d.Op = 1:=by omega
 simp only [taskmillref_RanFrames_l1,taskmillref_RanFrames_j1,stk_n S t h.s,stk_ix,stk_set,stk_b1 S t,stk_b2 S t,h.at_,h.d,decide_eq_true h.f.1,decide_eq_true h.f.2,decide_eq_true (show (0:Int)≤(i:Int) by omega),decide_eq_true (show (i:Int) < (((ix funcs t.Func).length:Nat):Int) by omega),Bool.and_self,Bool.not_true,Bool.false_or,cond_true,dec1,cond_false,opF h0,opT h1,wrapI i (by omega),wrap1 fuel (by omega),room1 t.Late d.A (by omega)]
theorem st_panic {funcs:List (List Deed)} {S:List GFrame} {t:GFrame} {i:Nat} {d:Deed} (h:Top funcs S t i d) (h1:d.Op = 3) (fuel:Nat) (hfu:fuel < 10000) (out:List Int):taskmillref_RanFrames_l1 funcs (((fuel+1:Nat):Int),S++[t],out) = some (.inl ((fuel:Int),S++[{ t with At:=-1,Panics:=true,Value:=d.A }],out)):=by
 have hl:=h.l; have hlt:=h.lt; have hs:=h.s
 have h0:¬ d.Op = 1:=by omega
 have h2:¬ d.Op = 2:=by omega
 simp only [taskmillref_RanFrames_l1,taskmillref_RanFrames_j1,stk_n S t h.s,stk_ix,stk_set,stk_b1 S t,stk_b2 S t,h.at_,h.d,decide_eq_true h.f.1,decide_eq_true h.f.2,decide_eq_true (show (0:Int)≤(i:Int) by omega),decide_eq_true (show (i:Int) < (((ix funcs t.Func).length:Nat):Int) by omega),Bool.and_self,Bool.not_true,Bool.false_or,cond_true,dec1,cond_false,opF h0,opF h2,opT h1,wrapI i (by omega),wrap1 fuel (by omega)]
theorem st_print {funcs:List (List Deed)} {S:List GFrame} {t:GFrame} {i:Nat} {d:Deed} (h:Top funcs S t i d) (h1:d.Op = 5) (fuel:Nat) (hfu:fuel < 10000) (out:List Int) (ho:out.length≤10000):taskmillref_RanFrames_l1 funcs (((fuel+1:Nat):Int),S++[t],out) = some (.inl ((fuel:Int),S++[{ t with At:=((i+1:Nat):Int) }],out++[d.A])):=by
 have hl:=h.l; have hlt:=h.lt; have hs:=h.s
 have h0:¬ d.Op = 1:=by omega
 have h2:¬ d.Op = 2:=by omega
 have h3:¬ d.Op = 3:=by omega
 have h4:¬ d.Op = 4:=by omega
 simp only [taskmillref_RanFrames_l1,taskmillref_RanFrames_j1,stk_n S t h.s,stk_ix,stk_set,stk_b1 S t,stk_b2 S t,h.at_,h.d,decide_eq_true h.f.1,decide_eq_true h.f.2,decide_eq_true (show (0:Int)≤(i:Int) by omega),decide_eq_true (show (i:Int) < (((ix funcs t.Func).length:Nat):Int) by omega),Bool.and_self,Bool.not_true,Bool.false_or,cond_true,dec1,cond_false,opF h0,opF h2,opF h3,opF h4,opT h1,wrapI i (by omega),wrap1 fuel (by omega),room1 out d.A (by omega)]
theorem st_ret {funcs:List (List Deed)} {S:List GFrame} {t:GFrame} {i:Nat} {d:Deed} (h:Top funcs S t i d) (h1:d.Op = 6) (fuel:Nat) (hfu:fuel < 10000) (out:List Int):taskmillref_RanFrames_l1 funcs (((fuel+1:Nat):Int),S++[t],out) = some (.inl ((fuel:Int),S++[{ t with At:=-1 }],out)):=by
 have hl:=h.l; have hlt:=h.lt; have hs:=h.s
 have h0:¬ d.Op = 1:=by omega
 have h2:¬ d.Op = 2:=by omega
 have h3:¬ d.Op = 3:=by omega
 have h4:¬ d.Op = 4:=by omega
 have h5:¬ d.Op = 5:=by omega
 simp only [taskmillref_RanFrames_l1,taskmillref_RanFrames_j1,stk_n S t h.s,stk_ix,stk_set,stk_b1 S t,stk_b2 S t,h.at_,h.d,decide_eq_true h.f.1,decide_eq_true h.f.2,decide_eq_true (show (0:Int)≤(i:Int) by omega),decide_eq_true (show (i:Int) < (((ix funcs t.Func).length:Nat):Int) by omega),Bool.and_self,Bool.not_true,Bool.false_or,cond_true,dec1,cond_false,opF h0,opF h2,opF h3,opF h4,opF h5,opT h1,wrapI i (by omega),wrap1 fuel (by omega)]
theorem st_else {funcs:List (List Deed)} {S:List GFrame} {t:GFrame} {i:Nat} {d:Deed} (h:Top funcs S t i d) (h0:¬ d.Op = 1) (h2:¬ d.Op = 2) (h3:¬ d.Op = 3) (h4:¬ d.Op = 4) (h5:¬ d.Op = 5) (h6:¬ d.Op = 6) (fuel:Nat) (hfu:fuel < 10000) (out:List Int):taskmillref_RanFrames_l1 funcs (((fuel+1:Nat):Int),S++[t],out) = some (.inl ((fuel:Int),S++[{ t with At:=((i+1:Nat):Int) }],out)):=by
 have hl:=h.l; have hlt:=h.lt; have hs:=h.s
 simp only [taskmillref_RanFrames_l1,taskmillref_RanFrames_j1,stk_n S t h.s,stk_ix,stk_set,stk_b1 S t,stk_b2 S t,h.at_,h.d,decide_eq_true h.f.1,decide_eq_true h.f.2,decide_eq_true (show (0:Int)≤(i:Int) by omega),decide_eq_true (show (i:Int) < (((ix funcs t.Func).length:Nat):Int) by omega),Bool.and_self,Bool.not_true,Bool.false_or,cond_true,dec1,cond_false,opF h0,opF h2,opF h3,opF h4,opF h5,opF h6,wrapI i (by omega),wrap1 fuel (by omega)]
theorem st_rec0 {funcs:List (List Deed)} {S:List GFrame} {t:GFrame} {i:Nat} {d:Deed} (h:Top funcs S t i d) (h1:d.Op = 4) (hb:t.Defer = false) (fuel:Nat) (hfu:fuel < 10000) (out:List Int) (ho:out.length≤10000):taskmillref_RanFrames_l1 funcs (((fuel+1:Nat):Int),S++[t],out) = some (.inl ((fuel:Int),S++[{ t with At:=((i+1:Nat):Int) }],out++[-1])):=by
 have hl:=h.l; have hlt:=h.lt; have hs:=h.s
 have h0:¬ d.Op = 1:=by omega
 have h2:¬ d.Op = 2:=by omega
 have h3:¬ d.Op = 3:=by omega
 simp only [taskmillref_RanFrames_l1,taskmillref_RanFrames_j1,stk_n S t h.s,stk_ix,stk_set,stk_b1 S t,stk_b2 S t,h.at_,h.d,decide_eq_true h.f.1,decide_eq_true h.f.2,decide_eq_true (show (0:Int)≤(i:Int) by omega),decide_eq_true (show (i:Int) < (((ix funcs t.Func).length:Nat):Int) by omega),Bool.and_self,Bool.not_true,Bool.false_or,cond_true,dec1,cond_false,opF h0,opF h2,opF h3,opT h1,wrapI i (by omega),wrap1 fuel (by omega),hb,Bool.not_false,Bool.true_or,Bool.false_and,room1 out (-1) (by omega)]
theorem par_n (S:List GFrame) (p:GFrame) (h:S.length < 100):IntKind.i64.wrap ((((S++[p]).length:Nat):Int) - 1) = (S.length:Int):=stk_n S p h
theorem par_ix (S:List GFrame) (p t:GFrame):ixD (S++[p]++[t]) (S.length:Int) = p:=by
 rw [ixD_nat,List.append_assoc,List.getD_eq_getElem?_getD,List.getElem?_append_right (Nat.le_refl _)]; simp
theorem par_set (S:List GFrame) (p t x:GFrame):(S++[p]++[t]).set ((S.length:Int)).toNat x = S++[x]++[t]:=by
 rw [Int.toNat_natCast,List.append_assoc,List.set_append_right _ _ (Nat.le_refl _)]; simp
theorem par_b (S:List GFrame) (p t:GFrame):decide ((S.length:Int) < (((S++[p]++[t]).length:Nat):Int)) = true:=decide_eq_true (by simp; omega)
theorem st_rec {funcs:List (List Deed)} {S:List GFrame} {p t:GFrame} {i:Nat} {d:Deed} (h:Top funcs (S++[p]) t i d) (h1:d.Op = 4) (hb:t.Defer = true) (fuel:Nat) (hfu:fuel < 10000) (out:List Int) (ho:out.length≤10000) :
  taskmillref_RanFrames_l1 funcs (((fuel+1:Nat):Int),S++[p]++[t],out) = if p.Panics = true then some (.inl ((fuel:Int),S++[{ p with Panics:=false }]++[{ t with At:=((i+1:Nat):Int) }],out++[p.Value])) else some (.inl ((fuel:Int),S++[p]++[{ t with At:=((i+1:Nat):Int) }],out++[-1])):=by
 have hl:=h.l; have hlt:=h.lt; have hs:=h.s
 have hs2:S.length < 100:=by have:=h.s; simp at this; omega
 have h0:¬ d.Op = 1:=by omega
 have h2:¬ d.Op = 2:=by omega
 have h3:¬ d.Op = 3:=by omega
 simp only [taskmillref_RanFrames_l1,taskmillref_RanFrames_j1,stk_n (S++[p]) t h.s,stk_ix,stk_set,stk_b1 (S++[p]) t,stk_b2 (S++[p]) t,h.at_,h.d,decide_eq_true h.f.1,decide_eq_true h.f.2,decide_eq_true (show (0:Int)≤(i:Int) by omega),decide_eq_true (show (i:Int) < (((ix funcs t.Func).length:Nat):Int) by omega),Bool.and_self,Bool.not_true,Bool.false_or,cond_true,dec1,cond_false,opF h0,opF h2,opF h3,opT h1,wrapI i (by omega),wrap1 fuel (by omega),hb,Bool.true_and,par_n S p hs2,par_ix,par_set,par_b,stk_b1 S p]
 cases hp:p.Panics with
 | true=>rw [cond_true,room1 out p.Value (by omega),cond_true]; rfl
 | false=>rw [cond_false,room1 out (-1) (by omega),cond_true]; rfl
structure Ends (funcs:List (List Deed)) (S:List GFrame) (t:GFrame):Prop where
 s:S.length < 100
 f:In funcs t.Func
 e:t.At = -1∨∃ i:Nat,t.At = ((i:Nat):Int)∧(ix funcs t.Func).length≤i
theorem Ends.c1 {funcs:List (List Deed)} {S:List GFrame} {t:GFrame} (h:Ends funcs S t):(decide ((0:Int)≤t.At) && decide (t.At < (((ix funcs t.Func).length:Nat):Int))) = false:=by
 rcases h.e with h | ⟨i,h,hi⟩
 ·rw [h]; rfl
 ·rw [h,decide_eq_false (show ¬ (i:Int) < (((ix funcs t.Func).length:Nat):Int) by omega),Bool.and_false]
theorem Ends.c0 {funcs:List (List Deed)} {S:List GFrame} {t:GFrame} (h:Ends funcs S t):(!decide ((0:Int)≤t.At) || (decide ((0:Int)≤t.Func) && decide (t.Func < (funcs.length:Int)))) = true:=by
 rw [decide_eq_true h.f.1,decide_eq_true h.f.2]; simp
theorem st_late {funcs:List (List Deed)} {S:List GFrame} {t:GFrame} (h:Ends funcs S t) (l:List Int) (g:Int) (hla:t.Late = l++[g]) (hll:l.length≤10000) (fuel:Int) (out:List Int) :
  taskmillref_RanFrames_l1 funcs (fuel,S++[t],out) = if S.length = 99 then some (.inr (0,false,false,[])) else some (.inl (fuel,S++[{ t with At:=-1,Late:=l }]++[fresh g true],out)):=by
 have hs:=h.s
 have hb:=lastB (lt:=l) (g:=g) (by simp; omega)
 have t0:decide ((0:Int) < (((l++[g]).length:Nat):Int)) = true:=decide_eq_true (by rw [List.length_append,List.length_singleton]; omega)
 have t1:decide ((0:Int)≤(l.length:Int)) = true:=decide_eq_true (by omega)
 have t2:decide ((l.length:Int) < (((l++[g]).length:Nat):Int)) = true:=decide_eq_true (by rw [List.length_append,List.length_singleton]; omega)
 have t3:decide ((l.length:Int)≤(((l++[g]).length:Nat):Int)) = true:=decide_eq_true (by rw [List.length_append,List.length_singleton]; omega)
 simp only [taskmillref_RanFrames_l1,taskmillref_RanFrames_j1,stk_n S t h.s,stk_ix,stk_set,stk_b1 S t,stk_b2 S t,h.c1,h.c0,Bool.and_self,cond_true,cond_false,hla,hb,t0,t1,t2,t3,lastX,lastC]
 simp only [stk_len]
 by_cases h99:S.length = 99
 ·rw [if_pos h99,show ((((S.length+1:Nat):Int)) == 100) = true from by rw [h99]; rfl,cond_true]; rfl
 ·rw [if_neg h99,show ((((S.length+1:Nat):Int)) == 100) = false from by rw [beq_eq_false_iff_ne]; omega,cond_false,decide_eq_true (by omega),cond_true]
  rfl
theorem st_end0 {funcs:List (List Deed)} {t:GFrame} (h:Ends funcs [] t) (hla:t.Late = []) (fuel:Int) (out:List Int) :
  taskmillref_RanFrames_l1 funcs (fuel,[]++[t],out) = some (.inr (if t.Panics then t.Value else 0,t.Panics,true,out)):=by
 have e:∀ x:GFrame,([]++[x]:List GFrame).length = 1:=fun _=>rfl
 simp only [taskmillref_RanFrames_l1,taskmillref_RanFrames_j1,stk_n [] t h.s,stk_ix,stk_set,stk_b1 [] t,stk_b2 [] t,h.c1,h.c0,Bool.and_self,cond_true,cond_false,hla]
 cases hp:t.Panics <;> simp
theorem st_pop {funcs:List (List Deed)} {S:List GFrame} {p t:GFrame} (h:Ends funcs (S++[p]) t) (hla:t.Late = []) (fuel:Int) (out:List Int) :
  taskmillref_RanFrames_l1 funcs (fuel,S++[p]++[t],out) = some (.inl (fuel,S++[if t.Panics then { p with At:=-1,Panics:=true,Value:=t.Value } else p],out)):=by
 have hs:=h.s
 have hs2:S.length < 100:=by simp at hs; omega
 have n0:((((S++[p]).length:Nat):Int) == 0) = false:=by rw [beq_eq_false_iff_ne,List.length_append,List.length_singleton]; omega
 have b1:decide ((0:Int)≤(((S++[p]).length:Nat):Int)) = true:=decide_eq_true (by omega)
 have b3:∀ x:GFrame,decide ((((S++[p]).length:Nat):Int)≤(((S++[p]++[x]).length:Nat):Int)) = true:=fun x=>decide_eq_true (by rw [List.length_append (bs:=[x]),List.length_singleton]; omega)
 have cc:∀ x:GFrame,cut (S++[p]++[x]) (0:Int) (((S++[p]).length:Nat):Int) = S++[p]:=fun x=>by rw [cut_take,List.take_left']; rfl
 have d0:decide ((0:Int) < (((([]:List Int)).length:Nat):Int)) = false:=rfl
 simp only [taskmillref_RanFrames_l1,taskmillref_RanFrames_j1,stk_n (S++[p]) t h.s,stk_ix,stk_set,stk_b1 (S++[p]) t,stk_b2 (S++[p]) t,h.c1,h.c0,Bool.and_self,cond_true,cond_false,hla,d0,n0,b1,b3,cc,par_n S p hs2,par_ix,par_set,stk_b1 S p,stk_b2 S p]
 have dd:decide ((S.length:Int) < (S.length:Int)+1) = true:=decide_eq_true (by omega)
 cases hp:t.Panics <;> simp [dd]
end Go.Proofs.YteelocnklamegaaDoor
end

section
namespace Go.Proofs.YteelocnklamegaaDoor
open Go Go.Sx
set_option linter.unusedVariables false
set_option linter.unusedSimpArgs false
abbrev RR:=Int×Bool×Bool×List Int
noncomputable def loopR (funcs:List (List Deed)) (fuel:Nat) (S:List GFrame) (out:List Int):Option RR:=loopO (taskmillref_RanFrames_l1 funcs) ((fuel:Int),S,out)
def deadR:Option RR:=some (0,false,false,[])
theorem go_inl {funcs:List (List Deed)} {fuel fuel':Nat} {S S':List GFrame} {out out':List Int} (h:taskmillref_RanFrames_l1 funcs ((fuel:Int),S,out) = some (.inl (((fuel':Nat):Int),S',out'))):loopR funcs fuel S out = loopR funcs fuel' S' out':=loopO_inl h
theorem go_inr {funcs:List (List Deed)} {fuel:Nat} {S:List GFrame} {out:List Int} {r:RR} (h:taskmillref_RanFrames_l1 funcs ((fuel:Int),S,out) = some (.inr r)):loopR funcs fuel S out = some r:=loopO_inr h
def popF (p:GFrame) (e:Err):GFrame:=if e.isPan then { p with At:=-1,Panics:=true,Value:=e.val } else p
def upF (S:List GFrame) (up:Option Err):List GFrame:=match up,S.getLast? with
 | some x,some p=>S.dropLast++[{ p with Panics:=x.isPan }]
 | _,_=>S
theorem upF_none (S:List GFrame):upF S none = S:=by unfold upF; rfl
theorem upF_some (S:List GFrame) (p:GFrame) (x:Err):upF (S++[p]) (some x) = S++[{ p with Panics:=x.isPan }]:=by simp [upF]
def UpOk (S:List GFrame) (b:Bool) (up:Option Err):Prop:=(b = false∧up = none)∨(b = true∧∃ S0 p x,S = S0++[p]∧up = some x∧x.isPan = p.Panics∧(x.isPan = true→p.Value = x.val))
theorem UpOk.same {S:List GFrame} {b:Bool} {up:Option Err} (h:UpOk S b up):upF S up = S:=by
 rcases h with ⟨_,rfl⟩ | ⟨_,S0,p,x,rfl,rfl,h1,_⟩
 ·exact upF_none S
 ·rw [upF_some,h1]
def CallSim (funcs:List (List Deed)) (n:Nat):Prop:=∀ (S:List GFrame) (p:GFrame) (A:Int) (fuel:Nat) (out:List Int),S.length = n→In funcs A→fuel+out.length≤5000 →
 loopR funcs fuel (S++[p]++[fresh A false]) out = if (callS funcs (99 - n) none A fuel out).1 = .tired then deadR else loopR funcs (callS funcs (99 - n) none A fuel out).2.1 (S++[popF p (callS funcs (99 - n) none A fuel out).1]) (callS funcs (99 - n) none A fuel out).2.2.1
theorem body_sim {funcs:List (List Deed)} (hg:Good funcs) :
 ∀(r:List Deed) (i:Nat) (t:GFrame) (up:Option Err) (fuel:Nat) (out:List Int) (S:List GFrame) (_:S.length < 100) (_:S.length < 99→CallSim funcs S.length),In funcs t.Func→(ix funcs t.Func).drop i = r→t.At = ((i:Nat):Int)→t.Panics = false→UpOk S t.Defer up→fuel+out.length≤5000→fuel+t.Late.length≤5000→(if (bodyS (fun A fu o=>callS funcs (99 - S.length) none A fu o) r up fuel out t.Late).1 = .tired then loopR funcs fuel (S++[t]) out = deadR else
   ∃t':GFrame,Ends funcs S t'∧t'.Func = t.Func∧t'.Defer = t.Defer∧t'.Late = (bodyS (fun A fu o=>callS funcs (99 - S.length) none A fu o) r up fuel out t.Late).2.2.2.1∧t'.Panics = (bodyS (fun A fu o=>callS funcs (99 - S.length) none A fu o) r up fuel out t.Late).1.isPan∧(t'.Panics = true→t'.Value = (bodyS (fun A fu o=>callS funcs (99 - S.length) none A fu o) r up fuel out t.Late).1.val) ∧
     loopR funcs fuel (S++[t]) out = loopR funcs (bodyS (fun A fu o=>callS funcs (99 - S.length) none A fu o) r up fuel out t.Late).2.1 (upF S (bodyS (fun A fu o=>callS funcs (99 - S.length) none A fu o) r up fuel out t.Late).2.2.2.2++[t']) (bodyS (fun A fu o=>callS funcs (99 - S.length) none A fu o) r up fuel out t.Late).2.2.1)
 | [],i,t,up,fuel,out,S,hS,hsim,hf,hd,ha,hp,hu,ho,hla=>by
  rw [if_neg (by simp [bodyS])]
  refine ⟨t,⟨hS,hf,.inr ⟨i,ha,by simpa using hd⟩⟩,rfl,rfl,rfl,hp,(fun h=>by rw [hp] at h; cases h),?_⟩
  simp only [bodyS]
  rw [hu.same]
 | d::r,i,t,up,0,out,S,hS,hsim,hf,hd,ha,hp,hu,ho,hla=>by
  have hm:=hg.2.2 _ (ix_in hf)
  have hi:i < (ix funcs t.Func).length:=by
   rcases Nat.lt_or_ge i (ix funcs t.Func).length with h | h
   ·exact h
   ·rw [List.drop_eq_nil_of_le h] at hd; cases hd
  rw [if_pos (by simp [bodyS])]
  exact go_inr (st_tired (d:=ix (ix funcs t.Func) (i:Int)) ⟨hS,hf,ha,hi,rfl,hm.1⟩ out)
 | d::r,i,t,up,fuel+1,out,S,hS,hsim,hf,hd,ha,hp,hu,ho,hla=>by
  have hm:=hg.2.2 _ (ix_in hf)
  have hi:i < (ix funcs t.Func).length:=by
   rcases Nat.lt_or_ge i (ix funcs t.Func).length with h | h
   ·exact h
   ·rw [List.drop_eq_nil_of_le h] at hd; cases hd
  have hcons:=List.drop_eq_getElem_cons hi
  rw [hd] at hcons
  simp only [List.cons.injEq] at hcons
  obtain ⟨hdi,hr⟩:=hcons
  have T:Top funcs S t i d:=⟨hS,hf,ha,hi,by rw [ix_get hi,hdi],hm.1⟩
  have hdm:d ∈ ix funcs t.Func:=hdi ▸ List.getElem_mem hi
  have hin:d.Op = 1∨d.Op = 2→In funcs d.A:=deedF_in (hm.2 d hdm)
  have ih:=fun t up fuel out S h1 h2=>body_sim hg r (i+1) t up fuel out S h1 h2
  have hf10:fuel < 10000:=by omega
  have ho10:out.length≤10000:=by omega
  have hAt:∀ x:Int,True:=fun _=>trivial
  by_cases h1:d.Op = 1
  ·have st:=st_call T h1 fuel hf10 out
   have hA:=hin (.inl h1)
   have hle:=callS_le funcs (99 - S.length) none d.A fuel out
   unfold LeC at hle
   by_cases h99:S.length = 99
   ·rw [if_pos h99] at st
    rw [bodyS,if_pos h1]
    have e:callS funcs (99 - S.length) none d.A fuel out = (.tired,fuel,out,none):=by rw [h99]; rfl
    rw [if_pos (by simp [e])]
    exact go_inr st
   ·rw [if_neg h99] at st
    have st:=go_inl st
    have sim:=hsim (by omega) S { t with At:=((i+1:Nat):Int) } d.A fuel out rfl hA (by omega)
    rw [bodyS,if_pos h1]
    generalize callS funcs (99 - S.length) none d.A fuel out = c at *
    obtain ⟨e,fu,o,u⟩:=c
    simp only at hle sim ⊢
    cases e with
    | tired =>
     rw [if_pos rfl] at sim
     rw [if_pos (by simp)]
     rw [st]; exact sim
    | nil =>
     rw [if_neg (by simp)] at sim
     simp only [if_true]
     have:=ih { t with At:=((i+1:Nat):Int) } up fu o S hS hsim hf hr.symm rfl hp hu (by omega) (by show fu+t.Late.length≤5000; omega)
     rw [st,sim]
     exact this
    | pan v =>
     rw [if_neg (by simp)] at sim
     rw [if_neg (by simp)]
     refine ⟨popF { t with At:=((i+1:Nat):Int) } (.pan v),⟨hS,hf,.inl rfl⟩,rfl,rfl,rfl,rfl,fun _=>rfl,?_⟩
     rw [st,sim]
     simp [hu.same]
  by_cases h2:d.Op = 2
  ·have st:=go_inl (st_defer T h2 fuel hf10 (by omega) out)
   rw [bodyS,if_neg h1,if_pos h2,st]
   exact ih { t with At:=((i+1:Nat):Int),Late:=t.Late++[d.A] } up fuel out S hS hsim hf hr.symm rfl hp hu (by omega) (by show fuel+(t.Late++[d.A]).length≤5000; rw [List.length_append,List.length_singleton]; omega)
  by_cases h3:d.Op = 3
  ·have st:=go_inl (st_panic T h3 fuel hf10 out)
   rw [bodyS,if_neg h1,if_neg h2,if_pos h3,st]
   rw [if_neg (by simp)]
   exact ⟨{ t with At:=-1,Panics:=true,Value:=d.A },⟨hS,hf,.inl rfl⟩,rfl,rfl,rfl,rfl,fun _=>rfl,by simp [hu.same]⟩
  by_cases h4:d.Op = 4
  ·rw [bodyS,if_neg h1,if_neg h2,if_neg h3,if_pos h4]
   rcases hu with ⟨hb,rfl⟩ | ⟨hb,S0,p,x,rfl,rfl,hx1,hx2⟩
   ·have st:=go_inl (st_rec0 T h4 hb fuel hf10 out ho10)
    rw [st]
    simp only [Option.getD_none,Err.isPan,Bool.false_eq_true,if_false]
    exact ih { t with At:=((i+1:Nat):Int) } none fuel (out++[-1]) S hS hsim hf hr.symm rfl hp (.inl ⟨hb,rfl⟩) (by rw [List.length_append,List.length_singleton]; omega) (by show fuel+t.Late.length≤5000; omega)
   ·have st:=st_rec T h4 hb fuel hf10 out ho10
    simp only [Option.getD_some]
    by_cases hpp:p.Panics = true
    ·rw [if_pos hpp] at st
     have st:=go_inl st
     have hxp:x.isPan = true:=hx1.trans hpp
     rw [if_pos hxp,st,← hx2 hxp]
     have hl1:(S0++[{ p with Panics:=false }]).length = (S0++[p]).length:=by simp
     have:=ih { t with At:=((i+1:Nat):Int) } (some .nil) fuel (out++[p.Value]) (S0++[{ p with Panics:=false }]) (by rw [hl1]; exact hS) (by rw [hl1]; exact hsim) hf hr.symm rfl hp (.inr ⟨hb,S0,{ p with Panics:=false },.nil,rfl,rfl,rfl,fun h=>(by cases h)⟩) (by rw [List.length_append,List.length_singleton]; omega) (by show fuel+t.Late.length≤5000; omega)
     rw [hl1] at this
     split at this
     ·rename_i ht; rw [if_pos ht]; exact this
     ·rename_i ht
      rw [if_neg ht]
      obtain ⟨t',g1,g2,g3,g4,g5,g6,g7⟩:=this
      refine ⟨t',⟨hS,g1.f,g1.e⟩,g2,g3,g4,g5,g6,?_⟩
      rw [g7]
      obtain ⟨y,hy⟩:=bodyS_up (rc:=fun A fu o=>callS funcs (99 - (S0++[p]).length) none A fu o) r .nil fuel (out++[p.Value]) t.Late
      rw [hy,upF_some,upF_some]
    ·rw [if_neg hpp] at st
     have st:=go_inl st
     have hxp:¬ x.isPan = true:=fun h=>hpp (hx1.symm.trans h)
     rw [if_neg hxp,st]
     exact ih { t with At:=((i+1:Nat):Int) } (some x) fuel (out++[-1]) (S0++[p]) hS hsim hf hr.symm rfl hp (.inr ⟨hb,S0,p,x,rfl,rfl,hx1,hx2⟩) (by rw [List.length_append,List.length_singleton]; omega) (by show fuel+t.Late.length≤5000; omega)
  by_cases h5:d.Op = 5
  ·have st:=go_inl (st_print T h5 fuel hf10 out ho10)
   rw [bodyS,if_neg h1,if_neg h2,if_neg h3,if_neg h4,if_pos h5,st]
   exact ih { t with At:=((i+1:Nat):Int) } up fuel (out++[d.A]) S hS hsim hf hr.symm rfl hp hu (by rw [List.length_append,List.length_singleton]; omega) (by show fuel+t.Late.length≤5000; omega)
  by_cases h6:d.Op = 6
  ·have st:=go_inl (st_ret T h6 fuel hf10 out)
   rw [bodyS,if_neg h1,if_neg h2,if_neg h3,if_neg h4,if_neg h5,if_pos h6,st]
   rw [if_neg (by simp)]
   exact ⟨{ t with At:=-1 },⟨hS,hf,.inl rfl⟩,rfl,rfl,rfl,hp,fun h=>(by have h:t.Panics = true:=h; rw [hp] at h; cases h),by simp [hu.same]⟩
  ·have st:=go_inl (st_else T h1 h2 h3 h4 h5 h6 fuel hf10 out)
   rw [bodyS,if_neg h1,if_neg h2,if_neg h3,if_neg h4,if_neg h5,if_neg h6,st]
   exact ih { t with At:=((i+1:Nat):Int) } up fuel out S hS hsim hf hr.symm rfl hp hu (by omega) (by show fuel+t.Late.length≤5000; omega)
end Go.Proofs.YteelocnklamegaaDoor
end

section
namespace Go.Proofs.YteelocnklamegaaDoor
open Go Go.Sx
set_option linter.unusedVariables false
set_option linter.unusedSimpArgs false
theorem bodyS_up2 {rc:Int→Nat→List Int→CR}:∀ (r:List Deed) (up:Err) (fuel:Nat) (out late:List Int),∃ x,(bodyS rc r (some up) fuel out late).2.2.2.2 = some x∧(x = up∨x = .nil)
 | [],up,fuel,out,late=>⟨_,rfl,.inl rfl⟩
 | d::r,up,0,out,late=>⟨_,rfl,.inl rfl⟩
 | d::r,up,fuel+1,out,late=>by
  unfold bodyS
  split
  ·split
   ·exact bodyS_up2 r _ _ _ _
   ·exact ⟨_,rfl,.inl rfl⟩
  split
  ·exact bodyS_up2 r _ _ _ _
  split
  ·exact ⟨_,rfl,.inl rfl⟩
  split
  ·split
   ·obtain ⟨x,h1,h2⟩:=bodyS_up2 (rc:=rc) r .nil fuel (out++[((some up).getD .nil).val]) late
    exact ⟨x,h1,.inr (h2.elim id id)⟩
   ·exact bodyS_up2 r _ _ _ _
  split
  ·exact bodyS_up2 r _ _ _ _
  split
  ·exact ⟨_,rfl,.inl rfl⟩
  ·exact bodyS_up2 r _ _ _ _
theorem callS_up2 (funcs:List (List Deed)) (d:Nat) (up:Err) (f:Int) (fuel:Nat) (out:List Int):∃ x,(callS funcs d (some up) f fuel out).2.2.2 = some x∧(x = up∨x = .nil):=by
 cases d with
 | zero=>exact ⟨_,rfl,.inl rfl⟩
 | succ d=>exact bodyS_up2 _ _ _ _ _
def FE (t:GFrame) (e:Err):Prop:=t.Panics = e.isPan∧(e.isPan = true→t.Value = e.val)
def DefSim (funcs:List (List Deed)) (n:Nat):Prop:=∀ (S:List GFrame) (p:GFrame) (e:Err) (A:Int) (fuel:Nat) (out:List Int),S.length = n→In funcs A→FE p e→fuel+out.length≤5000 →
 loopR funcs fuel (S++[p]++[fresh A true]) out = if (callS funcs (99 - n) (some e) A fuel out).1 = .tired then deadR else loopR funcs (callS funcs (99 - n) (some e) A fuel out).2.1 (S++[popF { p with Panics:=((callS funcs (99 - n) (some e) A fuel out).2.2.2.getD .nil).isPan } (callS funcs (99 - n) (some e) A fuel out).1]) (callS funcs (99 - n) (some e) A fuel out).2.2.1
theorem late_sim {funcs:List (List Deed)}:∀ (rl:List Int) (S:List GFrame) (t:GFrame) (e:Err) (fuel:Nat) (out:List Int),S.length < 100→(S.length < 99→DefSim funcs S.length)→Ends funcs S t→t.Late = rl.reverse→rl.length≤10000→(∀ g ∈ rl,In funcs g)→FE t e→e≠.tired→fuel+out.length≤5000 →
  (if (lateS (fun e g fu o=>callS funcs (99 - S.length) (some e) g fu o) rl e fuel out).1 = .tired then loopR funcs fuel (S++[t]) out = deadR else
  ∃t':GFrame,Ends funcs S t'∧t'.Late = []∧FE t' (lateS (fun e g fu o=>callS funcs (99 - S.length) (some e) g fu o) rl e fuel out).1 ∧
    loopR funcs fuel (S++[t]) out = loopR funcs (lateS (fun e g fu o=>callS funcs (99 - S.length) (some e) g fu o) rl e fuel out).2.1 (S++[t']) (lateS (fun e g fu o=>callS funcs (99 - S.length) (some e) g fu o) rl e fuel out).2.2)
 | [],S,t,e,fuel,out,hS,hd,hE,hl,hn,hin,hfe,he,ho=>by
  rw [if_neg (by simpa [lateS] using he)]
  exact ⟨t,hE,by simpa using hl,hfe,rfl⟩
 | g::rl,S,t,e,fuel,out,hS,hd,hE,hl,hn,hin,hfe,he,ho=>by
  rw [List.reverse_cons] at hl
  simp only [List.length_cons] at hn
  have st:=st_late hE rl.reverse g hl (by simp; omega) (fuel:Int) out
  have hle:=callS_le funcs (99 - S.length) (some e) g fuel out
  unfold LeC at hle
  have hup:=callS_up2 funcs (99 - S.length) e g fuel out
  rw [lateS,if_neg he]
  by_cases h99:S.length = 99
  ·rw [if_pos h99] at st
   have ec:callS funcs (99 - S.length) (some e) g fuel out = (.tired,fuel,out,some e):=by rw [h99]; rfl
   rw [ec]
   simp only [reduceCtorEq,if_false]
   rw [if_pos (lateS_tired _ _ _ _)]
   exact go_inr st
  ·rw [if_neg h99] at st
   have st:=go_inl st
   have hfe':FE { t with At:=-1,Late:=rl.reverse } e:=hfe
   have sim:=hd (by omega) S { t with At:=-1,Late:=rl.reverse } e g fuel out rfl (hin g (by simp)) hfe' ho
   generalize callS funcs (99 - S.length) (some e) g fuel out = c at *
   obtain ⟨ce,cf,co,cu⟩:=c
   simp only at hle hup sim ⊢
   obtain ⟨x,rfl,hx⟩:=hup
   simp only [Option.getD_some] at sim ⊢
   rw [st]
   cases ce with
   | tired =>
    rw [if_pos rfl] at sim
    simp only [reduceCtorEq,if_false]
    rw [if_pos (lateS_tired _ _ _ _)]
    exact sim
   | nil =>
    rw [if_neg (by simp)] at sim
    rw [if_pos rfl,sim]
    have:=late_sim rl S { t with At:=-1,Late:=rl.reverse,Panics:=x.isPan } x cf co hS hd ⟨hE.s,hE.f,.inl rfl⟩ rfl (by omega) (fun y hy=>hin y (by simp [hy])) ⟨rfl,fun h=>by
     rcases hx with rfl | rfl
     ·exact hfe.2 h
     ·cases h⟩ (by rcases hx with rfl | rfl <;> simp_all) (by omega)
    exact this
   | pan v =>
    rw [if_neg (by simp)] at sim
    simp only [reduceCtorEq,if_false]
    rw [sim]
    exact late_sim rl S (popF { t with At:=-1,Late:=rl.reverse,Panics:=x.isPan } (.pan v)) (.pan v) cf co hS hd ⟨hE.s,hE.f,.inl rfl⟩ rfl (by omega) (fun y hy=>hin y (by simp [hy])) ⟨rfl,fun _=>rfl⟩ (by simp) (by omega)
end Go.Proofs.YteelocnklamegaaDoor
end

section
namespace Go.Proofs.YteelocnklamegaaDoor
open Go Go.Sx
set_option linter.unusedVariables false
set_option linter.unusedSimpArgs false
def upL (p:GFrame) (up:Option Err):GFrame:=match up with
 | none=>p
 | some x=>{ p with Panics:=x.isPan }
theorem upF_L (S:List GFrame) (p:GFrame) (up:Option Err):upF (S++[p]) up = S++[upL p up]:=by
 cases up with
 | none=>rw [upF_none]; rfl
 | some x=>rw [upF_some]; rfl
theorem fn_sim {funcs:List (List Deed)} (hg:Good funcs) {n:Nat} (hn:n≤98) (hC:n+1 < 99→CallSim funcs (n+1)) (hD:n+1 < 99→DefSim funcs (n+1)) (S:List GFrame) (p:GFrame) (b:Bool) (up:Option Err) (A:Int) (fuel:Nat) (out:List Int)
  (hS:S.length = n) (hA:In funcs A) (hu:UpOk (S++[p]) b up) (ho:fuel+out.length≤5000) :
  loopR funcs fuel (S++[p]++[fresh A b]) out = if (callS funcs (99 - n) up A fuel out).1 = .tired then deadR else loopR funcs (callS funcs (99 - n) up A fuel out).2.1 (S++[popF (upL p (callS funcs (99 - n) up A fuel out).2.2.2) (callS funcs (99 - n) up A fuel out).1]) (callS funcs (99 - n) up A fuel out).2.2.1:=by
 have hm:=hg.2.2 _ (ix_in hA)
 have hlen:(S++[p]).length = n+1:=by simp [hS]
 have hd:99 - n = (99 - (S++[p]).length)+1:=by omega
 have hle:=fun A fu o=>callS_le funcs (99 - (S++[p]).length) none A fu o
 have bs:=body_sim hg (ix funcs A) 0 (fresh A b) up fuel out (S++[p]) (by omega) (by rw [hlen]; exact hC) hA rfl rfl rfl hu ho (by show fuel+([]:List Int).length≤5000; simp; omega)
 have bl:=bodyS_le (rc:=fun A fu o=>callS funcs (99 - (S++[p]).length) none A fu o) hle (ix funcs A) up fuel out []
 have bla:=bodyS_late (funcs:=funcs) (rc:=fun A fu o=>callS funcs (99 - (S++[p]).length) none A fu o) (ix funcs A) (fun x hx hh=>deedF_in (hm.2 x hx) hh) up fuel out [] (by simp)
 rw [hd,callS]
 simp only at bs ⊢
 have e0:(fresh A b).Late = []:=rfl
 rw [e0] at bs
 generalize hB:bodyS (fun A fu o=>callS funcs (99 - (S++[p]).length) none A fu o) (ix funcs A) up fuel out [] = B at *
 obtain ⟨be,bf,bo,blt,bu⟩:=B
 simp only [List.length_nil,Nat.add_zero] at bl bla bs ⊢
 by_cases hbt:be = .tired
 ·subst hbt
  rw [if_pos rfl] at bs
  rw [if_pos (lateS_tired _ _ _ _)]
  exact bs
 ·rw [if_neg hbt] at bs
  obtain ⟨t',g1,g2,g3,g4,g5,g6,g7⟩:=bs
  rw [upF_L] at g7
  have hlen2:(S++[upL p bu]).length = (S++[p]).length:=by simp
  have ls:=late_sim blt.reverse (S++[upL p bu]) t' be bf bo (by omega) (by rw [hlen2,hlen]; exact hD) ⟨by omega,g1.f,g1.e⟩ (by rw [g4,List.reverse_reverse]) (by simp; omega) (fun g hg=>bla g (by simpa using hg)) ⟨g5,fun h=>g6 (by rw [g5]; exact h)⟩ hbt (by omega)
  rw [hlen2] at ls
  generalize lateS (fun e g fu o=>callS funcs (99 - (S++[p]).length) (some e) g fu o) blt.reverse be bf bo = L at *
  obtain ⟨le,lf,lo⟩:=L
  simp only at ls ⊢
  by_cases hlt:le = .tired
  ·rw [if_pos hlt] at ls ⊢
   rw [g7]; exact ls
  ·rw [if_neg hlt] at ls ⊢
   obtain ⟨t2,k1,k2,k3,k4⟩:=ls
   rw [g7,k4,go_inl (st_pop k1 k2 (lf:Int) lo)]
   congr 3
   unfold popF
   rw [k3.1]
   cases hle2:le.isPan with
   | true=>simp [k3.2 hle2]
   | false=>simp
theorem bodyS_up0 {rc:Int→Nat→List Int→CR}:∀ (r:List Deed) (fuel:Nat) (out late:List Int),(bodyS rc r none fuel out late).2.2.2.2 = none
 | [],fuel,out,late=>rfl
 | d::r,0,out,late=>rfl
 | d::r,fuel+1,out,late=>by
  unfold bodyS
  split
  ·split
   ·exact bodyS_up0 r _ _ _
   ·rfl
  split
  ·exact bodyS_up0 r _ _ _
  split
  ·rfl
  split
  ·rw [if_neg (by simp [Err.isPan])]; exact bodyS_up0 r _ _ _
  split
  ·exact bodyS_up0 r _ _ _
  split
  ·rfl
  ·exact bodyS_up0 r _ _ _
theorem callS_up0 (funcs:List (List Deed)) (d:Nat) (f:Int) (fuel:Nat) (out:List Int):(callS funcs d none f fuel out).2.2.2 = none:=by
 cases d with
 | zero=>rfl
 | succ d=>exact bodyS_up0 _ _ _ _
theorem sims1 {funcs:List (List Deed)} (hg:Good funcs) {n:Nat} (hn:n≤98) (hC:n+1 < 99→CallSim funcs (n+1)) (hD:n+1 < 99→DefSim funcs (n+1)):CallSim funcs n∧DefSim funcs n:=by
 refine ⟨fun S p A fuel out hS hA ho=>?_,fun S p e A fuel out hS hA hfe ho=>?_⟩
 ·have h:=fn_sim hg hn hC hD S p false none A fuel out hS hA (.inl ⟨rfl,rfl⟩) ho
  rw [callS_up0] at h
  exact h
 ·have h:=fn_sim hg hn hC hD S p true (some e) A fuel out hS hA (.inr ⟨rfl,S,p,e,rfl,rfl,hfe.1.symm,hfe.2⟩) ho
  obtain ⟨x,hx⟩:=callS_up funcs (99 - n) e A fuel out
  rw [hx] at h ⊢
  exact h
theorem sims {funcs:List (List Deed)} (hg:Good funcs):∀ k:Nat,k≤98→CallSim funcs (98 - k)∧DefSim funcs (98 - k):=by
 intro k
 induction k with
 | zero=>intro _; exact sims1 hg (by omega) (fun h=>by omega) (fun h=>by omega)
 | succ k ih =>
  intro hk
  have e:98 - (k+1)+1 = 98 - k:=by omega
  exact sims1 hg (by omega) (fun _=>by rw [e]; exact (ih (by omega)).1) (fun _=>by rw [e]; exact (ih (by omega)).2)
end Go.Proofs.YteelocnklamegaaDoor
end

section
namespace Go.Proofs.YteelocnklamegaaDoor
open Go Go.Sx
set_option linter.unusedVariables false
set_option linter.unusedSimpArgs false
theorem ran_eq {funcs:List (List Deed)} (hg:Good funcs):taskmillref_RanFrames funcs = if (callS funcs 100 none 0 5000 []).1 = .tired then some (0,false,false,[]) else some ((callS funcs 100 none 0 5000 []).1.val,(callS funcs 100 none 0 5000 []).1.isPan,true,(callS funcs 100 none 0 5000 []).2.2.1):=by
 have h0:=sims hg 98 (by omega)
 rw [show 98 - 98 = 0 from rfl] at h0
 have hA:In funcs 0:=⟨by omega,by have:=hg.1; omega⟩
 have hm:=hg.2.2 _ (ix_in hA)
 show loopR funcs 5000 ([]++[fresh 0 false]) [] = _
 have hle:=fun A fu o=>callS_le funcs 99 none A fu o
 have bs:=body_sim hg (ix funcs 0) 0 (fresh 0 false) none 5000 [] [] (by decide) (fun _=>h0.1) hA rfl rfl rfl (.inl ⟨rfl,rfl⟩) (by decide) (by show 5000+([]:List Int).length≤5000; decide)
 have bl:=bodyS_le (rc:=fun A fu o=>callS funcs 99 none A fu o) hle (ix funcs 0) none 5000 [] []
 have bla:=bodyS_late (funcs:=funcs) (rc:=fun A fu o=>callS funcs 99 none A fu o) (ix funcs 0) (fun x hx hh=>deedF_in (hm.2 x hx) hh) none 5000 [] [] (by simp)
 have e0:(fresh 0 false).Late = []:=rfl
 have e9:99 - ([]:List GFrame).length = 99:=rfl
 have bu0:=bodyS_up0 (rc:=fun A fu o=>callS funcs 99 none A fu o) (ix funcs 0) 5000 [] []
 rw [e0,e9] at bs
 rw [callS]
 simp only at bs ⊢
 generalize hB:bodyS (fun A fu o=>callS funcs 99 none A fu o) (ix funcs 0) none 5000 [] [] = B at *
 obtain ⟨be,bf,bo,blt,bu⟩:=B
 simp only [List.length_nil,Nat.add_zero] at bl bla bs bu0 ⊢
 subst bu0
 by_cases hbt:be = .tired
 ·subst hbt
  rw [if_pos rfl] at bs
  rw [if_pos (lateS_tired _ _ _ _)]
  exact bs
 ·rw [if_neg hbt] at bs
  obtain ⟨t',g1,g2,g3,g4,g5,g6,g7⟩:=bs
  rw [upF_none] at g7
  have ls:=late_sim blt.reverse [] t' be bf bo (by decide) (fun _=>h0.2) g1 (by rw [g4,List.reverse_reverse]) (by simp; omega) (fun g hg=>bla g (by simpa using hg)) ⟨g5,fun h=>g6 (by rw [g5]; exact h)⟩ hbt (by omega)
  rw [e9] at ls
  generalize lateS (fun e g fu o=>callS funcs 99 (some e) g fu o) blt.reverse be bf bo = L at *
  obtain ⟨le,lf,lo⟩:=L
  simp only at ls ⊢
  by_cases hlt:le = .tired
  ·rw [if_pos hlt] at ls ⊢
   rw [g7]; exact ls
  ·rw [if_neg hlt] at ls ⊢
   obtain ⟨t2,k1,k2,k3,k4⟩:=ls
   rw [g7,k4,go_inr (st_end0 k1 k2 (lf:Int) lo)]
   rw [k3.1]
   cases hle2:le.isPan with
   | true=>simp [k3.2 hle2]
   | false=>cases le <;> simp_all [Err.isPan,Err.val]
theorem fault_beq (a:Fault):((a.Code == a.Code) && ((a.At == a.At) && true)) = true:=by simp
theorem runs_law (funcs:List (List Deed)) (hl:funcs.length≤9223372036854775807):taskmilllaw_FrameRuns funcs = some true:=by
 unfold taskmilllaw_FrameRuns
 rw [begun,Option.bind_some,Bool.not_true,cond_false]
 obtain ⟨b,hv⟩:=vast_eq funcs hl
 rw [hv,Option.bind_some]
 cases b with
 | true=>rfl
 | false =>
  obtain ⟨h1,h2⟩:=vast_not funcs hl hv
  rw [cond_false,own_eq funcs h1 h2,Option.bind_some,check_eq funcs (by omega),Option.bind_some,Option.bind_some]
  by_cases hg:Good funcs
  ·rw [run_good hg,Option.bind_some,ref_eq funcs (by omega),Option.bind_some,fault_beq,Bool.not_true,cond_false,chk_zero hg]
   rw [show (((⟨0,0⟩:Fault)).Code == 0) = true from rfl,cond_true,ran_eq hg]
   have hle:=callS_le funcs 100 none 0 5000 []
   unfold LeC at hle
   simp only [List.length_nil,Nat.add_zero] at hle
   unfold runS
   by_cases ht:(callS funcs 100 none 0 5000 []).1 = .tired
   ·rw [if_pos ht,Option.bind_some]
    simp only [ht,taskmillref_F,Option.bind_some,taskmilllaw_FrameRuns_j3,taskmilllaw_FrameRuns_j2,taskmilllaw_FrameRuns_j1]
    simp [ints_eq]
   ·rw [if_neg ht,Option.bind_some]
    simp only [ht,if_false,Bool.not_true,cond_false,taskmilllaw_FrameRuns_j3,taskmilllaw_FrameRuns_j2,taskmilllaw_FrameRuns_j1]
    rw [ints_eq _ _ (by omega)]
    simp
  ·obtain ⟨e1,e2⟩:=run_bad (by omega) hg
   rw [e1,Option.bind_some,ref_eq funcs (by omega),Option.bind_some,fault_beq,Bool.not_true,cond_false]
   rw [show ((chk funcs).Code == 0) = false from by simpa using e2,cond_false]
   unfold taskmilllaw_FrameRuns_j2
   simp only
   rw [fault_beq,ints_eq _ _ (by simp)]
   rfl
end Go.Proofs.YteelocnklamegaaDoor
end
