/-
 Lemmas, put together: QA, QB, QC, frameP1, frameP2, frameP3, frameP4, frameP5, frameP6, framePnests, framePnest2.
 No conditions.
-/
import Derived.Test.YteelocnklamegaaDoorframeA3
import Derived.Test.YteelocnklamegaaDoorframeG
set_option linter.unusedSimpArgs false
set_option linter.unusedVariables false
set_option linter.unusedSectionVars false
section
namespace Go.Sx
open Go
set_option linter.unusedVariables false
theorem wrap_id {x:Int} (h1:-9223372036854775808≤x) (h2:x≤9223372036854775807):IntKind.i64.wrap x = x:=by
 simp only [IntKind.wrap,IntKind.bits,IntKind.signed,if_true]
 simp
 omega
theorem wrap_n1 (i:Nat) (h:i < 4611686018427387904):IntKind.i64.wrap ((i:Int)+1) = ((i+1:Nat):Int):=by
 rw [wrap_id (by omega) (by omega)]; rfl
def firstAt {β:Type} (bad:Nat→Option β):Nat→Option β
 | 0=>none
 | n+1=>(firstAt bad n).or (bad n)
theorem firstAt_none {β:Type} {f:Nat→Option β}:∀ (n:Nat),firstAt f n = none↔∀ i,i < n→f i = none
 | 0=>by simp [firstAt]
 | n+1=>by
  simp only [firstAt,Option.or_eq_none_iff,firstAt_none n]
  constructor
  ·rintro ⟨h1,h2⟩ i hi
   by_cases h:i = n
   ·subst h; exact h2
   ·exact h1 i (by omega)
  ·exact fun h=>⟨fun i hi=>h i (by omega),h n (by omega)⟩
theorem firstAt_some {β:Type} {f:Nat→Option β} {b:β}:∀ (n:Nat),firstAt f n = some b→∃ i,i < n∧f i = some b∧∀ j,j < i→f j = none
 | 0,h=>by simp [firstAt] at h
 | n+1,h=>by
  simp only [firstAt] at h
  cases hf:firstAt f n with
  | some c =>
   rw [hf] at h
   obtain ⟨i,h1,h2,h3⟩:=firstAt_some n hf
   simp only [Option.some_or] at h
   exact ⟨i,by omega,by rw [h2,h],h3⟩
  | none =>
   rw [hf] at h
   simp only [Option.none_or] at h
   exact ⟨n,by omega,h,fun j hj=>(firstAt_none n).1 hf j hj⟩
theorem loopO_find {S ρ:Type} {step:S→Option (S ⊕ ρ)} (E:Nat→S) (bad:Nat→Option ρ) (rest:Option ρ) (n:Nat)
  (h1:∀ i,i < n→bad i = none→step (E i) = some (.inl (E (i+1)))) (h2:∀ i r,i < n→bad i = some r→step (E i) = some (.inr r)) (h3:(∀ i,i < n→bad i = none)→step (E n) = rest.map .inr) :
  loopO step (E 0) = match firstAt bad n with
   | some r=>some r
   | none=>rest:=by
 have walk:∀ k,k≤n→(∀ i,i < k→bad i = none)→loopO step (E 0) = loopO step (E k):=by
  intro k
  induction k with
  | zero=>exact fun _ _=>rfl
  | succ k ih =>
   intro hk hb
   rw [ih (by omega) fun i hi=>hb i (by omega),loopO_inl (h1 k (by omega) (hb k (by omega)))]
 cases hf:firstAt bad n with
 | none =>
  have hb:=(firstAt_none n).1 hf
  rw [walk n (Nat.le_refl _) hb,loopO_out (h3 hb)]
 | some r =>
  obtain ⟨i,g1,g2,g3⟩:=firstAt_some n hf
  rw [walk i (by omega) g3,loopO_inr (h2 i r g1 g2)]
theorem loopO_findD {S ρ:Type} {step:S→Option (S ⊕ ρ)} (E:Nat→S) (bad:Nat→Option ρ) (d:ρ) (n:Nat)
  (h1:∀ i,i < n→bad i = none→step (E i) = some (.inl (E (i+1)))) (h2:∀ i r,i < n→bad i = some r→step (E i) = some (.inr r)) (h3:(∀ i,i < n→bad i = none)→step (E n) = some (.inr d)) :
  loopO step (E 0) = some ((firstAt bad n).getD d):=by
 rw [loopO_find E bad (some d) n h1 h2 (fun h=>by rw [h3 h]; rfl)]
 cases firstAt bad n <;> rfl
theorem loopO_all {S ρ:Type} {step:S→Option (S ⊕ ρ)} (E:Nat→S) (rest:Option ρ) (n:Nat)
  (h1:∀ i,i < n→step (E i) = some (.inl (E (i+1)))) (h3:step (E n) = rest.map .inr):loopO step (E 0) = rest:=by
 have:=loopO_find E (fun _=>none) rest n (fun i hi _=>h1 i hi) (fun i r _ h=>by cases h) (fun _=>h3)
 rw [this,(firstAt_none n).2 fun _ _=>rfl]
theorem ix_get {α:Type} [Enc α] {xs:List α} {i:Nat} (h:i < xs.length):ix xs (i:Int) = xs[i]:=by
 simp [ix,List.getD_eq_getElem?_getD,h]
theorem cut_take {α:Type} (xs:List α) (i:Nat):cut xs 0 (i:Int) = xs.take i:=by simp [cut]
end Go.Sx
end

section
namespace Go.Sx
variable {α:Type}
end Go.Sx
end

section
namespace Go.Sx
def toldOr {S ρ:Type} (o:Option ρ) (s:S):Option (S ⊕ ρ):=match o with
 | some r=>some (.inr r)
 | none=>some (.inl s)
@[simp] theorem toldOr_some {S ρ:Type} (r:ρ) (s:S):toldOr (some r) s = some (.inr r):=rfl
@[simp] theorem toldOr_none {S ρ:Type} (s:S):toldOr (none:Option ρ) s = some (.inl s):=rfl
end Go.Sx
end

section
namespace Go.Proofs.YteelocnklamegaaDoor
open Go Go.Sx
set_option linter.unusedVariables false
set_option linter.unusedSimpArgs false
abbrev CR:=Err×Nat×List Int×Option Err
def bodyS (rc:Int→Nat→List Int→CR):List Deed→Option Err→Nat→List Int→List Int→Err×Nat×List Int×List Int×Option Err
 | [],up,fuel,out,late=>(.nil,fuel,out,late,up)
 | d::r,up,0,out,late=>(.tired,0,out,late,up)
 | d::r,up,fuel+1,out,late =>
  if d.Op = 1 then (if (rc d.A fuel out).1 = .nil then bodyS rc r up (rc d.A fuel out).2.1 (rc d.A fuel out).2.2.1 late else ((rc d.A fuel out).1,(rc d.A fuel out).2.1,(rc d.A fuel out).2.2.1,late,up))
  else if d.Op = 2 then bodyS rc r up fuel out (late++[d.A])
  else if d.Op = 3 then (.pan d.A,fuel,out,late,up)
  else if d.Op = 4 then (if (up.getD .nil).isPan then bodyS rc r (some .nil) fuel (out++[(up.getD .nil).val]) late else bodyS rc r up fuel (out++[-1]) late)
  else if d.Op = 5 then bodyS rc r up fuel (out++[d.A]) late
  else if d.Op = 6 then (.nil,fuel,out,late,up)
  else bodyS rc r up fuel out late
def lateS (rc:Err→Int→Nat→List Int→CR):List Int→Err→Nat→List Int→Err×Nat×List Int
 | [],e,fuel,out=>(e,fuel,out)
 | g::r,e,fuel,out=>if e = .tired then (e,fuel,out) else
  lateS rc r (if (rc e g fuel out).1 = .nil then (rc e g fuel out).2.2.2.getD .nil else (rc e g fuel out).1) (rc e g fuel out).2.1 (rc e g fuel out).2.2.1
def callS (funcs:List (List Deed)):Nat→Option Err→Int→Nat→List Int→CR
 | 0,up,f,fuel,out=>(.tired,fuel,out,up)
 | d+1,up,f,fuel,out =>
  let b:=bodyS (fun A fu o=>callS funcs d none A fu o) (ix funcs f) up fuel out []
  let l:=lateS (fun e g fu o=>callS funcs d (some e) g fu o) b.2.2.2.1.reverse b.1 b.2.1 b.2.2.1
  (l.1,l.2.1,l.2.2,b.2.2.2.2)
def LeC (c:CR) (fu:Nat) (o:List Int):Prop:=c.2.1+c.2.2.1.length≤fu+o.length∧c.2.1≤fu
theorem bodyS_le {rc:Int→Nat→List Int→CR} (h:∀ A fu o,LeC (rc A fu o) fu o):∀ (r:List Deed) (up:Option Err) (fuel:Nat) (out late:List Int),
  (bodyS rc r up fuel out late).2.1+(bodyS rc r up fuel out late).2.2.1.length≤fuel+out.length∧(bodyS rc r up fuel out late).2.1≤fuel∧(bodyS rc r up fuel out late).2.1+(bodyS rc r up fuel out late).2.2.2.1.length≤fuel+late.length
 | [],up,fuel,out,late=>⟨Nat.le_refl _,Nat.le_refl _,Nat.le_refl _⟩
 | d::r,up,0,out,late=>⟨Nat.le_refl _,Nat.le_refl _,Nat.le_refl _⟩
 | d::r,up,fuel+1,out,late=>by
  have hc:=h d.A fuel out
  unfold LeC at hc
  unfold bodyS
  have i1:=bodyS_le h r up (rc d.A fuel out).2.1 (rc d.A fuel out).2.2.1 late
  have i2:=bodyS_le h r up fuel out (late++[d.A])
  have i4:=bodyS_le h r (some .nil) fuel (out++[(up.getD .nil).val]) late
  have i5:=bodyS_le h r up fuel (out++[-1]) late
  have i6:=bodyS_le h r up fuel (out++[d.A]) late
  have i7:=bodyS_le h r up fuel out late
  simp only [List.length_append,List.length_cons,List.length_nil] at i1 i2 i4 i5 i6 i7
  split
  ·split
   ·omega
   ·simp only; omega
  split
  ·omega
  split
  ·simp only; omega
  split
  ·split <;> omega
  split
  ·omega
  split
  ·simp only; omega
  ·omega
theorem lateS_le {rc:Err→Int→Nat→List Int→CR} (h:∀ e A fu o,LeC (rc e A fu o) fu o):∀ (r:List Int) (e:Err) (fuel:Nat) (out:List Int),
  (lateS rc r e fuel out).2.1+(lateS rc r e fuel out).2.2.length≤fuel+out.length∧(lateS rc r e fuel out).2.1≤fuel
 | [],e,fuel,out=>⟨Nat.le_refl _,Nat.le_refl _⟩
 | g::r,e,fuel,out=>by
  unfold lateS
  split
  ·exact ⟨Nat.le_refl _,Nat.le_refl _⟩
  ·have hc:=h e g fuel out
   unfold LeC at hc
   have:=lateS_le h r (if (rc e g fuel out).1 = .nil then (rc e g fuel out).2.2.2.getD .nil else (rc e g fuel out).1) (rc e g fuel out).2.1 (rc e g fuel out).2.2.1
   omega
theorem callS_le (funcs:List (List Deed)):∀ (d:Nat) (up:Option Err) (f:Int) (fuel:Nat) (out:List Int),LeC (callS funcs d up f fuel out) fuel out
 | 0,up,f,fuel,out=>⟨Nat.le_refl _,Nat.le_refl _⟩
 | d+1,up,f,fuel,out=>by
  have h1:=bodyS_le (rc:=fun A fu o=>callS funcs d none A fu o) (fun A fu o=>callS_le funcs d none A fu o) (ix funcs f) up fuel out []
  have h2:=lateS_le (rc:=fun e g fu o=>callS funcs d (some e) g fu o) (fun e A fu o=>callS_le funcs d (some e) A fu o) (bodyS (fun A fu o=>callS funcs d none A fu o) (ix funcs f) up fuel out []).2.2.2.1.reverse (bodyS (fun A fu o=>callS funcs d none A fu o) (ix funcs f) up fuel out []).1 (bodyS (fun A fu o=>callS funcs d none A fu o) (ix funcs f) up fuel out []).2.1 (bodyS (fun A fu o=>callS funcs d none A fu o) (ix funcs f) up fuel out []).2.2.1
  unfold LeC callS
  simp only
  omega
def Ok (funcs:List (List Deed)):Prop:=∀ l ∈ funcs,l.length≤100∧∀ d ∈ l,d.Op = 1∨d.Op = 2→0≤d.A∧d.A < (funcs.length:Int)
def In (funcs:List (List Deed)) (A:Int):Prop:=0≤A∧A < (funcs.length:Int)
theorem bodyS_late {funcs:List (List Deed)} {rc:Int→Nat→List Int→CR}:∀ (r:List Deed) (hr:∀ d ∈ r,d.Op = 1∨d.Op = 2→In funcs d.A) (up:Option Err) (fuel:Nat) (out late:List Int),(∀ g ∈ late,In funcs g)→∀ g ∈ (bodyS rc r up fuel out late).2.2.2.1,In funcs g
 | [],hr,up,fuel,out,late,hl=>hl
 | d::r,hr,up,0,out,late,hl=>hl
 | d::r,hr,up,fuel+1,out,late,hl=>by
  have hr':∀ d ∈ r,d.Op = 1∨d.Op = 2→In funcs d.A:=fun x hx=>hr x (by simp [hx])
  unfold bodyS
  split
  ·split
   ·exact bodyS_late r hr' _ _ _ _ hl
   ·exact hl
  split
  ·rename_i h2
   exact bodyS_late r hr' _ _ _ _ (fun g hg=>by
    rcases List.mem_append.1 hg with h | h
    ·exact hl g h
    ·rw [List.mem_singleton.1 h]; exact hr d (by simp) (.inr h2))
  split
  ·exact hl
  split
  ·split <;> exact bodyS_late r hr' _ _ _ _ hl
  split
  ·exact bodyS_late r hr' _ _ _ _ hl
  split
  ·exact hl
  ·exact bodyS_late r hr' _ _ _ _ hl
end Go.Proofs.YteelocnklamegaaDoor
end

section
namespace Go.Proofs.YteelocnklamegaaDoor
open Go Go.Sx
set_option linter.unusedVariables false
set_option linter.unusedSimpArgs false
abbrev RN:=Int→(List (List Deed))→Int→Int→(List Int)→Option (Err×(List (List Deed))×Int×Int×(List Int))
abbrev RU:=Int→(List (List Deed))→Int→Int→Err→(List Int)→Option (Err×(List (List Deed))×Int×Int×(List Int)×Err)
def OkN (funcs:List (List Deed)) (rcf:RN) (rc:Int→Nat→List Int→CR) (deep:Int):Prop :=
∀A fu (o:List Int),In funcs A→fu+o.length≤5000→∃ dp,rcf A funcs ((fu:Nat):Int) deep o = some ((rc A fu o).1,funcs,(((rc A fu o).2.1:Nat):Int),dp,(rc A fu o).2.2.1)∧((rc A fu o).1≠.tired→dp = deep)
theorem wrap1 (n:Nat) (h:n < 100000):IntKind.i64.wrap (((n+1:Nat):Int) - 1) = (n:Int):=by rw [wrap_id (by omega) (by omega)]; omega
theorem room1 {α:Type} (xs:List α) (y:α) (h:xs.length≤100000):decide ((xs++[y]).length * 8≤140737488355328) = true:=by
 rw [List.length_append,List.length_singleton]; exact decide_eq_true (by omega)
theorem dec1 (n:Nat):((((n+1:Nat):Int)) == 0) = false:=by rw [beq_eq_false_iff_ne]; omega
theorem opF {a b:Int} (h:¬ a = b):(a == b) = false:=by simpa using h
theorem opT {a b:Int} (h:a = b):(a == b) = true:=by simpa using h
theorem bodyN_loop {funcs:List (List Deed)} {f:Int} {l:List Deed} (hl:ix funcs f = l) (hlen:l.length≤100) (hin:∀ d ∈ l,d.Op = 1∨d.Op = 2→In funcs d.A) {rcf:RN} {rc:Int→Nat→List Int→CR} {deep:Int} (hrc:OkN funcs rcf rc deep) (hle:∀ A fu o,LeC (rc A fu o) fu o) :
 ∀(r:List Deed) (i:Nat) (fuel:Nat) (out late:List Int),l.drop i = r→fuel+out.length≤5000→fuel+late.length≤5000 →
  ∃dp,loopO (frame_player_body_l1 f funcs rcf) ((i:Int),funcs,(fuel:Int),deep,out,late) = some ((bodyS rc r none fuel out late).1,funcs,(((bodyS rc r none fuel out late).2.1:Nat):Int),dp,(bodyS rc r none fuel out late).2.2.1,(bodyS rc r none fuel out late).2.2.2.1)∧((bodyS rc r none fuel out late).1≠.tired→dp = deep)
 | [],i,fuel,out,late,hd,ho,hla=>by
  have hi:l.length≤i:=by simpa using hd
  refine ⟨deep,loopO_inr ?_,fun _=>rfl⟩
  simp only [frame_player_body_l1,hl]
  rw [decide_eq_false (by omega),cond_false]; rfl
 | d::r,i,fuel,out,late,hd,ho,hla=>by
  have hi:i < l.length:=by
   rcases Nat.lt_or_ge i l.length with h | h
   ·exact h
   ·rw [List.drop_eq_nil_of_le h] at hd; cases hd
  have hcons:=List.drop_eq_getElem_cons hi
  rw [hd] at hcons
  simp only [List.cons.injEq] at hcons
  obtain ⟨hdi,hr⟩:=hcons
  have hx:ix l (i:Int) = d:=by rw [ix_get hi,hdi]
  have hdl:d ∈ l:=hdi ▸ List.getElem_mem hi
  have t1:decide ((i:Int) < (l.length:Int)) = true:=decide_eq_true (by omega)
  have t2:decide ((0:Int)≤(i:Int)) = true:=decide_eq_true (by omega)
  have hi1:IntKind.i64.wrap ((i:Int)+1) = ((i+1:Nat):Int):=by rw [wrap_id (by omega) (by omega)]; omega
  have ih:=fun fuel out late=>bodyN_loop hl hlen hin hrc hle r (i+1) fuel out late hr.symm
  cases fuel with
  | zero =>
   refine ⟨deep,loopO_inr ?_,fun h=>absurd rfl h⟩
   simp only [frame_player_body_l1,hl,t1,t2,Bool.and_self,cond_true]
   rfl
  | succ fuel =>
   have hw:=wrap1 fuel (by omega)
   by_cases h1:d.Op = 1
   ·obtain ⟨dp,e1,e2⟩:=hrc d.A fuel out (hin d hdl (.inl h1)) (by omega)
    have hc:=hle d.A fuel out
    unfold LeC at hc
    by_cases hn:(rc d.A fuel out).1 = .nil
    ·have hdp:dp = deep:=e2 (by rw [hn]; simp)
     subst hdp
     have eb:bodyS rc (d::r) none (fuel+1) out late = bodyS rc r none (rc d.A fuel out).2.1 (rc d.A fuel out).2.2.1 late:=by
      rw [bodyS,if_pos h1,if_pos hn]
     rw [eb]
     obtain ⟨dp',i1,i2⟩:=ih (rc d.A fuel out).2.1 (rc d.A fuel out).2.2.1 late (by omega) (by omega)
     refine ⟨dp',(loopO_inl ?_).trans i1,i2⟩
     simp only [frame_player_body_l1,frame_player_body_j1,hl,t1,t2,hx,Bool.and_self,cond_true,dec1,cond_false,opT h1,hw,e1,Option.bind_some,hn,decide_true,Bool.not_true,hi1]
    ·have eb:bodyS rc (d::r) none (fuel+1) out late = ((rc d.A fuel out).1,(rc d.A fuel out).2.1,(rc d.A fuel out).2.2.1,late,none):=by
      rw [bodyS,if_pos h1,if_neg hn]
     rw [eb]
     refine ⟨dp,loopO_inr ?_,e2⟩
     simp only [frame_player_body_l1,hl,t1,t2,hx,Bool.and_self,cond_true,dec1,cond_false,opT h1,hw,e1,Option.bind_some,hn,decide_false,Bool.not_false]
     rfl
   by_cases h2:d.Op = 2
   ·have eb:bodyS rc (d::r) none (fuel+1) out late = bodyS rc r none fuel out (late++[d.A]):=by rw [bodyS,if_neg h1,if_pos h2]
    rw [eb]
    obtain ⟨dp',i1,i2⟩:=ih fuel out (late++[d.A]) (by omega) (by rw [List.length_append,List.length_singleton]; omega)
    refine ⟨dp',(loopO_inl ?_).trans i1,i2⟩
    simp only [frame_player_body_l1,frame_player_body_j1,hl,t1,t2,hx,Bool.and_self,cond_true,dec1,cond_false,opF h1,opT h2,hw,room1 late d.A (by omega),hi1]
   by_cases h3:d.Op = 3
   ·have eb:bodyS rc (d::r) none (fuel+1) out late = (.pan d.A,fuel,out,late,none):=by rw [bodyS,if_neg h1,if_neg h2,if_pos h3]
    rw [eb]
    refine ⟨deep,loopO_inr ?_,fun _=>rfl⟩
    simp only [frame_player_body_l1,hl,t1,t2,hx,Bool.and_self,cond_true,dec1,cond_false,opF h1,opF h2,opT h3,hw]
    rfl
   by_cases h4:d.Op = 4
   ·have eb:bodyS rc (d::r) none (fuel+1) out late = bodyS rc r none fuel (out++[-1]) late:=by
     rw [bodyS,if_neg h1,if_neg h2,if_neg h3,if_pos h4]; rfl
    rw [eb]
    obtain ⟨dp',i1,i2⟩:=ih fuel (out++[-1]) late (by rw [List.length_append,List.length_singleton]; omega) (by omega)
    refine ⟨dp',(loopO_inl ?_).trans i1,i2⟩
    simp only [frame_player_body_l1,frame_player_body_j1,hl,t1,t2,hx,Bool.and_self,cond_true,dec1,cond_false,opF h1,opF h2,opF h3,opT h4,hw,room1 out (-1) (by omega),hi1]
   by_cases h5:d.Op = 5
   ·have eb:bodyS rc (d::r) none (fuel+1) out late = bodyS rc r none fuel (out++[d.A]) late:=by
     rw [bodyS,if_neg h1,if_neg h2,if_neg h3,if_neg h4,if_pos h5]
    rw [eb]
    obtain ⟨dp',i1,i2⟩:=ih fuel (out++[d.A]) late (by rw [List.length_append,List.length_singleton]; omega) (by omega)
    refine ⟨dp',(loopO_inl ?_).trans i1,i2⟩
    simp only [frame_player_body_l1,frame_player_body_j1,hl,t1,t2,hx,Bool.and_self,cond_true,dec1,cond_false,opF h1,opF h2,opF h3,opF h4,opT h5,hw,room1 out d.A (by omega),hi1]
   by_cases h6:d.Op = 6
   ·have eb:bodyS rc (d::r) none (fuel+1) out late = (.nil,fuel,out,late,none):=by rw [bodyS,if_neg h1,if_neg h2,if_neg h3,if_neg h4,if_neg h5,if_pos h6]
    rw [eb]
    refine ⟨deep,loopO_inr ?_,fun _=>rfl⟩
    simp only [frame_player_body_l1,hl,t1,t2,hx,Bool.and_self,cond_true,dec1,cond_false,opF h1,opF h2,opF h3,opF h4,opF h5,opT h6,hw]
    rfl
   ·have eb:bodyS rc (d::r) none (fuel+1) out late = bodyS rc r none fuel out late:=by rw [bodyS,if_neg h1,if_neg h2,if_neg h3,if_neg h4,if_neg h5,if_neg h6]
    rw [eb]
    obtain ⟨dp',i1,i2⟩:=ih fuel out late (by omega) (by omega)
    refine ⟨dp',(loopO_inl ?_).trans i1,i2⟩
    simp only [frame_player_body_l1,frame_player_body_j1,hl,t1,t2,hx,Bool.and_self,cond_true,dec1,cond_false,opF h1,opF h2,opF h3,opF h4,opF h5,opF h6,hw,hi1]
end Go.Proofs.YteelocnklamegaaDoor
end

section
namespace Go.Proofs.YteelocnklamegaaDoor
open Go Go.Sx
set_option linter.unusedVariables false
set_option linter.unusedSimpArgs false
theorem bodyU_loop {funcs:List (List Deed)} {f:Int} {l:List Deed} (hl:ix funcs f = l) (hlen:l.length≤100) (hin:∀ d ∈ l,d.Op = 1∨d.Op = 2→In funcs d.A) {rcf:RN} {rc:Int→Nat→List Int→CR} {deep:Int} (hrc:OkN funcs rcf rc deep) (hle:∀ A fu o,LeC (rc A fu o) fu o) :
 ∀(r:List Deed) (i:Nat) (up:Err) (fuel:Nat) (out late:List Int),l.drop i = r→fuel+out.length≤5000→fuel+late.length≤5000 →
  ∃dp,loopO (frame_player_body_1_l1 f funcs rcf) ((i:Int),funcs,(fuel:Int),deep,up,out,late) = some ((bodyS rc r (some up) fuel out late).1,funcs,(((bodyS rc r (some up) fuel out late).2.1:Nat):Int),dp,(bodyS rc r (some up) fuel out late).2.2.1,(bodyS rc r (some up) fuel out late).2.2.2.1,(bodyS rc r (some up) fuel out late).2.2.2.2.getD .nil)∧((bodyS rc r (some up) fuel out late).1≠.tired→dp = deep)
 | [],i,up,fuel,out,late,hd,ho,hla=>by
  have hi:l.length≤i:=by simpa using hd
  refine ⟨deep,loopO_inr ?_,fun _=>rfl⟩
  simp only [frame_player_body_1_l1,hl]
  rw [decide_eq_false (by omega),cond_false]; rfl
 | d::r,i,up,fuel,out,late,hd,ho,hla=>by
  have hi:i < l.length:=by
   rcases Nat.lt_or_ge i l.length with h | h
   ·exact h
   ·rw [List.drop_eq_nil_of_le h] at hd; cases hd
  have hcons:=List.drop_eq_getElem_cons hi
  rw [hd] at hcons
  simp only [List.cons.injEq] at hcons
  obtain ⟨hdi,hr⟩:=hcons
  have hx:ix l (i:Int) = d:=by rw [ix_get hi,hdi]
  have hdl:d ∈ l:=hdi ▸ List.getElem_mem hi
  have t1:decide ((i:Int) < (l.length:Int)) = true:=decide_eq_true (by omega)
  have t2:decide ((0:Int)≤(i:Int)) = true:=decide_eq_true (by omega)
  have hi1:IntKind.i64.wrap ((i:Int)+1) = ((i+1:Nat):Int):=by rw [wrap_id (by omega) (by omega)]; omega
  have ih:=fun up fuel out late=>bodyU_loop hl hlen hin hrc hle r (i+1) up fuel out late hr.symm
  cases fuel with
  | zero =>
   refine ⟨deep,loopO_inr ?_,fun h=>absurd rfl h⟩
   simp only [frame_player_body_1_l1,hl,t1,t2,Bool.and_self,cond_true]
   rfl
  | succ fuel =>
   have hw:=wrap1 fuel (by omega)
   by_cases h1:d.Op = 1
   ·obtain ⟨dp,e1,e2⟩:=hrc d.A fuel out (hin d hdl (.inl h1)) (by omega)
    have hc:=hle d.A fuel out
    unfold LeC at hc
    by_cases hn:(rc d.A fuel out).1 = .nil
    ·have hdp:dp = deep:=e2 (by rw [hn]; simp)
     subst hdp
     have eb:bodyS rc (d::r) (some up) (fuel+1) out late = bodyS rc r (some up) (rc d.A fuel out).2.1 (rc d.A fuel out).2.2.1 late:=by
      rw [bodyS,if_pos h1,if_pos hn]
     rw [eb]
     obtain ⟨dp',i1,i2⟩:=ih up (rc d.A fuel out).2.1 (rc d.A fuel out).2.2.1 late (by omega) (by omega)
     refine ⟨dp',(loopO_inl ?_).trans i1,i2⟩
     simp only [frame_player_body_1_l1,frame_player_body_1_j1,hl,t1,t2,hx,Bool.and_self,cond_true,dec1,cond_false,opT h1,hw,e1,Option.bind_some,hn,decide_true,Bool.not_true,hi1]
    ·have eb:bodyS rc (d::r) (some up) (fuel+1) out late = ((rc d.A fuel out).1,(rc d.A fuel out).2.1,(rc d.A fuel out).2.2.1,late,some up):=by
      rw [bodyS,if_pos h1,if_neg hn]
     rw [eb]
     refine ⟨dp,loopO_inr ?_,e2⟩
     simp only [frame_player_body_1_l1,hl,t1,t2,hx,Bool.and_self,cond_true,dec1,cond_false,opT h1,hw,e1,Option.bind_some,hn,decide_false,Bool.not_false]
     rfl
   by_cases h2:d.Op = 2
   ·have eb:bodyS rc (d::r) (some up) (fuel+1) out late = bodyS rc r (some up) fuel out (late++[d.A]):=by rw [bodyS,if_neg h1,if_pos h2]
    rw [eb]
    obtain ⟨dp',i1,i2⟩:=ih up fuel out (late++[d.A]) (by omega) (by rw [List.length_append,List.length_singleton]; omega)
    refine ⟨dp',(loopO_inl ?_).trans i1,i2⟩
    simp only [frame_player_body_1_l1,frame_player_body_1_j1,hl,t1,t2,hx,Bool.and_self,cond_true,dec1,cond_false,opF h1,opT h2,hw,room1 late d.A (by omega),hi1]
   by_cases h3:d.Op = 3
   ·have eb:bodyS rc (d::r) (some up) (fuel+1) out late = (.pan d.A,fuel,out,late,some up):=by rw [bodyS,if_neg h1,if_neg h2,if_pos h3]
    rw [eb]
    refine ⟨deep,loopO_inr ?_,fun _=>rfl⟩
    simp only [frame_player_body_1_l1,hl,t1,t2,hx,Bool.and_self,cond_true,dec1,cond_false,opF h1,opF h2,opT h3,hw]
    rfl
   by_cases h4:d.Op = 4
   ·by_cases hp:up.isPan = true
    ·have eb:bodyS rc (d::r) (some up) (fuel+1) out late = bodyS rc r (some .nil) fuel (out++[up.val]) late:=by
      rw [bodyS,if_neg h1,if_neg h2,if_neg h3,if_pos h4]; simp only [Option.getD_some]; rw [if_pos hp]
     rw [eb]
     obtain ⟨dp',i1,i2⟩:=ih .nil fuel (out++[up.val]) late (by rw [List.length_append,List.length_singleton]; omega) (by omega)
     refine ⟨dp',(loopO_inl ?_).trans i1,i2⟩
     simp only [frame_player_body_1_l1,frame_player_body_1_j1,errors_As,Option.bind_some,hp,hl,t1,t2,hx,Bool.and_self,cond_true,dec1,cond_false,opF h1,opF h2,opF h3,opT h4,hw,room1 out up.val (by omega),hi1]
    ·have hp':up.isPan = false:=by simpa using hp
     have eb:bodyS rc (d::r) (some up) (fuel+1) out late = bodyS rc r (some up) fuel (out++[-1]) late:=by
      rw [bodyS,if_neg h1,if_neg h2,if_neg h3,if_pos h4]; simp only [Option.getD_some]; rw [if_neg hp]
     rw [eb]
     obtain ⟨dp',i1,i2⟩:=ih up fuel (out++[-1]) late (by rw [List.length_append,List.length_singleton]; omega) (by omega)
     refine ⟨dp',(loopO_inl ?_).trans i1,i2⟩
     simp only [frame_player_body_1_l1,frame_player_body_1_j1,errors_As_1,Option.bind_some,hp',hl,t1,t2,hx,Bool.and_self,cond_true,dec1,cond_false,opF h1,opF h2,opF h3,opT h4,hw,room1 out (-1) (by omega),hi1]
   by_cases h5:d.Op = 5
   ·have eb:bodyS rc (d::r) (some up) (fuel+1) out late = bodyS rc r (some up) fuel (out++[d.A]) late:=by
     rw [bodyS,if_neg h1,if_neg h2,if_neg h3,if_neg h4,if_pos h5]
    rw [eb]
    obtain ⟨dp',i1,i2⟩:=ih up fuel (out++[d.A]) late (by rw [List.length_append,List.length_singleton]; omega) (by omega)
    refine ⟨dp',(loopO_inl ?_).trans i1,i2⟩
    simp only [frame_player_body_1_l1,frame_player_body_1_j1,hl,t1,t2,hx,Bool.and_self,cond_true,dec1,cond_false,opF h1,opF h2,opF h3,opF h4,opT h5,hw,room1 out d.A (by omega),hi1]
   by_cases h6:d.Op = 6
   ·have eb:bodyS rc (d::r) (some up) (fuel+1) out late = (.nil,fuel,out,late,some up):=by rw [bodyS,if_neg h1,if_neg h2,if_neg h3,if_neg h4,if_neg h5,if_pos h6]
    rw [eb]
    refine ⟨deep,loopO_inr ?_,fun _=>rfl⟩
    simp only [frame_player_body_1_l1,hl,t1,t2,hx,Bool.and_self,cond_true,dec1,cond_false,opF h1,opF h2,opF h3,opF h4,opF h5,opT h6,hw]
    rfl
   ·have eb:bodyS rc (d::r) (some up) (fuel+1) out late = bodyS rc r (some up) fuel out late:=by rw [bodyS,if_neg h1,if_neg h2,if_neg h3,if_neg h4,if_neg h5,if_neg h6]
    rw [eb]
    obtain ⟨dp',i1,i2⟩:=ih up fuel out late (by omega) (by omega)
    refine ⟨dp',(loopO_inl ?_).trans i1,i2⟩
    simp only [frame_player_body_1_l1,frame_player_body_1_j1,hl,t1,t2,hx,Bool.and_self,cond_true,dec1,cond_false,opF h1,opF h2,opF h3,opF h4,opF h5,opF h6,hw,hi1]
def OkU (funcs:List (List Deed)) (rcg:RU) (rc:Err→Int→Nat→List Int→CR) (deep:Int):Prop :=
∀e A fu (o:List Int),In funcs A→fu+o.length≤5000→∃ dp,rcg A funcs ((fu:Nat):Int) deep e o = some ((rc e A fu o).1,funcs,(((rc e A fu o).2.1:Nat):Int),dp,(rc e A fu o).2.2.1,(rc e A fu o).2.2.2.getD .nil)∧((rc e A fu o).1≠.tired→dp = deep)
theorem lastB {lt:List Int} {g:Int} (h:(lt++[g]).length≤100000):IntKind.i64.wrap ((((lt++[g]).length:Nat):Int) - 1) = (lt.length:Int):=by
 rw [List.length_append,List.length_singleton] at h ⊢
 rw [wrap_id (by omega) (by omega)]; omega
theorem lastX (lt:List Int) (g:Int):ix (lt++[g]) (lt.length:Int) = g:=by
 rw [ix_get (by simp)]; simp
theorem lastC (lt:List Int) (g:Int):cut (lt++[g]) (0:Int) (lt.length:Int) = lt:=by rw [cut_take]; simp
theorem is_tired (e:Err):errors_Is e Err.tired = some (decide (e = .tired)):=by unfold errors_Is; simp
theorem lateN_loop {funcs:List (List Deed)} {rcf:RN} {rc:Err→Int→Nat→List Int→CR} {deep:Int} (hrc:OkU funcs (frame_player_call_3 rcf) rc deep) (hle:∀ e A fu o,LeC (rc e A fu o) fu o) :
 ∀(rl:List Int) (e:Err) (fuel:Nat) (out:List Int) (dp:Int),(∀ g ∈ rl,In funcs g)→rl.length≤5000→fuel+out.length≤5000→(e≠.tired→dp = deep) →
  ∃dp',loopO (frame_player_call_1_l1 rcf) (e,rl.reverse,funcs,(fuel:Int),dp,out) = some ((lateS rc rl e fuel out).1,funcs,(((lateS rc rl e fuel out).2.1:Nat):Int),dp',(lateS rc rl e fuel out).2.2)∧((lateS rc rl e fuel out).1≠.tired→dp' = IntKind.i64.wrap (deep - 1))
 | [],e,fuel,out,dp,hin,hlen,ho,hd=>by
  refine ⟨IntKind.i64.wrap (dp - 1),loopO_inr ?_,fun h=>by rw [hd h]⟩
  simp [frame_player_call_1_l1,frame_player_call_1_j1,frame_player_call_1_1,lateS]
 | g::rl,e,fuel,out,dp,hin,hlen,ho,hd=>by
  simp only [List.length_cons] at hlen
  rw [List.reverse_cons]
  have hrl:rl.reverse.length = rl.length:=List.length_reverse ..
  have hpos:decide ((0:Int) < (((rl.reverse++[g]).length:Nat):Int)) = true:=decide_eq_true (by rw [List.length_append,List.length_singleton]; omega)
  by_cases ht:e = .tired
  ·have eb:lateS rc (g::rl) e fuel out = (e,fuel,out):=by rw [lateS,if_pos ht]
   rw [eb]
   refine ⟨IntKind.i64.wrap (dp - 1),loopO_inr ?_,fun h=>absurd ht h⟩
   simp only [frame_player_call_1_l1,hpos,cond_true,is_tired,Option.bind_some,ht,decide_true,Bool.not_true,frame_player_call_1_j1,cond_false,frame_player_call_1_1]
   rfl
  ·have hdp:=hd ht
   subst hdp
   obtain ⟨dp2,e1,e2⟩:=hrc e g fuel out (hin g (by simp)) ho
   have hc:=hle e g fuel out
   unfold LeC at hc
   have eb:lateS rc (g::rl) e fuel out = lateS rc rl (if (rc e g fuel out).1 = .nil then (rc e g fuel out).2.2.2.getD .nil else (rc e g fuel out).1) (rc e g fuel out).2.1 (rc e g fuel out).2.2.1:=by rw [lateS,if_neg ht]
   rw [eb]
   have hb:=lastB (lt:=rl.reverse) (g:=g) (by rw [List.length_append,List.length_singleton]; omega)
   have t1:decide ((0:Int)≤(rl.reverse.length:Int)) = true:=decide_eq_true (by omega)
   have t2:decide ((rl.reverse.length:Int) < (((rl.reverse++[g]).length:Nat):Int)) = true:=decide_eq_true (by rw [List.length_append,List.length_singleton]; omega)
   have t3:decide ((rl.reverse.length:Int)≤(((rl.reverse++[g]).length:Nat):Int)) = true:=decide_eq_true (by rw [List.length_append,List.length_singleton]; omega)
   by_cases hn:(rc e g fuel out).1 = .nil
   ·obtain ⟨dp3,i1,i2⟩:=lateN_loop hrc hle rl ((rc e g fuel out).2.2.2.getD .nil) (rc e g fuel out).2.1 (rc e g fuel out).2.2.1 dp2 (fun x hx=>hin x (by simp [hx])) (by omega) (by omega) (fun _=>e2 (by rw [hn]; simp))
    rw [if_pos hn]
    refine ⟨dp3,(loopO_inl ?_).trans i1,i2⟩
    simp only [frame_player_call_1_l1,hpos,cond_true,is_tired,Option.bind_some,ht,decide_false,Bool.not_false,frame_player_call_1_j1,hb,t1,t2,t3,Bool.and_self,lastX,lastC,e1,hn,decide_true,Bool.not_true,cond_false]
   ·obtain ⟨dp3,i1,i2⟩:=lateN_loop hrc hle rl (rc e g fuel out).1 (rc e g fuel out).2.1 (rc e g fuel out).2.2.1 dp2 (fun x hx=>hin x (by simp [hx])) (by omega) (by omega) e2
    rw [if_neg hn]
    refine ⟨dp3,(loopO_inl ?_).trans i1,i2⟩
    simp only [frame_player_call_1_l1,hpos,cond_true,is_tired,Option.bind_some,ht,decide_false,Bool.not_false,frame_player_call_1_j1,hb,t1,t2,t3,Bool.and_self,lastX,lastC,e1,hn]
theorem lateU_loop {funcs:List (List Deed)} {rcg:RU} {rc:Err→Int→Nat→List Int→CR} {deep:Int} (hrc:OkU funcs rcg rc deep) (hle:∀ e A fu o,LeC (rc e A fu o) fu o) :
 ∀(rl:List Int) (e:Err) (fuel:Nat) (out:List Int) (dp:Int) (up:Err),(∀ g ∈ rl,In funcs g)→rl.length≤5000→fuel+out.length≤5000→(e≠.tired→dp = deep) →
  ∃dp',loopO (frame_player_call_3_l1 rcg) (e,rl.reverse,funcs,(fuel:Int),dp,out,up) = some ((lateS rc rl e fuel out).1,funcs,(((lateS rc rl e fuel out).2.1:Nat):Int),dp',(lateS rc rl e fuel out).2.2,up)∧((lateS rc rl e fuel out).1≠.tired→dp' = IntKind.i64.wrap (deep - 1))
 | [],e,fuel,out,dp,up,hin,hlen,ho,hd=>by
  refine ⟨IntKind.i64.wrap (dp - 1),loopO_inr ?_,fun h=>by rw [hd h]⟩
  simp [frame_player_call_3_l1,frame_player_call_3_j1,frame_player_call_1_1,lateS]
 | g::rl,e,fuel,out,dp,up,hin,hlen,ho,hd=>by
  simp only [List.length_cons] at hlen
  rw [List.reverse_cons]
  have hrl:rl.reverse.length = rl.length:=List.length_reverse ..
  have hpos:decide ((0:Int) < (((rl.reverse++[g]).length:Nat):Int)) = true:=decide_eq_true (by rw [List.length_append,List.length_singleton]; omega)
  by_cases ht:e = .tired
  ·have eb:lateS rc (g::rl) e fuel out = (e,fuel,out):=by rw [lateS,if_pos ht]
   rw [eb]
   refine ⟨IntKind.i64.wrap (dp - 1),loopO_inr ?_,fun h=>absurd ht h⟩
   simp only [frame_player_call_3_l1,hpos,cond_true,is_tired,Option.bind_some,ht,decide_true,Bool.not_true,frame_player_call_3_j1,cond_false,frame_player_call_1_1]
   rfl
  ·have hdp:=hd ht
   subst hdp
   obtain ⟨dp2,e1,e2⟩:=hrc e g fuel out (hin g (by simp)) ho
   have hc:=hle e g fuel out
   unfold LeC at hc
   have eb:lateS rc (g::rl) e fuel out = lateS rc rl (if (rc e g fuel out).1 = .nil then (rc e g fuel out).2.2.2.getD .nil else (rc e g fuel out).1) (rc e g fuel out).2.1 (rc e g fuel out).2.2.1:=by rw [lateS,if_neg ht]
   rw [eb]
   have hb:=lastB (lt:=rl.reverse) (g:=g) (by rw [List.length_append,List.length_singleton]; omega)
   have t1:decide ((0:Int)≤(rl.reverse.length:Int)) = true:=decide_eq_true (by omega)
   have t2:decide ((rl.reverse.length:Int) < (((rl.reverse++[g]).length:Nat):Int)) = true:=decide_eq_true (by rw [List.length_append,List.length_singleton]; omega)
   have t3:decide ((rl.reverse.length:Int)≤(((rl.reverse++[g]).length:Nat):Int)) = true:=decide_eq_true (by rw [List.length_append,List.length_singleton]; omega)
   by_cases hn:(rc e g fuel out).1 = .nil
   ·obtain ⟨dp3,i1,i2⟩:=lateU_loop hrc hle rl ((rc e g fuel out).2.2.2.getD .nil) (rc e g fuel out).2.1 (rc e g fuel out).2.2.1 dp2 up (fun x hx=>hin x (by simp [hx])) (by omega) (by omega) (fun _=>e2 (by rw [hn]; simp))
    rw [if_pos hn]
    refine ⟨dp3,(loopO_inl ?_).trans i1,i2⟩
    simp only [frame_player_call_3_l1,hpos,cond_true,is_tired,Option.bind_some,ht,decide_false,Bool.not_false,frame_player_call_3_j1,hb,t1,t2,t3,Bool.and_self,lastX,lastC,e1,hn,decide_true,Bool.not_true,cond_false]
   ·obtain ⟨dp3,i1,i2⟩:=lateU_loop hrc hle rl (rc e g fuel out).1 (rc e g fuel out).2.1 (rc e g fuel out).2.2.1 dp2 up (fun x hx=>hin x (by simp [hx])) (by omega) (by omega) e2
    rw [if_neg hn]
    refine ⟨dp3,(loopO_inl ?_).trans i1,i2⟩
    simp only [frame_player_call_3_l1,hpos,cond_true,is_tired,Option.bind_some,ht,decide_false,Bool.not_false,frame_player_call_3_j1,hb,t1,t2,t3,Bool.and_self,lastX,lastC,e1,hn]
end Go.Proofs.YteelocnklamegaaDoor
end

section
namespace Go.Proofs.YteelocnklamegaaDoor
open Go Go.Sx
set_option linter.unusedVariables false
set_option linter.unusedSimpArgs false
theorem ix_in {funcs:List (List Deed)} {f:Int} (h:In funcs f):ix funcs f ∈ funcs:=by
 obtain ⟨n,rfl⟩:=Int.eq_ofNat_of_zero_le h.1
 have hn:n < funcs.length:=by have:=h.2; omega
 rw [ix_get hn]; exact List.getElem_mem hn
theorem in_dec {funcs:List (List Deed)} {f:Int} (h:In funcs f):(decide ((0:Int)≤f) && decide (f < (funcs.length:Int))) = true:=by
 rw [decide_eq_true h.1,decide_eq_true h.2]; rfl
theorem callN_step {funcs:List (List Deed)} (hok:Ok funcs) (d:Nat) (hd:d < 100) {rcf:RN} (h1:OkN funcs rcf (fun A fu o=>callS funcs d none A fu o) (100 - (d:Int))) (h2:OkU funcs (frame_player_call_3 rcf) (fun e A fu o=>callS funcs d (some e) A fu o) (100 - (d:Int))) :
  OkN funcs (frame_player_call_1_b rcf) (fun A fu o=>callS funcs (d+1) none A fu o) (100 - ((d+1:Nat):Int)):=by
 intro f fuel out hf ho
 have hm:=hok _ (ix_in hf)
 have hw:IntKind.i64.wrap (100 - ((d+1:Nat):Int)+1) = 100 - (d:Int):=by rw [wrap_id (by omega) (by omega)]; omega
 have hw2:IntKind.i64.wrap (100 - (d:Int) - 1) = 100 - ((d+1:Nat):Int):=by rw [wrap_id (by omega) (by omega)]; omega
 have hle:=fun A fu o=>callS_le funcs d none A fu o
 obtain ⟨dp,e1,e2⟩:=bodyN_loop (rc:=fun A fu o=>callS funcs d none A fu o) rfl hm.1 (fun x hx hh=>hm.2 x hx hh) h1 hle (ix funcs f) 0 fuel out [] rfl ho (by simp; omega)
 have bl:=bodyS_le (rc:=fun A fu o=>callS funcs d none A fu o) hle (ix funcs f) none fuel out []
 have hla:=bodyS_late (funcs:=funcs) (rc:=fun A fu o=>callS funcs d none A fu o) (ix funcs f) (fun x hx hh=>hm.2 x hx hh) none fuel out [] (by simp)
 generalize hb:bodyS (fun A fu o=>callS funcs d none A fu o) (ix funcs f) none fuel out [] = b at *
 simp only [List.length_nil,Nat.add_zero] at bl
 obtain ⟨dp2,g1,g2⟩:=lateN_loop h2 (fun e A fu o=>callS_le funcs d (some e) A fu o) b.2.2.2.1.reverse b.1 b.2.1 b.2.2.1 dp (fun g hg=>hla g (by simpa using hg)) (by simp; omega) (by omega) e2
 have ec:callS funcs (d+1) none f fuel out = ((lateS (fun e g fu o=>callS funcs d (some e) g fu o) b.2.2.2.1.reverse b.1 b.2.1 b.2.2.1).1,(lateS (fun e g fu o=>callS funcs d (some e) g fu o) b.2.2.2.1.reverse b.1 b.2.1 b.2.2.1).2.1,(lateS (fun e g fu o=>callS funcs d (some e) g fu o) b.2.2.2.1.reverse b.1 b.2.1 b.2.2.1).2.2,b.2.2.2.2):=by
  rw [callS,hb]
 refine ⟨dp2,?_,fun h=>?_⟩
 ·simp only [ec,frame_player_call_1_b,hw]
  rw [decide_eq_false (by omega),cond_false]
  unfold frame_player_body
  rw [in_dec hf,cond_true,show (0:Int) = ((0:Nat):Int) from rfl,e1,Option.bind_some]
  rw [List.reverse_reverse] at g1
  exact g1
 ·simp only [ec] at h
  rw [g2 h,hw2]
theorem callU_step {funcs:List (List Deed)} (hok:Ok funcs) (d:Nat) (hd:d < 100) {rcf:RN} {rcg:RU} (h1:OkN funcs rcf (fun A fu o=>callS funcs d none A fu o) (100 - (d:Int))) (h2:OkU funcs rcg (fun e A fu o=>callS funcs d (some e) A fu o) (100 - (d:Int))) :
  OkU funcs (frame_player_call_3_b rcf rcg) (fun e A fu o=>callS funcs (d+1) (some e) A fu o) (100 - ((d+1:Nat):Int)):=by
 intro up f fuel out hf ho
 have hm:=hok _ (ix_in hf)
 have hw:IntKind.i64.wrap (100 - ((d+1:Nat):Int)+1) = 100 - (d:Int):=by rw [wrap_id (by omega) (by omega)]; omega
 have hw2:IntKind.i64.wrap (100 - (d:Int) - 1) = 100 - ((d+1:Nat):Int):=by rw [wrap_id (by omega) (by omega)]; omega
 have hle:=fun A fu o=>callS_le funcs d none A fu o
 obtain ⟨dp,e1,e2⟩:=bodyU_loop (rc:=fun A fu o=>callS funcs d none A fu o) rfl hm.1 (fun x hx hh=>hm.2 x hx hh) h1 hle (ix funcs f) 0 up fuel out [] rfl ho (by simp; omega)
 have bl:=bodyS_le (rc:=fun A fu o=>callS funcs d none A fu o) hle (ix funcs f) (some up) fuel out []
 have hla:=bodyS_late (funcs:=funcs) (rc:=fun A fu o=>callS funcs d none A fu o) (ix funcs f) (fun x hx hh=>hm.2 x hx hh) (some up) fuel out [] (by simp)
 generalize hb:bodyS (fun A fu o=>callS funcs d none A fu o) (ix funcs f) (some up) fuel out [] = b at *
 simp only [List.length_nil,Nat.add_zero] at bl
 obtain ⟨dp2,g1,g2⟩:=lateU_loop h2 (fun e A fu o=>callS_le funcs d (some e) A fu o) b.2.2.2.1.reverse b.1 b.2.1 b.2.2.1 dp (b.2.2.2.2.getD .nil) (fun g hg=>hla g (by simpa using hg)) (by simp; omega) (by omega) e2
 have ec:callS funcs (d+1) (some up) f fuel out = ((lateS (fun e g fu o=>callS funcs d (some e) g fu o) b.2.2.2.1.reverse b.1 b.2.1 b.2.2.1).1,(lateS (fun e g fu o=>callS funcs d (some e) g fu o) b.2.2.2.1.reverse b.1 b.2.1 b.2.2.1).2.1,(lateS (fun e g fu o=>callS funcs d (some e) g fu o) b.2.2.2.1.reverse b.1 b.2.1 b.2.2.1).2.2,b.2.2.2.2):=by
  rw [callS,hb]
 refine ⟨dp2,?_,fun h=>?_⟩
 ·simp only [ec,frame_player_call_3_b,hw]
  rw [decide_eq_false (by omega),cond_false]
  unfold frame_player_body_1
  rw [in_dec hf,cond_true,show (0:Int) = ((0:Nat):Int) from rfl,e1,Option.bind_some]
  rw [List.reverse_reverse] at g1
  exact g1
 ·simp only [ec] at h
  rw [g2 h,hw2]
theorem calls_eq {funcs:List (List Deed)} (hok:Ok funcs):∀ d:Nat,d≤100→(∀ k,d+1≤k→OkN funcs (frame_player_call_1_n k) (fun A fu o=>callS funcs d none A fu o) (100 - (d:Int))) ∧
  (∀ k n,d+1≤k→d+1≤n→OkU funcs (frame_player_call_3_n (frame_player_call_1_n k) n) (fun e A fu o=>callS funcs d (some e) A fu o) (100 - (d:Int)))
 | 0,_=>by
  have hw:IntKind.i64.wrap (100 - ((0:Nat):Int)+1) = 101:=by decide
  refine ⟨fun k hk=>?_,fun k n hk hn=>?_⟩
  ·obtain ⟨k,rfl⟩:=Nat.exists_eq_add_of_le hk
   intro f fuel out hf ho
   refine ⟨101,?_,fun h=>absurd rfl h⟩
   rw [show (0+1+k) = k+1 from by omega]
   show frame_player_call_1_b (frame_player_call_1_n k) f funcs _ _ out = _
   simp only [frame_player_call_1_b,hw,callS]
   rfl
  ·obtain ⟨n,rfl⟩:=Nat.exists_eq_add_of_le hn
   intro up f fuel out hf ho
   refine ⟨101,?_,fun h=>absurd rfl h⟩
   rw [show (0+1+n) = n+1 from by omega]
   show frame_player_call_3_b (frame_player_call_1_n k) (frame_player_call_3_n (frame_player_call_1_n k) n) f funcs _ _ up out = _
   simp only [frame_player_call_3_b,hw,callS]
   rfl
 | d+1,hd=>by
  obtain ⟨i1,i2⟩:=calls_eq hok d (by omega)
  refine ⟨fun k hk=>?_,fun k n hk hn=>?_⟩
  ·obtain ⟨k,rfl⟩:∃ j,k = j+1:=⟨k - 1,by omega⟩
   exact callN_step hok d (by omega) (i1 k (by omega)) (i2 k 5000 (by omega) (by omega))
  ·obtain ⟨n,rfl⟩:∃ j,n = j+1:=⟨n - 1,by omega⟩
   exact callU_step hok d (by omega) (i1 k (by omega)) (i2 k n (by omega) (by omega))
def runS (funcs:List (List Deed)):Int×Bool×Fault×List Int :=
 if (callS funcs 100 none 0 5000 []).1 = .tired then (0,false,⟨9,0⟩,[])
 else ((callS funcs 100 none 0 5000 []).1.val,(callS funcs 100 none 0 5000 []).1.isPan,⟨0,0⟩,(callS funcs 100 none 0 5000 []).2.2.1)
theorem run_eq {funcs:List (List Deed)} (hok:Ok funcs) (h0:0 < funcs.length) (hc:frame_Check funcs = some ⟨0,0⟩):frame_Run funcs = some (runS funcs):=by
 obtain ⟨dp,h,_⟩:=(calls_eq hok 100 (Nat.le_refl _)).1 5000 (by decide) 0 5000 [] ⟨by decide,by omega⟩ (by decide)
 unfold frame_Run runS
 rw [hc,Option.bind_some]
 have:frame_player_call_1 0 funcs 5000 0 [] = frame_player_call_1_n 5000 0 funcs ((5000:Nat):Int) (100 - ((100:Nat):Int)) []:=rfl
 rw [this,h]
 simp only [Option.bind_some,is_tired]
 by_cases ht:(callS funcs 100 none 0 5000 []).1 = .tired
 ·simp [ht,frame_fault]
 ·rw [if_neg ht]
  cases hp:(callS funcs 100 none 0 5000 []).1 with
  | tired=>exact absurd hp ht
  | nil=>simp [errors_As_1,Err.isPan,Err.val]
  | pan v=>simp [errors_As,Err.isPan,Err.val]
end Go.Proofs.YteelocnklamegaaDoor
end

section
namespace Go.Proofs.YteelocnklamegaaDoor
open Go Go.Sx
set_option linter.unusedVariables false
set_option linter.unusedSimpArgs false
def deedF (n:Nat) (d:Deed):Option Int :=
 if d.Op = 1∨d.Op = 2 then (if d.A < 0∨(n:Int)≤d.A then some 3 else none)
 else if d.Op = 4∨d.Op = 6 then (if d.A = 0 then none else some 5)
 else if d.Op = 3∨d.Op = 5 then none else some 4
def listF (n:Nat) (l:List Deed):Option Int:=if 100 < l.length then some 8 else firstAt (fun k=>deedF n (ix l ((k:Nat):Int))) l.length
def chk (funcs:List (List Deed)):Fault:=if funcs.length < 1∨50 < funcs.length then ⟨2,0⟩
 else (firstAt (fun i=>(listF funcs.length (ix funcs ((i:Nat):Int))).map fun c=>(⟨c,((i:Nat):Int)⟩:Fault)) funcs.length).getD ⟨0,0⟩
theorem deed_step (funcs:List (List Deed)) (i k:Nat) (hk:k < 4611686018427387904) :
  (bif ((ix (ix funcs (i:Int)) (k:Int)).Op == 1) then (frame_Check_j4 funcs (i:Int) (k:Int) ((ix (ix funcs (i:Int)) (k:Int)).Op == 1)) else (frame_Check_j4 funcs (i:Int) (k:Int) ((ix (ix funcs (i:Int)) (k:Int)).Op == 2)))
   = match deedF funcs.length (ix (ix funcs (i:Int)) (k:Int)) with
    | none=>some (.inl ((k+1:Nat):Int))
    | some c=>some (.inr (.inr (⟨c,(i:Int)⟩:Fault))):=by
 have hw:IntKind.i64.wrap ((k:Int)+1) = ((k+1:Nat):Int):=wrap_n1 k hk
 unfold frame_Check_j4 frame_Check_j3 frame_Check_j2 frame_Check_j1 frame_fault deedF
 rw [hw]
 generalize ix (ix funcs (i:Int)) (k:Int) = d
 obtain ⟨op,a⟩:=d
 simp only
 by_cases h1:op = 1
 ·subst h1
  have hb:(decide (a < 0) || decide ((funcs.length:Int)≤a)) = decide (a < 0∨(funcs.length:Int)≤a):=(Bool.decide_or _ _).symm
  by_cases ha:a < 0∨(funcs.length:Int)≤a <;> simp [hb,ha]
 by_cases h2:op = 2
 ·subst h2
  have hb:(decide (a < 0) || decide ((funcs.length:Int)≤a)) = decide (a < 0∨(funcs.length:Int)≤a):=(Bool.decide_or _ _).symm
  by_cases ha:a < 0∨(funcs.length:Int)≤a <;> simp [hb,ha]
 by_cases h4:op = 4
 ·subst h4
  have hb:(a != 0) = !decide (a = 0):=by by_cases h:a = 0 <;> simp [h,bne]
  by_cases ha:a = 0 <;> simp [hb,ha]
 by_cases h6:op = 6
 ·subst h6
  have hb:(a != 0) = !decide (a = 0):=by by_cases h:a = 0 <;> simp [h,bne]
  by_cases ha:a = 0 <;> simp [hb,ha]
 by_cases h3:op = 3
 ·subst h3; simp
 by_cases h5:op = 5
 ·subst h5; simp
 ·simp [opF h1,opF h2,opF h3,opF h4,opF h5,opF h6,h1,h2,h3,h4,h5,h6]
theorem check_in (funcs:List (List Deed)) (i:Nat) (hi:i < funcs.length) (h50:funcs.length≤50) (h100:(ix funcs (i:Int)).length≤100) :
  loopO (frame_Check_l1 funcs (i:Int)) (0:Int) = some (((firstAt (fun k=>deedF funcs.length (ix (ix funcs (i:Int)) ((k:Nat):Int))) (ix funcs (i:Int)).length).map fun c=>(Sum.inr (⟨c,(i:Int)⟩:Fault):Int ⊕ Fault)).getD (.inl ((i+1:Nat):Int))):=by
 generalize hl:ix funcs (i:Int) = l at *
 have:=loopO_findD (step:=frame_Check_l1 funcs (i:Int)) (fun k=>((k:Nat):Int)) (fun k=>(deedF funcs.length (ix l ((k:Nat):Int))).map fun c=>(Sum.inr (⟨c,(i:Int)⟩:Fault):Int ⊕ Fault)) (.inl ((i+1:Nat):Int)) l.length (fun k hk hb=>by
   have:=deed_step funcs i k (by omega)
   rw [hl] at this
   simp only [frame_Check_l1,hl]
   rw [decide_eq_true (by omega),decide_eq_true (by omega),Bool.and_self,cond_true,cond_true,this,Option.map_eq_none_iff.1 hb])
  (fun k r hk hb=>by
   have:=deed_step funcs i k (by omega)
   rw [hl] at this
   obtain ⟨c,hc,rfl⟩:=Option.map_eq_some_iff.1 hb
   simp only [frame_Check_l1,hl]
   rw [decide_eq_true (by omega),decide_eq_true (by omega),Bool.and_self,cond_true,cond_true,this,hc])
  (fun _=>by
   simp only [frame_Check_l1,hl]
   rw [decide_eq_false (by omega),cond_false,wrap_n1 i (by omega)]
   rfl)
 rw [show (0:Int) = ((0:Nat):Int) from rfl,this]
 congr 1
 have gen:∀ n,firstAt (fun k=>(deedF funcs.length (ix l ((k:Nat):Int))).map fun c=>(Sum.inr (⟨c,(i:Int)⟩:Fault):Int ⊕ Fault)) n = (firstAt (fun k=>deedF funcs.length (ix l ((k:Nat):Int))) n).map fun c=>(Sum.inr (⟨c,(i:Int)⟩:Fault):Int ⊕ Fault):=by
  intro n
  induction n with
  | zero=>rfl
  | succ n ih =>
   simp only [firstAt,ih]
   cases firstAt (fun k=>deedF funcs.length (ix l ((k:Nat):Int))) n <;> rfl
 rw [gen]
theorem check_eq (funcs:List (List Deed)) (hl:funcs.length < 4611686018427387904):frame_Check funcs = some (chk funcs):=by
 unfold frame_Check chk
 by_cases h:funcs.length < 1∨50 < funcs.length
 ·rw [if_pos h]
  have:((decide ((funcs.length:Int) < 1)) || (decide ((50:Int) < (funcs.length:Int)))) = true:=by
   simp only [Bool.or_eq_true,decide_eq_true_eq]; omega
  rw [this,cond_true]; rfl
 ·rw [if_neg h]
  have:((decide ((funcs.length:Int) < 1)) || (decide ((50:Int) < (funcs.length:Int)))) = false:=by
   simp only [Bool.or_eq_false_iff,decide_eq_false_iff_not]; omega
  rw [this,cond_false]
  refine loopO_findD (step:=frame_Check_l2 funcs) (fun k=>((k:Nat):Int)) (fun i=>(listF funcs.length (ix funcs ((i:Nat):Int))).map fun c=>(⟨c,((i:Nat):Int)⟩:Fault)) ⟨0,0⟩ funcs.length (fun i hi hb=>?_) (fun i r hi hb=>?_) (fun _=>?_)
  ·have hb:=Option.map_eq_none_iff.1 hb
   unfold listF at hb
   by_cases h100:100 < (ix funcs (i:Int)).length
   ·rw [if_pos h100] at hb; cases hb
   ·rw [if_neg h100] at hb
    simp only [frame_Check_l2]
    rw [decide_eq_true (by omega),decide_eq_true (by omega),Bool.and_self,cond_true,cond_true,decide_eq_false (by omega),cond_false,check_in funcs i hi (by omega) (by omega),hb]
    rfl
  ·obtain ⟨c,hc,rfl⟩:=Option.map_eq_some_iff.1 hb
   unfold listF at hc
   simp only [frame_Check_l2]
   rw [decide_eq_true (by omega),decide_eq_true (by omega),Bool.and_self,cond_true,cond_true]
   by_cases h100:100 < (ix funcs (i:Int)).length
   ·rw [if_pos h100] at hc; cases hc
    rw [decide_eq_true (by omega),cond_true]; rfl
   ·rw [if_neg h100] at hc
    rw [decide_eq_false (by omega),cond_false,check_in funcs i hi (by omega) (by omega),hc]
    rfl
  ·simp only [frame_Check_l2]
   rw [decide_eq_false (by omega),cond_false]; rfl
def Good (funcs:List (List Deed)):Prop:=1≤funcs.length∧funcs.length≤50∧∀ l ∈ funcs,l.length≤100∧∀ d ∈ l,deedF funcs.length d = none
theorem deedF_in {n:Nat} {d:Deed} (h:deedF n d = none):d.Op = 1∨d.Op = 2→0≤d.A∧d.A < (n:Int):=fun ho=>by
 unfold deedF at h
 rw [if_pos ho] at h
 split at h
 ·cases h
 ·omega
theorem Good.ok {funcs:List (List Deed)} (h:Good funcs):Ok funcs:=fun l hl=>⟨(h.2.2 l hl).1,fun d hd=>deedF_in ((h.2.2 l hl).2 d hd)⟩
theorem listF_none {n:Nat} {l:List Deed}:listF n l = none↔l.length≤100∧∀ d ∈ l,deedF n d = none:=by
 unfold listF
 split
 ·exact ⟨fun h=>(by cases h),fun h=>(by omega)⟩
 ·rw [firstAt_none]
  refine ⟨fun h=>⟨by omega,fun d hd=>?_⟩,fun h i hi=>?_⟩
  ·obtain ⟨i,hi,rfl⟩:=List.mem_iff_getElem.1 hd
   have:=h i hi
   rwa [ix_get hi] at this
  ·rw [ix_get hi]; exact h.2 _ (List.getElem_mem hi)
theorem listF_code {n:Nat} {l:List Deed} {c:Int} (h:listF n l = some c):c≠0:=by
 unfold listF at h
 split at h
 ·cases h; decide
 ·obtain ⟨i,_,hc,_⟩:=firstAt_some _ h
  unfold deedF at hc
  repeat' split at hc
  all_goals first | (cases hc; decide) | cases hc
theorem chk_good {funcs:List (List Deed)}:(chk funcs).Code = 0↔Good funcs:=by
 unfold chk Good
 by_cases h:funcs.length < 1∨50 < funcs.length
 ·rw [if_pos h]; exact ⟨fun h=>(by cases h),fun h=>(by omega)⟩
 ·rw [if_neg h]
  cases hf:firstAt (fun i=>(listF funcs.length (ix funcs ((i:Nat):Int))).map fun c=>(⟨c,((i:Nat):Int)⟩:Fault)) funcs.length with
  | none =>
   refine ⟨fun _=>⟨by omega,by omega,fun l hl=>?_⟩,fun _=>rfl⟩
   obtain ⟨i,hi,rfl⟩:=List.mem_iff_getElem.1 hl
   have:=(firstAt_none _).1 hf i hi
   rw [Option.map_eq_none_iff,ix_get hi] at this
   exact listF_none.1 this
  | some r =>
   obtain ⟨i,hi,hc,_⟩:=firstAt_some _ hf
   obtain ⟨c,hc3,rfl⟩:=Option.map_eq_some_iff.1 hc
   have hc:=hc3
   refine ⟨fun h=>absurd h (listF_code hc3),fun h=>?_⟩
   have:=listF_none.2 (h.2.2 (ix funcs (i:Int)) (by rw [ix_get hi]; exact List.getElem_mem hi))
   rw [this] at hc; cases hc
theorem chk_zero {funcs:List (List Deed)} (h:Good funcs):chk funcs = ⟨0,0⟩:=by
 have hc:=chk_good.2 h
 unfold chk at hc ⊢
 split at hc
 ·cases hc
 ·rename_i hn
  rw [if_neg hn]
  cases hf:firstAt (fun i=>(listF funcs.length (ix funcs ((i:Nat):Int))).map fun c=>(⟨c,((i:Nat):Int)⟩:Fault)) funcs.length with
  | none=>rfl
  | some r =>
   obtain ⟨i,hi,hc2,_⟩:=firstAt_some _ hf
   obtain ⟨c,hc3,rfl⟩:=Option.map_eq_some_iff.1 hc2
   rw [hf] at hc
   exact absurd hc (listF_code hc3)
theorem run_good {funcs:List (List Deed)} (h:Good funcs):frame_Run funcs = some (runS funcs) :=
 run_eq h.ok (by have:=h.1; omega) (by rw [check_eq funcs (by have:=h.2.1; omega),chk_zero h])
theorem run_bad {funcs:List (List Deed)} (hl:funcs.length < 4611686018427387904) (h:¬ Good funcs):frame_Run funcs = some (0,false,chk funcs,[])∧(chk funcs).Code≠0:=by
 have hc:(chk funcs).Code≠0:=fun e=>h (chk_good.1 e)
 refine ⟨?_,hc⟩
 unfold frame_Run
 rw [check_eq funcs hl,Option.bind_some]
 have:((chk funcs).Code != 0) = true:=by simpa using hc
 rw [this,cond_true]
end Go.Proofs.YteelocnklamegaaDoor
end

section
namespace Go.Proofs.YteelocnklamegaaDoor
open Go Go.Sx
set_option linter.unusedVariables false
set_option linter.unusedSimpArgs false
theorem ints_eq (a b:List Int) (ha:a.length < 4611686018427387904):taskmillref_Ints a b = some (decide (a = b)):=by
 unfold taskmillref_Ints
 by_cases hl:a.length = b.length
 ·rw [show ((a.length:Int) != (b.length:Int)) = false from by simp [hl],cond_false]
  have:=loopO_findD (step:=taskmillref_Ints_l1 a b) (fun k=>((k:Nat):Int)) (fun k=>if ix a ((k:Nat):Int) = ix b ((k:Nat):Int) then none else some false) true a.length (fun k hk hb=>by
    have hx:ix a (k:Int) = ix b (k:Int):=by
     by_cases h:ix a (k:Int) = ix b (k:Int)
     ·exact h
     ·rw [if_neg h] at hb; cases hb
    simp only [taskmillref_Ints_l1]
    rw [decide_eq_true (by omega),decide_eq_true (by omega),decide_eq_true (show (k:Int) < (b.length:Int) by omega),Bool.and_self,cond_true,cond_true,cond_true,hx,bne_self_eq_false,cond_false,wrap_n1 k (by omega)])
   (fun k r hk hb=>by
    have hx:¬ ix a (k:Int) = ix b (k:Int):=fun h=>by rw [if_pos h] at hb; cases hb
    rw [if_neg hx] at hb; cases hb
    simp only [taskmillref_Ints_l1]
    rw [decide_eq_true (by omega),decide_eq_true (by omega),decide_eq_true (show (k:Int) < (b.length:Int) by omega),Bool.and_self,cond_true,cond_true,cond_true,show (ix a (k:Int) != ix b (k:Int)) = true from by simpa using hx,cond_true]
    rfl)
   (fun _=>by
    simp only [taskmillref_Ints_l1]
    rw [decide_eq_false (by omega),cond_false]; rfl)
  rw [show (0:Int) = ((0:Nat):Int) from rfl,this]
  congr 1
  by_cases he:a = b
  ·subst he
   rw [(firstAt_none _).2 fun i _=>by simp]; simp
  ·cases hf:firstAt (fun k=>if ix a ((k:Nat):Int) = ix b ((k:Nat):Int) then none else some false) a.length with
   | none =>
    refine absurd (List.ext_getElem hl fun i h1 h2=>?_) he
    have:=(firstAt_none _).1 hf i h1
    by_cases h:ix a (i:Int) = ix b (i:Int)
    ·rwa [ix_get h1,ix_get h2] at h
    ·rw [if_neg h] at this; cases this
   | some r =>
    obtain ⟨i,_,hc,_⟩:=firstAt_some _ hf
    split at hc
    ·cases hc
    ·cases hc; simp [he]
 ·rw [show ((a.length:Int) != (b.length:Int)) = true from by rw [bne_iff_ne]; omega,cond_true,decide_eq_false fun h=>hl (by rw [h])]
theorem begun:taskmilllaw_frameBegun = some true:=by
 unfold taskmilllaw_frameBegun
 have hg:Good ([([(Deed.mk 2 1),(Deed.mk 5 5),(Deed.mk 3 7)]:List Deed),([(Deed.mk 4 0)]:List Deed)]:List (List Deed)):=by
  refine ⟨by decide,by decide,fun l hl=>?_⟩
  simp only [List.mem_cons,List.not_mem_nil,or_false] at hl
  rcases hl with rfl | rfl
  ·refine ⟨by decide,fun d hd=>?_⟩
   simp only [List.mem_cons,List.not_mem_nil,or_false] at hd
   rcases hd with rfl | rfl | rfl <;> decide
  ·refine ⟨by decide,fun d hd=>?_⟩
   simp only [List.mem_cons,List.not_mem_nil,or_false] at hd
   subst hd; decide
 have hr:runS ([([(Deed.mk 2 1),(Deed.mk 5 5),(Deed.mk 3 7)]:List Deed),([(Deed.mk 4 0)]:List Deed)]:List (List Deed)) = (0,false,⟨0,0⟩,[5,7]):=by decide
 rw [run_good hg,hr]
 simp only [Option.bind_some,beq_self_eq_true,cond_true,Bool.not_false]
 rw [ints_eq _ _ (by decide)]
 rfl
end Go.Proofs.YteelocnklamegaaDoor
end

section
namespace Go.Proofs.YteelocnklamegaaDoor
open Go Go.Sx
set_option linter.unusedVariables false
set_option linter.unusedSimpArgs false
def bump (c:CR):CR:=(c.1,c.2.1+1,c.2.2.1,c.2.2.2)
theorem bodyS_mono {rc rc':Int→Nat→List Int→CR} (h:∀ A fu o,(rc A fu o).1≠.tired→rc' A (fu+1) o = bump (rc A fu o)):∀ (r:List Deed) (up:Option Err) (fuel:Nat) (out late:List Int),(bodyS rc r up fuel out late).1≠.tired →
  bodyS rc' r up (fuel+1) out late = ((bodyS rc r up fuel out late).1,(bodyS rc r up fuel out late).2.1+1,(bodyS rc r up fuel out late).2.2)
 | [],up,fuel,out,late,ht=>rfl
 | d::r,up,0,out,late,ht=>absurd rfl ht
 | d::r,up,fuel+1,out,late,ht=>by
  rw [bodyS] at ht ⊢
  rw [bodyS]
  by_cases h1:d.Op = 1
  ·rw [if_pos h1] at ht ⊢
   rw [if_pos h1]
   by_cases hn:(rc d.A fuel out).1 = .nil
   ·rw [if_pos hn] at ht
    have e:=h d.A fuel out (by rw [hn]; simp)
    rw [e,if_pos (show (bump (rc d.A fuel out)).1 = .nil from hn),if_pos hn]
    exact bodyS_mono h r up _ _ _ ht
   ·rw [if_neg hn] at ht
    have e:=h d.A fuel out ht
    rw [e,if_neg (show ¬ (bump (rc d.A fuel out)).1 = .nil from hn),if_neg hn]
    rfl
  rw [if_neg h1] at ht ⊢
  rw [if_neg h1]
  by_cases h2:d.Op = 2
  ·rw [if_pos h2] at ht ⊢
   rw [if_pos h2]
   exact bodyS_mono h r _ _ _ _ ht
  rw [if_neg h2] at ht ⊢
  rw [if_neg h2]
  by_cases h3:d.Op = 3
  ·rw [if_pos h3,if_pos h3]
  rw [if_neg h3] at ht ⊢
  rw [if_neg h3]
  by_cases h4:d.Op = 4
  ·rw [if_pos h4] at ht ⊢
   rw [if_pos h4]
   by_cases hp:(up.getD .nil).isPan = true
   ·rw [if_pos hp] at ht ⊢
    rw [if_pos hp]
    exact bodyS_mono h r _ _ _ _ ht
   ·rw [if_neg hp] at ht ⊢
    rw [if_neg hp]
    exact bodyS_mono h r _ _ _ _ ht
  rw [if_neg h4] at ht ⊢
  rw [if_neg h4]
  by_cases h5:d.Op = 5
  ·rw [if_pos h5] at ht ⊢
   rw [if_pos h5]
   exact bodyS_mono h r _ _ _ _ ht
  rw [if_neg h5] at ht ⊢
  rw [if_neg h5]
  by_cases h6:d.Op = 6
  ·rw [if_pos h6,if_pos h6]
  rw [if_neg h6] at ht ⊢
  rw [if_neg h6]
  exact bodyS_mono h r _ _ _ _ ht
theorem lateS_tired (rc:Err→Int→Nat→List Int→CR) (rl:List Int) (fuel:Nat) (out:List Int):(lateS rc rl .tired fuel out).1 = .tired:=by
 cases rl with
 | nil=>rfl
 | cons g rl=>rw [lateS,if_pos rfl]
theorem lateS_mono {rc rc':Err→Int→Nat→List Int→CR} (h:∀ e A fu o,(rc e A fu o).1≠.tired→rc' e A (fu+1) o = bump (rc e A fu o)):∀ (rl:List Int) (e:Err) (fuel:Nat) (out:List Int),(lateS rc rl e fuel out).1≠.tired →
  lateS rc' rl e (fuel+1) out = ((lateS rc rl e fuel out).1,(lateS rc rl e fuel out).2.1+1,(lateS rc rl e fuel out).2.2)
 | [],e,fuel,out,ht=>rfl
 | g::rl,e,fuel,out,ht=>by
  by_cases he:e = .tired
  ·subst he; exact absurd (lateS_tired rc _ fuel out) ht
  rw [lateS,if_neg he] at ht ⊢
  rw [lateS,if_neg he]
  by_cases hx:(rc e g fuel out).1 = .tired
  ·rw [if_neg (by rw [hx]; simp),hx] at ht
   exact absurd (lateS_tired rc _ _ _) ht
  ·rw [h e g fuel out hx]
   exact lateS_mono h rl _ _ _ ht
theorem callS_mono (funcs:List (List Deed)):∀ (d:Nat) (up:Option Err) (f:Int) (fuel:Nat) (out:List Int),(callS funcs d up f fuel out).1≠.tired→callS funcs (d+1) up f (fuel+1) out = bump (callS funcs d up f fuel out)
 | 0,up,f,fuel,out,ht=>absurd rfl ht
 | d+1,up,f,fuel,out,ht=>by
  rw [callS] at ht ⊢
  rw [callS]
  simp only at ht ⊢
  have hb:(bodyS (fun A fu o=>callS funcs d none A fu o) (ix funcs f) up fuel out []).1≠.tired:=fun e=>ht (by rw [e]; exact lateS_tired _ _ _ _)
  have e1:=bodyS_mono (rc:=fun A fu o=>callS funcs d none A fu o) (rc':=fun A fu o=>callS funcs (d+1) none A fu o) (fun A fu o h=>callS_mono funcs d none A fu o h) (ix funcs f) up fuel out [] hb
  rw [e1]
  have e2:=lateS_mono (rc:=fun e g fu o=>callS funcs d (some e) g fu o) (rc':=fun e g fu o=>callS funcs (d+1) (some e) g fu o) (fun e A fu o h=>callS_mono funcs d (some e) A fu o h) _ _ _ _ ht
  simp only [e2,bump]
def shD (d:Deed):Deed:=if d.Op = 1∨d.Op = 2 then Deed.mk d.Op (d.A+1) else d
def shF (funcs:List (List Deed)):List (List Deed):=[Deed.mk 1 1]::funcs.map fun l=>l.map shD
theorem shD_op (d:Deed):(shD d).Op = d.Op:=by unfold shD; split <;> rfl
theorem shD_arg {d:Deed} (h:¬ (d.Op = 1∨d.Op = 2)):shD d = d:=if_neg h
theorem shD_go {d:Deed} (h:d.Op = 1∨d.Op = 2):(shD d).A = d.A+1:=by unfold shD; rw [if_pos h]
theorem shF_len (funcs:List (List Deed)):(shF funcs).length = funcs.length+1:=by simp [shF]
theorem shF_ix {funcs:List (List Deed)} {f:Int} (h:In funcs f):ix (shF funcs) (f+1) = (ix funcs f).map shD:=by
 obtain ⟨n,rfl⟩:=Int.eq_ofNat_of_zero_le h.1
 have hn:n < funcs.length:=by have:=h.2; omega
 rw [show (n:Int)+1 = ((n+1:Nat):Int) from by omega,ix_get (by rw [shF_len]; omega),ix_get hn]
 simp [shF]
theorem shF_good {funcs:List (List Deed)} (h:Good funcs) (h49:funcs.length≤49):Good (shF funcs):=by
 refine ⟨by rw [shF_len]; omega,by rw [shF_len]; omega,fun l hl=>?_⟩
 rw [shF_len]
 have h1:=h.1
 rcases List.mem_cons.1 hl with rfl | hl
 ·refine ⟨by simp,fun d hd=>?_⟩
  rw [List.mem_singleton.1 hd]
  unfold deedF
  rw [if_pos (.inl rfl),if_neg (by simp only; omega)]
 ·obtain ⟨m,hm,rfl⟩:=List.mem_map.1 hl
  obtain ⟨g1,g2⟩:=h.2.2 m hm
  refine ⟨by simpa using g1,fun d0 hd0=>?_⟩
  obtain ⟨d,hd,rfl⟩:=List.mem_map.1 hd0
  have g:=g2 d hd
  by_cases ho:d.Op = 1∨d.Op = 2
  ·have hA:=deedF_in g ho
   unfold deedF
   rw [shD_op,if_pos ho,shD_go ho,if_neg (by omega)]
  ·rw [shD_arg ho]
   unfold deedF at g ⊢
   rw [if_neg ho] at g ⊢
   exact g
theorem bodyS_sh {funcs:List (List Deed)} {rc rc':Int→Nat→List Int→CR} (h:∀ A,In funcs A→∀ fu o,rc' (A+1) fu o = rc A fu o):∀ (r:List Deed),(∀ d ∈ r,d.Op = 1∨d.Op = 2→In funcs d.A)→∀ (up:Option Err) (fuel:Nat) (out late:List Int),
  bodyS rc' (r.map shD) up fuel out (late.map (·+1)) = ((bodyS rc r up fuel out late).1,(bodyS rc r up fuel out late).2.1,(bodyS rc r up fuel out late).2.2.1,(bodyS rc r up fuel out late).2.2.2.1.map (·+1),(bodyS rc r up fuel out late).2.2.2.2)
 | [],hr,up,fuel,out,late=>rfl
 | d::r,hr,up,0,out,late=>rfl
 | d::r,hr,up,fuel+1,out,late=>by
  have hr':∀ d ∈ r,d.Op = 1∨d.Op = 2→In funcs d.A:=fun x hx=>hr x (by simp [hx])
  rw [List.map_cons,bodyS,bodyS,shD_op]
  by_cases h1:d.Op = 1
  ·rw [if_pos h1,if_pos h1,shD_go (.inl h1),h d.A (hr d (by simp) (.inl h1))]
   by_cases hn:(rc d.A fuel out).1 = .nil
   ·rw [if_pos hn,if_pos hn]; exact bodyS_sh h r hr' _ _ _ _
   ·rw [if_neg hn,if_neg hn]
  rw [if_neg h1,if_neg h1]
  by_cases h2:d.Op = 2
  ·rw [if_pos h2,if_pos h2,shD_go (.inr h2)]
   have:=bodyS_sh h r hr' up fuel out (late++[d.A])
   rw [List.map_append] at this
   exact this
  rw [if_neg h2,if_neg h2,shD_arg (by simp [h1,h2])]
  by_cases h3:d.Op = 3
  ·rw [if_pos h3,if_pos h3]
  rw [if_neg h3,if_neg h3]
  by_cases h4:d.Op = 4
  ·rw [if_pos h4,if_pos h4]
   by_cases hp:(up.getD .nil).isPan = true
   ·rw [if_pos hp,if_pos hp]; exact bodyS_sh h r hr' _ _ _ _
   ·rw [if_neg hp,if_neg hp]; exact bodyS_sh h r hr' _ _ _ _
  rw [if_neg h4,if_neg h4]
  by_cases h5:d.Op = 5
  ·rw [if_pos h5,if_pos h5]; exact bodyS_sh h r hr' _ _ _ _
  rw [if_neg h5,if_neg h5]
  by_cases h6:d.Op = 6
  ·rw [if_pos h6,if_pos h6]
  rw [if_neg h6,if_neg h6]
  exact bodyS_sh h r hr' _ _ _ _
theorem lateS_sh {funcs:List (List Deed)} {rc rc':Err→Int→Nat→List Int→CR} (h:∀ A,In funcs A→∀ e fu o,rc' e (A+1) fu o = rc e A fu o):∀ (rl:List Int),(∀ g ∈ rl,In funcs g)→∀ (e:Err) (fuel:Nat) (out:List Int),lateS rc' (rl.map (·+1)) e fuel out = lateS rc rl e fuel out
 | [],hr,e,fuel,out=>rfl
 | g::rl,hr,e,fuel,out=>by
  rw [List.map_cons,lateS,lateS,h g (hr g (by simp))]
  by_cases he:e = .tired
  ·rw [if_pos he,if_pos he]
  ·rw [if_neg he,if_neg he]
   exact lateS_sh h rl (fun x hx=>hr x (by simp [hx])) _ _ _
theorem callS_sh {funcs:List (List Deed)} (hok:Ok funcs):∀ (d:Nat) (f:Int),In funcs f→∀ (up:Option Err) (fuel:Nat) (out:List Int),callS (shF funcs) d up (f+1) fuel out = callS funcs d up f fuel out
 | 0,f,hf,up,fuel,out=>rfl
 | d+1,f,hf,up,fuel,out=>by
  have hm:=hok _ (ix_in hf)
  rw [callS,callS,shF_ix hf]
  have e1:=bodyS_sh (funcs:=funcs) (rc:=fun A fu o=>callS funcs d none A fu o) (rc':=fun A fu o=>callS (shF funcs) d none A fu o) (fun A hA fu o=>callS_sh hok d A hA none fu o) (ix funcs f) (fun x hx hh=>hm.2 x hx hh) up fuel out []
  have hla:=bodyS_late (funcs:=funcs) (rc:=fun A fu o=>callS funcs d none A fu o) (ix funcs f) (fun x hx hh=>hm.2 x hx hh) up fuel out [] (by simp)
  rw [List.map_nil] at e1
  simp only [e1]
  rw [← List.map_reverse,lateS_sh (funcs:=funcs) (rc:=fun e g fu o=>callS funcs d (some e) g fu o) (fun A hA e fu o=>callS_sh hok d A hA (some e) fu o) _ (fun g hg=>hla g (by simpa using hg))]
theorem nest_run {funcs:List (List Deed)} (h:Good funcs):(runS (shF funcs)).2.2.1.Code = 0→runS funcs = runS (shF funcs):=by
 intro hc
 have hin:In funcs 0:=⟨Int.le_refl _,by have:=h.1; omega⟩
 have e1:callS (shF funcs) 99 none 1 4999 [] = callS funcs 99 none 0 4999 []:=callS_sh h.ok 99 0 hin none 4999 []
 have e2:callS (shF funcs) 100 none 0 5000 [] = ((callS funcs 99 none 0 4999 []).1,(callS funcs 99 none 0 4999 []).2.1,(callS funcs 99 none 0 4999 []).2.2.1,none):=by
  show callS (shF funcs) (99+1) none 0 (4999+1) [] = _
  rw [callS]
  have e0:ix (shF funcs) 0 = [Deed.mk 1 1]:=by
   rw [show (0:Int) = ((0:Nat):Int) from rfl,ix_get (by rw [shF_len]; omega)]; rfl
  simp only [e0,bodyS,if_true,e1]
  by_cases hn:(callS funcs 99 none 0 4999 []).1 = .nil
  ·simp [hn,lateS]
  ·simp [hn,lateS]
 unfold runS at hc ⊢
 rw [e2] at hc ⊢
 by_cases ht:(callS funcs 99 none 0 4999 []).1 = .tired
 ·rw [if_pos ht] at hc; cases hc
 ·have e3:=callS_mono funcs 99 none 0 4999 [] ht
  have e3:callS funcs 100 none 0 5000 [] = bump (callS funcs 99 none 0 4999 []):=e3
  rw [e3,if_neg ht]
  rw [if_neg (show ¬ (bump (callS funcs 99 none 0 4999 [])).1 = .tired from ht)]
  rfl
end Go.Proofs.YteelocnklamegaaDoor
end

section
namespace Go.Proofs.YteelocnklamegaaDoor
open Go Go.Sx
set_option linter.unusedVariables false
set_option linter.unusedSimpArgs false
theorem wrapI (i:Nat) (h:i < 9223372036854775807):IntKind.i64.wrap ((i:Int)+1) = ((i+1:Nat):Int):=by rw [wrap_id (by omega) (by omega)]; omega
theorem vast_eq (l:List (List Deed)) (hl:l.length≤9223372036854775807):∃ b,taskmilllaw_vastDeeds l = some b:=by
 unfold taskmilllaw_vastDeeds
 have:=loopO_findD (step:=taskmilllaw_vastDeeds_l1 l) (fun k=>((k:Nat):Int)) (fun k=>if 1000 < (ix l ((k:Nat):Int)).length then some true else none) (decide ((1000:Int) < (l.length:Int))) l.length (fun k hk hb=>by
   have hx:¬ 1000 < (ix l (k:Int)).length:=fun h=>by rw [if_pos h] at hb; cases hb
   simp only [taskmilllaw_vastDeeds_l1]
   rw [decide_eq_true (by omega),decide_eq_true (by omega),Bool.and_self,cond_true,cond_true,decide_eq_false (by omega),cond_false,wrapI k (by omega)])
  (fun k r hk hb=>by
   have hx:1000 < (ix l (k:Int)).length:=by
    by_cases h:1000 < (ix l (k:Int)).length
    ·exact h
    ·rw [if_neg h] at hb; cases hb
   rw [if_pos hx] at hb; cases hb
   simp only [taskmilllaw_vastDeeds_l1]
   rw [decide_eq_true (by omega),decide_eq_true (by omega),Bool.and_self,cond_true,cond_true,decide_eq_true (by omega),cond_true]
   rfl)
  (fun _=>by
   simp only [taskmilllaw_vastDeeds_l1]
   rw [decide_eq_false (by omega),cond_false]; rfl)
 exact ⟨_,this⟩
theorem shD_eq (d:Deed) (h:-9223372036854775808≤d.A+1∧d.A+1≤9223372036854775807∨¬ (d.Op = 1∨d.Op = 2)):Deed.mk d.Op (bif ((d.Op == 1) || (d.Op == 2)) then IntKind.i64.wrap (d.A+1) else d.A) = shD d:=by
 by_cases ho:d.Op = 1∨d.Op = 2
 ·have:((d.Op == 1) || (d.Op == 2)) = true:=by simpa using ho
  have h:=h.resolve_right (fun h=>h ho)
  rw [this,cond_true,wrap_id h.1 h.2]
  unfold shD; rw [if_pos ho]
 ·have:((d.Op == 1) || (d.Op == 2)) = false:=by simpa using ho
  rw [this,cond_false,shD_arg ho]
theorem nest_in (funcs:List (List Deed)) (h:Good funcs) (h49:funcs.length≤49) (v:Int) (p:Bool) (i:Nat) (hi:i < funcs.length) (out:List Int) (more:List (List Deed)) (hm:more.length≤100) :
  loopO (taskmilllaw_FrameNests_l1 funcs v p (i:Int) out more) ((0:Int),[]) = some (.inl (v,p,((i+1:Nat):Int),out,more++[(ix funcs (i:Int)).map shD])):=by
 generalize hl:ix funcs (i:Int) = l
 have hmem:l ∈ funcs:=by rw [← hl,ix_get hi]; exact List.getElem_mem hi
 obtain ⟨g1,g2⟩:=h.2.2 l hmem
 have:=loopO_all (step:=taskmilllaw_FrameNests_l1 funcs v p (i:Int) out more) (fun k=>(((k:Nat):Int),(l.take k).map shD)) (some (.inl (v,p,((i+1:Nat):Int),out,more++[l.map shD]))) l.length (fun k hk=>by
   have hd:ix l (k:Int) ∈ l:=by rw [ix_get hk]; exact List.getElem_mem hk
   have hs:=shD_eq (ix l (k:Int)) (by
    by_cases ho:(ix l (k:Int)).Op = 1∨(ix l (k:Int)).Op = 2
    ·have:=deedF_in (g2 _ hd) ho
     exact .inl (by omega)
    ·exact .inr ho)
   have ht:(l.take (k+1)).map shD = (l.take k).map shD++[shD (ix l (k:Int))]:=by
    rw [List.take_succ_eq_append_getElem hk,ix_get hk]; simp
    rw [List.take_succ_eq_append_getElem (by simpa using hk)]; simp
   have hlen:((l.take k).map shD).length = k:=by simp; omega
   have j1:∀ A,taskmilllaw_FrameNests_j1 funcs v p (i:Int) out more (k:Int) ((l.take k).map shD) A = some (.inl (((k+1:Nat):Int),(l.take k).map shD++[Deed.mk (ix l (k:Int)).Op A])):=fun A=>by
    unfold taskmilllaw_FrameNests_j1
    rw [hl,decide_eq_true (by rw [List.length_append,hlen,List.length_singleton]; omega),cond_true,wrapI k (by omega)]
   simp only [taskmilllaw_FrameNests_l1]
   rw [decide_eq_true (show (0:Int)≤(i:Int) by omega),decide_eq_true (show (i:Int) < (funcs.length:Int) by omega),hl,decide_eq_true (show (k:Int) < (l.length:Int) by omega),decide_eq_true (show (0:Int)≤(k:Int) by omega)]
   simp only [Bool.and_self,cond_true]
   rw [j1,j1,ht,← hs]
   cases ((ix l (k:Int)).Op == 1) || ((ix l (k:Int)).Op == 2) <;> rfl)
  (by
   simp only [taskmilllaw_FrameNests_l1]
   rw [decide_eq_true (show (0:Int)≤(i:Int) by omega),decide_eq_true (show (i:Int) < (funcs.length:Int) by omega),hl,decide_eq_false (show ¬ (l.length:Int) < (l.length:Int) by omega),List.take_length]
   simp only [Bool.and_self,cond_true,cond_false]
   rw [decide_eq_true (by rw [List.length_append,List.length_singleton]; omega),cond_true,wrapI i (by omega)])
 exact this
theorem nests_law (funcs:List (List Deed)) (hl:funcs.length≤9223372036854775807):taskmilllaw_FrameNests funcs = some true:=by
 unfold taskmilllaw_FrameNests
 rw [begun,Option.bind_some]
 simp only [Bool.not_true,cond_false]
 obtain ⟨b,hb⟩:=vast_eq funcs hl
 rw [hb,Option.bind_some]
 have hT:taskmilllaw_FrameNests_j3 funcs true = some true:=rfl
 cases b with
 | true=>rw [cond_true,hT]
 | false =>
  rw [cond_false]
  by_cases h49:funcs.length≤49
  ·rw [decide_eq_false (by omega)]
   unfold taskmilllaw_FrameNests_j3
   rw [cond_false]
   by_cases hg:Good funcs
   ·rw [run_good hg,Option.bind_some]
    by_cases hc:(runS funcs).2.2.1.Code = 0
    ·rw [show ((runS funcs).2.2.1.Code != 0) = false from by simp [hc],cond_false]
     have h1:=hg.1
     have:=loopO_all (step:=taskmilllaw_FrameNests_l2 funcs) (fun i=>((runS funcs).1,(runS funcs).2.1,((i:Nat):Int),(runS funcs).2.2.2,[Deed.mk 1 1]::(funcs.take i).map fun l=>l.map shD)) (some true) funcs.length (fun i hi=>by
       simp only [taskmilllaw_FrameNests_l2]
       rw [decide_eq_true (show (i:Int) < (funcs.length:Int) by omega),cond_true]
       rw [nest_in funcs hg h49 _ _ i hi _ _ (by simp; omega)]
       rw [List.take_succ_eq_append_getElem hi,ix_get hi]
       simp
       rw [List.take_succ_eq_append_getElem (by simpa using hi)]
       simp)
      (by
       simp only [taskmilllaw_FrameNests_l2]
       rw [decide_eq_false (show ¬ (funcs.length:Int) < (funcs.length:Int) by omega),cond_false,List.take_length]
       congr 1
       show (frame_Run (shF funcs)).bind _ = _
       rw [run_good (shF_good hg h49),Option.bind_some]
       by_cases hc2:(runS (shF funcs)).2.2.1.Code = 0
       ·rw [show ((runS (shF funcs)).2.2.1.Code != 0) = false from by simp [hc2],cond_false,nest_run hg hc2]
        rw [ints_eq _ _ (by
         unfold runS
         split
         ·simp
         ·have:=callS_le (shF funcs) 100 none 0 5000 []
          unfold LeC at this
          simp only [List.length_nil] at this
          simp only
          omega)]
        simp [taskmilllaw_FrameNests_j2]
       ·rw [show ((runS (shF funcs)).2.2.1.Code != 0) = true from by simpa using hc2,cond_true]
        have:(runS (shF funcs)).2.2.1 = ⟨9,0⟩:=by
         unfold runS at hc2 ⊢
         split
         ·rfl
         ·rename_i hn; rw [if_neg hn] at hc2; exact absurd rfl hc2
        rw [this]
        rfl)
     exact this
    ·rw [show ((runS funcs).2.2.1.Code != 0) = true from by simpa using hc,cond_true]
   ·obtain ⟨e1,e2⟩:=run_bad (by omega) hg
    rw [e1,Option.bind_some]
    simp only
    rw [show ((chk funcs).Code != 0) = true from by simpa using e2,cond_true]
  ·rw [decide_eq_true (by omega),hT]
end Go.Proofs.YteelocnklamegaaDoor
end
